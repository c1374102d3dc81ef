/- The statement IdlBlanks: the walk. -/
import Derived.Test.YtbfhglaaombglaaDoorIBlanks
namespace Go.Proofs.YtbfhglaaombglaaDoor
set_option linter.unusedVariables false
set_option linter.unusedSimpArgs false
open Go.RowKit Go.ChangeMaps Go.Proofs.YtbfhglaaombglaaDoorW.PrintWords Go.Proofs.YtbfhglaaombglaaDoorW.PrintMore Go.Proofs.YtbfhglaaombglaaDoor.PIdlParses

set_option maxRecDepth 100000 in
set_option maxHeartbeats 4000000 in
theorem blanks_any (s : ByteArray) (a : Int) (w : World) (hs : s.size ≤ 140737488351232) (ha : -9223372036854775808 ≤ a ∧ a ≤ 9223372036854775807) (hT : Tabs w) :
    Calls Tryd.prog 4 #[.string s, .int .i64 a] w fun e w' => e = .returned (.bool true) ∧ Below w.heap.size w w' := by
  have HT := Aside0.mk hT
  clear hT
  by_cases hbig : 5000 < s.size
  · go_enter Tryd.func4, Tryd.ntmps4
    go_wp2_with fail
    refine (awake_any w HT.out).mono ?_
    rintro e w3 ⟨rfl, hB3⟩
    go_wp2
    go_ret
    exact ⟨rfl, hB3⟩
  · have hsum : ¬ (9223372036854775807 < s.size + 1) := by omega
    obtain ⟨x, p, er, hP⟩ : ∃ x p er, parseF s = (x, p, er) := ⟨_, _, _, rfl⟩
    have HP := Aside0.mk hP
    clear hP
    obtain ⟨nm, hn⟩ : ∃ y, x.name = y := ⟨_, rfl⟩
    obtain ⟨ms, hm⟩ : ∃ y, x.msgs.map gS = y := ⟨_, rfl⟩
    obtain ⟨es, he⟩ : ∃ y, x.enums.map eS = y := ⟨_, rfl⟩
    obtain ⟨ts, ht⟩ : ∃ y, x.meths.map mS = y := ⟨_, rfl⟩
    obtain ⟨n1, h1⟩ : ∃ y, ms.length = y := ⟨_, rfl⟩
    obtain ⟨n2, h2⟩ : ∃ y, es.length = y := ⟨_, rfl⟩
    obtain ⟨n3, h3⟩ : ∃ y, ts.length = y := ⟨_, rfl⟩
    have HX : Aside0 (x.name = nm ∧ x.msgs.map gS = ms ∧ x.enums.map eS = es ∧ x.meths.map mS = ts ∧ ms.length = n1 ∧ es.length = n2 ∧ ts.length = n3) := ⟨hn, hm, he, ht, h1, h2, h3⟩
    clear hn hm he ht h1 h2 h3
    go_enter Tryd.func4, Tryd.ntmps4
    go_wp2_with fail
    refine (parse_parts s _ hs HT.out x p er HP nm ms es ts n1 n2 n3 HX).mono ?_
    rintro e w1 ⟨A1, k1, A2, k2, A3, k3, rfl, HC1, HC2, HC3, HB1⟩
    have hbx : Below w1.heap.size w1 (w1.alloc (.cells #[.string nm, .slice A1 n1 k1, .slice A2 n2 k2, .slice A3 n3 k3] 27)) := (Below.refl _ _).alloc (Nat.le_refl _) _
    have hk9 := heap_alloc_new w1 (.cells #[.string nm, .slice A1 n1 k1, .slice A2 n2 k2, .slice A3 n3 k3] 27)
    have hgb : w1.heap.size < (w1.alloc (.cells #[.string nm, .slice A1 n1 k1, .slice A2 n2 k2, .slice A3 n3 k3] 27)).heap.size := blk_lt hk9
    have HB2 := Aside0.mk (HB1.out.trans (hbx.mono HB1.out.size))
    have D1 := Aside0.mk (And.intro HC1.out.1 (Kd.C_below HC1.out.2 hbx))
    have D2 := Aside0.mk (And.intro HC2.out.1 (Kd.C_below HC2.out.2 hbx))
    have D3 := Aside0.mk (And.intro HC3.out.1 (Kd.C_below HC3.out.2 hbx))
    clear hbx HB1 HC1 HC2 HC3
    go_upto_region 4 with fail
    change Code.wp _ _ _ _ (w1.alloc (.cells #[.string nm, .slice A1 n1 k1, .slice A2 n2 k2, .slice A3 n3 k3] 27))
    obtain ⟨gx, hgx⟩ : ∃ x, w1.heap.size = x := ⟨_, rfl⟩
    obtain ⟨w2, hw2⟩ : ∃ x, w1.alloc (.cells #[.string nm, .slice A1 n1 k1, .slice A2 n2 k2, .slice A3 n3 k3] 27) = x := ⟨_, rfl⟩
    rw [hgx] at hk9 hgb
    rw [hw2] at hk9 hgb HB2 D1 D2 D3 ⊢
    simp only [hgx]
    clear hw2 hgx
    have HK := Aside0.mk hk9
    have HG := Aside0.mk hgb
    clear hk9 hgb
    go_wp2_with fail
    refine (place_any a (s.size + 1) w2 (by omega) (by omega)).mono ?_
    rintro e w3 ⟨k0, rfl, hk0, rfl⟩
    have hk1 : k0 ≤ s.size := by omega
    clear hk0
    go_upto_block 0 with fail
    go_cut [8] (fun u wc => ∃ j : Nat, u = .int .i64 (j : Int) ∧ j ≤ s.size ∧ (j = 0 ∨ signB (bt8 s (j - 1)) = true) ∧ wc = w2)
    case first =>
      go_wp2_with fail
      go_loopw [8] (fun u wr => ∃ j : Nat, u = .int .i64 (j : Int) ∧ j ≤ s.size ∧ wr = w2) (fun u _ => (intOf u).toNat)
      case atStart => exact ⟨k0, rfl, hk1, rfl⟩
      case round =>
        obtain ⟨j, rfl, hj, rfl⟩ := hrel
        by_cases hj0 : j = 0
        · subst hj0
          go_wp2_with fail
          go_meet
          case rel => exact ⟨0, rfl, by omega, .inl rfl, rfl⟩
        · have hj1 : (0 : Int) < (j : Int) := by omega
          have hjl : j - 1 < s.size := by omega
          have e9 := bt8_at s (j - 1) hjl
          by_cases c1 : ((s[j - 1]'hjl).toNat : Int) = 59
          · have hb : bt8 s (j - 1) = 59 := by omega
            clear e9
            go_wp2_with fail
            go_meet
            case rel => exact ⟨j, rfl, hj, .inr (by rw [hb]; rfl), rfl⟩
          · by_cases c2 : ((s[j - 1]'hjl).toNat : Int) = 123
            · have hb : bt8 s (j - 1) = 123 := by omega
              clear e9
              go_wp2_with fail
              go_meet
              case rel => exact ⟨j, rfl, hj, .inr (by rw [hb]; rfl), rfl⟩
            · by_cases c3 : ((s[j - 1]'hjl).toNat : Int) = 125
              · have hb : bt8 s (j - 1) = 125 := by omega
                clear e9
                go_wp2_with fail
                go_meet
                case rel => exact ⟨j, rfl, hj, .inr (by rw [hb]; rfl), rfl⟩
              · clear e9
                have d1 : (((s[j - 1]'hjl).toNat : Int) != 59) = true := bne_iff_ne.2 c1
                have d2 : (((s[j - 1]'hjl).toNat : Int) != 123) = true := bne_iff_ne.2 c2
                have d3 : (((s[j - 1]'hjl).toNat : Int) != 125) = true := bne_iff_ne.2 c3
                go_wp2_with fail
                go_roundw
                case rel => exact ⟨j - 1, by rw [show ((j - 1 : Nat) : Int) = (j : Int) - 1 by omega], by omega, trivial⟩
                case measure => simp [intOf]; omega
    case rest =>
      obtain ⟨j, rfl, hj, hsg, rfl⟩ := hcut
      by_cases he : er = 0
      · subst he
        by_cases hj0 : j = 0
        · subst hj0
          go_wp2_with fail
          refine (awake_any _ (tabs_below HT.out HB2.out)).mono ?_
          rintro e w5 ⟨rfl, hB5⟩
          have HB6 := Aside0.mk (HB2.out.trans (hB5.mono HB2.out.size))
          clear hB5
          go_wp2
          go_ret
          exact ⟨rfl, HB6.out⟩
        · have hj1 : ¬ (j : Int) = 0 := by omega
          go_wp2_with fail
          go_loopw [9] (fun u wr => ∃ i : Nat, u = .int .i64 (i : Int) ∧ i ≤ j ∧ Aside0 (∀ q, q < i → bt8 s q ≠ 47) ∧ wr = wc) (fun u _ => j - (intOf u).toNat)
          case atStart => exact ⟨0, rfl, by omega, ⟨fun q hq => absurd hq (by omega)⟩, rfl⟩
          case round =>
            obtain ⟨i, rfl, hi, H47, rfl⟩ := hrel
            by_cases hij : i < j
            · have hil : i < s.size := by omega
              have hlt : (i : Int) < (j : Int) := by omega
              have e9 := bt8_at s i hil
              by_cases c1 : ((s[i]'hil).toNat : Int) = 47
              · clear e9
                go_wp2_with fail
                refine (awake_any _ (tabs_below HT.out HB2.out)).mono ?_
                rintro e w5 ⟨rfl, hB5⟩
                have HB6 := Aside0.mk (HB2.out.trans (hB5.mono HB2.out.size))
                clear hB5
                go_wp2
                go_ret
                exact ⟨rfl, HB6.out⟩
              · have H48 : Aside0 (∀ q, q < i + 1 → bt8 s q ≠ 47) := ⟨fun q hq => by
                  by_cases hqi : q = i
                  · subst hqi; omega
                  · exact H47.out q (by omega)⟩
                have d1 : (((s[i]'hil).toNat : Int) == 47) = false := beq_eq_false_iff_ne.2 c1
                clear e9
                go_wp2_with fail
                go_roundw
                case rel => exact ⟨i + 1, by go_num, by omega, H48, trivial⟩
                case measure => simp [intOf]; omega
            · have hije : i = j := by omega
              subst hije
              have hlt : ¬ (i : Int) < (i : Int) := by omega
              go_upto_region 14 with fail
              have has2 : (i : Int) ≤ (s.size : Int) := by omega
              have HB3 := Aside0.mk HB2.out.drew
              have HPB : Aside0 (parseF (s.extract 0 i ++ hopS ++ s.extract i s.size) = (x, 0, 0)) := ⟨blank_parse s i (by omega) hj (by omega) (hsg.resolve_left hj0) H47.out x p HP.out⟩
              obtain ⟨t1, ht1⟩ : ∃ t, s.extract 0 i = t := ⟨_, rfl⟩
              obtain ⟨t2, ht2⟩ : ∃ t, s.extract i s.size = t := ⟨_, rfl⟩
              obtain ⟨u1, hu1⟩ : ∃ u, t1 ++ (⟨#[32, 47, 47, 32, 104, 111, 112, 10, 10]⟩ : ByteArray) = u := ⟨_, rfl⟩
              obtain ⟨u2, hu2⟩ : ∃ u, u1 ++ t2 = u := ⟨_, rfl⟩
              have hz1 : t1.size = i := by rw [← ht1]; exact ex_size _ _ _ hj
              have hz2 : t2.size ≤ 5000 := by rw [← ht2, ex_size _ _ _ (Nat.le_refl _)]; omega
              have hz3 : u1.size ≤ 5009 := by
                have : (⟨#[32, 47, 47, 32, 104, 111, 112, 10, 10]⟩ : ByteArray).size = 9 := rfl
                rw [← hu1, ByteArray.size_append]; omega
              have hz4 : u2.size ≤ 10009 := by rw [← hu2, ByteArray.size_append]; omega
              have hs1 : ¬ (9223372036854775807 < t1.size + 9) := by omega
              have hs1' : ¬ (9223372036854775807 < t1.size + (⟨#[32, 47, 47, 32, 104, 111, 112, 10, 10]⟩ : ByteArray).size) := by
                have : (⟨#[32, 47, 47, 32, 104, 111, 112, 10, 10]⟩ : ByteArray).size = 9 := rfl
                omega
              have hs3 : ¬ (9223372036854775807 < i + 9) := by omega
              have hs2 : ¬ (9223372036854775807 < u1.size + t2.size) := by omega
              rw [ht1, ht2, show t1 ++ hopS ++ t2 = u2 from by rw [← hu2, ← hu1]; rfl] at HPB
              clear H47 hsg
              have HS := Aside0.mk (short_of (ms := ms) (es := es) (ts := ts) (by rw [HX.out.2.2.2.2.1]; exact D1.out.2) (by rw [HX.out.2.2.2.2.2.1]; exact D2.out.2) (by rw [HX.out.2.2.2.2.2.2]; exact D3.out.2))
              obtain ⟨kk, hkk⟩ := same_refl nm ms es ts HS.out
              have HKK := Aside0.mk hkk
              clear hkk
              have hbz : Below wr.heap.size wr (wr.alloc (.cells #[.string ⟨#[]⟩, .slice none 0 0, .slice none 0 0, .slice none 0 0] 27)).drew := ((Below.refl _ _).alloc (Nat.le_refl _) _).drew
              have HKZ : Aside0 ((wr.alloc (.cells #[.string ⟨#[]⟩, .slice none 0 0, .slice none 0 0, .slice none 0 0] 27)).drew.heap[wr.heap.size]? = some (.cells #[.string ⟨#[]⟩, .slice none 0 0, .slice none 0 0, .slice none 0 0] 27 (0, 0))) := ⟨heap_alloc_new wr (.cells #[.string ⟨#[]⟩, .slice none 0 0, .slice none 0 0, .slice none 0 0] 27)⟩
              have HBZ := Aside0.mk hbz
              have HBZ3 := Aside0.mk (HB2.out.trans (hbz.mono HB2.out.size))
              clear hbz
              go_region_law
                (first
                  | (go_simp; go_at_call 10; refine (parse_parts_all u2 wr.drew (by omega) (tabs_below HT.out HB3.out) x 0 0 HPB nm ms es ts n1 n2 n3 HX).mono ?_; rintro e w5 ⟨B1, l1, B2, l2, B3, l3, rfl, E, HB5⟩; go_simp)
                  | (go_simp; go_at_call 10; refine (parse_parts_all u2 (wr.alloc (.cells #[.string ⟨#[]⟩, .slice none 0 0, .slice none 0 0, .slice none 0 0] 27)).drew (by omega) (tabs_below HT.out HBZ3.out) x 0 0 HPB nm ms es ts n1 n2 n3 HX).mono ?_; rintro e w6 ⟨B1, l1, B2, l2, B3, l3, rfl, E, HB6⟩; have hk6 := (HB6.out.block _ (blk_lt HKZ.out)).trans HKZ.out; have z0 : w6.cell? ⟨wr.heap.size, 0, none⟩ = some (.string ⟨#[]⟩) := blk_cell hk6 0; have z1 : w6.cell? ⟨wr.heap.size, 1, none⟩ = some (.slice none 0 0) := blk_cell hk6 1; have z2 : w6.cell? ⟨wr.heap.size, 2, none⟩ = some (.slice none 0 0) := blk_cell hk6 2; have z3 : w6.cell? ⟨wr.heap.size, 3, none⟩ = some (.slice none 0 0) := blk_cell hk6 3; have hfz := fun i => blk_frozen hk6 i; have HK6 := Aside0.mk hk6; clear hk6; go_simp))
              · have hb7 : Below wr.heap.size wr w5 := (Below.refl wr.heap.size wr).drew.trans (HB5.out.mono (Nat.le_refl _))
                have hbx : Below w5.heap.size w5 (w5.alloc (.cells #[.string nm, .slice B1 n1 l1, .slice B2 n2 l2, .slice B3 n3 l3] 27)) := (Below.refl _ _).alloc (Nat.le_refl _) _
                have hb8 := hb7.trans (hbx.mono hb7.size)
                have hky := heap_alloc_new w5 (.cells #[.string nm, .slice B1 n1 l1, .slice B2 n2 l2, .slice B3 n3 l3] 27)
                have HJ := E.out _ ((FrS.refl w5).below hbx)
                go_upto_region 15 with fail
                change Code.wp _ _ _ _ (w5.alloc (.cells #[.string nm, .slice B1 n1 l1, .slice B2 n2 l2, .slice B3 n3 l3] 27))
                obtain ⟨gz, hgz⟩ : ∃ x, w5.heap.size = x := ⟨_, rfl⟩
                obtain ⟨wz, hwz⟩ : ∃ x, w5.alloc (.cells #[.string nm, .slice B1 n1 l1, .slice B2 n2 l2, .slice B3 n3 l3] 27) = x := ⟨_, rfl⟩
                rw [hgz] at hky
                simp only [hgz]
                clear hgz hbx hb7
                rw [hwz] at hb8 hky HJ ⊢
                clear hwz
                have HB8 := Aside0.mk (HB2.out.trans (hb8.mono HB2.out.size))
                have G1 := Aside0.mk (Kd.C_below D1.out.2 hb8)
                have G2 := Aside0.mk (Kd.C_below D2.out.2 hb8)
                have G3 := Aside0.mk (Kd.C_below D3.out.2 hb8)
                have hkx := (hb8.block _ HG.out).trans HK.out
                obtain ⟨⟨m1, J1⟩, ⟨m2, J2⟩, ⟨m3, J3⟩⟩ := HJ
                have JJ := Aside0.mk (And.intro J1 (And.intro J2 J3))
                obtain ⟨_, _, _, _, q1, q2, q3⟩ := HX.out
                subst q1
                subst q2
                subst q3
                have o1 := D1.out.1
                have o2 := D2.out.1
                have o3 := D3.out.1
                have y0 : wz.cell? ⟨gx, 0, none⟩ = some (.string nm) := blk_cell hkx 0
                have y1 : wz.cell? ⟨gx, 1, none⟩ = some (.slice A1 ms.length k1) := blk_cell hkx 1
                have y2 : wz.cell? ⟨gx, 2, none⟩ = some (.slice A2 es.length k2) := blk_cell hkx 2
                have y3 : wz.cell? ⟨gx, 3, none⟩ = some (.slice A3 ts.length k3) := blk_cell hkx 3
                have x0 : wz.cell? ⟨gz, 0, none⟩ = some (.string nm) := blk_cell hky 0
                have x1 : wz.cell? ⟨gz, 1, none⟩ = some (.slice B1 ms.length l1) := blk_cell hky 1
                have x2 : wz.cell? ⟨gz, 2, none⟩ = some (.slice B2 es.length l2) := blk_cell hky 2
                have x3 : wz.cell? ⟨gz, 3, none⟩ = some (.slice B3 ts.length l3) := blk_cell hky 3
                clear hb8 hky hkx J1 J2 J3
                go_wp2_with fail
                refine (concordatlaw00_SameSchemas.calls kk nm A1 k1 ms A2 k2 es A3 k3 ts nm B1 l1 ms B2 l2 es B3 l3 ts true wz G1.out o1 G2.out o2 G3.out o3 JJ.out.1 m1 JJ.out.2.1 m2 JJ.out.2.2 m3 HKK.out).mono ?_
                rintro e w7 ⟨rfl, hB7⟩
                have HB9 := Aside0.mk (HB8.out.trans (hB7.mono HB8.out.size))
                clear hB7 y0 y1 y2 y3 x0 x1 x2 x3
                go_wp2_with fail
                refine (awake_any _ (tabs_below HT.out HB9.out)).mono ?_
                rintro e w8 ⟨rfl, hB8⟩
                have HBA := Aside0.mk (HB9.out.trans (hB8.mono HB9.out.size))
                clear hB8
                go_wp2
                go_ret
                exact ⟨rfl, HBA.out⟩
              · have hb7 : Below wr.heap.size wr w6 := HBZ.out.trans (HB6.out.mono HBZ.out.size)
                have hb8 := put4_below hb7 (Nat.le_refl _) (.string nm) (.slice B1 n1 l1) (.slice B2 n2 l2) (.slice B3 n3 l3)
                have hky := put4_blk HK6.out (.string nm) (.slice B1 n1 l1) (.slice B2 n2 l2) (.slice B3 n3 l3)
                have HJ := E.out (put4 w6 wr.heap.size (.string nm) (.slice B1 n1 l1) (.slice B2 n2 l2) (.slice B3 n3 l3)) (fun k c t hk ht => (put4_far _ _ _ _ (fun e9 => by rw [e9, HK6.out] at hk; injection hk with hk; injection hk with _ hk; exact ht hk.symm)).trans hk)
                clear z0 z1 z2 z3 hfz
                go_upto_region 15 with fail
                change Code.wp _ _ _ _ (put4 w6 wr.heap.size (.string nm) (.slice B1 n1 l1) (.slice B2 n2 l2) (.slice B3 n3 l3))
                obtain ⟨wz, hwz⟩ : ∃ x, put4 w6 wr.heap.size (.string nm) (.slice B1 n1 l1) (.slice B2 n2 l2) (.slice B3 n3 l3) = x := ⟨_, rfl⟩
                rw [hwz] at hb8 hky HJ ⊢
                clear hwz
                obtain ⟨gz, hgz⟩ : ∃ x, wr.heap.size = x := ⟨_, rfl⟩
                rw [hgz] at hky
                simp only [hgz]
                clear hgz hb7
                have HB8 := Aside0.mk (HB2.out.trans (hb8.mono HB2.out.size))
                have G1 := Aside0.mk (Kd.C_below D1.out.2 hb8)
                have G2 := Aside0.mk (Kd.C_below D2.out.2 hb8)
                have G3 := Aside0.mk (Kd.C_below D3.out.2 hb8)
                have hkx := (hb8.block _ HG.out).trans HK.out
                obtain ⟨⟨m1, J1⟩, ⟨m2, J2⟩, ⟨m3, J3⟩⟩ := HJ
                have JJ := Aside0.mk (And.intro J1 (And.intro J2 J3))
                obtain ⟨_, _, _, _, q1, q2, q3⟩ := HX.out
                subst q1
                subst q2
                subst q3
                have o1 := D1.out.1
                have o2 := D2.out.1
                have o3 := D3.out.1
                have y0 : wz.cell? ⟨gx, 0, none⟩ = some (.string nm) := blk_cell hkx 0
                have y1 : wz.cell? ⟨gx, 1, none⟩ = some (.slice A1 ms.length k1) := blk_cell hkx 1
                have y2 : wz.cell? ⟨gx, 2, none⟩ = some (.slice A2 es.length k2) := blk_cell hkx 2
                have y3 : wz.cell? ⟨gx, 3, none⟩ = some (.slice A3 ts.length k3) := blk_cell hkx 3
                have x0 : wz.cell? ⟨gz, 0, none⟩ = some (.string nm) := blk_cell hky 0
                have x1 : wz.cell? ⟨gz, 1, none⟩ = some (.slice B1 ms.length l1) := blk_cell hky 1
                have x2 : wz.cell? ⟨gz, 2, none⟩ = some (.slice B2 es.length l2) := blk_cell hky 2
                have x3 : wz.cell? ⟨gz, 3, none⟩ = some (.slice B3 ts.length l3) := blk_cell hky 3
                clear hb8 hky hkx J1 J2 J3
                go_wp2_with fail
                refine (concordatlaw00_SameSchemas.calls kk nm A1 k1 ms A2 k2 es A3 k3 ts nm B1 l1 ms B2 l2 es B3 l3 ts true wz G1.out o1 G2.out o2 G3.out o3 JJ.out.1 m1 JJ.out.2.1 m2 JJ.out.2.2 m3 HKK.out).mono ?_
                rintro e w7 ⟨rfl, hB7⟩
                have HB9 := Aside0.mk (HB8.out.trans (hB7.mono HB8.out.size))
                clear hB7 y0 y1 y2 y3 x0 x1 x2 x3
                go_wp2_with fail
                refine (awake_any _ (tabs_below HT.out HB9.out)).mono ?_
                rintro e w8 ⟨rfl, hB8⟩
                have HBA := Aside0.mk (HB9.out.trans (hB8.mono HB9.out.size))
                clear hB8
                go_wp2
                go_ret
                exact ⟨rfl, HBA.out⟩
      · have he1 : ¬ (er : Int) = 0 := by omega
        have he2 : ((er : Int) != 0) = true := by rw [bne_iff_ne]; exact he1
        go_wp2_with fail
        refine (awake_any _ (tabs_below HT.out HB2.out)).mono ?_
        rintro e w5 ⟨rfl, hB5⟩
        have HB6 := Aside0.mk (HB2.out.trans (hB5.mono HB2.out.size))
        clear hB5
        go_wp2
        go_ret
        exact ⟨rfl, HB6.out⟩
end Go.Proofs.YtbfhglaaombglaaDoor
