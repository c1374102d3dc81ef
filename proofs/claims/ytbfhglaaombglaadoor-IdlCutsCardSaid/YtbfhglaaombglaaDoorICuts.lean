/- The statement IdlCuts. -/
import Derived.Test.YtbfhglaaombglaaDoorICutPure
import Derived.Test.YtbfhglaaombglaaDoorIgE
import Derived.Test.YtbfhglaaombglaaDoorIgB
import Derived.Test.YtbfhglaaombglaaDoorPIdlParsesx12
namespace Go.Proofs.YtbfhglaaombglaaDoor
set_option linter.unusedVariables false
set_option linter.unusedSimpArgs false
open Go.RowKit Go.ChangeMaps Go.Proofs.YtbfhglaaombglaaDoorW.PrintWords Go.Proofs.YtbfhglaaombglaaDoorW.PrintMore Go.Proofs.YtbfhglaaombglaaDoor.PIdlParses

theorem same_nil : concordatlaw00_SameSchemas.f 8 E0 [] [] [] ⟨#[]⟩ [] [] [] = some true := by kernel_rfl
set_option maxRecDepth 100000 in
set_option maxHeartbeats 2000000 in
theorem cuts_any (s : ByteArray) (a : Int) (w : World) (hs : s.size ≤ 140737488351232) (ha : -9223372036854775808 ≤ a ∧ a ≤ 9223372036854775807) (hT : Tabs w) :
    Calls Tryd.prog 5 #[.string s, .int .i64 a] w fun e w' => e = .returned (.bool true) ∧ Below w.heap.size w w' := by
  have HT := Aside0.mk hT
  clear hT
  by_cases hbig : 5000 < s.size
  · go_enter Tryd.func5, Tryd.ntmps5
    go_wp2_with fail
    refine (awake_any w HT.out).mono ?_
    rintro e w3 ⟨rfl, hB3⟩
    go_wp2
    go_ret
    exact ⟨rfl, hB3⟩
  · have hsum : ¬ (9223372036854775807 < s.size + 1) := by omega
    go_enter Tryd.func5, Tryd.ntmps5
    go_wp2_with fail
    refine (place_any a (s.size + 1) w (by omega) (by omega)).mono ?_
    rintro e w1 ⟨k, rfl, hk, rfl⟩
    have hk1 : k ≤ s.size := by omega
    go_wp2_with fail
    obtain ⟨t, ht⟩ : ∃ t, s.extract 0 k = t := ⟨_, rfl⟩
    have htk : t.size = k := by rw [← ht, ByteArray.size_extract]; omega
    simp only [ht]
    obtain ⟨x, p, er, hP⟩ : ∃ x p er, parseF t = (x, p, er) := ⟨_, _, _, rfl⟩
    have HP := Aside0.mk hP
    rcases cut_parse t (by omega) x p er hP with ⟨rfl, rfl, hnm⟩ | ⟨her, hpk, rfl⟩
    · clear hP
      obtain ⟨nm, hn⟩ : ∃ y, x.name = y := ⟨_, rfl⟩
      obtain ⟨n1, hn1⟩ : ∃ y, (x.msgs.map gS).length = y := ⟨_, rfl⟩
      obtain ⟨n2, hn2⟩ : ∃ y, (x.enums.map eS).length = y := ⟨_, rfl⟩
      obtain ⟨n3, hn3⟩ : ∃ y, (x.meths.map mS).length = y := ⟨_, rfl⟩
      rw [hn] at hnm
      have hne : nm.toList.isEmpty = false := by
        rw [ByteArray.toList_eq, List.isEmpty_eq_false_iff]
        intro h9
        exact hnm (ByteArray.ext (Array.toList_inj.1 h9))
      refine (parse_parts t _ (by omega) HT.out x 0 0 HP nm _ _ _ n1 n2 n3 ⟨⟨hn, rfl, rfl, rfl, hn1, hn2, hn3⟩⟩).mono ?_
      clear hn1 hn2 hn3
      rintro e w2 ⟨A1, k1, A2, k2, A3, k3, rfl, HC1, HC2, HC3, HB3⟩
      have hbx : Below w2.heap.size w2 (w2.alloc (.cells #[.string nm, .slice A1 n1 k1, .slice A2 n2 k2, .slice A3 n3 k3] 27)) := (Below.refl _ _).alloc (Nat.le_refl _) _
      have hk9 := heap_alloc_new w2 (.cells #[.string nm, .slice A1 n1 k1, .slice A2 n2 k2, .slice A3 n3 k3] 27)
      have HB4 := Aside0.mk (HB3.out.trans (hbx.mono HB3.out.size))
      have y0 : (w2.alloc (.cells #[.string nm, .slice A1 n1 k1, .slice A2 n2 k2, .slice A3 n3 k3] 27)).cell? ⟨w2.heap.size, 0, none⟩ = some (.string nm) := blk_cell hk9 0
      clear hbx hk9 HB3
      go_wp2_with fail
      refine (awake_any _ (tabs_below HT.out HB4.out)).mono ?_
      rintro e w3 ⟨rfl, hB3⟩
      have HB5 := Aside0.mk (HB4.out.trans (hB3.mono HB4.out.size))
      clear hB3
      go_wp2
      go_ret
      exact ⟨rfl, HB5.out⟩
    · have h5000 : t.size ≤ 5000 := by omega
      clear hP
      refine (parse_parts t _ (by omega) HT.out Sc.nil p er HP E0 [] [] [] 0 0 0 ⟨⟨rfl, rfl, rfl, rfl, rfl, rfl, rfl⟩⟩).mono ?_
      rintro e w2 ⟨A1, k1, A2, k2, A3, k3, rfl, HC1, HC2, HC3, HB3⟩
      have hbx : Below w2.heap.size w2 (w2.alloc (.cells #[.string E0, .slice A1 0 k1, .slice A2 0 k2, .slice A3 0 k3] 27)) := (Below.refl _ _).alloc (Nat.le_refl _) _
      have hk9 := heap_alloc_new w2 (.cells #[.string E0, .slice A1 0 k1, .slice A2 0 k2, .slice A3 0 k3] 27)
      have HB4 := Aside0.mk (HB3.out.trans (hbx.mono HB3.out.size))
      have hc1 := Kd.C_below HC1.out.2 hbx
      have hc2 := Kd.C_below HC2.out.2 hbx
      have hc3 := Kd.C_below HC3.out.2 hbx
      have D1 := Aside0.mk hc1
      have D2 := Aside0.mk hc2
      have D3 := Aside0.mk hc3
      clear hbx HB3 HC1 HC2 HC3 hc1 hc2 hc3
      go_upto_region 5 with fail
      change Code.wp _ _ _ _ (w2.alloc (.cells #[.string E0, .slice A1 0 k1, .slice A2 0 k2, .slice A3 0 k3] 27))
      obtain ⟨gx, hgx⟩ : ∃ x, w2.heap.size = x := ⟨_, rfl⟩
      obtain ⟨w3, hw3⟩ : ∃ x, w2.alloc (.cells #[.string E0, .slice A1 0 k1, .slice A2 0 k2, .slice A3 0 k3] 27) = x := ⟨_, rfl⟩
      rw [hgx] at hk9
      rw [hw3] at hk9 HB4 D1 D2 D3 ⊢
      simp only [hgx]
      clear hw3 hgx
      have y0 : w3.cell? ⟨gx, 0, none⟩ = some (.string E0) := blk_cell hk9 0
      have y1 : w3.cell? ⟨gx, 1, none⟩ = some (.slice A1 0 k1) := blk_cell hk9 1
      have y2 : w3.cell? ⟨gx, 2, none⟩ = some (.slice A2 0 k2) := blk_cell hk9 2
      have y3 : w3.cell? ⟨gx, 3, none⟩ = some (.slice A3 0 k3) := blk_cell hk9 3
      have hp1 : decide ((p : Int) ≤ (k : Int)) = true := decide_eq_true (by omega)
      have hp2 : (p : Int) ≤ (k : Int) := by omega
      have hp0 : 0 ≤ (p : Int) := by omega
      clear hk9
      rcases her with rfl | rfl
      all_goals
        go_wp2_with fail
        refine (concordatlaw00_SameSchemas.calls 8 E0 A1 k1 [] A2 k2 [] A3 k3 [] ⟨#[]⟩ none 0 [] none 0 [] none 0 [] true w3 D1.out (Nat.zero_le _) D2.out (Nat.zero_le _) D3.out (Nat.zero_le _) ⟨rfl, by decide, fun h => absurd h (by decide)⟩ (Nat.le_refl _) ⟨rfl, by decide, fun h => absurd h (by decide)⟩ (Nat.le_refl _) ⟨rfl, by decide, fun h => absurd h (by decide)⟩ (Nat.le_refl _) same_nil).mono ?_
        rintro e w4 ⟨rfl, hB4⟩
        have HB5 := Aside0.mk (HB4.out.trans (hB4.mono HB4.out.size))
        clear hB4 y0 y1 y2 y3
        go_wp2_with fail
        refine (awake_any _ (tabs_below HT.out HB5.out)).mono ?_
        rintro e w5 ⟨rfl, hB5⟩
        have HB6 := Aside0.mk (HB5.out.trans (hB5.mono HB5.out.size))
        clear hB5
        go_wp2
        go_ret
        exact ⟨rfl, HB6.out⟩
end Go.Proofs.YtbfhglaaombglaaDoor
