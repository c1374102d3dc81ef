/- The law DedupPlays' walk. -/
import Derived.Test.YtmdkgbbgppiaaaaDPlay12
namespace Go.Proofs.Ytmdkgbbgppiaaaa
set_option linter.unusedVariables false
set_option linter.unusedSimpArgs false
open Go.RowKit Go.Proofs.YtmdkgbbgppiaaaaW.PrintWords

/-- A packet's cells. -/
def pkL (p : Pk) : List Value := [.int .i64 p.kind, .int .i64 p.fr, .int .i64 p.to_, .int .i64 p.id, .int .i64 p.ver, .string p.meth, .int .i64 p.err, .string p.body]
/-- A slice of packets, as it is read. -/
def PksIn (w : World) (A : Option Addr) (n : Nat) (ps : List Pk) : Prop := ReadsRow (fun p cs => cs = pkL p) 8 w A n ps ∧ ∀ p ∈ ps, p.body.size ≤ 9223372036854775807
def BoolsIn (w : World) (A : Option Addr) (n : Nat) (bs : List Bool) : Prop := ReadsOf Value.bool false w A n bs

set_option maxRecDepth 100000 in
set_option maxHeartbeats 20000000 in
theorem dedupplays_walk (a0 : Int) (A1 : Option Addr) (c1 : Nat) (xs : List Int) (A2 : Option Addr) (c2 : Nat) (ys : List Int) (A3 : Option Addr) (c3 : Nat) (zs : List Bool) (A4 : Option Addr) (c4 : Nat) (ps : List Pk) (w : World)
    (h0 : -9223372036854775808 ≤ a0 ∧ a0 ≤ 9223372036854775807)
    (hr1 : ReadsInt w .i64 A1 xs.length xs) (hc1 : xs.length ≤ c1) (hl1 : xs.length * 8 ≤ 140737488351232) (hw1 : ∀ x ∈ xs, -9223372036854775808 ≤ x ∧ x ≤ 9223372036854775807)
    (hr2 : ReadsInt w .i64 A2 ys.length ys) (hc2 : ys.length ≤ c2) (hl2 : ys.length * 8 ≤ 140737488351232) (hw2 : ∀ x ∈ ys, -9223372036854775808 ≤ x ∧ x ≤ 9223372036854775807)
    (hr3 : BoolsIn w A3 zs.length zs) (hn3 : zs.length ≤ 9223372036854775807)
    (hr4 : PksIn w A4 ps.length ps) (hn4 : ps.length ≤ 9223372036854775807) :
    Calls Try.prog 7 #[.int .i64 a0, .slice A1 xs.length c1, .slice A2 ys.length c2, .slice A3 zs.length c3, .slice A4 ps.length c4] w fun e w' => e = .returned (.bool true) ∧ Below w.heap.size w w' := by
  have H0 : Aside0 (In64 a0) := ⟨h0⟩
  have HR1 := Aside0.mk hr1
  have HR2 := Aside0.mk hr2
  have HR3 := Aside0.mk hr3
  have HR4 := Aside0.mk hr4
  have HW1 := Aside0.mk hw1
  have HW2 := Aside0.mk hw2
  obtain ⟨s, hs⟩ : ∃ s : Nat, max 1 (min a0 8) = (s : Int) := ⟨(max 1 (min a0 8)).toNat, by omega⟩
  have hs1 : 1 ≤ s := by omega
  have hs8 : s ≤ 8 := by omega
  have HS := Aside0.mk hs
  clear h0 hs hr1 hr2 hr3 hr4 hw1 hw2
  go_enter Try.func7, Try.ntmps7
  go_wp2_with fail
  refine (make_c a0 s _ H0.out HS.out).mono ?_
  rintro e w1 ⟨b, rfl, HC, HB⟩
  go_wp2_with fail
  refine (make_r a0 s _ H0.out HS.out).mono ?_
  rintro e w2 ⟨g, rfl, HR, HB2⟩
  have HBo : Aside0 (Both w2 w.heap.size b g s 0 [] (fun _ => none)) := ⟨⟨HC.out.below HB2.out, ⟨_, _, _, ⟨HR.out.blk, Kd.Q_nil _ _ _ _ _, Kd.Q_nil _ _ _ _ _, Nat.le_trans HB.out.size HR.out.hb, HR.out.ne⟩, Nat.le_refl _, rfl⟩, by simp⟩⟩
  replace HB2 := Aside0.mk (HB.out.trans (HB2.out.mono HB.out.size))
  clear HC HB HR
  go_wp2_with fail
  go_loopw [13] (fun u wr => ∃ i : Nat, u = .int .i64 (i : Int) ∧ i ≤ 80 ∧ Aside0 (∃ R last, Both wr w.heap.size b g s i R last) ∧ Aside0 (Below w.heap.size w wr)) (fun u _ => 80 - (intOf u).toNat)
  case atStart => exact ⟨0, rfl, by omega, ⟨⟨_, _, HBo.out⟩⟩, HB2⟩
  case round =>
    obtain ⟨i, rfl, hi, HX, HBr⟩ := hrel
    clear HBo HB2
    obtain ⟨R, last, HBo⟩ := HX.out
    replace HBo := Aside0.mk HBo
    clear HX
    by_cases hlt : i < xs.length ∧ i < ys.length ∧ i < 80
    · obtain ⟨g1, g2, g3⟩ := hlt
      obtain ⟨⟨b1, o1, z1⟩, rfl, _⟩ := (HR1.out.below HBr.out).at_ (i : Int) (by omega) (by omega)
      obtain ⟨⟨b2, o2, z2⟩, rfl, _⟩ := (HR2.out.below HBr.out).at_ (i : Int) (by omega) (by omega)
      obtain ⟨x, hx⟩ : ∃ x, rd xs (i : Int) = x := ⟨_, rfl⟩
      obtain ⟨y, hy⟩ : ∃ y, rd ys (i : Int) = y := ⟨_, rfl⟩
      have HXI : Aside0 (In64 x) := ⟨by
        rw [← hx]
        have h9 := HW1.out (rd xs (i : Int)) (by simp only [rd, Int.toNat_natCast]; rw [List.getD_eq_getElem?_getD, List.getElem?_eq_getElem g1, Option.getD_some]; exact List.getElem_mem _)
        exact h9⟩
      have HYI : Aside0 (In64 y) := ⟨by
        rw [← hy]
        have h9 := HW2.out (rd ys (i : Int)) (by simp only [rd, Int.toNat_natCast]; rw [List.getD_eq_getElem?_getD, List.getElem?_eq_getElem g2, Option.getD_some]; exact List.getElem_mem _)
        exact h9⟩
      have HXC : Aside0 (∀ W, Below w.heap.size w W → W.cell? ((⟨b1, o1, z1⟩ : Addr).add i) = some (.int .i64 x)) := ⟨fun W hW => by
        obtain ⟨B9, e9, k9⟩ := (HR1.out.below hW).at_ (i : Int) (by omega) (by omega)
        cases e9
        rw [hx] at k9
        exact k9⟩
      have HYC : Aside0 (∀ W, Below w.heap.size w W → W.cell? ((⟨b2, o2, z2⟩ : Addr).add i) = some (.int .i64 y)) := ⟨fun W hW => by
        obtain ⟨B9, e9, k9⟩ := (HR2.out.below hW).at_ (i : Int) (by omega) (by omega)
        cases e9
        rw [hy] at k9
        exact k9⟩
      clear hx hy
      have g1' : (i : Int) < (xs.length : Int) := by omega
      have g2' : (i : Int) < (ys.length : Int) := by omega
      have e1 : decide ((i : Int) < (xs.length : Int)) = true := decide_eq_true g1'
      have e2 : decide ((i : Int) < (ys.length : Int)) = true := decide_eq_true g2'
      have e3 : decide (i < xs.length) = true := decide_eq_true g1
      have e4 : decide (i < ys.length) = true := decide_eq_true g2
      have e5 : decide ((i : Int) < 80) = true := decide_eq_true (by omega)
      go_upto_region 9 with fail
      change Code.wp _ _ _ _ (wr.alloc (.cells (pkC (pkI (i : Int))) 28))
      obtain ⟨gq, hgq⟩ : ∃ gq, wr.heap.size = gq := ⟨_, rfl⟩
      have hbq : Below wr.heap.size wr (wr.alloc (.cells (pkC (pkI (i : Int))) 28)) := (Below.refl _ _).alloc (Nat.le_refl _) _
      have HBq := Aside0.mk (HBr.out.trans (hbq.mono HBr.out.size))
      have HbQ := Aside0.mk hbq
      have HgQ := Aside0.mk (Nat.le_of_eq hgq)
      have HHq := Aside0.mk (HBo.out.below hbq)
      have HQq := Aside0.mk (heap_alloc_new wr (.cells (pkC (pkI (i : Int))) 28))
      have hgB : w.heap.size ≤ gq := by rw [← hgq]; exact HBr.out.size
      obtain ⟨wq, hwq⟩ : ∃ W, wr.alloc (.cells (pkC (pkI (i : Int))) 28) = W := ⟨_, rfl⟩
      rw [hwq] at HBq HHq HQq HbQ ⊢
      simp only [hgq] at HQq ⊢
      clear hwq hgq hbq HBr
      obtain ⟨T, hT⟩ : ∃ T : Bool, (decide (i < ps.length) && decide ((ps.getD i pk0).body.size < 100)) = T := ⟨_, rfl⟩
      have HT := Aside0.mk hT
      clear hT
      go_cut [59] (fun v wd => v = .bool T ∧ wd = wq)
      case first =>
        by_cases hp : i < ps.length
        · have d1 : decide ((i : Int) < (ps.length : Int)) = true := decide_eq_true (by omega)
          have d2 : decide (i < ps.length) = true := decide_eq_true hp
          have d3 : (i : Int) < (ps.length : Int) := by omega
          obtain ⟨ad4, rfl, hc4⟩ := (HR4.out.1.imp_ HBq.out (fun _ _ h => h)).2.2 (by omega)
          obtain ⟨q0, hq0⟩ : ∃ q0, ps[i]? = some q0 := ⟨_, List.getElem?_eq_getElem hp⟩
          obtain ⟨cq, _, rfl, hcc⟩ := hc4 i q0 hq0
          have hbz := HR4.out.2 q0 (List.mem_of_getElem? hq0)
          have k7 := hcc 7 (.string q0.body) rfl
          rw [add_field _ _ _ (by decide)] at k7
          have HTV : Aside0 (decide (q0.body.size < 100) = T) := ⟨by rw [← HT.out, d2, List.getD_eq_getElem?_getD, hq0]; rfl⟩
          clear hcc hc4 hq0
          by_cases hsz : q0.body.size < 100
          · have d4 : decide ((q0.body.size : Int) < 100) = true := decide_eq_true (by omega)
            have d5 : decide (q0.body.size < 100) = true := decide_eq_true hsz
            have HTW : Aside0 (true = T) := ⟨by rw [← HTV.out, d5]⟩
            go_wp2_with fail
            go_meet
            case rel => exact ⟨by rw [← HTW.out], rfl⟩
          · have d4 : decide ((q0.body.size : Int) < 100) = false := decide_eq_false (by omega)
            have d5 : decide (q0.body.size < 100) = false := decide_eq_false hsz
            have HTW : Aside0 (false = T) := ⟨by rw [← HTV.out, d5]⟩
            go_wp2_with fail
            go_meet
            case rel => exact ⟨by rw [← HTW.out], rfl⟩
        · have d1 : decide ((i : Int) < (ps.length : Int)) = false := decide_eq_false (by omega)
          have d2 : decide (i < ps.length) = false := decide_eq_false hp
          have HTW : Aside0 (false = T) := ⟨by rw [← HT.out, d2]; rfl⟩
          go_wp2_with fail
          go_meet
          case rel => exact ⟨by rw [← HTW.out], rfl⟩
      case rest =>
        obtain ⟨rfl, rfl⟩ := hcut
        refine (‹∀ (a : Act) (w : World), Code.wp _ _ _ a w → _›) _ _ ?_
        go_cut [] (fun wd => Aside0 (∃ q, wd.heap[gq]? = some (.cells (pkC q) 28 (0, 0)) ∧ Both wd w.heap.size b g s i R last ∧ Below w.heap.size w wd))
        case first =>
          cases T with
          | true =>
            have hp : i < ps.length := by
              have h9 := HT.out
              rw [Bool.and_eq_true] at h9
              exact of_decide_eq_true h9.1
            have d1 : decide ((i : Int) < (ps.length : Int)) = true := decide_eq_true (by omega)
            have d2 : decide (i < ps.length) = true := decide_eq_true hp
            have d3 : (i : Int) < (ps.length : Int) := by omega
            obtain ⟨ad4, rfl, hc4⟩ := (HR4.out.1.imp_ HBq.out (fun _ _ h => h)).2.2 (by omega)
            obtain ⟨q0, hq0⟩ : ∃ q0, ps[i]? = some q0 := ⟨_, List.getElem?_eq_getElem hp⟩
            obtain ⟨cq, _, rfl, hcc⟩ := hc4 i q0 hq0
            have k0 := hcc 0 (.int .i64 q0.kind) rfl
            rw [Nat.add_zero] at k0
            have k1 := hcc 1 (.int .i64 q0.fr) rfl
            have k2 := hcc 2 (.int .i64 q0.to_) rfl
            have k3 := hcc 3 (.int .i64 q0.id) rfl
            have k4 := hcc 4 (.int .i64 q0.ver) rfl
            have k5 := hcc 5 (.string q0.meth) rfl
            have k6 := hcc 6 (.int .i64 q0.err) rfl
            have k7 := hcc 7 (.string q0.body) rfl
            rw [add_field _ _ _ (by decide)] at k1 k2 k3 k4 k5 k6 k7
            have HQ9 := HQq.out
            have z0 : wc.cell? ⟨gq, 0, none⟩ = some (.int .i64 0) := blk_cell HQ9 0
            have z1 : wc.cell? ⟨gq, 1, none⟩ = some (.int .i64 0) := blk_cell HQ9 1
            have z2 : wc.cell? ⟨gq, 2, none⟩ = some (.int .i64 0) := blk_cell HQ9 2
            have z3 : wc.cell? ⟨gq, 3, none⟩ = some (.int .i64 (i : Int)) := blk_cell HQ9 3
            have z4 : wc.cell? ⟨gq, 4, none⟩ = some (.int .i64 0) := blk_cell HQ9 4
            have z5 : wc.cell? ⟨gq, 5, none⟩ = some (.string ⟨#[]⟩) := blk_cell HQ9 5
            have z6 : wc.cell? ⟨gq, 6, none⟩ = some (.int .i64 0) := blk_cell HQ9 6
            have z7 : wc.cell? ⟨gq, 7, none⟩ = some (.string ⟨#[]⟩) := blk_cell HQ9 7
            have hfz := fun j => blk_frozen HQ9 j
            clear hcc hc4 hq0 HQ9
            go_wp2_with fail
            go_meet
            case rel => exact ⟨q0, put8_blk HQq.out _ _ _ _ _ _ _ _, HBo.out.below (put8_below HbQ.out HgQ.out _ _ _ _ _ _ _ _), put8_below HBq.out hgB _ _ _ _ _ _ _ _⟩
          | false =>
            go_wp2_with fail
            go_meet
            case rel => exact ⟨pkI (i : Int), HQq.out, HHq.out, HBq.out⟩
        case rest =>
          clear HBq HHq HQq HbQ HgQ HT HBo
          obtain ⟨q, hq1, hq2, hq3⟩ := hcut.out
          clear hcut
          obtain ⟨wd, hwd⟩ : ∃ wd, wd = wc := ⟨_, rfl⟩
          subst hwd
          have HQ := Aside0.mk hq1
          have HBo := Aside0.mk hq2
          have HB := Aside0.mk hq3
          clear hq1 hq2 hq3
          -- the second argument: add
          go_upto_region 11 with fail
          obtain ⟨U, hU⟩ : ∃ U : Bool, (decide (i < zs.length) && zs.getD i false) = U := ⟨_, rfl⟩
          have HU := Aside0.mk hU
          clear hU
          go_cut [73] (fun v w9 => v = .bool U ∧ wd = w9)
          case first =>
            by_cases hp : i < zs.length
            · have d1 : decide ((i : Int) < (zs.length : Int)) = true := decide_eq_true (by omega)
              have d2 : decide (i < zs.length) = true := decide_eq_true hp
              have d3 : (i : Int) < (zs.length : Int) := by omega
              obtain ⟨_, _, hr9⟩ := HR3.out
              obtain ⟨ad3, rfl, hc3⟩ := hr9 (by omega)
              have k0 := pw_cell_below HB.out (hc3 i hp)
              obtain ⟨z9, hz9⟩ : ∃ z, zs.getD i false = z := ⟨_, rfl⟩
              rw [hz9] at k0
              have HTW : Aside0 (z9 = U) := ⟨by rw [← HU.out, d2, hz9]; rfl⟩
              clear hc3 hr9 hz9
              go_wp2_with fail
              go_meet
              case rel => exact ⟨by rw [← HTW.out], rfl⟩
            · have d1 : decide ((i : Int) < (zs.length : Int)) = false := decide_eq_false (by omega)
              have d2 : decide (i < zs.length) = false := decide_eq_false hp
              have HTW : Aside0 (false = U) := ⟨by rw [← HU.out, d2]; rfl⟩
              go_wp2_with fail
              go_meet
              case rel => exact ⟨by rw [← HTW.out], rfl⟩
          case rest =>
            obtain ⟨rfl, rfl⟩ := hcut
            refine (‹∀ (a : Act) (w : World), Code.wp _ _ _ a w → _›) _ _ ?_
            go_cut [] (fun w9 => Aside0 (∃ R' last', Both w9 w.heap.size b g s (i + 1) R' last' ∧ Below w.heap.size w w9))
            case first =>
              cases U with
              | true =>
                go_upto_region 12 with fail
                obtain ⟨kind, fr, to_, id, ver, meth, err, body⟩ := q
                go_cut [96] (fun u w9 => u = .bool false ∧ Aside0 (∃ R' last', Both w9 w.heap.size b g s (i + 1) R' last' ∧ Below w.heap.size w w9))
                case first =>
                  refine play_add_to (by rfl) w wd a0 xs.length c1 ys.length c2 b1 o1 z1 b2 o2 z2 b g i gq s R last x y kind fr to_ id ver meth err body hs1 hs8 g3 g1' g2' HBo HB HXI HYI HXC HYC HQ _ _ _ _ _ _ _ _ _ _ _ _ _ _ _ _ _ _ _ _ _ _ _ _ _ _ _ _ _ _ _ _ _ _ _ _ _ _ _ _ _ _ _ _ _ _ _ _ _ _ _ _ _ _ _ _ _ _ _ _ _ _ _ _ _ _ _ _ _ _ _ _ _ _ _ _ _ _ _ _ _ _ _ _ _ _ _ _ _ _ _ _ _ _ _ _ _ _ _ _ _ _ _ _ _ _ _ _ _ _ _ _ _ _ _ _ _ _ _ _ _ _ _ _ _ _ _ _ _ _ _ _ _ _ _ _ _ _ _ _ _ _ _ _ _ _ _ _ _ _ _ _ _ _ _ _ _ _ _ _ _ _ _ _ _ ⟨fun v74 v75 v76 v77 v78 v79 v80 v81 v82 v83 v84 v85 v86 v87 v88 v89 v90 v91 v92 v93 v94 v95 v96 w9 h96 hX => ?_⟩
                  subst h96
                  dsimp only
                  go_wp2
                  go_meet
                  case rel => exact ⟨rfl, hX⟩
                case rest =>
                  obtain ⟨rfl, HX⟩ := hcut
                  go_wp2_with fail
                  go_meet
                  case rel => exact HX
              | false =>
                go_wp2_with fail
                go_meet
                case rel => exact ⟨R, last, HBo.out.more, HB.out⟩
            case rest =>
              clear HBo HB HQ HU
              obtain ⟨R9, L9, hb1, hb2⟩ := hcut.out
              clear hcut
              obtain ⟨w9, hw9⟩ : ∃ w9, w9 = wc := ⟨_, rfl⟩
              subst hw9
              have HBo9 := Aside0.mk hb1
              have HB9 := Aside0.mk hb2
              clear hb1 hb2
              have HSS : Aside0 (∀ W : World, Below w.heap.size w W → W.cell? ((⟨b1, o1, z1⟩ : Addr).add i) = some (.int .i64 x) ∧ W.cell? ((⟨b2, o2, z2⟩ : Addr).add i) = some (.int .i64 y)) := ⟨fun W h1 => ⟨HXC.out W h1, HYC.out W h1⟩⟩
              obtain ⟨p, kk, hlk⟩ : ∃ p kk, lookS R9 L9 x y = (p, kk) := ⟨_, _, rfl⟩
              obtain ⟨p1, p2, p3, p4, p5, p6, p7, p8⟩ := p
              have HLK := Aside0.mk hlk
              clear hlk
              go_upto_region 14 with fail
              have HD9 := Aside0.mk (show Below w9.heap.size w9 w9.drew from (Below.refl _ _).drew)
              have HDA := Aside0.mk (show Below w9.heap.size w9 (w9.alloc (.cells #[.int .i64 0, .int .i64 0, .int .i64 0, .int .i64 0, .int .i64 0, .string ⟨#[]⟩, .int .i64 0, .string ⟨#[]⟩] 28)).drew from ((Below.refl _ _).alloc (Nat.le_refl _) _).drew)
              have HDS := Aside0.mk (lt_alloc w9 (.cells #[.int .i64 0, .int .i64 0, .int .i64 0, .int .i64 0, .int .i64 0, .string ⟨#[]⟩, .int .i64 0, .string ⟨#[]⟩] 28))
              have HDZ : Aside0 ((w9.alloc (.cells #[.int .i64 0, .int .i64 0, .int .i64 0, .int .i64 0, .int .i64 0, .string ⟨#[]⟩, .int .i64 0, .string ⟨#[]⟩] 28)).drew.heap[w9.heap.size]? = some (.cells #[.int .i64 0, .int .i64 0, .int .i64 0, .int .i64 0, .int .i64 0, .string ⟨#[]⟩, .int .i64 0, .string ⟨#[]⟩] 28 (0, 0))) := ⟨heap_alloc_new w9 _⟩
              have HGB := Aside0.mk HB9.out.size
              have HD9w := Aside0.mk (HB9.out.trans (HD9.out.mono HGB.out))
              have HDAw := Aside0.mk (HB9.out.trans (HDA.out.mono HGB.out))
              go_cut [15, 16] (fun va vb wd => ∃ gx, va = .pointer (some ⟨gx, 0, none⟩) ∧ vb = .int .i64 (kk : Int) ∧ Aside0 (wd.heap[gx]? = some (.cells (pkC ⟨p1, p2, p3, p4, p5, p6, p7, p8⟩) 28 (0, 0)) ∧ Both wd w.heap.size b g s (i + 1) R9 L9 ∧ Below w9.heap.size w9 wd))
              case first =>
                go_region_held (fun W => W.cell? ((⟨b1, o1, z1⟩ : Addr).add i) = some (.int .i64 x) ∧ W.cell? ((⟨b2, o2, z2⟩ : Addr).add i) = some (.int .i64 y)) (first | with_reducible exact HSS.out _ HD9w.out | with_reducible exact HSS.out _ HDAw.out | with_reducible exact HSS.out _ HW5.out | with_reducible exact HSS.out _ (HW5.out.alloc HW5s.out _) | with_reducible exact HSS.out _ ((((((((HW5.out.setCell (p := ⟨w9.heap.size, 0, none⟩) HGB.out _).setCell (p := ⟨w9.heap.size, 1, none⟩) HGB.out _).setCell (p := ⟨w9.heap.size, 2, none⟩) HGB.out _).setCell (p := ⟨w9.heap.size, 3, none⟩) HGB.out _).setCell (p := ⟨w9.heap.size, 4, none⟩) HGB.out _).setCell (p := ⟨w9.heap.size, 5, none⟩) HGB.out _).setCell (p := ⟨w9.heap.size, 6, none⟩) HGB.out _).setCell (p := ⟨w9.heap.size, 7, none⟩) HGB.out _))
                  (first
                    | (go_at_call 10; refine (both_look ((w9.alloc (.cells #[.int .i64 0, .int .i64 0, .int .i64 0, .int .i64 0, .int .i64 0, .string ⟨#[]⟩, .int .i64 0, .string ⟨#[]⟩] 28)).drew) w.heap.size b g s (i + 1) R9 L9 ⟨HBo9.out.below HDA.out⟩ x y HXI.out HYI.out ⟨p1, p2, p3, p4, p5, p6, p7, p8⟩ (kk) HLK).mono ?_; rintro e w5 ⟨rfl, HBo5, HB5⟩; unfold pkV; have hs5 := HB5.out.size; have hk5 : w5.heap[w9.heap.size]? = some (.cells #[.int .i64 0, .int .i64 0, .int .i64 0, .int .i64 0, .int .i64 0, .string ⟨#[]⟩, .int .i64 0, .string ⟨#[]⟩] 28 (0, 0)) := (HB5.out.block _ HDS.out).trans HDZ.out; have z0 : w5.cell? ⟨w9.heap.size, 0, none⟩ = some (.int .i64 0) := blk_cell hk5 0; have z1 : w5.cell? ⟨w9.heap.size, 1, none⟩ = some (.int .i64 0) := blk_cell hk5 1; have z2 : w5.cell? ⟨w9.heap.size, 2, none⟩ = some (.int .i64 0) := blk_cell hk5 2; have z3 : w5.cell? ⟨w9.heap.size, 3, none⟩ = some (.int .i64 0) := blk_cell hk5 3; have z4 : w5.cell? ⟨w9.heap.size, 4, none⟩ = some (.int .i64 0) := blk_cell hk5 4; have z5 : w5.cell? ⟨w9.heap.size, 5, none⟩ = some (.string ⟨#[]⟩) := blk_cell hk5 5; have z6 : w5.cell? ⟨w9.heap.size, 6, none⟩ = some (.int .i64 0) := blk_cell hk5 6; have z7 : w5.cell? ⟨w9.heap.size, 7, none⟩ = some (.string ⟨#[]⟩) := blk_cell hk5 7; have hfz := fun j => blk_frozen hk5 j; have HK5 := Aside0.mk hk5; have HW5 := Aside0.mk (HDAw.out.trans (HB5.out.mono (Nat.le_trans HGB.out (Nat.le_of_lt HDS.out)))); have HW5s := Aside0.mk HW5.out.size; clear hk5 hs5)
                    | (go_at_call 10; refine (both_look w9.drew w.heap.size b g s (i + 1) R9 L9 ⟨HBo9.out.below HD9.out⟩ x y HXI.out HYI.out ⟨p1, p2, p3, p4, p5, p6, p7, p8⟩ (kk) HLK).mono ?_; rintro e w5 ⟨rfl, HBo5, HB5⟩; unfold pkV; have HW5 := Aside0.mk (HD9w.out.trans (HB5.out.mono HGB.out)); have HW5s := Aside0.mk HW5.out.size))
                all_goals
                  go_wp2
                  go_meet
                  case rel =>
                    first
                      | (have HB75 := HK5; exact ⟨_, rfl, rfl, ⟨put8_blk HK5.out _ _ _ _ _ _ _ _, HBo9.out.below (put8_below (HDA.out.trans (HB5.out.mono (Nat.le_of_lt HDS.out))) (Nat.le_refl _) _ _ _ _ _ _ _ _), put8_below (HDA.out.trans (HB5.out.mono (Nat.le_of_lt HDS.out))) (Nat.le_refl _) _ _ _ _ _ _ _ _⟩⟩)
                      | exact ⟨_, rfl, rfl, ⟨heap_alloc_new w5 _, HBo5.out.below ((Below.refl _ _).alloc (Nat.le_refl _) _), (HD9.out.trans HB5.out).alloc HB5.out.size _⟩⟩
              case rest =>
                obtain ⟨gx, rfl, rfl, HX⟩ := hcut
                obtain ⟨wa, hwa⟩ : ∃ wa, wa = wc := ⟨_, rfl⟩
                subst hwa
                have HXa := Aside0.mk HX.out.1
                have HBoa := Aside0.mk HX.out.2.1
                have HBa := Aside0.mk (HB9.out.trans (HX.out.2.2.mono HGB.out))
                clear HX HD9 HDA HDS HDZ HGB HD9w HDAw HBo9 HB9
                go_upto_region 15 with fail
                have HD9 := Aside0.mk (show Below wa.heap.size wa wa.drew from (Below.refl _ _).drew)
                have HDA := Aside0.mk (show Below wa.heap.size wa (wa.alloc (.cells #[.int .i64 0, .int .i64 0, .int .i64 0, .int .i64 0, .int .i64 0, .string ⟨#[]⟩, .int .i64 0, .string ⟨#[]⟩] 28)).drew from ((Below.refl _ _).alloc (Nat.le_refl _) _).drew)
                have HDS := Aside0.mk (lt_alloc wa (.cells #[.int .i64 0, .int .i64 0, .int .i64 0, .int .i64 0, .int .i64 0, .string ⟨#[]⟩, .int .i64 0, .string ⟨#[]⟩] 28))
                have HDZ : Aside0 ((wa.alloc (.cells #[.int .i64 0, .int .i64 0, .int .i64 0, .int .i64 0, .int .i64 0, .string ⟨#[]⟩, .int .i64 0, .string ⟨#[]⟩] 28)).drew.heap[wa.heap.size]? = some (.cells #[.int .i64 0, .int .i64 0, .int .i64 0, .int .i64 0, .int .i64 0, .string ⟨#[]⟩, .int .i64 0, .string ⟨#[]⟩] 28 (0, 0))) := ⟨heap_alloc_new wa _⟩
                have HGB := Aside0.mk HBa.out.size
                have HD9w := Aside0.mk (HBa.out.trans (HD9.out.mono HGB.out))
                have HDAw := Aside0.mk (HBa.out.trans (HDA.out.mono HGB.out))
                go_cut [17, 18] (fun va vb wd => ∃ gx, va = .pointer (some ⟨gx, 0, none⟩) ∧ vb = .int .i64 (kk : Int) ∧ Aside0 (wd.heap[gx]? = some (.cells (pkC ⟨p1, p2, p3, p4, p5, p6, p7, p8⟩) 28 (0, 0)) ∧ Both wd w.heap.size b g s (i + 1) R9 L9 ∧ Below wa.heap.size wa wd))
                case first =>
                  go_region_held (fun W => W.cell? ((⟨b1, o1, z1⟩ : Addr).add i) = some (.int .i64 x) ∧ W.cell? ((⟨b2, o2, z2⟩ : Addr).add i) = some (.int .i64 y)) (first | with_reducible exact HSS.out _ HD9w.out | with_reducible exact HSS.out _ HDAw.out | with_reducible exact HSS.out _ HW5.out | with_reducible exact HSS.out _ (HW5.out.alloc HW5s.out _) | with_reducible exact HSS.out _ ((((((((HW5.out.setCell (p := ⟨wa.heap.size, 0, none⟩) HGB.out _).setCell (p := ⟨wa.heap.size, 1, none⟩) HGB.out _).setCell (p := ⟨wa.heap.size, 2, none⟩) HGB.out _).setCell (p := ⟨wa.heap.size, 3, none⟩) HGB.out _).setCell (p := ⟨wa.heap.size, 4, none⟩) HGB.out _).setCell (p := ⟨wa.heap.size, 5, none⟩) HGB.out _).setCell (p := ⟨wa.heap.size, 6, none⟩) HGB.out _).setCell (p := ⟨wa.heap.size, 7, none⟩) HGB.out _))
                    (first
                      | (go_at_call 17; refine (both_rlook ((wa.alloc (.cells #[.int .i64 0, .int .i64 0, .int .i64 0, .int .i64 0, .int .i64 0, .string ⟨#[]⟩, .int .i64 0, .string ⟨#[]⟩] 28)).drew) w.heap.size b g s (i + 1) R9 L9 ⟨HBoa.out.below HDA.out⟩ hs8 (by omega) x y ⟨p1, p2, p3, p4, p5, p6, p7, p8⟩ (kk) HLK).mono ?_; rintro e w5 ⟨rfl, HBo5, HB5⟩; unfold pkV; have hs5 := HB5.out.size; have hk5 : w5.heap[wa.heap.size]? = some (.cells #[.int .i64 0, .int .i64 0, .int .i64 0, .int .i64 0, .int .i64 0, .string ⟨#[]⟩, .int .i64 0, .string ⟨#[]⟩] 28 (0, 0)) := (HB5.out.block _ HDS.out).trans HDZ.out; have z0 : w5.cell? ⟨wa.heap.size, 0, none⟩ = some (.int .i64 0) := blk_cell hk5 0; have z1 : w5.cell? ⟨wa.heap.size, 1, none⟩ = some (.int .i64 0) := blk_cell hk5 1; have z2 : w5.cell? ⟨wa.heap.size, 2, none⟩ = some (.int .i64 0) := blk_cell hk5 2; have z3 : w5.cell? ⟨wa.heap.size, 3, none⟩ = some (.int .i64 0) := blk_cell hk5 3; have z4 : w5.cell? ⟨wa.heap.size, 4, none⟩ = some (.int .i64 0) := blk_cell hk5 4; have z5 : w5.cell? ⟨wa.heap.size, 5, none⟩ = some (.string ⟨#[]⟩) := blk_cell hk5 5; have z6 : w5.cell? ⟨wa.heap.size, 6, none⟩ = some (.int .i64 0) := blk_cell hk5 6; have z7 : w5.cell? ⟨wa.heap.size, 7, none⟩ = some (.string ⟨#[]⟩) := blk_cell hk5 7; have hfz := fun j => blk_frozen hk5 j; have HK5 := Aside0.mk hk5; have HW5 := Aside0.mk (HDAw.out.trans (HB5.out.mono (Nat.le_trans HGB.out (Nat.le_of_lt HDS.out)))); have HW5s := Aside0.mk HW5.out.size; clear hk5 hs5)
                      | (go_at_call 17; refine (both_rlook wa.drew w.heap.size b g s (i + 1) R9 L9 ⟨HBoa.out.below HD9.out⟩ hs8 (by omega) x y ⟨p1, p2, p3, p4, p5, p6, p7, p8⟩ (kk) HLK).mono ?_; rintro e w5 ⟨rfl, HBo5, HB5⟩; unfold pkV; have HW5 := Aside0.mk (HD9w.out.trans (HB5.out.mono HGB.out)); have HW5s := Aside0.mk HW5.out.size))
                  all_goals
                    go_wp2
                    go_meet
                    case rel =>
                      first
                        | (have HB75 := HK5; exact ⟨_, rfl, rfl, ⟨put8_blk HK5.out _ _ _ _ _ _ _ _, HBoa.out.below (put8_below (HDA.out.trans (HB5.out.mono (Nat.le_of_lt HDS.out))) (Nat.le_refl _) _ _ _ _ _ _ _ _), put8_below (HDA.out.trans (HB5.out.mono (Nat.le_of_lt HDS.out))) (Nat.le_refl _) _ _ _ _ _ _ _ _⟩⟩)
                        | exact ⟨_, rfl, rfl, ⟨heap_alloc_new w5 _, HBo5.out.below ((Below.refl _ _).alloc (Nat.le_refl _) _), (HD9.out.trans HB5.out).alloc HB5.out.size _⟩⟩
                case rest =>
                  obtain ⟨gy, rfl, rfl, HX⟩ := hcut
                  obtain ⟨wb, hwb⟩ : ∃ wb, wb = wc := ⟨_, rfl⟩
                  subst hwb
                  have HYb := Aside0.mk HX.out.1
                  have HBob := Aside0.mk HX.out.2.1
                  have HXb : Aside0 (wb.heap[gx]? = some (.cells (pkC ⟨p1, p2, p3, p4, p5, p6, p7, p8⟩) 28 (0, 0))) := ⟨(HX.out.2.2.block _ (blk_lt HXa.out)).trans HXa.out⟩
                  have HBb := Aside0.mk (HBa.out.trans (HX.out.2.2.mono HGB.out))
                  clear HX HD9 HDA HDS HDZ HGB HD9w HDAw HBoa HBa HXa
                  obtain ⟨kx, ky⟩ := HSS.out _ HBb.out
                  obtain ⟨r, hr⟩ : ∃ r, L9 x = r := ⟨_, rfl⟩
                  have HR := Aside0.mk hr
                  clear hr
                  go_wp2_with fail
                  refine (both_last _ w.heap.size b g s (i + 1) R9 L9 HBob x HXI.out r HR).mono ?_
                  rintro e w' ⟨rfl, rfl⟩
                  go_wp2_with fail
                  refine (both_rlast _ w.heap.size b g s (i + 1) R9 L9 HBob (by omega) x r HR).mono ?_
                  rintro e w' ⟨rfl, rfl⟩
                  clear kx ky
                  go_upto_region 18 with fail
                  obtain ⟨A9, c9, hA9⟩ := both_L HBob.out
                  have HDN : Aside0 (∀ k, Below wb.heap.size wb (wb.drewN k)) := ⟨fun k => pw_below_drewN (Below.refl _ _) k⟩
                  have a0 : ∀ k, (wb.drewN k).cell? ⟨gx, 0, none⟩ = some (.int .i64 p1) := fun k => pw_cell_below (HDN.out k) (blk_cell HXb.out 0)
                  have a1 : ∀ k, (wb.drewN k).cell? ⟨gx, 1, none⟩ = some (.int .i64 p2) := fun k => pw_cell_below (HDN.out k) (blk_cell HXb.out 1)
                  have a2 : ∀ k, (wb.drewN k).cell? ⟨gx, 2, none⟩ = some (.int .i64 p3) := fun k => pw_cell_below (HDN.out k) (blk_cell HXb.out 2)
                  have a3 : ∀ k, (wb.drewN k).cell? ⟨gx, 3, none⟩ = some (.int .i64 p4) := fun k => pw_cell_below (HDN.out k) (blk_cell HXb.out 3)
                  have a4 : ∀ k, (wb.drewN k).cell? ⟨gx, 4, none⟩ = some (.int .i64 p5) := fun k => pw_cell_below (HDN.out k) (blk_cell HXb.out 4)
                  have a5 : ∀ k, (wb.drewN k).cell? ⟨gx, 5, none⟩ = some (.string p6) := fun k => pw_cell_below (HDN.out k) (blk_cell HXb.out 5)
                  have a6 : ∀ k, (wb.drewN k).cell? ⟨gx, 6, none⟩ = some (.int .i64 p7) := fun k => pw_cell_below (HDN.out k) (blk_cell HXb.out 6)
                  have a7 : ∀ k, (wb.drewN k).cell? ⟨gx, 7, none⟩ = some (.string p8) := fun k => pw_cell_below (HDN.out k) (blk_cell HXb.out 7)
                  have b0 : ∀ k, (wb.drewN k).cell? ⟨gy, 0, none⟩ = some (.int .i64 p1) := fun k => pw_cell_below (HDN.out k) (blk_cell HYb.out 0)
                  have b1 : ∀ k, (wb.drewN k).cell? ⟨gy, 1, none⟩ = some (.int .i64 p2) := fun k => pw_cell_below (HDN.out k) (blk_cell HYb.out 1)
                  have b2 : ∀ k, (wb.drewN k).cell? ⟨gy, 2, none⟩ = some (.int .i64 p3) := fun k => pw_cell_below (HDN.out k) (blk_cell HYb.out 2)
                  have b3 : ∀ k, (wb.drewN k).cell? ⟨gy, 3, none⟩ = some (.int .i64 p4) := fun k => pw_cell_below (HDN.out k) (blk_cell HYb.out 3)
                  have b4 : ∀ k, (wb.drewN k).cell? ⟨gy, 4, none⟩ = some (.int .i64 p5) := fun k => pw_cell_below (HDN.out k) (blk_cell HYb.out 4)
                  have b5 : ∀ k, (wb.drewN k).cell? ⟨gy, 5, none⟩ = some (.string p6) := fun k => pw_cell_below (HDN.out k) (blk_cell HYb.out 5)
                  have b6 : ∀ k, (wb.drewN k).cell? ⟨gy, 6, none⟩ = some (.int .i64 p7) := fun k => pw_cell_below (HDN.out k) (blk_cell HYb.out 6)
                  have b7 : ∀ k, (wb.drewN k).cell? ⟨gy, 7, none⟩ = some (.string p8) := fun k => pw_cell_below (HDN.out k) (blk_cell HYb.out 7)
                  have al : ∀ k, (wb.drewN k).cell? ⟨g, 1, none⟩ = some (.slice A9 R9.length c9) := fun k => pw_cell_below (HDN.out k) hA9
                  have heq : ∀ n W, (Op.equalIn (n + 2) 28 (.agg #[.int .i64 p1, .int .i64 p2, .int .i64 p3, .int .i64 p4, .int .i64 p5, .string p6, .int .i64 p7, .string p8]) (.agg #[.int .i64 p1, .int .i64 p2, .int .i64 p3, .int .i64 p4, .int .i64 p5, .string p6, .int .i64 p7, .string p8])).run Try.prog W = .ok true W := fun n W => eq_pk ⟨p1, p2, p3, p4, p5, p6, p7, p8⟩ n W
                  clear hA9
                  go_quiet ((go_at_call 13; exact Calls.quiet_of_same ((both_len _ w.heap.size b g s (i + 1) R9 L9 ⟨HBob.out.below (HDN.out _)⟩ R9.length ⟨rfl⟩).mono fun _ _ h => ⟨h.1, h.2.symm⟩)))
                  have hBo9 := HBob.out.below (HDN.out nq)
                  have hB9 := HBb.out.trans ((HDN.out nq).mono HBb.out.size)
                  obtain ⟨w9, hw9⟩ : ∃ W, wb.drewN nq = W := ⟨_, rfl⟩
                  rw [hw9] at hBo9 hB9 ⊢
                  have HBo9 := Aside0.mk hBo9
                  have HB9 := Aside0.mk hB9
                  clear hw9 hBo9 hB9 al heq
                  go_wp2_with fail
                  go_roundw
                  case rel => exact ⟨i + 1, by go_num, by omega, ⟨⟨R9, L9, HBo9.out⟩⟩, HB9⟩
                  case measure => simp [intOf]; omega
    · by_cases g1 : i < xs.length
      · by_cases g2 : i < ys.length
        · have g3 : ¬ i < 80 := fun h => hlt ⟨g1, g2, h⟩
          obtain rfl : i = 80 := by omega
          clear hlt
          go_wp2_with fail
          all_goals
            refine (awake_any _).mono ?_
            rintro e w6 ⟨rfl, hB6⟩
            have HB6 := Aside0.mk (HBr.out.trans (hB6.mono HBr.out.size))
            clear hB6
            go_wp2
            go_ret
            exact ⟨rfl, HB6.out⟩
        · clear hlt
          go_wp2_with fail
          all_goals
            refine (awake_any _).mono ?_
            rintro e w6 ⟨rfl, hB6⟩
            have HB6 := Aside0.mk (HBr.out.trans (hB6.mono HBr.out.size))
            clear hB6
            go_wp2
            go_ret
            exact ⟨rfl, HB6.out⟩
      · clear hlt
        go_wp2_with fail
        all_goals
          refine (awake_any _).mono ?_
          rintro e w6 ⟨rfl, hB6⟩
          have HB6 := Aside0.mk (HBr.out.trans (hB6.mono HBr.out.size))
          clear hB6
          go_wp2
          go_ret
          exact ⟨rfl, HB6.out⟩
end Go.Proofs.Ytmdkgbbgppiaaaa
