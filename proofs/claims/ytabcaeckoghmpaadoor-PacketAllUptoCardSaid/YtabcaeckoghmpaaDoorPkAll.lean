/- The law PacketAll's walk, of bytes that are not too many. -/
import Derived.Test.YtabcaeckoghmpaaDoorPkRGet
import Derived.Test.YtabcaeckoghmpaaDoorPkOpen
namespace Go.Proofs.YtabcaeckoghmpaaDoor
set_option linter.unusedVariables false
set_option linter.unusedSimpArgs false
open Go.RowKit Go.Proofs.YtabcaeckoghmpaaDoorW.PrintWords

theorem check_rel (w3 W : World) (hb : Aside0 (Below w3.heap.size w3 W)) (hT : Aside0 (Tabs w3)) (kind fr to_ id ver : Int) (meth : ByteArray) (err : Int) (body : ByteArray) (hm : meth.size ≤ 4611686018427387904) (hbz : body.size ≤ 4611686018427387904) (v : Bool) (hv : Aside0 (pkOk ⟨kind, fr, to_, id, ver, meth, err, body⟩ = v)) :
    Calls Tryd.prog 15 #[.agg #[.int .i64 kind, .int .i64 fr, .int .i64 to_, .int .i64 id, .int .i64 ver, .string meth, .int .i64 err, .string body]] W fun e w' => e = .returned (.bool v) ∧ Aside0 (Below w3.heap.size w3 w') :=
  (check_at kind fr to_ id ver meth err body W hm hbz (tabs_below hT.out hb.out) v hv).mono fun _ _ ⟨h1, h2⟩ => ⟨h1, ⟨hb.out.trans (h2.mono hb.out.size)⟩⟩
theorem rcheck_rel (w3 W : World) (hb : Aside0 (Below w3.heap.size w3 W)) (kind fr to_ id ver : Int) (meth : ByteArray) (err : Int) (body : ByteArray) (hm : meth.size ≤ 2097152) (hbz : body.size ≤ 4611686018427387904) (v : Bool) (hv : Aside0 (pkOk ⟨kind, fr, to_, id, ver, meth, err, body⟩ = v)) :
    Calls Tryd.prog 16 #[.agg #[.int .i64 kind, .int .i64 fr, .int .i64 to_, .int .i64 id, .int .i64 ver, .string meth, .int .i64 err, .string body]] W fun e w' => e = .returned (.bool v) ∧ Aside0 (Below w3.heap.size w3 w') :=
  (rcheck_at kind fr to_ id ver meth err body W hm hbz v hv).mono fun _ _ ⟨h1, h2⟩ => ⟨h1, ⟨hb.out.trans (h2.mono hb.out.size)⟩⟩
theorem awake_rel (w3 W : World) (hb : Aside0 (Below w3.heap.size w3 W)) (hT : Aside0 (Tabs w3)) :
    Calls Tryd.prog 9 #[] W fun e w' => e = .returned (.bool true) ∧ Aside0 (Below w3.heap.size w3 w') :=
  (awake_any W (tabs_below hT.out hb.out)).mono fun _ _ ⟨h1, h2⟩ => ⟨h1, ⟨hb.out.trans (h2.mono hb.out.size)⟩⟩

set_option maxRecDepth 100000 in
set_option maxHeartbeats 4000000 in
theorem packetall_walk (p : Pk) (A0 : Option Addr) (c0 : Nat) (xs : List Int) (w : World) (hp : PkIn p) (hr : ReadsInt w .u8 A0 xs.length xs) (hc : xs.length ≤ c0) (hl : xs.length ≤ 1048576) (hw : ∀ x ∈ xs, 0 ≤ x ∧ x ≤ 255) (hT : Tabs w) :
    Calls Tryd.prog 3 #[pkV p, .slice A0 xs.length c0] w fun e w' => e = .returned (.bool true) ∧ Below w.heap.size w w' := by
  obtain ⟨kind, fr, to_, id, ver, meth, err, body⟩ := p
  have HT := Aside0.mk hT
  have HR := Aside0.mk hr
  have HW := Aside0.mk hw
  have hms := hp.meth
  have hbs := hp.body
  simp only at hms hbs
  clear hp hT hr hw
  have HBK := Aside0.mk (heap_alloc_new w (.cells #[.int .i64 kind, .int .i64 fr, .int .i64 to_, .int .i64 id, .int .i64 ver, .string meth, .int .i64 err, .string body] 23))
  have HB0 : Aside0 (Below w.heap.size w (w.alloc (.cells #[.int .i64 kind, .int .i64 fr, .int .i64 to_, .int .i64 id, .int .i64 ver, .string meth, .int .i64 err, .string body] 23))) := ⟨(Below.refl _ _).alloc (Nat.le_refl _) _⟩
  unfold pkV
  by_cases h1 : 5000 < body.size
  · go_enter Tryd.func3, Tryd.ntmps3
    go_wp2_with fail
    refine (awake_any _ (tabs_below HT.out HB0.out)).mono ?_
    rintro e w6 ⟨rfl, hB6⟩
    have HB6 := Aside0.mk (HB0.out.trans (hB6.mono HB0.out.size))
    clear hB6
    go_wp2
    go_ret
    exact ⟨rfl, HB6.out⟩
  · by_cases h2 : 300 < meth.size
    · go_enter Tryd.func3, Tryd.ntmps3
      go_wp2_with fail
      refine (awake_any _ (tabs_below HT.out HB0.out)).mono ?_
      rintro e w6 ⟨rfl, hB6⟩
      have HB6 := Aside0.mk (HB0.out.trans (hB6.mono HB0.out.size))
      clear hB6
      go_wp2
      go_ret
      exact ⟨rfl, HB6.out⟩
    · obtain ⟨v, hv⟩ : ∃ v, pkOk ⟨kind, fr, to_, id, ver, meth, err, body⟩ = v := ⟨_, rfl⟩
      obtain ⟨zs, hz⟩ : ∃ zs, (if v then putB ⟨kind, fr, to_, id, ver, meth, err, body⟩ else []) = zs := ⟨_, rfl⟩
      have HV := Aside0.mk hv
      have HZ := Aside0.mk hz
      have hzv : decide (0 < zs.length) = v := by
        cases v with
        | true =>
          have h9 := (put_length_le hv).1
          rw [← hz]
          exact decide_eq_true (by simp only [if_true]; omega)
        | false => rw [← hz]; rfl
      have hzv2 : decide ((0 : Int) < (zs.length : Int)) = v := by rw [← hzv]; exact decide_eq_decide.2 (by omega)
      obtain ⟨sz, hsz⟩ : ∃ s, strOfNums zs = s := ⟨_, rfl⟩
      have HSZ := Aside0.mk hsz
      obtain ⟨q, er, hq⟩ : ∃ q er, getB xs = (q, er) := ⟨_, _, rfl⟩
      have HQ := Aside0.mk hq
      have hm4 : meth.size ≤ 4611686018427387904 := by omega
      have hb4 : body.size ≤ 4611686018427387904 := by omega
      have hm2 : meth.size ≤ 2097152 := by omega
      clear hv hz hsz hq
      obtain ⟨q1, q2, q3, q4, q5, q6, q7, q8⟩ := q
      go_enter Tryd.func3, Tryd.ntmps3
      go_wp2_with fail
      refine (put_any ⟨kind, fr, to_, id, ver, meth, err, body⟩ _ (tabs_below HT.out HB0.out) hm4 hb4 v HV zs HZ).mono ?_
      rintro e w1 ⟨v1, rfl, ho1, hB1⟩
      have HB1 := Aside0.mk (HB0.out.trans (hB1.out.mono HB0.out.size))
      have HK1 : Aside0 (w1.heap[w.heap.size]? = some (.cells #[.int .i64 kind, .int .i64 fr, .int .i64 to_, .int .i64 id, .int .i64 ver, .string meth, .int .i64 err, .string body] 23 (0, 0))) := ⟨by rw [hB1.out.block _ (blk_lt HBK.out)]; exact HBK.out⟩
      have d0 : w1.cell? ⟨w.heap.size, 0, none⟩ = some (.int .i64 kind) := blk_cell HK1.out 0
      have d1 : w1.cell? ⟨w.heap.size, 1, none⟩ = some (.int .i64 fr) := blk_cell HK1.out 1
      have d2 : w1.cell? ⟨w.heap.size, 2, none⟩ = some (.int .i64 to_) := blk_cell HK1.out 2
      have d3 : w1.cell? ⟨w.heap.size, 3, none⟩ = some (.int .i64 id) := blk_cell HK1.out 3
      have d4 : w1.cell? ⟨w.heap.size, 4, none⟩ = some (.int .i64 ver) := blk_cell HK1.out 4
      have d5 : w1.cell? ⟨w.heap.size, 5, none⟩ = some (.string meth) := blk_cell HK1.out 5
      have d6 : w1.cell? ⟨w.heap.size, 6, none⟩ = some (.int .i64 err) := blk_cell HK1.out 6
      have d7 : w1.cell? ⟨w.heap.size, 7, none⟩ = some (.string body) := blk_cell HK1.out 7
      go_wp2_with fail
      refine (rput_pk ⟨kind, fr, to_, id, ver, meth, err, body⟩ w1 hm2 hb4 v HV zs HZ).mono ?_
      rintro e w2 ⟨v2, rfl, ho2, hB2⟩
      clear d0 d1 d2 d3 d4 d5 d6 d7
      have HB2 := Aside0.mk (HB1.out.trans (hB2.out.mono HB1.out.size))
      have HK2 : Aside0 (w2.heap[w.heap.size]? = some (.cells #[.int .i64 kind, .int .i64 fr, .int .i64 to_, .int .i64 id, .int .i64 ver, .string meth, .int .i64 err, .string body] 23 (0, 0))) := ⟨by rw [hB2.out.block _ (blk_lt HK1.out)]; exact HK1.out⟩
      have HO1 := Aside0.mk (pw_own_below ho1.out hB2.out)
      have HO2 := ho2
      clear ho1 ho2 hB1 hB2
      go_wp2_with fail
      refine (bytes_new A0 _ c0 xs w2 rfl (HR.out.below HB2.out) (by omega)).mono ?_
      rintro e w3 ⟨v3, rfl, ho3, hB3⟩
      have HB3 := Aside0.mk (HB2.out.trans (hB3.out.mono HB2.out.size))
      have HK3 : Aside0 (w3.heap[w.heap.size]? = some (.cells #[.int .i64 kind, .int .i64 fr, .int .i64 to_, .int .i64 id, .int .i64 ver, .string meth, .int .i64 err, .string body] 23 (0, 0))) := ⟨by rw [hB3.out.block _ (blk_lt HK2.out)]; exact HK2.out⟩
      have HO13 := Aside0.mk (pw_own_below HO1.out hB3.out)
      have HO23 := Aside0.mk (pw_own_below HO2.out hB3.out)
      go_wp2_with fail
      refine (get_own _ v3 xs w3 ho3.out (by omega) HW.out (tabs_below HT.out HB3.out) ⟨q1, q2, q3, q4, q5, q6, q7, q8⟩ er HQ).mono ?_
      rintro e w4 ⟨rfl, hB4⟩
      have hB4a : Below w3.heap.size w3 (w4.alloc (.cells #[.int .i64 q1, .int .i64 q2, .int .i64 q3, .int .i64 q4, .int .i64 q5, .string q6, .int .i64 q7, .string q8] 23)) := hB4.alloc hB4.size _
      have HB4 := Aside0.mk (HB3.out.trans (hB4a.mono HB3.out.size))
      have HK4 : Aside0 ((w4.alloc (.cells #[.int .i64 q1, .int .i64 q2, .int .i64 q3, .int .i64 q4, .int .i64 q5, .string q6, .int .i64 q7, .string q8] 23)).heap[w.heap.size]? = some (.cells #[.int .i64 kind, .int .i64 fr, .int .i64 to_, .int .i64 id, .int .i64 ver, .string meth, .int .i64 err, .string body] 23 (0, 0))) := ⟨by rw [hB4a.block _ (blk_lt HK3.out)]; exact HK3.out⟩
      have HO14 := Aside0.mk (pw_own_below HO13.out hB4a)
      have HO24 := Aside0.mk (pw_own_below HO23.out hB4a)
      have HQ4 := Aside0.mk (heap_alloc_new w4 (.cells #[.int .i64 q1, .int .i64 q2, .int .i64 q3, .int .i64 q4, .int .i64 q5, .string q6, .int .i64 q7, .string q8] 23))
      unfold pkV
      go_wp2_with fail
      change Calls _ _ _ (w4.alloc (.cells #[.int .i64 q1, .int .i64 q2, .int .i64 q3, .int .i64 q4, .int .i64 q5, .string q6, .int .i64 q7, .string q8] 23)) _
      obtain ⟨g1, hg1⟩ : ∃ g, w4.heap.size = g := ⟨_, rfl⟩
      obtain ⟨w4b, hw4⟩ : ∃ W, w4.alloc (.cells #[.int .i64 q1, .int .i64 q2, .int .i64 q3, .int .i64 q4, .int .i64 q5, .string q6, .int .i64 q7, .string q8] 23) = W := ⟨_, rfl⟩
      rw [hg1] at HQ4
      simp only [hg1]
      rw [hw4] at HQ4 HO14 HO24 HK4 HB4 ⊢
      clear hw4 hg1 hB4a hB4 ho3 hB3
      refine (rget_pk A0 _ c0 xs w4b rfl (HR.out.below HB4.out) hc (by omega) HW.out ⟨q1, q2, q3, q4, q5, q6, q7, q8⟩ er HQ).mono ?_
      rintro e w5 ⟨rfl, hB5⟩
      have hB5a : Below w4b.heap.size w4b (w5.alloc (.cells #[.int .i64 q1, .int .i64 q2, .int .i64 q3, .int .i64 q4, .int .i64 q5, .string q6, .int .i64 q7, .string q8] 23)) := hB5.alloc hB5.size _
      have HB6 := Aside0.mk (HB4.out.trans (hB5a.mono HB4.out.size))
      have HK6 : Aside0 ((w5.alloc (.cells #[.int .i64 q1, .int .i64 q2, .int .i64 q3, .int .i64 q4, .int .i64 q5, .string q6, .int .i64 q7, .string q8] 23)).heap[w.heap.size]? = some (.cells #[.int .i64 kind, .int .i64 fr, .int .i64 to_, .int .i64 id, .int .i64 ver, .string meth, .int .i64 err, .string body] 23 (0, 0))) := ⟨by rw [hB5a.block _ (blk_lt HK4.out)]; exact HK4.out⟩
      have HQ6 : Aside0 ((w5.alloc (.cells #[.int .i64 q1, .int .i64 q2, .int .i64 q3, .int .i64 q4, .int .i64 q5, .string q6, .int .i64 q7, .string q8] 23)).heap[g1]? = some (.cells #[.int .i64 q1, .int .i64 q2, .int .i64 q3, .int .i64 q4, .int .i64 q5, .string q6, .int .i64 q7, .string q8] 23 (0, 0))) := ⟨by rw [hB5a.block _ (blk_lt HQ4.out)]; exact HQ4.out⟩
      have HO16 := Aside0.mk (pw_own_below HO14.out hB5a)
      have HO26 := Aside0.mk (pw_own_below HO24.out hB5a)
      have HR6 := Aside0.mk (heap_alloc_new w5 (.cells #[.int .i64 q1, .int .i64 q2, .int .i64 q3, .int .i64 q4, .int .i64 q5, .string q6, .int .i64 q7, .string q8] 23))
      unfold pkV
      go_upto_region 7 with fail
      change Code.wp _ _ _ _ (w5.alloc (.cells #[.int .i64 q1, .int .i64 q2, .int .i64 q3, .int .i64 q4, .int .i64 q5, .string q6, .int .i64 q7, .string q8] 23))
      obtain ⟨g2, hg2⟩ : ∃ g, w5.heap.size = g := ⟨_, rfl⟩
      obtain ⟨wz, hwz⟩ : ∃ W, w5.alloc (.cells #[.int .i64 q1, .int .i64 q2, .int .i64 q3, .int .i64 q4, .int .i64 q5, .string q6, .int .i64 q7, .string q8] 23) = W := ⟨_, rfl⟩
      rw [hg2] at HR6
      simp only [hg2]
      rw [hwz] at HR6 HQ6 HO16 HO26 HK6 HB6 ⊢
      clear hwz hg2 hB5a hB5
      obtain ⟨A1, n1, rfl, hrd1⟩ := own_reads HO16.out
      obtain ⟨A2, n2, rfl, hrd2⟩ := own_reads HO26.out
      clear hrd1 hrd2
      have HTZ := Aside0.mk (tabs_below HT.out HB6.out)
      have HDZ := Aside0.mk (show Below wz.heap.size wz wz.drew from (Below.refl _ _).drew)
      have HCW := Aside0.mk (fun W (hW : Below wz.heap.size wz W) => (show W.cell? ⟨w.heap.size, 0, none⟩ = some (.int .i64 kind) ∧ W.cell? ⟨w.heap.size, 1, none⟩ = some (.int .i64 fr) ∧ W.cell? ⟨w.heap.size, 2, none⟩ = some (.int .i64 to_) ∧ W.cell? ⟨w.heap.size, 3, none⟩ = some (.int .i64 id) ∧ W.cell? ⟨w.heap.size, 4, none⟩ = some (.int .i64 ver) ∧ W.cell? ⟨w.heap.size, 5, none⟩ = some (.string meth) ∧ W.cell? ⟨w.heap.size, 6, none⟩ = some (.int .i64 err) ∧ W.cell? ⟨w.heap.size, 7, none⟩ = some (.string body) ∧ W.cell? ⟨g1, 0, none⟩ = some (.int .i64 q1) ∧ W.cell? ⟨g1, 1, none⟩ = some (.int .i64 q2) ∧ W.cell? ⟨g1, 2, none⟩ = some (.int .i64 q3) ∧ W.cell? ⟨g1, 3, none⟩ = some (.int .i64 q4) ∧ W.cell? ⟨g1, 4, none⟩ = some (.int .i64 q5) ∧ W.cell? ⟨g1, 5, none⟩ = some (.string q6) ∧ W.cell? ⟨g1, 6, none⟩ = some (.int .i64 q7) ∧ W.cell? ⟨g1, 7, none⟩ = some (.string q8) ∧ W.cell? ⟨g2, 0, none⟩ = some (.int .i64 q1) ∧ W.cell? ⟨g2, 1, none⟩ = some (.int .i64 q2) ∧ W.cell? ⟨g2, 2, none⟩ = some (.int .i64 q3) ∧ W.cell? ⟨g2, 3, none⟩ = some (.int .i64 q4) ∧ W.cell? ⟨g2, 4, none⟩ = some (.int .i64 q5) ∧ W.cell? ⟨g2, 5, none⟩ = some (.string q6) ∧ W.cell? ⟨g2, 6, none⟩ = some (.int .i64 q7) ∧ W.cell? ⟨g2, 7, none⟩ = some (.string q8) ∧ (convert 24 9 (.slice A1 zs.length n1)).run Tryd.prog W = .ok (.string sz) W ∧ (convert 24 9 (.slice A2 zs.length n2)).run Tryd.prog W = .ok (.string sz) W from ⟨pw_cell_below hW (blk_cell HK6.out 0), pw_cell_below hW (blk_cell HK6.out 1), pw_cell_below hW (blk_cell HK6.out 2), pw_cell_below hW (blk_cell HK6.out 3), pw_cell_below hW (blk_cell HK6.out 4), pw_cell_below hW (blk_cell HK6.out 5), pw_cell_below hW (blk_cell HK6.out 6), pw_cell_below hW (blk_cell HK6.out 7), pw_cell_below hW (blk_cell HQ6.out 0), pw_cell_below hW (blk_cell HQ6.out 1), pw_cell_below hW (blk_cell HQ6.out 2), pw_cell_below hW (blk_cell HQ6.out 3), pw_cell_below hW (blk_cell HQ6.out 4), pw_cell_below hW (blk_cell HQ6.out 5), pw_cell_below hW (blk_cell HQ6.out 6), pw_cell_below hW (blk_cell HQ6.out 7), pw_cell_below hW (blk_cell HR6.out 0), pw_cell_below hW (blk_cell HR6.out 1), pw_cell_below hW (blk_cell HR6.out 2), pw_cell_below hW (blk_cell HR6.out 3), pw_cell_below hW (blk_cell HR6.out 4), pw_cell_below hW (blk_cell HR6.out 5), pw_cell_below hW (blk_cell HR6.out 6), pw_cell_below hW (blk_cell HR6.out 7), by rw [← HSZ.out]; exact str_own (pw_own_below HO16.out hW), by rw [← HSZ.out]; exact str_own (pw_own_below HO26.out hW)⟩))
      go_cut [4] (fun v9 we => v9 = .bool true ∧ Aside0 (Below wz.heap.size wz we))
      case first =>
        go_region_held (fun W => W.cell? ⟨w.heap.size, 0, none⟩ = some (.int .i64 kind) ∧ W.cell? ⟨w.heap.size, 1, none⟩ = some (.int .i64 fr) ∧ W.cell? ⟨w.heap.size, 2, none⟩ = some (.int .i64 to_) ∧ W.cell? ⟨w.heap.size, 3, none⟩ = some (.int .i64 id) ∧ W.cell? ⟨w.heap.size, 4, none⟩ = some (.int .i64 ver) ∧ W.cell? ⟨w.heap.size, 5, none⟩ = some (.string meth) ∧ W.cell? ⟨w.heap.size, 6, none⟩ = some (.int .i64 err) ∧ W.cell? ⟨w.heap.size, 7, none⟩ = some (.string body) ∧ W.cell? ⟨g1, 0, none⟩ = some (.int .i64 q1) ∧ W.cell? ⟨g1, 1, none⟩ = some (.int .i64 q2) ∧ W.cell? ⟨g1, 2, none⟩ = some (.int .i64 q3) ∧ W.cell? ⟨g1, 3, none⟩ = some (.int .i64 q4) ∧ W.cell? ⟨g1, 4, none⟩ = some (.int .i64 q5) ∧ W.cell? ⟨g1, 5, none⟩ = some (.string q6) ∧ W.cell? ⟨g1, 6, none⟩ = some (.int .i64 q7) ∧ W.cell? ⟨g1, 7, none⟩ = some (.string q8) ∧ W.cell? ⟨g2, 0, none⟩ = some (.int .i64 q1) ∧ W.cell? ⟨g2, 1, none⟩ = some (.int .i64 q2) ∧ W.cell? ⟨g2, 2, none⟩ = some (.int .i64 q3) ∧ W.cell? ⟨g2, 3, none⟩ = some (.int .i64 q4) ∧ W.cell? ⟨g2, 4, none⟩ = some (.int .i64 q5) ∧ W.cell? ⟨g2, 5, none⟩ = some (.string q6) ∧ W.cell? ⟨g2, 6, none⟩ = some (.int .i64 q7) ∧ W.cell? ⟨g2, 7, none⟩ = some (.string q8) ∧ (convert 24 9 (.slice A1 zs.length n1)).run Tryd.prog W = .ok (.string sz) W ∧ (convert 24 9 (.slice A2 zs.length n2)).run Tryd.prog W = .ok (.string sz) W) (with_reducible exact HCW.out _ (Aside0.out (by assumption)))
          (first
            | (go_at_call 15; refine (check_rel wz _ (by assumption) HTZ kind fr to_ id ver meth err body hm4 hb4 v HV).mono ?_; rintro e w61 ⟨rfl, HB61⟩)
            | (go_at_call 16; refine (rcheck_rel wz _ (by assumption) kind fr to_ id ver meth err body hm2 hb4 v HV).mono ?_; rintro e w62 ⟨rfl, HB62⟩)
            | (go_at_call 9; refine (awake_rel wz _ (by assumption) HTZ).mono ?_; rintro e w63 ⟨rfl, HB63⟩))
        all_goals
          go_wp2
          go_meet
          case rel => exact ⟨rfl, by assumption⟩
      case rest =>
        obtain ⟨rfl, HBe⟩ := hcut
        have HBL := Aside0.mk (HB6.out.trans (HBe.out.mono HB6.out.size))
        go_wp2
        go_ret
        exact ⟨rfl, HBL.out⟩
end Go.Proofs.YtabcaeckoghmpaaDoor
