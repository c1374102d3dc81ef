/- The law PacketApart's walk. -/
import Derived.Test.YtabcaeckoghmpaaDoorPkOpen
import Derived.Test.YtabcaeckoghmpaaDoorPkEq
import Derived.StillTailTactics
namespace Go.Proofs.YtabcaeckoghmpaaDoor
set_option linter.unusedVariables false
set_option linter.unusedSimpArgs false
open Go.RowKit Go.Proofs.YtabcaeckoghmpaaDoorW.PrintWords

theorem put_inj {p q : Pk} (hp : pkOk p = true) (hq : pkOk q = true) (h : putB p = putB q) : p = q := by
  have h1 := crcF_get hp
  rw [h, crcF_get hq] at h1
  exact (Prod.mk.inj h1).1.symm

set_option maxRecDepth 100000 in
set_option maxHeartbeats 2000000 in
theorem packetapart_walk (p q : Pk) (at_ : Int) (w : World) (hp : PkIn p) (hq : PkIn q) (ha : -9223372036854775808 ≤ at_ ∧ at_ ≤ 9223372036854775807) (hT : Tabs w) :
    Calls Tryd.prog 8 #[pkV p, pkV q, .int .i64 at_] w fun e w' => e = .returned (.bool true) ∧ Below w.heap.size w w' := by
  have HT := Aside0.mk hT
  obtain ⟨D, hD⟩ : ∃ D : Bool, (D = true ↔ p = q) := by
    by_cases h : p = q
    · exact ⟨true, by simp [h]⟩
    · exact ⟨false, by simp [h]⟩
  have HDD := Aside0.mk hD
  have heq := fun d W => eq_pk p q D hD d W
  obtain ⟨kind1, fr1, to_1, id1, ver1, meth1, err1, body1⟩ := p
  obtain ⟨kind2, fr2, to_2, id2, ver2, meth2, err2, body2⟩ := q
  have hms := hp.meth
  have hbs := hp.body
  have hmt := hq.meth
  have hbt := hq.body
  simp only at hms hbs hmt hbt
  unfold pkV at heq
  simp only at heq
  clear hp hq hT ha hD
  have HBK := Aside0.mk (heap_alloc_new w (.cells #[.int .i64 kind1, .int .i64 fr1, .int .i64 to_1, .int .i64 id1, .int .i64 ver1, .string meth1, .int .i64 err1, .string body1] 23))
  have HB0 : Aside0 (Below w.heap.size w (w.alloc (.cells #[.int .i64 kind1, .int .i64 fr1, .int .i64 to_1, .int .i64 id1, .int .i64 ver1, .string meth1, .int .i64 err1, .string body1] 23))) := ⟨(Below.refl _ _).alloc (Nat.le_refl _) _⟩
  have HBL := Aside0.mk (heap_alloc_new (w.alloc (.cells #[.int .i64 kind1, .int .i64 fr1, .int .i64 to_1, .int .i64 id1, .int .i64 ver1, .string meth1, .int .i64 err1, .string body1] 23)) (.cells #[.int .i64 kind2, .int .i64 fr2, .int .i64 to_2, .int .i64 id2, .int .i64 ver2, .string meth2, .int .i64 err2, .string body2] 23))
  have HBK' : Aside0 (((w.alloc (.cells #[.int .i64 kind1, .int .i64 fr1, .int .i64 to_1, .int .i64 id1, .int .i64 ver1, .string meth1, .int .i64 err1, .string body1] 23)).alloc (.cells #[.int .i64 kind2, .int .i64 fr2, .int .i64 to_2, .int .i64 id2, .int .i64 ver2, .string meth2, .int .i64 err2, .string body2] 23)).heap[w.heap.size]? = some (.cells #[.int .i64 kind1, .int .i64 fr1, .int .i64 to_1, .int .i64 id1, .int .i64 ver1, .string meth1, .int .i64 err1, .string body1] 23 (0, 0))) := ⟨by rw [((Below.refl (w.alloc (.cells #[.int .i64 kind1, .int .i64 fr1, .int .i64 to_1, .int .i64 id1, .int .i64 ver1, .string meth1, .int .i64 err1, .string body1] 23)).heap.size _).alloc (Nat.le_refl _) _).block _ (blk_lt HBK.out)]; exact HBK.out⟩
  have HB1 : Aside0 (Below w.heap.size w ((w.alloc (.cells #[.int .i64 kind1, .int .i64 fr1, .int .i64 to_1, .int .i64 id1, .int .i64 ver1, .string meth1, .int .i64 err1, .string body1] 23)).alloc (.cells #[.int .i64 kind2, .int .i64 fr2, .int .i64 to_2, .int .i64 id2, .int .i64 ver2, .string meth2, .int .i64 err2, .string body2] 23))) := ⟨HB0.out.alloc HB0.out.size _⟩
  have hsz : (w.alloc (.cells #[.int .i64 kind1, .int .i64 fr1, .int .i64 to_1, .int .i64 id1, .int .i64 ver1, .string meth1, .int .i64 err1, .string body1] 23)).heap.size = w.heap.size + 1 := by simp
  rw [hsz] at HBL
  clear HB0 HBK
  unfold pkV
  by_cases h0 : 5000 < body1.size
  · go_enter Tryd.func8, Tryd.ntmps8
    go_wp2_with fail
    refine (awake_any _ (tabs_below HT.out HB1.out)).mono ?_
    rintro e w6 ⟨rfl, hB6⟩
    have HB6 := Aside0.mk (HB1.out.trans (hB6.mono HB1.out.size))
    clear hB6
    go_wp2
    go_ret
    exact ⟨rfl, HB6.out⟩
  by_cases h1 : 5000 < body2.size
  · go_enter Tryd.func8, Tryd.ntmps8
    go_wp2_with fail
    refine (awake_any _ (tabs_below HT.out HB1.out)).mono ?_
    rintro e w6 ⟨rfl, hB6⟩
    have HB6 := Aside0.mk (HB1.out.trans (hB6.mono HB1.out.size))
    clear hB6
    go_wp2
    go_ret
    exact ⟨rfl, HB6.out⟩
  by_cases h2 : 300 < meth1.size
  · go_enter Tryd.func8, Tryd.ntmps8
    go_wp2_with fail
    refine (awake_any _ (tabs_below HT.out HB1.out)).mono ?_
    rintro e w6 ⟨rfl, hB6⟩
    have HB6 := Aside0.mk (HB1.out.trans (hB6.mono HB1.out.size))
    clear hB6
    go_wp2
    go_ret
    exact ⟨rfl, HB6.out⟩
  by_cases h3 : 300 < meth2.size
  · go_enter Tryd.func8, Tryd.ntmps8
    go_wp2_with fail
    refine (awake_any _ (tabs_below HT.out HB1.out)).mono ?_
    rintro e w6 ⟨rfl, hB6⟩
    have HB6 := Aside0.mk (HB1.out.trans (hB6.mono HB1.out.size))
    clear hB6
    go_wp2
    go_ret
    exact ⟨rfl, HB6.out⟩
  obtain ⟨v, hv⟩ : ∃ v, pkOk ⟨kind1, fr1, to_1, id1, ver1, meth1, err1, body1⟩ = v := ⟨_, rfl⟩
  obtain ⟨u, hu⟩ : ∃ u, pkOk ⟨kind2, fr2, to_2, id2, ver2, meth2, err2, body2⟩ = u := ⟨_, rfl⟩
  obtain ⟨zs, hz⟩ : ∃ zs, (if v then putB ⟨kind1, fr1, to_1, id1, ver1, meth1, err1, body1⟩ else []) = zs := ⟨_, rfl⟩
  obtain ⟨ys, hy⟩ : ∃ ys, (if u then putB ⟨kind2, fr2, to_2, id2, ver2, meth2, err2, body2⟩ else []) = ys := ⟨_, rfl⟩
  have HV := Aside0.mk hv
  have HU := Aside0.mk hu
  have HZ := Aside0.mk hz
  have HY := Aside0.mk hy
  clear hv hu hz hy
  go_enter Tryd.func8, Tryd.ntmps8
  go_wp2_with fail
  change Calls _ _ _ ((w.alloc (.cells #[.int .i64 kind1, .int .i64 fr1, .int .i64 to_1, .int .i64 id1, .int .i64 ver1, .string meth1, .int .i64 err1, .string body1] 23)).alloc (.cells #[.int .i64 kind2, .int .i64 fr2, .int .i64 to_2, .int .i64 id2, .int .i64 ver2, .string meth2, .int .i64 err2, .string body2] 23)) _
  obtain ⟨w0, hw0⟩ : ∃ w0, (w.alloc (.cells #[.int .i64 kind1, .int .i64 fr1, .int .i64 to_1, .int .i64 id1, .int .i64 ver1, .string meth1, .int .i64 err1, .string body1] 23)).alloc (.cells #[.int .i64 kind2, .int .i64 fr2, .int .i64 to_2, .int .i64 id2, .int .i64 ver2, .string meth2, .int .i64 err2, .string body2] 23) = w0 := ⟨_, rfl⟩
  rw [hw0] at HB1 HBL HBK' ⊢
  clear hw0
  refine (put_any ⟨kind1, fr1, to_1, id1, ver1, meth1, err1, body1⟩ _ (tabs_below HT.out HB1.out) (show meth1.size ≤ 4611686018427387904 by omega) (show body1.size ≤ 4611686018427387904 by omega) v HV zs HZ).mono ?_
  rintro e w1 ⟨v1, rfl, ho, hB1⟩
  have HB2 := Aside0.mk (HB1.out.trans (hB1.out.mono HB1.out.size))
  have HK1 : Aside0 (w1.heap[w.heap.size]? = some (.cells #[.int .i64 kind1, .int .i64 fr1, .int .i64 to_1, .int .i64 id1, .int .i64 ver1, .string meth1, .int .i64 err1, .string body1] 23 (0, 0))) := ⟨by rw [hB1.out.block _ (blk_lt HBK'.out)]; exact HBK'.out⟩
  have HL1 : Aside0 (w1.heap[w.heap.size + 1]? = some (.cells #[.int .i64 kind2, .int .i64 fr2, .int .i64 to_2, .int .i64 id2, .int .i64 ver2, .string meth2, .int .i64 err2, .string body2] 23 (0, 0))) := ⟨by rw [hB1.out.block _ (blk_lt HBL.out)]; exact HBL.out⟩
  have c0 : w1.cell? ⟨w.heap.size + 1, 0, none⟩ = some (.int .i64 kind2) := blk_cell HL1.out 0
  have c1 : w1.cell? ⟨w.heap.size + 1, 1, none⟩ = some (.int .i64 fr2) := blk_cell HL1.out 1
  have c2 : w1.cell? ⟨w.heap.size + 1, 2, none⟩ = some (.int .i64 to_2) := blk_cell HL1.out 2
  have c3 : w1.cell? ⟨w.heap.size + 1, 3, none⟩ = some (.int .i64 id2) := blk_cell HL1.out 3
  have c4 : w1.cell? ⟨w.heap.size + 1, 4, none⟩ = some (.int .i64 ver2) := blk_cell HL1.out 4
  have c5 : w1.cell? ⟨w.heap.size + 1, 5, none⟩ = some (.string meth2) := blk_cell HL1.out 5
  have c6 : w1.cell? ⟨w.heap.size + 1, 6, none⟩ = some (.int .i64 err2) := blk_cell HL1.out 6
  have c7 : w1.cell? ⟨w.heap.size + 1, 7, none⟩ = some (.string body2) := blk_cell HL1.out 7
  go_wp2_with fail
  refine (put_any ⟨kind2, fr2, to_2, id2, ver2, meth2, err2, body2⟩ _ (tabs_below HT.out HB2.out) (show meth2.size ≤ 4611686018427387904 by omega) (show body2.size ≤ 4611686018427387904 by omega) u HU ys HY).mono ?_
  rintro e w2 ⟨v2, rfl, ho2, hB2⟩
  clear c0 c1 c2 c3 c4 c5 c6 c7
  have HB3 := Aside0.mk (HB2.out.trans (hB2.out.mono HB2.out.size))
  have HK2 : Aside0 (w2.heap[w.heap.size]? = some (.cells #[.int .i64 kind1, .int .i64 fr1, .int .i64 to_1, .int .i64 id1, .int .i64 ver1, .string meth1, .int .i64 err1, .string body1] 23 (0, 0))) := ⟨by rw [hB2.out.block _ (blk_lt HK1.out)]; exact HK1.out⟩
  have HL2 : Aside0 (w2.heap[w.heap.size + 1]? = some (.cells #[.int .i64 kind2, .int .i64 fr2, .int .i64 to_2, .int .i64 id2, .int .i64 ver2, .string meth2, .int .i64 err2, .string body2] 23 (0, 0))) := ⟨by rw [hB2.out.block _ (blk_lt HL1.out)]; exact HL1.out⟩
  have HO1 := Aside0.mk (pw_own_below ho.out hB2.out)
  by_cases hvu : v = true ∧ u = true
  · obtain ⟨rfl, rfl⟩ := hvu
    have hput : putB ⟨kind1, fr1, to_1, id1, ver1, meth1, err1, body1⟩ = zs := by rw [← HZ.out]; rfl
    have hput2 : putB ⟨kind2, fr2, to_2, id2, ver2, meth2, err2, body2⟩ = ys := by rw [← HY.out]; rfl
    have hlen := (put_length_le HV.out).1
    rw [hput] at hlen
    obtain ⟨s1, hs1⟩ : ∃ s, strOfNums zs = s := ⟨_, rfl⟩
    obtain ⟨s2, hs2⟩ : ∃ s, strOfNums ys = s := ⟨_, rfl⟩
    have hcs : (s1.toList == s2.toList) = D := by
      rw [Bool.eq_iff_iff, HDD.out, beq_iff_eq]
      constructor
      · intro h
        have h2 : strOfNums zs = strOfNums ys := by rw [hs1, hs2]; exact toList_inj h
        have h3 := strOfNums_inj _ _ (hput ▸ put_bytes HV.out) (hput2 ▸ put_bytes HU.out) h2
        exact put_inj HV.out HU.out (by rw [hput, hput2, h3])
      · intro h
        rw [← hs1, ← hs2, ← hput, ← hput2, h]
    have hk1 : ∀ W : World, W.heap = w2.heap → (convert 24 9 v1).run Tryd.prog W = .ok (.string s1) W := fun W hW => by
      rw [← hs1]
      exact str_own (w := W) (by unfold World.ownsRow; rw [hW]; exact HO1.out)
    have hk2 : ∀ W : World, W.heap = w2.heap → (convert 24 9 v2).run Tryd.prog W = .ok (.string s2) W := fun W hW => by
      rw [← hs2]
      exact str_own (w := W) (by unfold World.ownsRow; rw [hW]; exact ho2.out)
    replace hk1 := hk1 w2.drew rfl
    replace hk2 := hk2 w2.drew rfl
    obtain ⟨A1, n1, rfl, hr1⟩ := own_reads HO1.out
    clear hput hput2 hs1 hs2 hr1
    have h14 : (14 : Int) ≤ (zs.length : Int) := by omega
    have c0 : w2.cell? ⟨w.heap.size + 1, 0, none⟩ = some (.int .i64 kind2) := blk_cell HL2.out 0
    have c1 : w2.cell? ⟨w.heap.size + 1, 1, none⟩ = some (.int .i64 fr2) := blk_cell HL2.out 1
    have c2 : w2.cell? ⟨w.heap.size + 1, 2, none⟩ = some (.int .i64 to_2) := blk_cell HL2.out 2
    have c3 : w2.cell? ⟨w.heap.size + 1, 3, none⟩ = some (.int .i64 id2) := blk_cell HL2.out 3
    have c4 : w2.cell? ⟨w.heap.size + 1, 4, none⟩ = some (.int .i64 ver2) := blk_cell HL2.out 4
    have c5 : w2.cell? ⟨w.heap.size + 1, 5, none⟩ = some (.string meth2) := blk_cell HL2.out 5
    have c6 : w2.cell? ⟨w.heap.size + 1, 6, none⟩ = some (.int .i64 err2) := blk_cell HL2.out 6
    have c7 : w2.cell? ⟨w.heap.size + 1, 7, none⟩ = some (.string body2) := blk_cell HL2.out 7
    have d0 : w2.cell? ⟨w.heap.size, 0, none⟩ = some (.int .i64 kind1) := blk_cell HK2.out 0
    have d1 : w2.cell? ⟨w.heap.size, 1, none⟩ = some (.int .i64 fr1) := blk_cell HK2.out 1
    have d2 : w2.cell? ⟨w.heap.size, 2, none⟩ = some (.int .i64 to_1) := blk_cell HK2.out 2
    have d3 : w2.cell? ⟨w.heap.size, 3, none⟩ = some (.int .i64 id1) := blk_cell HK2.out 3
    have d4 : w2.cell? ⟨w.heap.size, 4, none⟩ = some (.int .i64 ver1) := blk_cell HK2.out 4
    have d5 : w2.cell? ⟨w.heap.size, 5, none⟩ = some (.string meth1) := blk_cell HK2.out 5
    have d6 : w2.cell? ⟨w.heap.size, 6, none⟩ = some (.int .i64 err1) := blk_cell HK2.out 6
    have d7 : w2.cell? ⟨w.heap.size, 7, none⟩ = some (.string body1) := blk_cell HK2.out 7
    go_wp2_with fail
    go_still_tail 15, (by kernel_rfl)
    change wpList _ _ _ _ _ w2.drew
    have HBD := Aside0.mk (HB3.out.drew)
    go_wp2_with fail
    refine (awake_any _ (tabs_below HT.out HBD.out)).mono ?_
    rintro e w6 ⟨rfl, hB6⟩
    have HB6 := Aside0.mk (HBD.out.trans (hB6.mono HBD.out.size))
    clear hB6
    go_wp2
    go_ret
    exact ⟨rfl, HB6.out⟩
  · cases v with
    | false =>
      go_wp2_with fail
      refine (awake_any _ (tabs_below HT.out HB3.out)).mono ?_
      rintro e w6 ⟨rfl, hB6⟩
      have HB6 := Aside0.mk (HB3.out.trans (hB6.mono HB3.out.size))
      clear hB6
      go_wp2
      go_ret
      exact ⟨rfl, HB6.out⟩
    | true =>
      have hu2 : u = false := by cases u with | false => rfl | true => exact absurd ⟨rfl, rfl⟩ hvu
      subst hu2
      go_wp2_with fail
      refine (awake_any _ (tabs_below HT.out HB3.out)).mono ?_
      rintro e w6 ⟨rfl, hB6⟩
      have HB6 := Aside0.mk (HB3.out.trans (hB6.mono HB3.out.size))
      clear hB6
      go_wp2
      go_ret
      exact ⟨rfl, HB6.out⟩
end Go.Proofs.YtabcaeckoghmpaaDoor
