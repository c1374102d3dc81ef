/- The law PacketBack's walk. -/
import Derived.Test.YtabcaeckoghmpaaDoorPkOpen
namespace Go.Proofs.YtabcaeckoghmpaaDoor
set_option linter.unusedVariables false
set_option linter.unusedSimpArgs false
open Go.RowKit Go.Proofs.YtabcaeckoghmpaaDoorW.PrintWords

set_option maxRecDepth 100000 in
set_option maxHeartbeats 2000000 in
theorem packetback_walk (p : Pk) (w : World) (hp : PkIn p) (hT : Tabs w) :
    Calls Tryd.prog 4 #[pkV p] w fun e w' => e = .returned (.bool true) ∧ Below w.heap.size w w' := by
  obtain ⟨kind, fr, to_, id, ver, meth, err, body⟩ := p
  have HT := Aside0.mk hT
  have hms := hp.meth
  have hbs := hp.body
  simp only at hms hbs
  clear hp hT
  have HBK := Aside0.mk (heap_alloc_new w (.cells #[.int .i64 kind, .int .i64 fr, .int .i64 to_, .int .i64 id, .int .i64 ver, .string meth, .int .i64 err, .string body] 23))
  have HB0 : Aside0 (Below w.heap.size w (w.alloc (.cells #[.int .i64 kind, .int .i64 fr, .int .i64 to_, .int .i64 id, .int .i64 ver, .string meth, .int .i64 err, .string body] 23))) := ⟨(Below.refl _ _).alloc (Nat.le_refl _) _⟩
  unfold pkV
  by_cases h1 : 5000 < body.size
  · go_enter Tryd.func4, Tryd.ntmps4
    go_wp2_with fail
    refine (awake_any _ (tabs_below HT.out HB0.out)).mono ?_
    rintro e w6 ⟨rfl, hB6⟩
    have HB6 := Aside0.mk (HB0.out.trans (hB6.mono HB0.out.size))
    clear hB6
    go_wp2
    go_ret
    exact ⟨rfl, HB6.out⟩
  · by_cases h2 : 300 < meth.size
    · go_enter Tryd.func4, Tryd.ntmps4
      go_wp2_with fail
      refine (awake_any _ (tabs_below HT.out HB0.out)).mono ?_
      rintro e w6 ⟨rfl, hB6⟩
      have HB6 := Aside0.mk (HB0.out.trans (hB6.mono HB0.out.size))
      clear hB6
      go_wp2
      go_ret
      exact ⟨rfl, HB6.out⟩
    · obtain ⟨v, hv⟩ : ∃ v, pkOk ⟨kind, fr, to_, id, ver, meth, err, body⟩ = v := ⟨_, rfl⟩
      obtain ⟨zs, hz⟩ : ∃ zs, (if v then putB ⟨kind, fr, to_, id, ver, meth, err, body⟩ else []) = zs := ⟨_, rfl⟩
      have HV := Aside0.mk hv
      have HZ := Aside0.mk hz
      clear hv hz
      go_enter Tryd.func4, Tryd.ntmps4
      go_wp2_with fail
      refine (put_any ⟨kind, fr, to_, id, ver, meth, err, body⟩ _ (tabs_below HT.out HB0.out) (show meth.size ≤ 4611686018427387904 by omega) (show body.size ≤ 4611686018427387904 by omega) v HV zs HZ).mono ?_
      rintro e w1 ⟨v1, rfl, ho, hB1⟩
      have HB1 := Aside0.mk (HB0.out.trans (hB1.out.mono HB0.out.size))
      have HBK1 : Aside0 (w1.heap[w.heap.size]? = some (.cells #[.int .i64 kind, .int .i64 fr, .int .i64 to_, .int .i64 id, .int .i64 ver, .string meth, .int .i64 err, .string body] 23 (0, 0))) := ⟨by rw [hB1.out.block _ (blk_lt HBK.out)]; exact HBK.out⟩
      cases v with
      | false =>
        have hz0 : zs = [] := by rw [← HZ.out]; rfl
        subst hz0
        obtain ⟨A, c, rfl, hr⟩ := own_reads ho.out
        clear hr
        rw [List.length_nil] at ho ⊢
        go_wp2_with fail
        refine (awake_any _ (tabs_below HT.out HB1.out)).mono ?_
        rintro e w6 ⟨rfl, hB6⟩
        have HB6 := Aside0.mk (HB1.out.trans (hB6.mono HB1.out.size))
        clear hB6
        go_wp2
        go_ret
        exact ⟨rfl, HB6.out⟩
      | true =>
        have hput : putB ⟨kind, fr, to_, id, ver, meth, err, body⟩ = zs := by rw [← HZ.out]; rfl
        have hlen := put_length_le HV.out
        rw [hput] at hlen
        have HZW : Aside0 (∀ x ∈ zs, 0 ≤ x ∧ x ≤ 255) := ⟨hput ▸ put_bytes HV.out⟩
        have HG : Aside0 (getB zs = (⟨kind, fr, to_, id, ver, meth, err, body⟩, 0)) := ⟨by rw [← hput]; exact crcF_get HV.out⟩
        have HLEN := Aside0.mk hlen
        clear hput hlen
        go_wp2_with fail
        refine (get_own _ v1 zs w1 ho.out (by have := HLEN.out; omega) HZW.out (tabs_below HT.out HB1.out) _ 0 HG).mono ?_
        rintro e w2 ⟨rfl, hB2⟩
        have HB2 := Aside0.mk (HB1.out.trans (hB2.mono HB1.out.size))
        have HBK2 : Aside0 (w2.heap[w.heap.size]? = some (.cells #[.int .i64 kind, .int .i64 fr, .int .i64 to_, .int .i64 id, .int .i64 ver, .string meth, .int .i64 err, .string body] 23 (0, 0))) := ⟨by rw [hB2.block _ (blk_lt HBK1.out)]; exact HBK1.out⟩
        clear hB2
        unfold pkV
        have HB3 := Aside0.mk (HB2.out.alloc HB2.out.size (.cells #[.int .i64 kind, .int .i64 fr, .int .i64 to_, .int .i64 id, .int .i64 ver, .string meth, .int .i64 err, .string body] 23))
        have HBK3 : Aside0 ((w2.alloc (.cells #[.int .i64 kind, .int .i64 fr, .int .i64 to_, .int .i64 id, .int .i64 ver, .string meth, .int .i64 err, .string body] 23)).heap[w.heap.size]? = some (.cells #[.int .i64 kind, .int .i64 fr, .int .i64 to_, .int .i64 id, .int .i64 ver, .string meth, .int .i64 err, .string body] 23 (0, 0))) := ⟨by rw [((Below.refl w2.heap.size w2).alloc (Nat.le_refl _) _).block _ (blk_lt HBK2.out)]; exact HBK2.out⟩
        have c0 : (w2.alloc (.cells #[.int .i64 kind, .int .i64 fr, .int .i64 to_, .int .i64 id, .int .i64 ver, .string meth, .int .i64 err, .string body] 23)).cell? ⟨w.heap.size, 0, none⟩ = some (.int .i64 kind) := blk_cell HBK3.out 0
        have c1 : (w2.alloc (.cells #[.int .i64 kind, .int .i64 fr, .int .i64 to_, .int .i64 id, .int .i64 ver, .string meth, .int .i64 err, .string body] 23)).cell? ⟨w.heap.size, 1, none⟩ = some (.int .i64 fr) := blk_cell HBK3.out 1
        have c2 : (w2.alloc (.cells #[.int .i64 kind, .int .i64 fr, .int .i64 to_, .int .i64 id, .int .i64 ver, .string meth, .int .i64 err, .string body] 23)).cell? ⟨w.heap.size, 2, none⟩ = some (.int .i64 to_) := blk_cell HBK3.out 2
        have c3 : (w2.alloc (.cells #[.int .i64 kind, .int .i64 fr, .int .i64 to_, .int .i64 id, .int .i64 ver, .string meth, .int .i64 err, .string body] 23)).cell? ⟨w.heap.size, 3, none⟩ = some (.int .i64 id) := blk_cell HBK3.out 3
        have c4 : (w2.alloc (.cells #[.int .i64 kind, .int .i64 fr, .int .i64 to_, .int .i64 id, .int .i64 ver, .string meth, .int .i64 err, .string body] 23)).cell? ⟨w.heap.size, 4, none⟩ = some (.int .i64 ver) := blk_cell HBK3.out 4
        have c5 : (w2.alloc (.cells #[.int .i64 kind, .int .i64 fr, .int .i64 to_, .int .i64 id, .int .i64 ver, .string meth, .int .i64 err, .string body] 23)).cell? ⟨w.heap.size, 5, none⟩ = some (.string meth) := blk_cell HBK3.out 5
        have c6 : (w2.alloc (.cells #[.int .i64 kind, .int .i64 fr, .int .i64 to_, .int .i64 id, .int .i64 ver, .string meth, .int .i64 err, .string body] 23)).cell? ⟨w.heap.size, 6, none⟩ = some (.int .i64 err) := blk_cell HBK3.out 6
        have c7 : (w2.alloc (.cells #[.int .i64 kind, .int .i64 fr, .int .i64 to_, .int .i64 id, .int .i64 ver, .string meth, .int .i64 err, .string body] 23)).cell? ⟨w.heap.size, 7, none⟩ = some (.string body) := blk_cell HBK3.out 7
        go_wp2_with fail
        refine (awake_any _ (tabs_below HT.out HB3.out)).mono ?_
        rintro e w6 ⟨rfl, hB6⟩
        have HB6 := Aside0.mk (HB3.out.trans (hB6.mono HB3.out.size))
        clear hB6
        go_wp2
        go_ret
        exact ⟨rfl, HB6.out⟩
end Go.Proofs.YtabcaeckoghmpaaDoor
