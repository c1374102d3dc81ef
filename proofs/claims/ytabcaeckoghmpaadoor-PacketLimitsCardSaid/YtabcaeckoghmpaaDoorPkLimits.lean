/- The law PacketLimits' walk. -/
import Derived.Test.YtabcaeckoghmpaaDoorPkOpen
import Derived.Test.YtabcaeckoghmpaaDoorPkEq
import Derived.Test.YtabcaeckoghmpaaDoorPkWhole
import Derived.Deep.CutBlock
namespace Go.Proofs.YtabcaeckoghmpaaDoor
set_option linter.unusedVariables false
set_option linter.unusedSimpArgs false
open Go.RowKit Go.Proofs.YtabcaeckoghmpaaDoorW.PrintWords

def lim1 : ByteArray := ⟨#[97, 98, 99, 100, 101, 102, 103, 104, 105, 106, 107, 108, 109, 110, 111, 112, 113, 114, 115, 116]⟩
def lim2 : ByteArray := ⟨#[97, 98, 99, 100, 101, 102, 103, 104, 105, 106, 107, 108, 109, 110, 111, 112, 113, 114, 115, 116, 117]⟩
theorem lim1_ok : nameG lim1 = true := by decide +kernel
theorem lim2_no : nameG lim2 = false := by decide +kernel
theorem pk_ok_of (kind fr to_ id ver : Int) (meth : ByteArray) (err : Int) (body : ByteArray) (h1 : inF kind 1 4 = true) (h2 : inF fr 0 255 = true) (h3 : inF to_ 0 255 = true) (h4 : inF id 0 4294967295 = true) (h5 : inF ver 0 12 = true) (h6 : nameG meth = true) (h7 : inF err 0 255 = true) (h8 : body.size ≤ 4096) : pkOk ⟨kind, fr, to_, id, ver, meth, err, body⟩ = true := by
  rw [pkOk]
  simp only [h1, h2, h3, h4, h5, h6, h7, Bool.or_true, Bool.and_true, Bool.true_and, decide_eq_true h8]
theorem pk_no_of (kind fr to_ id ver : Int) (meth : ByteArray) (err : Int) (body : ByteArray) (h : inF kind 1 4 = false ∨ inF fr 0 255 = false ∨ inF to_ 0 255 = false ∨ inF id 0 4294967295 = false ∨ inF ver 0 12 = false ∨ (decide (meth.size = 0) = false ∧ nameG meth = false) ∨ inF err 0 255 = false ∨ 4096 < body.size) : pkOk ⟨kind, fr, to_, id, ver, meth, err, body⟩ = false := by
  rw [pkOk]
  rcases h with h | h | h | h | h | h | h | h
  · simp only [h, Bool.false_and]
  · simp only [h, Bool.false_and, Bool.and_false]
  · simp only [h, Bool.false_and, Bool.and_false]
  · simp only [h, Bool.false_and, Bool.and_false]
  · simp only [h, Bool.false_and, Bool.and_false]
  · simp only [h.1, h.2, Bool.or_false, Bool.false_and, Bool.and_false]
  · simp only [h, Bool.false_and, Bool.and_false]
  · simp only [decide_eq_false (show ¬ body.size ≤ 4096 by omega), Bool.false_and, Bool.and_false]

set_option maxRecDepth 100000 in
set_option maxHeartbeats 4000000 in
theorem packetlimits_walk (w : World) (hT : Tabs w) :
    Calls Tryd.prog 7 #[] w fun e w' => e = .returned (.bool true) ∧ Below w.heap.size w w' := by
  have HT := Aside0.mk hT
  clear hT
  have hmk1 : ∀ W : World, (Instr.makeSlice 24 (.int .i64 4096) (.int .i64 4096)).run Tryd.prog W = .ok (.slice (some ⟨W.heap.size, 0, none⟩) 4096 4096) (W.alloc (.cells (madeCells #[.int .u8 0] 4096) 5)) := print_make (P := Tryd.prog) 24 5 .u8 1 Tryd.underlying24 info5 (by omega) 4096 (by omega)
  have hmk2 : ∀ W : World, (Instr.makeSlice 24 (.int .i64 4097) (.int .i64 4097)).run Tryd.prog W = .ok (.slice (some ⟨W.heap.size, 0, none⟩) 4097 4097) (W.alloc (.cells (madeCells #[.int .u8 0] 4097) 5)) := print_make (P := Tryd.prog) 24 5 .u8 1 Tryd.underlying24 info5 (by omega) 4097 (by omega)
  obtain ⟨bo, hbo⟩ : ∃ s, strOfNums (List.replicate 4096 (0 : Int)) = s := ⟨_, rfl⟩
  obtain ⟨bp, hbp⟩ : ∃ s, strOfNums (List.replicate 4097 (0 : Int)) = s := ⟨_, rfl⟩
  have HBO : Aside0 (bo.size = 4096) := ⟨by rw [← hbo, strOfNums_size, List.length_replicate]⟩
  have HBP : Aside0 (bp.size = 4097) := ⟨by rw [← hbp, strOfNums_size, List.length_replicate]⟩
  have hc1 : ∀ W : World, (convert 24 9 (.slice (some ⟨W.heap.size, 0, none⟩) 4096 4096)).run Tryd.prog (W.alloc (.cells (madeCells #[.int .u8 0] 4096) 5)) = .ok (.string bo) (W.alloc (.cells (madeCells #[.int .u8 0] 4096) 5)) := fun W => by
    rw [← hbo]
    exact str_own (own_made W W.heap.size 5 .u8 4096 (Nat.le_refl _) (by omega))
  have hc2 : ∀ W : World, (convert 24 9 (.slice (some ⟨W.heap.size, 0, none⟩) 4097 4097)).run Tryd.prog (W.alloc (.cells (madeCells #[.int .u8 0] 4097) 5)) = .ok (.string bp) (W.alloc (.cells (madeCells #[.int .u8 0] 4097) 5)) := fun W => by
    rw [← hbp]
    exact str_own (own_made W W.heap.size 5 .u8 4097 (Nat.le_refl _) (by omega))
  obtain ⟨K1, hK1⟩ : ∃ K, madeCells #[.int .u8 0] 4096 = K := ⟨_, rfl⟩
  obtain ⟨K2, hK2⟩ : ∃ K, madeCells #[.int .u8 0] 4097 = K := ⟨_, rfl⟩
  simp only [hK1, hK2] at hmk1 hmk2 hc1 hc2
  clear hK1 hK2 hbo hbp
  have HOK : Aside0 (pkOk ⟨4, 255, 255, 4294967295, 12, ⟨#[97, 98, 99, 100, 101, 102, 103, 104, 105, 106, 107, 108, 109, 110, 111, 112, 113, 114, 115, 116]⟩, 255, bo⟩ = true) := ⟨pk_ok_of _ _ _ _ _ _ _ _ (by decide) (by decide) (by decide) (by decide) (by decide) lim1_ok (by decide) (by rw [HBO.out]; decide)⟩
  obtain ⟨zs, hz⟩ : ∃ zs, putB ⟨4, 255, 255, 4294967295, 12, ⟨#[97, 98, 99, 100, 101, 102, 103, 104, 105, 106, 107, 108, 109, 110, 111, 112, 113, 114, 115, 116]⟩, 255, bo⟩ = zs := ⟨_, rfl⟩
  have HZ := Aside0.mk hz
  have HLEN : Aside0 (14 ≤ zs.length ∧ zs.length ≤ 5000) := ⟨hz ▸ put_length_le HOK.out⟩
  have HZW : Aside0 (∀ x ∈ zs, 0 ≤ x ∧ x ≤ 255) := ⟨hz ▸ put_bytes HOK.out⟩
  have HG : Aside0 (getB zs = (⟨4, 255, 255, 4294967295, 12, ⟨#[97, 98, 99, 100, 101, 102, 103, 104, 105, 106, 107, 108, 109, 110, 111, 112, 113, 114, 115, 116]⟩, 255, bo⟩, 0)) := ⟨by rw [← hz]; exact crcF_get HOK.out⟩
  have HNO : Aside0 (pkOk ⟨5, 255, 255, 4294967295, 12, ⟨#[97, 98, 99, 100, 101, 102, 103, 104, 105, 106, 107, 108, 109, 110, 111, 112, 113, 114, 115, 116]⟩, 255, bo⟩ = false ∧ pkOk ⟨4, 256, 255, 4294967295, 12, ⟨#[97, 98, 99, 100, 101, 102, 103, 104, 105, 106, 107, 108, 109, 110, 111, 112, 113, 114, 115, 116]⟩, 255, bo⟩ = false ∧ pkOk ⟨4, 255, (-1), 4294967295, 12, ⟨#[97, 98, 99, 100, 101, 102, 103, 104, 105, 106, 107, 108, 109, 110, 111, 112, 113, 114, 115, 116]⟩, 255, bo⟩ = false ∧ pkOk ⟨4, 255, 255, 4294967296, 12, ⟨#[97, 98, 99, 100, 101, 102, 103, 104, 105, 106, 107, 108, 109, 110, 111, 112, 113, 114, 115, 116]⟩, 255, bo⟩ = false ∧ pkOk ⟨4, 255, 255, 4294967295, 13, ⟨#[97, 98, 99, 100, 101, 102, 103, 104, 105, 106, 107, 108, 109, 110, 111, 112, 113, 114, 115, 116]⟩, 255, bo⟩ = false ∧ pkOk ⟨4, 255, 255, 4294967295, 12, ⟨#[97, 98, 99, 100, 101, 102, 103, 104, 105, 106, 107, 108, 109, 110, 111, 112, 113, 114, 115, 116]⟩, 256, bo⟩ = false ∧ pkOk ⟨4, 255, 255, 4294967295, 12, ⟨#[97, 98, 99, 100, 101, 102, 103, 104, 105, 106, 107, 108, 109, 110, 111, 112, 113, 114, 115, 116, 117]⟩, 255, bo⟩ = false ∧ pkOk ⟨4, 255, 255, 4294967295, 12, ⟨#[97, 98, 99, 100, 101, 102, 103, 104, 105, 106, 107, 108, 109, 110, 111, 112, 113, 114, 115, 116]⟩, 255, bp⟩ = false) := ⟨⟨pk_no_of _ _ _ _ _ _ _ _ (.inl (by decide)), pk_no_of _ _ _ _ _ _ _ _ (.inr (.inl (by decide))), pk_no_of _ _ _ _ _ _ _ _ (.inr (.inr (.inl (by decide)))), pk_no_of _ _ _ _ _ _ _ _ (.inr (.inr (.inr (.inl (by decide))))), pk_no_of _ _ _ _ _ _ _ _ (.inr (.inr (.inr (.inr (.inl (by decide)))))), pk_no_of _ _ _ _ _ _ _ _ (.inr (.inr (.inr (.inr (.inr (.inr (.inl (by decide)))))))), pk_no_of _ _ _ _ _ _ _ _ (.inr (.inr (.inr (.inr (.inr (.inl ⟨by decide, lim2_no⟩)))))), pk_no_of _ _ _ _ _ _ _ _ (.inr (.inr (.inr (.inr (.inr (.inr (.inr (by rw [HBP.out]; decide))))))))⟩⟩
  clear hz
  go_enter Tryd.func7, Tryd.ntmps7
  go_wp2_with fail
  obtain ⟨m1, hm1⟩ : ∃ m, (⟨#[97, 98, 99, 100, 101, 102, 103, 104, 105, 106, 107, 108, 109, 110, 111, 112, 113, 114, 115, 116]⟩ : ByteArray) = m := ⟨_, rfl⟩
  have HSZ1 : Aside0 (m1.size ≤ 4611686018427387904) := ⟨by rw [← hm1]; decide⟩
  have HSZ2 : Aside0 ((⟨#[97, 98, 99, 100, 101, 102, 103, 104, 105, 106, 107, 108, 109, 110, 111, 112, 113, 114, 115, 116, 117]⟩ : ByteArray).size ≤ 4611686018427387904) := ⟨by decide⟩
  simp only [hm1] at HOK HZ HG HNO ⊢
  clear hm1
  change Calls _ _ _ ((w.alloc (.cells K1 5)).alloc (.cells #[.int .i64 4, .int .i64 255, .int .i64 255, .int .i64 4294967295, .int .i64 12, .string m1, .int .i64 255, .string bo] 23)) _
  have HP0 := Aside0.mk (heap_alloc_new (w.alloc (.cells K1 5)) (.cells #[.int .i64 4, .int .i64 255, .int .i64 255, .int .i64 4294967295, .int .i64 12, .string m1, .int .i64 255, .string bo] 23))
  have HB0 : Aside0 (Below w.heap.size w ((w.alloc (.cells K1 5)).alloc (.cells #[.int .i64 4, .int .i64 255, .int .i64 255, .int .i64 4294967295, .int .i64 12, .string m1, .int .i64 255, .string bo] 23))) := ⟨(((Below.refl _ _).alloc (Nat.le_refl _) _).alloc (by simp) _)⟩
  have hsz : (w.alloc (.cells K1 5)).heap.size = w.heap.size + 1 := by simp
  rw [hsz] at HP0
  obtain ⟨w0, hw0⟩ : ∃ w0, (w.alloc (.cells K1 5)).alloc (.cells #[.int .i64 4, .int .i64 255, .int .i64 255, .int .i64 4294967295, .int .i64 12, .string m1, .int .i64 255, .string bo] 23) = w0 := ⟨_, rfl⟩
  rw [hw0] at HP0 HB0 ⊢
  clear hw0 hsz
  refine (put_any ⟨4, 255, 255, 4294967295, 12, m1, 255, bo⟩ w0 (tabs_below HT.out HB0.out) HSZ1.out (show bo.size ≤ 4611686018427387904 by rw [HBO.out]; decide) true HOK zs ⟨HZ.out⟩).mono ?_
  rintro e w1 ⟨v1, rfl, ho, hB1⟩
  have HB1 := Aside0.mk (HB0.out.trans (hB1.out.mono HB0.out.size))
  have HP1 : Aside0 (w1.heap[w.heap.size + 1]? = some (.cells #[.int .i64 4, .int .i64 255, .int .i64 255, .int .i64 4294967295, .int .i64 12, .string m1, .int .i64 255, .string bo] 23 (0, 0))) := ⟨by rw [hB1.out.block _ (blk_lt HP0.out)]; exact HP0.out⟩
  obtain ⟨A1, n1, rfl, hr1⟩ := own_reads ho.out
  have HR1 := Aside0.mk hr1
  have HC1 := Aside0.mk (own_le ho.out)
  clear hr1
  go_wp2_with fail
  refine (get_any A1 zs.length n1 zs w1 rfl HR1.out HC1.out (by have := HLEN.out; omega) HZW.out (tabs_below HT.out HB1.out) ⟨4, 255, 255, 4294967295, 12, m1, 255, bo⟩ 0 HG).mono ?_
  rintro e w2 ⟨rfl, hB2⟩
  have HB2 := Aside0.mk (HB1.out.trans (hB2.mono HB1.out.size))
  have HP2 : Aside0 (w2.heap[w.heap.size + 1]? = some (.cells #[.int .i64 4, .int .i64 255, .int .i64 255, .int .i64 4294967295, .int .i64 12, .string m1, .int .i64 255, .string bo] 23 (0, 0))) := ⟨by rw [hB2.block _ (blk_lt HP1.out)]; exact HP1.out⟩
  have HR2 := Aside0.mk (HR1.out.below hB2)
  clear hB2
  unfold pkV
  have hP3 : (w2.alloc (.cells #[.int .i64 4, .int .i64 255, .int .i64 255, .int .i64 4294967295, .int .i64 12, .string m1, .int .i64 255, .string bo] 23)).heap[w.heap.size + 1]? = some (.cells #[.int .i64 4, .int .i64 255, .int .i64 255, .int .i64 4294967295, .int .i64 12, .string m1, .int .i64 255, .string bo] 23 (0, 0)) := by rw [((Below.refl w2.heap.size w2).alloc (Nat.le_refl _) _).block _ (blk_lt HP2.out)]; exact HP2.out
  have c0 : (w2.alloc (.cells #[.int .i64 4, .int .i64 255, .int .i64 255, .int .i64 4294967295, .int .i64 12, .string m1, .int .i64 255, .string bo] 23)).cell? ⟨w.heap.size + 1, 0, none⟩ = some (.int .i64 4) := blk_cell hP3 0
  have c1 : (w2.alloc (.cells #[.int .i64 4, .int .i64 255, .int .i64 255, .int .i64 4294967295, .int .i64 12, .string m1, .int .i64 255, .string bo] 23)).cell? ⟨w.heap.size + 1, 1, none⟩ = some (.int .i64 255) := blk_cell hP3 1
  have c2 : (w2.alloc (.cells #[.int .i64 4, .int .i64 255, .int .i64 255, .int .i64 4294967295, .int .i64 12, .string m1, .int .i64 255, .string bo] 23)).cell? ⟨w.heap.size + 1, 2, none⟩ = some (.int .i64 255) := blk_cell hP3 2
  have c3 : (w2.alloc (.cells #[.int .i64 4, .int .i64 255, .int .i64 255, .int .i64 4294967295, .int .i64 12, .string m1, .int .i64 255, .string bo] 23)).cell? ⟨w.heap.size + 1, 3, none⟩ = some (.int .i64 4294967295) := blk_cell hP3 3
  have c4 : (w2.alloc (.cells #[.int .i64 4, .int .i64 255, .int .i64 255, .int .i64 4294967295, .int .i64 12, .string m1, .int .i64 255, .string bo] 23)).cell? ⟨w.heap.size + 1, 4, none⟩ = some (.int .i64 12) := blk_cell hP3 4
  have c5 : (w2.alloc (.cells #[.int .i64 4, .int .i64 255, .int .i64 255, .int .i64 4294967295, .int .i64 12, .string m1, .int .i64 255, .string bo] 23)).cell? ⟨w.heap.size + 1, 5, none⟩ = some (.string m1) := blk_cell hP3 5
  have c6 : (w2.alloc (.cells #[.int .i64 4, .int .i64 255, .int .i64 255, .int .i64 4294967295, .int .i64 12, .string m1, .int .i64 255, .string bo] 23)).cell? ⟨w.heap.size + 1, 6, none⟩ = some (.int .i64 255) := blk_cell hP3 6
  have c7 : (w2.alloc (.cells #[.int .i64 4, .int .i64 255, .int .i64 255, .int .i64 4294967295, .int .i64 12, .string m1, .int .i64 255, .string bo] 23)).cell? ⟨w.heap.size + 1, 7, none⟩ = some (.string bo) := blk_cell hP3 7
  have hbb := fun (W : World) (cur : Array Value) => heap_alloc_new W (.cells cur 38)
  have hinf : (Tryd.prog.info? 38).map (·.size) = some 64 := by kernel_rfl
  go_upto_region 7 with (refine gate_ (.store 38 (.tmp 6) (.tmp 42)) rfl ?_; refine store_all rfl rfl 38 (.tmp 6) (.tmp 42) rfl [.int .i64 4, .int .i64 255, .int .i64 255, .int .i64 4294967295, .int .i64 12, .string m1, .int .i64 255, .string bo, .int .i64 4, .int .i64 255, .int .i64 255, .int .i64 4294967295, .int .i64 12, .string m1, .int .i64 255, .string bo, .int .i64 4, .int .i64 255, .int .i64 255, .int .i64 4294967295, .int .i64 12, .string m1, .int .i64 255, .string bo, .int .i64 4, .int .i64 255, .int .i64 255, .int .i64 4294967295, .int .i64 12, .string m1, .int .i64 255, .string bo, .int .i64 4, .int .i64 255, .int .i64 255, .int .i64 4294967295, .int .i64 12, .string m1, .int .i64 255, .string bo, .int .i64 4, .int .i64 255, .int .i64 255, .int .i64 4294967295, .int .i64 12, .string m1, .int .i64 255, .string bo, .int .i64 4, .int .i64 255, .int .i64 255, .int .i64 4294967295, .int .i64 12, .string m1, .int .i64 255, .string bo, .int .i64 4, .int .i64 255, .int .i64 255, .int .i64 4294967295, .int .i64 12, .string m1, .int .i64 255, .string bo] rfl rfl (alloc_next _ _ _) rfl hinf rfl (by intro q hq; simp only [List.mem_cons, List.not_mem_nil, or_false] at hq; rcases hq with rfl | rfl | rfl | rfl | rfl | rfl | rfl | rfl | rfl | rfl | rfl | rfl | rfl | rfl | rfl | rfl | rfl | rfl | rfl | rfl | rfl | rfl | rfl | rfl | rfl | rfl | rfl | rfl | rfl | rfl | rfl | rfl | rfl | rfl | rfl | rfl | rfl | rfl | rfl | rfl | rfl | rfl | rfl | rfl | rfl | rfl | rfl | rfl | rfl | rfl | rfl | rfl | rfl | rfl | rfl | rfl | rfl | rfl | rfl | rfl | rfl | rfl | rfl | rfl <;> rfl) ?_; intro w5 hA5 hB5; have HA5 := Aside0.mk hA5; have HB5 := Aside0.mk (hB5 w2.heap.size w2 (((Below.refl _ _).alloc (Nat.le_refl _) _).alloc (by simp) _) (Nat.le_succ _)); clear hA5 hB5)
  obtain ⟨g, hg⟩ : ∃ g, w2.heap.size + 1 = g := ⟨_, rfl⟩
  have hgw : w2.heap.size ≤ g := by rw [← hg]; exact Nat.le_succ _
  simp only [hg] at HA5 ⊢
  clear hg hP3 c0 c1 c2 c3 c4 c5 c6 c7
  have HA20 := HA5
  have HB20 := HB5
  have z0 : w5.cell? ⟨g, 0, none⟩ = some (.int .i64 4) := blk_cell HA20.out 0
  have f0 : w5.frozen? ⟨g, 0, none⟩ = false := blk_frozen HA20.out 0
  go_upto_region 8 with fail
  change Code.wp _ _ _ _ (w5.setCell ⟨g, 0, none⟩ (.int .i64 5))
  have HA21 : Aside0 ((w5.setCell ⟨g, 0, none⟩ (.int .i64 5)).heap[g]? = some (.cells #[.int .i64 5, .int .i64 255, .int .i64 255, .int .i64 4294967295, .int .i64 12, .string m1, .int .i64 255, .string bo, .int .i64 4, .int .i64 255, .int .i64 255, .int .i64 4294967295, .int .i64 12, .string m1, .int .i64 255, .string bo, .int .i64 4, .int .i64 255, .int .i64 255, .int .i64 4294967295, .int .i64 12, .string m1, .int .i64 255, .string bo, .int .i64 4, .int .i64 255, .int .i64 255, .int .i64 4294967295, .int .i64 12, .string m1, .int .i64 255, .string bo, .int .i64 4, .int .i64 255, .int .i64 255, .int .i64 4294967295, .int .i64 12, .string m1, .int .i64 255, .string bo, .int .i64 4, .int .i64 255, .int .i64 255, .int .i64 4294967295, .int .i64 12, .string m1, .int .i64 255, .string bo, .int .i64 4, .int .i64 255, .int .i64 255, .int .i64 4294967295, .int .i64 12, .string m1, .int .i64 255, .string bo, .int .i64 4, .int .i64 255, .int .i64 255, .int .i64 4294967295, .int .i64 12, .string m1, .int .i64 255, .string bo] 38 (0, 0))) := ⟨by have h := blk_set HA20.out 0 (.int .i64 5); simp only [List.setIfInBounds_toArray, List.set_cons_zero, List.set_cons_succ] at h; exact h⟩
  have HB21 := Aside0.mk (HB20.out.setCell (p := ⟨g, 0, none⟩) hgw (.int .i64 5))
  obtain ⟨w21, hw21⟩ : ∃ v, w5.setCell ⟨g, 0, none⟩ (.int .i64 5) = v := ⟨_, rfl⟩
  rw [hw21] at HA21 HB21 ⊢
  clear hw21 z0 f0
  have z1 : w21.cell? ⟨g, 9, none⟩ = some (.int .i64 255) := blk_cell HA21.out 9
  have f1 : w21.frozen? ⟨g, 9, none⟩ = false := blk_frozen HA21.out 9
  go_upto_region 9 with fail
  change Code.wp _ _ _ _ (w21.setCell ⟨g, 9, none⟩ (.int .i64 256))
  have HA22 : Aside0 ((w21.setCell ⟨g, 9, none⟩ (.int .i64 256)).heap[g]? = some (.cells #[.int .i64 5, .int .i64 255, .int .i64 255, .int .i64 4294967295, .int .i64 12, .string m1, .int .i64 255, .string bo, .int .i64 4, .int .i64 256, .int .i64 255, .int .i64 4294967295, .int .i64 12, .string m1, .int .i64 255, .string bo, .int .i64 4, .int .i64 255, .int .i64 255, .int .i64 4294967295, .int .i64 12, .string m1, .int .i64 255, .string bo, .int .i64 4, .int .i64 255, .int .i64 255, .int .i64 4294967295, .int .i64 12, .string m1, .int .i64 255, .string bo, .int .i64 4, .int .i64 255, .int .i64 255, .int .i64 4294967295, .int .i64 12, .string m1, .int .i64 255, .string bo, .int .i64 4, .int .i64 255, .int .i64 255, .int .i64 4294967295, .int .i64 12, .string m1, .int .i64 255, .string bo, .int .i64 4, .int .i64 255, .int .i64 255, .int .i64 4294967295, .int .i64 12, .string m1, .int .i64 255, .string bo, .int .i64 4, .int .i64 255, .int .i64 255, .int .i64 4294967295, .int .i64 12, .string m1, .int .i64 255, .string bo] 38 (0, 0))) := ⟨by have h := blk_set HA21.out 9 (.int .i64 256); simp only [List.setIfInBounds_toArray, List.set_cons_zero, List.set_cons_succ] at h; exact h⟩
  have HB22 := Aside0.mk (HB21.out.setCell (p := ⟨g, 9, none⟩) hgw (.int .i64 256))
  obtain ⟨w22, hw22⟩ : ∃ v, w21.setCell ⟨g, 9, none⟩ (.int .i64 256) = v := ⟨_, rfl⟩
  rw [hw22] at HA22 HB22 ⊢
  clear hw22 z1 f1
  have z2 : w22.cell? ⟨g, 18, none⟩ = some (.int .i64 255) := blk_cell HA22.out 18
  have f2 : w22.frozen? ⟨g, 18, none⟩ = false := blk_frozen HA22.out 18
  go_upto_region 10 with fail
  change Code.wp _ _ _ _ (w22.setCell ⟨g, 18, none⟩ (.int .i64 (-1)))
  have HA23 : Aside0 ((w22.setCell ⟨g, 18, none⟩ (.int .i64 (-1))).heap[g]? = some (.cells #[.int .i64 5, .int .i64 255, .int .i64 255, .int .i64 4294967295, .int .i64 12, .string m1, .int .i64 255, .string bo, .int .i64 4, .int .i64 256, .int .i64 255, .int .i64 4294967295, .int .i64 12, .string m1, .int .i64 255, .string bo, .int .i64 4, .int .i64 255, .int .i64 (-1), .int .i64 4294967295, .int .i64 12, .string m1, .int .i64 255, .string bo, .int .i64 4, .int .i64 255, .int .i64 255, .int .i64 4294967295, .int .i64 12, .string m1, .int .i64 255, .string bo, .int .i64 4, .int .i64 255, .int .i64 255, .int .i64 4294967295, .int .i64 12, .string m1, .int .i64 255, .string bo, .int .i64 4, .int .i64 255, .int .i64 255, .int .i64 4294967295, .int .i64 12, .string m1, .int .i64 255, .string bo, .int .i64 4, .int .i64 255, .int .i64 255, .int .i64 4294967295, .int .i64 12, .string m1, .int .i64 255, .string bo, .int .i64 4, .int .i64 255, .int .i64 255, .int .i64 4294967295, .int .i64 12, .string m1, .int .i64 255, .string bo] 38 (0, 0))) := ⟨by have h := blk_set HA22.out 18 (.int .i64 (-1)); simp only [List.setIfInBounds_toArray, List.set_cons_zero, List.set_cons_succ] at h; exact h⟩
  have HB23 := Aside0.mk (HB22.out.setCell (p := ⟨g, 18, none⟩) hgw (.int .i64 (-1)))
  obtain ⟨w23, hw23⟩ : ∃ v, w22.setCell ⟨g, 18, none⟩ (.int .i64 (-1)) = v := ⟨_, rfl⟩
  rw [hw23] at HA23 HB23 ⊢
  clear hw23 z2 f2
  have z3 : w23.cell? ⟨g, 27, none⟩ = some (.int .i64 4294967295) := blk_cell HA23.out 27
  have f3 : w23.frozen? ⟨g, 27, none⟩ = false := blk_frozen HA23.out 27
  go_upto_region 11 with fail
  change Code.wp _ _ _ _ (w23.setCell ⟨g, 27, none⟩ (.int .i64 4294967296))
  have HA24 : Aside0 ((w23.setCell ⟨g, 27, none⟩ (.int .i64 4294967296)).heap[g]? = some (.cells #[.int .i64 5, .int .i64 255, .int .i64 255, .int .i64 4294967295, .int .i64 12, .string m1, .int .i64 255, .string bo, .int .i64 4, .int .i64 256, .int .i64 255, .int .i64 4294967295, .int .i64 12, .string m1, .int .i64 255, .string bo, .int .i64 4, .int .i64 255, .int .i64 (-1), .int .i64 4294967295, .int .i64 12, .string m1, .int .i64 255, .string bo, .int .i64 4, .int .i64 255, .int .i64 255, .int .i64 4294967296, .int .i64 12, .string m1, .int .i64 255, .string bo, .int .i64 4, .int .i64 255, .int .i64 255, .int .i64 4294967295, .int .i64 12, .string m1, .int .i64 255, .string bo, .int .i64 4, .int .i64 255, .int .i64 255, .int .i64 4294967295, .int .i64 12, .string m1, .int .i64 255, .string bo, .int .i64 4, .int .i64 255, .int .i64 255, .int .i64 4294967295, .int .i64 12, .string m1, .int .i64 255, .string bo, .int .i64 4, .int .i64 255, .int .i64 255, .int .i64 4294967295, .int .i64 12, .string m1, .int .i64 255, .string bo] 38 (0, 0))) := ⟨by have h := blk_set HA23.out 27 (.int .i64 4294967296); simp only [List.setIfInBounds_toArray, List.set_cons_zero, List.set_cons_succ] at h; exact h⟩
  have HB24 := Aside0.mk (HB23.out.setCell (p := ⟨g, 27, none⟩) hgw (.int .i64 4294967296))
  obtain ⟨w24, hw24⟩ : ∃ v, w23.setCell ⟨g, 27, none⟩ (.int .i64 4294967296) = v := ⟨_, rfl⟩
  rw [hw24] at HA24 HB24 ⊢
  clear hw24 z3 f3
  have z4 : w24.cell? ⟨g, 36, none⟩ = some (.int .i64 12) := blk_cell HA24.out 36
  have f4 : w24.frozen? ⟨g, 36, none⟩ = false := blk_frozen HA24.out 36
  go_upto_region 12 with fail
  change Code.wp _ _ _ _ (w24.setCell ⟨g, 36, none⟩ (.int .i64 13))
  have HA25 : Aside0 ((w24.setCell ⟨g, 36, none⟩ (.int .i64 13)).heap[g]? = some (.cells #[.int .i64 5, .int .i64 255, .int .i64 255, .int .i64 4294967295, .int .i64 12, .string m1, .int .i64 255, .string bo, .int .i64 4, .int .i64 256, .int .i64 255, .int .i64 4294967295, .int .i64 12, .string m1, .int .i64 255, .string bo, .int .i64 4, .int .i64 255, .int .i64 (-1), .int .i64 4294967295, .int .i64 12, .string m1, .int .i64 255, .string bo, .int .i64 4, .int .i64 255, .int .i64 255, .int .i64 4294967296, .int .i64 12, .string m1, .int .i64 255, .string bo, .int .i64 4, .int .i64 255, .int .i64 255, .int .i64 4294967295, .int .i64 13, .string m1, .int .i64 255, .string bo, .int .i64 4, .int .i64 255, .int .i64 255, .int .i64 4294967295, .int .i64 12, .string m1, .int .i64 255, .string bo, .int .i64 4, .int .i64 255, .int .i64 255, .int .i64 4294967295, .int .i64 12, .string m1, .int .i64 255, .string bo, .int .i64 4, .int .i64 255, .int .i64 255, .int .i64 4294967295, .int .i64 12, .string m1, .int .i64 255, .string bo] 38 (0, 0))) := ⟨by have h := blk_set HA24.out 36 (.int .i64 13); simp only [List.setIfInBounds_toArray, List.set_cons_zero, List.set_cons_succ] at h; exact h⟩
  have HB25 := Aside0.mk (HB24.out.setCell (p := ⟨g, 36, none⟩) hgw (.int .i64 13))
  obtain ⟨w25, hw25⟩ : ∃ v, w24.setCell ⟨g, 36, none⟩ (.int .i64 13) = v := ⟨_, rfl⟩
  rw [hw25] at HA25 HB25 ⊢
  clear hw25 z4 f4
  have z5 : w25.cell? ⟨g, 46, none⟩ = some (.int .i64 255) := blk_cell HA25.out 46
  have f5 : w25.frozen? ⟨g, 46, none⟩ = false := blk_frozen HA25.out 46
  go_upto_region 13 with fail
  change Code.wp _ _ _ _ (w25.setCell ⟨g, 46, none⟩ (.int .i64 256))
  have HA26 : Aside0 ((w25.setCell ⟨g, 46, none⟩ (.int .i64 256)).heap[g]? = some (.cells #[.int .i64 5, .int .i64 255, .int .i64 255, .int .i64 4294967295, .int .i64 12, .string m1, .int .i64 255, .string bo, .int .i64 4, .int .i64 256, .int .i64 255, .int .i64 4294967295, .int .i64 12, .string m1, .int .i64 255, .string bo, .int .i64 4, .int .i64 255, .int .i64 (-1), .int .i64 4294967295, .int .i64 12, .string m1, .int .i64 255, .string bo, .int .i64 4, .int .i64 255, .int .i64 255, .int .i64 4294967296, .int .i64 12, .string m1, .int .i64 255, .string bo, .int .i64 4, .int .i64 255, .int .i64 255, .int .i64 4294967295, .int .i64 13, .string m1, .int .i64 255, .string bo, .int .i64 4, .int .i64 255, .int .i64 255, .int .i64 4294967295, .int .i64 12, .string m1, .int .i64 256, .string bo, .int .i64 4, .int .i64 255, .int .i64 255, .int .i64 4294967295, .int .i64 12, .string m1, .int .i64 255, .string bo, .int .i64 4, .int .i64 255, .int .i64 255, .int .i64 4294967295, .int .i64 12, .string m1, .int .i64 255, .string bo] 38 (0, 0))) := ⟨by have h := blk_set HA25.out 46 (.int .i64 256); simp only [List.setIfInBounds_toArray, List.set_cons_zero, List.set_cons_succ] at h; exact h⟩
  have HB26 := Aside0.mk (HB25.out.setCell (p := ⟨g, 46, none⟩) hgw (.int .i64 256))
  obtain ⟨w26, hw26⟩ : ∃ v, w25.setCell ⟨g, 46, none⟩ (.int .i64 256) = v := ⟨_, rfl⟩
  rw [hw26] at HA26 HB26 ⊢
  clear hw26 z5 f5
  have z6 : w26.cell? ⟨g, 53, none⟩ = some (.string m1) := blk_cell HA26.out 53
  have f6 : w26.frozen? ⟨g, 53, none⟩ = false := blk_frozen HA26.out 53
  go_upto_region 14 with fail
  change Code.wp _ _ _ _ (w26.setCell ⟨g, 53, none⟩ (.string ⟨#[97, 98, 99, 100, 101, 102, 103, 104, 105, 106, 107, 108, 109, 110, 111, 112, 113, 114, 115, 116, 117]⟩))
  have HA27 : Aside0 ((w26.setCell ⟨g, 53, none⟩ (.string ⟨#[97, 98, 99, 100, 101, 102, 103, 104, 105, 106, 107, 108, 109, 110, 111, 112, 113, 114, 115, 116, 117]⟩)).heap[g]? = some (.cells #[.int .i64 5, .int .i64 255, .int .i64 255, .int .i64 4294967295, .int .i64 12, .string m1, .int .i64 255, .string bo, .int .i64 4, .int .i64 256, .int .i64 255, .int .i64 4294967295, .int .i64 12, .string m1, .int .i64 255, .string bo, .int .i64 4, .int .i64 255, .int .i64 (-1), .int .i64 4294967295, .int .i64 12, .string m1, .int .i64 255, .string bo, .int .i64 4, .int .i64 255, .int .i64 255, .int .i64 4294967296, .int .i64 12, .string m1, .int .i64 255, .string bo, .int .i64 4, .int .i64 255, .int .i64 255, .int .i64 4294967295, .int .i64 13, .string m1, .int .i64 255, .string bo, .int .i64 4, .int .i64 255, .int .i64 255, .int .i64 4294967295, .int .i64 12, .string m1, .int .i64 256, .string bo, .int .i64 4, .int .i64 255, .int .i64 255, .int .i64 4294967295, .int .i64 12, .string ⟨#[97, 98, 99, 100, 101, 102, 103, 104, 105, 106, 107, 108, 109, 110, 111, 112, 113, 114, 115, 116, 117]⟩, .int .i64 255, .string bo, .int .i64 4, .int .i64 255, .int .i64 255, .int .i64 4294967295, .int .i64 12, .string m1, .int .i64 255, .string bo] 38 (0, 0))) := ⟨by have h := blk_set HA26.out 53 (.string ⟨#[97, 98, 99, 100, 101, 102, 103, 104, 105, 106, 107, 108, 109, 110, 111, 112, 113, 114, 115, 116, 117]⟩); simp only [List.setIfInBounds_toArray, List.set_cons_zero, List.set_cons_succ] at h; exact h⟩
  have HB27 := Aside0.mk (HB26.out.setCell (p := ⟨g, 53, none⟩) hgw (.string ⟨#[97, 98, 99, 100, 101, 102, 103, 104, 105, 106, 107, 108, 109, 110, 111, 112, 113, 114, 115, 116, 117]⟩))
  obtain ⟨w27, hw27⟩ : ∃ v, w26.setCell ⟨g, 53, none⟩ (.string ⟨#[97, 98, 99, 100, 101, 102, 103, 104, 105, 106, 107, 108, 109, 110, 111, 112, 113, 114, 115, 116, 117]⟩) = v := ⟨_, rfl⟩
  rw [hw27] at HA27 HB27 ⊢
  clear hw27 z6 f6
  have HA27b : Aside0 ((w27.alloc (.cells K2 5)).heap[g]? = some (.cells #[.int .i64 5, .int .i64 255, .int .i64 255, .int .i64 4294967295, .int .i64 12, .string m1, .int .i64 255, .string bo, .int .i64 4, .int .i64 256, .int .i64 255, .int .i64 4294967295, .int .i64 12, .string m1, .int .i64 255, .string bo, .int .i64 4, .int .i64 255, .int .i64 (-1), .int .i64 4294967295, .int .i64 12, .string m1, .int .i64 255, .string bo, .int .i64 4, .int .i64 255, .int .i64 255, .int .i64 4294967296, .int .i64 12, .string m1, .int .i64 255, .string bo, .int .i64 4, .int .i64 255, .int .i64 255, .int .i64 4294967295, .int .i64 13, .string m1, .int .i64 255, .string bo, .int .i64 4, .int .i64 255, .int .i64 255, .int .i64 4294967295, .int .i64 12, .string m1, .int .i64 256, .string bo, .int .i64 4, .int .i64 255, .int .i64 255, .int .i64 4294967295, .int .i64 12, .string ⟨#[97, 98, 99, 100, 101, 102, 103, 104, 105, 106, 107, 108, 109, 110, 111, 112, 113, 114, 115, 116, 117]⟩, .int .i64 255, .string bo, .int .i64 4, .int .i64 255, .int .i64 255, .int .i64 4294967295, .int .i64 12, .string m1, .int .i64 255, .string bo] 38 (0, 0))) := ⟨by rw [((Below.refl w27.heap.size w27).alloc (Nat.le_refl _) _).block _ (blk_lt HA27.out)]; exact HA27.out⟩
  have HB27b := Aside0.mk (HB27.out.alloc HB27.out.size (.cells K2 5))
  have z7 : (w27.alloc (.cells K2 5)).cell? ⟨g, 63, none⟩ = some (.string bo) := blk_cell HA27b.out 63
  have f7 : (w27.alloc (.cells K2 5)).frozen? ⟨g, 63, none⟩ = false := blk_frozen HA27b.out 63
  go_upto_region 15 with fail
  change Code.wp _ _ _ _ ((w27.alloc (.cells K2 5)).setCell ⟨g, 63, none⟩ (.string bp))
  have HA28 : Aside0 (((w27.alloc (.cells K2 5)).setCell ⟨g, 63, none⟩ (.string bp)).heap[g]? = some (.cells #[.int .i64 5, .int .i64 255, .int .i64 255, .int .i64 4294967295, .int .i64 12, .string m1, .int .i64 255, .string bo, .int .i64 4, .int .i64 256, .int .i64 255, .int .i64 4294967295, .int .i64 12, .string m1, .int .i64 255, .string bo, .int .i64 4, .int .i64 255, .int .i64 (-1), .int .i64 4294967295, .int .i64 12, .string m1, .int .i64 255, .string bo, .int .i64 4, .int .i64 255, .int .i64 255, .int .i64 4294967296, .int .i64 12, .string m1, .int .i64 255, .string bo, .int .i64 4, .int .i64 255, .int .i64 255, .int .i64 4294967295, .int .i64 13, .string m1, .int .i64 255, .string bo, .int .i64 4, .int .i64 255, .int .i64 255, .int .i64 4294967295, .int .i64 12, .string m1, .int .i64 256, .string bo, .int .i64 4, .int .i64 255, .int .i64 255, .int .i64 4294967295, .int .i64 12, .string ⟨#[97, 98, 99, 100, 101, 102, 103, 104, 105, 106, 107, 108, 109, 110, 111, 112, 113, 114, 115, 116, 117]⟩, .int .i64 255, .string bo, .int .i64 4, .int .i64 255, .int .i64 255, .int .i64 4294967295, .int .i64 12, .string m1, .int .i64 255, .string bp] 38 (0, 0))) := ⟨by have h := blk_set HA27b.out 63 (.string bp); simp only [List.setIfInBounds_toArray, List.set_cons_zero, List.set_cons_succ] at h; exact h⟩
  have HB28 := Aside0.mk (HB27b.out.setCell (p := ⟨g, 63, none⟩) hgw (.string bp))
  obtain ⟨w28, hw28⟩ : ∃ v, (w27.alloc (.cells K2 5)).setCell ⟨g, 63, none⟩ (.string bp) = v := ⟨_, rfl⟩
  rw [hw28] at HA28 HB28 ⊢
  clear hw28 z7 f7
  have HD28 := HB28
  replace HB28 := Aside0.mk (HB2.out.trans (HD28.out.mono HB2.out.size))
  go_wp2_with fail
  have hbo4 : bo.size ≤ 4611686018427387904 := by rw [HBO.out]; decide
  have hbp4 : bp.size ≤ 4611686018427387904 := by rw [HBP.out]; decide
  have HB4 := Aside0.mk (And.intro hbo4 hbp4)
  clear hbo4 hbp4
  go_loopw [7] (fun u wr => ∃ i : Nat, u = .int .i64 (i : Int) ∧ i ≤ 8 ∧ Aside0 (Below w28.heap.size w28 wr)) (fun u _ => 8 - (intOf u).toNat)
  case atStart => exact ⟨0, rfl, by omega, ⟨Below.refl _ _⟩⟩
  case round =>
    obtain ⟨i, rfl, hi, HBr⟩ := hrel
    have HBq := Aside0.mk (HB28.out.trans (HBr.out.mono HB28.out.size))
    by_cases hlt : i < 8
    · have har : wr.heap[g]? = some (.cells #[.int .i64 5, .int .i64 255, .int .i64 255, .int .i64 4294967295, .int .i64 12, .string m1, .int .i64 255, .string bo, .int .i64 4, .int .i64 256, .int .i64 255, .int .i64 4294967295, .int .i64 12, .string m1, .int .i64 255, .string bo, .int .i64 4, .int .i64 255, .int .i64 (-1), .int .i64 4294967295, .int .i64 12, .string m1, .int .i64 255, .string bo, .int .i64 4, .int .i64 255, .int .i64 255, .int .i64 4294967296, .int .i64 12, .string m1, .int .i64 255, .string bo, .int .i64 4, .int .i64 255, .int .i64 255, .int .i64 4294967295, .int .i64 13, .string m1, .int .i64 255, .string bo, .int .i64 4, .int .i64 255, .int .i64 255, .int .i64 4294967295, .int .i64 12, .string m1, .int .i64 256, .string bo, .int .i64 4, .int .i64 255, .int .i64 255, .int .i64 4294967295, .int .i64 12, .string ⟨#[97, 98, 99, 100, 101, 102, 103, 104, 105, 106, 107, 108, 109, 110, 111, 112, 113, 114, 115, 116, 117]⟩, .int .i64 255, .string bo, .int .i64 4, .int .i64 255, .int .i64 255, .int .i64 4294967295, .int .i64 12, .string m1, .int .i64 255, .string bp] 38 (0, 0)) := by rw [HBr.out.block _ (blk_lt HA28.out)]; exact HA28.out
      have HAR := Aside0.mk har
      clear har
      have hcase : i = 0 ∨ i = 1 ∨ i = 2 ∨ i = 3 ∨ i = 4 ∨ i = 5 ∨ i = 6 ∨ i = 7 := by omega
      clear hi hlt
      rcases hcase with rfl | rfl | rfl | rfl | rfl | rfl | rfl | rfl
      · have q0 : wr.cell? ⟨g, 0, none⟩ = some (.int .i64 5) := blk_cell HAR.out 0
        have q1 : wr.cell? ⟨g, 1, none⟩ = some (.int .i64 255) := blk_cell HAR.out 1
        have q2 : wr.cell? ⟨g, 2, none⟩ = some (.int .i64 255) := blk_cell HAR.out 2
        have q3 : wr.cell? ⟨g, 3, none⟩ = some (.int .i64 4294967295) := blk_cell HAR.out 3
        have q4 : wr.cell? ⟨g, 4, none⟩ = some (.int .i64 12) := blk_cell HAR.out 4
        have q5 : wr.cell? ⟨g, 5, none⟩ = some (.string m1) := blk_cell HAR.out 5
        have q6 : wr.cell? ⟨g, 6, none⟩ = some (.int .i64 255) := blk_cell HAR.out 6
        have q7 : wr.cell? ⟨g, 7, none⟩ = some (.string bo) := blk_cell HAR.out 7
        go_wp2_with fail
        refine (check_at _ _ _ _ _ _ _ _ wr HSZ1.out HB4.out.1 (tabs_below HT.out HBq.out) false ⟨HNO.out.1⟩).mono ?_
        rintro e w9 ⟨rfl, hB9⟩
        have HB9 := Aside0.mk (HBr.out.trans (hB9.mono HBr.out.size))
        clear hB9 q0 q1 q2 q3 q4 q5 q6 q7
        go_wp2_with fail
        go_roundw
        case rel => exact ⟨1, by go_num, by omega, HB9⟩
        case measure => simp [intOf]
      · have q0 : wr.cell? ⟨g, 8, none⟩ = some (.int .i64 4) := blk_cell HAR.out 8
        have q1 : wr.cell? ⟨g, 9, none⟩ = some (.int .i64 256) := blk_cell HAR.out 9
        have q2 : wr.cell? ⟨g, 10, none⟩ = some (.int .i64 255) := blk_cell HAR.out 10
        have q3 : wr.cell? ⟨g, 11, none⟩ = some (.int .i64 4294967295) := blk_cell HAR.out 11
        have q4 : wr.cell? ⟨g, 12, none⟩ = some (.int .i64 12) := blk_cell HAR.out 12
        have q5 : wr.cell? ⟨g, 13, none⟩ = some (.string m1) := blk_cell HAR.out 13
        have q6 : wr.cell? ⟨g, 14, none⟩ = some (.int .i64 255) := blk_cell HAR.out 14
        have q7 : wr.cell? ⟨g, 15, none⟩ = some (.string bo) := blk_cell HAR.out 15
        go_wp2_with fail
        refine (check_at _ _ _ _ _ _ _ _ wr HSZ1.out HB4.out.1 (tabs_below HT.out HBq.out) false ⟨HNO.out.2.1⟩).mono ?_
        rintro e w9 ⟨rfl, hB9⟩
        have HB9 := Aside0.mk (HBr.out.trans (hB9.mono HBr.out.size))
        clear hB9 q0 q1 q2 q3 q4 q5 q6 q7
        go_wp2_with fail
        go_roundw
        case rel => exact ⟨2, by go_num, by omega, HB9⟩
        case measure => simp [intOf]
      · have q0 : wr.cell? ⟨g, 16, none⟩ = some (.int .i64 4) := blk_cell HAR.out 16
        have q1 : wr.cell? ⟨g, 17, none⟩ = some (.int .i64 255) := blk_cell HAR.out 17
        have q2 : wr.cell? ⟨g, 18, none⟩ = some (.int .i64 (-1)) := blk_cell HAR.out 18
        have q3 : wr.cell? ⟨g, 19, none⟩ = some (.int .i64 4294967295) := blk_cell HAR.out 19
        have q4 : wr.cell? ⟨g, 20, none⟩ = some (.int .i64 12) := blk_cell HAR.out 20
        have q5 : wr.cell? ⟨g, 21, none⟩ = some (.string m1) := blk_cell HAR.out 21
        have q6 : wr.cell? ⟨g, 22, none⟩ = some (.int .i64 255) := blk_cell HAR.out 22
        have q7 : wr.cell? ⟨g, 23, none⟩ = some (.string bo) := blk_cell HAR.out 23
        go_wp2_with fail
        refine (check_at _ _ _ _ _ _ _ _ wr HSZ1.out HB4.out.1 (tabs_below HT.out HBq.out) false ⟨HNO.out.2.2.1⟩).mono ?_
        rintro e w9 ⟨rfl, hB9⟩
        have HB9 := Aside0.mk (HBr.out.trans (hB9.mono HBr.out.size))
        clear hB9 q0 q1 q2 q3 q4 q5 q6 q7
        go_wp2_with fail
        go_roundw
        case rel => exact ⟨3, by go_num, by omega, HB9⟩
        case measure => simp [intOf]
      · have q0 : wr.cell? ⟨g, 24, none⟩ = some (.int .i64 4) := blk_cell HAR.out 24
        have q1 : wr.cell? ⟨g, 25, none⟩ = some (.int .i64 255) := blk_cell HAR.out 25
        have q2 : wr.cell? ⟨g, 26, none⟩ = some (.int .i64 255) := blk_cell HAR.out 26
        have q3 : wr.cell? ⟨g, 27, none⟩ = some (.int .i64 4294967296) := blk_cell HAR.out 27
        have q4 : wr.cell? ⟨g, 28, none⟩ = some (.int .i64 12) := blk_cell HAR.out 28
        have q5 : wr.cell? ⟨g, 29, none⟩ = some (.string m1) := blk_cell HAR.out 29
        have q6 : wr.cell? ⟨g, 30, none⟩ = some (.int .i64 255) := blk_cell HAR.out 30
        have q7 : wr.cell? ⟨g, 31, none⟩ = some (.string bo) := blk_cell HAR.out 31
        go_wp2_with fail
        refine (check_at _ _ _ _ _ _ _ _ wr HSZ1.out HB4.out.1 (tabs_below HT.out HBq.out) false ⟨HNO.out.2.2.2.1⟩).mono ?_
        rintro e w9 ⟨rfl, hB9⟩
        have HB9 := Aside0.mk (HBr.out.trans (hB9.mono HBr.out.size))
        clear hB9 q0 q1 q2 q3 q4 q5 q6 q7
        go_wp2_with fail
        go_roundw
        case rel => exact ⟨4, by go_num, by omega, HB9⟩
        case measure => simp [intOf]
      · have q0 : wr.cell? ⟨g, 32, none⟩ = some (.int .i64 4) := blk_cell HAR.out 32
        have q1 : wr.cell? ⟨g, 33, none⟩ = some (.int .i64 255) := blk_cell HAR.out 33
        have q2 : wr.cell? ⟨g, 34, none⟩ = some (.int .i64 255) := blk_cell HAR.out 34
        have q3 : wr.cell? ⟨g, 35, none⟩ = some (.int .i64 4294967295) := blk_cell HAR.out 35
        have q4 : wr.cell? ⟨g, 36, none⟩ = some (.int .i64 13) := blk_cell HAR.out 36
        have q5 : wr.cell? ⟨g, 37, none⟩ = some (.string m1) := blk_cell HAR.out 37
        have q6 : wr.cell? ⟨g, 38, none⟩ = some (.int .i64 255) := blk_cell HAR.out 38
        have q7 : wr.cell? ⟨g, 39, none⟩ = some (.string bo) := blk_cell HAR.out 39
        go_wp2_with fail
        refine (check_at _ _ _ _ _ _ _ _ wr HSZ1.out HB4.out.1 (tabs_below HT.out HBq.out) false ⟨HNO.out.2.2.2.2.1⟩).mono ?_
        rintro e w9 ⟨rfl, hB9⟩
        have HB9 := Aside0.mk (HBr.out.trans (hB9.mono HBr.out.size))
        clear hB9 q0 q1 q2 q3 q4 q5 q6 q7
        go_wp2_with fail
        go_roundw
        case rel => exact ⟨5, by go_num, by omega, HB9⟩
        case measure => simp [intOf]
      · have q0 : wr.cell? ⟨g, 40, none⟩ = some (.int .i64 4) := blk_cell HAR.out 40
        have q1 : wr.cell? ⟨g, 41, none⟩ = some (.int .i64 255) := blk_cell HAR.out 41
        have q2 : wr.cell? ⟨g, 42, none⟩ = some (.int .i64 255) := blk_cell HAR.out 42
        have q3 : wr.cell? ⟨g, 43, none⟩ = some (.int .i64 4294967295) := blk_cell HAR.out 43
        have q4 : wr.cell? ⟨g, 44, none⟩ = some (.int .i64 12) := blk_cell HAR.out 44
        have q5 : wr.cell? ⟨g, 45, none⟩ = some (.string m1) := blk_cell HAR.out 45
        have q6 : wr.cell? ⟨g, 46, none⟩ = some (.int .i64 256) := blk_cell HAR.out 46
        have q7 : wr.cell? ⟨g, 47, none⟩ = some (.string bo) := blk_cell HAR.out 47
        go_wp2_with fail
        refine (check_at _ _ _ _ _ _ _ _ wr HSZ1.out HB4.out.1 (tabs_below HT.out HBq.out) false ⟨HNO.out.2.2.2.2.2.1⟩).mono ?_
        rintro e w9 ⟨rfl, hB9⟩
        have HB9 := Aside0.mk (HBr.out.trans (hB9.mono HBr.out.size))
        clear hB9 q0 q1 q2 q3 q4 q5 q6 q7
        go_wp2_with fail
        go_roundw
        case rel => exact ⟨6, by go_num, by omega, HB9⟩
        case measure => simp [intOf]
      · have q0 : wr.cell? ⟨g, 48, none⟩ = some (.int .i64 4) := blk_cell HAR.out 48
        have q1 : wr.cell? ⟨g, 49, none⟩ = some (.int .i64 255) := blk_cell HAR.out 49
        have q2 : wr.cell? ⟨g, 50, none⟩ = some (.int .i64 255) := blk_cell HAR.out 50
        have q3 : wr.cell? ⟨g, 51, none⟩ = some (.int .i64 4294967295) := blk_cell HAR.out 51
        have q4 : wr.cell? ⟨g, 52, none⟩ = some (.int .i64 12) := blk_cell HAR.out 52
        have q5 : wr.cell? ⟨g, 53, none⟩ = some (.string ⟨#[97, 98, 99, 100, 101, 102, 103, 104, 105, 106, 107, 108, 109, 110, 111, 112, 113, 114, 115, 116, 117]⟩) := blk_cell HAR.out 53
        have q6 : wr.cell? ⟨g, 54, none⟩ = some (.int .i64 255) := blk_cell HAR.out 54
        have q7 : wr.cell? ⟨g, 55, none⟩ = some (.string bo) := blk_cell HAR.out 55
        go_wp2_with fail
        refine (check_at _ _ _ _ _ _ _ _ wr HSZ2.out HB4.out.1 (tabs_below HT.out HBq.out) false ⟨HNO.out.2.2.2.2.2.2.1⟩).mono ?_
        rintro e w9 ⟨rfl, hB9⟩
        have HB9 := Aside0.mk (HBr.out.trans (hB9.mono HBr.out.size))
        clear hB9 q0 q1 q2 q3 q4 q5 q6 q7
        go_wp2_with fail
        go_roundw
        case rel => exact ⟨7, by go_num, by omega, HB9⟩
        case measure => simp [intOf]
      · have q0 : wr.cell? ⟨g, 56, none⟩ = some (.int .i64 4) := blk_cell HAR.out 56
        have q1 : wr.cell? ⟨g, 57, none⟩ = some (.int .i64 255) := blk_cell HAR.out 57
        have q2 : wr.cell? ⟨g, 58, none⟩ = some (.int .i64 255) := blk_cell HAR.out 58
        have q3 : wr.cell? ⟨g, 59, none⟩ = some (.int .i64 4294967295) := blk_cell HAR.out 59
        have q4 : wr.cell? ⟨g, 60, none⟩ = some (.int .i64 12) := blk_cell HAR.out 60
        have q5 : wr.cell? ⟨g, 61, none⟩ = some (.string m1) := blk_cell HAR.out 61
        have q6 : wr.cell? ⟨g, 62, none⟩ = some (.int .i64 255) := blk_cell HAR.out 62
        have q7 : wr.cell? ⟨g, 63, none⟩ = some (.string bp) := blk_cell HAR.out 63
        go_wp2_with fail
        refine (check_at _ _ _ _ _ _ _ _ wr HSZ1.out HB4.out.2 (tabs_below HT.out HBq.out) false ⟨HNO.out.2.2.2.2.2.2.2⟩).mono ?_
        rintro e w9 ⟨rfl, hB9⟩
        have HB9 := Aside0.mk (HBr.out.trans (hB9.mono HBr.out.size))
        clear hB9 q0 q1 q2 q3 q4 q5 q6 q7
        go_wp2_with fail
        go_roundw
        case rel => exact ⟨8, by go_num, by omega, HB9⟩
        case measure => simp [intOf]
    · obtain rfl : i = 8 := by omega
      have HRr : Aside0 (ReadsInt wr .u8 A1 zs.length zs) := ⟨HR2.out.below (HD28.out.trans (HBr.out.mono HD28.out.size))⟩
      obtain ⟨i0, hi0, _, hsz0, _⟩ := info_parts info5
      obtain ⟨ht1, ht2⟩ := take_int (P := Tryd.prog) (k := .u8) 24 5 Tryd.underlying24 hi0 hsz0 A1 n1 zs 13 (by have := HLEN.out; omega) HC1.out
      have hcut := fun W => ht1 W 13 rfl
      have HR13 := Aside0.mk (ht2 wr HRr.out)
      have HL13 : Aside0 (13 = (zs.take 13).length) := ⟨by rw [List.length_take]; have := HLEN.out; omega⟩
      have HC13 : Aside0 (13 ≤ n1) := ⟨by have := HLEN.out; have := HC1.out; omega⟩
      clear ht1 ht2 hi0 hsz0
      go_wp2_with fail
      refine (get_short A1 13 n1 (zs.take 13) wr HL13.out HR13.out HC13.out (by rw [← HL13.out]; decide)).mono ?_
      rintro e w9 ⟨rfl, hB9⟩
      have HB9 := Aside0.mk (HBq.out.trans (hB9.mono HBq.out.size))
      have HB10 := Aside0.mk (HB9.out.alloc HB9.out.size (.cells #[.int .i64 0, .int .i64 0, .int .i64 0, .int .i64 0, .int .i64 0, .string ByteArray.empty, .int .i64 0, .string ByteArray.empty] 23))
      clear hB9
      unfold pkV pk0
      go_wp2_with fail
      refine (awake_any _ (tabs_below HT.out HB10.out)).mono ?_
      rintro e w6 ⟨rfl, hB6⟩
      have HB6 := Aside0.mk (HB10.out.trans (hB6.mono HB10.out.size))
      clear hB6
      go_wp2
      go_ret
      exact ⟨rfl, HB6.out⟩
end Go.Proofs.YtabcaeckoghmpaaDoor
