/- Look, Last, Len of the cache. -/
import Derived.Test.YtmdkgbbgppiaaaaDPk
import Derived.Deep.CutBlock
namespace Go.Proofs.Ytmdkgbbgppiaaaa
set_option linter.unusedVariables false
set_option linter.unusedSimpArgs false
open Go.RowKit Go.ChangeMaps Go.Proofs.YtmdkgbbgppiaaaaW.PrintWords

/-- Look. -/
theorem look_any (w : World) (B b size : Nat) (ov : Value) (m1 m2 : Nat) (ord : List (Int × Int)) (L1 : List ((Int × Int) × Pk × Nat)) (c1 : Nat) (L2 : List (Int × Int × Nat)) (c2 : Nat)
    (C : CacheAt w B b size ov m1 m2 ord L1 c1 L2 c2) (f i : Int) (hf : In64 f) (hi : In64 i) (p : Pk) (k : Nat) (hp : Aside0 (lookF L1 L2 f i = (p, k))) :
    Calls Try.prog 10 #[.pointer (some ⟨b, 0, none⟩), .int .i64 f, .int .i64 i] w fun e w' => e = .returned (.tuple #[pkV p, .int .i64 (k : Int)]) ∧ Below w.heap.size w w' := by
  have HC := Aside0.mk C
  have C0 := C.below ((Below.refl w.heap.size w).alloc (Nat.le_refl _) (.cells #[.int .i64 0, .int .i64 0, .int .i64 0, .int .i64 0, .int .i64 0, .string ⟨#[]⟩, .int .i64 0, .string ⟨#[]⟩] 28))
  have q0 : (w.alloc (.cells #[.int .i64 0, .int .i64 0, .int .i64 0, .int .i64 0, .int .i64 0, .string ⟨#[]⟩, .int .i64 0, .string ⟨#[]⟩] 28)).cell? ⟨b, 2, none⟩ = some (.map (some m1)) := blk_cell C0.blk 2
  have hl1 := C0.r1.lookup keyA Try.underlying47 zeroPk (f, i) ⟨hf, hi⟩
  simp only [kvA] at hl1
  obtain ⟨r1, hr1⟩ : ∃ r, getL L1 (f, i) = r := ⟨_, rfl⟩
  have HP := hp.out
  clear C C0 hp
  unfold lookF at HP
  rw [hr1] at hl1 HP
  have HF := Aside0.mk hf
  have HI := Aside0.mk hi
  clear hr1 hf hi
  cases r1 with
  | some x =>
    cases HP
    obtain ⟨kind, fr, to_, id, ver, meth, err, body⟩ := p
    simp only [Option.map_some, Option.getD_some, Option.isSome_some, pkV] at hl1
    go_enter Try.func10, Try.ntmps10
    go_upto_region 2 with fail
    change Code.wp _ _ _ _ ((w.alloc (.cells #[.int .i64 0, .int .i64 0, .int .i64 0, .int .i64 0, .int .i64 0, .string ⟨#[]⟩, .int .i64 0, .string ⟨#[]⟩] 28)).alloc (.cells #[.int .i64 kind, .int .i64 fr, .int .i64 to_, .int .i64 id, .int .i64 ver, .string meth, .int .i64 err, .string body] 28))
    have HW2 := Aside0.mk (show Below w.heap.size w ((w.alloc (.cells #[.int .i64 0, .int .i64 0, .int .i64 0, .int .i64 0, .int .i64 0, .string ⟨#[]⟩, .int .i64 0, .string ⟨#[]⟩] 28)).alloc (.cells #[.int .i64 kind, .int .i64 fr, .int .i64 to_, .int .i64 id, .int .i64 ver, .string meth, .int .i64 err, .string body] 28)) from ((Below.refl _ _).alloc (Nat.le_refl _) _).alloc (by simp) _)
    have HK2 := Aside0.mk (heap_alloc_new (w.alloc (.cells #[.int .i64 0, .int .i64 0, .int .i64 0, .int .i64 0, .int .i64 0, .string ⟨#[]⟩, .int .i64 0, .string ⟨#[]⟩] 28)) (.cells #[.int .i64 kind, .int .i64 fr, .int .i64 to_, .int .i64 id, .int .i64 ver, .string meth, .int .i64 err, .string body] 28))
    have HR2 : Aside0 (((w.alloc (.cells #[.int .i64 0, .int .i64 0, .int .i64 0, .int .i64 0, .int .i64 0, .string ⟨#[]⟩, .int .i64 0, .string ⟨#[]⟩] 28)).alloc (.cells #[.int .i64 kind, .int .i64 fr, .int .i64 to_, .int .i64 id, .int .i64 ver, .string meth, .int .i64 err, .string body] 28)).heap[w.heap.size]? = some (.cells #[.int .i64 0, .int .i64 0, .int .i64 0, .int .i64 0, .int .i64 0, .string ⟨#[]⟩, .int .i64 0, .string ⟨#[]⟩] 28)) := ⟨by rw [((Below.refl (w.alloc (.cells #[.int .i64 0, .int .i64 0, .int .i64 0, .int .i64 0, .int .i64 0, .string ⟨#[]⟩, .int .i64 0, .string ⟨#[]⟩] 28)).heap.size _).alloc (Nat.le_refl _) _).block _ (by simp)]; exact heap_alloc_new w _⟩
    have HC2 : Aside0 (CacheAt ((w.alloc (.cells #[.int .i64 0, .int .i64 0, .int .i64 0, .int .i64 0, .int .i64 0, .string ⟨#[]⟩, .int .i64 0, .string ⟨#[]⟩] 28)).alloc (.cells #[.int .i64 kind, .int .i64 fr, .int .i64 to_, .int .i64 id, .int .i64 ver, .string meth, .int .i64 err, .string body] 28)) B b size ov m1 m2 ord L1 c1 L2 c2) := ⟨HC.out.below HW2.out⟩
    obtain ⟨g, hg⟩ : ∃ g, (w.alloc (.cells #[.int .i64 0, .int .i64 0, .int .i64 0, .int .i64 0, .int .i64 0, .string ⟨#[]⟩, .int .i64 0, .string ⟨#[]⟩] 28)).heap.size = g := ⟨_, rfl⟩
    obtain ⟨w2, hw2⟩ : ∃ w2, ((w.alloc (.cells #[.int .i64 0, .int .i64 0, .int .i64 0, .int .i64 0, .int .i64 0, .string ⟨#[]⟩, .int .i64 0, .string ⟨#[]⟩] 28)).alloc (.cells #[.int .i64 kind, .int .i64 fr, .int .i64 to_, .int .i64 id, .int .i64 ver, .string meth, .int .i64 err, .string body] 28)) = w2 := ⟨_, rfl⟩
    rw [hg] at HK2
    rw [hw2] at HK2 HR2 HC2 HW2 ⊢
    have hg2 : g = w.heap.size + 1 := by rw [← hg]; simp
    subst hg2
    clear hw2 hg
    have HBW9 := HR2
    have HBX9 := HW2
    have HKE := HK2
    have hblk9 : w2.heap[w.heap.size]? = some (.cells #[.int .i64 0, .int .i64 0, .int .i64 0, .int .i64 0, .int .i64 0, .string ⟨#[]⟩, .int .i64 0, .string ⟨#[]⟩] 28) := HBW9.out
    have z0 : w2.cell? ⟨w.heap.size, 0, none⟩ = some (.int .i64 0) := blk_cell hblk9 0
    have z1 : w2.cell? ⟨w.heap.size, 1, none⟩ = some (.int .i64 0) := blk_cell hblk9 1
    have z2 : w2.cell? ⟨w.heap.size, 2, none⟩ = some (.int .i64 0) := blk_cell hblk9 2
    have z3 : w2.cell? ⟨w.heap.size, 3, none⟩ = some (.int .i64 0) := blk_cell hblk9 3
    have z4 : w2.cell? ⟨w.heap.size, 4, none⟩ = some (.int .i64 0) := blk_cell hblk9 4
    have z5 : w2.cell? ⟨w.heap.size, 5, none⟩ = some (.string ⟨#[]⟩) := blk_cell hblk9 5
    have z6 : w2.cell? ⟨w.heap.size, 6, none⟩ = some (.int .i64 0) := blk_cell hblk9 6
    have z7 : w2.cell? ⟨w.heap.size, 7, none⟩ = some (.string ⟨#[]⟩) := blk_cell hblk9 7
    have p0 : w2.cell? ⟨w.heap.size + 1, 0, none⟩ = some (.int .i64 kind) := blk_cell HKE.out 0
    have p1 : w2.cell? ⟨w.heap.size + 1, 1, none⟩ = some (.int .i64 fr) := blk_cell HKE.out 1
    have p2 : w2.cell? ⟨w.heap.size + 1, 2, none⟩ = some (.int .i64 to_) := blk_cell HKE.out 2
    have p3 : w2.cell? ⟨w.heap.size + 1, 3, none⟩ = some (.int .i64 id) := blk_cell HKE.out 3
    have p4 : w2.cell? ⟨w.heap.size + 1, 4, none⟩ = some (.int .i64 ver) := blk_cell HKE.out 4
    have p5 : w2.cell? ⟨w.heap.size + 1, 5, none⟩ = some (.string meth) := blk_cell HKE.out 5
    have p6 : w2.cell? ⟨w.heap.size + 1, 6, none⟩ = some (.int .i64 err) := blk_cell HKE.out 6
    have p7 : w2.cell? ⟨w.heap.size + 1, 7, none⟩ = some (.string body) := blk_cell HKE.out 7
    have hfz := fun i => blk_frozen hblk9 i
    go_wp2_with fail
    change bodyPost _ _ _ _ _ (put8 w2 w.heap.size (.int .i64 kind) (.int .i64 fr) (.int .i64 to_) (.int .i64 id) (.int .i64 ver) (.string meth) (.int .i64 err) (.string body))
    have hb8 := put8_below HBX9.out (Nat.le_refl w.heap.size) (.int .i64 kind) (.int .i64 fr) (.int .i64 to_) (.int .i64 id) (.int .i64 ver) (.string meth) (.int .i64 err) (.string body)
    have hk8 := put8_blk hblk9 (.int .i64 kind) (.int .i64 fr) (.int .i64 to_) (.int .i64 id) (.int .i64 ver) (.string meth) (.int .i64 err) (.string body)
    obtain ⟨w8, hw8⟩ : ∃ w8, put8 w2 w.heap.size (.int .i64 kind) (.int .i64 fr) (.int .i64 to_) (.int .i64 id) (.int .i64 ver) (.string meth) (.int .i64 err) (.string body) = w8 := ⟨_, rfl⟩
    rw [hw8] at hb8 hk8 ⊢
    clear hw8 z0 z1 z2 z3 z4 z5 z6 z7 hfz hblk9 p0 p1 p2 p3 p4 p5 p6 p7
    have z0 : w8.cell? ⟨w.heap.size, 0, none⟩ = some (.int .i64 kind) := blk_cell hk8 0
    have z1 : w8.cell? ⟨w.heap.size, 1, none⟩ = some (.int .i64 fr) := blk_cell hk8 1
    have z2 : w8.cell? ⟨w.heap.size, 2, none⟩ = some (.int .i64 to_) := blk_cell hk8 2
    have z3 : w8.cell? ⟨w.heap.size, 3, none⟩ = some (.int .i64 id) := blk_cell hk8 3
    have z4 : w8.cell? ⟨w.heap.size, 4, none⟩ = some (.int .i64 ver) := blk_cell hk8 4
    have z5 : w8.cell? ⟨w.heap.size, 5, none⟩ = some (.string meth) := blk_cell hk8 5
    have z6 : w8.cell? ⟨w.heap.size, 6, none⟩ = some (.int .i64 err) := blk_cell hk8 6
    have z7 : w8.cell? ⟨w.heap.size, 7, none⟩ = some (.string body) := blk_cell hk8 7
    refine bodyPost_ret (v := .tuple #[pkV ⟨kind, fr, to_, id, ver, meth, err, body⟩, .int .i64 2]) ?_ rfl ?_
    · rw [results_cell_tmp rfl]
      go_simp
      rfl
    · exact ⟨rfl, hb8⟩
  | none =>
    simp only [Option.map_none, Option.getD_none, Option.isSome_none, pkV, pk0] at hl1
    go_enter Try.func10, Try.ntmps10
    go_upto_region 2 with fail
    change Code.wp _ _ _ _ ((w.alloc (.cells #[.int .i64 0, .int .i64 0, .int .i64 0, .int .i64 0, .int .i64 0, .string ⟨#[]⟩, .int .i64 0, .string ⟨#[]⟩] 28)).alloc (.cells #[.int .i64 0, .int .i64 0, .int .i64 0, .int .i64 0, .int .i64 0, .string ⟨#[]⟩, .int .i64 0, .string ⟨#[]⟩] 28))
    have HW2 := Aside0.mk (show Below w.heap.size w ((w.alloc (.cells #[.int .i64 0, .int .i64 0, .int .i64 0, .int .i64 0, .int .i64 0, .string ⟨#[]⟩, .int .i64 0, .string ⟨#[]⟩] 28)).alloc (.cells #[.int .i64 0, .int .i64 0, .int .i64 0, .int .i64 0, .int .i64 0, .string ⟨#[]⟩, .int .i64 0, .string ⟨#[]⟩] 28)) from ((Below.refl _ _).alloc (Nat.le_refl _) _).alloc (by simp) _)
    have HK2 := Aside0.mk (heap_alloc_new (w.alloc (.cells #[.int .i64 0, .int .i64 0, .int .i64 0, .int .i64 0, .int .i64 0, .string ⟨#[]⟩, .int .i64 0, .string ⟨#[]⟩] 28)) (.cells #[.int .i64 0, .int .i64 0, .int .i64 0, .int .i64 0, .int .i64 0, .string ⟨#[]⟩, .int .i64 0, .string ⟨#[]⟩] 28))
    have HR2 : Aside0 (((w.alloc (.cells #[.int .i64 0, .int .i64 0, .int .i64 0, .int .i64 0, .int .i64 0, .string ⟨#[]⟩, .int .i64 0, .string ⟨#[]⟩] 28)).alloc (.cells #[.int .i64 0, .int .i64 0, .int .i64 0, .int .i64 0, .int .i64 0, .string ⟨#[]⟩, .int .i64 0, .string ⟨#[]⟩] 28)).heap[w.heap.size]? = some (.cells #[.int .i64 0, .int .i64 0, .int .i64 0, .int .i64 0, .int .i64 0, .string ⟨#[]⟩, .int .i64 0, .string ⟨#[]⟩] 28)) := ⟨by rw [((Below.refl (w.alloc (.cells #[.int .i64 0, .int .i64 0, .int .i64 0, .int .i64 0, .int .i64 0, .string ⟨#[]⟩, .int .i64 0, .string ⟨#[]⟩] 28)).heap.size _).alloc (Nat.le_refl _) _).block _ (by simp)]; exact heap_alloc_new w _⟩
    have HC2 : Aside0 (CacheAt ((w.alloc (.cells #[.int .i64 0, .int .i64 0, .int .i64 0, .int .i64 0, .int .i64 0, .string ⟨#[]⟩, .int .i64 0, .string ⟨#[]⟩] 28)).alloc (.cells #[.int .i64 0, .int .i64 0, .int .i64 0, .int .i64 0, .int .i64 0, .string ⟨#[]⟩, .int .i64 0, .string ⟨#[]⟩] 28)) B b size ov m1 m2 ord L1 c1 L2 c2) := ⟨HC.out.below HW2.out⟩
    obtain ⟨g, hg⟩ : ∃ g, (w.alloc (.cells #[.int .i64 0, .int .i64 0, .int .i64 0, .int .i64 0, .int .i64 0, .string ⟨#[]⟩, .int .i64 0, .string ⟨#[]⟩] 28)).heap.size = g := ⟨_, rfl⟩
    obtain ⟨w2, hw2⟩ : ∃ w2, ((w.alloc (.cells #[.int .i64 0, .int .i64 0, .int .i64 0, .int .i64 0, .int .i64 0, .string ⟨#[]⟩, .int .i64 0, .string ⟨#[]⟩] 28)).alloc (.cells #[.int .i64 0, .int .i64 0, .int .i64 0, .int .i64 0, .int .i64 0, .string ⟨#[]⟩, .int .i64 0, .string ⟨#[]⟩] 28)) = w2 := ⟨_, rfl⟩
    rw [hg] at HK2
    rw [hw2] at HK2 HR2 HC2 HW2 ⊢
    have hg2 : g = w.heap.size + 1 := by rw [← hg]; simp
    subst hg2
    clear hw2 hg
    have HBW9 := HR2
    have HBX9 := HW2
    have q1 : w2.cell? ⟨b, 3, none⟩ = some (.map (some m2)) := blk_cell HC2.out.blk 3
    have hl2 := HC2.out.r2.lookup keyI Try.underlying48 zeroInt f HF.out
    simp only [kvI] at hl2
    obtain ⟨r2, hr2⟩ : ∃ r, getL L2 f = r := ⟨_, rfl⟩
    rw [hr2] at hl2 HP
    simp only at HP
    clear hr2 q0 hl1
    cases r2 with
    | none =>
      cases HP
      simp only [Option.map_none, Option.getD_none, Option.isSome_none] at hl2
      have hblk9 : w2.heap[w.heap.size]? = some (.cells #[.int .i64 0, .int .i64 0, .int .i64 0, .int .i64 0, .int .i64 0, .string ⟨#[]⟩, .int .i64 0, .string ⟨#[]⟩] 28) := HBW9.out
      have z0 : w2.cell? ⟨w.heap.size, 0, none⟩ = some (.int .i64 0) := blk_cell hblk9 0
      have z1 : w2.cell? ⟨w.heap.size, 1, none⟩ = some (.int .i64 0) := blk_cell hblk9 1
      have z2 : w2.cell? ⟨w.heap.size, 2, none⟩ = some (.int .i64 0) := blk_cell hblk9 2
      have z3 : w2.cell? ⟨w.heap.size, 3, none⟩ = some (.int .i64 0) := blk_cell hblk9 3
      have z4 : w2.cell? ⟨w.heap.size, 4, none⟩ = some (.int .i64 0) := blk_cell hblk9 4
      have z5 : w2.cell? ⟨w.heap.size, 5, none⟩ = some (.string ⟨#[]⟩) := blk_cell hblk9 5
      have z6 : w2.cell? ⟨w.heap.size, 6, none⟩ = some (.int .i64 0) := blk_cell hblk9 6
      have z7 : w2.cell? ⟨w.heap.size, 7, none⟩ = some (.string ⟨#[]⟩) := blk_cell hblk9 7
      have hfz := fun i => blk_frozen hblk9 i
      go_wp2_with fail
      change bodyPost _ _ _ _ _ (put8 w2 w.heap.size (.int .i64 0) (.int .i64 0) (.int .i64 0) (.int .i64 0) (.int .i64 0) (.string ⟨#[]⟩) (.int .i64 0) (.string ⟨#[]⟩))
      have hb8 := put8_below HBX9.out (Nat.le_refl w.heap.size) (.int .i64 0) (.int .i64 0) (.int .i64 0) (.int .i64 0) (.int .i64 0) (.string ⟨#[]⟩) (.int .i64 0) (.string ⟨#[]⟩)
      have hk8 := put8_blk hblk9 (.int .i64 0) (.int .i64 0) (.int .i64 0) (.int .i64 0) (.int .i64 0) (.string ⟨#[]⟩) (.int .i64 0) (.string ⟨#[]⟩)
      obtain ⟨w8, hw8⟩ : ∃ w8, put8 w2 w.heap.size (.int .i64 0) (.int .i64 0) (.int .i64 0) (.int .i64 0) (.int .i64 0) (.string ⟨#[]⟩) (.int .i64 0) (.string ⟨#[]⟩) = w8 := ⟨_, rfl⟩
      rw [hw8] at hb8 hk8 ⊢
      clear hw8 z0 z1 z2 z3 z4 z5 z6 z7 hfz hblk9
      have z0 : w8.cell? ⟨w.heap.size, 0, none⟩ = some (.int .i64 0) := blk_cell hk8 0
      have z1 : w8.cell? ⟨w.heap.size, 1, none⟩ = some (.int .i64 0) := blk_cell hk8 1
      have z2 : w8.cell? ⟨w.heap.size, 2, none⟩ = some (.int .i64 0) := blk_cell hk8 2
      have z3 : w8.cell? ⟨w.heap.size, 3, none⟩ = some (.int .i64 0) := blk_cell hk8 3
      have z4 : w8.cell? ⟨w.heap.size, 4, none⟩ = some (.int .i64 0) := blk_cell hk8 4
      have z5 : w8.cell? ⟨w.heap.size, 5, none⟩ = some (.string ⟨#[]⟩) := blk_cell hk8 5
      have z6 : w8.cell? ⟨w.heap.size, 6, none⟩ = some (.int .i64 0) := blk_cell hk8 6
      have z7 : w8.cell? ⟨w.heap.size, 7, none⟩ = some (.string ⟨#[]⟩) := blk_cell hk8 7
      refine bodyPost_ret (v := .tuple #[pkV pk0, .int .i64 1]) ?_ rfl ?_
      · rw [results_cell_tmp rfl]
        go_simp
        rfl
      · exact ⟨rfl, hb8⟩
    | some n =>
      simp only [Option.map_some, Option.getD_some, Option.isSome_some, kvI] at hl2
      simp only at HP
      by_cases hin : i ≤ n
      · rw [if_pos hin] at HP
        cases HP
        have hb : decide (i ≤ n) = true := decide_eq_true hin
        have hblk9 : w2.heap[w.heap.size]? = some (.cells #[.int .i64 0, .int .i64 0, .int .i64 0, .int .i64 0, .int .i64 0, .string ⟨#[]⟩, .int .i64 0, .string ⟨#[]⟩] 28) := HBW9.out
        have z0 : w2.cell? ⟨w.heap.size, 0, none⟩ = some (.int .i64 0) := blk_cell hblk9 0
        have z1 : w2.cell? ⟨w.heap.size, 1, none⟩ = some (.int .i64 0) := blk_cell hblk9 1
        have z2 : w2.cell? ⟨w.heap.size, 2, none⟩ = some (.int .i64 0) := blk_cell hblk9 2
        have z3 : w2.cell? ⟨w.heap.size, 3, none⟩ = some (.int .i64 0) := blk_cell hblk9 3
        have z4 : w2.cell? ⟨w.heap.size, 4, none⟩ = some (.int .i64 0) := blk_cell hblk9 4
        have z5 : w2.cell? ⟨w.heap.size, 5, none⟩ = some (.string ⟨#[]⟩) := blk_cell hblk9 5
        have z6 : w2.cell? ⟨w.heap.size, 6, none⟩ = some (.int .i64 0) := blk_cell hblk9 6
        have z7 : w2.cell? ⟨w.heap.size, 7, none⟩ = some (.string ⟨#[]⟩) := blk_cell hblk9 7
        have hfz := fun i => blk_frozen hblk9 i
        go_wp2_with fail
        change bodyPost _ _ _ _ _ (put8 w2 w.heap.size (.int .i64 0) (.int .i64 0) (.int .i64 0) (.int .i64 0) (.int .i64 0) (.string ⟨#[]⟩) (.int .i64 0) (.string ⟨#[]⟩))
        have hb8 := put8_below HBX9.out (Nat.le_refl w.heap.size) (.int .i64 0) (.int .i64 0) (.int .i64 0) (.int .i64 0) (.int .i64 0) (.string ⟨#[]⟩) (.int .i64 0) (.string ⟨#[]⟩)
        have hk8 := put8_blk hblk9 (.int .i64 0) (.int .i64 0) (.int .i64 0) (.int .i64 0) (.int .i64 0) (.string ⟨#[]⟩) (.int .i64 0) (.string ⟨#[]⟩)
        obtain ⟨w8, hw8⟩ : ∃ w8, put8 w2 w.heap.size (.int .i64 0) (.int .i64 0) (.int .i64 0) (.int .i64 0) (.int .i64 0) (.string ⟨#[]⟩) (.int .i64 0) (.string ⟨#[]⟩) = w8 := ⟨_, rfl⟩
        rw [hw8] at hb8 hk8 ⊢
        clear hw8 z0 z1 z2 z3 z4 z5 z6 z7 hfz hblk9
        have z0 : w8.cell? ⟨w.heap.size, 0, none⟩ = some (.int .i64 0) := blk_cell hk8 0
        have z1 : w8.cell? ⟨w.heap.size, 1, none⟩ = some (.int .i64 0) := blk_cell hk8 1
        have z2 : w8.cell? ⟨w.heap.size, 2, none⟩ = some (.int .i64 0) := blk_cell hk8 2
        have z3 : w8.cell? ⟨w.heap.size, 3, none⟩ = some (.int .i64 0) := blk_cell hk8 3
        have z4 : w8.cell? ⟨w.heap.size, 4, none⟩ = some (.int .i64 0) := blk_cell hk8 4
        have z5 : w8.cell? ⟨w.heap.size, 5, none⟩ = some (.string ⟨#[]⟩) := blk_cell hk8 5
        have z6 : w8.cell? ⟨w.heap.size, 6, none⟩ = some (.int .i64 0) := blk_cell hk8 6
        have z7 : w8.cell? ⟨w.heap.size, 7, none⟩ = some (.string ⟨#[]⟩) := blk_cell hk8 7
        refine bodyPost_ret (v := .tuple #[pkV pk0, .int .i64 3]) ?_ rfl ?_
        · rw [results_cell_tmp rfl]
          go_simp
          rfl
        · exact ⟨rfl, hb8⟩
      · rw [if_neg hin] at HP
        cases HP
        have hb : decide (i ≤ n) = false := decide_eq_false hin
        have hblk9 : w2.heap[w.heap.size]? = some (.cells #[.int .i64 0, .int .i64 0, .int .i64 0, .int .i64 0, .int .i64 0, .string ⟨#[]⟩, .int .i64 0, .string ⟨#[]⟩] 28) := HBW9.out
        have z0 : w2.cell? ⟨w.heap.size, 0, none⟩ = some (.int .i64 0) := blk_cell hblk9 0
        have z1 : w2.cell? ⟨w.heap.size, 1, none⟩ = some (.int .i64 0) := blk_cell hblk9 1
        have z2 : w2.cell? ⟨w.heap.size, 2, none⟩ = some (.int .i64 0) := blk_cell hblk9 2
        have z3 : w2.cell? ⟨w.heap.size, 3, none⟩ = some (.int .i64 0) := blk_cell hblk9 3
        have z4 : w2.cell? ⟨w.heap.size, 4, none⟩ = some (.int .i64 0) := blk_cell hblk9 4
        have z5 : w2.cell? ⟨w.heap.size, 5, none⟩ = some (.string ⟨#[]⟩) := blk_cell hblk9 5
        have z6 : w2.cell? ⟨w.heap.size, 6, none⟩ = some (.int .i64 0) := blk_cell hblk9 6
        have z7 : w2.cell? ⟨w.heap.size, 7, none⟩ = some (.string ⟨#[]⟩) := blk_cell hblk9 7
        have hfz := fun i => blk_frozen hblk9 i
        go_wp2_with fail
        change bodyPost _ _ _ _ _ (put8 w2 w.heap.size (.int .i64 0) (.int .i64 0) (.int .i64 0) (.int .i64 0) (.int .i64 0) (.string ⟨#[]⟩) (.int .i64 0) (.string ⟨#[]⟩))
        have hb8 := put8_below HBX9.out (Nat.le_refl w.heap.size) (.int .i64 0) (.int .i64 0) (.int .i64 0) (.int .i64 0) (.int .i64 0) (.string ⟨#[]⟩) (.int .i64 0) (.string ⟨#[]⟩)
        have hk8 := put8_blk hblk9 (.int .i64 0) (.int .i64 0) (.int .i64 0) (.int .i64 0) (.int .i64 0) (.string ⟨#[]⟩) (.int .i64 0) (.string ⟨#[]⟩)
        obtain ⟨w8, hw8⟩ : ∃ w8, put8 w2 w.heap.size (.int .i64 0) (.int .i64 0) (.int .i64 0) (.int .i64 0) (.int .i64 0) (.string ⟨#[]⟩) (.int .i64 0) (.string ⟨#[]⟩) = w8 := ⟨_, rfl⟩
        rw [hw8] at hb8 hk8 ⊢
        clear hw8 z0 z1 z2 z3 z4 z5 z6 z7 hfz hblk9
        have z0 : w8.cell? ⟨w.heap.size, 0, none⟩ = some (.int .i64 0) := blk_cell hk8 0
        have z1 : w8.cell? ⟨w.heap.size, 1, none⟩ = some (.int .i64 0) := blk_cell hk8 1
        have z2 : w8.cell? ⟨w.heap.size, 2, none⟩ = some (.int .i64 0) := blk_cell hk8 2
        have z3 : w8.cell? ⟨w.heap.size, 3, none⟩ = some (.int .i64 0) := blk_cell hk8 3
        have z4 : w8.cell? ⟨w.heap.size, 4, none⟩ = some (.int .i64 0) := blk_cell hk8 4
        have z5 : w8.cell? ⟨w.heap.size, 5, none⟩ = some (.string ⟨#[]⟩) := blk_cell hk8 5
        have z6 : w8.cell? ⟨w.heap.size, 6, none⟩ = some (.int .i64 0) := blk_cell hk8 6
        have z7 : w8.cell? ⟨w.heap.size, 7, none⟩ = some (.string ⟨#[]⟩) := blk_cell hk8 7
        refine bodyPost_ret (v := .tuple #[pkV pk0, .int .i64 1]) ?_ rfl ?_
        · rw [results_cell_tmp rfl]
          go_simp
          rfl
        · exact ⟨rfl, hb8⟩
/-- Last. -/
theorem last_any (w : World) (B b size : Nat) (ov : Value) (m1 m2 : Nat) (ord : List (Int × Int)) (L1 : List ((Int × Int) × Pk × Nat)) (c1 : Nat) (L2 : List (Int × Int × Nat)) (c2 : Nat)
    (C : CacheAt w B b size ov m1 m2 ord L1 c1 L2 c2) (f : Int) (hf : In64 f) (r : Option Int) (hr : Aside0 (getL L2 f = r)) :
    Calls Try.prog 14 #[.pointer (some ⟨b, 0, none⟩), .int .i64 f] w fun e w' => e = .returned (.tuple #[.int .i64 (r.getD 0), .bool r.isSome]) ∧ w = w' := by
  have q1 : w.cell? ⟨b, 3, none⟩ = some (.map (some m2)) := blk_cell C.blk 3
  have hl2 := C.r2.lookup keyI Try.underlying48 zeroInt f hf
  rw [hr.out] at hl2
  simp only [kvI] at hl2
  clear C hr hf
  cases r with
  | none =>
    simp only [Option.map_none, Option.getD_none, Option.isSome_none] at hl2 ⊢
    go_enter Try.func14, Try.ntmps14
    go_wp2
    go_ret2
    exact ⟨rfl, rfl⟩
  | some n =>
    simp only [Option.map_some, Option.getD_some, Option.isSome_some, kvI] at hl2 ⊢
    go_enter Try.func14, Try.ntmps14
    go_wp2
    go_ret2
    exact ⟨rfl, rfl⟩
/-- Len. -/
theorem len_any (w : World) (B b size : Nat) (ov : Value) (m1 m2 : Nat) (ord : List (Int × Int)) (L1 : List ((Int × Int) × Pk × Nat)) (c1 : Nat) (L2 : List (Int × Int × Nat)) (c2 : Nat)
    (C : CacheAt w B b size ov m1 m2 ord L1 c1 L2 c2) :
    Calls Try.prog 13 #[.pointer (some ⟨b, 0, none⟩)] w fun e w' => e = .returned (.int .i64 (L1.length : Int)) ∧ w = w' := by
  have q1 : w.cell? ⟨b, 2, none⟩ = some (.map (some m1)) := blk_cell C.blk 2
  have hln : (Builtin.len_ #[47] 3 #[.map (some m1)]).run Try.prog w = .ok (.int .i64 (L1.length : Int)) w := by
    simp [Builtin.len_, run_underlying Try.underlying47, MapKept.run_getObj_map C.r1.blk, Result.andThen, goInt]
  clear C
  go_enter Try.func13, Try.ntmps13
  go_wp2
  go_ret
  exact ⟨rfl, rfl⟩
end Go.Proofs.Ytmdkgbbgppiaaaa
