/- Add of the cache. -/
import Derived.Test.YtmdkgbbgppiaaaaDPut
import Derived.Test.YtmdkgbbgppiaaaaWMore
import Derived.Test.YtmdkgbbgppiaaaaWEqStruct
import Derived.Test.YtmdkgbbgppiaaaaWQPut
import Derived.Deep.DeepCutAuto
import Derived.BigQuiet
import Derived.Deep.QuietTactic
import Derived.Deep.RegionLaw
namespace Go.Proofs.Ytmdkgbbgppiaaaa
set_option linter.unusedVariables false
set_option linter.unusedSimpArgs false
open Go.RowKit Go.ChangeMaps Go.Proofs.YtmdkgbbgppiaaaaW.PrintWords

theorem infoK : (Try.prog.info? 53).map (fun i => (i.zero, i.size, i.bytes)) = some (some (.agg #[.int .i64 0, .int .i64 0]), 2, 16) := by kernel_rfl
theorem eq_key (a b c d : Int) (D : Bool) (hD : D = true ↔ (a = c ∧ b = d)) (n : Nat) (w : World) : (Op.equalIn (n + 2) 53 (.agg #[.int .i64 a, .int .i64 b]) (.agg #[.int .i64 c, .int .i64 d])).run Try.prog w = .ok D w := by
  have e : D = (a == c && (b == d)) := by
    rw [Bool.eq_iff_iff, hD]
    simp
  rw [e]
  refine eqA_of Try.underlying53 (by kernel_rfl) ?_
  refine eqf_cons (by rfl) (by go_simp; rfl) (by go_simp; rfl) (by go_simp) ?_
  exact eqf_last (by rfl) (by go_simp; rfl) (by go_simp; rfl) (by go_simp)
/-- What is kept behind an Add. -/
def addL (size : Nat) (L1 : List ((Int × Int) × Pk × Nat)) (e : (Int × Int) × Pk × Nat) : List ((Int × Int) × Pk × Nat) := if size < L1.length + 1 then (L1 ++ [e]).drop 1 else L1 ++ [e]
/-- The cache behind an Add of what is new. -/
def AddDone (w w' : World) (B b size m1 m2 : Nat) (L1 : List ((Int × Int) × Pk × Nat)) (c1 : Nat) (L2 : List (Int × Int × Nat)) (f i : Int) (p : Pk) : Prop :=
  (∃ ov' c1' L2' c2', CacheAt w' B b size ov' m1 m2 ((addL size L1 ((f, i), p, c1)).map (·.1)) (addL size L1 ((f, i), p, c1)) c1' L2' c2' ∧ ∀ f', getL L2' f' = if f' = f then some i else getL L2 f') ∧ Below B w w'
/-- What is nothing of the cache stays. -/
def DedFr (w w' : World) : Prop := ∀ (x : Nat) (c : Array Value) (t : TypeId) (fr : Nat × Nat), w.heap[x]? = some (.cells c t fr) → t ≠ 51 → t ≠ 53 → w'.heap[x]? = some (.cells c t fr)
theorem DedFr.of_below {w w' : World} (h : Below w.heap.size w w') : DedFr w w' := fun x c t fr hx _ _ => (h.block x (Array.getElem?_eq_some_iff.1 hx).1).trans hx
theorem DedFr.trans {w w1 w2 : World} (h : DedFr w w1) (k : DedFr w1 w2) : DedFr w w2 := fun x c t fr hx h1 h2 => k x c t fr (h x c t fr hx h1 h2) h1 h2
/-- Add of what is not new. -/
theorem add_old (w : World) (B b size : Nat) (ov : Value) (m1 m2 : Nat) (ord : List (Int × Int)) (L1 : List ((Int × Int) × Pk × Nat)) (c1 : Nat) (L2 : List (Int × Int × Nat)) (c2 : Nat)
    (C : CacheAt w B b size ov m1 m2 ord L1 c1 L2 c2) (f i : Int) (hf : In64 f) (hi : In64 i) (p q : Pk) (k : Nat) (hp : Aside0 (lookF L1 L2 f i = (q, k))) (hk : k ≠ 1) :
    Calls Try.prog 9 #[.pointer (some ⟨b, 0, none⟩), .int .i64 f, .int .i64 i, pkV p] w fun e w' => e = .returned (.int .i64 20) ∧ Below w.heap.size w w' := by
  obtain ⟨kind, fr, to_, id, ver, meth, err, body⟩ := p
  obtain ⟨a1, a2, a3, a4, a5, a6, a7, a8⟩ := q
  unfold pkV
  have HB0 : Aside0 (Below w.heap.size w (w.alloc (.cells #[.int .i64 kind, .int .i64 fr, .int .i64 to_, .int .i64 id, .int .i64 ver, .string meth, .int .i64 err, .string body] 28))) := ⟨(Below.refl _ _).alloc (Nat.le_refl _) _⟩
  have HC := Aside0.mk (C.below HB0.out)
  have HF := Aside0.mk hf
  have HI := Aside0.mk hi
  have hkb : ((k : Int) == 1) = false := by rw [beq_eq_false_iff_ne]; omega
  have hkb2 : ((k : Int) != 1) = true := by rw [bne_iff_ne]; omega
  clear C hf hi hk
  go_enter Try.func9, Try.ntmps9
  go_wp2_with fail
  refine (look_any _ B b size ov m1 m2 ord L1 c1 L2 c2 HC.out f i HF.out HI.out _ k hp).mono ?_
  rintro e w1 ⟨rfl, hB1⟩
  have HB1 := Aside0.mk (HB0.out.trans (hB1.mono HB0.out.size))
  clear hB1
  unfold pkV
  go_wp2
  go_ret
  exact ⟨rfl, HB1.out.alloc HB1.out.size _⟩

set_option maxHeartbeats 4000000 in
theorem add_newF (w : World) (B b size : Nat) (ov : Value) (m1 m2 : Nat) (L1 : List ((Int × Int) × Pk × Nat)) (c1 : Nat) (L2 : List (Int × Int × Nat)) (c2 : Nat)
    (C : CacheAt w B b size ov m1 m2 (L1.map (·.1)) L1 c1 L2 c2) (f i : Int) (hf : In64 f) (hi : In64 i) (p : Pk) (hp : Aside0 (lookF L1 L2 f i = (pk0, 1))) (hBw : B ≤ w.heap.size) (hlen : L1.length ≤ 100) (hs1 : 1 ≤ size) :
    Calls Try.prog 9 #[.pointer (some ⟨b, 0, none⟩), .int .i64 f, .int .i64 i, pkV p] w fun e w' =>
      e = .returned (.int .i64 0) ∧ AddDone w w' B b size m1 m2 L1 c1 L2 f i p ∧ DedFr w w' := by
  obtain ⟨kind, fr, to_, id, ver, meth, err, body⟩ := p
  unfold pkV
  have HB0 : Aside0 (Below w.heap.size w (w.alloc (.cells #[.int .i64 kind, .int .i64 fr, .int .i64 to_, .int .i64 id, .int .i64 ver, .string meth, .int .i64 err, .string body] 28))) := ⟨(Below.refl _ _).alloc (Nat.le_refl _) _⟩
  have HP0 := Aside0.mk (heap_alloc_new w (.cells #[.int .i64 kind, .int .i64 fr, .int .i64 to_, .int .i64 id, .int .i64 ver, .string meth, .int .i64 err, .string body] 28))
  have HC := Aside0.mk (C.below HB0.out)
  have HF := Aside0.mk hf
  have HI := Aside0.mk hi
  have HOV := Aside0.mk (Kd.Q_lt C.row)
  clear C hf hi
  go_enter Try.func9, Try.ntmps9
  go_wp2_with fail
  refine (look_any _ B b size ov m1 m2 (L1.map (·.1)) L1 c1 L2 c2 HC.out f i HF.out HI.out _ 1 hp).mono ?_
  rintro e w1 ⟨rfl, hB1⟩
  have HB1 := Aside0.mk (HB0.out.trans (hB1.mono HB0.out.size))
  have HC1 := Aside0.mk (HC.out.below hB1)
  have HP1 : Aside0 (w1.heap[w.heap.size]? = some (.cells #[.int .i64 kind, .int .i64 fr, .int .i64 to_, .int .i64 id, .int .i64 ver, .string meth, .int .i64 err, .string body] 28 (0, 0))) := ⟨by rw [hB1.block _ (blk_lt HP0.out)]; exact HP0.out⟩
  clear hB1
  unfold pkV pk0
  go_upto_region 5 with fail
  change Code.wp _ _ _ _ ((w1.alloc (.cells #[.int .i64 0, .int .i64 0, .int .i64 0, .int .i64 0, .int .i64 0, .string ByteArray.empty, .int .i64 0, .string ByteArray.empty] 28)).alloc (.cells #[.int .i64 f, .int .i64 i] 53))
  have HK3 := Aside0.mk (heap_alloc_new (w1.alloc (.cells #[.int .i64 0, .int .i64 0, .int .i64 0, .int .i64 0, .int .i64 0, .string ByteArray.empty, .int .i64 0, .string ByteArray.empty] 28)) (.cells #[.int .i64 f, .int .i64 i] 53))
  rw [show (w1.alloc (.cells #[.int .i64 0, .int .i64 0, .int .i64 0, .int .i64 0, .int .i64 0, .string ByteArray.empty, .int .i64 0, .string ByteArray.empty] 28)).heap.size = w1.heap.size + 1 by simp] at HK3
  have hB13 : Below w1.heap.size w1 ((w1.alloc (.cells #[.int .i64 0, .int .i64 0, .int .i64 0, .int .i64 0, .int .i64 0, .string ByteArray.empty, .int .i64 0, .string ByteArray.empty] 28)).alloc (.cells #[.int .i64 f, .int .i64 i] 53)) := ((Below.refl _ _).alloc (Nat.le_refl _) _).alloc (by simp) _
  have HC3 := Aside0.mk (HC1.out.below hB13)
  have HP3 : Aside0 (((w1.alloc (.cells #[.int .i64 0, .int .i64 0, .int .i64 0, .int .i64 0, .int .i64 0, .string ByteArray.empty, .int .i64 0, .string ByteArray.empty] 28)).alloc (.cells #[.int .i64 f, .int .i64 i] 53)).heap[w.heap.size]? = some (.cells #[.int .i64 kind, .int .i64 fr, .int .i64 to_, .int .i64 id, .int .i64 ver, .string meth, .int .i64 err, .string body] 28 (0, 0))) := ⟨by rw [hB13.block _ (blk_lt HP1.out)]; exact HP1.out⟩
  have HB3 := Aside0.mk (HB1.out.trans (hB13.mono HB1.out.size))
  obtain ⟨w3, hw3⟩ : ∃ w3, (w1.alloc (.cells #[.int .i64 0, .int .i64 0, .int .i64 0, .int .i64 0, .int .i64 0, .string ByteArray.empty, .int .i64 0, .string ByteArray.empty] 28)).alloc (.cells #[.int .i64 f, .int .i64 i] 53) = w3 := ⟨_, rfl⟩
  rw [hw3] at HK3 HC3 HP3 HB3 ⊢
  obtain ⟨kb, hkb⟩ : ∃ kb, w1.heap.size + 1 = kb := ⟨_, rfl⟩
  have hkw : w.heap.size < kb := by have := HB1.out.size; omega
  simp only [hkb] at HK3 ⊢
  clear hw3 hB13 hkb HC1 HP1 HB1 HC HP0 HB0
  have hbw3 : B ≤ w3.heap.size := Nat.le_trans hBw HB3.out.size
  have hbk : b ≠ kb := by
    intro e
    have h1 := HC3.out.blk
    rw [e, HK3.out] at h1
    injection h1 with h1
    injection h1 with _ h1
    exact absurd h1 (by decide)
  have hbp : b ≠ w.heap.size := by
    intro e
    have h1 := HC3.out.blk
    rw [e, HP3.out] at h1
    injection h1 with h1
    injection h1 with _ h1
    exact absurd h1 (by decide)
  obtain ⟨ord, hord⟩ : ∃ ord, L1.map (·.1) = ord := ⟨_, rfl⟩
  have HORD := Aside0.mk hord
  have hol : ord.length ≤ 100 := by rw [← hord, List.length_map]; exact hlen
  rw [hord] at HC3
  clear hord
  -- region 5: the row
  have e0 : w3.drew.cell? ⟨b, 1, none⟩ = some ov := blk_cell HC3.out.blk 1
  have e1 : w3.drew.cell? ⟨kb, 0, none⟩ = some (.int .i64 f) := blk_cell HK3.out 0
  have e2 : w3.drew.cell? ⟨kb, 1, none⟩ = some (.int .i64 i) := blk_cell HK3.out 1
  have e0' : (w3.alloc (.cells #[.int .i64 f, .int .i64 i] 53)).drew.cell? ⟨b, 1, none⟩ = some ov := pw_cell_below ((Below.refl w3.heap.size w3).alloc (Nat.le_refl _) _).drew (blk_cell HC3.out.blk 1)
  have e1' : (w3.alloc (.cells #[.int .i64 f, .int .i64 i] 53)).drew.cell? ⟨kb, 0, none⟩ = some (.int .i64 f) := pw_cell_below ((Below.refl w3.heap.size w3).alloc (Nat.le_refl _) _).drew (blk_cell HK3.out 0)
  have e2' : (w3.alloc (.cells #[.int .i64 f, .int .i64 i] 53)).drew.cell? ⟨kb, 1, none⟩ = some (.int .i64 i) := pw_cell_below ((Below.refl w3.heap.size w3).alloc (Nat.le_refl _) _).drew (blk_cell HK3.out 1)
  have HQ3 : Aside0 (dK.Q 53 w3.drew B (fun _ => True) ov ord) := ⟨Kd.Q_drew HC3.out.row⟩
  have HBL : Aside0 (∀ W, Below w3.heap.size w3 W → W.cell? ⟨b, 1, none⟩ = some ov ∧ W.cell? ⟨kb, 0, none⟩ = some (.int .i64 f) ∧ W.cell? ⟨kb, 1, none⟩ = some (.int .i64 i)) := ⟨fun W hW => ⟨pw_cell_below hW (blk_cell HC3.out.blk 1), pw_cell_below hW (blk_cell HK3.out 0), pw_cell_below hW (blk_cell HK3.out 1)⟩⟩
  have HDA := Aside0.mk (show Below w3.heap.size w3 (w3.alloc (.cells #[.int .i64 f, .int .i64 i] 53)).drew from ((Below.refl _ _).alloc (Nat.le_refl _) _).drew)
  have HD3 := Aside0.mk (show Below w3.heap.size w3 w3.drew from (Below.refl _ _).drew)
  have HBB : Aside0 (Below B w3 w3.drew) := ⟨(Below.refl _ _).drew⟩
  have HBK : Aside0 (kb ≠ b) := ⟨fun e => hbk e.symm⟩
  have HKE : Aside0 (some kb ≠ ov.ownBlock) := ⟨fun e => by have := HOV.out kb e.symm; omega⟩
  have HNE : Aside0 (some b ≠ ov.ownBlock) := ⟨Kd.Q_ne HC3.out.row HC3.out.blk (by decide)⟩
  go_cut [32] (fun v wd => ∃ A5 n5, v = .slice A5 (ord.length + 1) n5 ∧ ord.length + 1 ≤ n5 ∧ Aside0 (∃ w5, wd = w5.setCell ⟨b, 1, none⟩ v ∧ dK.Q 53 w5 B (fun _ => True) v (ord ++ [(f, i)]) ∧ Below B w3 w5 ∧ w3.drew.grownBy w5 ov.ownBlock))
  case first =>
    go_region_law (refine Kd.Q_append_step dK (w0 := w3) (W := w3.drew) B rfl (.tmp 29) (.tmp 31) 49 53 (.agg #[.int .i64 0, .int .i64 0]) 16 rfl Try.underlying49 infoK rfl (by decide) (by decide) ov ord (f, i) [.int .i64 f, .int .i64 i] (fun _ => True) (fun _ => False) rfl rfl ⟨[.int .i64 f], [.int .i64 i], rfl, rfl, rfl⟩ (fun _ h => h.elim) (fun _ _ => trivial) HQ3.out HBB.out hbw3 (by omega) ?_; intro v5 w5 hq5 hb5 hg5 hat5; have hk5 : w5.heap[b]? = some (.cells #[.int .i64 (size : Int), ov, .map (some m1), .map (some m2)] 51 (0, 0)) := (hg5.block b (blk_lt HC3.out.blk) HNE.out).trans HC3.out.blk; have c5 : w5.cell? ⟨b, 1, none⟩ = some ov := blk_cell hk5 1; have z5 := blk_frozen hk5 1; have hkk : w5.heap[kb]? = some (.cells #[.int .i64 f, .int .i64 i] 53 (0, 0)) := (hg5.block kb (blk_lt HK3.out) HKE.out).trans HK3.out; have HKK := Aside0.mk hkk; clear hkk; obtain ⟨A5, n5, rfl, hn5⟩ := Kd.Q_slice hq5; have HQ5 := Aside0.mk hq5; have HB5 := Aside0.mk hb5; have HG5 := Aside0.mk hg5; clear hq5 hb5 hg5 hk5; go_simp)
    all_goals
      go_wp2
      go_meet
      case rel =>
        have hl9 : (ord ++ [(f, i)]).length = ord.length + 1 := by simp
        have hq9 := HQ5.out
        rw [hl9] at hq9
        exact ⟨A5, n5, rfl, by rw [← hl9]; exact hn5, ⟨w5, rfl, hq9, HB5.out, HG5.out⟩⟩
  case rest =>
    obtain ⟨w6, hw6⟩ : ∃ w6, w6 = wc := ⟨_, rfl⟩
    subst hw6
    obtain ⟨A5, n5, rfl, hn5, HX⟩ := hcut
    obtain ⟨w5, hw6, hq5, hb5, hg5⟩ := HX.out
    clear HX e0 e1 e2 e0' e1' e2' HQ3 HBL HDA HD3 HBB
    have hkeep : ∀ x o, w3.heap[x]? = some o → some x ≠ ov.ownBlock → x ≠ b → w6.heap[x]? = some o := by
      intro x o hx h1 h2
      have hlt : x < w3.heap.size := (Array.getElem?_eq_some_iff.1 hx).1
      rw [hw6, Below.heap_setCell _ _ _ _ h2, hg5.block x hlt h1]
      exact hx
    have hk5 : w5.heap[b]? = some (.cells #[.int .i64 (size : Int), ov, .map (some m1), .map (some m2)] 51 (0, 0)) := (hg5.block b (blk_lt HC3.out.blk) HNE.out).trans HC3.out.blk
    have hk6 : w6.heap[b]? = some (.cells #[.int .i64 (size : Int), .slice A5 (ord.length + 1) n5, .map (some m1), .map (some m2)] 51 (0, 0)) := by
      have h9 := blk_set hk5 1 (.slice A5 (ord.length + 1) n5)
      simp only [List.setIfInBounds_toArray, List.set_cons_zero, List.set_cons_succ] at h9
      rw [hw6]
      exact h9
    have hq6 : dK.Q 53 w6 B (fun _ => True) (.slice A5 (ord.length + 1) n5) (ord ++ [(f, i)]) := by
      rw [hw6]
      exact Kd.Q_set hq5 hk5 (by decide) 1 _
    have hmne : ∀ m L c, w3.heap[m]? = some (.map L c) → some m ≠ ov.ownBlock ∧ m ≠ b := by
      intro m L c hm
      constructor
      · intro e
        obtain ⟨cells, hc⟩ := Kd.Q_typed HC3.out.row m e.symm
        rw [hm] at hc
        cases hc
      · intro e
        have h9 := HC3.out.blk
        rw [← e, hm] at h9
        cases h9
    have HFR6 : Aside0 (DedFr w w6) := ⟨DedFr.trans (DedFr.of_below HB3.out) (fun x c t fr hx h1 h2 => hkeep x _ hx (fun e => by
      obtain ⟨cells, hc⟩ := Kd.Q_typed HC3.out.row x e.symm
      rw [hx] at hc
      injection hc with hc
      injection hc with _ hc
      exact h2 hc) (fun e => by
      have h9 := HC3.out.blk
      rw [← e, hx] at h9
      injection h9 with h9
      injection h9 with _ h9
      exact h1 h9))⟩
    have hm6 := HC3.out.r1.of_heap (show w6.heap[m1]? = w3.heap[m1]? by
      have h9 := hmne m1 _ _ HC3.out.r1.blk
      rw [HC3.out.r1.blk, hkeep m1 _ HC3.out.r1.blk h9.1 h9.2])
    have hn6 := HC3.out.r2.of_heap (show w6.heap[m2]? = w3.heap[m2]? by
      have h9 := hmne m2 _ _ HC3.out.r2.blk
      rw [HC3.out.r2.blk, hkeep m2 _ HC3.out.r2.blk h9.1 h9.2])
    have hk6b := hkeep kb _ HK3.out HKE.out HBK.out
    have hp6 := hkeep w.heap.size _ HP3.out (fun e => by have := HOV.out _ e.symm; omega) (fun e => hbp e.symm)
    have hb6 : Below B w3 w6 := by rw [hw6]; exact hb5.setCell (p := ⟨b, 1, none⟩) HC3.out.hb _
    have HB6 := Aside0.mk ((HB3.out.mono hBw).trans hb6)
    clear hq5 hb5 hg5 hk5 hw6 hkeep
    have hb61 : b ≠ m1 := by intro e; have h9 := hm6.blk; rw [← e, hk6] at h9; cases h9
    have hb62 : b ≠ m2 := by intro e; have h9 := hn6.blk; rw [← e, hk6] at h9; cases h9
    have hkb1 : kb ≠ m1 := by intro e; have h9 := hm6.blk; rw [← e, hk6b] at h9; cases h9
    have hkb2 : kb ≠ m2 := by intro e; have h9 := hn6.blk; rw [← e, hk6b] at h9; cases h9
    have hpb1 : w.heap.size ≠ m1 := by intro e; have h9 := hm6.blk; rw [← e, hp6] at h9; cases h9
    have hpb2 : w.heap.size ≠ m2 := by intro e; have h9 := hn6.blk; rw [← e, hp6] at h9; cases h9
    have hget : getL L1 (f, i) = none := by
      cases hg : getL L1 (f, i) with
      | none => rfl
      | some x => have h9 := hp.out; rw [lookF, hg] at h9; cases h9
    obtain ⟨w7, w8, hr7, hr8, hM8, o7, o8, b7, b8⟩ := put_rep w6.drew B m1 L1 c1 (hm6.of_heap rfl) HC3.out.h1 f i HF.out HI.out hget ⟨kind, fr, to_, id, ver, meth, err, body⟩
    obtain ⟨w9, w10, st, z9, L2', c2', hr9, hr10, hM10, hG2, o9, o10, b9, b10⟩ := put_last w8 B m2 L2 c2 (hn6.of_heap (o8 m2 (fun e => HC3.out.ne e.symm))) HC3.out.h2 f i HF.out
    simp only [kvA, kvI, pkV, pk0] at hr7 hr8 hr9 hr10
    have HS : Aside0 (∀ W : World, W.heap[b]? = w6.heap[b]? ∧ W.heap[kb]? = w6.heap[kb]? ∧ W.heap[w.heap.size]? = w6.heap[w.heap.size]? → W.cell? ⟨b, 2, none⟩ = some (.map (some m1)) ∧ W.cell? ⟨b, 3, none⟩ = some (.map (some m2)) ∧ W.cell? ⟨kb, 0, none⟩ = some (.int .i64 f) ∧ W.cell? ⟨kb, 1, none⟩ = some (.int .i64 i) ∧ W.cell? ⟨w.heap.size, 0, none⟩ = some (.int .i64 kind) ∧ W.cell? ⟨w.heap.size, 1, none⟩ = some (.int .i64 fr) ∧ W.cell? ⟨w.heap.size, 2, none⟩ = some (.int .i64 to_) ∧ W.cell? ⟨w.heap.size, 3, none⟩ = some (.int .i64 id) ∧ W.cell? ⟨w.heap.size, 4, none⟩ = some (.int .i64 ver) ∧ W.cell? ⟨w.heap.size, 5, none⟩ = some (.string meth) ∧ W.cell? ⟨w.heap.size, 6, none⟩ = some (.int .i64 err) ∧ W.cell? ⟨w.heap.size, 7, none⟩ = some (.string body)) := ⟨fun W hW => by
      have x1 := hW.1.trans hk6
      have x2 := hW.2.1.trans hk6b
      have x3 := hW.2.2.trans hp6
      exact ⟨blk_cell x1 2, blk_cell x1 3, blk_cell x2 0, blk_cell x2 1, blk_cell x3 0, blk_cell x3 1, blk_cell x3 2, blk_cell x3 3, blk_cell x3 4, blk_cell x3 5, blk_cell x3 6, blk_cell x3 7⟩⟩
    have T6 : Aside0 (w6.drew.heap[b]? = w6.heap[b]? ∧ w6.drew.heap[kb]? = w6.heap[kb]? ∧ w6.drew.heap[w.heap.size]? = w6.heap[w.heap.size]?) := ⟨⟨rfl, rfl, rfl⟩⟩
    have T7 : Aside0 (w7.heap[b]? = w6.heap[b]? ∧ w7.heap[kb]? = w6.heap[kb]? ∧ w7.heap[w.heap.size]? = w6.heap[w.heap.size]?) := ⟨⟨o7 b hb61, o7 kb hkb1, o7 _ hpb1⟩⟩
    have T8 : Aside0 (w8.heap[b]? = w6.heap[b]? ∧ w8.heap[kb]? = w6.heap[kb]? ∧ w8.heap[w.heap.size]? = w6.heap[w.heap.size]?) := ⟨⟨o8 b hb61, o8 kb hkb1, o8 _ hpb1⟩⟩
    have T9 : Aside0 (w9.heap[b]? = w6.heap[b]? ∧ w9.heap[kb]? = w6.heap[kb]? ∧ w9.heap[w.heap.size]? = w6.heap[w.heap.size]?) := ⟨⟨(o9 b hb62).trans T8.out.1, (o9 kb hkb2).trans T8.out.2.1, (o9 _ hpb2).trans T8.out.2.2⟩⟩
    have T10 : Aside0 (w10.heap[b]? = w6.heap[b]? ∧ w10.heap[kb]? = w6.heap[kb]? ∧ w10.heap[w.heap.size]? = w6.heap[w.heap.size]?) := ⟨⟨(o10 b hb62).trans T8.out.1, (o10 kb hkb2).trans T8.out.2.1, (o10 _ hpb2).trans T8.out.2.2⟩⟩
    have HM10 := Aside0.mk (hM8.of_heap (o10 m1 HC3.out.ne))
    have HN10 := Aside0.mk hM10
    have HG2 := Aside0.mk hG2
    have HQ6 := Aside0.mk hq6
    have HT1 := Aside0.mk hm6.blk
    have HT2 := Aside0.mk hn6.blk
    have HK6 := Aside0.mk hk6
    have HKB6 := Aside0.mk hk6b
    have HO10 := Aside0.mk (show ∀ x, x ≠ m1 → x ≠ m2 → w10.heap[x]? = w6.heap[x]? from fun x h1 h2 => (o10 x h2).trans (o8 x h1))
    have HBA := Aside0.mk ((HB6.out.drew.trans b8).trans b10)
    clear hm6 hn6 hM8 hM10 hG2 hq6 hk6 hk6b hp6 o7 o8 o9 o10 b7 b8 b9 b10 hb6 hget hmne
    go_wp2_with fail
    go_cut [36] (fun v wd => v = .pointer (some ⟨b, 0, none⟩) ∧ Aside0 (wd = w10))
    case first =>
      go_region_held (fun W => W.cell? ⟨b, 2, none⟩ = some (.map (some m1)) ∧ W.cell? ⟨b, 3, none⟩ = some (.map (some m2)) ∧ W.cell? ⟨kb, 0, none⟩ = some (.int .i64 f) ∧ W.cell? ⟨kb, 1, none⟩ = some (.int .i64 i) ∧ W.cell? ⟨w.heap.size, 0, none⟩ = some (.int .i64 kind) ∧ W.cell? ⟨w.heap.size, 1, none⟩ = some (.int .i64 fr) ∧ W.cell? ⟨w.heap.size, 2, none⟩ = some (.int .i64 to_) ∧ W.cell? ⟨w.heap.size, 3, none⟩ = some (.int .i64 id) ∧ W.cell? ⟨w.heap.size, 4, none⟩ = some (.int .i64 ver) ∧ W.cell? ⟨w.heap.size, 5, none⟩ = some (.string meth) ∧ W.cell? ⟨w.heap.size, 6, none⟩ = some (.int .i64 err) ∧ W.cell? ⟨w.heap.size, 7, none⟩ = some (.string body)) (exact HS.out _ (Aside0.out (by assumption)))
        (fail)
      all_goals
        go_wp2
        go_meet
        case rel => exact ⟨rfl, ⟨rfl⟩⟩
    case rest =>
      obtain ⟨rfl, HWC⟩ := hcut
      have hwc := HWC.out
      subst hwc
      obtain ⟨n1, hn1⟩ : ∃ n1, ord.length + 1 = n1 := ⟨_, rfl⟩
      simp only [hn1] at HQ6 HK6 hn5 ⊢
      have hn1' : n1 = ord.length + 1 := hn1.symm
      clear hn1
      have hol1 : (ord ++ [(f, i)]).length = n1 := by simp [hn1']
      have HK10 : Aside0 (wc.heap[b]? = some (.cells #[.int .i64 (size : Int), .slice A5 n1 n5, .map (some m1), .map (some m2)] 51 (0, 0))) := ⟨(HO10.out b hb61 hb62).trans HK6.out⟩
      have HKB10 : Aside0 (wc.heap[kb]? = some (.cells #[.int .i64 f, .int .i64 i] 53 (0, 0))) := ⟨(HO10.out kb hkb1 hkb2).trans HKB6.out⟩
      have HFR10 : Aside0 (DedFr w wc) := ⟨DedFr.trans HFR6.out (fun x c t fr hx _ _ => (HO10.out x (fun e => by rw [e, HT1.out] at hx; cases hx) (fun e => by rw [e, HT2.out] at hx; cases hx)).trans hx)⟩
      have HQ10 : Aside0 (dK.Q 53 wc B (fun _ => True) (.slice A5 n1 n5) (ord ++ [(f, i)])) := ⟨by
        have h9 := Kd.Q_tight rfl HQ6.out
        refine Kd.Q_mono (Kd.Q_step (w1 := wc) h9 (fun k hk hlt => ?_)) (fun _ _ => trivial)
        obtain ⟨cells, hc⟩ := Kd.Q_typed HQ6.out k hk.symm
        refine HO10.out k ?_ ?_
        · intro e
          rw [e, HT1.out] at hc
          cases hc
        · intro e
          rw [e, HT2.out] at hc
          cases hc⟩
      obtain ⟨g, o, cap, hv, hgB, hgl, cellsg, hcg⟩ := Kd.Q_form HQ10.out (by rw [hol1]; omega)
      obtain rfl : A5 = some ⟨g, o, none⟩ := by injection hv
      clear hv hgB hgl cellsg hcg cap
      obtain ⟨k0, k1, hk01⟩ : ∃ k0 k1, (ord ++ [(f, i)]).getD 0 (0, 0) = (k0, k1) := ⟨_, _, rfl⟩
      have hel : wc.cell? ⟨g, o, none⟩ = some (.int .i64 k0) ∧ wc.cell? ⟨g, o + 1, none⟩ = some (.int .i64 k1) := by
        obtain ⟨c, _, hM, hcc, _⟩ := Kd.Q_elem HQ10.out (0, 0) 0 (by omega) (by omega)
        rw [show (0 : Int).toNat = 0 from rfl, hk01] at hM
        obtain ⟨d0, d1, rfl, rfl, rfl⟩ := hM
        have a0 := hcc 0 _ rfl
        have a1 := hcc 1 _ rfl
        rw [show o + (0 : Int).toNat * dK.sz + 0 = o from rfl] at a0
        rw [show o + (0 : Int).toNat * dK.sz + 1 = o + 1 by rw [show (0 : Int).toNat = 0 from rfl]; omega] at a1
        exact ⟨a0, a1⟩
      obtain ⟨el0, el1⟩ := hel
      have cb1 : wc.cell? ⟨b, 1, none⟩ = some (.slice (some ⟨g, o, none⟩) n1 n5) := blk_cell HK10.out 1
      have hpos : (0 : Int) < (n1 : Int) := by omega
      have hpos2 : 0 < n1 := by omega
      have HN1 := Aside0.mk hn1'
      have HOL1 := Aside0.mk hol1
      clear hn1' hol1
      clear HS T6 T7 T8 T9 T10 hr7 hr8 hr9 hr10
      go_upto_region 8 with fail
      have hB11 : Below wc.heap.size wc (wc.alloc (.cells #[.int .i64 k0, .int .i64 k1] 53)) := (Below.refl _ _).alloc (Nat.le_refl _) _
      have HFR11 : Aside0 (DedFr w (wc.alloc (.cells #[.int .i64 k0, .int .i64 k1] 53))) := ⟨DedFr.trans HFR10.out (DedFr.of_below hB11)⟩
      have HF11 := Aside0.mk (heap_alloc_new wc (.cells #[.int .i64 k0, .int .i64 k1] 53))
      have HK11 : Aside0 ((wc.alloc (.cells #[.int .i64 k0, .int .i64 k1] 53)).heap[b]? = some (.cells #[.int .i64 (size : Int), .slice (some ⟨g, o, none⟩) n1 n5, .map (some m1), .map (some m2)] 51 (0, 0))) := ⟨by rw [hB11.block _ (blk_lt HK10.out)]; exact HK10.out⟩
      have HKB11 : Aside0 ((wc.alloc (.cells #[.int .i64 k0, .int .i64 k1] 53)).heap[kb]? = some (.cells #[.int .i64 f, .int .i64 i] 53 (0, 0))) := ⟨by rw [hB11.block _ (blk_lt HKB10.out)]; exact HKB10.out⟩
      have HQ11 := Aside0.mk (Kd.Q_below HQ10.out hB11)
      have HM11 := Aside0.mk (HM10.out.of_heap (hB11.block _ HM10.out.lt))
      have HN11 := Aside0.mk (HN10.out.of_heap (hB11.block _ HN10.out.lt))
      have hBwc : B ≤ wc.heap.size := Nat.le_trans hBw HBA.out.size
      have HB11 := Aside0.mk (HBA.out.trans (hB11.mono hBwc))
      obtain ⟨fb, hfb⟩ : ∃ fb, wc.heap.size = fb := ⟨_, rfl⟩
      obtain ⟨w11, hw11⟩ : ∃ w11, wc.alloc (.cells #[.int .i64 k0, .int .i64 k1] 53) = w11 := ⟨_, rfl⟩
      rw [hfb] at HF11
      simp only [hfb]
      rw [hw11] at HF11 HK11 HKB11 HQ11 HM11 HN11 HB11 HFR11 ⊢
      clear hw11 hfb hB11 HK10 HKB10 HQ10 HM10 HN10 HBA cb1 el0 el1 HT1 HT2 HQ6 HK6 HKB6 HO10 hBwc
      have c0 : ∀ k, (w11.drewN k).cell? ⟨b, 0, none⟩ = some (.int .i64 (size : Int)) := fun k => pw_cell_below (pw_below_drewN (Below.refl _ _) k) (blk_cell HK11.out 0)
      have cc1 : ∀ k, (w11.drewN k).cell? ⟨b, 1, none⟩ = some (.slice (some ⟨g, o, none⟩) n1 n5) := fun k => pw_cell_below (pw_below_drewN (Below.refl _ _) k) (blk_cell HK11.out 1)
      have cc2 : ∀ k, (w11.drewN k).cell? ⟨fb, 0, none⟩ = some (.int .i64 k0) := fun k => pw_cell_below (pw_below_drewN (Below.refl _ _) k) (blk_cell HF11.out 0)
      have c3 : ∀ k, (w11.drewN k).cell? ⟨fb, 1, none⟩ = some (.int .i64 k1) := fun k => pw_cell_below (pw_below_drewN (Below.refl _ _) k) (blk_cell HF11.out 1)
      have c4 : ∀ k, (w11.drewN k).cell? ⟨kb, 0, none⟩ = some (.int .i64 f) := fun k => pw_cell_below (pw_below_drewN (Below.refl _ _) k) (blk_cell HKB11.out 0)
      have c5 : ∀ k, (w11.drewN k).cell? ⟨kb, 1, none⟩ = some (.int .i64 i) := fun k => pw_cell_below (pw_below_drewN (Below.refl _ _) k) (blk_cell HKB11.out 1)
      by_cases hsz : size < n1
      · have hd : decide ((size : Int) < (n1 : Int)) = true := decide_eq_true (by omega)
        have hd2 : decide (size < n1) = true := decide_eq_true hsz
        have hlp : 0 < L1.length := by
          have h8 := HN1.out
          have h9 := congrArg List.length HORD.out
          rw [List.length_map] at h9
          omega
        obtain ⟨⟨kx, px, sx⟩, Lt, hL1⟩ : ∃ x t, L1 = x :: t := by
          cases L1 with
          | nil => simp at hlp
          | cons x t => exact ⟨x, t, rfl⟩
        have hkx : kx = (k0, k1) := by
          have h9 := hk01
          rw [← HORD.out, hL1] at h9
          simpa using h9
        have hget : getL L1 (f, i) = none := by
          cases hg : getL L1 (f, i) with
          | none => rfl
          | some x => have h9 := hp.out; rw [lookF, hg] at h9; cases h9
        have hne : ¬ (k0 = f ∧ k1 = i) := by
          rintro ⟨rfl, rfl⟩
          exact getL_not hget _ (by rw [hL1]; exact List.mem_cons_self ..) hkx
        subst hkx
        have HL1 := Aside0.mk hL1
        clear hL1 hget
        have heq := fun n W => eq_key k0 k1 f i false (by simpa using hne) n W
        go_quiet (fail)
        go_upto_region 9 with fail
        obtain ⟨w12, hw12⟩ : ∃ w12, w11.drewN nq = w12 := ⟨_, rfl⟩
        have hh12 : w12.heap = w11.heap := by rw [← hw12]; rfl
        have HB12 : Aside0 (Below B w w12) := ⟨by rw [← hw12]; exact pw_below_drewN HB11.out nq⟩
        rw [hw12]
        clear hw12 c0 cc1 cc2 c3 c4 c5 heq hd hd2
        have hok01 : okA (k0, k1) := by
          exact HM11.out.oks ((k0, k1), px, sx) (by rw [HL1.out]; simp)
        obtain ⟨w13, hr13, he13, hM13⟩ := (HM11.out.of_heap (w1 := w12.drew) (by show w12.heap[m1]? = _; rw [hh12])).delete keyA Try.underlying47 (k0, k1) hok01 0
        simp only [kvA] at hr13
        have hfil : (L1 ++ [((f, i), (⟨kind, fr, to_, id, ver, meth, err, body⟩ : Pk), c1)]).filter (fun e => decide (e.1 ≠ (k0, k1))) = (L1 ++ [((f, i), (⟨kind, fr, to_, id, ver, meth, err, body⟩ : Pk), c1)]).drop 1 := by
          have h8 := HM11.out.keys
          have h9 := filter_erase (f := fun e : (Int × Int) × Pk × Nat => e.1) h8 (j := 0) (x := ((k0, k1), px, sx)) (by rw [HL1.out]; rfl)
          rw [h9, List.eraseIdx_zero, List.drop_one]
        rw [hfil] at hM13
        have hh13 : ∀ x, x ≠ m1 → w13.heap[x]? = w11.heap[x]? := fun x hx => by rw [he13, set_other _ hx]; show w12.heap[x]? = _; rw [hh12]
        have HB13 : Aside0 (Below B w w13) := ⟨by rw [he13]; exact below_set HB12.out.drew HC3.out.h1 _⟩
        have HFR13 : Aside0 (DedFr w w13) := ⟨DedFr.trans HFR11.out (fun x c t fr hx _ _ => (hh13 x (fun e => by rw [e, HM11.out.blk] at hx; cases hx)).trans hx)⟩
        have q2 : w12.drew.cell? ⟨b, 2, none⟩ = some (.map (some m1)) := blk_cell (show w12.drew.heap[b]? = _ from (by show w12.heap[b]? = _; rw [hh12]; exact HK11.out)) 2
        have q3 : w12.drew.cell? ⟨fb, 0, none⟩ = some (.int .i64 k0) := blk_cell (show w12.drew.heap[fb]? = _ from (by show w12.heap[fb]? = _; rw [hh12]; exact HF11.out)) 0
        have q4 : w12.drew.cell? ⟨fb, 1, none⟩ = some (.int .i64 k1) := blk_cell (show w12.drew.heap[fb]? = _ from (by show w12.heap[fb]? = _; rw [hh12]; exact HF11.out)) 1
        have HM13 := Aside0.mk hM13
        have HK13 : Aside0 (w13.heap[b]? = some (.cells #[.int .i64 (size : Int), .slice (some ⟨g, o, none⟩) n1 n5, .map (some m1), .map (some m2)] 51 (0, 0))) := ⟨(hh13 b hb61).trans HK11.out⟩
        have HN13 := Aside0.mk (HN11.out.of_heap (hh13 m2 (fun e => HC3.out.ne e.symm)))
        have HQ13 : Aside0 (dK.Q 53 w13 B (fun _ => True) (.slice (some ⟨g, o, none⟩) n1 n5) (ord ++ [(f, i)])) := ⟨by
          have h9 := Kd.Q_tight rfl HQ11.out
          refine Kd.Q_mono (Kd.Q_step (w1 := w13) h9 (fun k hk hlt => ?_)) (fun _ _ => trivial)
          obtain ⟨cells, hc⟩ := Kd.Q_typed HQ11.out k hk.symm
          refine hh13 k ?_
          intro e
          rw [e, HM11.out.blk] at hc
          cases hc⟩
        obtain ⟨i1, hi1, _, hsz1, _⟩ := info_parts infoK
        have hcut := cut_from (P := Try.prog) 49 53 .i64 Try.underlying49 hi1 2 hsz1 (some ⟨g, o, none⟩) n1 n5 1 (by omega) (by omega)
        have HQD := Aside0.mk (Kd.Q_drop HQ13.out (k := 1) (by rw [HOL1.out]; omega))
        rw [show ((1 : Int)).toNat = 1 from rfl] at hcut
        rw [show dK.sz = 2 from rfl] at HQD
        obtain ⟨A7, hA7⟩ : ∃ A, (if n5 = 1 then some (⟨g, o, none⟩ : Addr) else (some (⟨g, o, none⟩ : Addr)).map (·.add (1 * 2))) = A := ⟨_, rfl⟩
        simp only [hA7] at hcut HQD
        obtain ⟨n7, hn7⟩ : ∃ n7, n1 - 1 = n7 := ⟨_, rfl⟩
        obtain ⟨n8, hn8⟩ : ∃ n8, n5 - 1 = n8 := ⟨_, rfl⟩
        simp only [hn7, hn8] at hcut HQD
        have q5 : w13.cell? ⟨b, 1, none⟩ = some (.slice (some ⟨g, o, none⟩) n1 n5) := blk_cell HK13.out 1
        have q6 := blk_frozen HK13.out 1
        clear hA7 hn7 hn8 hi1 hsz1 he13 hM13 hh13 hh12 hok01 hfil
        go_still_tail 5, (by kernel_rfl)
        change wpList _ _ _ _ _ w12.drew
        go_wp2_with fail
        go_ret
        refine ⟨rfl, ⟨⟨.slice A7 n7 n8, c1 + 1, L2', c2', ?_, HG2.out⟩, HB13.out.setCell (p := ⟨b, 1, none⟩) HC3.out.hb _⟩, DedFr.trans HFR13.out (fun x c t fr hx h1 _ => by
          rw [Below.heap_setCell _ _ _ _ (fun e => ?_)]
          · exact hx
          · have e' : x = b := e
            rw [e', HK13.out] at hx
            injection hx with hx
            injection hx with _ hx
            exact h1 hx.symm)⟩
        have hadd : addL size L1 ((f, i), (⟨kind, fr, to_, id, ver, meth, err, body⟩ : Pk), c1) = (L1 ++ [((f, i), (⟨kind, fr, to_, id, ver, meth, err, body⟩ : Pk), c1)]).drop 1 := by
          rw [addL, if_pos]
          have h8 := HN1.out
          have h9 := congrArg List.length HORD.out
          rw [List.length_map] at h9
          omega
        rw [hadd]
        refine ⟨?_, ?_, HM13.out.of_heap (Below.heap_setCell _ _ _ _ (fun e => hb61 e.symm)), HN13.out.of_heap (Below.heap_setCell _ _ _ _ (fun e => hb62 e.symm)), HC3.out.hb, HC3.out.h1, HC3.out.h2, HC3.out.ne⟩
        · have h9 := blk_set HK13.out 1 (.slice A7 n7 n8)
          simp only [List.setIfInBounds_toArray, List.set_cons_zero, List.set_cons_succ] at h9
          exact h9
        · have h9 := Kd.Q_set HQD.out HK13.out (by decide) 1 (.slice A7 n7 n8)
          rw [List.map_drop, List.map_append, HORD.out]
          exact h9
      · have hd : decide ((size : Int) < (n1 : Int)) = false := decide_eq_false (by omega)
        have hd2 : decide (size < n1) = false := decide_eq_false hsz
        go_quiet (fail)
        go_wp2_with fail
        go_ret
        refine ⟨rfl, ⟨⟨.slice (some ⟨g, o, none⟩) n1 n5, c1 + 1, L2', c2', ?_, HG2.out⟩, pw_below_drewN HB11.out nq⟩, DedFr.trans HFR11.out (DedFr.of_below (pw_below_drewN (Below.refl _ _) nq))⟩
        have hadd : addL size L1 ((f, i), (⟨kind, fr, to_, id, ver, meth, err, body⟩ : Pk), c1) = L1 ++ [((f, i), (⟨kind, fr, to_, id, ver, meth, err, body⟩ : Pk), c1)] := by
          rw [addL, if_neg]
          have h8 := HN1.out
          have h9 := congrArg List.length HORD.out
          rw [List.length_map] at h9
          omega
        rw [hadd]
        refine ⟨HK11.out, ?_, HM11.out.of_heap rfl, HN11.out.of_heap rfl, HC3.out.hb, HC3.out.h1, HC3.out.h2, HC3.out.ne⟩
        rw [List.map_append, HORD.out]
        exact Kd.Q_drewN HQ11.out nq
theorem add_new (w : World) (B b size : Nat) (ov : Value) (m1 m2 : Nat) (L1 : List ((Int × Int) × Pk × Nat)) (c1 : Nat) (L2 : List (Int × Int × Nat)) (c2 : Nat)
    (C : CacheAt w B b size ov m1 m2 (L1.map (·.1)) L1 c1 L2 c2) (f i : Int) (hf : In64 f) (hi : In64 i) (p : Pk) (hp : Aside0 (lookF L1 L2 f i = (pk0, 1))) (hBw : B ≤ w.heap.size) (hlen : L1.length ≤ 100) (hs1 : 1 ≤ size) :
    Calls Try.prog 9 #[.pointer (some ⟨b, 0, none⟩), .int .i64 f, .int .i64 i, pkV p] w fun e w' =>
      e = .returned (.int .i64 0) ∧ AddDone w w' B b size m1 m2 L1 c1 L2 f i p :=
  (add_newF w B b size ov m1 m2 L1 c1 L2 c2 C f i hf hi p hp hBw hlen hs1).mono fun _ _ h => ⟨h.1, h.2.1⟩
end Go.Proofs.Ytmdkgbbgppiaaaa
