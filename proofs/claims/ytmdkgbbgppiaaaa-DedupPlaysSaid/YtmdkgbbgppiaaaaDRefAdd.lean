/- The reference's Make and Add. -/
import Derived.Test.YtmdkgbbgppiaaaaDRefLook
import Derived.Test.YtmdkgbbgppiaaaaDOnce
import Derived.Deep.CutBlock
namespace Go.Proofs.Ytmdkgbbgppiaaaa
set_option linter.unusedVariables false
set_option linter.unusedSimpArgs false
open Go.RowKit Go.ChangeMaps Go.Proofs.YtmdkgbbgppiaaaaW.PrintWords

/-- What is nothing of the reference's cache stays. -/
def RefFr (w w' : World) : Prop := ∀ (x : Nat) (c : Array Value) (t : TypeId) (fr : Nat × Nat), w.heap[x]? = some (.cells c t fr) → t ≠ 45 → t ≠ 56 → w'.heap[x]? = some (.cells c t fr)
/-- Maps stay. -/
def MapFr (w w' : World) : Prop := ∀ (x : Nat) (c : Array _) (n : Nat), w.heap[x]? = some (.map c n) → w'.heap[x]? = some (.map c n)
/-- What the reference's cache may change. -/
def ChgR (B : Nat) (w w' : World) : Prop := Below B w w' ∧ RefFr w w' ∧ MapFr w w'
theorem ChgR.of_below {B : Nat} {w w' : World} (hBw : B ≤ w.heap.size) (h : Below w.heap.size w w') : ChgR B w w' :=
  ⟨h.mono hBw, fun x c t fr hx _ _ => (h.block x (Array.getElem?_eq_some_iff.1 hx).1).trans hx, fun x c n hx => (h.block x (Array.getElem?_eq_some_iff.1 hx).1).trans hx⟩
theorem ChgR.trans {B : Nat} {w w1 w2 : World} (h : ChgR B w w1) (k : ChgR B w1 w2) : ChgR B w w2 :=
  ⟨h.1.trans k.1, fun x c t fr hx h1 h2 => k.2.1 x c t fr (h.2.1 x c t fr hx h1 h2) h1 h2, fun x c n hx => k.2.2 x c n (h.2.2 x c n hx)⟩
theorem ChgR.set {B : Nat} {w w1 : World} (h : ChgR B w w1) {g : Nat} {cs : Array Value} {t : TypeId} (hk : w1.heap[g]? = some (.cells cs t (0, 0))) (ht : t = 45 ∨ t = 56) (hg : B ≤ g) (j : Nat) (u : Value) : ChgR B w (w1.setCell ⟨g, j, none⟩ u) := by
  refine ⟨h.1.setCell (p := ⟨g, j, none⟩) hg u, fun x c t' fr hx h1 h2 => ?_, fun x c n hx => ?_⟩
  · have h9 := h.2.1 x c t' fr hx h1 h2
    rw [Below.heap_setCell _ _ _ _ (fun e => ?_)]
    · exact h9
    · have e' : x = g := e
      rw [e', hk] at h9
      injection h9 with h9
      injection h9 with _ h9
      rcases ht with ht | ht
      · exact h1 (h9.symm.trans ht)
      · exact h2 (h9.symm.trans ht)
  · have h9 := h.2.2 x c n hx
    rw [Below.heap_setCell _ _ _ _ (fun e => ?_)]
    · exact h9
    · have e' : x = g := e
      rw [e', hk] at h9
      cases h9
theorem ChgR.grown {B : Nat} {w w1 w2 : World} (h : ChgR B w w1) {row : Option Nat} (hg : w1.grownBy w2 row) (hBw : B ≤ w1.heap.size) (hr : ∀ k, row = some k → B ≤ k ∧ ∃ cells, w1.heap[k]? = some (.cells cells 56 (0, 0))) : ChgR B w w2 := by
  refine ⟨h.1.grown hg hBw (fun k hk => (hr k hk).1), fun x c t' fr hx h1 h2 => ?_, fun x c n hx => ?_⟩
  · have h9 := h.2.1 x c t' fr hx h1 h2
    refine (hg.block x (Array.getElem?_eq_some_iff.1 h9).1 (fun e => ?_)).trans h9
    obtain ⟨_, cells, hc⟩ := hr x e.symm
    rw [h9] at hc
    injection hc with hc
    injection hc with _ hc
    exact h2 hc
  · have h9 := h.2.2 x c n hx
    refine (hg.block x (Array.getElem?_eq_some_iff.1 h9).1 (fun e => ?_)).trans h9
    obtain ⟨_, cells, hc⟩ := hr x e.symm
    rw [h9] at hc
    cases hc
theorem lastM_set {M : List ((Int × Int) × Pk)} {j : Nat} {f o i : Int} {q : Pk} (hj : M[j]? = some ((f, o), q)) (h : ∀ k x, k < j → M[k]? = some x → x.1.1 ≠ f) (f' : Int) : lastM (M.set j ((f, i), q)) f' = setF (lastM M) f i f' := by
  induction M generalizing j with
  | nil => simp at hj
  | cons a M ih =>
    cases j with
    | zero =>
      have ha : a = ((f, o), q) := by simpa using hj
      subst ha
      rw [List.set_cons_zero, lastM, List.find?_cons, setF, lastM, List.find?_cons]
      by_cases hf : f' = f
      · subst hf
        rw [decide_eq_true (show ((f', i), q).1.1 = f' from rfl), if_pos rfl]
        rfl
      · rw [decide_eq_false (show ¬ ((f, i), q).1.1 = f' from fun e => hf e.symm), if_neg hf]
    | succ j =>
      have ha : a.1.1 ≠ f := h 0 a (by omega) rfl
      have ih' := ih (j := j) (by simpa using hj) (fun k x hk hx => h (k + 1) x (by omega) (by simpa using hx))
      rw [List.set_cons_succ, lastM, List.find?_cons, setF, lastM, List.find?_cons]
      by_cases hf : a.1.1 = f'
      · rw [decide_eq_true hf, if_neg (fun e => ha (hf.trans e))]
      · rw [decide_eq_false hf]
        simp only
        rw [lastM, setF, lastM] at ih'
        exact ih'
theorem lastM_snoc {M : List ((Int × Int) × Pk)} {f i : Int} {q : Pk} (h : ∀ k x, k < M.length → M[k]? = some x → x.1.1 ≠ f) (f' : Int) : lastM (M ++ [((f, i), q)]) f' = setF (lastM M) f i f' := by
  induction M with
  | nil =>
    rw [List.nil_append, lastM, List.find?_cons, setF]
    by_cases hf : f' = f
    · subst hf
      rw [decide_eq_true (show ((f', i), q).1.1 = f' from rfl), if_pos rfl]
      rfl
    · rw [decide_eq_false (show ¬ ((f, i), q).1.1 = f' from fun e => hf e.symm), if_neg hf]
      rfl
  | cons a M ih =>
    have ha : a.1.1 ≠ f := h 0 a (by simp) rfl
    have ih' := ih (fun k x hk hx => h (k + 1) x (by simpa using hk) (by simpa using hx))
    rw [List.cons_append, lastM, List.find?_cons, setF, lastM, List.find?_cons]
    by_cases hf : a.1.1 = f'
    · rw [decide_eq_true hf, if_neg (fun e => ha (hf.trans e))]
    · rw [decide_eq_false hf]
      simp only
      rw [lastM, setF, lastM] at ih'
      exact ih'
theorem infoKK : (Try.prog.info? 56).map (fun i => (i.zero, i.size, i.bytes)) = some (some (.agg #[.int .i64 0, .int .i64 0, .int .i64 0, .int .i64 0, .int .i64 0, .int .i64 0, .int .i64 0, .string ByteArray.empty, .int .i64 0, .string ByteArray.empty]), 10, 96) := by kernel_rfl
theorem lit_reads {w : World} {g : Nat} (e : (Int × Int) × Pk) (h : w.heap[g]? = some (.cells #[.int .i64 e.1.1, .int .i64 e.1.2, .int .i64 e.2.kind, .int .i64 e.2.fr, .int .i64 e.2.to_, .int .i64 e.2.id, .int .i64 e.2.ver, .string e.2.meth, .int .i64 e.2.err, .string e.2.body] 56 (0, 0))) :
    ReadsRow (kK.K w) kK.sz w (some ⟨g, 0, none⟩) 1 [e] := by
  refine ⟨rfl, by decide, fun _ => ⟨_, rfl, fun j p hj => ?_⟩⟩
  obtain rfl : j = 0 := by
    cases j with
    | zero => rfl
    | succ j => simp at hj
  simp only [List.getElem?_cons_zero, Option.some.injEq] at hj
  subst hj
  refine ⟨kC e, rfl, rfl, fun i u hu => ?_⟩
  have hi : i < 10 := by
    have := (List.getElem?_eq_some_iff.1 hu).1
    exact this
  have h9 := blk_cell h i
  rw [Nat.zero_mul, Nat.zero_add]
  show w.cell? (Addr.add ⟨g, 0, none⟩ i) = _
  have ha : Addr.add ⟨g, 0, none⟩ i = ⟨g, i, none⟩ := by simp [Addr.add]; exact fun h => h.symm
  rw [ha]
  rw [h9]
  rcases i with _ | _ | _ | _ | _ | _ | _ | _ | _ | _ | i
  all_goals first | exact hu | omega
theorem lt_alloc (w : World) (o : Obj) : w.heap.size < (w.alloc o).drew.heap.size := by
  show w.heap.size < (w.alloc o).heap.size
  simp
set_option maxRecDepth 100000 in
theorem make_r (size : Int) (s : Nat) (w : World) (hs : In64 size) (hs2 : max 1 (min size 8) = (s : Int)) :
    Calls Try.prog 15 #[.int .i64 size] w fun e w' => ∃ g, e = .returned (.pointer (some ⟨g, 0, none⟩)) ∧ Aside0 (RefAt w' w.heap.size g s (.slice none 0 0) (.slice none 0 0) [] []) ∧ Aside0 (Below w.heap.size w w') := by
  have h3 : min (max size 1) 8 = (s : Int) := by omega
  go_enter Try.func15, Try.ntmps15
  go_wp2
  all_goals
    go_ret
    refine ⟨_, rfl, ⟨⟨?_, Kd.Q_nil _ _ _ _ _, Kd.Q_nil _ _ _ _ _, Nat.le_refl _, fun k hk => by simp [Value.ownBlock] at hk⟩⟩, ⟨(Below.refl _ _).alloc (Nat.le_refl _) _⟩⟩
    rw [heap_alloc_new]
    congr 5
    omega
set_option maxHeartbeats 2000000 in
theorem addOld_r (w : World) (B g size : Nat) (vL vM : Value) (R M : List ((Int × Int) × Pk)) (C : RefAt w B g size vL vM R M) (hR : R.length ≤ 100) (hM : M.length ≤ 100) (f i : Int) (p q : Pk) (k : Nat) (hp : Aside0 (lookS R (lastM M) f i = (q, k))) (hk : k ≠ 1) :
    Calls Try.prog 16 #[.pointer (some ⟨g, 0, none⟩), .int .i64 f, .int .i64 i, pkV p] w fun e w' => e = .returned (.int .i64 20) ∧ Below w.heap.size w w' := by
  obtain ⟨kind, fr, to_, id, ver, meth, err, body⟩ := p
  obtain ⟨a1, a2, a3, a4, a5, a6, a7, a8⟩ := q
  unfold pkV
  have HB0 : Aside0 (Below w.heap.size w (w.alloc (.cells #[.int .i64 kind, .int .i64 fr, .int .i64 to_, .int .i64 id, .int .i64 ver, .string meth, .int .i64 err, .string body] 28))) := ⟨(Below.refl _ _).alloc (Nat.le_refl _) _⟩
  have HC := Aside0.mk (C.below HB0.out)
  have hkb : ((k : Int) == 1) = false := by rw [beq_eq_false_iff_ne]; omega
  have hkb2 : ((k : Int) != 1) = true := by rw [bne_iff_ne]; omega
  clear C hk
  go_enter Try.func16, Try.ntmps16
  go_wp2_with fail
  refine (look_r _ B g size vL vM R M HC.out hR hM f i _ k hp).mono ?_
  rintro e w1 ⟨rfl, hB1⟩
  have HB1 := Aside0.mk (HB0.out.trans (hB1.mono HB0.out.size))
  clear hB1
  unfold pkV
  go_wp2
  go_ret
  exact ⟨rfl, HB1.out.alloc HB1.out.size _⟩
set_option maxRecDepth 100000 in
set_option maxHeartbeats 4000000 in
theorem addNew_r (w : World) (B g size : Nat) (vL vM : Value) (R M : List ((Int × Int) × Pk)) (C : RefAt w B g size vL vM R M) (hBw : B ≤ w.heap.size) (hR : R.length ≤ 100) (hM : M.length ≤ 100) (hs1 : 1 ≤ size) (f i : Int) (p : Pk) (hp : Aside0 (lookS R (lastM M) f i = (pk0, 1))) :
    Calls Try.prog 16 #[.pointer (some ⟨g, 0, none⟩), .int .i64 f, .int .i64 i, pkV p] w fun e w' => e = .returned (.int .i64 0) ∧ Aside0 (∃ vL' vM' M', RefAt w' B g size vL' vM' (addR size R ((f, i), p)) M' ∧ M'.length ≤ M.length + 1 ∧ ∀ f', lastM M' f' = setF (lastM M) f i f') ∧ Aside0 (ChgR B w w') := by
  obtain ⟨kind, fr, to_, id, ver, meth, err, body⟩ := p
  unfold pkV
  have HB0 : Aside0 (Below w.heap.size w (w.alloc (.cells #[.int .i64 kind, .int .i64 fr, .int .i64 to_, .int .i64 id, .int .i64 ver, .string meth, .int .i64 err, .string body] 28))) := ⟨(Below.refl _ _).alloc (Nat.le_refl _) _⟩
  have HP0 := Aside0.mk (heap_alloc_new w (.cells #[.int .i64 kind, .int .i64 fr, .int .i64 to_, .int .i64 id, .int .i64 ver, .string meth, .int .i64 err, .string body] 28))
  have HC := Aside0.mk (C.below HB0.out)
  clear C
  go_enter Try.func16, Try.ntmps16
  go_wp2_with fail
  refine (look_r _ B g size vL vM R M HC.out hR hM f i _ 1 hp).mono ?_
  rintro e w1 ⟨rfl, hB1⟩
  have hB1a : Below w1.heap.size w1 (w1.alloc (.cells #[.int .i64 0, .int .i64 0, .int .i64 0, .int .i64 0, .int .i64 0, .string ByteArray.empty, .int .i64 0, .string ByteArray.empty] 28)) := (Below.refl _ _).alloc (Nat.le_refl _) _
  have HC3 := Aside0.mk ((HC.out.below hB1).below hB1a)
  have HP3 : Aside0 ((w1.alloc (.cells #[.int .i64 0, .int .i64 0, .int .i64 0, .int .i64 0, .int .i64 0, .string ByteArray.empty, .int .i64 0, .string ByteArray.empty] 28)).heap[w.heap.size]? = some (.cells #[.int .i64 kind, .int .i64 fr, .int .i64 to_, .int .i64 id, .int .i64 ver, .string meth, .int .i64 err, .string body] 28 (0, 0))) := ⟨by rw [hB1a.block _ (Nat.lt_of_lt_of_le (blk_lt HP0.out) hB1.size), hB1.block _ (blk_lt HP0.out)]; exact HP0.out⟩
  have hB13 := HB0.out.trans (hB1.mono HB0.out.size)
  have HB3 := Aside0.mk (hB13.trans (hB1a.mono hB13.size))
  clear hB1 hB13
  unfold pkV pk0
  go_upto_region 4 with fail
  change Code.wp _ _ _ _ (w1.alloc (.cells #[.int .i64 0, .int .i64 0, .int .i64 0, .int .i64 0, .int .i64 0, .string ByteArray.empty, .int .i64 0, .string ByteArray.empty] 28))
  obtain ⟨w3, hw3⟩ : ∃ W, w1.alloc (.cells #[.int .i64 0, .int .i64 0, .int .i64 0, .int .i64 0, .int .i64 0, .string ByteArray.empty, .int .i64 0, .string ByteArray.empty] 28) = W := ⟨_, rfl⟩
  rw [hw3] at HC3 HP3 HB3 ⊢
  clear hw3 hB1a HC HP0 HB0
  obtain ⟨A, c, hv, hl⟩ := Kd.Q_slice HC3.out.rowL
  subst hv
  have HS := Aside0.mk (fun W (hW : Below w3.heap.size w3 W) => (show W.cell? ⟨g, 1, none⟩ = some (.slice A R.length c) ∧ W.cell? ⟨w.heap.size, 0, none⟩ = some (.int .i64 kind) ∧ W.cell? ⟨w.heap.size, 1, none⟩ = some (.int .i64 fr) ∧ W.cell? ⟨w.heap.size, 2, none⟩ = some (.int .i64 to_) ∧ W.cell? ⟨w.heap.size, 3, none⟩ = some (.int .i64 id) ∧ W.cell? ⟨w.heap.size, 4, none⟩ = some (.int .i64 ver) ∧ W.cell? ⟨w.heap.size, 5, none⟩ = some (.string meth) ∧ W.cell? ⟨w.heap.size, 6, none⟩ = some (.int .i64 err) ∧ W.cell? ⟨w.heap.size, 7, none⟩ = some (.string body) from ⟨pw_cell_below hW (blk_cell HC3.out.blk 1), pw_cell_below hW (blk_cell HP3.out 0), pw_cell_below hW (blk_cell HP3.out 1), pw_cell_below hW (blk_cell HP3.out 2), pw_cell_below hW (blk_cell HP3.out 3), pw_cell_below hW (blk_cell HP3.out 4), pw_cell_below hW (blk_cell HP3.out 5), pw_cell_below hW (blk_cell HP3.out 6), pw_cell_below hW (blk_cell HP3.out 7)⟩))
  have HRA := Aside0.mk (fun W (hW : Below w3.heap.size w3 W) => (show ReadsRow (kK.K W) kK.sz W A R.length R from Kd.C_below (Kd.Q_reads' HC3.out.rowL).2.2 hW))
  have HD := Aside0.mk (show Below w3.heap.size w3 w3.drew from (Below.refl _ _).drew)
  have HDA := Aside0.mk (show Below w3.heap.size w3 (w3.alloc (.cells #[.int .i64 f, .int .i64 i, .int .i64 kind, .int .i64 fr, .int .i64 to_, .int .i64 id, .int .i64 ver, .string meth, .int .i64 err, .string body] 56)).drew from ((Below.refl _ _).alloc (Nat.le_refl _) _).drew)
  obtain ⟨y0, y1, y2, y3, y4, y5, y6, y7, y8⟩ := HS.out _ HD.out
  obtain ⟨n0, n1, n2, n3, n4, n5, n6, n7, n8⟩ := HS.out _ HDA.out
  go_cut [32] (fun v wd => ∃ A5 c5, v = .slice A5 (R.length + 1) c5 ∧ R.length + 1 ≤ c5 ∧ Aside0 (∃ w5, wd = w5.setCell ⟨g, 1, none⟩ v ∧ kK.R 56 w5 w3.heap.size (fun _ => True) v (R ++ [((f, i), (⟨kind, fr, to_, id, ver, meth, err, body⟩ : Pk))]) ∧ Below w3.heap.size w3 w5))
  case first =>
    go_region_law
      (first
        | (refine Kd.R_append_rows_step kK (w0 := w3) (W := w3.drew) w3.heap.size rfl (.const (.slice none 0 0)) (.tmp 25) 43 56 (.agg #[.int .i64 0, .int .i64 0, .int .i64 0, .int .i64 0, .int .i64 0, .int .i64 0, .int .i64 0, .string ByteArray.empty, .int .i64 0, .string ByteArray.empty]) 96 rfl Try.underlying43 infoKK rfl (by decide) (by decide) (.slice none 0 0) [] R A R.length c (fun _ => True) (fun _ => False) rfl rfl (Kd.R_nil _ _ _ _ _) (HRA.out _ HD.out) (fun _ _ h => h) (fun _ h => h.elim) (fun _ _ => trivial) HD.out (Nat.le_refl _) (by rw [List.length_nil]; omega) ?_; intro v4 w4 hr4 hb4 hg4 hat4; obtain ⟨A4, c4, rfl, hl4, _⟩ := Kd.R_reads hr4; have HR4 := Aside0.mk hr4; have HB4 := Aside0.mk hb4; have HG4 := Aside0.mk hg4; obtain ⟨x0, x1, x2, x3, x4, x5, x6, x7, x8⟩ := HS.out _ hb4; clear hr4 hb4 hg4 hat4; go_simp)
        | (refine Kd.R_append_rows_step kK (w0 := w3) (W := (w3.alloc (.cells #[.int .i64 f, .int .i64 i, .int .i64 kind, .int .i64 fr, .int .i64 to_, .int .i64 id, .int .i64 ver, .string meth, .int .i64 err, .string body] 56)).drew) w3.heap.size rfl (.const (.slice none 0 0)) (.tmp 25) 43 56 (.agg #[.int .i64 0, .int .i64 0, .int .i64 0, .int .i64 0, .int .i64 0, .int .i64 0, .int .i64 0, .string ByteArray.empty, .int .i64 0, .string ByteArray.empty]) 96 rfl Try.underlying43 infoKK rfl (by decide) (by decide) (.slice none 0 0) [] R A R.length c (fun _ => True) (fun _ => False) rfl rfl (Kd.R_nil _ _ _ _ _) (HRA.out _ HDA.out) (fun _ _ h => h) (fun _ h => h.elim) (fun _ _ => trivial) HDA.out HDA.out.size (by rw [List.length_nil]; omega) ?_; intro v4 w4 hr4 hb4 hg4 hat4; obtain ⟨A4, c4, rfl, hl4, _⟩ := Kd.R_reads hr4; have HR4 := Aside0.mk hr4; have HB4 := Aside0.mk hb4; have HG4 := Aside0.mk hg4; obtain ⟨x0, x1, x2, x3, x4, x5, x6, x7, x8⟩ := HS.out _ hb4; clear hr4 hb4 hg4 hat4; go_simp)
        | (refine Kd.R_append_rows_step kK (w0 := w3) (W := w4.alloc (.cells #[.int .i64 f, .int .i64 i, .int .i64 kind, .int .i64 fr, .int .i64 to_, .int .i64 id, .int .i64 ver, .string meth, .int .i64 err, .string body] 56)) w3.heap.size rfl (.tmp 26) (.tmp 31) 43 56 (.agg #[.int .i64 0, .int .i64 0, .int .i64 0, .int .i64 0, .int .i64 0, .int .i64 0, .int .i64 0, .string ByteArray.empty, .int .i64 0, .string ByteArray.empty]) 96 rfl Try.underlying43 infoKK rfl (by decide) (by decide) (.slice A4 ([] ++ R).length c4) ([] ++ R) [((f, i), (⟨kind, fr, to_, id, ver, meth, err, body⟩ : Pk))] (some ⟨w4.heap.size, 0, none⟩) 1 1 (fun _ => True) (fun _ => False) rfl rfl (Kd.R_alloc HR4.out _) (lit_reads ((f, i), (⟨kind, fr, to_, id, ver, meth, err, body⟩ : Pk)) (heap_alloc_new w4 _)) (fun _ _ h => h) (fun _ h => h.elim) (fun _ _ => trivial) (HB4.out.alloc HB4.out.size _) (HB4.out.alloc HB4.out.size _).size (by rw [List.nil_append]; omega) ?_; intro v5 w5 hr5 hb5 hg5 hat5; obtain ⟨A5, c5, rfl, hl5, _⟩ := Kd.R_reads hr5; have HR5 := Aside0.mk hr5; have HB5 := Aside0.mk hb5; have hk5 : w5.heap[g]? = some (.cells #[.int .i64 (size : Int), .slice A R.length c, vM] 45 (0, 0)) := (hb5.block _ (blk_lt HC3.out.blk)).trans HC3.out.blk; have cc5 : w5.cell? ⟨g, 1, none⟩ = some (.slice A R.length c) := blk_cell hk5 1; have z5 := blk_frozen hk5 1; clear hr5 hb5 hg5 hat5 hk5; go_simp)
        | (refine Kd.R_append_rows_step kK (w0 := w3) (W := w4) w3.heap.size rfl (.tmp 26) (.tmp 31) 43 56 (.agg #[.int .i64 0, .int .i64 0, .int .i64 0, .int .i64 0, .int .i64 0, .int .i64 0, .int .i64 0, .string ByteArray.empty, .int .i64 0, .string ByteArray.empty]) 96 rfl Try.underlying43 infoKK rfl (by decide) (by decide) (.slice A4 ([] ++ R).length c4) ([] ++ R) [((f, i), (⟨kind, fr, to_, id, ver, meth, err, body⟩ : Pk))] (some ⟨w3.heap.size, 0, none⟩) 1 1 (fun _ => True) (fun _ => False) rfl rfl HR4.out (lit_reads ((f, i), (⟨kind, fr, to_, id, ver, meth, err, body⟩ : Pk)) ((HG4.out.block w3.heap.size (lt_alloc w3 _) (fun h9 => by cases h9)).trans (heap_alloc_new w3 _))) (fun _ _ h => h) (fun _ h => h.elim) (fun _ _ => trivial) HB4.out HB4.out.size (by rw [List.nil_append]; omega) ?_; intro v5 w5 hr5 hb5 hg5 hat5; obtain ⟨A5, c5, rfl, hl5, _⟩ := Kd.R_reads hr5; have HR5 := Aside0.mk hr5; have HB5 := Aside0.mk hb5; have hk5 : w5.heap[g]? = some (.cells #[.int .i64 (size : Int), .slice A R.length c, vM] 45 (0, 0)) := (hb5.block _ (blk_lt HC3.out.blk)).trans HC3.out.blk; have cc5 : w5.cell? ⟨g, 1, none⟩ = some (.slice A R.length c) := blk_cell hk5 1; have z5 := blk_frozen hk5 1; clear hr5 hb5 hg5 hat5 hk5; go_simp))
    all_goals
      go_wp2
      go_meet
      case rel => exact ⟨A5, c5, rfl, by simpa using hl5, ⟨w5, rfl, by simpa only [List.nil_append, List.length_append, List.length_cons, List.length_nil] using HR5.out, HB5.out⟩⟩
  case rest =>
    obtain ⟨w6, hw6⟩ : ∃ w6, w6 = wc := ⟨_, rfl⟩
    subst hw6
    obtain ⟨A5, c5, rfl, hc5, HX⟩ := hcut
    clear y0 y1 y2 y3 y4 y5 y6 y7 y8 n0 n1 n2 n3 n4 n5 n6 n7 n8 HDA HD HRA HS
    obtain ⟨w5, hw6, hr5, hb5⟩ := HX.out
    obtain ⟨ee, hee⟩ : ∃ ee : (Int × Int) × Pk, ((f, i), (⟨kind, fr, to_, id, ver, meth, err, body⟩ : Pk)) = ee := ⟨_, rfl⟩
    rw [hee] at hr5
    have HEE := Aside0.mk hee
    obtain ⟨n1, hn1⟩ : ∃ n1, R.length + 1 = n1 := ⟨_, rfl⟩
    simp only [hn1] at hw6 hr5 hc5 ⊢
    have hbw3 : B ≤ w3.heap.size := Nat.le_trans hBw HB3.out.size
    have hk5 : w5.heap[g]? = some (.cells #[.int .i64 (size : Int), .slice A R.length c, vM] 45 (0, 0)) := (hb5.block _ (blk_lt HC3.out.blk)).trans HC3.out.blk
    have HC6 : Aside0 (RefAt w6 B g size (.slice A5 n1 c5) vM (R ++ [ee]) M) := ⟨by
      rw [hw6]
      refine ⟨?_, Kd.Q_set (Kd.Q_lower (Kd.Q_of_R hr5) hbw3) hk5 (by decide) 1 _, Kd.Q_set (Kd.Q_below HC3.out.rowM hb5) hk5 (by decide) 1 _, HC3.out.hb, fun k hk hk2 => ?_⟩
      · have h9 := blk_set hk5 1 (.slice A5 n1 c5)
        simp only [List.setIfInBounds_toArray, List.set_cons_zero, List.set_cons_succ] at h9
        exact h9
      · obtain ⟨inner, hown⟩ := Kd.R_own hr5
        have h1 := own_base hown k hk
        have h2 := Kd.Q_lt HC3.out.rowM k hk2
        omega⟩
    have HG6 : Aside0 (ChgR B w w6) := ⟨by
      rw [hw6]
      exact (ChgR.trans (ChgR.of_below hBw HB3.out) (ChgR.of_below hbw3 hb5)).set hk5 (.inl rfl) HC3.out.hb 1 _⟩
    clear hk5 hr5 hb5 hw6 hee HX HP3 HB3 HC3 hl
    have HN1 := Aside0.mk hn1
    clear hn1
    refine (‹∀ (a : Act) (w : World), Code.wp _ _ _ a w → _›) _ _ (wp_seq_k (fun K2 hK2 => ?_))
    go_cut [] (fun wd => Aside0 (∃ vL', RefAt wd B g size vL' vM (addR size R ee) M ∧ ChgR B w wd))
    case first =>
      have c0 : ∀ k, (w6.drewN k).cell? ⟨g, 0, none⟩ = some (.int .i64 (size : Int)) := fun k => pw_cell_below (pw_below_drewN (Below.refl _ _) k) (blk_cell HC6.out.blk 0)
      have cc1 : ∀ k, (w6.drewN k).cell? ⟨g, 1, none⟩ = some (.slice A5 n1 c5) := fun k => pw_cell_below (pw_below_drewN (Below.refl _ _) k) (blk_cell HC6.out.blk 1)
      by_cases hsz : size < n1
      · have hd : decide ((size : Int) < (n1 : Int)) = true := decide_eq_true (by omega)
        have hd2 : decide (size < n1) = true := decide_eq_true hsz
        go_upto_region 5 with fail
        go_quiet (fail)
        go_upto_region 6 with fail
        obtain ⟨w7, hw7⟩ : ∃ w7, w6.drewN nq = w7 := ⟨_, rfl⟩
        have HB7 : Aside0 (Below w6.heap.size w6 w7) := ⟨by rw [← hw7]; exact pw_below_drewN (Below.refl _ _) nq⟩
        rw [hw7]
        clear hw7 c0 cc1 hd hd2
        have HC7 := Aside0.mk (HC6.out.below HB7.out)
        obtain ⟨g2, o2, cap2, hv2, _⟩ := Kd.Q_form HC7.out.rowL (by simp)
        obtain rfl : A5 = some ⟨g2, o2, none⟩ := by injection hv2
        clear hv2 cap2
        obtain ⟨i1, hi1, _, hsz1, _⟩ := info_parts infoKK
        have hcut := cut_from (P := Try.prog) 43 56 .i64 Try.underlying43 hi1 10 hsz1 (some ⟨g2, o2, none⟩) n1 c5 1 (by omega) (by omega)
        have hol : (R ++ [ee]).length = n1 := by rw [← HN1.out]; simp
        have HQD := Aside0.mk (Kd.Q_drop HC7.out.rowL (k := 1) (by omega))
        rw [show ((1 : Int)).toNat = 1 from rfl] at hcut
        rw [show kK.sz = 10 from rfl] at HQD
        obtain ⟨A7, hA7⟩ : ∃ A, (if c5 = 1 then some (⟨g2, o2, none⟩ : Addr) else (some (⟨g2, o2, none⟩ : Addr)).map (·.add (1 * 10))) = A := ⟨_, rfl⟩
        have HA7 : Aside0 (∀ k, (Value.slice A7 (n1 - 1) (c5 - 1)).ownBlock = some k → k = g2) := ⟨by
          intro k hk
          rw [← hA7] at hk
          by_cases h9 : c5 = 1
          · rw [if_pos h9] at hk
            simpa [Value.ownBlock] using hk.symm
          · rw [if_neg h9] at hk
            have h8 : ((⟨g2, o2, none⟩ : Addr).add (1 * 10)).block = g2 := by unfold Addr.add; split <;> rfl
            simp only [Option.map_some, Value.ownBlock, Option.some.injEq] at hk
            rw [← hk]; exact h8⟩
        simp only [hA7] at hcut HQD
        obtain ⟨n7, hn7⟩ : ∃ n7, n1 - 1 = n7 := ⟨_, rfl⟩
        obtain ⟨n8, hn8⟩ : ∃ n8, c5 - 1 = n8 := ⟨_, rfl⟩
        simp only [hn7, hn8] at hcut HQD HA7
        have q5 : w7.cell? ⟨g, 1, none⟩ = some (.slice (some ⟨g2, o2, none⟩) n1 c5) := blk_cell HC7.out.blk 1
        have q6 := blk_frozen HC7.out.blk 1
        have HOL := Aside0.mk hol
        clear hA7 hn7 hn8 hi1 hsz1 hol
        go_wp2_with fail
        go_meet
        case rel =>
          refine ⟨.slice A7 n7 n8, ⟨?_, ?_, Kd.Q_set HC7.out.rowM HC7.out.blk (by decide) 1 _, HC7.out.hb, fun k hk hk2 => ?_⟩, ?_⟩
          · have h9 := blk_set HC7.out.blk 1 (.slice A7 n7 n8)
            simp only [List.setIfInBounds_toArray, List.set_cons_zero, List.set_cons_succ] at h9
            exact h9
          · rw [addR, if_pos (by rw [HN1.out]; exact hsz)]
            exact Kd.Q_set HQD.out HC7.out.blk (by decide) 1 _
          · have h9 := HA7.out k hk
            subst h9
            exact HC7.out.ne k (by simp [Value.ownBlock]) hk2
          · exact (ChgR.trans HG6.out (ChgR.of_below (Nat.le_trans hBw HG6.out.1.size) HB7.out)).set HC7.out.blk (.inl rfl) HC7.out.hb 1 _
      · have hd : decide ((size : Int) < (n1 : Int)) = false := decide_eq_false (by omega)
        have hd2 : decide (size < n1) = false := decide_eq_false hsz
        go_upto_region 5 with fail
        go_quiet (fail)
        go_wp2_with fail
        go_meet
        case rel =>
          have hB7 : Below w6.heap.size w6 (w6.drewN nq) := pw_below_drewN (Below.refl _ _) nq
          refine ⟨.slice A5 n1 c5, ?_, ChgR.trans HG6.out (ChgR.of_below (Nat.le_trans hBw HG6.out.1.size) hB7)⟩
          rw [addR, if_neg (by rw [HN1.out]; exact hsz)]
          exact HC6.out.below hB7
    case rest =>
      clear HC6 HG6 HN1 hc5
      obtain ⟨w8, hw8⟩ : ∃ w8, w8 = wc := ⟨_, rfl⟩
      subst hw8
      obtain ⟨vL', HC8, HG8⟩ := hcut.out
      replace HC8 := Aside0.mk HC8
      replace HG8 := Aside0.mk HG8
      clear hcut
      obtain ⟨R2, hR2⟩ : ∃ R2, addR size R ee = R2 := ⟨_, rfl⟩
      rw [hR2] at HC8
      have HR2 := Aside0.mk hR2
      clear hR2
      obtain ⟨AM, cM, hvM, _⟩ := Kd.Q_slice HC8.out.rowM
      subst hvM
      have cm : w8.cell? ⟨g, 2, none⟩ = some (.slice AM M.length cM) := blk_cell HC8.out.blk 2
      go_wp2_with fail
      go_loopw [11] (fun u wr => ∃ j : Nat, u = .int .i64 (j : Int) ∧ j ≤ M.length ∧ Aside0 (∀ k x, k < j → M[k]? = some x → x.1.1 ≠ f) ∧ wr = w8) (fun u _ => M.length - (intOf u).toNat)
      case atStart => exact ⟨0, rfl, Nat.zero_le _, ⟨fun k x hk => absurd hk (Nat.not_lt_zero k)⟩, rfl⟩
      case round =>
        obtain ⟨j, rfl, hj, HX, rfl⟩ := hrel
        by_cases hlt : j < M.length
        · obtain ⟨gm, o, cap, hv, hgB, _, hgt⟩ := Kd.Q_form HC8.out.rowM (by omega)
          injection hv with hv _ _
          subst hv
          obtain ⟨x, hx⟩ : ∃ x, M[j]? = some x := ⟨_, List.getElem?_eq_getElem hlt⟩
          have hcs := kK_cells HC8.out.rowM hlt hx
          obtain ⟨⟨xf, xi⟩, xp⟩ := x
          have h0 : wr.cell? ⟨gm, o + j * 10 + 0, none⟩ = some (.int .i64 xf) := hcs 0 _ rfl
          have h1 : wr.cell? ⟨gm, o + j * 10 + 1, none⟩ = some (.int .i64 xi) := hcs 1 _ rfl
          rw [Nat.add_zero] at h0
          have d1 : decide ((j : Int) < (M.length : Int)) = true := decide_eq_true (by omega)
          have d2 : decide (j < M.length) = true := decide_eq_true hlt
          have HXX := Aside0.mk hx
          clear hcs hx
          by_cases hxf : xf = f
          · have e1 : (xf == f) = true := beq_iff_eq.2 hxf
            have HGT := Aside0.mk hgt
            obtain ⟨cells, hcells⟩ := hgt
            have hfz := blk_frozen hcells (o + j * 10 + 1)
            clear hcells
            have HXF := Aside0.mk hxf
            clear hxf
            go_wp2_with fail
            go_ret
            have hxf := HXF.out
            subst hxf
            obtain ⟨cells, hcells⟩ := HGT.out
            refine ⟨rfl, ⟨vL', .slice (some ⟨gm, o, none⟩) M.length cM, M.set j ((xf, i), xp), ?_, by rw [List.length_set]; omega, fun f' => lastM_set HXX.out HX.out f'⟩, ⟨HG8.out.set hcells (.inr rfl) hgB _ _⟩⟩
            have hne := HC8.out.ne
            have hgg : g ≠ gm := blk_ne HC8.out.blk hcells (by decide)
            rw [HEE.out, HR2.out]
            refine ⟨blk_far HC8.out.blk hgg _, ?_, ?_, HC8.out.hb, hne⟩
            · refine Kd.Q_mono (Kd.Q_far (Kd.Q_tight rfl HC8.out.rowL) (fun k hk hk2 => ?_) _) (fun _ _ => trivial)
              have hk3 : k = gm := hk2
              subst hk3
              exact hne k hk.symm (by simp [Value.ownBlock])
            · obtain ⟨c9, hc9, hM9, hcc9, _⟩ := Kd.Q_elem HC8.out.rowM ((0, 0), pk0) (j : Int) (by omega) (by omega)
              rw [Int.toNat_natCast, List.getD_eq_getElem?_getD, HXX.out, Option.getD_some] at hM9
              have hM9' : c9 = kC ((xf, xi), xp) := hM9
              subst hM9'
              have h9 := (Kd.Q_seg (okp := fun _ => False) (x' := ((xf, i), xp)) HC8.out.rowM (j : Int) (by omega) (by omega) (seg := [.int .i64 i]) (j := 1) hc9 hcc9 (show 1 + 1 ≤ 10 by decide) (show kK.M _ _ _ ((xf, i), xp) _ from rfl) (fun _ h => h.elim)).1
              rw [Int.toNat_natCast] at h9
              exact h9
          · have e1 : (xf == f) = false := beq_eq_false_iff_ne.2 hxf
            have HXE : Aside0 (∀ k x, k < j + 1 → M[k]? = some x → x.1.1 ≠ f) := ⟨fun k x hk hxk => by
              by_cases hkj : k = j
              · subst hkj
                rw [HXX.out] at hxk
                cases hxk
                exact hxf
              · exact HX.out k x (by omega) hxk⟩
            clear hxf
            go_wp2_with fail
            go_roundw
            case rel => exact ⟨j + 1, by go_num, by omega, HXE, by trivial⟩
            case measure => simp [intOf]; omega
        · have d1 : decide ((j : Int) < (M.length : Int)) = false := decide_eq_false (by omega)
          have d2 : decide (j < M.length) = false := decide_eq_false hlt
          have HXE : Aside0 (∀ k x, k < M.length → M[k]? = some x → x.1.1 ≠ f) := ⟨fun k x hk hx => HX.out k x (by omega) hx⟩
          clear HX hlt hj
          have hbw8 : B ≤ wr.heap.size := Nat.le_trans hBw HG8.out.1.size
          have HNE : Aside0 (some g ≠ (Value.slice AM M.length cM).ownBlock) := ⟨Kd.Q_ne HC8.out.rowM HC8.out.blk (by decide)⟩
          go_wp2_with (at_builtin; refine Kd.Q_append kK (w0 := wr) (W := wr) B ?hgd (.tmp 84) (.tmp 88) 43 56 (.agg #[.int .i64 0, .int .i64 0, .int .i64 0, .int .i64 0, .int .i64 0, .int .i64 0, .int .i64 0, .string ByteArray.empty, .int .i64 0, .string ByteArray.empty]) 96 ?ho ?ht ?hinfo ?hz ?hs0 ?hb0 (.slice AM M.length cM) M ((f, i), pk0) [.int .i64 f, .int .i64 i, .int .i64 0, .int .i64 0, .int .i64 0, .int .i64 0, .int .i64 0, .string ⟨#[]⟩, .int .i64 0, .string ⟨#[]⟩] (fun _ => True) (fun _ => False) ?hs ?hx ?hp ?hokp ?hfresh ?HO ?HB ?hbase ?hl ?h)
          case hgd => rfl
          case ho => rfl
          case ht => exact Try.underlying43
          case hinfo => exact infoKK
          case hz => rfl
          case hs0 => decide
          case hb0 => decide
          case hs => rfl
          case hx => rfl
          case hp => exact (show _ = _ from rfl)
          case hokp => exact fun _ h => h.elim
          case hfresh => exact fun _ _ => trivial
          case HO => exact HC8.out.rowM
          case HB => exact Below.refl _ _
          case hbase => exact hbw8
          case hl => omega
          case h =>
            intro v5 w5 hq5 hb5 hg5 hat5
            have hk5 : w5.heap[g]? = some (.cells #[.int .i64 (size : Int), vL', .slice AM M.length cM] 45 (0, 0)) := (hg5.block g (blk_lt HC8.out.blk) HNE.out).trans HC8.out.blk
            have c5 : w5.cell? ⟨g, 2, none⟩ = some (.slice AM M.length cM) := blk_cell hk5 2
            have z5 := blk_frozen hk5 2
            obtain ⟨A5, n5, rfl, hn5⟩ := Kd.Q_slice hq5
            have HQ5 := Aside0.mk hq5
            have HB5 := Aside0.mk hb5
            have HG5 := Aside0.mk hg5
            have HK5 := Aside0.mk hk5
            have HA5 := Aside0.mk hat5
            clear hq5 hb5 hg5 hk5 hat5
            go_wp2_with fail
            go_ret
            have hl9 : (M ++ [((f, i), pk0)]).length = M.length + 1 := by simp
            have hq5 := HQ5.out
            rw [hl9] at hq5
            refine ⟨rfl, ⟨vL', .slice A5 (M.length + 1) n5, M ++ [((f, i), pk0)], ?_, by rw [hl9]; exact Nat.le_refl _, fun f' => lastM_snoc HXE.out f'⟩, ⟨?_⟩⟩
            · rw [HEE.out, HR2.out]
              have hne := HC8.out.ne
              refine ⟨?_, ?_, Kd.Q_set hq5 HK5.out (by decide) 2 _, HC8.out.hb, fun k hk hk2 => ?_⟩
              · have h9 := blk_set HK5.out 2 (.slice A5 (M.length + 1) n5)
                simp only [List.setIfInBounds_toArray, List.set_cons_zero, List.set_cons_succ] at h9
                exact h9
              · refine Kd.Q_set (Kd.Q_mono (Kd.Q_step (w1 := w5) (Kd.Q_tight rfl HC8.out.rowL) (fun k hk hlt => ?_)) (fun _ _ => trivial)) HK5.out (by decide) 2 _
                exact HG5.out.block k hlt (fun e => hne k hk.symm e.symm)
              · have h8 := Kd.Q_lt HC8.out.rowL k hk
                rcases HA5.out with h9 | ⟨b9, h9, h10⟩
                · have h7 : (Value.slice A5 (M.length + 1) n5).ownBlock = some k := hk2
                  have h6 : (Value.slice A5 (M ++ [((f, i), pk0)]).length n5).ownBlock = some k := by rw [hl9]; exact h7
                  rw [h9] at h6
                  exact hne k hk h6
                · rw [hl9] at h9
                  have h7 : some k = some b9 := hk2.symm.trans h9
                  injection h7 with h7
                  have h10' : wr.heap.size ≤ b9 := h10
                  omega
            · have hgt : ∀ k, (Value.slice AM M.length cM).ownBlock = some k → B ≤ k ∧ ∃ cells, wr.heap[k]? = some (.cells cells 56 (0, 0)) := fun k hk => ⟨Kd.Q_base HC8.out.rowM k hk, Kd.Q_typed HC8.out.rowM k hk⟩
              have h1 : ChgR B w wr := HG8.out
              exact (h1.grown HG5.out hbw8 hgt).set HK5.out (.inl rfl) HC8.out.hb 2 _
end Go.Proofs.Ytmdkgbbgppiaaaa
