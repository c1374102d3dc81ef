/- A store of a whole aggregate, as one step of the walk. -/
import Derived.Test.YtabcaeckoghmpaaDoorPkOpen
namespace Go.Proofs.YtabcaeckoghmpaaDoor
set_option linter.unusedVariables false
set_option linter.unusedSimpArgs false
open Go.RowKit Go.Proofs.YtabcaeckoghmpaaDoorW.PrintWords

theorem setCells_blk {g : Nat} {e : TypeId} : ∀ (seg : List Value) (o : Nat) (w : World) (cur : Array Value), w.heap[g]? = some (.cells cur e (0, 0)) → o + seg.length ≤ cur.size →
    ∃ cur', (w.setCells g o seg).heap[g]? = some (.cells cur' e (0, 0)) ∧ cur'.size = cur.size ∧ ∀ j, cur'[j]? = if o ≤ j ∧ j < o + seg.length then seg[j - o]? else cur[j]? := by
  intro seg
  induction seg with
  | nil =>
    intro o w cur h _
    refine ⟨cur, h, rfl, fun j => ?_⟩
    rw [if_neg (by simp only [List.length_nil]; omega)]
  | cons v r ih =>
    intro o w cur h hl
    simp only [List.length_cons] at hl
    obtain ⟨cur', h1, h2, h3⟩ := ih (o + 1) (w.setCell ⟨g, o, none⟩ v) (cur.setIfInBounds o v) (blk_set h o v) (by rw [Array.size_setIfInBounds]; omega)
    refine ⟨cur', h1, by rw [h2, Array.size_setIfInBounds], fun j => ?_⟩
    rw [h3 j]
    simp only [List.length_cons]
    by_cases hj : j = o
    · subst hj
      rw [if_neg (by omega), if_pos (by omega), Array.getElem?_setIfInBounds_self_of_lt (by omega), Nat.sub_self, List.getElem?_cons_zero]
    · by_cases hj2 : o + 1 ≤ j ∧ j < o + 1 + r.length
      · rw [if_pos hj2, if_pos (by omega)]
        obtain ⟨d, hd⟩ : ∃ d, j - o = d + 1 := ⟨j - o - 1, by omega⟩
        rw [hd, List.getElem?_cons_succ, show j - (o + 1) = d by omega]
      · rw [if_neg hj2, if_neg (by omega), Array.getElem?_setIfInBounds_ne (fun e => hj e.symm)]
theorem setCells_full {g : Nat} {e : TypeId} (seg : List Value) (w : World) (cur : Array Value) (h : w.heap[g]? = some (.cells cur e (0, 0))) (hl : seg.length = cur.size) : (w.setCells g 0 seg).heap[g]? = some (.cells seg.toArray e (0, 0)) := by
  obtain ⟨cur', h1, h2, h3⟩ := setCells_blk seg 0 w cur h (by omega)
  have : cur' = seg.toArray := by
    apply Array.ext_getElem?
    intro j
    have h4 : seg.toArray[j]? = seg[j]? := by simp
    rw [h3 j, h4]
    by_cases hj : j < seg.length
    · rw [if_pos (by omega), Nat.sub_zero]
    · have h5 : cur[j]? = none := Array.getElem?_eq_none (by omega)
      have h6 : seg[j]? = none := List.getElem?_eq_none (by omega)
      rw [if_neg (by omega), h5, h6]
  rw [h1, this]
theorem setCells_below {B g : Nat} {a : World} (hg : B ≤ g) : ∀ (seg : List Value) (o : Nat) (w : World), Below B a w → Below B a (w.setCells g o seg) := by
  intro seg
  induction seg with
  | nil => intro o w h; exact h
  | cons v r ih => intro o w h; exact ih (o + 1) _ (h.setCell (p := ⟨g, o, none⟩) hg v)
theorem alloc_next (W : World) (o o2 : Obj) : ((W.alloc o).alloc o2).heap[W.heap.size + 1]? = some o2 := by
  have h := heap_alloc_new (W.alloc o) o2
  rwa [show (W.alloc o).heap.size = W.heap.size + 1 by simp] at h
section
variable {P : Program} {ops : Array Oper} {rest : List Oper} {o : Oper} {a : Act} {Q : Exit → Act → World → Prop} {W : World}
theorem store_all (hgd : o.guard = none) (hN : o.dst = none) (t : TypeId) (p x : Operand) (ho : o.op = .store t p x) {g : Nat} {cur : Array Value} {e : TypeId} (seg : List Value) {u : Value}
    (haddr : a.eval p = .pointer (some ⟨g, 0, none⟩)) (hx : a.eval x = u) (hh : W.heap[g]? = some (.cells cur e (0, 0))) (hu : u.cells.toList = seg) (ht : (P.info? t).map (·.size) = some seg.length) (hl : seg.length = cur.size) (h1 : ∀ q ∈ seg, q.oneCell' = true)
    (h : ∀ w', w'.heap[g]? = some (.cells seg.toArray e (0, 0)) → (∀ B A, Below B A W → B ≤ g → Below B A w') → wpList P ops Q rest a w') : wpList P ops Q (o :: rest) a W := by
  refine wpList_plain hgd fun K hK => ?_
  have hrun := run_store_run (P := P) (o := 0) t u seg hh hu ht (by omega) h1
  unfold Oper.wp execOp
  simp only [ho, haddr, hx, Sem.run_bind, Sem.run_pure, Result.andThen_ok, hrun]
  show K (a.put o.dst undef) _
  rw [hN]
  exact hK a _ (h _ (setCells_full seg W cur hh hl) (fun B A hB hg => setCells_below hg seg 0 W hB))
end
end Go.Proofs.YtabcaeckoghmpaaDoor
