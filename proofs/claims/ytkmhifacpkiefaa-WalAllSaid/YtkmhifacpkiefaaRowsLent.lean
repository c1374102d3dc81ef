/- Slices of slices of bytes: the outer row the call's own, the inner ones handed in. -/
import Derived.Test.YtkmhifacpkiefaaRowsOwn
import Derived.Test.YtkmhifacpkiefaaWLaid
namespace Go.Proofs.Ytkmhifacpkiefaa
set_option linter.unusedVariables false
set_option linter.unusedSimpArgs false
open Go.RowKit Go.Proofs.YtkmhifacpkiefaaW.PrintWords

/-- v is a row of the call's own whose elements are rows of bytes that were there (in w0). -/
def RowsLent (w0 w : World) (v : Value) (ts : List (List Int)) : Prop :=
  ∃ vs : List Value, w.ownsRow w0.heap.size 25 1 v vs.length vs ∧ vs.length = ts.length ∧ ∀ (j : Nat) (u : Value) (t : List Int), vs[j]? = some u → ts[j]? = some t → ∃ A c, u = .slice A t.length c ∧ ReadsInt w0 .u8 A t.length t ∧ t.length ≤ c

theorem RowsLent.nil (w0 w : World) : RowsLent w0 w (.slice none 0 0) [] := ⟨[], own_nil _ _ _ _, rfl, fun j u t h => by simp at h⟩
theorem RowsLent.below {w0 w w1 : World} {v : Value} {ts : List (List Int)} (h : RowsLent w0 w v ts) (hb : Below w.heap.size w w1) : RowsLent w0 w1 v ts := by
  obtain ⟨vs, h1, h2, h3⟩ := h
  exact ⟨vs, pw_own_below h1 hb, h2, h3⟩
theorem RowsLent.slice {w0 w : World} {v : Value} {ts : List (List Int)} (h : RowsLent w0 w v ts) : ∃ A c, v = .slice A ts.length c := by
  obtain ⟨vs, h1, h2, h3⟩ := h
  obtain ⟨A, c, h⟩ := own_slice h1
  exact ⟨A, c, by rw [h, h2]⟩
/-- What stands at place j: the element's row. -/
theorem RowsLent.at_ {w0 w : World} {c : Nat} {A : Option Addr} {n : Nat} {ts : List (List Int)} (h : RowsLent w0 w (.slice A n c) ts) (hb : Below w0.heap.size w0 w) (j : Nat) (hj : j < ts.length) :
    ∃ ad A1 c1, A = some ad ∧ w.cell? (ad.add j) = some (.slice A1 (ts.getD j []).length c1) ∧ ReadsInt w .u8 A1 (ts.getD j []).length (ts.getD j []) ∧ (ts.getD j []).length ≤ c1 := by
  obtain ⟨vs, h1, h2, h3⟩ := h
  obtain ⟨g, cap, he, _, hg⟩ := h1.form (by omega)
  cases he
  have hu : vs[j]? = some (vs[j]'(by omega)) := List.getElem?_eq_getElem (by omega)
  have ht : ts[j]? = some (ts.getD j []) := by rw [List.getD_eq_getElem?_getD, List.getElem?_eq_getElem hj]; rfl
  obtain ⟨A1, c1, e1, hr, hc1⟩ := h3 j _ _ hu ht
  have hc := h1.cells (g := g) rfl j _ hu
  rw [e1] at hc
  exact ⟨_, A1, c1, rfl, hc, hr.below hb, hc1⟩
theorem RowsLent.rd {w0 w : World} {c : Nat} {A : Option Addr} {n : Nat} {ts : List (List Int)} (h : RowsLent w0 w (.slice A n c) ts) (hb : Below w0.heap.size w0 w) (hn : ts.length ≤ 9223372036854775807) : RowsRd w A ts := ⟨hn, fun j hj => h.at_ hb j hj⟩

section
variable {P : Program} {ops : Array Oper} {rest : List Oper} {o : Oper} {a : Act} {Q : Exit → Act → World → Prop}
/-- append(v, y), y a row of bytes that was there: behind 'at_builtin'. -/
theorem append_lent {w0 W : World} (hgd : o.guard = none) (s x : Operand) (t : TypeId)
    (ho : o.op = .call { callee := .builtin .append, args := #[s, x], argTypes := #[t, t] })
    (ht : P.underlying t = some (.slice 25)) (hinfo : (P.info? 25).map (fun i => (i.zero, i.size, i.bytes)) = some (some (.slice none 0 0), 1, 24))
    (v : Value) (ts : List (List Int)) (A : Option Addr) (n c : Nat) (ys : List Int) (hs : a.eval s = v) (hx : a.eval x = .slice (some ⟨W.heap.size, 0, none⟩) 1 1)
    (HO : RowsLent w0 W v ts) (hn : n = ys.length) (HY : ReadsInt w0 .u8 A n ys) (hc : n ≤ c) (HB : Below w0.heap.size w0 W) (hl : (ts.length + 1) * 24 ≤ 140737488355328)
    (h : ∀ v1 w1, RowsLent w0 w1 v1 (ts ++ [ys]) → Below w0.heap.size w0 w1 → wpList P ops Q rest (a.put o.dst v1) w1) :
    wpList P ops Q (o :: rest) a (W.alloc (.cells #[.slice A n c] 25)) := by
  subst hn
  obtain ⟨vs, h1, h2, h3⟩ := HO
  refine print_append (w0 := w0) w0.heap.size hgd s x t 25 (.slice none 0 0) 24 ho ht hinfo rfl (by omega) v vs (.slice A ys.length c) hs hx rfl h1 HB HB.size (by rw [h2]; exact hl) ?_
  intro v1 w1 hown hb hg _
  refine h v1 w1 ⟨vs ++ [.slice A ys.length c], hown, by simp [h2], ?_⟩ hb
  intro j u t hu ht
  rcases Nat.lt_or_ge j vs.length with hj | hj
  · rw [List.getElem?_append_left hj] at hu
    rw [List.getElem?_append_left (by omega)] at ht
    exact h3 j u t hu ht
  · rw [List.getElem?_append_right hj] at hu
    rw [List.getElem?_append_right (by omega)] at ht
    have hj0 : j - vs.length = 0 := by
      rcases Nat.eq_zero_or_pos (j - vs.length) with h | h
      · exact h
      · rw [List.getElem?_eq_none (by simp; omega)] at hu
        cases hu
    rw [hj0] at hu
    rw [← h2, hj0] at ht
    simp only [List.getElem?_cons_zero, Option.some.injEq] at hu ht
    subst hu ht
    exact ⟨A, c, rfl, HY, hc⟩
end
end Go.Proofs.Ytkmhifacpkiefaa
