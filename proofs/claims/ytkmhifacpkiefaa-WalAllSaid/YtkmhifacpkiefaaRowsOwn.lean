/- Slices of slices of bytes that the call itself made. -/
import Derived.Test.YtkmhifacpkiefaaBase
namespace Go.Proofs.Ytkmhifacpkiefaa
set_option linter.unusedVariables false
set_option linter.unusedSimpArgs false
open Go.RowKit Go.Proofs.YtkmhifacpkiefaaW.PrintWords

theorem infoRow : (Try.prog.info? 25).map (fun i => (i.zero, i.size, i.bytes)) = some (some (.slice none 0 0), 1, 24) := by kernel_rfl

/-- v is a row of the call's own whose elements are rows of bytes of the call's own, these ones. -/
def RowsOwn (w : World) (base : Nat) (v : Value) (ts : List (List Int)) : Prop :=
  ∃ vs : List Value, w.ownsRow base 25 1 v vs.length vs ∧ vs.length = ts.length ∧ ∀ (j : Nat) (u : Value) (t : List Int), vs[j]? = some u → ts[j]? = some t → w.ownsRow base 5 1 u t.length (nums .u8 t)

theorem RowsOwn.nil (w : World) (base : Nat) : RowsOwn w base (.slice none 0 0) [] := ⟨[], own_nil _ _ _ _, rfl, fun j u t h => by simp at h⟩
theorem RowsOwn.below {w w1 : World} {base : Nat} {v : Value} {ts : List (List Int)} (h : RowsOwn w base v ts) (hb : Below w.heap.size w w1) : RowsOwn w1 base v ts := by
  obtain ⟨vs, h1, h2, h3⟩ := h
  exact ⟨vs, pw_own_below h1 hb, h2, fun j u t hu ht => pw_own_below (h3 j u t hu ht) hb⟩
theorem RowsOwn.slice {w : World} {base : Nat} {v : Value} {ts : List (List Int)} (h : RowsOwn w base v ts) : ∃ A c, v = .slice A ts.length c := by
  obtain ⟨vs, h1, h2, h3⟩ := h
  obtain ⟨A, c, h⟩ := own_slice h1
  exact ⟨A, c, by rw [h, h2]⟩
theorem RowsOwn.lower {w : World} {base b2 : Nat} {v : Value} {ts : List (List Int)} (h : RowsOwn w base v ts) (hb : b2 ≤ base) : RowsOwn w b2 v ts := by
  obtain ⟨vs, h1, h2, h3⟩ := h
  exact ⟨vs, own_less h1 hb, h2, fun j u t hu ht => own_less (h3 j u t hu ht) hb⟩

/-- What stands at place j: the element's row. -/
theorem RowsOwn.at_ {w : World} {base c : Nat} {A : Option Addr} {n : Nat} {ts : List (List Int)} (h : RowsOwn w base (.slice A n c) ts) (j : Nat) (hj : j < ts.length) :
    ∃ ad A1 c1, A = some ad ∧ w.cell? (ad.add j) = some (.slice A1 (ts.getD j []).length c1) ∧ ReadsInt w .u8 A1 (ts.getD j []).length (ts.getD j []) ∧ (ts.getD j []).length ≤ c1 := by
  obtain ⟨vs, h1, h2, h3⟩ := h
  obtain ⟨g, cap, he, hb, hg⟩ := h1.form (by omega)
  cases he
  have hu : vs[j]? = some (vs[j]'(by omega)) := List.getElem?_eq_getElem (by omega)
  have ht : ts[j]? = some (ts.getD j []) := by rw [List.getD_eq_getElem?_getD, List.getElem?_eq_getElem hj]; rfl
  have h4 := h3 j _ _ hu ht
  obtain ⟨A1, c1, e1, hr⟩ := own_reads h4
  have hc := h1.cells (g := g) rfl j _ hu
  rw [e1] at hc h4
  exact ⟨_, A1, c1, rfl, hc, hr, own_le h4⟩

section
variable {P : Program} {ops : Array Oper} {rest : List Oper} {o : Oper} {a : Act} {Q : Exit → Act → World → Prop}
/-- append(v, y), y a row of bytes: behind 'at_builtin'. -/
theorem append_rows {w0 W : World} (base : Nat) (hgd : o.guard = none) (s x : Operand) (t : TypeId)
    (ho : o.op = .call { callee := .builtin .append, args := #[s, x], argTypes := #[t, t] })
    (ht : P.underlying t = some (.slice 25)) (hinfo : (P.info? 25).map (fun i => (i.zero, i.size, i.bytes)) = some (some (.slice none 0 0), 1, 24))
    (v : Value) (ts : List (List Int)) (y : Value) (ys : List Int) (hs : a.eval s = v) (hx : a.eval x = .slice (some ⟨W.heap.size, 0, none⟩) 1 1)
    (HO : RowsOwn W base v ts) (HY : W.ownsRow base 5 1 y ys.length (nums .u8 ys)) (HB : Below base w0 W) (hbase : base ≤ W.heap.size) (hl : (ts.length + 1) * 24 ≤ 140737488355328)
    (h : ∀ v1 w1, RowsOwn w1 base v1 (ts ++ [ys]) → Below base w0 w1 → wpList P ops Q rest (a.put o.dst v1) w1) :
    wpList P ops Q (o :: rest) a (W.alloc (.cells #[y] 25)) := by
  obtain ⟨vs, h1, h2, h3⟩ := HO
  have hy1 : y.oneCell' = true := by
    obtain ⟨A, c, e⟩ := own_slice HY
    rw [e]
    rfl
  refine print_append (w0 := w0) base hgd s x t 25 (.slice none 0 0) 24 ho ht hinfo rfl (by omega) v vs y hs hx hy1 h1 HB hbase (by rw [h2]; exact hl) ?_
  intro v1 w1 hown hb hg _
  refine h v1 w1 ⟨vs ++ [y], hown, by simp [h2], ?_⟩ hb
  intro j u t hu ht
  rcases Nat.lt_or_ge j vs.length with hj | hj
  · rw [List.getElem?_append_left hj] at hu
    rw [List.getElem?_append_left (by omega)] at ht
    have h4 := h3 j u t hu ht
    exact own_other h4 hg (own_type_ne h4 h1 (by decide))
  · rw [List.getElem?_append_right hj] at hu
    rw [List.getElem?_append_right (by omega)] at ht
    have hj0 : j - vs.length = 0 := by
      rcases Nat.eq_zero_or_pos (j - vs.length) with h | h
      · exact h
      · rw [List.getElem?_eq_none (by simp; omega)] at hu
        cases hu
    rw [hj0] at hu
    rw [← h2, hj0] at ht
    simp only [List.getElem?_cons_zero, Option.some.injEq] at hu ht
    subst hu ht
    exact own_other HY hg (own_type_ne HY h1 (by decide))
end
end Go.Proofs.Ytkmhifacpkiefaa
