/- A list of lists of bytes that comes in. -/
import Derived.Test.YtkmhifacpkiefaaWLaid
import Derived.Deep.Matrix
namespace Go.Proofs.Ytkmhifacpkiefaa
set_option linter.unusedVariables false
set_option linter.unusedSimpArgs false
open Go.RowKit Go.Deep Go.Proofs.YtkmhifacpkiefaaW.PrintWords

theorem getD_map_range {n : Nat} {f : Nat → List Int} {j : Nat} (h : j < n) : ((List.range n).map f).getD j [] = f j := by
  rw [List.getD_eq_getElem?_getD, List.getElem?_map, List.getElem?_range h]
  rfl

theorem rows_in {H : Type} {enc : TypeId × Value → H} {P : Program} {W : World} {base : Nat} {held : Bool} {t e q : TypeId} {a : Option Addr} {len cap : Nat} {d : DataW H} {ps : List MemPlace}
    (ht : P.underlying t = some (.slice e)) (he : P.underlying e = some (.slice q)) (hq : P.underlying q = some (.int .u8)) (ce : P.cellsOf e = 1) (cq : P.cellsOf q = 1)
    (h : DataW.Trod enc P W base (fun _ => true) held t (.slice a len cap) d ps) :
    ∃ ts : List (List Int), RowsRd W a ts ∧ len = ts.length ∧ (∀ t ∈ ts, ∀ x ∈ t, (Lit.int .u8 x).wf = true) ∧ len ≤ cap := by
  obtain ⟨fuel, hf⟩ := h
  rcases open_int_rows ht he hq ce cq hf with ⟨hcs, _⟩ | ⟨x, l, c, A, L, C, Z, hcs, _, hl, hm, _, hr⟩
  · simp [Value.cells] at hcs
    obtain ⟨rfl, rfl, rfl⟩ := hcs
    exact ⟨[], ⟨by simp, fun j hj => by simp at hj⟩, rfl, by simp, by simp⟩
  · simp [Value.cells] at hcs
    obtain ⟨rfl, rfl, rfl⟩ := hcs
    have each : ∀ r, r < len → ∃ A1 c1, W.cell? (x.add r) = some (.slice A1 ((Z r).take (L r)).length c1) ∧ ReadsInt W .u8 A1 ((Z r).take (L r)).length ((Z r).take (L r)) ∧ ((Z r).take (L r)).length ≤ c1 ∧ ∀ y ∈ (Z r).take (L r), (Lit.int .u8 y).wf = true := by
      intro r hlt
      obtain ⟨h1, h2, h3, h4, h5, h6, h7⟩ := hr r (by omega)
      have hlen : ((Z r).take (L r)).length = L r := by rw [List.length_take]; omega
      have hwf : ∀ y ∈ (Z r).take (L r), (Lit.int .u8 y).wf = true := fun y hy => h5 y (List.mem_of_mem_take hy)
      rw [hlen]
      refine ⟨A r, C r, h1, ?_, h2, hwf⟩
      refine ⟨hlen, by unfold maxLen at h3; omega, fun hp => ?_⟩
      cases hA : A r with
      | none => have := h6 hA; omega
      | some a' =>
        refine ⟨a', rfl, fun j hj => ?_⟩
        rw [(h7 a' hA).2 j (by omega)]
        rw [List.getD_eq_getElem?_getD, List.getD_eq_getElem?_getD, List.getElem?_take_of_lt (by omega)]
    refine ⟨(List.range len).map fun r => (Z r).take (L r), ⟨by rw [List.length_map, List.length_range]; unfold maxLen at hm; omega, fun j hj => ?_⟩, by simp, ?_, hl⟩
    · rw [List.length_map, List.length_range] at hj
      obtain ⟨A1, c1, h1, h2, h3, _⟩ := each j hj
      rw [getD_map_range hj]
      exact ⟨x, A1, c1, rfl, h1, h2, h3⟩
    · intro t ht y hy
      obtain ⟨r, hr1, rfl⟩ := List.mem_map.1 ht
      exact (each r (List.mem_range.1 hr1)).choose_spec.choose_spec.2.2.2 y hy
end Go.Proofs.Ytkmhifacpkiefaa
