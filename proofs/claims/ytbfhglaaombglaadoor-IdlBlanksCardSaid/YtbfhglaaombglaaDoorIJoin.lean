/- Plain laws: parts of joined texts. -/
import Derived.Test.YtbfhglaaombglaaDoorIgA
namespace Go.Proofs.YtbfhglaaombglaaDoor
set_option linter.unusedVariables false
set_option linter.unusedSimpArgs false
open Go.RowKit Go.Proofs.YtbfhglaaombglaaDoorW.PrintWords

theorem steps_in {p q : Nat} {u v : List Nat} {l : List (Nat × Nat × Nat)} (h : Steps p u l q v) : ∀ t ∈ l, p ≤ t.2.1 ∧ t.2.1 + t.2.2 ≤ q ∧ 1 ≤ t.2.2 := by
  induction h with
  | nil p u => intro t ht; cases ht
  | @blank p u n l q v hu h r ih =>
    intro t ht
    have := ih t ht
    omega
  | @tok p u k n l q v hu h r ih =>
    intro t ht
    have hb := step_bound _ hu _ _ h
    obtain ⟨j, _, hq, _⟩ := r.len
    rcases List.mem_cons.1 ht with rfl | ht
    · simp only; omega
    · have := ih t ht
      omega
theorem ext_left (a b : ByteArray) (i j : Nat) (h : j ≤ a.size) : (a ++ b).extract i j = a.extract i j := by
  apply bs_inj
  rw [bs_extract, bs_extract, bs_append]
  rcases Nat.lt_or_ge i j with h1 | h1
  · rw [List.drop_append_of_le_length (by rw [bs_length]; omega), List.take_append_of_le_length (by rw [List.length_drop, bs_length]; omega)]
  · rw [show j - i = 0 by omega, List.take_zero, List.take_zero]
theorem ext_right (a b : ByteArray) (i j : Nat) : (a ++ b).extract (i + a.size) (j + a.size) = b.extract i j := by
  apply bs_inj
  rw [bs_extract, bs_extract, bs_append, show j + a.size - (i + a.size) = j - i by omega]
  congr 1
  rw [← bs_length a, Nat.add_comm i, ← List.drop_drop, List.drop_left]
theorem ext_ext (s : ByteArray) (c e i j : Nat) (h : j ≤ e - c) : (s.extract c e).extract i j = s.extract (c + i) (c + j) := by
  apply bs_inj
  rw [bs_extract, bs_extract, bs_extract, List.drop_take, List.drop_drop, List.take_take]
  congr 1
  omega
theorem ex_size (s : ByteArray) (i j : Nat) (h : j ≤ s.size) : (s.extract i j).size = j - i := by rw [ByteArray.size_extract]; omega
theorem join_lo (s y : ByteArray) (a i j : Nat) (ha : a ≤ s.size) (h : j ≤ a) : (s.extract 0 a ++ y).extract i j = s.extract i j := by
  rw [ext_left _ _ _ _ (by rw [ex_size _ _ _ ha]; omega), ext_ext _ _ _ _ _ (by omega), Nat.zero_add, Nat.zero_add]
theorem join_hi (s y : ByteArray) (a i j d : Nat) (ha : a ≤ s.size) (h : j ≤ s.size) (hi : a ≤ i) (hij : i ≤ j) (hd : y.size = a + d) : (y ++ s.extract a s.size).extract (i + d) (j + d) = s.extract i j := by
  have e := ext_right y (s.extract a s.size) (i - a) (j - a)
  rw [show i - a + y.size = i + d by omega, show j - a + y.size = j + d by omega] at e
  rw [e, ext_ext _ _ _ _ _ (by omega), show a + (i - a) = i by omega, show a + (j - a) = j by omega]
end Go.Proofs.YtbfhglaaombglaaDoor
