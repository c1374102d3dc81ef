/- Plain laws: the rows of joined texts' pieces. -/
import Derived.Test.YteipadogmdppgaaDoorLJoinPure
namespace Go.Proofs.YteipadogmdppgaaDoor
set_option linter.unusedVariables false
set_option linter.unusedSimpArgs false
open Go.RowKit Go.Proofs.YteipadogmdppgaaDoorW.PrintWords

theorem ext_ext (s : ByteArray) (c e i j : Nat) (h : j ≤ e - c) : (s.extract c e).extract i j = s.extract (c + i) (c + j) := by
  apply bs_inj
  rw [bs_extract, bs_extract, bs_extract, List.drop_take, List.drop_drop, List.take_take]
  congr 1
  omega
theorem ex_size (s : ByteArray) (i j : Nat) (h : j ≤ s.size) : (s.extract i j).size = j - i := by rw [ByteArray.size_extract]; omega
theorem join_lo (s y : ByteArray) (a i j : Nat) (ha : a ≤ s.size) (h : j ≤ a) : (s.extract 0 a ++ y).extract i j = s.extract i j := by
  rw [ext_left _ _ _ _ (by rw [ex_size _ _ _ ha]; omega), ext_ext _ _ _ _ _ (by omega), Nat.zero_add, Nat.zero_add]
theorem join_hi (s y : ByteArray) (a i j d : Nat) (ha : a ≤ s.size) (h : j ≤ s.size) (hi : a ≤ i) (hij : i ≤ j) (hd : y.size = a + d) : (y ++ s.extract a s.size).extract (i + d) (j + d) = s.extract i j := by
  have e := ext_right y (s.extract a s.size) (i - a) (j - a)
  rw [show i - a + y.size = i + d by omega, show j - a + y.size = j + d by omega] at e
  rw [e, ext_ext _ _ _ _ _ (by omega), show a + (i - a) = i by omega, show a + (j - a) = j by omega]

theorem mem_at {α : Type} {l : List α} {i : Nat} {t : α} (h : l[i]? = some t) : t ∈ l := List.mem_of_getElem? h
/-- Row i of the pieces with a blank between. -/
theorem blank_row (s : ByteArray) (L : List (Nat × Nat × Nat)) (k m : Nat) (t : Nat × Nat × Nat) (hl : toksA 0 (bs s) = (L, none)) (hk : L[k]? = some t) (hm : m < 4) (bl : ByteArray) (i kd a n : Nat) (hi : L[i]? = some (kd, a, n)) :
    t.2.1 ≤ s.size ∧ a + n ≤ s.size ∧ (L.take k ++ (L.drop k).map (shT bl.size))[i]? = some (kd, if i < k then a else a + bl.size, n) ∧
    (s.extract 0 t.2.1 ++ bl ++ s.extract t.2.1 s.size).extract (if i < k then a else a + bl.size) ((if i < k then a else a + bl.size) + n) = s.extract a (a + n) := by
  have h1 := (toks_steps _ 0 (bs s) (Nat.le_refl _)).1 L hl
  rw [Nat.zero_add, bs_length] at h1
  obtain ⟨w, h2, h3, h4, h5⟩ := h1.split k t hk
  have b0 := steps_in h1 _ (mem_at hi)
  have bk := steps_in h1 _ (mem_at hk)
  simp only at b0 bk
  have hkl : k < L.length := (List.getElem?_eq_some_iff.1 hk).1
  have htk : (L.take k).length = k := by rw [List.length_take]; omega
  refine ⟨by omega, by omega, ?_⟩
  by_cases hik : i < k
  · rw [if_pos hik]
    have hi2 : (L.take k)[i]? = some (kd, a, n) := by rw [List.getElem?_take_of_lt hik]; exact hi
    have b1 := steps_in h2 _ (mem_at hi2)
    simp only at b1
    refine ⟨by rw [List.getElem?_append_left (by omega)]; exact hi2, ?_⟩
    rw [ByteArray.append_assoc]
    exact join_lo s _ _ _ _ (by omega) (by omega)
  · rw [if_neg hik]
    have hi2 : (L.drop k)[i - k]? = some (kd, a, n) := by rw [List.getElem?_drop, show k + (i - k) = i by omega]; exact hi
    have b1 := steps_in h5 _ (mem_at hi2)
    simp only at b1
    refine ⟨by rw [List.getElem?_append_right (by omega), htk, List.getElem?_map, hi2]; rfl, ?_⟩
    have := join_hi s (s.extract 0 t.2.1 ++ bl) t.2.1 a (a + n) bl.size (by omega) (by omega) (by omega) (by omega) (by rw [ByteArray.size_append, ex_size _ _ _ (by omega)]; omega)
    rw [show a + bl.size + n = a + n + bl.size by omega]
    exact this
/-- Row i of the pieces of two texts. -/
theorem join_row (a b : ByteArray) (X Y : List (Nat × Nat × Nat)) (hx : toksA 0 (bs a) = (X, none)) (hy : toksA 0 (bs b) = (Y, none)) (i : Nat) (hi : i < X.length + Y.length) :
    (i < X.length → ∃ kd p n, X[i]? = some (kd, p, n) ∧ p + n ≤ a.size ∧ (X ++ Y.map (shT (a.size + 1)))[i]? = some (kd, p, n) ∧ (a ++ nlS ++ b).extract p (p + n) = a.extract p (p + n)) ∧
    (¬ i < X.length → ∃ kd p n, Y[i - X.length]? = some (kd, p, n) ∧ p + n ≤ b.size ∧ (X ++ Y.map (shT (a.size + 1)))[i]? = some (kd, p + (a.size + 1), n) ∧ (a ++ nlS ++ b).extract (p + (a.size + 1)) (p + (a.size + 1) + n) = b.extract p (p + n)) := by
  have h1 := (toks_steps _ 0 (bs a) (Nat.le_refl _)).1 X hx
  have h2 := (toks_steps _ 0 (bs b) (Nat.le_refl _)).1 Y hy
  rw [Nat.zero_add, bs_length] at h1 h2
  refine ⟨fun h => ?_, fun h => ?_⟩
  · obtain ⟨⟨kd, p, n⟩, ht⟩ : ∃ t, X[i]? = some t := ⟨X[i], List.getElem?_eq_getElem h⟩
    have b0 := steps_in h1 _ (mem_at ht)
    simp only at b0
    refine ⟨kd, p, n, ht, b0.2.1, by rw [List.getElem?_append_left h]; exact ht, ?_⟩
    rw [ByteArray.append_assoc]
    exact ext_left _ _ _ _ b0.2.1
  · have hj : i - X.length < Y.length := by omega
    obtain ⟨⟨kd, p, n⟩, ht⟩ : ∃ t, Y[i - X.length]? = some t := ⟨Y[i - X.length], List.getElem?_eq_getElem hj⟩
    have b0 := steps_in h2 _ (mem_at ht)
    simp only at b0
    refine ⟨kd, p, n, ht, b0.2.1, by rw [List.getElem?_append_right (by omega), List.getElem?_map, ht]; rfl, ?_⟩
    have e := ext_right (a ++ nlS) b p (p + n)
    have hz : (a ++ nlS).size = a.size + 1 := by rw [ByteArray.size_append]; rfl
    rw [hz] at e
    rw [show p + (a.size + 1) + n = p + n + (a.size + 1) by omega]
    exact e
end Go.Proofs.YteipadogmdppgaaDoor
