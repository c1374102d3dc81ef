/- Plain laws: pieces of joined texts. -/
import Derived.Test.YteipadogmdppgaaDoorLAwake
namespace Go.Proofs.YteipadogmdppgaaDoor
set_option linter.unusedVariables false
set_option linter.unusedSimpArgs false
open Go.RowKit Go.Proofs.YteipadogmdppgaaDoorW.PrintWords

theorem steps_in {p q : Nat} {u v : List Nat} {l : List (Nat × Nat × Nat)} (h : Steps p u l q v) : ∀ t ∈ l, p ≤ t.2.1 ∧ t.2.1 + t.2.2 ≤ q ∧ 1 ≤ t.2.2 := by
  induction h with
  | nil p u => intro t ht; cases ht
  | @blank p u n l q v hu h r ih =>
    intro t ht
    have := ih t ht
    omega
  | @tok p u k n l q v hu h r ih =>
    intro t ht
    have hb := step_bound _ hu _ _ h
    obtain ⟨j, _, hq, _⟩ := r.len
    rcases List.mem_cons.1 ht with rfl | ht
    · simp only; omega
    · have := ih t ht
      omega
theorem steps_count {p q : Nat} {u v : List Nat} {l : List (Nat × Nat × Nat)} (h : Steps p u l q v) : p + l.length ≤ q := by
  induction h with
  | nil p u => exact Nat.le_refl _
  | @blank p u n l q v hu h r ih => omega
  | @tok p u k n l q v hu h r ih =>
    have hb := step_bound _ hu _ _ h
    simp only [List.length_cons]
    omega
/-- A cut out of joined texts: out of the first, out of the last. -/
theorem ext_left (a b : ByteArray) (i j : Nat) (h : j ≤ a.size) : (a ++ b).extract i j = a.extract i j := by
  apply bs_inj
  rw [bs_extract, bs_extract, bs_append]
  rcases Nat.lt_or_ge i j with h1 | h1
  · rw [List.drop_append_of_le_length (by rw [bs_length]; omega), List.take_append_of_le_length (by rw [List.length_drop, bs_length]; omega)]
  · rw [show j - i = 0 by omega, List.take_zero, List.take_zero]
theorem ext_right (a b : ByteArray) (i j : Nat) : (a ++ b).extract (i + a.size) (j + a.size) = b.extract i j := by
  apply bs_inj
  rw [bs_extract, bs_extract, bs_append, show j + a.size - (i + a.size) = j - i by omega]
  congr 1
  rw [← bs_length a, Nat.add_comm i, ← List.drop_drop, List.drop_left]

def nlS : ByteArray := ⟨#[10]⟩
theorem step_nl (u : List Nat) : stepL (10 :: u) = .inr (0, 1) := by
  unfold stepL
  rw [dL_low 10 u (by decide), if_neg (by simp), if_pos (by rfl)]
/-- Two texts with a line's end between. -/
theorem joins_pure (a b : ByteArray) (X Y : List (Nat × Nat × Nat)) (hx : toksA 0 (bs a) = (X, none)) (hy : toksA 0 (bs b) = (Y, none)) :
    toksA 0 (bs (a ++ nlS ++ b)) = (X ++ Y.map (shT (a.size + 1)), none) := by
  have h1 := (toks_steps _ 0 (bs a) (Nat.le_refl _)).1 X hx
  have h2 := (toks_steps _ 0 (bs b) (Nat.le_refl _)).1 Y hy
  rw [Nat.zero_add, bs_length] at h1 h2
  have e : bs (a ++ nlS ++ b) = bs a ++ 10 :: bs b := by rw [bs_append, bs_append, List.append_assoc]; rfl
  have h3 := h1.swap [] (10 :: bs b) (.inr ⟨10, _, rfl, by decide, by decide, .inl rfl⟩) (bs a) (by rw [List.append_nil]) rfl (by rw [bs_length, Nat.zero_add])
  have h4 : Steps a.size (10 :: bs b) [] (a.size + 1) (bs b) := .blank (by simp) (step_nl _) (.nil _ _)
  have h5 := h2.shift (a.size + 1)
  rw [Nat.zero_add] at h5
  have h6 := (h3.app h4).app h5
  rw [List.append_nil] at h6
  rw [e]
  exact h6.toks_end

theorem Steps.split {p q : Nat} {u v : List Nat} {l : List (Nat × Nat × Nat)} (h : Steps p u l q v) : ∀ k t, l[k]? = some t → ∃ w, Steps p u (l.take k) t.2.1 w ∧ w ≠ [] ∧ (∃ m, stepL w = .inr (m + 1, t.2.2)) ∧ Steps t.2.1 w (l.drop k) q v := by
  induction h with
  | nil p u => intro k t e; simp at e
  | blank hu h r ih =>
    intro k t e
    obtain ⟨w, h1, h2, h3, h4⟩ := ih k t e
    exact ⟨w, .blank hu h h1, h2, h3, h4⟩
  | @tok p u k' n l q v hu h r ih =>
    intro k t e
    cases k with
    | zero =>
      have : (k' + 1, p, n) = t := by simpa using e
      subst this
      exact ⟨u, .nil _ _, hu, ⟨_, h⟩, .tok hu h r⟩
    | succ k =>
      obtain ⟨w, h1, h2, h3, h4⟩ := ih k t (by simpa using e)
      exact ⟨w, .tok hu h h1, h2, h3, h4⟩
theorem runA_low (f : Nat → Bool) (b : Nat) (u : List Nat) (hb : b < 128) : runA f (b :: u) = if f b then 1 + runA f u else 0 := by
  rw [runA_step f _ (by simp), dL_low b u hb]
  rfl
def blankL : List ByteArray := [⟨#[32]⟩, ⟨#[10]⟩, ⟨#[9, 13]⟩, ⟨#[47, 47, 32, 104, 111, 112, 32, 59, 32, 123, 10]⟩]
theorem step_blank (c : Nat) (u : List Nat) (h : blankB c = true) : stepL (c :: u) = .inr (0, 1) := by
  have hl := blank_low h
  unfold stepL
  rw [dL_low c u hl, if_neg (by simp only; omega)]
  rw [if_pos (by exact h)]
theorem blank_steps (i : Nat) (hi : i < 4) (p : Nat) (w : List Nat) : ∃ c z, bs (blankL.getD i ByteArray.empty) ++ w = c :: z ∧ c < 128 ∧ partF c = false ∧
    Steps p (bs (blankL.getD i ByteArray.empty) ++ w) [] (p + (blankL.getD i ByteArray.empty).size) w := by
  have hc : i = 0 ∨ i = 1 ∨ i = 2 ∨ i = 3 := by omega
  rcases hc with rfl | rfl | rfl | rfl
  · exact ⟨32, _, rfl, by decide, by decide, .blank (by simp [blankL, bs]) (step_blank 32 _ (by decide)) (.nil _ _)⟩
  · exact ⟨10, _, rfl, by decide, by decide, .blank (by simp [blankL, bs]) (step_blank 10 _ (by decide)) (.nil _ _)⟩
  · exact ⟨9, _, rfl, by decide, by decide, .blank (by simp [blankL, bs]) (step_blank 9 _ (by decide)) (.blank (by simp [blankL, bs]) (step_blank 13 _ (by decide)) (.nil _ _))⟩
  · refine ⟨47, _, rfl, by decide, by decide, .blank (n := 10) (by simp [blankL, bs]) ?_ (.blank (by simp [blankL, bs]) (step_nl _) (.nil _ _))⟩
    show stepL (47 :: 47 :: 32 :: 104 :: 111 :: 112 :: 32 :: 59 :: 32 :: 123 :: 10 :: w) = _
    unfold stepL
    rw [dL_low 47 _ (by decide), if_neg (by simp), if_neg (by simp [blankB]), if_pos (by simp [slashB])]
    rw [runA_low _ _ _ (by decide), if_pos (by decide), runA_low _ _ _ (by decide), if_pos (by decide), runA_low _ _ _ (by decide), if_pos (by decide), runA_low _ _ _ (by decide), if_pos (by decide), runA_low _ _ _ (by decide), if_pos (by decide), runA_low _ _ _ (by decide), if_pos (by decide), runA_low _ _ _ (by decide), if_pos (by decide), runA_low _ _ _ (by decide), if_pos (by decide), runA_low _ _ _ (by decide), if_pos (by decide), runA_low _ _ _ (by decide), if_pos (by decide), runA_low _ _ _ (by decide), if_neg (by decide)]
/-- A blank between two pieces. -/
theorem blanks_pure (s : ByteArray) (L : List (Nat × Nat × Nat)) (k m : Nat) (t : Nat × Nat × Nat) (hl : toksA 0 (bs s) = (L, none)) (hk : L[k]? = some t) (hm : m < 4) :
    toksA 0 (bs (s.extract 0 t.2.1 ++ blankL.getD m ByteArray.empty ++ s.extract t.2.1 s.size)) = (L.take k ++ (L.drop k).map (shT (blankL.getD m ByteArray.empty).size), none) := by
  have h1 := (toks_steps _ 0 (bs s) (Nat.le_refl _)).1 L hl
  rw [Nat.zero_add, bs_length] at h1
  obtain ⟨w, h2, h3, ⟨j, h4⟩, h5⟩ := h1.split k t hk
  obtain ⟨i, hi1, hi2, hi3⟩ := h2.len
  rw [Nat.zero_add] at hi2
  subst hi2
  rw [bs_length] at hi3
  obtain ⟨c, z, b1, b2, b3, b4⟩ := blank_steps m hm t.2.1 w
  have e : bs (s.extract 0 t.2.1 ++ blankL.getD m ByteArray.empty ++ s.extract t.2.1 s.size) = (bs s).take t.2.1 ++ (bs (blankL.getD m ByteArray.empty) ++ w) := by
    rw [bs_append, bs_append, bs_extract, bs_extract, List.drop_zero, Nat.sub_zero, ← hi1, List.append_assoc, List.take_of_length_le (l := w) (by rw [hi1, List.length_drop, bs_length]; omega)]
  have h6 := h2.swap w (bs (blankL.getD m ByteArray.empty) ++ w) (.inr ⟨c, z, b1, b2, b3, .inr ⟨j, _, h3, h4⟩⟩) ((bs s).take t.2.1) (by rw [hi1, List.take_append_drop]) rfl (by rw [List.length_take, bs_length]; omega)
  have h7 := (h6.app b4).app (h5.shift (blankL.getD m ByteArray.empty).size)
  rw [List.append_nil] at h7
  rw [e]
  exact h7.toks_end
end Go.Proofs.YteipadogmdppgaaDoor
