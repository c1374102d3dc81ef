/- Plain laws: blanks behind a sign turn no piece but its place. -/
import Derived.Test.YtbfhglaaombglaaDoorIErase
import Derived.Test.YtbfhglaaombglaaDoorICutPure
namespace Go.Proofs.YtbfhglaaombglaaDoor
set_option linter.unusedVariables false
set_option linter.unusedSimpArgs false
open Go.RowKit Go.Proofs.YtbfhglaaombglaaDoorW.PrintWords

/-- In a run each low byte is of the run. -/
theorem run_low (f : Nat → Bool) : ∀ k (u : List Nat), u.length ≤ k → ∀ j, j < runA f u → u.getD j 0 < 128 → f (u.getD j 0) = true := by
  intro k
  induction k with
  | zero =>
    intro u h j hj
    have : u = [] := List.eq_nil_of_length_eq_zero (by omega)
    subst this
    rw [runA_nil] at hj
    omega
  | succ k ih =>
    intro u h j hj hb
    by_cases hu : u = []
    · subst hu; rw [runA_nil] at hj; omega
    · rw [runA_step f u hu] at hj
      by_cases hf : f (dL u).1 = true
      · rw [if_pos hf] at hj
        have hp := dL_pos u
        by_cases hj0 : j = 0
        · subst hj0
          rw [dL_head u hb] at hf
          exact hf
        · by_cases hjm : j < (dL u).2
          · exfalso
            have := decN_stop u.length j (u.getD 0 0) (u.getD 1 0) (u.getD 2 0) (u.getD 3 0) (by omega) (fun e => by rw [← e]; exact hb) (fun e => by rw [← e]; exact hb) (fun e => by rw [← e]; exact hb)
            rw [dL] at hjm
            omega
          · have hl := List.length_pos_iff.2 hu
            have h9 := ih (u.drop (dL u).2) (by rw [List.length_drop]; omega) (j - (dL u).2) (by omega)
            rw [getD_drop', show (dL u).2 + (j - (dL u).2) = j by omega] at h9
            exact h9 hb
      · rw [if_neg hf] at hj; omega
theorem sign_other {b : Nat} (h : signB b = true) : blankB b = false ∧ partF b = false ∧ dgF b = false := by
  have : b = 123 ∨ b = 125 ∨ b = 40 ∨ b = 41 ∨ b = 59 ∨ b = 61 ∨ b = 44 := by simpa [signB] using h
  rcases this with rfl | rfl | rfl | rfl | rfl | rfl | rfl <;> exact ⟨by decide, by decide, by decide⟩
/-- A piece ahead of a sign ends ahead of it, or is it. -/
theorem sign_step (x q : List Nat) (hx : x ≠ []) (hs : signB (x.getD (x.length - 1) 0) = true) (h47 : ∀ i, i < x.length → x.getD i 0 ≠ 47) (k n : Nat) (h : stepL (x ++ q) = .inr (k, n)) :
    n < x.length ∨ (x.length = 1 ∧ n = 1 ∧ k = 3) := by
  have hl := List.length_pos_iff.2 hx
  have h0 : (x ++ q).getD 0 0 = x.getD 0 0 := getD_left x q 0 hl
  have hj : (x ++ q).getD (x.length - 1) 0 = x.getD (x.length - 1) 0 := getD_left x q _ (by omega)
  obtain ⟨o1, o2, o3⟩ := sign_other hs
  have hrun : ∀ f : Nat → Bool, f (x.getD (x.length - 1) 0) = false → runA f (x ++ q) < x.length := by
    intro f hf
    rcases Nat.lt_or_ge (runA f (x ++ q)) x.length with h9 | h9
    · exact h9
    · have h8 := run_low f _ (x ++ q) (Nat.le_refl _) (x.length - 1) (by omega) (by rw [hj]; exact sign_low hs)
      rw [hj, hf] at h8
      cases h8
  unfold stepL at h
  rw [h0] at h
  by_cases c1 : (dL (x ++ q)).1 = 65533 ∧ (dL (x ++ q)).2 < 2
  · rw [if_pos c1] at h; cases h
  · rw [if_neg c1] at h
    by_cases c2 : blankB (x.getD 0 0) = true
    · rw [if_pos c2] at h
      cases h
      left
      rcases Nat.lt_or_ge 1 x.length with h9 | h9
      · exact h9
      · rw [show x.length - 1 = 0 by omega] at o1
        rw [o1] at c2
        cases c2
    · rw [if_neg c2] at h
      by_cases c3 : slashB (x ++ q) = true
      · exfalso
        simp only [slashB, Bool.and_eq_true, beq_iff_eq] at c3
        rw [h0] at c3
        exact h47 0 hl c3.1
      · rw [if_neg c3] at h
        by_cases c4 : letterF ((dL (x ++ q)).1 : Int) = true
        · rw [if_pos c4] at h
          cases h
          exact .inl (hrun _ o2)
        · rw [if_neg c4] at h
          by_cases c5 : dgF (dL (x ++ q)).1 = true
          · rw [if_pos c5] at h
            cases h
            exact .inl (hrun _ o3)
          · rw [if_neg c5] at h
            by_cases c6 : signB (x.getD 0 0) = true
            · rw [if_pos c6] at h
              cases h
              rcases Nat.lt_or_ge 1 x.length with h9 | h9
              · exact .inl h9
              · exact .inr ⟨by omega, rfl, rfl⟩
            · rw [if_neg c6] at h; cases h
/-- Pieces part behind a sign; what stands behind it turns none ahead of it. -/
theorem sign_cut (q : List Nat) {p r : Nat} {u v : List Nat} {l : List (Nat × Nat × Nat)} (h : Steps p u l r v) : v = [] → ∀ x, u = x ++ q → x ≠ [] → signB (x.getD (x.length - 1) 0) = true → (∀ i, i < x.length → x.getD i 0 ≠ 47) →
    ∃ L1 L2, l = L1 ++ L2 ∧ Steps (p + x.length) q L2 r [] ∧ ∀ c z, c < 128 → Steps p (x ++ c :: z) L1 (p + x.length) (c :: z) := by
  induction h with
  | nil p u =>
    intro hv x hu hx
    subst hv
    exact absurd (List.append_eq_nil_iff.1 hu.symm).1 hx
  | @blank p u n l r v hu h rr ih =>
    intro hv x hxu hx hs h47
    subst hxu
    have hb := step_bound _ hu 0 n h
    rcases sign_step x q hx hs h47 0 n h with hn | ⟨_, _, h9⟩
    · obtain ⟨L1, L2, e1, e2, e3⟩ := ih hv (x.drop n) (by rw [List.drop_append_of_le_length (by omega)]) (by intro e; have := congrArg List.length e; rw [List.length_drop, List.length_nil] at this; omega)
        (by rw [getD_drop', List.length_drop, show n + (x.length - n - 1) = x.length - 1 by omega]; exact hs) (fun i hi => by rw [List.length_drop] at hi; rw [getD_drop']; exact h47 _ (by omega))
      rw [List.length_drop, show p + n + (x.length - n) = p + x.length by omega] at e2 e3
      refine ⟨L1, L2, e1, e2, fun c z hc => .blank (by simp) (step_swap x q (c :: z) hx 0 n h (by omega) (.inr ⟨c, z, rfl, hc, fun e => absurd e (by omega)⟩)) ?_⟩
      rw [List.drop_append_of_le_length (by omega)]
      exact e3 c z hc
    · exact absurd h9 (by decide)
  | @tok p u k n l r v hu h rr ih =>
    intro hv x hxu hx hs h47
    subst hxu
    have hb := step_bound _ hu (k + 1) n h
    rcases sign_step x q hx hs h47 (k + 1) n h with hn | ⟨h8, h7, h9⟩
    · obtain ⟨L1, L2, e1, e2, e3⟩ := ih hv (x.drop n) (by rw [List.drop_append_of_le_length (by omega)]) (by intro e; have := congrArg List.length e; rw [List.length_drop, List.length_nil] at this; omega)
        (by rw [getD_drop', List.length_drop, show n + (x.length - n - 1) = x.length - 1 by omega]; exact hs) (fun i hi => by rw [List.length_drop] at hi; rw [getD_drop']; exact h47 _ (by omega))
      rw [List.length_drop, show p + n + (x.length - n) = p + x.length by omega] at e2 e3
      refine ⟨(k + 1, p, n) :: L1, L2, by rw [e1]; rfl, e2, fun c z hc => .tok (by simp) (step_swap x q (c :: z) hx (k + 1) n h (by omega) (.inr ⟨c, z, rfl, hc, fun e => absurd e (by omega)⟩)) ?_⟩
      rw [List.drop_append_of_le_length (by omega)]
      exact e3 c z hc
    · subst h7
      have hd : ∀ y : List Nat, (x ++ y).drop 1 = y := fun y => by rw [← h8, List.drop_left]
      refine ⟨[(k + 1, p, 1)], l, rfl, ?_, fun c z hc => .tok (by simp) (step_swap x q (c :: z) hx (k + 1) 1 h (by omega) (.inr ⟨c, z, rfl, hc, fun _ => ⟨fun e => absurd e (by omega), fun e => absurd e (by omega), fun e => absurd e (by omega)⟩⟩)) ?_⟩
      · rw [hd, hv] at rr
        rw [h8]
        exact rr
      · rw [hd, h8]
        exact .nil _ _
end Go.Proofs.YtbfhglaaombglaaDoor
