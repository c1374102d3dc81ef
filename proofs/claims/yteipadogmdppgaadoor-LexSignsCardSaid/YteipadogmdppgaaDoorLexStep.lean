/- Plain laws: pieces, one by one. -/
import Derived.Test.YteipadogmdppgaaDoorLexPure
namespace Go.Proofs.YteipadogmdppgaaDoor
set_option linter.unusedVariables false
set_option linter.unusedSimpArgs false
open Go.RowKit Go.Proofs.YteipadogmdppgaaDoorW.PrintWords

def partF (r : Nat) : Bool := letterF (r : Int) || digitF (r : Int)
def dgF (r : Nat) : Bool := digitF (r : Int)
def nlF (r : Nat) : Bool := !(r == 10)
def blankB (b : Nat) : Bool := [32, 9, 13, 10].contains b
def signB (b : Nat) : Bool := [123, 125, 40, 41, 59, 61, 44].contains b
def slashB (u : List Nat) : Bool := u.getD 0 0 == 47 && u.getD 1 0 == 47
/-- What begins here: no text (9), nothing (5), or a kind (0: none) and how many bytes it has. -/
def stepL (u : List Nat) : Nat ⊕ (Nat × Nat) :=
  if (dL u).1 = 65533 ∧ (dL u).2 < 2 then .inl 9
  else if blankB (u.getD 0 0) then .inr (0, 1)
  else if slashB u then .inr (0, runA nlF u)
  else if letterF ((dL u).1 : Int) then .inr (1, runA partF u)
  else if dgF (dL u).1 then .inr (2, runA dgF u)
  else if signB (u.getD 0 0) then .inr (3, 1)
  else .inl 5

theorem blank_low {b : Nat} (h : blankB b = true) : b < 128 := by simp [blankB] at h; omega
theorem sign_low {b : Nat} (h : signB b = true) : b < 128 := by simp [signB] at h; omega
theorem dL_head (u : List Nat) (h : u.getD 0 0 < 128) : dL u = (u.getD 0 0, 1) := decN_low _ _ _ _ _ h
theorem slash_dL {u : List Nat} (h : slashB u = true) : dL u = (47, 1) ∧ 2 ≤ u.length := by
  simp only [slashB, Bool.and_eq_true, beq_iff_eq] at h
  refine ⟨by rw [dL_head u (by omega), h.1], ?_⟩
  rcases Nat.lt_or_ge u.length 2 with h2 | h2
  · have := h.2
    rw [List.getD_eq_getElem?_getD, List.getElem?_eq_none (by omega)] at this
    simp at this
  · exact h2
theorem slash_run {u : List Nat} (h : slashB u = true) : 2 ≤ runA nlF u := by
  obtain ⟨h1, h2⟩ := slash_dL h
  have hu : u ≠ [] := by intro e; subst e; simp at h2
  rw [runA_step nlF u hu, h1]
  have h3 : (u.drop 1).getD 0 0 = 47 := by
    rw [getD_drop']
    simp only [slashB, Bool.and_eq_true, beq_iff_eq] at h
    exact h.2
  have h4 : u.drop 1 ≠ [] := by intro e; have := congrArg List.length e; simp at this; omega
  rw [runA_step nlF (u.drop 1) h4, dL_head _ (by omega), h3]
  simp [nlF]
  omega
theorem run_first (f : Nat → Bool) (u : List Nat) (hu : u ≠ []) (h : f (dL u).1 = true) : (dL u).2 ≤ runA f u := by
  rw [runA_step f u hu, if_pos h]; omega

theorem step_bound (u : List Nat) (hu : u ≠ []) (k n : Nat) (h : stepL u = .inr (k, n)) : (dL u).2 ≤ n ∧ n ≤ u.length ∧ 1 ≤ n := by
  have hl := List.length_pos_iff.2 hu
  have hp := dL_pos u
  unfold stepL at h
  by_cases c1 : (dL u).1 = 65533 ∧ (dL u).2 < 2
  · rw [if_pos c1] at h; cases h
  · rw [if_neg c1] at h
    by_cases c2 : blankB (u.getD 0 0) = true
    · rw [if_pos c2] at h
      cases h
      rw [dL_head u (blank_low c2)]
      exact ⟨Nat.le_refl _, hl, Nat.le_refl _⟩
    · rw [if_neg c2] at h
      by_cases c3 : slashB u = true
      · rw [if_pos c3] at h
        cases h
        have h1 := slash_run c3
        have h2 := runA_le nlF u.length u (Nat.le_refl _)
        rw [(slash_dL c3).1]
        exact ⟨by simp only; omega, h2, by omega⟩
      · rw [if_neg c3] at h
        by_cases c4 : letterF ((dL u).1 : Int) = true
        · rw [if_pos c4] at h
          cases h
          have h1 := run_first partF u hu (by rw [partF, c4]; rfl)
          have h2 := runA_le partF u.length u (Nat.le_refl _)
          exact ⟨h1, h2, by omega⟩
        · rw [if_neg c4] at h
          by_cases c5 : dgF (dL u).1 = true
          · rw [if_pos c5] at h
            cases h
            have h1 := run_first dgF u hu c5
            have h2 := runA_le dgF u.length u (Nat.le_refl _)
            exact ⟨h1, h2, by omega⟩
          · rw [if_neg c5] at h
            by_cases c6 : signB (u.getD 0 0) = true
            · rw [if_pos c6] at h
              cases h
              rw [dL_head u (sign_low c6)]
              exact ⟨Nat.le_refl _, hl, Nat.le_refl _⟩
            · rw [if_neg c6] at h
              cases h

/-- What ends a piece. -/
def StopAt (k : Nat) (x : List Nat) (c : Nat) : Prop := (k = 1 → partF c = false) ∧ (k = 2 → dgF c = false) ∧ (k = 0 → x.getD 0 0 = 47 → nlF c = false)

theorem nl_width (u : List Nat) (h : nlF (dL u).1 = false) : (dL u).2 = 1 := dL_lt (by simp [nlF] at h; omega)

/-- What stands behind a piece turns nothing of it. -/
theorem step_swap (x q z : List Nat) (hx : x ≠ []) (k n : Nat) (h : stepL (x ++ q) = .inr (k, n)) (hn : n ≤ x.length)
    (hz : z = [] ∨ ∃ c z', z = c :: z' ∧ c < 128 ∧ (n = x.length → StopAt k x c)) : stepL (x ++ z) = .inr (k, n) := by
  have hl := List.length_pos_iff.2 hx
  obtain ⟨hb1, hb2, hb3⟩ := step_bound _ (by simp [hx]) k n h
  have hd : dL (x ++ z) = dL (x ++ q) := by
    rw [← (dL_cut x q hx).1 (by omega)]
    rcases hz with rfl | ⟨c, z', rfl, hc, _⟩
    · rw [List.append_nil]
    · exact dL_ext x c z' hx hc
  have h0 : ∀ y : List Nat, (x ++ y).getD 0 0 = x.getD 0 0 := fun y => getD_left x y 0 hl
  have hs : slashB (x ++ z) = slashB (x ++ q) := by
    by_cases h2 : 2 ≤ x.length
    · unfold slashB
      rw [getD_left x z 1 (by omega), getD_left x q 1 (by omega), h0, h0]
    · by_cases h47 : x.getD 0 0 = 47
      · exfalso
        have hdq : dL (x ++ q) = (47, 1) := by rw [dL_head _ (by rw [h0]; omega), h0, h47]
        unfold stepL at h
        rw [hdq, h0, h47] at h
        by_cases c3 : slashB (x ++ q) = true
        · rw [if_neg (by simp), if_neg (by decide), if_pos c3] at h
          cases h
          have := slash_run c3
          omega
        · rw [if_neg (by simp), if_neg (by decide), if_neg c3, if_neg (by decide), if_neg (by decide), if_neg (by decide)] at h
          cases h
      · unfold slashB
        rw [h0, h0, beq_eq_false_iff_ne.2 h47, Bool.false_and, Bool.false_and]
  unfold stepL at h ⊢
  rw [hd, hs]
  rw [h0] at h ⊢
  by_cases c1 : (dL (x ++ q)).1 = 65533 ∧ (dL (x ++ q)).2 < 2
  · rw [if_pos c1] at h; cases h
  · rw [if_neg c1] at h ⊢
    by_cases c2 : blankB (x.getD 0 0) = true
    · rw [if_pos c2] at h ⊢
      exact h
    · rw [if_neg c2] at h ⊢
      by_cases c3 : slashB (x ++ q) = true
      · rw [if_pos c3] at h ⊢
        cases h
        have h47 : x.getD 0 0 = 47 := by
          have := c3
          simp only [slashB, Bool.and_eq_true, beq_iff_eq] at this
          rw [← this.1, h0]
        rw [run_swap nlF (.inr nl_width) q z x.length x (Nat.le_refl _) hn]
        rcases hz with rfl | ⟨c, z', rfl, hc, hst⟩
        · exact .inl rfl
        · exact .inr ⟨c, z', rfl, hc, fun e => (hst e).2.2 rfl h47⟩
      · rw [if_neg c3] at h ⊢
        by_cases c4 : letterF ((dL (x ++ q)).1 : Int) = true
        · rw [if_pos c4] at h ⊢
          cases h
          rw [run_swap partF (.inl (by decide)) q z x.length x (Nat.le_refl _) hn]
          rcases hz with rfl | ⟨c, z', rfl, hc, hst⟩
          · exact .inl rfl
          · exact .inr ⟨c, z', rfl, hc, fun e => (hst e).1 rfl⟩
        · rw [if_neg c4] at h ⊢
          by_cases c5 : dgF (dL (x ++ q)).1 = true
          · rw [if_pos c5] at h ⊢
            cases h
            rw [run_swap dgF (.inl (by decide)) q z x.length x (Nat.le_refl _) hn]
            rcases hz with rfl | ⟨c, z', rfl, hc, hst⟩
            · exact .inl rfl
            · exact .inr ⟨c, z', rfl, hc, fun e => (hst e).2.1 rfl⟩
          · rw [if_neg c5] at h ⊢
            exact h

/-- From a place to another one: the pieces between. -/
inductive Steps : Nat → List Nat → List (Nat × Nat × Nat) → Nat → List Nat → Prop
  | nil (p : Nat) (u : List Nat) : Steps p u [] p u
  | blank {p : Nat} {u : List Nat} {n : Nat} {l : List (Nat × Nat × Nat)} {q : Nat} {v : List Nat} (hu : u ≠ []) (h : stepL u = .inr (0, n)) (r : Steps (p + n) (u.drop n) l q v) : Steps p u l q v
  | tok {p : Nat} {u : List Nat} {k n : Nat} {l : List (Nat × Nat × Nat)} {q : Nat} {v : List Nat} (hu : u ≠ []) (h : stepL u = .inr (k + 1, n)) (r : Steps (p + n) (u.drop n) l q v) : Steps p u ((k + 1, p, n) :: l) q v

theorem Steps.len {p q : Nat} {u v : List Nat} {l : List (Nat × Nat × Nat)} (h : Steps p u l q v) : ∃ j, v = u.drop j ∧ q = p + j ∧ j ≤ u.length := by
  induction h with
  | nil p u => exact ⟨0, rfl, rfl, Nat.zero_le _⟩
  | @blank p u n l q v hu h r ih =>
    obtain ⟨j, h1, h2, h3⟩ := ih
    have hb := step_bound u hu 0 n h
    exact ⟨n + j, by rw [h1, List.drop_drop], by omega, by rw [List.length_drop] at h3; omega⟩
  | @tok p u k n l q v hu h r ih =>
    obtain ⟨j, h1, h2, h3⟩ := ih
    have hb := step_bound u hu (k + 1) n h
    exact ⟨n + j, by rw [h1, List.drop_drop], by omega, by rw [List.length_drop] at h3; omega⟩
theorem Steps.app {p q r : Nat} {u v w : List Nat} {l m : List (Nat × Nat × Nat)} (h : Steps p u l q v) (h2 : Steps q v m r w) : Steps p u (l ++ m) r w := by
  induction h with
  | nil p u => exact h2
  | blank hu h r ih => exact .blank hu h (ih h2)
  | tok hu h r ih => exact .tok hu h (ih h2)
def shT (d : Nat) (t : Nat × Nat × Nat) : Nat × Nat × Nat := (t.1, t.2.1 + d, t.2.2)
theorem Steps.shift (d : Nat) {p q : Nat} {u v : List Nat} {l : List (Nat × Nat × Nat)} (h : Steps p u l q v) : Steps (p + d) u (l.map (shT d)) (q + d) v := by
  induction h with
  | nil p u => exact .nil _ _
  | blank hu h r ih => exact .blank hu h (by rw [Nat.add_right_comm]; exact ih)
  | tok hu h r ih => exact .tok hu h (by rw [Nat.add_right_comm]; exact ih)
/-- A part of a text has the pieces that it has in the whole. -/
theorem Steps.swap (q z : List Nat) (hz : z = [] ∨ ∃ c z', z = c :: z' ∧ c < 128 ∧ partF c = false ∧ (c = 10 ∨ ∃ k n, q ≠ [] ∧ stepL q = .inr (k + 1, n)))
    {p r : Nat} {u v : List Nat} {l : List (Nat × Nat × Nat)} (h : Steps p u l r v) : ∀ x, u = x ++ q → v = q → r = p + x.length → Steps p (x ++ z) l r z := by
  have hpart : ∀ c, partF c = false → dgF c = false := by
    intro c hc
    rw [partF, Bool.or_eq_false_iff] at hc
    exact hc.2
  have key : ∀ (x : List Nat) (k n : Nat), x ≠ [] → stepL (x ++ q) = .inr (k, n) → n ≤ x.length → stepL (x ++ z) = .inr (k, n) := by
    intro x k n hx hs hn
    refine step_swap x q z hx k n hs hn ?_
    rcases hz with rfl | ⟨c, z', rfl, hc, hp, hq⟩
    · exact .inl rfl
    · refine .inr ⟨c, z', rfl, hc, fun e => ⟨fun _ => hp, fun _ => hpart c hp, fun hk h47 => ?_⟩⟩
      rcases hq with rfl | ⟨k', n', hq0, hq1⟩
      · rfl
      · exfalso
        subst hk
        have hl := List.length_pos_iff.2 hx
        have hlq := List.length_pos_iff.2 hq0
        have hdq : dL (x ++ q) = (47, 1) := by rw [dL_head _ (by rw [getD_left x q 0 hl]; omega), getD_left x q 0 hl, h47]
        unfold stepL at hs
        rw [hdq, getD_left x q 0 hl, h47] at hs
        by_cases c3 : slashB (x ++ q) = true
        · rw [if_neg (by simp), if_neg (by decide), if_pos c3] at hs
          cases hs
          have hst := runA_stop nlF (x ++ q).length (x ++ q) (Nat.le_refl _) (by rw [e]; simp; omega)
          rw [e, List.drop_left] at hst
          have h10 : (dL q).1 = 10 := by simpa [nlF] using hst
          have hq2 : q.getD 0 0 = 10 := by
            by_cases h0 : q.getD 0 0 < 128
            · rw [dL_head q h0] at h10
              exact h10
            · have := decN_ge q.length (q.getD 0 0) (q.getD 1 0) (q.getD 2 0) (q.getD 3 0) h0
              rw [dL] at h10
              omega
          unfold stepL at hq1
          rw [h10, hq2, if_neg (by simp), if_pos (by decide)] at hq1
          simp at hq1
        · rw [if_neg (by simp), if_neg (by decide), if_neg c3, if_neg (by decide), if_neg (by decide), if_neg (by decide)] at hs
          cases hs
  induction h with
  | nil p u =>
    intro x hu hv hr
    have : x = [] := List.eq_nil_of_length_eq_zero (by omega)
    subst this
    exact .nil _ _
  | @blank p u n l r v hu h rr ih =>
    intro x hx hv hr
    subst hx
    have hb := step_bound _ hu 0 n h
    obtain ⟨j, h1, h2, h3⟩ := rr.len
    have hn : n ≤ x.length := by omega
    have hx0 : x ≠ [] := by intro e; subst e; simp at hn; omega
    refine .blank (by simp [hx0]) (key x 0 n hx0 h hn) ?_
    rw [List.drop_append_of_le_length hn]
    exact ih (x.drop n) (by rw [List.drop_append_of_le_length hn]) hv (by rw [List.length_drop]; omega)
  | @tok p u k n l r v hu h rr ih =>
    intro x hx hv hr
    subst hx
    have hb := step_bound _ hu (k + 1) n h
    obtain ⟨j, h1, h2, h3⟩ := rr.len
    have hn : n ≤ x.length := by omega
    have hx0 : x ≠ [] := by intro e; subst e; simp at hn; omega
    refine .tok (by simp [hx0]) (key x (k + 1) n hx0 h hn) ?_
    rw [List.drop_append_of_le_length hn]
    exact ih (x.drop n) (by rw [List.drop_append_of_le_length hn]) hv (by rw [List.length_drop]; omega)

/-- The pieces of bytes from a place on; behind them the end, or a place and what is wrong there. -/
def toksL : Nat → Nat → List Nat → List (Nat × Nat × Nat) × Option (Nat × Nat)
  | 0, _, _ => ([], none)
  | f + 1, p, u => if u = [] then ([], none) else match stepL u with
    | .inl e => ([], some (p, e))
    | .inr (0, n) => toksL f (p + n) (u.drop n)
    | .inr (k + 1, n) => ((k + 1, p, n) :: (toksL f (p + n) (u.drop n)).1, (toksL f (p + n) (u.drop n)).2)
def toksA (p : Nat) (u : List Nat) : List (Nat × Nat × Nat) × Option (Nat × Nat) := toksL u.length p u
theorem toksL_more : ∀ k f p u, u.length ≤ k → k ≤ f → toksL f p u = toksL k p u := by
  intro k
  induction k with
  | zero =>
    intro f p u h hf
    have : u = [] := List.eq_nil_of_length_eq_zero (by omega)
    subst this
    cases f with
    | zero => rfl
    | succ f => simp [toksL]
  | succ k ih =>
    intro f p u h hf
    obtain ⟨f, rfl⟩ : ∃ g, f = g + 1 := ⟨f - 1, by omega⟩
    rw [toksL, toksL]
    by_cases hu : u = []
    · rw [if_pos hu, if_pos hu]
    · rw [if_neg hu, if_neg hu]
      cases hs : stepL u with
      | inl e => rfl
      | inr kn =>
        obtain ⟨k', n⟩ := kn
        have hb := step_bound u hu k' n hs
        have e := ih f (p + n) (u.drop n) (by rw [List.length_drop]; omega) (by omega)
        cases k' with
        | zero => simp only; rw [e]
        | succ k' => simp only; rw [e]
theorem toksA_nil (p : Nat) : toksA p [] = ([], none) := rfl
theorem toksA_err (p : Nat) (u : List Nat) (hu : u ≠ []) (e : Nat) (h : stepL u = .inl e) : toksA p u = ([], some (p, e)) := by
  have hl := List.length_pos_iff.2 hu
  obtain ⟨m, hm⟩ : ∃ m, u.length = m + 1 := ⟨u.length - 1, by omega⟩
  rw [toksA, hm, toksL, if_neg hu, h]
theorem toksA_blank (p : Nat) (u : List Nat) (hu : u ≠ []) (n : Nat) (h : stepL u = .inr (0, n)) : toksA p u = toksA (p + n) (u.drop n) := by
  have hl := List.length_pos_iff.2 hu
  have hb := step_bound u hu 0 n h
  obtain ⟨m, hm⟩ : ∃ m, u.length = m + 1 := ⟨u.length - 1, by omega⟩
  rw [toksA, hm, toksL, if_neg hu, h]
  exact toksL_more _ _ _ _ (Nat.le_refl _) (by rw [List.length_drop]; omega)
theorem toksA_tok (p : Nat) (u : List Nat) (hu : u ≠ []) (k n : Nat) (h : stepL u = .inr (k + 1, n)) : toksA p u = ((k + 1, p, n) :: (toksA (p + n) (u.drop n)).1, (toksA (p + n) (u.drop n)).2) := by
  have hl := List.length_pos_iff.2 hu
  have hb := step_bound u hu (k + 1) n h
  obtain ⟨m, hm⟩ : ∃ m, u.length = m + 1 := ⟨u.length - 1, by omega⟩
  rw [toksA, hm, toksL, if_neg hu, h]
  simp only
  rw [toksL_more (u.drop n).length m (p + n) (u.drop n) (Nat.le_refl _) (by rw [List.length_drop]; omega)]
  rfl
theorem Steps.toks {p q : Nat} {u v : List Nat} {l : List (Nat × Nat × Nat)} (h : Steps p u l q v) : toksA p u = (l ++ (toksA q v).1, (toksA q v).2) := by
  induction h with
  | nil p u => rfl
  | blank hu h r ih => rw [toksA_blank _ _ hu _ h, ih]
  | tok hu h r ih => rw [toksA_tok _ _ hu _ _ h, ih]; rfl
theorem Steps.toks_end {p q : Nat} {u : List Nat} {l : List (Nat × Nat × Nat)} (h : Steps p u l q []) : toksA p u = (l, none) := by rw [h.toks, toksA_nil, List.append_nil]
theorem Steps.toks_err {p q : Nat} {u v : List Nat} {l : List (Nat × Nat × Nat)} (h : Steps p u l q v) (hv : v ≠ []) (e : Nat) (he : stepL v = .inl e) : toksA p u = (l, some (q, e)) := by rw [h.toks, toksA_err q v hv e he, List.append_nil]
theorem toks_steps : ∀ k p u, u.length ≤ k → (∀ l, toksA p u = (l, none) → Steps p u l (p + u.length) []) ∧ (∀ l q e, toksA p u = (l, some (q, e)) → ∃ v, Steps p u l q v ∧ v ≠ [] ∧ stepL v = .inl e) := by
  intro k
  induction k with
  | zero =>
    intro p u h
    have : u = [] := List.eq_nil_of_length_eq_zero (by omega)
    subst this
    refine ⟨fun l h => ?_, fun l q e h => ?_⟩
    · rw [toksA_nil] at h; cases h; exact .nil _ _
    · rw [toksA_nil] at h; cases h
  | succ k ih =>
    intro p u hl
    by_cases hu : u = []
    · exact ih p u (by subst hu; simp)
    · cases hs : stepL u with
      | inl e =>
        refine ⟨fun l h => ?_, fun l q e' h => ?_⟩
        · rw [toksA_err p u hu e hs] at h; cases h
        · rw [toksA_err p u hu e hs] at h; cases h; exact ⟨u, .nil _ _, hu, hs⟩
      | inr kn =>
        obtain ⟨k', n⟩ := kn
        have hb := step_bound u hu k' n hs
        obtain ⟨i1, i2⟩ := ih (p + n) (u.drop n) (by rw [List.length_drop]; omega)
        have hpl : p + n + (u.drop n).length = p + u.length := by rw [List.length_drop]; omega
        rw [hpl] at i1
        cases k' with
        | zero =>
          refine ⟨fun l h => ?_, fun l q e h => ?_⟩
          · rw [toksA_blank p u hu n hs] at h
            exact .blank hu hs (i1 l h)
          · rw [toksA_blank p u hu n hs] at h
            obtain ⟨v, j1, j2, j3⟩ := i2 l q e h
            exact ⟨v, .blank hu hs j1, j2, j3⟩
        | succ k' =>
          refine ⟨fun l h => ?_, fun l q e h => ?_⟩
          · rw [toksA_tok p u hu k' n hs] at h
            simp only [Prod.mk.injEq] at h
            obtain ⟨rfl, h2⟩ := h
            exact .tok hu hs (i1 _ (Prod.ext rfl h2))
          · rw [toksA_tok p u hu k' n hs] at h
            simp only [Prod.mk.injEq] at h
            obtain ⟨rfl, h2⟩ := h
            obtain ⟨v, j1, j2, j3⟩ := i2 _ q e (Prod.ext rfl h2)
            exact ⟨v, .tok hu hs j1, j2, j3⟩
/-- The first piece of pieces. -/
theorem Steps.first {p q : Nat} {u v : List Nat} {l : List (Nat × Nat × Nat)} (h : Steps p u l q v) : ∀ t m, l = t :: m → ∃ w, Steps p u [] t.2.1 w ∧ w ≠ [] ∧ stepL w = .inr (t.1, t.2.2) ∧ (∃ k, t.1 = k + 1) ∧ Steps (t.2.1 + t.2.2) (w.drop t.2.2) m q v := by
  induction h with
  | nil p u => intro t m e; cases e
  | blank hu h r ih =>
    intro t m e
    obtain ⟨w, h1, h2, h3, h4, h5⟩ := ih t m e
    exact ⟨w, .blank hu h h1, h2, h3, h4, h5⟩
  | tok hu h r ih =>
    intro t m e
    cases e
    exact ⟨_, .nil _ _, hu, h, ⟨_, rfl⟩, r⟩
end Go.Proofs.YteipadogmdppgaaDoor
