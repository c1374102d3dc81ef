/- Letters, digits, keys. -/
import Derived.Test.YtabcaeckoghmpaaDoorBase
namespace Go.Proofs.YtabcaeckoghmpaaDoor
set_option linter.unusedVariables false
set_option linter.unusedSimpArgs false
open Go.RowKit Go.Proofs.YtabcaeckoghmpaaDoorW.PrintWords

def inF (r a b : Int) : Bool := decide (a ≤ r) && decide (r ≤ b)
def letterF (r : Int) : Bool := r == 95 || (!(r == 215) && (!(r == 247) && (!(r == 930) && (inF r 97 122 || (inF r 65 90 || (inF r 192 591 || inF r 913 969))))))
def digitF (r : Int) : Bool := inF r 48 57

theorem in_any (r a b : Int) (v : Bool) (w : World) (hv : Aside0 (inF r a b = v)) : Calls Tryd.prog 42 #[.int .i32 r, .int .i32 a, .int .i32 b] w fun e w' => e = .returned (.bool v) ∧ w = w' := by
  have h := hv.out
  rw [inF] at h
  by_cases h1 : a ≤ r
  · by_cases h2 : r ≤ b
    · rw [decide_eq_true h1, decide_eq_true h2] at h
      subst h
      clear hv
      go_enter Tryd.func42, Tryd.ntmps42
      go_wp2
      go_ret
      exact ⟨rfl, rfl⟩
    · rw [decide_eq_true h1, decide_eq_false h2] at h
      subst h
      clear hv
      go_enter Tryd.func42, Tryd.ntmps42
      go_wp2
      go_ret
      exact ⟨rfl, rfl⟩
  · rw [decide_eq_false h1] at h
    subst h
    clear hv
    go_enter Tryd.func42, Tryd.ntmps42
    go_wp2
    go_ret
    exact ⟨rfl, rfl⟩

theorem digit_any (r : Int) (w : World) (v : Bool) (hv : Aside0 (digitF r = v)) : Calls Tryd.prog 36 #[.int .i32 r] w fun e w' => e = .returned (.bool v) ∧ w = w' := by
  go_enter Tryd.func36, Tryd.ntmps36
  go_wp2_with fail
  refine (in_any r 48 57 v _ hv).mono ?_
  rintro e w1 ⟨rfl, rfl⟩
  go_wp2
  go_ret
  exact ⟨rfl, rfl⟩

set_option maxRecDepth 100000 in
theorem letter_any (r : Int) (w : World) (v : Bool) (hv : Aside0 (letterF r = v)) : Calls Tryd.prog 35 #[.int .i32 r] w fun e w' => e = .returned (.bool v) ∧ w = w' := by
  obtain ⟨c0, h0⟩ : ∃ b, (r == 95) = b := ⟨_, rfl⟩
  obtain ⟨c1, h1⟩ : ∃ b, (r == 215) = b := ⟨_, rfl⟩
  obtain ⟨c2, h2⟩ : ∃ b, (r == 247) = b := ⟨_, rfl⟩
  obtain ⟨c3, h3⟩ : ∃ b, (r == 930) = b := ⟨_, rfl⟩
  obtain ⟨b1, H1⟩ : ∃ b, Aside0 (inF r 97 122 = b) := ⟨_, ⟨rfl⟩⟩
  obtain ⟨b2, H2⟩ : ∃ b, Aside0 (inF r 65 90 = b) := ⟨_, ⟨rfl⟩⟩
  obtain ⟨b3, H3⟩ : ∃ b, Aside0 (inF r 192 591 = b) := ⟨_, ⟨rfl⟩⟩
  obtain ⟨b4, H4⟩ : ∃ b, Aside0 (inF r 913 969 = b) := ⟨_, ⟨rfl⟩⟩
  have h := hv.out
  rw [letterF, h0, h1, h2, h3, H1.out, H2.out, H3.out, H4.out] at h
  clear hv
  cases c0 with
  | true =>
    simp only [Bool.true_or] at h
    subst h
    go_enter Tryd.func35, Tryd.ntmps35
    go_wp2
    go_ret
    exact ⟨rfl, rfl⟩
  | false =>
    cases c1 with
    | true =>
      simp only [Bool.false_or, Bool.not_true, Bool.false_and] at h
      subst h
      go_enter Tryd.func35, Tryd.ntmps35
      go_wp2
      go_ret
      exact ⟨rfl, rfl⟩
    | false =>
      cases c2 with
      | true =>
        simp only [Bool.false_or, Bool.not_true, Bool.false_and, Bool.and_false] at h
        subst h
        go_enter Tryd.func35, Tryd.ntmps35
        go_wp2
        go_ret
        exact ⟨rfl, rfl⟩
      | false =>
        cases c3 with
        | true =>
          simp only [Bool.false_or, Bool.not_true, Bool.false_and, Bool.and_false] at h
          subst h
          go_enter Tryd.func35, Tryd.ntmps35
          go_wp2
          go_ret
          exact ⟨rfl, rfl⟩
        | false =>
          simp only [Bool.false_or, Bool.not_false, Bool.true_and] at h
          go_enter Tryd.func35, Tryd.ntmps35
          go_wp2_with fail
          refine (in_any r 97 122 b1 _ H1).mono ?_
          rintro e w1 ⟨rfl, rfl⟩
          cases b1 with
          | true => simp only [Bool.true_or] at h; subst h; go_wp2; go_ret; exact ⟨rfl, rfl⟩
          | false =>
            simp only [Bool.false_or] at h
            go_wp2_with fail
            refine (in_any r 65 90 b2 _ H2).mono ?_
            rintro e w1 ⟨rfl, rfl⟩
            cases b2 with
            | true => simp only [Bool.true_or] at h; subst h; go_wp2; go_ret; exact ⟨rfl, rfl⟩
            | false =>
              simp only [Bool.false_or] at h
              go_wp2_with fail
              refine (in_any r 192 591 b3 _ H3).mono ?_
              rintro e w1 ⟨rfl, rfl⟩
              cases b3 with
              | true => simp only [Bool.true_or] at h; subst h; go_wp2; go_ret; exact ⟨rfl, rfl⟩
              | false =>
                simp only [Bool.false_or] at h
                subst h
                go_wp2_with fail
                refine (in_any r 913 969 b4 _ H4).mono ?_
                rintro e w1 ⟨rfl, rfl⟩
                go_wp2
                go_ret
                exact ⟨rfl, rfl⟩
end Go.Proofs.YtabcaeckoghmpaaDoor
