/- Plain facts on a text's runes. -/
import Derived.Test.YteipadogmdppgaaDoorLPre
namespace Go.Proofs.YteipadogmdppgaaDoor
set_option linter.unusedVariables false
set_option linter.unusedSimpArgs false
open Go.RowKit Go.Proofs.YteipadogmdppgaaDoorW.PrintWords

/-- Whether from a place on there are runes alone. -/
def validF (s : ByteArray) : Nat → Nat → Bool
  | 0, _ => true
  | k + 1, p => if p < s.size then (if (Utf8.decode s p).1 = 65533 ∧ (Utf8.decode s p).2 < 2 then false else validF s k (p + (Utf8.decode s p).2)) else true
def validG (s : ByteArray) : Bool := validF s s.size 0

theorem validF_step (s : ByteArray) (k p : Nat) (h : p < s.size) : validF s (k + 1) p = if (Utf8.decode s p).1 = 65533 ∧ (Utf8.decode s p).2 < 2 then false else validF s k (p + (Utf8.decode s p).2) := by rw [validF, if_pos h]
theorem validF_end (s : ByteArray) (k p : Nat) (h : ¬ p < s.size) : validF s k p = true := by
  cases k with
  | zero => rfl
  | succ k => rw [validF, if_neg h]

/-- The runes from a place on; none: they are not runes alone. -/
def runesF (s : ByteArray) : Nat → Nat → Option (List Nat)
  | 0, _ => some []
  | k + 1, p => if p < s.size then (if (Utf8.decode s p).1 = 65533 ∧ (Utf8.decode s p).2 < 2 then none else (runesF s k (p + (Utf8.decode s p).2)).map ((Utf8.decode s p).1 :: ·)) else some []
def runesG (s : ByteArray) : Option (List Nat) := runesF s s.size 0

theorem runesF_step (s : ByteArray) (k p : Nat) (h : p < s.size) : runesF s (k + 1) p = if (Utf8.decode s p).1 = 65533 ∧ (Utf8.decode s p).2 < 2 then none else (runesF s k (p + (Utf8.decode s p).2)).map ((Utf8.decode s p).1 :: ·) := by rw [runesF, if_pos h]
theorem runesF_end (s : ByteArray) (k p : Nat) (h : ¬ p < s.size) : runesF s k p = some [] := by
  cases k with
  | zero => rfl
  | succ k => rw [runesF, if_neg h]
theorem validF_runes (s : ByteArray) : ∀ k p, validF s k p = (runesF s k p).isSome := by
  intro k
  induction k with
  | zero => intro p; rfl
  | succ k ih =>
    intro p
    rw [validF, runesF]
    split
    · split
      · rfl
      · rw [ih, Option.isSome_map]
    · rfl
theorem validG_runes (s : ByteArray) : validG s = (runesG s).isSome := validF_runes s _ _
theorem runesF_le (s : ByteArray) : ∀ k p l, runesF s k p = some l → l.length ≤ k := by
  intro k
  induction k with
  | zero => intro p l h; simp [runesF] at h; subst h; simp
  | succ k ih =>
    intro p l h
    rw [runesF] at h
    split at h
    · split at h
      · cases h
      · obtain ⟨l', h1, rfl⟩ := Option.map_eq_some_iff.1 h
        have := ih _ _ h1
        simp only [List.length_cons]
        omega
    · cases h; simp

end Go.Proofs.YteipadogmdppgaaDoor
