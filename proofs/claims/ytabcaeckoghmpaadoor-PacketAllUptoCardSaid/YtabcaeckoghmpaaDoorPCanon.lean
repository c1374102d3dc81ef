/- Plain law: a number that is read is put so. -/
import Derived.Test.YtabcaeckoghmpaaDoorVPure
namespace Go.Proofs.YtabcaeckoghmpaaDoor
set_option linter.unusedVariables false
set_option linter.unusedSimpArgs false
open Go.RowKit Go.Proofs.YtabcaeckoghmpaaDoorW.PrintWords

/-- A number that is read is put so. -/
theorem getL_canon (a : Int) : ∀ (l : List Int) (i k : Nat) (V n b : Int), (∀ x ∈ l, 0 ≤ x ∧ x ≤ 255) → i + k = 10 → 1 ≤ k → getL a l i V = (n, b, 0) →
    ∃ m : Nat, n = V + (m : Int) * 2 ^ (7 * i) ∧ (0 < m ∨ i = 0) ∧ m < 2 ^ (64 - 7 * i) ∧ b = a + i + (enc k m).length ∧ ∃ r, l = enc k m ++ r := by
  intro l
  induction l with
  | nil => intro i k V n b _ _ _ h; rw [getL] at h; simp at h
  | cons x r ih =>
    intro i k V n b hw hk hk1 h
    have hx := hw x (List.mem_cons_self ..)
    obtain ⟨y, rfl⟩ : ∃ y : Nat, x = (y : Int) := ⟨x.toNat, by omega⟩
    rw [getL] at h
    by_cases h1 : i = 9 ∧ (y : Int) > 1
    · rw [if_pos h1] at h; simp at h
    · rw [if_neg h1] at h
      have hp : (7 * (i + 1)) = 7 * i + 7 := by omega
      by_cases h2 : (y : Int) ≥ 128
      · rw [if_pos h2] at h
        have hi9 : i ≠ 9 := by omega
        rcases Nat.lt_or_ge i 9 with hi | hi
        · obtain ⟨k', rfl⟩ : ∃ k', k = k' + 1 := ⟨k - 1, by omega⟩
          obtain ⟨m, e1, e2, e3, e4, r', e5⟩ := ih (i + 1) k' _ n b (fun z hz => hw z (List.mem_cons_of_mem _ hz)) (by omega) (by omega) h
          have hm0 : 0 < m := by rcases e2 with h | h; exact h; omega
          refine ⟨(y - 128) + 128 * m, ?_, .inl (by omega), ?_, ?_, r', ?_⟩
          · rw [e1, hp, Int.pow_add, show ((2 : Int) ^ 7) = 128 by decide, show ((y : Int)) % 128 = (y : Int) - 128 by omega, Int.natCast_add, Int.add_mul, show (((y - 128 : Nat) : Nat) : Int) = (y : Int) - 128 by omega, Int.natCast_mul]
            rw [show (m : Int) * (2 ^ (7 * i) * 128) = (128 : Nat) * (m : Int) * 2 ^ (7 * i) by rw [Int.mul_comm (2 ^ (7 * i)) 128, ← Int.mul_assoc, Int.mul_comm (m : Int) 128]; rfl]
            omega
          · rw [hp] at e3
            rw [show 64 - 7 * i = (64 - (7 * i + 7)) + 7 by omega, Nat.pow_add, show 2 ^ 7 = 128 by decide]
            have hy : y ≤ 255 := by omega
            omega
          · rw [enc, if_neg (by omega), List.length_cons, show (y - 128 + 128 * m) / 128 = m by omega, e4]
            omega
          · rw [enc, if_neg (by omega), show (y - 128 + 128 * m) / 128 = m by omega, e5]
            rw [show (y - 128 + 128 * m) % 128 + 128 = y by omega]
            rfl
        · -- the tenth byte goes on: what is behind it is read as the eleventh
          exfalso
          omega
      · rw [if_neg h2] at h
        by_cases h3 : (y : Int) = 0 ∧ 0 < i
        · rw [if_pos h3] at h; simp at h
        · rw [if_neg h3] at h
          simp only [Prod.mk.injEq] at h
          obtain ⟨k', rfl⟩ : ∃ k', k = k' + 1 := ⟨k - 1, by omega⟩
          refine ⟨y, ?_, by omega, ?_, ?_, r, ?_⟩
          · rw [← h.1, show (y : Int) % 128 = (y : Int) by omega]
          · rcases Nat.lt_or_ge i 9 with hi | hi
            · have : 2 ^ 7 ≤ 2 ^ (64 - 7 * i) := Nat.pow_le_pow_right (by omega) (by omega)
              omega
            · have hi9 : i = 9 := by omega
              subst hi9
              show y < 2
              omega
          · rw [enc, if_pos (by omega), ← h.2.1]; simp
          · rw [enc, if_pos (by omega)]; rfl

theorem getF_canon (xs : List Int) (p : Nat) (n b : Int) (hp : p ≤ xs.length) (hw : ∀ x ∈ xs, 0 ≤ x ∧ x ≤ 255) (h : getF xs (p : Int) = (n, b, 0)) :
    ∃ (m : Nat) (r : List Int), n = (m : Int) ∧ m < 18446744073709551616 ∧ b = ((p + (enc 10 m).length : Nat) : Int) ∧ xs.drop p = enc 10 m ++ r := by
  rw [getF, if_neg (by omega), Int.toNat_natCast] at h
  obtain ⟨m, e1, _, e3, e4, r, e5⟩ := getL_canon (p : Int) (xs.drop p) 0 10 0 n b (fun x hx => hw x (List.mem_of_mem_drop hx)) (by omega) (by omega) h
  exact ⟨m, r, by simpa using e1, by simpa using e3, by rw [e4]; simp, e5⟩
end Go.Proofs.YtabcaeckoghmpaaDoor
