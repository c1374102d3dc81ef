/- Plain laws of numbers in few bytes: what is put is read; what is cut, or goes on with a nought, is none. -/
import Derived.Test.YtabcaeckoghmpaaDoorVGet
namespace Go.Proofs.YtabcaeckoghmpaaDoor
set_option linter.unusedVariables false
set_option linter.unusedSimpArgs false
open Go.RowKit Go.Proofs.YtabcaeckoghmpaaDoorW.PrintWords

theorem pow_step (i : Nat) : (2 : Nat) ^ (7 * (i + 1)) = 128 * 2 ^ (7 * i) := by rw [Nat.mul_add, Nat.pow_add, Nat.mul_comm]
theorem ipow_step (i : Nat) : (2 : Int) ^ (7 * (i + 1)) = 128 * 2 ^ (7 * i) := by rw [Nat.mul_add, Int.pow_add, Int.mul_comm]; rfl
theorem room_next {v i : Nat} (h : v * 2 ^ (7 * i) < 2 ^ 64) : v / 128 * 2 ^ (7 * (i + 1)) < 2 ^ 64 := by
  refine Nat.lt_of_le_of_lt ?_ h
  rw [pow_step, ← Nat.mul_assoc]
  exact Nat.mul_le_mul_right _ (by omega)
theorem room_nine {v i : Nat} (h : v * 2 ^ (7 * i) < 2 ^ 64) (hi : 9 ≤ i) : v < 2 := by
  have h1 : 2 ^ 63 ≤ 2 ^ (7 * i) := Nat.pow_le_pow_right (by omega) (by omega)
  have h2 : v * 2 ^ 63 ≤ v * 2 ^ (7 * i) := Nat.mul_le_mul_left _ h1
  omega
theorem val_step (V : Int) (v i : Nat) : V + (v % 128 + 128 : Nat) % 128 * 2 ^ (7 * i) + (v / 128 : Nat) * 2 ^ (7 * (i + 1)) = V + v * 2 ^ (7 * i) := by
  rw [ipow_step, ← Int.mul_assoc, Int.add_assoc, ← Int.add_mul]
  congr 2
  omega

/-- What is put is read, whatever stands behind it. -/
theorem getL_enc (a : Int) (more : List Int) (m : Nat) : ∀ (v i : Nat) (V : Int), i + m = 10 → v * 2 ^ (7 * i) < 2 ^ 64 → 0 < v ∨ i = 0 →
    getL a (enc m v ++ more) i V = (V + v * 2 ^ (7 * i), a + i + (enc m v).length, 0) := by
  induction m with
  | zero =>
    intro v i V h hv hp
    have h9 := room_nine hv (by omega)
    obtain rfl : i = 10 := by omega
    omega
  | succ m ih =>
    intro v i V h hv hp
    by_cases hs : v < 128
    · rw [enc_small _ _ hs]
      simp only [List.cons_append, List.nil_append, getL, List.length_singleton]
      have h9 : ¬ (i = 9 ∧ (v : Int) > 1) := by
        rintro ⟨rfl, h1⟩
        have := room_nine hv (by omega)
        omega
      rw [if_neg h9, if_neg (by omega), if_neg (by omega)]
      simp only [Prod.mk.injEq]
      refine ⟨?_, by omega, trivial⟩
      congr 2
      omega
    · rw [enc_great _ _ hs]
      simp only [List.cons_append, getL, List.length_cons]
      have h9 : ¬ (i = 9 ∧ ((v % 128 + 128 : Nat) : Int) > 1) := by
        rintro ⟨rfl, h1⟩
        have := room_nine hv (by omega)
        omega
      rw [if_neg h9, if_pos (by omega), ih (v / 128) (i + 1) _ (by omega) (room_next hv) (.inl (by omega)), val_step]
      simp only [Prod.mk.injEq, true_and, and_true]
      omega

/-- What is cut is none. -/
theorem getL_cut (a : Int) (m : Nat) : ∀ (v i k : Nat) (V : Int), i + m = 10 → v * 2 ^ (7 * i) < 2 ^ 64 → k < (enc m v).length →
    getL a ((enc m v).take k) i V = (0, 0, 2) := by
  induction m with
  | zero => intro v i k V h hv hk; simp [enc] at hk
  | succ m ih =>
    intro v i k V h hv hk
    by_cases hs : v < 128
    · rw [enc_small _ _ hs] at hk ⊢
      obtain rfl : k = 0 := by simp at hk; omega
      simp [getL]
    · rw [enc_great _ _ hs] at hk ⊢
      cases k with
      | zero => simp [getL]
      | succ k =>
        simp only [List.take_succ_cons, getL]
        have h9 : ¬ (i = 9 ∧ ((v % 128 + 128 : Nat) : Int) > 1) := by
          rintro ⟨rfl, h1⟩
          have := room_nine hv (by omega)
          omega
        simp only [List.length_cons] at hk
        rw [if_neg h9, if_pos (by omega), ih (v / 128) (i + 1) k _ (by omega) (room_next hv) (by omega)]

/-- What goes on with a nought is none. -/
theorem getL_nought (a : Int) (more : List Int) (m : Nat) : ∀ (v i : Nat) (V : Int), i + m = 10 → v * 2 ^ (7 * i) < 2 ^ 64 → 0 < v ∨ i = 0 →
    getL a ((enc m v).set ((enc m v).length - 1) ((((enc m v).getD ((enc m v).length - 1) 0).toNat % 128 + 128 : Nat) : Int) ++ 0 :: more) i V = (0, 0, 3) := by
  induction m with
  | zero =>
    intro v i V h hv hp
    have h9 := room_nine hv (by omega)
    obtain rfl : i = 10 := by omega
    omega
  | succ m ih =>
    intro v i V h hv hp
    by_cases hs : v < 128
    · rw [enc_small _ _ hs]
      simp only [List.length_singleton, Nat.sub_self, List.set_cons_zero, List.cons_append, List.nil_append, getL, List.getD_cons_zero, Int.toNat_natCast]
      by_cases h9 : i = 9
      · rw [if_pos ⟨h9, by omega⟩]
      · rw [if_neg (by omega), if_pos (by omega), if_neg (by omega), if_neg (by omega), if_pos ⟨trivial, by omega⟩]
    · rw [enc_great _ _ hs]
      obtain ⟨n, hn⟩ : ∃ n, (enc m (v / 128)).length = n + 1 := by
        cases m with
        | zero =>
          have := room_nine hv (by omega)
          omega
        | succ m => rw [enc]; split <;> simp
      have hi := ih (v / 128) (i + 1) (V + (v % 128 + 128 : Nat) % 128 * 2 ^ (7 * i)) (by omega) (room_next hv) (.inl (by omega))
      have h9 : ¬ (i = 9 ∧ ((v % 128 + 128 : Nat) : Int) > 1) := by
        rintro ⟨rfl, h1⟩
        have := room_nine hv (by omega)
        omega
      simp only [hn, List.length_cons, Nat.add_sub_cancel, List.set_cons_succ, List.cons_append, getL, List.getD_cons_succ] at hi ⊢
      rw [if_neg h9, if_pos (by omega)]
      exact hi

theorem getF_zero (xs : List Int) : getF xs 0 = getL 0 xs 0 0 := by
  unfold getF
  rw [if_neg (by omega)]
  rfl

theorem enc_bytes (m : Nat) : ∀ v x, x ∈ enc m v → 0 ≤ x ∧ x ≤ 255 := by
  induction m with
  | zero => intro v x h; simp [enc] at h
  | succ m ih =>
    intro v x h
    rw [enc] at h
    split at h
    · simp at h; omega
    · rcases List.mem_cons.1 h with rfl | h
      · omega
      · exact ih _ _ h
theorem enc_length_pos (k v : Nat) : 0 < (enc (k + 1) v).length := by rw [enc]; split <;> simp
theorem enc_length_mono (k : Nat) : ∀ a b : Nat, a ≤ b → (enc k a).length ≤ (enc k b).length := by
  induction k with
  | zero => intro a b _; simp [enc]
  | succ k ih =>
    intro a b h
    rw [enc, enc]
    split <;> split
    · simp
    · simp
    · omega
    · simp only [List.length_cons]
      have := ih (a / 128) (b / 128) (Nat.div_le_div_right h)
      omega
theorem enc_length_one (v : Nat) (h : v < 128) : (enc 10 v).length = 1 := by rw [enc, if_pos h]; rfl

theorem enc_length_le (m : Nat) : ∀ v, (enc m v).length ≤ m := by
  induction m with
  | zero => intro v; simp [enc]
  | succ m ih =>
    intro v
    rw [enc]
    split
    · simp
    · simp only [List.length_cons]
      have := ih (v / 128)
      omega

/-- What Get tells at the place where a number was put. -/
theorem getF_enc (xs more : List Int) (v : Nat) (h : v < 2 ^ 64) : getF (xs ++ (enc 10 v ++ more)) xs.length = ((v : Int), ((xs.length + (enc 10 v).length : Nat) : Int), 0) := by
  unfold getF
  rw [if_neg (by simp only [List.length_append]; omega), Int.toNat_natCast, List.drop_left, getL_enc _ _ 10 v 0 0 (by omega) (by omega) (.inr rfl)]
  simp
end Go.Proofs.YtabcaeckoghmpaaDoor
