/- Place: a number as one from 0 to n - 1. -/
import Derived.Test.YtmdkgbbgppiaaaaDCch
namespace Go.Proofs.Ytmdkgbbgppiaaaa
set_option linter.unusedVariables false
set_option linter.unusedSimpArgs false
open Go.RowKit Go.Proofs.YtmdkgbbgppiaaaaW.PrintWords

theorem tmod_lo (a : Int) (n : Nat) (h : 0 < n) : -(n : Int) < a.tmod n := by
  rcases Int.lt_or_le a 0 with h1 | h1
  · have h2 := Int.tmod_lt_of_pos (-a) (show (0 : Int) < n by omega)
    rw [Int.neg_tmod] at h2
    omega
  · have := Int.tmod_nonneg (n : Int) h1
    omega

theorem place_any (v : Int) (n : Nat) (w : World) (h : 0 < n) (hn : n ≤ 9223372036854775807) :
    Calls Try.prog 12 #[.int .i64 v, .int .i64 (n : Int)] w fun e w' => ∃ k : Nat, e = .returned (.int .i64 (k : Int)) ∧ k < n ∧ w = w' := by
  obtain ⟨t, ht⟩ : ∃ t, v.tmod n = t := ⟨_, rfl⟩
  have ht1 : t < n := by rw [← ht]; exact Int.tmod_lt_of_pos _ (by omega)
  have ht2 : -(n : Int) < t := by rw [← ht]; exact tmod_lo _ _ h
  have hn0 : ((n : Int) == 0) = false := by rw [beq_eq_false_iff_ne]; omega
  have hne : ¬ (n : Int) = 0 := by omega
  by_cases hneg : t < 0
  · go_enter Try.func12, Try.ntmps12
    go_wp2
    go_ret
    refine ⟨(t + n).toNat, ?_, by omega, rfl⟩
    rw [Int.toNat_of_nonneg (by omega)]
    rfl
  · go_enter Try.func12, Try.ntmps12
    go_wp2
    go_ret
    refine ⟨t.toNat, ?_, by omega, rfl⟩
    rw [Int.toNat_of_nonneg (by omega)]
    rfl

theorem place_new (v m : Int) (w : World) (h : 0 < m) (hm : m ≤ 9223372036854775807) :
    Calls Try.prog 12 #[.int .i64 v, .int .i64 m] w fun e w' => ∃ k : Nat, e = .returned (.int .i64 (k : Int)) ∧ (k : Int) < m ∧ w = w' := by
  obtain ⟨n, rfl⟩ := Int.eq_ofNat_of_zero_le (show 0 ≤ m by omega)
  exact (place_any v n w (by omega) (by omega)).mono fun _ _ ⟨k, h1, h2, h3⟩ => ⟨k, h1, by omega, h3⟩
end Go.Proofs.Ytmdkgbbgppiaaaa
