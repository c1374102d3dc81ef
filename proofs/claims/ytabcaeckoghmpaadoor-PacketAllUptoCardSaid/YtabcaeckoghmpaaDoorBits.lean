/- Plain facts on bytes and bits. -/
import Derived.Test.YtabcaeckoghmpaaDoorBase
import Derived.Laws.BitsLemmas
namespace Go.Proofs.YtabcaeckoghmpaaDoor
set_option linter.unusedVariables false
set_option linter.unusedSimpArgs false
open Go.RowKit Go.Proofs.YtabcaeckoghmpaaDoorW.PrintWords

theorem or128_fin : ∀ m : Fin 256, Go.bits .or .u8 (m.val : Int) 128 = ((m.val % 128 + 128 : Nat) : Int) := by decide +kernel
theorem or128 (n : Nat) : Go.bits .or .u8 ((n : Int) % 256) 128 = ((n % 128 + 128 : Nat) : Int) := by
  have h := or128_fin ⟨n % 256, Nat.mod_lt _ (by omega)⟩
  have e : ((n % 256 : Nat) : Int) = (n : Int) % 256 := by omega
  simp only [e] at h
  rw [h]
  congr 1
  omega

theorem or128' (x : Int) (h0 : 0 ≤ x) (h1 : x ≤ 255) : Go.bits .or .u8 x 128 = ((x.toNat % 128 + 128 : Nat) : Int) := by
  obtain ⟨n, rfl⟩ := Int.eq_ofNat_of_zero_le h0
  have := or128 n
  rw [Int.emod_eq_of_lt h0 (by omega)] at this
  rw [this, Int.toNat_natCast]

theorem wraps_u64 (n : Int) (h₀ : 0 ≤ n) (h₁ : n < 2 ^ 64) : IntKind.u64.wrap n = n := by
  have e : IntKind.u64.wrap n = n % 18446744073709551616 := by simp [IntKind.wrap, IntKind.bits, IntKind.signed]
  rw [e]
  exact Int.emod_eq_of_lt h₀ (by simpa using h₁)
theorem wraps_u32 (n : Int) (h₀ : 0 ≤ n) (h₁ : n < 2 ^ 32) : IntKind.u32.wrap n = n := by
  have e : IntKind.u32.wrap n = n % 4294967296 := by simp [IntKind.wrap, IntKind.bits, IntKind.signed]
  rw [e]
  exact Int.emod_eq_of_lt h₀ (by simpa using h₁)

theorem andNot128_fin : ∀ m : Fin 256, Go.bits .andNot .u8 (m.val : Int) 128 = ((m.val % 128 : Nat) : Int) := by decide +kernel
theorem andNot128 (x : Int) (h0 : 0 ≤ x) (h1 : x ≤ 255) : Go.bits .andNot .u8 x 128 = x % 128 := by
  obtain ⟨n, rfl⟩ := Int.eq_ofNat_of_zero_le h0
  have h := andNot128_fin ⟨n, by omega⟩
  simp only at h
  rw [h]
  omega

/-- Seven bits more. -/
theorem or_shift (V x : Int) (i : Nat) (h0 : 0 ≤ V) (hV : V < 2 ^ (7 * i)) (hx0 : 0 ≤ x) (hx : x ≤ 255) (hi : i < 9 ∨ i = 9 ∧ x ≤ 1) :
    Go.bits .or .u64 V (IntKind.u64.wrap (IntKind.u64.wrap (Go.bits .andNot .u8 x 128) * 2 ^ (7 * i))) = V + x % 128 * 2 ^ (7 * i) := by
  rw [andNot128 x hx0 hx]
  obtain ⟨p, hp⟩ : ∃ p : Nat, p = 2 ^ (7 * i) := ⟨_, rfl⟩
  have hp' : (2 : Int) ^ (7 * i) = p := by rw [hp]; simp
  have hpos : 0 < p := by rw [hp]; exact Nat.two_pow_pos _
  have hx7 : 0 ≤ x % 128 ∧ x % 128 < 128 := by omega
  obtain ⟨n, rfl⟩ := Int.eq_ofNat_of_zero_le h0
  obtain ⟨y, hy⟩ := Int.eq_ofNat_of_zero_le hx7.1
  rw [hp'] at hV ⊢
  rw [hy]
  have hy128 : y < 128 := by omega
  have hn : n < p := by omega
  have hprod : y * p < 2 ^ 64 ∧ p ≤ 2 ^ 63 := by
    rcases hi with hi | ⟨rfl, hx1⟩
    · have : p ≤ 2 ^ 56 := by rw [hp]; exact Nat.pow_le_pow_right (by omega) (by omega)
      have h2 : y * p ≤ 127 * 2 ^ 56 := Nat.mul_le_mul (by omega) this
      omega
    · have h1 : y ≤ 1 := by omega
      have h2 : y * p ≤ 1 * p := Nat.mul_le_mul_right _ h1
      rw [hp] at h2 ⊢
      omega
  rw [wraps_u64 (y : Int) (by omega) (by omega)]
  have hc : (y : Int) * (p : Int) = ((y * p : Nat) : Int) := by simp
  rw [hc, wraps_u64 _ (by omega) (by omega), (bits_nat .u64 64 (by decide) wraps_u64 n (y * p) (by omega) hprod.1).2]
  have h3 := Nat.two_pow_add_eq_or_of_lt (i := 7 * i) (b := n) (by rw [← hp]; exact hn) y
  rw [← hp, Nat.mul_comm p y] at h3
  rw [Nat.or_comm, ← h3]
  omega
end Go.Proofs.YtabcaeckoghmpaaDoor
