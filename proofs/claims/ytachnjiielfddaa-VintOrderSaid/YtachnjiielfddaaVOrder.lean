/- The law VintOrder's walk. -/
import Derived.Test.YtachnjiielfddaaVAwake
import Derived.Test.YtachnjiielfddaaVPure
namespace Go.Proofs.Ytachnjiielfddaa
set_option linter.unusedVariables false
set_option linter.unusedSimpArgs false
open Go.RowKit Go.Proofs.YtachnjiielfddaaW.PrintWords

theorem and63 (n : Int) : Go.bits .and .i64 n 63 = n % 64 := by
  show IntKind.i64.wrap ((BitVec.ofInt 64 n &&& BitVec.ofInt 64 63).toNat : Int) = _
  have h2 : (BitVec.ofInt 64 63).toNat = 2 ^ 6 - 1 := by decide
  rw [BitVec.toNat_and, h2, Nat.and_two_pow_sub_one_eq_mod, IntKind.wrap_i64]
  have h3 : ((BitVec.ofInt 64 n).toNat : Int) = n % 18446744073709551616 := by
    rw [BitVec.toNat_ofInt]
    simp only [Nat.reducePow]
    omega
  have h4 : (((BitVec.ofInt 64 n).toNat % 2 ^ 6 : Nat) : Int) = n % 64 := by omega
  rw [h4]
  omega

theorem order_from (a0 a1 a2 : Int) (w : World) (s0 s1 : Int) (p0 : 0 ≤ s0) (p1 : s0 < 18446744073709551616) (p2 : 0 ≤ s1) (p3 : s1 < 18446744073709551616) (ple : s0 ≤ s1) (hsw : (a1 < a0 ∧ s0 = a1 ∧ s1 = a0) ∨ (¬ a1 < a0 ∧ s0 = a0 ∧ s1 = a1)) :
    Calls Try.prog 3 #[.int .u64 a0, .int .u64 a1, .int .i64 a2] w fun e w' => e = .returned (.bool true) ∧ Below w.heap.size w w' := by
  have hk := Aside0.mk (and63 a2)
  obtain ⟨k, hk1⟩ : ∃ k, Go.bits .and .i64 a2 63 = k := ⟨_, rfl⟩
  have hb0 : 0 ≤ k := by rw [← hk1, hk.out]; omega
  have hb1 : k ≤ 63 := by rw [← hk1, hk.out]; omega
  have P0 := Aside0.mk p0; have P1 := Aside0.mk p1; have P2 := Aside0.mk p2; have P3 := Aside0.mk p3
  clear hk p0 p1 p2 p3
  rcases hsw with ⟨hlt, rfl, rfl⟩ | ⟨hlt, rfl, rfl⟩
  all_goals
    go_enter Try.func3, Try.ntmps3
    go_wp2_with fail
    refine (vlen_new _ _ P0.out P1.out).mono ?_
    rintro e w1 ⟨n0, rfl, hn0, hB1⟩
    go_wp2_with fail
    refine (vlen_new _ _ P2.out P3.out).mono ?_
    rintro e w2 ⟨n1, rfl, hn1, hB2⟩
    have hle : n0 ≤ n1 := by
      rw [hn0.out, hn1.out]
      exact enc_length_mono _ _ _ (Int.toNat_le_toNat ple)
    have hle' : decide (n0 ≤ n1) = true := decide_eq_true hle
    go_wp2_with fail
    refine (vzig_new k _ (by omega) (by omega)).mono ?_
    rintro e w3 ⟨z, rfl, hz, rfl⟩
    have hz1 : z = 2 * k := by rw [hz.out, zigF, if_pos hb0]
    have hz2 : 0 ≤ z ∧ z < 128 := by omega
    have hz3 := hz2.1; have hz4 := hz2.2
    clear hz1 hz2
    go_wp2_with fail
    refine (vlen_new z _ hz3 (by omega)).mono ?_
    rintro e w3 ⟨n2, rfl, hn2, hB3⟩
    have hn2' : ((n2 : Int) == 1) = true := by
      rw [beq_iff_eq, hn2.out, enc_length_one _ (by omega)]; rfl
    go_wp2_with fail
    refine (vzig_new (-k) _ (by omega) (by omega)).mono ?_
    rintro e w4 ⟨z1, rfl, hz1, rfl⟩
    have hz5 : 0 ≤ z1 ∧ z1 < 128 := by rw [hz1.out, zigF]; split <;> omega
    have hz6 := hz5.1; have hz7 := hz5.2
    clear hz5
    go_wp2_with fail
    refine (vlen_new z1 _ hz6 (by omega)).mono ?_
    rintro e w4 ⟨n3, rfl, hn3, hB4⟩
    have hn3' : ((n3 : Int) == 1) = true := by
      rw [beq_iff_eq, hn3.out, enc_length_one _ (by omega)]; rfl
    go_wp2_with fail
    refine (vzig_new (-k - 1) _ (by omega) (by omega)).mono ?_
    rintro e w5 ⟨z2, rfl, hz2, rfl⟩
    have hz8 : 0 ≤ z2 ∧ z2 < 128 := by rw [hz2.out, zigF]; split <;> omega
    have hz9 := hz8.1; have hz10 := hz8.2
    clear hz8
    go_wp2_with fail
    refine (vlen_new z2 _ hz9 (by omega)).mono ?_
    rintro e w5 ⟨n4, rfl, hn4, hB5⟩
    have hn4' : ((n4 : Int) == 1) = true := by
      rw [beq_iff_eq, hn4.out, enc_length_one _ (by omega)]; rfl
    go_wp2_with fail
    refine (awake_any _).mono ?_
    rintro e w6 ⟨rfl, hB6⟩
    have HB6 := Aside0.mk hB6
    clear hB6
    go_wp2
    go_ret
    refine ⟨rfl, ?_⟩
    have c1 := hB1.out.trans (hB2.out.mono hB1.out.size)
    have c2 := c1.trans (hB3.out.mono c1.size)
    have c3 := c2.trans (hB4.out.mono c2.size)
    have c4 := c3.trans (hB5.out.mono c3.size)
    exact c4.trans (HB6.out.mono c4.size)

theorem order_walk (a0 a1 a2 : Int) (w : World) (h0 : 0 ≤ a0 ∧ a0 ≤ 18446744073709551615) (h1 : 0 ≤ a1 ∧ a1 ≤ 18446744073709551615) (_ : -9223372036854775808 ≤ a2 ∧ a2 ≤ 9223372036854775807) :
    Calls Try.prog 3 #[.int .u64 a0, .int .u64 a1, .int .i64 a2] w fun e w' => e = .returned (.bool true) ∧ Below w.heap.size w w' := by
  by_cases h : a1 < a0
  · exact order_from a0 a1 a2 w a1 a0 h1.1 (by omega) h0.1 (by omega) (by omega) (.inl ⟨h, rfl, rfl⟩)
  · exact order_from a0 a1 a2 w a0 a1 h0.1 (by omega) h1.1 (by omega) (by omega) (.inr ⟨h, rfl, rfl⟩)
end Go.Proofs.Ytachnjiielfddaa
