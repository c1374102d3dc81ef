/- vint.Zig, Zag, Len. -/
import Derived.Test.YtachnjiielfddaaVGet
import Derived.Lib.Zigzag
namespace Go.Proofs.Ytachnjiielfddaa
set_option linter.unusedVariables false
set_option linter.unusedSimpArgs false
open Go.RowKit Go.Proofs.YtachnjiielfddaaW.PrintWords

def zigF (n : Int) : Int := if 0 ≤ n then 2 * n else -2 * n - 1
def zagF (v : Int) : Int := if v % 2 = 0 then v / 2 else -(v / 2) - 1

theorem zig_eq (n : Int) (h0 : -9223372036854775808 ≤ n) (h1 : n ≤ 9223372036854775807) :
    Go.bits .xor .u64 (IntKind.u64.wrap (IntKind.u64.wrap n * 2)) (IntKind.u64.wrap (n / 9223372036854775808)) = zigF n := by
  unfold zigF
  split
  · have e1 : n / 9223372036854775808 = 0 := by omega
    rw [e1]
    have e2 : IntKind.u64.wrap (IntKind.u64.wrap n * 2) = (((2 * n).toNat : Nat) : Int) := by
      rw [IntKind.wrap_u64, IntKind.wrap_u64]
      omega
    have e3 : IntKind.u64.wrap 0 = ((0 : Nat) : Int) := by rw [IntKind.wrap_u64]; rfl
    rw [e2, e3, bits_xor_u64_nat _ _ (by omega) (by omega), Nat.xor_zero]
    omega
  · have e1 : n / 9223372036854775808 = -1 := by omega
    have e2 : IntKind.u64.wrap (IntKind.u64.wrap n * 2) = (((2 * n + 18446744073709551616).toNat : Nat) : Int) := by
      rw [IntKind.wrap_u64, IntKind.wrap_u64]
      omega
    have e3 : IntKind.u64.wrap (-1) = ((2 ^ 64 - 1 : Nat) : Int) := by rw [IntKind.wrap_u64]; rfl
    rw [e1, e2, e3, bits_xor_u64_nat _ _ (by omega) (by decide), Nat.xor_comm, Lib.xor_ones64 _ (by omega)]
    omega

theorem zag_eq (n : Int) (h0 : 0 ≤ n) (h1 : n < 18446744073709551616) :
    Go.bits .xor .i64 (wrap64 (n / 2)) (wrap64 (-wrap64 (Go.bits .and .u64 n 1))) = zagF n := by
  rw [Lib.u64_and1 n h0 h1]
  obtain ⟨q, hq⟩ := Int.eq_ofNat_of_zero_le (show 0 ≤ n / 2 by omega)
  have e1 : wrap64 (n / 2) = (q : Int) := by unfold wrap64; omega
  have e2 : wrap64 (n % 2) = n % 2 := by unfold wrap64; omega
  rw [e1, e2]
  unfold zagF
  split
  · rename_i h
    rw [h]
    have e3 : wrap64 (-0) = ((0 : Nat) : Int) := by unfold wrap64; omega
    rw [e3]
    show IntKind.i64.wrap ((BitVec.ofInt 64 (q : Int) ^^^ BitVec.ofInt 64 ((0 : Nat) : Int)).toNat : Int) = _
    have h2 : (BitVec.ofInt 64 (q : Int)).toNat = q := by
      rw [BitVec.ofInt_natCast, BitVec.toNat_ofNat]; exact Nat.mod_eq_of_lt (by omega)
    have h3 : (BitVec.ofInt 64 ((0 : Nat) : Int)).toNat = 0 := by decide
    rw [BitVec.toNat_xor, h2, h3, Nat.xor_zero, IntKind.wrap_i64]
    omega
  · rename_i h
    have h' : n % 2 = 1 := by omega
    rw [h']
    have e3 : wrap64 (-1) = -1 := by unfold wrap64; omega
    rw [e3]
    show IntKind.i64.wrap ((BitVec.ofInt 64 (q : Int) ^^^ BitVec.ofInt 64 (-1)).toNat : Int) = _
    rw [BitVec.xor_comm]
    have := Lib.i64_not q (by omega)
    rw [show (Go.bits .xor .i64 (-1) (q : Int)) = IntKind.i64.wrap ((BitVec.ofInt 64 (-1) ^^^ BitVec.ofInt 64 (q : Int)).toNat : Int) from rfl] at this
    rw [this]
    omega

theorem vzig_any (n : Int) (w : World) (h0 : -9223372036854775808 ≤ n) (h1 : n ≤ 9223372036854775807) :
    Calls Try.prog 10 #[.int .i64 n] w fun e w' => e = .returned (.int .u64 (zigF n)) ∧ w = w' := by
  have H0 := Aside0.mk (zig_eq n h0 h1)
  clear h0 h1
  go_enter Try.func10, Try.ntmps10
  go_wp2
  go_ret
  rw [← H0.out]
  exact ⟨rfl, rfl⟩

theorem vzag_any (n : Int) (w : World) (h0 : 0 ≤ n) (h1 : n < 18446744073709551616) :
    Calls Try.prog 16 #[.int .u64 n] w fun e w' => e = .returned (.int .i64 (zagF n)) ∧ w = w' := by
  have H0 := Aside0.mk (zag_eq n h0 h1)
  clear h0 h1
  go_enter Try.func16, Try.ntmps16
  go_wp2
  go_ret
  rw [← H0.out]
  exact ⟨rfl, rfl⟩

theorem vlen_any (v : Nat) (w : World) (h1 : v < 18446744073709551616) :
    Calls Try.prog 9 #[.int .u64 v] w fun e w' => e = .returned (.int .i64 (enc 10 v).length) ∧ Below w.heap.size w w' := by
  have H1 := Aside0.mk h1
  clear h1
  go_enter Try.func9, Try.ntmps9
  go_wp2_with (go_at_call 12; go_must (refine (vput_any none 0 [] v _ ⟨rfl, by decide, fun h => absurd h (by decide)⟩ (by decide) H1.out (by decide)).mono ?_); rintro e w' ⟨v', rfl, ho, hb⟩; obtain ⟨A, c, rfl, hr⟩ := own_reads ho)
  go_ret
  exact ⟨rfl, hb⟩

/-- The same, at an Int, the length under a name of its own. -/
theorem vlen_new (v : Int) (w : World) (h0 : 0 ≤ v) (h1 : v < 18446744073709551616) :
    Calls Try.prog 9 #[.int .u64 v] w fun e w' => ∃ n : Nat, e = .returned (.int .i64 n) ∧ Aside0 (n = (enc 10 v.toNat).length) ∧ Aside0 (Below w.heap.size w w') := by
  obtain ⟨m, rfl⟩ := Int.eq_ofNat_of_zero_le h0
  exact (vlen_any m w (by omega)).mono fun _ _ ⟨h2, h3⟩ => ⟨_, h2, ⟨by rw [Int.toNat_natCast]⟩, ⟨h3⟩⟩

theorem vzig_new (n : Int) (w : World) (h0 : -9223372036854775808 ≤ n) (h1 : n ≤ 9223372036854775807) :
    Calls Try.prog 10 #[.int .i64 n] w fun e w' => ∃ z : Int, e = .returned (.int .u64 z) ∧ Aside0 (z = zigF n) ∧ w = w' :=
  (vzig_any n w h0 h1).mono fun _ _ ⟨h2, h3⟩ => ⟨_, h2, ⟨rfl⟩, h3⟩
theorem vzag_new (n : Int) (w : World) (h0 : 0 ≤ n) (h1 : n < 18446744073709551616) :
    Calls Try.prog 16 #[.int .u64 n] w fun e w' => ∃ z : Int, e = .returned (.int .i64 z) ∧ Aside0 (z = zagF n) ∧ w = w' :=
  (vzag_any n w h0 h1).mono fun _ _ ⟨h2, h3⟩ => ⟨_, h2, ⟨rfl⟩, h3⟩
end Go.Proofs.Ytachnjiielfddaa
