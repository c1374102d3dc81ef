/- wal.sums, may, Size. -/
import Derived.Test.YtkmhifacpkiefaaVLen
import Derived.Test.YtkmhifacpkiefaaVPure
import Derived.Test.YtkmhifacpkiefaaCOf
namespace Go.Proofs.Ytkmhifacpkiefaa
set_option linter.unusedVariables false
set_option linter.unusedSimpArgs false
open Go.RowKit Go.Proofs.YtkmhifacpkiefaaW.PrintWords

/-- A sum's four bytes, the lowest first. -/
def low4 (s : Nat) : List Int := [((s % 256 : Nat) : Int), ((s / 256 % 256 : Nat) : Int), ((s / 65536 % 256 : Nat) : Int), ((s / 16777216 % 256 : Nat) : Int)]

theorem sums_new (s : Int) (w : World) (h0 : 0 ≤ s) (h1 : s < 4294967296) :
    Calls Try.prog 20 #[.int .u32 s] w fun e w' => ∃ v' : Value, e = .returned v' ∧ Aside0 (w'.ownsRow w.heap.size 5 1 v' 4 (nums .u8 (low4 s.toNat))) ∧ Aside0 (Below w.heap.size w w') := by
  obtain ⟨n, rfl⟩ := Int.eq_ofNat_of_zero_le h0
  rw [Int.toNat_natCast]
  have H1 := Aside0.mk h1
  clear h0 h1
  go_enter Try.func20, Try.ntmps20
  go_wp2
  go_ret
  have e : low4 n = [(n : Int) % 256, (n : Int) / 256 % 256, (n : Int) / 65536 % 256, (n : Int) / 16777216 % 256] := by simp [low4]
  rw [e]
  exact ⟨_, rfl, ⟨own_lit w w.heap.size 5 .u8 [(n : Int) % 256, (n : Int) / 256 % 256, (n : Int) / 65536 % 256, (n : Int) / 16777216 % 256] (Nat.le_refl _) (by simp)⟩, ⟨(Below.refl _ _).alloc (Nat.le_refl _) _⟩⟩

theorem may_yes (n : Int) (w : World) (h0 : 1 ≤ n) (h1 : n ≤ 16384) : Calls Try.prog 23 #[.int .i64 n] w fun e w' => e = .returned (.bool true) ∧ w = w' := by
  go_enter Try.func23, Try.ntmps23
  go_wp2
  go_ret
  exact ⟨rfl, rfl⟩
theorem may_no (n : Int) (w : World) (h0 : n < 1 ∨ 16384 < n) : Calls Try.prog 23 #[.int .i64 n] w fun e w' => e = .returned (.bool false) ∧ w = w' := by
  by_cases h : n < 1
  · go_enter Try.func23, Try.ntmps23
    go_wp2
    go_ret
    exact ⟨rfl, rfl⟩
  · have h2 : 16384 < n := by omega
    have h3 : ¬ n ≤ 16384 := by omega
    go_enter Try.func23, Try.ntmps23
    go_wp2
    go_ret
    exact ⟨rfl, rfl⟩
end Go.Proofs.Ytkmhifacpkiefaa
