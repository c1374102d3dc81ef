/- Keys: the code's and the reference's. -/
import Derived.Test.YtabcaeckoghmpaaDoorBase
namespace Go.Proofs.YtabcaeckoghmpaaDoor
set_option linter.unusedVariables false
set_option linter.unusedSimpArgs false
open Go.RowKit Go.Proofs.YtabcaeckoghmpaaDoorW.PrintWords

/-- A word of the language's. -/
def keyF (s : ByteArray) : Bool := s.toList == [115, 99, 104, 101, 109, 97] || (s.toList == [109, 101, 115, 115, 97, 103, 101] || (s.toList == [101, 110, 117, 109] || (s.toList == [99, 97, 108, 108] || (s.toList == [114, 101, 116, 117, 114, 110, 115] || (s.toList == [114, 101, 115, 101, 114, 118, 101, 100] || (s.toList == [111, 112, 116, 105, 111, 110, 97, 108] || (s.toList == [114, 101, 112, 101, 97, 116, 101, 100] || (s.toList == [105, 110, 116, 51, 50] || (s.toList == [105, 110, 116, 54, 52] || (s.toList == [98, 111, 111, 108] || (s.toList == [116, 101, 120, 116] || (s.toList == [98, 121, 116, 101, 115]))))))))))))

set_option maxRecDepth 100000 in
set_option maxHeartbeats 4000000 in
theorem key_any (s : ByteArray) (w : World) (v : Bool) (hv : Aside0 (keyF s = v)) : Calls Tryd.prog 34 #[.string s] w fun e w' => e = .returned (.bool v) ∧ w = w' := by
  have hv' := hv.out
  rw [keyF] at hv'
  clear hv
  cases k0 : s.toList == [115, 99, 104, 101, 109, 97]
  case true =>
    rw [k0, Bool.true_or] at hv'
    subst hv'
    go_enter Tryd.func34, Tryd.ntmps34
    go_wp2
    go_ret
    exact ⟨rfl, rfl⟩
  rw [k0, Bool.false_or] at hv'
  cases k1 : s.toList == [109, 101, 115, 115, 97, 103, 101]
  case true =>
    rw [k1, Bool.true_or] at hv'
    subst hv'
    go_enter Tryd.func34, Tryd.ntmps34
    go_wp2
    go_ret
    exact ⟨rfl, rfl⟩
  rw [k1, Bool.false_or] at hv'
  cases k2 : s.toList == [101, 110, 117, 109]
  case true =>
    rw [k2, Bool.true_or] at hv'
    subst hv'
    go_enter Tryd.func34, Tryd.ntmps34
    go_wp2
    go_ret
    exact ⟨rfl, rfl⟩
  rw [k2, Bool.false_or] at hv'
  cases k3 : s.toList == [99, 97, 108, 108]
  case true =>
    rw [k3, Bool.true_or] at hv'
    subst hv'
    go_enter Tryd.func34, Tryd.ntmps34
    go_wp2
    go_ret
    exact ⟨rfl, rfl⟩
  rw [k3, Bool.false_or] at hv'
  cases k4 : s.toList == [114, 101, 116, 117, 114, 110, 115]
  case true =>
    rw [k4, Bool.true_or] at hv'
    subst hv'
    go_enter Tryd.func34, Tryd.ntmps34
    go_wp2
    go_ret
    exact ⟨rfl, rfl⟩
  rw [k4, Bool.false_or] at hv'
  cases k5 : s.toList == [114, 101, 115, 101, 114, 118, 101, 100]
  case true =>
    rw [k5, Bool.true_or] at hv'
    subst hv'
    go_enter Tryd.func34, Tryd.ntmps34
    go_wp2
    go_ret
    exact ⟨rfl, rfl⟩
  rw [k5, Bool.false_or] at hv'
  cases k6 : s.toList == [111, 112, 116, 105, 111, 110, 97, 108]
  case true =>
    rw [k6, Bool.true_or] at hv'
    subst hv'
    go_enter Tryd.func34, Tryd.ntmps34
    go_wp2
    go_ret
    exact ⟨rfl, rfl⟩
  rw [k6, Bool.false_or] at hv'
  cases k7 : s.toList == [114, 101, 112, 101, 97, 116, 101, 100]
  case true =>
    rw [k7, Bool.true_or] at hv'
    subst hv'
    go_enter Tryd.func34, Tryd.ntmps34
    go_wp2
    go_ret
    exact ⟨rfl, rfl⟩
  rw [k7, Bool.false_or] at hv'
  cases k8 : s.toList == [105, 110, 116, 51, 50]
  case true =>
    rw [k8, Bool.true_or] at hv'
    subst hv'
    go_enter Tryd.func34, Tryd.ntmps34
    go_wp2
    go_ret
    exact ⟨rfl, rfl⟩
  rw [k8, Bool.false_or] at hv'
  cases k9 : s.toList == [105, 110, 116, 54, 52]
  case true =>
    rw [k9, Bool.true_or] at hv'
    subst hv'
    go_enter Tryd.func34, Tryd.ntmps34
    go_wp2
    go_ret
    exact ⟨rfl, rfl⟩
  rw [k9, Bool.false_or] at hv'
  cases k10 : s.toList == [98, 111, 111, 108]
  case true =>
    rw [k10, Bool.true_or] at hv'
    subst hv'
    go_enter Tryd.func34, Tryd.ntmps34
    go_wp2
    go_ret
    exact ⟨rfl, rfl⟩
  rw [k10, Bool.false_or] at hv'
  cases k11 : s.toList == [116, 101, 120, 116]
  case true =>
    rw [k11, Bool.true_or] at hv'
    subst hv'
    go_enter Tryd.func34, Tryd.ntmps34
    go_wp2
    go_ret
    exact ⟨rfl, rfl⟩
  rw [k11, Bool.false_or] at hv'
  cases k12 : s.toList == [98, 121, 116, 101, 115]
  case true =>
    rw [k12] at hv'
    subst hv'
    go_enter Tryd.func34, Tryd.ntmps34
    go_wp2
    go_ret
    exact ⟨rfl, rfl⟩
  rw [k12] at hv'
  subst hv'
  go_enter Tryd.func34, Tryd.ntmps34
  go_wp2
  go_ret
  exact ⟨rfl, rfl⟩

set_option maxRecDepth 100000 in
set_option maxHeartbeats 4000000 in
theorem rkey_any (s : ByteArray) (w : World) (v : Bool) (hv : Aside0 (keyF s = v)) : Calls Tryd.prog 39 #[.string s] w fun e w' => e = .returned (.bool v) ∧ w = w' := by
  have hv' := hv.out
  rw [keyF] at hv'
  clear hv
  cases k0 : s.toList == [115, 99, 104, 101, 109, 97]
  case true =>
    rw [k0, Bool.true_or] at hv'
    subst hv'
    go_enter Tryd.func39, Tryd.ntmps39
    go_wp2
    go_ret
    exact ⟨rfl, rfl⟩
  rw [k0, Bool.false_or] at hv'
  cases k1 : s.toList == [109, 101, 115, 115, 97, 103, 101]
  case true =>
    rw [k1, Bool.true_or] at hv'
    subst hv'
    go_enter Tryd.func39, Tryd.ntmps39
    go_wp2
    go_ret
    exact ⟨rfl, rfl⟩
  rw [k1, Bool.false_or] at hv'
  cases k2 : s.toList == [101, 110, 117, 109]
  case true =>
    rw [k2, Bool.true_or] at hv'
    subst hv'
    go_enter Tryd.func39, Tryd.ntmps39
    go_wp2
    go_ret
    exact ⟨rfl, rfl⟩
  rw [k2, Bool.false_or] at hv'
  cases k3 : s.toList == [99, 97, 108, 108]
  case true =>
    rw [k3, Bool.true_or] at hv'
    subst hv'
    go_enter Tryd.func39, Tryd.ntmps39
    go_wp2
    go_ret
    exact ⟨rfl, rfl⟩
  rw [k3, Bool.false_or] at hv'
  cases k4 : s.toList == [114, 101, 116, 117, 114, 110, 115]
  case true =>
    rw [k4, Bool.true_or] at hv'
    subst hv'
    go_enter Tryd.func39, Tryd.ntmps39
    go_wp2
    go_ret
    exact ⟨rfl, rfl⟩
  rw [k4, Bool.false_or] at hv'
  cases k5 : s.toList == [114, 101, 115, 101, 114, 118, 101, 100]
  case true =>
    rw [k5, Bool.true_or] at hv'
    subst hv'
    go_enter Tryd.func39, Tryd.ntmps39
    go_wp2
    go_ret
    exact ⟨rfl, rfl⟩
  rw [k5, Bool.false_or] at hv'
  cases k6 : s.toList == [111, 112, 116, 105, 111, 110, 97, 108]
  case true =>
    rw [k6, Bool.true_or] at hv'
    subst hv'
    go_enter Tryd.func39, Tryd.ntmps39
    go_wp2
    go_ret
    exact ⟨rfl, rfl⟩
  rw [k6, Bool.false_or] at hv'
  cases k7 : s.toList == [114, 101, 112, 101, 97, 116, 101, 100]
  case true =>
    rw [k7, Bool.true_or] at hv'
    subst hv'
    go_enter Tryd.func39, Tryd.ntmps39
    go_wp2
    go_ret
    exact ⟨rfl, rfl⟩
  rw [k7, Bool.false_or] at hv'
  cases k8 : s.toList == [105, 110, 116, 51, 50]
  case true =>
    rw [k8, Bool.true_or] at hv'
    subst hv'
    go_enter Tryd.func39, Tryd.ntmps39
    go_wp2
    go_ret
    exact ⟨rfl, rfl⟩
  rw [k8, Bool.false_or] at hv'
  cases k9 : s.toList == [105, 110, 116, 54, 52]
  case true =>
    rw [k9, Bool.true_or] at hv'
    subst hv'
    go_enter Tryd.func39, Tryd.ntmps39
    go_wp2
    go_ret
    exact ⟨rfl, rfl⟩
  rw [k9, Bool.false_or] at hv'
  cases k10 : s.toList == [98, 111, 111, 108]
  case true =>
    rw [k10, Bool.true_or] at hv'
    subst hv'
    go_enter Tryd.func39, Tryd.ntmps39
    go_wp2
    go_ret
    exact ⟨rfl, rfl⟩
  rw [k10, Bool.false_or] at hv'
  cases k11 : s.toList == [116, 101, 120, 116]
  case true =>
    rw [k11, Bool.true_or] at hv'
    subst hv'
    go_enter Tryd.func39, Tryd.ntmps39
    go_wp2
    go_ret
    exact ⟨rfl, rfl⟩
  rw [k11, Bool.false_or] at hv'
  cases k12 : s.toList == [98, 121, 116, 101, 115]
  case true =>
    rw [k12] at hv'
    subst hv'
    go_enter Tryd.func39, Tryd.ntmps39
    go_wp2
    go_ret
    exact ⟨rfl, rfl⟩
  rw [k12] at hv'
  subst hv'
  go_enter Tryd.func39, Tryd.ntmps39
  go_wp2
  go_ret
  exact ⟨rfl, rfl⟩
end Go.Proofs.YtabcaeckoghmpaaDoor
