/- Plain facts on runes. -/
import Derived.Test.YteipadogmdppgaaDoorRNext
import Derived.Test.YteipadogmdppgaaDoorRRefNext
namespace Go.Proofs.YteipadogmdppgaaDoor
set_option linter.unusedVariables false
set_option linter.unusedSimpArgs false
open Go.RowKit Go.Proofs.YteipadogmdppgaaDoorW.PrintWords

theorem dec_pos (s : ByteArray) (p : Nat) (h : p < s.size) : 1 ≤ (Utf8.decode s p).2 := by
  rw [Lib.decode_at]
  unfold Lib.decodeN
  repeat' split
  all_goals simp
theorem dec_le (s : ByteArray) (p : Nat) (h : p < s.size) : p + (Utf8.decode s p).2 ≤ s.size ∧ (Utf8.decode s p).2 ≤ 4 ∧ (Utf8.decode s p).1 ≤ 1114111 := by
  rw [Lib.decode_at]
  have h0 := (s.get! p).toNat_lt
  unfold Lib.decodeN
  repeat' split
  all_goals simp only
  all_goals omega

theorem iter_pos {w : World} {k : Nat} {s : ByteArray} {p : Nat} (h : w.heap[k]? = some (.stringIter s p)) : w.iterPos k = p := by simp [World.iterPos, h]
theorem tabs_iter {w : World} {s : ByteArray} {p : Nat} (h : Tabs w) : Tabs (w.iter s p) := tabs_below h ((Below.refl _ _).alloc (Nat.le_refl _) _)

end Go.Proofs.YteipadogmdppgaaDoor
