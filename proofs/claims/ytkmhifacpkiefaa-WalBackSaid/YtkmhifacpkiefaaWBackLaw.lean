/- WalBack, every input. -/
import Derived.Test.YtkmhifacpkiefaaWBack
import Derived.Test.YtkmhifacpkiefaaWRowsIn
namespace Go.Proofs.Ytkmhifacpkiefaa
set_option linter.unusedVariables false
set_option linter.unusedSimpArgs false
open Go.RowKit Go.Proofs.YtkmhifacpkiefaaW.PrintWords
theorem back_law (A : Option Addr) (n c : Nat) (ts : List (List Int)) (w : World) (hr : RowsRd w A ts) (hn : n = ts.length) (hw : ∀ t ∈ ts, ∀ x ∈ t, 0 ≤ x ∧ x ≤ 255) :
    Calls Try.prog 8 #[.slice A n c] w fun e w' => e = .returned (.bool true) ∧ Below w.heap.size w w' := by
  by_cases h : Small ts
  · exact back_walk A n c ts w hr hn h hw
  · exact back_out A n c ts w hr hn h
end Go.Proofs.Ytkmhifacpkiefaa
