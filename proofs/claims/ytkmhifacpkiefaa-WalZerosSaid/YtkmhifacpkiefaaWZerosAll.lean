/- WalZeros, every input. -/
import Derived.Test.YtkmhifacpkiefaaWZerosLaw
import Derived.Test.YtkmhifacpkiefaaWRowsIn
namespace Go.Proofs.Ytkmhifacpkiefaa
set_option linter.unusedVariables false
set_option linter.unusedSimpArgs false
open Go.RowKit Go.Proofs.YtkmhifacpkiefaaW.PrintWords
theorem zeros_law (A : Option Addr) (n c : Nat) (ts : List (List Int)) (a1 : Int) (A2 : Option Addr) (n2 c2 : Nat) (us : List (List Int)) (w : World) (hr : RowsRd w A ts) (hn : n = ts.length) (hw : ∀ t ∈ ts, ∀ x ∈ t, 0 ≤ x ∧ x ≤ 255)
    (ha : -9223372036854775808 ≤ a1 ∧ a1 ≤ 9223372036854775807) (hr2 : RowsRd w A2 us) (hn2 : n2 = us.length) (hw2 : ∀ t ∈ us, ∀ x ∈ t, 0 ≤ x ∧ x ≤ 255) :
    Calls Try.prog 5 #[.slice A n c, .int .i64 a1, .slice A2 n2 c2] w fun e w' => e = .returned (.bool true) ∧ Below w.heap.size w w' := by
  by_cases h : Small ts
  · by_cases h2 : Small us
    · exact zeros_walk A n c ts a1 A2 n2 c2 us w hr hn hr2 hn2 h h2 hw hw2
    · exact zeros_out A n c ts a1 A2 n2 c2 us w hr hn hr2 hn2 (.inr h2)
  · exact zeros_out A n c ts a1 A2 n2 c2 us w hr hn hr2 hn2 (.inl h)
end Go.Proofs.Ytkmhifacpkiefaa
