/-
  NARROWER THAN 'FOR EVERY INPUT', by the rows' own cells (each row's printed sentence says how): IdlParses: laid · IdlBlanks: laid · IdlCuts: laid · IdlMessages: laid · IdlKinds: laid · IdlWrong: laid.
  DERIVED. THE GIVEN ROWS OF THIS SEAT. 6 by the template 'for every input the law returns true; each argument reads behind the call as it read before'; 0 by the template 'total and deterministic' (their statements: YtbfhglaaombglaaDoorTotals.lean).
  GIVEN WITH THE SEED: the statements are not yours to turn. If you find one false, say at which input.
  Laid BY PROGRAM, IN A SANDBOX (cutbox-rows.mjs): the forced cells as the released guide's own fill.sh prints them over the translation 27b6698a74e23c56… (all of the seat's roots in one cut). By AI agents, Wed Nov 11 2026. No macro, syntax, notation, axiom, sorry.
-/
import Derived.Test.YtbfhglaaombglaaDoorChecked
import GoSem.PinnedTables
import GoSem.Claim
import GoSem.ClaimJoined
import GoSem.ClaimMapViews
import Derived.JoinedTies
import Derived.KernelRfl
namespace Go.Proofs.YtbfhglaaombglaaDoor
/- THE CELL 'sum', in the pinned program and in every row, IS THE sha256 OF THE DUMP (.gsa) THAT YtbfhglaaombglaaDoorProg.lean LOADS. Nothing in Lean hashes anything: it is a label: what it is worth is what the hold of that sum in a sandbox is worth. -/
noncomputable def Tryd.pinned : Pinned := { name := "ytbfhglaaombglaadoor", sum := "27b6698a74e23c567e33587353710e646d0a90a4d2421f64d73cd493c8c669be", checked := Tryd.checked }
namespace Rows
def none {H : Type} : Left H := { results := [], args := [] }

/- WHAT THE LISTED PACKAGE-LEVEL VARIABLES READ AS WHEN THE CALL BEGINS. Each datum BY PROGRAM (the guide's laid-datum.mjs) off the statement by which the dump's own 'gosem.cut.vars' lays the variable. In a bare row this is a premise. The card (YtbfhglaaombglaaDoorCards.lean) ties it to the program's text. -/
def laid_unicode_utf8_acceptRanges {H : Type} : DataW H := .agg [.agg [.lit (.int .u8 128), .lit (.int .u8 191)], .agg [.lit (.int .u8 160), .lit (.int .u8 191)], .agg [.lit (.int .u8 128), .lit (.int .u8 159)], .agg [.lit (.int .u8 144), .lit (.int .u8 191)], .agg [.lit (.int .u8 128), .lit (.int .u8 143)], .agg [.lit (.int .u8 0), .lit (.int .u8 0)], .agg [.lit (.int .u8 0), .lit (.int .u8 0)], .agg [.lit (.int .u8 0), .lit (.int .u8 0)], .agg [.lit (.int .u8 0), .lit (.int .u8 0)], .agg [.lit (.int .u8 0), .lit (.int .u8 0)], .agg [.lit (.int .u8 0), .lit (.int .u8 0)], .agg [.lit (.int .u8 0), .lit (.int .u8 0)], .agg [.lit (.int .u8 0), .lit (.int .u8 0)], .agg [.lit (.int .u8 0), .lit (.int .u8 0)], .agg [.lit (.int .u8 0), .lit (.int .u8 0)], .agg [.lit (.int .u8 0), .lit (.int .u8 0)]]
/-- One of Go's own tables, pinned by name: the form's constant. -/
def laid_unicode_utf8_first : DataW Unit := Go.Pinned.utf8First

/-- 'concordatlaw06.IdlParses': WHATEVER THE INPUT: true; the input reads as it did. -/
def idlParsesSpec : ChangeSpec := { name := "idlParses", fn := fun _ => fun
  | [d] => { results := [.lit (.bool true)], args := [d] }
  | _ => none }
def idlParsesRow : OpenClaim := { program := "ytbfhglaaombglaadoor", sum := "27b6698a74e23c567e33587353710e646d0a90a4d2421f64d73cd493c8c669be", func := "concordat/concordatlaw06.IdlParses", spec := "idlParses", inPlace := ["internal/bytealg.IndexByteString"], unfollowed := true, recurses := true, named := ["unicode/utf8.first", "unicode/utf8.acceptRanges"], apart := false, laid := [("unicode/utf8.acceptRanges", laid_unicode_utf8_acceptRanges), ("unicode/utf8.first", laid_unicode_utf8_first)] }
def IdlParsesSaid : Prop := idlParsesRow.holds Tryd.pinned (OpenSpec.ofChange idlParsesSpec)

/-- ITS FALSE NEIGHBOUR: 'it returns false'. Refute it at one input. -/
def idlParsesWrong : ChangeSpec := { name := "idlParses", fn := fun _ => fun
  | [d] => { results := [.lit (.bool false)], args := [d] }
  | _ => none }
def IdlParsesWrongFalsely : Prop := idlParsesRow.holds Tryd.pinned (OpenSpec.ofChange idlParsesWrong)

/-- 'concordatlaw06.IdlBlanks': WHATEVER THE INPUT: true; the input reads as it did. -/
def idlBlanksSpec : ChangeSpec := { name := "idlBlanks", fn := fun _ => fun
  | [d1, d2] => { results := [.lit (.bool true)], args := [d1, d2] }
  | _ => none }
def idlBlanksRow : OpenClaim := { program := "ytbfhglaaombglaadoor", sum := "27b6698a74e23c567e33587353710e646d0a90a4d2421f64d73cd493c8c669be", func := "concordat/concordatlaw06.IdlBlanks", spec := "idlBlanks", inPlace := ["internal/bytealg.IndexByteString"], unfollowed := true, recurses := true, named := ["unicode/utf8.first", "unicode/utf8.acceptRanges"], apart := false, laid := [("unicode/utf8.acceptRanges", laid_unicode_utf8_acceptRanges), ("unicode/utf8.first", laid_unicode_utf8_first)] }
def IdlBlanksSaid : Prop := idlBlanksRow.holds Tryd.pinned (OpenSpec.ofChange idlBlanksSpec)

/-- ITS FALSE NEIGHBOUR: 'it returns false'. Refute it at one input. -/
def idlBlanksWrong : ChangeSpec := { name := "idlBlanks", fn := fun _ => fun
  | [d1, d2] => { results := [.lit (.bool false)], args := [d1, d2] }
  | _ => none }
def IdlBlanksWrongFalsely : Prop := idlBlanksRow.holds Tryd.pinned (OpenSpec.ofChange idlBlanksWrong)

/-- 'concordatlaw06.IdlCuts': WHATEVER THE INPUT: true; the input reads as it did. -/
def idlCutsSpec : ChangeSpec := { name := "idlCuts", fn := fun _ => fun
  | [d1, d2] => { results := [.lit (.bool true)], args := [d1, d2] }
  | _ => none }
def idlCutsRow : OpenClaim := { program := "ytbfhglaaombglaadoor", sum := "27b6698a74e23c567e33587353710e646d0a90a4d2421f64d73cd493c8c669be", func := "concordat/concordatlaw06.IdlCuts", spec := "idlCuts", inPlace := ["internal/bytealg.IndexByteString"], unfollowed := true, recurses := true, named := ["unicode/utf8.first", "unicode/utf8.acceptRanges"], apart := false, laid := [("unicode/utf8.acceptRanges", laid_unicode_utf8_acceptRanges), ("unicode/utf8.first", laid_unicode_utf8_first)] }
def IdlCutsSaid : Prop := idlCutsRow.holds Tryd.pinned (OpenSpec.ofChange idlCutsSpec)

/-- ITS FALSE NEIGHBOUR: 'it returns false'. Refute it at one input. -/
def idlCutsWrong : ChangeSpec := { name := "idlCuts", fn := fun _ => fun
  | [d1, d2] => { results := [.lit (.bool false)], args := [d1, d2] }
  | _ => none }
def IdlCutsWrongFalsely : Prop := idlCutsRow.holds Tryd.pinned (OpenSpec.ofChange idlCutsWrong)

/-- 'concordatlaw06.IdlMessages': WHATEVER THE INPUT: true; the input reads as it did. -/
def idlMessagesSpec : ChangeSpec := { name := "idlMessages", fn := fun _ => fun
  | [d] => { results := [.lit (.bool true)], args := [d] }
  | _ => none }
def idlMessagesRow : OpenClaim := { program := "ytbfhglaaombglaadoor", sum := "27b6698a74e23c567e33587353710e646d0a90a4d2421f64d73cd493c8c669be", func := "concordat/concordatlaw06.IdlMessages", spec := "idlMessages", inPlace := ["internal/bytealg.IndexByteString"], unfollowed := true, recurses := true, named := ["unicode/utf8.first", "unicode/utf8.acceptRanges"], apart := false, laid := [("unicode/utf8.acceptRanges", laid_unicode_utf8_acceptRanges), ("unicode/utf8.first", laid_unicode_utf8_first)] }
def IdlMessagesSaid : Prop := idlMessagesRow.holds Tryd.pinned (OpenSpec.ofChange idlMessagesSpec)

/-- ITS FALSE NEIGHBOUR: 'it returns false'. Refute it at one input. -/
def idlMessagesWrong : ChangeSpec := { name := "idlMessages", fn := fun _ => fun
  | [d] => { results := [.lit (.bool false)], args := [d] }
  | _ => none }
def IdlMessagesWrongFalsely : Prop := idlMessagesRow.holds Tryd.pinned (OpenSpec.ofChange idlMessagesWrong)

/-- 'concordatlaw06.IdlKinds': WHATEVER THE INPUT: true; the input reads as it did. -/
def idlKindsSpec : ChangeSpec := { name := "idlKinds", fn := fun _ => fun
  | [] => { results := [.lit (.bool true)], args := [] }
  | _ => none }
def idlKindsRow : OpenClaim := { program := "ytbfhglaaombglaadoor", sum := "27b6698a74e23c567e33587353710e646d0a90a4d2421f64d73cd493c8c669be", func := "concordat/concordatlaw06.IdlKinds", spec := "idlKinds", inPlace := ["internal/bytealg.IndexByteString"], unfollowed := true, recurses := true, named := ["unicode/utf8.first", "unicode/utf8.acceptRanges"], apart := false, laid := [("unicode/utf8.acceptRanges", laid_unicode_utf8_acceptRanges), ("unicode/utf8.first", laid_unicode_utf8_first)] }
def IdlKindsSaid : Prop := idlKindsRow.holds Tryd.pinned (OpenSpec.ofChange idlKindsSpec)

/-- ITS FALSE NEIGHBOUR: 'it returns false'. Refute it at one input. -/
def idlKindsWrong : ChangeSpec := { name := "idlKinds", fn := fun _ => fun
  | [] => { results := [.lit (.bool false)], args := [] }
  | _ => none }
def IdlKindsWrongFalsely : Prop := idlKindsRow.holds Tryd.pinned (OpenSpec.ofChange idlKindsWrong)

/-- 'concordatlaw06.IdlWrong': WHATEVER THE INPUT: true; the input reads as it did. -/
def idlWrongSpec : ChangeSpec := { name := "idlWrong", fn := fun _ => fun
  | [] => { results := [.lit (.bool true)], args := [] }
  | _ => none }
def idlWrongRow : OpenClaim := { program := "ytbfhglaaombglaadoor", sum := "27b6698a74e23c567e33587353710e646d0a90a4d2421f64d73cd493c8c669be", func := "concordat/concordatlaw06.IdlWrong", spec := "idlWrong", inPlace := ["internal/bytealg.IndexByteString"], unfollowed := true, recurses := true, named := ["unicode/utf8.first", "unicode/utf8.acceptRanges"], apart := false, laid := [("unicode/utf8.acceptRanges", laid_unicode_utf8_acceptRanges), ("unicode/utf8.first", laid_unicode_utf8_first)] }
def IdlWrongSaid : Prop := idlWrongRow.holds Tryd.pinned (OpenSpec.ofChange idlWrongSpec)

/-- ITS FALSE NEIGHBOUR: 'it returns false'. Refute it at one input. -/
def idlWrongWrong : ChangeSpec := { name := "idlWrong", fn := fun _ => fun
  | [] => { results := [.lit (.bool false)], args := [] }
  | _ => none }
def IdlWrongWrongFalsely : Prop := idlWrongRow.holds Tryd.pinned (OpenSpec.ofChange idlWrongWrong)

/- THE SECOND FORM. 'bulk': how many values and letters a reading holds, each counted each time it is reached (what is shared counts as often as it is met; a slice's spare places count too). A statement '..UptoSaid' is the law's where the arguments, and the package variables that the reading takes, are together of bulk at most 1048576: NARROWER than '..Said'. Prove '..Said' where nothing that the law and all that it calls make is longer than what came in: it says more and counts as full. Else prove '..UptoSaid'. A law counts once. -/
mutual
def uptoBulk {H : Type} : DataW H → Nat
  | .lit (.string bytes) => bytes.length + 1
  | .lit _ => 1
  | .nil => 1
  | .ptr d => uptoBulk d + 1
  | .slice elems spare => uptoBulkAll elems + uptoBulkAll spare + 1
  | .agg parts => uptoBulkAll parts + 1
  | .iface _ d => uptoBulk d + 1
  | .map entries => uptoBulkEntries entries + 1
  | .held _ => 1
def uptoBulkAll {H : Type} : List (DataW H) → Nat
  | [] => 0
  | d :: r => uptoBulk d + uptoBulkAll r
def uptoBulkEntries {H : Type} : List (Lit × DataW H) → Nat
  | [] => 0
  | x :: r => uptoBulkEntry x + uptoBulkEntries r
def uptoBulkEntry {H : Type} : Lit × DataW H → Nat
  | (.string bytes, d) => bytes.length + uptoBulk d + 1
  | (_, d) => uptoBulk d + 1
 end
def uptoSmall : (H : Type) → List (DataW H) → Bool := fun _ ds => decide (uptoBulkAll ds ≤ 1048576)
def OpenSpec.upto (s : _root_.Go.ChangeSpec) : _root_.Go.OpenSpec := { _root_.Go.OpenSpec.ofChange s with cond := some uptoSmall }

/-- 'concordatlaw06.IdlParses', WHERE WHAT IT READS IS OF BULK AT MOST 1048576: true; the input reads as it did. -/
def idlParsesUptoRow : OpenClaim := { program := "ytbfhglaaombglaadoor", sum := "27b6698a74e23c567e33587353710e646d0a90a4d2421f64d73cd493c8c669be", func := "concordat/concordatlaw06.IdlParses", spec := "idlParses", inPlace := ["internal/bytealg.IndexByteString"], unfollowed := true, recurses := true, named := ["unicode/utf8.first", "unicode/utf8.acceptRanges"], apart := false, laid := [("unicode/utf8.acceptRanges", laid_unicode_utf8_acceptRanges), ("unicode/utf8.first", laid_unicode_utf8_first)], narrowed := true }
def IdlParsesUptoSaid : Prop := idlParsesUptoRow.holds Tryd.pinned (OpenSpec.upto idlParsesSpec)

/-- 'concordatlaw06.IdlBlanks', WHERE WHAT IT READS IS OF BULK AT MOST 1048576: true; the input reads as it did. -/
def idlBlanksUptoRow : OpenClaim := { program := "ytbfhglaaombglaadoor", sum := "27b6698a74e23c567e33587353710e646d0a90a4d2421f64d73cd493c8c669be", func := "concordat/concordatlaw06.IdlBlanks", spec := "idlBlanks", inPlace := ["internal/bytealg.IndexByteString"], unfollowed := true, recurses := true, named := ["unicode/utf8.first", "unicode/utf8.acceptRanges"], apart := false, laid := [("unicode/utf8.acceptRanges", laid_unicode_utf8_acceptRanges), ("unicode/utf8.first", laid_unicode_utf8_first)], narrowed := true }
def IdlBlanksUptoSaid : Prop := idlBlanksUptoRow.holds Tryd.pinned (OpenSpec.upto idlBlanksSpec)

/-- 'concordatlaw06.IdlCuts', WHERE WHAT IT READS IS OF BULK AT MOST 1048576: true; the input reads as it did. -/
def idlCutsUptoRow : OpenClaim := { program := "ytbfhglaaombglaadoor", sum := "27b6698a74e23c567e33587353710e646d0a90a4d2421f64d73cd493c8c669be", func := "concordat/concordatlaw06.IdlCuts", spec := "idlCuts", inPlace := ["internal/bytealg.IndexByteString"], unfollowed := true, recurses := true, named := ["unicode/utf8.first", "unicode/utf8.acceptRanges"], apart := false, laid := [("unicode/utf8.acceptRanges", laid_unicode_utf8_acceptRanges), ("unicode/utf8.first", laid_unicode_utf8_first)], narrowed := true }
def IdlCutsUptoSaid : Prop := idlCutsUptoRow.holds Tryd.pinned (OpenSpec.upto idlCutsSpec)

/-- 'concordatlaw06.IdlMessages', WHERE WHAT IT READS IS OF BULK AT MOST 1048576: true; the input reads as it did. -/
def idlMessagesUptoRow : OpenClaim := { program := "ytbfhglaaombglaadoor", sum := "27b6698a74e23c567e33587353710e646d0a90a4d2421f64d73cd493c8c669be", func := "concordat/concordatlaw06.IdlMessages", spec := "idlMessages", inPlace := ["internal/bytealg.IndexByteString"], unfollowed := true, recurses := true, named := ["unicode/utf8.first", "unicode/utf8.acceptRanges"], apart := false, laid := [("unicode/utf8.acceptRanges", laid_unicode_utf8_acceptRanges), ("unicode/utf8.first", laid_unicode_utf8_first)], narrowed := true }
def IdlMessagesUptoSaid : Prop := idlMessagesUptoRow.holds Tryd.pinned (OpenSpec.upto idlMessagesSpec)

/-- 'concordatlaw06.IdlKinds', WHERE WHAT IT READS IS OF BULK AT MOST 1048576: true; the input reads as it did. -/
def idlKindsUptoRow : OpenClaim := { program := "ytbfhglaaombglaadoor", sum := "27b6698a74e23c567e33587353710e646d0a90a4d2421f64d73cd493c8c669be", func := "concordat/concordatlaw06.IdlKinds", spec := "idlKinds", inPlace := ["internal/bytealg.IndexByteString"], unfollowed := true, recurses := true, named := ["unicode/utf8.first", "unicode/utf8.acceptRanges"], apart := false, laid := [("unicode/utf8.acceptRanges", laid_unicode_utf8_acceptRanges), ("unicode/utf8.first", laid_unicode_utf8_first)], narrowed := true }
def IdlKindsUptoSaid : Prop := idlKindsUptoRow.holds Tryd.pinned (OpenSpec.upto idlKindsSpec)

/-- 'concordatlaw06.IdlWrong', WHERE WHAT IT READS IS OF BULK AT MOST 1048576: true; the input reads as it did. -/
def idlWrongUptoRow : OpenClaim := { program := "ytbfhglaaombglaadoor", sum := "27b6698a74e23c567e33587353710e646d0a90a4d2421f64d73cd493c8c669be", func := "concordat/concordatlaw06.IdlWrong", spec := "idlWrong", inPlace := ["internal/bytealg.IndexByteString"], unfollowed := true, recurses := true, named := ["unicode/utf8.first", "unicode/utf8.acceptRanges"], apart := false, laid := [("unicode/utf8.acceptRanges", laid_unicode_utf8_acceptRanges), ("unicode/utf8.first", laid_unicode_utf8_first)], narrowed := true }
def IdlWrongUptoSaid : Prop := idlWrongUptoRow.holds Tryd.pinned (OpenSpec.upto idlWrongSpec)

end Rows
end Go.Proofs.YtbfhglaaombglaaDoor
