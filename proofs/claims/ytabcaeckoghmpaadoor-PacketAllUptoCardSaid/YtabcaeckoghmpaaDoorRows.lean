/-
  NARROWER THAN 'FOR EVERY INPUT', by the rows' own cells (each row's printed sentence says how): PacketAll: laid · PacketBack: laid · PacketTurned: laid · PacketForged: laid · PacketLimits: laid · PacketApart: laid.
  DERIVED. THE GIVEN ROWS OF THIS SEAT. 6 by the template 'for every input the law returns true; each argument reads behind the call as it read before'; 0 by the template 'total and deterministic' (their statements: YtabcaeckoghmpaaDoorTotals.lean).
  GIVEN WITH THE SEED: the statements are not yours to turn. If you find one false, say at which input.
  Laid BY PROGRAM, IN A SANDBOX (cutbox-rows.mjs): the forced cells as the released guide's own fill.sh prints them over the translation 585c8aedef488bb5… (all of the seat's roots in one cut). By AI agents, Wed Nov 11 2026. No macro, syntax, notation, axiom, sorry.
-/
import Derived.Test.YtabcaeckoghmpaaDoorChecked
import GoSem.PinnedTables
import GoSem.Claim
import GoSem.ClaimJoined
import GoSem.ClaimMapViews
import Derived.JoinedTies
import Derived.KernelRfl
namespace Go.Proofs.YtabcaeckoghmpaaDoor
/- THE CELL 'sum', in the pinned program and in every row, IS THE sha256 OF THE DUMP (.gsa) THAT YtabcaeckoghmpaaDoorProg.lean LOADS. Nothing in Lean hashes anything: it is a label: what it is worth is what the hold of that sum in a sandbox is worth. -/
noncomputable def Tryd.pinned : Pinned := { name := "ytabcaeckoghmpaadoor", sum := "585c8aedef488bb541d0f5b2bcda14eff390196d1225d09eb003853525c08394", checked := Tryd.checked }
namespace Rows
def none {H : Type} : Left H := { results := [], args := [] }

/- WHAT THE LISTED PACKAGE-LEVEL VARIABLES READ AS WHEN THE CALL BEGINS. Each datum BY PROGRAM (the guide's laid-datum.mjs) off the statement by which the dump's own 'gosem.cut.vars' lays the variable. In a bare row this is a premise. The card (YtabcaeckoghmpaaDoorCards.lean) ties it to the program's text. -/
def laid_unicode_utf8_acceptRanges {H : Type} : DataW H := .agg [.agg [.lit (.int .u8 128), .lit (.int .u8 191)], .agg [.lit (.int .u8 160), .lit (.int .u8 191)], .agg [.lit (.int .u8 128), .lit (.int .u8 159)], .agg [.lit (.int .u8 144), .lit (.int .u8 191)], .agg [.lit (.int .u8 128), .lit (.int .u8 143)], .agg [.lit (.int .u8 0), .lit (.int .u8 0)], .agg [.lit (.int .u8 0), .lit (.int .u8 0)], .agg [.lit (.int .u8 0), .lit (.int .u8 0)], .agg [.lit (.int .u8 0), .lit (.int .u8 0)], .agg [.lit (.int .u8 0), .lit (.int .u8 0)], .agg [.lit (.int .u8 0), .lit (.int .u8 0)], .agg [.lit (.int .u8 0), .lit (.int .u8 0)], .agg [.lit (.int .u8 0), .lit (.int .u8 0)], .agg [.lit (.int .u8 0), .lit (.int .u8 0)], .agg [.lit (.int .u8 0), .lit (.int .u8 0)], .agg [.lit (.int .u8 0), .lit (.int .u8 0)]]
/-- One of Go's own tables, pinned by name: the form's constant. -/
def laid_unicode_utf8_first : DataW Unit := Go.Pinned.utf8First

/-- 'concordatlaw21.PacketAll': WHATEVER THE INPUT: true; the input reads as it did. -/
def packetAllSpec : ChangeSpec := { name := "packetAll", fn := fun _ => fun
  | [d1, d2] => { results := [.lit (.bool true)], args := [d1, d2] }
  | _ => none }
def packetAllRow : OpenClaim := { program := "ytabcaeckoghmpaadoor", sum := "585c8aedef488bb541d0f5b2bcda14eff390196d1225d09eb003853525c08394", func := "concordat/concordatlaw21.PacketAll", spec := "packetAll", named := ["unicode/utf8.first", "unicode/utf8.acceptRanges"], apart := false, laid := [("unicode/utf8.acceptRanges", laid_unicode_utf8_acceptRanges), ("unicode/utf8.first", laid_unicode_utf8_first)] }
def PacketAllSaid : Prop := packetAllRow.holds Tryd.pinned (OpenSpec.ofChange packetAllSpec)

/-- ITS FALSE NEIGHBOUR: 'it returns false'. Refute it at one input. -/
def packetAllWrong : ChangeSpec := { name := "packetAll", fn := fun _ => fun
  | [d1, d2] => { results := [.lit (.bool false)], args := [d1, d2] }
  | _ => none }
def PacketAllWrongFalsely : Prop := packetAllRow.holds Tryd.pinned (OpenSpec.ofChange packetAllWrong)

/-- 'concordatlaw21.PacketBack': WHATEVER THE INPUT: true; the input reads as it did. -/
def packetBackSpec : ChangeSpec := { name := "packetBack", fn := fun _ => fun
  | [d] => { results := [.lit (.bool true)], args := [d] }
  | _ => none }
def packetBackRow : OpenClaim := { program := "ytabcaeckoghmpaadoor", sum := "585c8aedef488bb541d0f5b2bcda14eff390196d1225d09eb003853525c08394", func := "concordat/concordatlaw21.PacketBack", spec := "packetBack", named := ["unicode/utf8.first", "unicode/utf8.acceptRanges"], apart := false, laid := [("unicode/utf8.acceptRanges", laid_unicode_utf8_acceptRanges), ("unicode/utf8.first", laid_unicode_utf8_first)] }
def PacketBackSaid : Prop := packetBackRow.holds Tryd.pinned (OpenSpec.ofChange packetBackSpec)

/-- ITS FALSE NEIGHBOUR: 'it returns false'. Refute it at one input. -/
def packetBackWrong : ChangeSpec := { name := "packetBack", fn := fun _ => fun
  | [d] => { results := [.lit (.bool false)], args := [d] }
  | _ => none }
def PacketBackWrongFalsely : Prop := packetBackRow.holds Tryd.pinned (OpenSpec.ofChange packetBackWrong)

/-- 'concordatlaw21.PacketTurned': WHATEVER THE INPUT: true; the input reads as it did. -/
def packetTurnedSpec : ChangeSpec := { name := "packetTurned", fn := fun _ => fun
  | [d1, d2, d3] => { results := [.lit (.bool true)], args := [d1, d2, d3] }
  | _ => none }
def packetTurnedRow : OpenClaim := { program := "ytabcaeckoghmpaadoor", sum := "585c8aedef488bb541d0f5b2bcda14eff390196d1225d09eb003853525c08394", func := "concordat/concordatlaw21.PacketTurned", spec := "packetTurned", named := ["unicode/utf8.first", "unicode/utf8.acceptRanges"], apart := false, laid := [("unicode/utf8.acceptRanges", laid_unicode_utf8_acceptRanges), ("unicode/utf8.first", laid_unicode_utf8_first)] }
def PacketTurnedSaid : Prop := packetTurnedRow.holds Tryd.pinned (OpenSpec.ofChange packetTurnedSpec)

/-- ITS FALSE NEIGHBOUR: 'it returns false'. Refute it at one input. -/
def packetTurnedWrong : ChangeSpec := { name := "packetTurned", fn := fun _ => fun
  | [d1, d2, d3] => { results := [.lit (.bool false)], args := [d1, d2, d3] }
  | _ => none }
def PacketTurnedWrongFalsely : Prop := packetTurnedRow.holds Tryd.pinned (OpenSpec.ofChange packetTurnedWrong)

/-- 'concordatlaw21.PacketForged': WHATEVER THE INPUT: true; the input reads as it did. -/
def packetForgedSpec : ChangeSpec := { name := "packetForged", fn := fun _ => fun
  | [d] => { results := [.lit (.bool true)], args := [d] }
  | _ => none }
def packetForgedRow : OpenClaim := { program := "ytabcaeckoghmpaadoor", sum := "585c8aedef488bb541d0f5b2bcda14eff390196d1225d09eb003853525c08394", func := "concordat/concordatlaw21.PacketForged", spec := "packetForged", named := ["unicode/utf8.first", "unicode/utf8.acceptRanges"], apart := false, laid := [("unicode/utf8.acceptRanges", laid_unicode_utf8_acceptRanges), ("unicode/utf8.first", laid_unicode_utf8_first)] }
def PacketForgedSaid : Prop := packetForgedRow.holds Tryd.pinned (OpenSpec.ofChange packetForgedSpec)

/-- ITS FALSE NEIGHBOUR: 'it returns false'. Refute it at one input. -/
def packetForgedWrong : ChangeSpec := { name := "packetForged", fn := fun _ => fun
  | [d] => { results := [.lit (.bool false)], args := [d] }
  | _ => none }
def PacketForgedWrongFalsely : Prop := packetForgedRow.holds Tryd.pinned (OpenSpec.ofChange packetForgedWrong)

/-- 'concordatlaw21.PacketLimits': WHATEVER THE INPUT: true; the input reads as it did. -/
def packetLimitsSpec : ChangeSpec := { name := "packetLimits", fn := fun _ => fun
  | [] => { results := [.lit (.bool true)], args := [] }
  | _ => none }
def packetLimitsRow : OpenClaim := { program := "ytabcaeckoghmpaadoor", sum := "585c8aedef488bb541d0f5b2bcda14eff390196d1225d09eb003853525c08394", func := "concordat/concordatlaw21.PacketLimits", spec := "packetLimits", named := ["unicode/utf8.first", "unicode/utf8.acceptRanges"], apart := false, laid := [("unicode/utf8.acceptRanges", laid_unicode_utf8_acceptRanges), ("unicode/utf8.first", laid_unicode_utf8_first)] }
def PacketLimitsSaid : Prop := packetLimitsRow.holds Tryd.pinned (OpenSpec.ofChange packetLimitsSpec)

/-- ITS FALSE NEIGHBOUR: 'it returns false'. Refute it at one input. -/
def packetLimitsWrong : ChangeSpec := { name := "packetLimits", fn := fun _ => fun
  | [] => { results := [.lit (.bool false)], args := [] }
  | _ => none }
def PacketLimitsWrongFalsely : Prop := packetLimitsRow.holds Tryd.pinned (OpenSpec.ofChange packetLimitsWrong)

/-- 'concordatlaw21.PacketApart': WHATEVER THE INPUT: true; the input reads as it did. -/
def packetApartSpec : ChangeSpec := { name := "packetApart", fn := fun _ => fun
  | [d1, d2, d3] => { results := [.lit (.bool true)], args := [d1, d2, d3] }
  | _ => none }
def packetApartRow : OpenClaim := { program := "ytabcaeckoghmpaadoor", sum := "585c8aedef488bb541d0f5b2bcda14eff390196d1225d09eb003853525c08394", func := "concordat/concordatlaw21.PacketApart", spec := "packetApart", named := ["unicode/utf8.first", "unicode/utf8.acceptRanges"], apart := false, laid := [("unicode/utf8.acceptRanges", laid_unicode_utf8_acceptRanges), ("unicode/utf8.first", laid_unicode_utf8_first)] }
def PacketApartSaid : Prop := packetApartRow.holds Tryd.pinned (OpenSpec.ofChange packetApartSpec)

/-- ITS FALSE NEIGHBOUR: 'it returns false'. Refute it at one input. -/
def packetApartWrong : ChangeSpec := { name := "packetApart", fn := fun _ => fun
  | [d1, d2, d3] => { results := [.lit (.bool false)], args := [d1, d2, d3] }
  | _ => none }
def PacketApartWrongFalsely : Prop := packetApartRow.holds Tryd.pinned (OpenSpec.ofChange packetApartWrong)

/- THE SECOND FORM. 'bulk': how many values and letters a reading holds, each counted each time it is reached (what is shared counts as often as it is met; a slice's spare places count too). A statement '..UptoSaid' is the law's where the arguments, and the package variables that the reading takes, are together of bulk at most 1048576: NARROWER than '..Said'. Prove '..Said' where nothing that the law and all that it calls make is longer than what came in: it says more and counts as full. Else prove '..UptoSaid'. A law counts once. -/
mutual
def uptoBulk {H : Type} : DataW H → Nat
  | .lit (.string bytes) => bytes.length + 1
  | .lit _ => 1
  | .nil => 1
  | .ptr d => uptoBulk d + 1
  | .slice elems spare => uptoBulkAll elems + uptoBulkAll spare + 1
  | .agg parts => uptoBulkAll parts + 1
  | .iface _ d => uptoBulk d + 1
  | .map entries => uptoBulkEntries entries + 1
  | .held _ => 1
def uptoBulkAll {H : Type} : List (DataW H) → Nat
  | [] => 0
  | d :: r => uptoBulk d + uptoBulkAll r
def uptoBulkEntries {H : Type} : List (Lit × DataW H) → Nat
  | [] => 0
  | x :: r => uptoBulkEntry x + uptoBulkEntries r
def uptoBulkEntry {H : Type} : Lit × DataW H → Nat
  | (.string bytes, d) => bytes.length + uptoBulk d + 1
  | (_, d) => uptoBulk d + 1
 end
def uptoSmall : (H : Type) → List (DataW H) → Bool := fun _ ds => decide (uptoBulkAll ds ≤ 1048576)
def OpenSpec.upto (s : _root_.Go.ChangeSpec) : _root_.Go.OpenSpec := { _root_.Go.OpenSpec.ofChange s with cond := some uptoSmall }

/-- 'concordatlaw21.PacketAll', WHERE WHAT IT READS IS OF BULK AT MOST 1048576: true; the input reads as it did. -/
def packetAllUptoRow : OpenClaim := { program := "ytabcaeckoghmpaadoor", sum := "585c8aedef488bb541d0f5b2bcda14eff390196d1225d09eb003853525c08394", func := "concordat/concordatlaw21.PacketAll", spec := "packetAll", named := ["unicode/utf8.first", "unicode/utf8.acceptRanges"], apart := false, laid := [("unicode/utf8.acceptRanges", laid_unicode_utf8_acceptRanges), ("unicode/utf8.first", laid_unicode_utf8_first)], narrowed := true }
def PacketAllUptoSaid : Prop := packetAllUptoRow.holds Tryd.pinned (OpenSpec.upto packetAllSpec)

/-- 'concordatlaw21.PacketBack', WHERE WHAT IT READS IS OF BULK AT MOST 1048576: true; the input reads as it did. -/
def packetBackUptoRow : OpenClaim := { program := "ytabcaeckoghmpaadoor", sum := "585c8aedef488bb541d0f5b2bcda14eff390196d1225d09eb003853525c08394", func := "concordat/concordatlaw21.PacketBack", spec := "packetBack", named := ["unicode/utf8.first", "unicode/utf8.acceptRanges"], apart := false, laid := [("unicode/utf8.acceptRanges", laid_unicode_utf8_acceptRanges), ("unicode/utf8.first", laid_unicode_utf8_first)], narrowed := true }
def PacketBackUptoSaid : Prop := packetBackUptoRow.holds Tryd.pinned (OpenSpec.upto packetBackSpec)

/-- 'concordatlaw21.PacketTurned', WHERE WHAT IT READS IS OF BULK AT MOST 1048576: true; the input reads as it did. -/
def packetTurnedUptoRow : OpenClaim := { program := "ytabcaeckoghmpaadoor", sum := "585c8aedef488bb541d0f5b2bcda14eff390196d1225d09eb003853525c08394", func := "concordat/concordatlaw21.PacketTurned", spec := "packetTurned", named := ["unicode/utf8.first", "unicode/utf8.acceptRanges"], apart := false, laid := [("unicode/utf8.acceptRanges", laid_unicode_utf8_acceptRanges), ("unicode/utf8.first", laid_unicode_utf8_first)], narrowed := true }
def PacketTurnedUptoSaid : Prop := packetTurnedUptoRow.holds Tryd.pinned (OpenSpec.upto packetTurnedSpec)

/-- 'concordatlaw21.PacketForged', WHERE WHAT IT READS IS OF BULK AT MOST 1048576: true; the input reads as it did. -/
def packetForgedUptoRow : OpenClaim := { program := "ytabcaeckoghmpaadoor", sum := "585c8aedef488bb541d0f5b2bcda14eff390196d1225d09eb003853525c08394", func := "concordat/concordatlaw21.PacketForged", spec := "packetForged", named := ["unicode/utf8.first", "unicode/utf8.acceptRanges"], apart := false, laid := [("unicode/utf8.acceptRanges", laid_unicode_utf8_acceptRanges), ("unicode/utf8.first", laid_unicode_utf8_first)], narrowed := true }
def PacketForgedUptoSaid : Prop := packetForgedUptoRow.holds Tryd.pinned (OpenSpec.upto packetForgedSpec)

/-- 'concordatlaw21.PacketLimits', WHERE WHAT IT READS IS OF BULK AT MOST 1048576: true; the input reads as it did. -/
def packetLimitsUptoRow : OpenClaim := { program := "ytabcaeckoghmpaadoor", sum := "585c8aedef488bb541d0f5b2bcda14eff390196d1225d09eb003853525c08394", func := "concordat/concordatlaw21.PacketLimits", spec := "packetLimits", named := ["unicode/utf8.first", "unicode/utf8.acceptRanges"], apart := false, laid := [("unicode/utf8.acceptRanges", laid_unicode_utf8_acceptRanges), ("unicode/utf8.first", laid_unicode_utf8_first)], narrowed := true }
def PacketLimitsUptoSaid : Prop := packetLimitsUptoRow.holds Tryd.pinned (OpenSpec.upto packetLimitsSpec)

/-- 'concordatlaw21.PacketApart', WHERE WHAT IT READS IS OF BULK AT MOST 1048576: true; the input reads as it did. -/
def packetApartUptoRow : OpenClaim := { program := "ytabcaeckoghmpaadoor", sum := "585c8aedef488bb541d0f5b2bcda14eff390196d1225d09eb003853525c08394", func := "concordat/concordatlaw21.PacketApart", spec := "packetApart", named := ["unicode/utf8.first", "unicode/utf8.acceptRanges"], apart := false, laid := [("unicode/utf8.acceptRanges", laid_unicode_utf8_acceptRanges), ("unicode/utf8.first", laid_unicode_utf8_first)], narrowed := true }
def PacketApartUptoSaid : Prop := packetApartUptoRow.holds Tryd.pinned (OpenSpec.upto packetApartSpec)

end Rows
end Go.Proofs.YtabcaeckoghmpaaDoor
