/-
  No cell of these rows narrows 'for every input' (looked for: loops, veiled, ifaces, maps, wideKeys, modest, calm, conditions, laid).
  DERIVED. THE GIVEN ROWS OF THIS SEAT. 6 by the template 'for every input the law returns true; each argument reads behind the call as it read before'; 0 by the template 'total and deterministic' (their statements: YtachnjiielfddaaTotals.lean).
  GIVEN WITH THE SEED: the statements are not yours to turn. If you find one false, say at which input.
  Laid BY PROGRAM, IN A SANDBOX (cutbox-rows.mjs): the forced cells as the released guide's own fill.sh prints them over the translation 6337b1f87de1b8fb… (all of the seat's roots in one cut). By AI agents, Wed Nov 11 2026. No macro, syntax, notation, axiom, sorry.
-/
import Derived.Test.YtachnjiielfddaaChecked
import GoSem.Claim
import GoSem.ClaimJoined
import GoSem.ClaimMapViews
import Derived.JoinedTies
import Derived.KernelRfl
namespace Go.Proofs.Ytachnjiielfddaa
/- THE CELL 'sum', in the pinned program and in every row, IS THE sha256 OF THE DUMP (.gsa) THAT YtachnjiielfddaaProg.lean LOADS. Nothing in Lean hashes anything: it is a label: what it is worth is what the hold of that sum in a sandbox is worth. -/
noncomputable def Try.pinned : Pinned := { name := "ytachnjiielfddaa", sum := "6337b1f87de1b8fbafae89af9e3295e928a02d334eb3f6909c5ad4409c1b6504", checked := Try.checked }
namespace Rows
def none {H : Type} : Left H := { results := [], args := [] }

/-- 'concordatlaw02.VintOrder': WHATEVER THE INPUT: true; the input reads as it did. -/
def vintOrderSpec : ChangeSpec := { name := "vintOrder", fn := fun _ => fun
  | [d1, d2, d3] => { results := [.lit (.bool true)], args := [d1, d2, d3] }
  | _ => none }
def vintOrderRow : OpenClaim := { program := "ytachnjiielfddaa", sum := "6337b1f87de1b8fbafae89af9e3295e928a02d334eb3f6909c5ad4409c1b6504", func := "concordat/concordatlaw02.VintOrder", spec := "vintOrder", apart := false }
def VintOrderSaid : Prop := vintOrderRow.holds Try.pinned (OpenSpec.ofChange vintOrderSpec)

/-- ITS FALSE NEIGHBOUR: 'it returns false'. Refute it at one input. -/
def vintOrderWrong : ChangeSpec := { name := "vintOrder", fn := fun _ => fun
  | [d1, d2, d3] => { results := [.lit (.bool false)], args := [d1, d2, d3] }
  | _ => none }
def VintOrderWrongFalsely : Prop := vintOrderRow.holds Try.pinned (OpenSpec.ofChange vintOrderWrong)

/-- 'concordatlaw02.VintCuts': WHATEVER THE INPUT: true; the input reads as it did. -/
def vintCutsSpec : ChangeSpec := { name := "vintCuts", fn := fun _ => fun
  | [d1, d2] => { results := [.lit (.bool true)], args := [d1, d2] }
  | _ => none }
def vintCutsRow : OpenClaim := { program := "ytachnjiielfddaa", sum := "6337b1f87de1b8fbafae89af9e3295e928a02d334eb3f6909c5ad4409c1b6504", func := "concordat/concordatlaw02.VintCuts", spec := "vintCuts", apart := false }
def VintCutsSaid : Prop := vintCutsRow.holds Try.pinned (OpenSpec.ofChange vintCutsSpec)

/-- ITS FALSE NEIGHBOUR: 'it returns false'. Refute it at one input. -/
def vintCutsWrong : ChangeSpec := { name := "vintCuts", fn := fun _ => fun
  | [d1, d2] => { results := [.lit (.bool false)], args := [d1, d2] }
  | _ => none }
def VintCutsWrongFalsely : Prop := vintCutsRow.holds Try.pinned (OpenSpec.ofChange vintCutsWrong)

/-- 'concordatlaw02.VintMany': WHATEVER THE INPUT: true; the input reads as it did. -/
def vintManySpec : ChangeSpec := { name := "vintMany", fn := fun _ => fun
  | [d] => { results := [.lit (.bool true)], args := [d] }
  | _ => none }
def vintManyRow : OpenClaim := { program := "ytachnjiielfddaa", sum := "6337b1f87de1b8fbafae89af9e3295e928a02d334eb3f6909c5ad4409c1b6504", func := "concordat/concordatlaw02.VintMany", spec := "vintMany", apart := false }
def VintManySaid : Prop := vintManyRow.holds Try.pinned (OpenSpec.ofChange vintManySpec)

/-- ITS FALSE NEIGHBOUR: 'it returns false'. Refute it at one input. -/
def vintManyWrong : ChangeSpec := { name := "vintMany", fn := fun _ => fun
  | [d] => { results := [.lit (.bool false)], args := [d] }
  | _ => none }
def VintManyWrongFalsely : Prop := vintManyRow.holds Try.pinned (OpenSpec.ofChange vintManyWrong)

/-- 'concordatlaw02.VintAll': WHATEVER THE INPUT: true; the input reads as it did. -/
def vintAllSpec : ChangeSpec := { name := "vintAll", fn := fun _ => fun
  | [d1, d2, d3, d4] => { results := [.lit (.bool true)], args := [d1, d2, d3, d4] }
  | _ => none }
def vintAllRow : OpenClaim := { program := "ytachnjiielfddaa", sum := "6337b1f87de1b8fbafae89af9e3295e928a02d334eb3f6909c5ad4409c1b6504", func := "concordat/concordatlaw02.VintAll", spec := "vintAll", apart := false }
def VintAllSaid : Prop := vintAllRow.holds Try.pinned (OpenSpec.ofChange vintAllSpec)

/-- ITS FALSE NEIGHBOUR: 'it returns false'. Refute it at one input. -/
def vintAllWrong : ChangeSpec := { name := "vintAll", fn := fun _ => fun
  | [d1, d2, d3, d4] => { results := [.lit (.bool false)], args := [d1, d2, d3, d4] }
  | _ => none }
def VintAllWrongFalsely : Prop := vintAllRow.holds Try.pinned (OpenSpec.ofChange vintAllWrong)

/-- 'concordatlaw02.VintBack': WHATEVER THE INPUT: true; the input reads as it did. -/
def vintBackSpec : ChangeSpec := { name := "vintBack", fn := fun _ => fun
  | [d1, d2, d3] => { results := [.lit (.bool true)], args := [d1, d2, d3] }
  | _ => none }
def vintBackRow : OpenClaim := { program := "ytachnjiielfddaa", sum := "6337b1f87de1b8fbafae89af9e3295e928a02d334eb3f6909c5ad4409c1b6504", func := "concordat/concordatlaw02.VintBack", spec := "vintBack", apart := false }
def VintBackSaid : Prop := vintBackRow.holds Try.pinned (OpenSpec.ofChange vintBackSpec)

/-- ITS FALSE NEIGHBOUR: 'it returns false'. Refute it at one input. -/
def vintBackWrong : ChangeSpec := { name := "vintBack", fn := fun _ => fun
  | [d1, d2, d3] => { results := [.lit (.bool false)], args := [d1, d2, d3] }
  | _ => none }
def VintBackWrongFalsely : Prop := vintBackRow.holds Try.pinned (OpenSpec.ofChange vintBackWrong)

/-- 'concordatlaw02.VintEnds': WHATEVER THE INPUT: true; the input reads as it did. -/
def vintEndsSpec : ChangeSpec := { name := "vintEnds", fn := fun _ => fun
  | [] => { results := [.lit (.bool true)], args := [] }
  | _ => none }
def vintEndsRow : OpenClaim := { program := "ytachnjiielfddaa", sum := "6337b1f87de1b8fbafae89af9e3295e928a02d334eb3f6909c5ad4409c1b6504", func := "concordat/concordatlaw02.VintEnds", spec := "vintEnds", apart := false }
def VintEndsSaid : Prop := vintEndsRow.holds Try.pinned (OpenSpec.ofChange vintEndsSpec)

/-- ITS FALSE NEIGHBOUR: 'it returns false'. Refute it at one input. -/
def vintEndsWrong : ChangeSpec := { name := "vintEnds", fn := fun _ => fun
  | [] => { results := [.lit (.bool false)], args := [] }
  | _ => none }
def VintEndsWrongFalsely : Prop := vintEndsRow.holds Try.pinned (OpenSpec.ofChange vintEndsWrong)

/- THE SECOND FORM. 'bulk': how many values and letters a reading holds, each counted each time it is reached (what is shared counts as often as it is met; a slice's spare places count too). A statement '..UptoSaid' is the law's where the arguments, and the package variables that the reading takes, are together of bulk at most 1048576: NARROWER than '..Said'. Prove '..Said' where nothing that the law and all that it calls make is longer than what came in: it says more and counts as full. Else prove '..UptoSaid'. A law counts once. -/
mutual
def uptoBulk {H : Type} : DataW H → Nat
  | .lit (.string bytes) => bytes.length + 1
  | .lit _ => 1
  | .nil => 1
  | .ptr d => uptoBulk d + 1
  | .slice elems spare => uptoBulkAll elems + uptoBulkAll spare + 1
  | .agg parts => uptoBulkAll parts + 1
  | .iface _ d => uptoBulk d + 1
  | .map entries => uptoBulkEntries entries + 1
  | .held _ => 1
def uptoBulkAll {H : Type} : List (DataW H) → Nat
  | [] => 0
  | d :: r => uptoBulk d + uptoBulkAll r
def uptoBulkEntries {H : Type} : List (Lit × DataW H) → Nat
  | [] => 0
  | x :: r => uptoBulkEntry x + uptoBulkEntries r
def uptoBulkEntry {H : Type} : Lit × DataW H → Nat
  | (.string bytes, d) => bytes.length + uptoBulk d + 1
  | (_, d) => uptoBulk d + 1
 end
def uptoSmall : (H : Type) → List (DataW H) → Bool := fun _ ds => decide (uptoBulkAll ds ≤ 1048576)
def OpenSpec.upto (s : _root_.Go.ChangeSpec) : _root_.Go.OpenSpec := { _root_.Go.OpenSpec.ofChange s with cond := some uptoSmall }

/-- 'concordatlaw02.VintOrder', WHERE WHAT IT READS IS OF BULK AT MOST 1048576: true; the input reads as it did. -/
def vintOrderUptoRow : OpenClaim := { program := "ytachnjiielfddaa", sum := "6337b1f87de1b8fbafae89af9e3295e928a02d334eb3f6909c5ad4409c1b6504", func := "concordat/concordatlaw02.VintOrder", spec := "vintOrder", apart := false, narrowed := true }
def VintOrderUptoSaid : Prop := vintOrderUptoRow.holds Try.pinned (OpenSpec.upto vintOrderSpec)

/-- 'concordatlaw02.VintCuts', WHERE WHAT IT READS IS OF BULK AT MOST 1048576: true; the input reads as it did. -/
def vintCutsUptoRow : OpenClaim := { program := "ytachnjiielfddaa", sum := "6337b1f87de1b8fbafae89af9e3295e928a02d334eb3f6909c5ad4409c1b6504", func := "concordat/concordatlaw02.VintCuts", spec := "vintCuts", apart := false, narrowed := true }
def VintCutsUptoSaid : Prop := vintCutsUptoRow.holds Try.pinned (OpenSpec.upto vintCutsSpec)

/-- 'concordatlaw02.VintMany', WHERE WHAT IT READS IS OF BULK AT MOST 1048576: true; the input reads as it did. -/
def vintManyUptoRow : OpenClaim := { program := "ytachnjiielfddaa", sum := "6337b1f87de1b8fbafae89af9e3295e928a02d334eb3f6909c5ad4409c1b6504", func := "concordat/concordatlaw02.VintMany", spec := "vintMany", apart := false, narrowed := true }
def VintManyUptoSaid : Prop := vintManyUptoRow.holds Try.pinned (OpenSpec.upto vintManySpec)

/-- 'concordatlaw02.VintAll', WHERE WHAT IT READS IS OF BULK AT MOST 1048576: true; the input reads as it did. -/
def vintAllUptoRow : OpenClaim := { program := "ytachnjiielfddaa", sum := "6337b1f87de1b8fbafae89af9e3295e928a02d334eb3f6909c5ad4409c1b6504", func := "concordat/concordatlaw02.VintAll", spec := "vintAll", apart := false, narrowed := true }
def VintAllUptoSaid : Prop := vintAllUptoRow.holds Try.pinned (OpenSpec.upto vintAllSpec)

/-- 'concordatlaw02.VintBack', WHERE WHAT IT READS IS OF BULK AT MOST 1048576: true; the input reads as it did. -/
def vintBackUptoRow : OpenClaim := { program := "ytachnjiielfddaa", sum := "6337b1f87de1b8fbafae89af9e3295e928a02d334eb3f6909c5ad4409c1b6504", func := "concordat/concordatlaw02.VintBack", spec := "vintBack", apart := false, narrowed := true }
def VintBackUptoSaid : Prop := vintBackUptoRow.holds Try.pinned (OpenSpec.upto vintBackSpec)

/-- 'concordatlaw02.VintEnds', WHERE WHAT IT READS IS OF BULK AT MOST 1048576: true; the input reads as it did. -/
def vintEndsUptoRow : OpenClaim := { program := "ytachnjiielfddaa", sum := "6337b1f87de1b8fbafae89af9e3295e928a02d334eb3f6909c5ad4409c1b6504", func := "concordat/concordatlaw02.VintEnds", spec := "vintEnds", apart := false, narrowed := true }
def VintEndsUptoSaid : Prop := vintEndsUptoRow.holds Try.pinned (OpenSpec.upto vintEndsSpec)

end Rows
end Go.Proofs.Ytachnjiielfddaa
