/-
  DERIVED. GIVEN WITH THE SEED: THE CARDS: each row of YtbfhglaaombglaaDoorRows.lean that lists a variable, with what it lists TIED to the program's text (the seventh form; the later family's looks); each row that meets fmt, with fmt's text TOLD by the authors' own Lean function (tested against real Go, not proved from fmt's source: count such statements apart). THE CARD IS WHAT COUNTS. Prove the row's statement (the work); the ties are given (YtbfhglaaombglaaDoorTie.lean); close each card by the builder's one call (the guide's Derived/Test/ToyasCard.lean, 'card_holds'). Laid BY PROGRAM, IN A SANDBOX (cutbox-door.mjs). By AI agents, Wed Nov 11 2026. No macro, syntax, notation, axiom, sorry.
-/
import Derived.Test.YtbfhglaaombglaaDoorRows
import GoSem.ClaimSeven
namespace Go.Proofs.YtbfhglaaombglaaDoor
namespace Rows

/-- THE TIED CARD OF 'concordatlaw06.IdlParses'. -/
def idlParsesCard : Claim7 := { stood := { row := idlParsesRow, standIns := [], harness := (true, "efed10592e4f03a0775f17db22ee27eeaf5d6e286719a7459ec44a3af40f6596"), looks := false }, kinds := [], alts := [], laidByText := true, laidKinds := [.data, .pinned], laidTests := true, laidLooks := .later }
def IdlParsesCardSaid : Prop := Claim7.holds Tryd.pinned (.plain (OpenSpec.ofChange idlParsesSpec)) idlParsesCard

/-- THE TIED CARD OF 'concordatlaw06.IdlBlanks'. -/
def idlBlanksCard : Claim7 := { stood := { row := idlBlanksRow, standIns := [], harness := (true, "efed10592e4f03a0775f17db22ee27eeaf5d6e286719a7459ec44a3af40f6596"), looks := false }, kinds := [], alts := [], laidByText := true, laidKinds := [.data, .pinned], laidTests := true, laidLooks := .later }
def IdlBlanksCardSaid : Prop := Claim7.holds Tryd.pinned (.plain (OpenSpec.ofChange idlBlanksSpec)) idlBlanksCard

/-- THE TIED CARD OF 'concordatlaw06.IdlCuts'. -/
def idlCutsCard : Claim7 := { stood := { row := idlCutsRow, standIns := [], harness := (true, "efed10592e4f03a0775f17db22ee27eeaf5d6e286719a7459ec44a3af40f6596"), looks := false }, kinds := [], alts := [], laidByText := true, laidKinds := [.data, .pinned], laidTests := true, laidLooks := .later }
def IdlCutsCardSaid : Prop := Claim7.holds Tryd.pinned (.plain (OpenSpec.ofChange idlCutsSpec)) idlCutsCard

/-- THE TIED CARD OF 'concordatlaw06.IdlMessages'. -/
def idlMessagesCard : Claim7 := { stood := { row := idlMessagesRow, standIns := [], harness := (true, "efed10592e4f03a0775f17db22ee27eeaf5d6e286719a7459ec44a3af40f6596"), looks := false }, kinds := [], alts := [], laidByText := true, laidKinds := [.data, .pinned], laidTests := true, laidLooks := .later }
def IdlMessagesCardSaid : Prop := Claim7.holds Tryd.pinned (.plain (OpenSpec.ofChange idlMessagesSpec)) idlMessagesCard

/-- THE TIED CARD OF 'concordatlaw06.IdlKinds'. -/
def idlKindsCard : Claim7 := { stood := { row := idlKindsRow, standIns := [], harness := (true, "efed10592e4f03a0775f17db22ee27eeaf5d6e286719a7459ec44a3af40f6596"), looks := false }, kinds := [], alts := [], laidByText := true, laidKinds := [.data, .pinned], laidTests := true, laidLooks := .later }
def IdlKindsCardSaid : Prop := Claim7.holds Tryd.pinned (.plain (OpenSpec.ofChange idlKindsSpec)) idlKindsCard

/-- THE TIED CARD OF 'concordatlaw06.IdlWrong'. -/
def idlWrongCard : Claim7 := { stood := { row := idlWrongRow, standIns := [], harness := (true, "efed10592e4f03a0775f17db22ee27eeaf5d6e286719a7459ec44a3af40f6596"), looks := false }, kinds := [], alts := [], laidByText := true, laidKinds := [.data, .pinned], laidTests := true, laidLooks := .later }
def IdlWrongCardSaid : Prop := Claim7.holds Tryd.pinned (.plain (OpenSpec.ofChange idlWrongSpec)) idlWrongCard

/-- THE SECOND FORM's CARD OF 'concordatlaw06.IdlParses'. -/
def idlParsesUptoCard : Claim7 := { stood := { row := idlParsesUptoRow, standIns := [], harness := (true, "efed10592e4f03a0775f17db22ee27eeaf5d6e286719a7459ec44a3af40f6596"), looks := false }, kinds := [], alts := [], laidByText := true, laidKinds := [.data, .pinned], laidTests := true, laidLooks := .later }
def IdlParsesUptoCardSaid : Prop := Claim7.holds Tryd.pinned (.plain (OpenSpec.upto idlParsesSpec)) idlParsesUptoCard

/-- THE SECOND FORM's CARD OF 'concordatlaw06.IdlBlanks'. -/
def idlBlanksUptoCard : Claim7 := { stood := { row := idlBlanksUptoRow, standIns := [], harness := (true, "efed10592e4f03a0775f17db22ee27eeaf5d6e286719a7459ec44a3af40f6596"), looks := false }, kinds := [], alts := [], laidByText := true, laidKinds := [.data, .pinned], laidTests := true, laidLooks := .later }
def IdlBlanksUptoCardSaid : Prop := Claim7.holds Tryd.pinned (.plain (OpenSpec.upto idlBlanksSpec)) idlBlanksUptoCard

/-- THE SECOND FORM's CARD OF 'concordatlaw06.IdlCuts'. -/
def idlCutsUptoCard : Claim7 := { stood := { row := idlCutsUptoRow, standIns := [], harness := (true, "efed10592e4f03a0775f17db22ee27eeaf5d6e286719a7459ec44a3af40f6596"), looks := false }, kinds := [], alts := [], laidByText := true, laidKinds := [.data, .pinned], laidTests := true, laidLooks := .later }
def IdlCutsUptoCardSaid : Prop := Claim7.holds Tryd.pinned (.plain (OpenSpec.upto idlCutsSpec)) idlCutsUptoCard

/-- THE SECOND FORM's CARD OF 'concordatlaw06.IdlMessages'. -/
def idlMessagesUptoCard : Claim7 := { stood := { row := idlMessagesUptoRow, standIns := [], harness := (true, "efed10592e4f03a0775f17db22ee27eeaf5d6e286719a7459ec44a3af40f6596"), looks := false }, kinds := [], alts := [], laidByText := true, laidKinds := [.data, .pinned], laidTests := true, laidLooks := .later }
def IdlMessagesUptoCardSaid : Prop := Claim7.holds Tryd.pinned (.plain (OpenSpec.upto idlMessagesSpec)) idlMessagesUptoCard

/-- THE SECOND FORM's CARD OF 'concordatlaw06.IdlKinds'. -/
def idlKindsUptoCard : Claim7 := { stood := { row := idlKindsUptoRow, standIns := [], harness := (true, "efed10592e4f03a0775f17db22ee27eeaf5d6e286719a7459ec44a3af40f6596"), looks := false }, kinds := [], alts := [], laidByText := true, laidKinds := [.data, .pinned], laidTests := true, laidLooks := .later }
def IdlKindsUptoCardSaid : Prop := Claim7.holds Tryd.pinned (.plain (OpenSpec.upto idlKindsSpec)) idlKindsUptoCard

/-- THE SECOND FORM's CARD OF 'concordatlaw06.IdlWrong'. -/
def idlWrongUptoCard : Claim7 := { stood := { row := idlWrongUptoRow, standIns := [], harness := (true, "efed10592e4f03a0775f17db22ee27eeaf5d6e286719a7459ec44a3af40f6596"), looks := false }, kinds := [], alts := [], laidByText := true, laidKinds := [.data, .pinned], laidTests := true, laidLooks := .later }
def IdlWrongUptoCardSaid : Prop := Claim7.holds Tryd.pinned (.plain (OpenSpec.upto idlWrongSpec)) idlWrongUptoCard
end Rows
end Go.Proofs.YtbfhglaaombglaaDoor
