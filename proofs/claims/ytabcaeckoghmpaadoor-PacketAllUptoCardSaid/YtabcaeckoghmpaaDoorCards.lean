/-
  DERIVED. GIVEN WITH THE SEED: THE CARDS: each row of YtabcaeckoghmpaaDoorRows.lean that lists a variable, with what it lists TIED to the program's text (the seventh form; the later family's looks); each row that meets fmt, with fmt's text TOLD by the authors' own Lean function (tested against real Go, not proved from fmt's source: count such statements apart). THE CARD IS WHAT COUNTS. Prove the row's statement (the work); the ties are given (YtabcaeckoghmpaaDoorTie.lean); close each card by the builder's one call (the guide's Derived/Test/ToyasCard.lean, 'card_holds'). Laid BY PROGRAM, IN A SANDBOX (cutbox-door.mjs). By AI agents, Wed Nov 11 2026. No macro, syntax, notation, axiom, sorry.
-/
import Derived.Test.YtabcaeckoghmpaaDoorRows
import GoSem.ClaimSeven
namespace Go.Proofs.YtabcaeckoghmpaaDoor
namespace Rows

/-- THE TIED CARD OF 'concordatlaw21.PacketAll'. -/
def packetAllCard : Claim7 := { stood := { row := packetAllRow, standIns := [], harness := (true, "31c0821a68b0440dff970311c091ea1ea911470ead7acc283a5bf9a261ea2c82"), looks := false }, kinds := [], alts := [], laidByText := true, laidKinds := [.data, .pinned], laidTests := true, laidLooks := .later }
def PacketAllCardSaid : Prop := Claim7.holds Tryd.pinned (.plain (OpenSpec.ofChange packetAllSpec)) packetAllCard

/-- THE TIED CARD OF 'concordatlaw21.PacketBack'. -/
def packetBackCard : Claim7 := { stood := { row := packetBackRow, standIns := [], harness := (true, "31c0821a68b0440dff970311c091ea1ea911470ead7acc283a5bf9a261ea2c82"), looks := false }, kinds := [], alts := [], laidByText := true, laidKinds := [.data, .pinned], laidTests := true, laidLooks := .later }
def PacketBackCardSaid : Prop := Claim7.holds Tryd.pinned (.plain (OpenSpec.ofChange packetBackSpec)) packetBackCard

/-- THE TIED CARD OF 'concordatlaw21.PacketTurned'. -/
def packetTurnedCard : Claim7 := { stood := { row := packetTurnedRow, standIns := [], harness := (true, "31c0821a68b0440dff970311c091ea1ea911470ead7acc283a5bf9a261ea2c82"), looks := false }, kinds := [], alts := [], laidByText := true, laidKinds := [.data, .pinned], laidTests := true, laidLooks := .later }
def PacketTurnedCardSaid : Prop := Claim7.holds Tryd.pinned (.plain (OpenSpec.ofChange packetTurnedSpec)) packetTurnedCard

/-- THE TIED CARD OF 'concordatlaw21.PacketForged'. -/
def packetForgedCard : Claim7 := { stood := { row := packetForgedRow, standIns := [], harness := (true, "31c0821a68b0440dff970311c091ea1ea911470ead7acc283a5bf9a261ea2c82"), looks := false }, kinds := [], alts := [], laidByText := true, laidKinds := [.data, .pinned], laidTests := true, laidLooks := .later }
def PacketForgedCardSaid : Prop := Claim7.holds Tryd.pinned (.plain (OpenSpec.ofChange packetForgedSpec)) packetForgedCard

/-- THE TIED CARD OF 'concordatlaw21.PacketLimits'. -/
def packetLimitsCard : Claim7 := { stood := { row := packetLimitsRow, standIns := [], harness := (true, "31c0821a68b0440dff970311c091ea1ea911470ead7acc283a5bf9a261ea2c82"), looks := false }, kinds := [], alts := [], laidByText := true, laidKinds := [.data, .pinned], laidTests := true, laidLooks := .later }
def PacketLimitsCardSaid : Prop := Claim7.holds Tryd.pinned (.plain (OpenSpec.ofChange packetLimitsSpec)) packetLimitsCard

/-- THE TIED CARD OF 'concordatlaw21.PacketApart'. -/
def packetApartCard : Claim7 := { stood := { row := packetApartRow, standIns := [], harness := (true, "31c0821a68b0440dff970311c091ea1ea911470ead7acc283a5bf9a261ea2c82"), looks := false }, kinds := [], alts := [], laidByText := true, laidKinds := [.data, .pinned], laidTests := true, laidLooks := .later }
def PacketApartCardSaid : Prop := Claim7.holds Tryd.pinned (.plain (OpenSpec.ofChange packetApartSpec)) packetApartCard

/-- THE SECOND FORM's CARD OF 'concordatlaw21.PacketAll'. -/
def packetAllUptoCard : Claim7 := { stood := { row := packetAllUptoRow, standIns := [], harness := (true, "31c0821a68b0440dff970311c091ea1ea911470ead7acc283a5bf9a261ea2c82"), looks := false }, kinds := [], alts := [], laidByText := true, laidKinds := [.data, .pinned], laidTests := true, laidLooks := .later }
def PacketAllUptoCardSaid : Prop := Claim7.holds Tryd.pinned (.plain (OpenSpec.upto packetAllSpec)) packetAllUptoCard

/-- THE SECOND FORM's CARD OF 'concordatlaw21.PacketBack'. -/
def packetBackUptoCard : Claim7 := { stood := { row := packetBackUptoRow, standIns := [], harness := (true, "31c0821a68b0440dff970311c091ea1ea911470ead7acc283a5bf9a261ea2c82"), looks := false }, kinds := [], alts := [], laidByText := true, laidKinds := [.data, .pinned], laidTests := true, laidLooks := .later }
def PacketBackUptoCardSaid : Prop := Claim7.holds Tryd.pinned (.plain (OpenSpec.upto packetBackSpec)) packetBackUptoCard

/-- THE SECOND FORM's CARD OF 'concordatlaw21.PacketTurned'. -/
def packetTurnedUptoCard : Claim7 := { stood := { row := packetTurnedUptoRow, standIns := [], harness := (true, "31c0821a68b0440dff970311c091ea1ea911470ead7acc283a5bf9a261ea2c82"), looks := false }, kinds := [], alts := [], laidByText := true, laidKinds := [.data, .pinned], laidTests := true, laidLooks := .later }
def PacketTurnedUptoCardSaid : Prop := Claim7.holds Tryd.pinned (.plain (OpenSpec.upto packetTurnedSpec)) packetTurnedUptoCard

/-- THE SECOND FORM's CARD OF 'concordatlaw21.PacketForged'. -/
def packetForgedUptoCard : Claim7 := { stood := { row := packetForgedUptoRow, standIns := [], harness := (true, "31c0821a68b0440dff970311c091ea1ea911470ead7acc283a5bf9a261ea2c82"), looks := false }, kinds := [], alts := [], laidByText := true, laidKinds := [.data, .pinned], laidTests := true, laidLooks := .later }
def PacketForgedUptoCardSaid : Prop := Claim7.holds Tryd.pinned (.plain (OpenSpec.upto packetForgedSpec)) packetForgedUptoCard

/-- THE SECOND FORM's CARD OF 'concordatlaw21.PacketLimits'. -/
def packetLimitsUptoCard : Claim7 := { stood := { row := packetLimitsUptoRow, standIns := [], harness := (true, "31c0821a68b0440dff970311c091ea1ea911470ead7acc283a5bf9a261ea2c82"), looks := false }, kinds := [], alts := [], laidByText := true, laidKinds := [.data, .pinned], laidTests := true, laidLooks := .later }
def PacketLimitsUptoCardSaid : Prop := Claim7.holds Tryd.pinned (.plain (OpenSpec.upto packetLimitsSpec)) packetLimitsUptoCard

/-- THE SECOND FORM's CARD OF 'concordatlaw21.PacketApart'. -/
def packetApartUptoCard : Claim7 := { stood := { row := packetApartUptoRow, standIns := [], harness := (true, "31c0821a68b0440dff970311c091ea1ea911470ead7acc283a5bf9a261ea2c82"), looks := false }, kinds := [], alts := [], laidByText := true, laidKinds := [.data, .pinned], laidTests := true, laidLooks := .later }
def PacketApartUptoCardSaid : Prop := Claim7.holds Tryd.pinned (.plain (OpenSpec.upto packetApartSpec)) packetApartUptoCard
end Rows
end Go.Proofs.YtabcaeckoghmpaaDoor
