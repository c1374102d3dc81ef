/-
  DERIVED. GIVEN WITH THE SEED: THE CARDS: each row of YtbhakfaldedinaaDoorRows.lean that lists a variable, with what it lists TIED to the program's text (the seventh form; the later family's looks); each row that meets fmt, with fmt's text TOLD by the authors' own Lean function (tested against real Go, not proved from fmt's source: count such statements apart). THE CARD IS WHAT COUNTS. Prove the row's statement (the work); the ties are given (YtbhakfaldedinaaDoorTie.lean); close each card by the builder's one call (the guide's Derived/Test/ToyasCard.lean, 'card_holds'). Laid BY PROGRAM, IN A SANDBOX (cutbox-door.mjs). By AI agents, Wed Nov 11 2026. No macro, syntax, notation, axiom, sorry.
-/
import Derived.Test.YtbhakfaldedinaaDoorRows
import GoSem.ClaimSeven
namespace Go.Proofs.YtbhakfaldedinaaDoor
namespace Rows

/-- THE TIED CARD OF 'concordatlaw01.RunesNext'. -/
def runesNextCard : Claim7 := { stood := { row := runesNextRow, standIns := [], harness := (true, "4998d92d8e1f6ea4f05dc2e901a499753687253749d99e1fd4011be79b6bc92f"), looks := false }, kinds := [], alts := [], laidByText := true, laidKinds := [.data, .pinned], laidTests := true, laidLooks := .later }
def RunesNextCardSaid : Prop := Claim7.holds Tryd.pinned (.plain (OpenSpec.ofChange runesNextSpec)) runesNextCard

/-- THE TIED CARD OF 'concordatlaw01.RunesAll'. -/
def runesAllCard : Claim7 := { stood := { row := runesAllRow, standIns := [], harness := (true, "4998d92d8e1f6ea4f05dc2e901a499753687253749d99e1fd4011be79b6bc92f"), looks := false }, kinds := [], alts := [], laidByText := true, laidKinds := [.data, .pinned], laidTests := true, laidLooks := .later }
def RunesAllCardSaid : Prop := Claim7.holds Tryd.pinned (.plain (OpenSpec.ofChange runesAllSpec)) runesAllCard

/-- THE TIED CARD OF 'concordatlaw01.RunesCuts'. -/
def runesCutsCard : Claim7 := { stood := { row := runesCutsRow, standIns := [], harness := (true, "4998d92d8e1f6ea4f05dc2e901a499753687253749d99e1fd4011be79b6bc92f"), looks := false }, kinds := [], alts := [], laidByText := true, laidKinds := [.data, .pinned], laidTests := true, laidLooks := .later }
def RunesCutsCardSaid : Prop := Claim7.holds Tryd.pinned (.plain (OpenSpec.ofChange runesCutsSpec)) runesCutsCard

/-- THE TIED CARD OF 'concordatlaw01.RunesNames'. -/
def runesNamesCard : Claim7 := { stood := { row := runesNamesRow, standIns := [], harness := (true, "4998d92d8e1f6ea4f05dc2e901a499753687253749d99e1fd4011be79b6bc92f"), looks := false }, kinds := [], alts := [], laidByText := true, laidKinds := [.data, .pinned], laidTests := true, laidLooks := .later }
def RunesNamesCardSaid : Prop := Claim7.holds Tryd.pinned (.plain (OpenSpec.ofChange runesNamesSpec)) runesNamesCard

/-- THE TIED CARD OF 'concordatlaw01.RunesKeys'. -/
def runesKeysCard : Claim7 := { stood := { row := runesKeysRow, standIns := [], harness := (true, "4998d92d8e1f6ea4f05dc2e901a499753687253749d99e1fd4011be79b6bc92f"), looks := false }, kinds := [], alts := [], laidByText := true, laidKinds := [.data, .pinned], laidTests := true, laidLooks := .later }
def RunesKeysCardSaid : Prop := Claim7.holds Tryd.pinned (.plain (OpenSpec.ofChange runesKeysSpec)) runesKeysCard

/-- THE TIED CARD OF 'concordatlaw01.RunesOne'. -/
def runesOneCard : Claim7 := { stood := { row := runesOneRow, standIns := [], harness := (true, "4998d92d8e1f6ea4f05dc2e901a499753687253749d99e1fd4011be79b6bc92f"), looks := false }, kinds := [], alts := [], laidByText := true, laidKinds := [.data, .pinned], laidTests := true, laidLooks := .later }
def RunesOneCardSaid : Prop := Claim7.holds Tryd.pinned (.plain (OpenSpec.ofChange runesOneSpec)) runesOneCard

/-- THE TIED CARD OF 'concordatlaw01.RunesBack'. -/
def runesBackCard : Claim7 := { stood := { row := runesBackRow, standIns := [], harness := (true, "4998d92d8e1f6ea4f05dc2e901a499753687253749d99e1fd4011be79b6bc92f"), looks := false }, kinds := [], alts := [], laidByText := true, laidKinds := [.data, .pinned], laidTests := true, laidLooks := .later }
def RunesBackCardSaid : Prop := Claim7.holds Tryd.pinned (.plain (OpenSpec.ofChange runesBackSpec)) runesBackCard

/-- THE TIED CARD OF 'concordatlaw01.RunesLengths'. -/
def runesLengthsCard : Claim7 := { stood := { row := runesLengthsRow, standIns := [], harness := (true, "4998d92d8e1f6ea4f05dc2e901a499753687253749d99e1fd4011be79b6bc92f"), looks := false }, kinds := [], alts := [], laidByText := true, laidKinds := [.data, .pinned], laidTests := true, laidLooks := .later }
def RunesLengthsCardSaid : Prop := Claim7.holds Tryd.pinned (.plain (OpenSpec.ofChange runesLengthsSpec)) runesLengthsCard

/-- THE SECOND FORM's CARD OF 'concordatlaw01.RunesNext'. -/
def runesNextUptoCard : Claim7 := { stood := { row := runesNextUptoRow, standIns := [], harness := (true, "4998d92d8e1f6ea4f05dc2e901a499753687253749d99e1fd4011be79b6bc92f"), looks := false }, kinds := [], alts := [], laidByText := true, laidKinds := [.data, .pinned], laidTests := true, laidLooks := .later }
def RunesNextUptoCardSaid : Prop := Claim7.holds Tryd.pinned (.plain (OpenSpec.upto runesNextSpec)) runesNextUptoCard

/-- THE SECOND FORM's CARD OF 'concordatlaw01.RunesAll'. -/
def runesAllUptoCard : Claim7 := { stood := { row := runesAllUptoRow, standIns := [], harness := (true, "4998d92d8e1f6ea4f05dc2e901a499753687253749d99e1fd4011be79b6bc92f"), looks := false }, kinds := [], alts := [], laidByText := true, laidKinds := [.data, .pinned], laidTests := true, laidLooks := .later }
def RunesAllUptoCardSaid : Prop := Claim7.holds Tryd.pinned (.plain (OpenSpec.upto runesAllSpec)) runesAllUptoCard

/-- THE SECOND FORM's CARD OF 'concordatlaw01.RunesCuts'. -/
def runesCutsUptoCard : Claim7 := { stood := { row := runesCutsUptoRow, standIns := [], harness := (true, "4998d92d8e1f6ea4f05dc2e901a499753687253749d99e1fd4011be79b6bc92f"), looks := false }, kinds := [], alts := [], laidByText := true, laidKinds := [.data, .pinned], laidTests := true, laidLooks := .later }
def RunesCutsUptoCardSaid : Prop := Claim7.holds Tryd.pinned (.plain (OpenSpec.upto runesCutsSpec)) runesCutsUptoCard

/-- THE SECOND FORM's CARD OF 'concordatlaw01.RunesNames'. -/
def runesNamesUptoCard : Claim7 := { stood := { row := runesNamesUptoRow, standIns := [], harness := (true, "4998d92d8e1f6ea4f05dc2e901a499753687253749d99e1fd4011be79b6bc92f"), looks := false }, kinds := [], alts := [], laidByText := true, laidKinds := [.data, .pinned], laidTests := true, laidLooks := .later }
def RunesNamesUptoCardSaid : Prop := Claim7.holds Tryd.pinned (.plain (OpenSpec.upto runesNamesSpec)) runesNamesUptoCard

/-- THE SECOND FORM's CARD OF 'concordatlaw01.RunesKeys'. -/
def runesKeysUptoCard : Claim7 := { stood := { row := runesKeysUptoRow, standIns := [], harness := (true, "4998d92d8e1f6ea4f05dc2e901a499753687253749d99e1fd4011be79b6bc92f"), looks := false }, kinds := [], alts := [], laidByText := true, laidKinds := [.data, .pinned], laidTests := true, laidLooks := .later }
def RunesKeysUptoCardSaid : Prop := Claim7.holds Tryd.pinned (.plain (OpenSpec.upto runesKeysSpec)) runesKeysUptoCard

/-- THE SECOND FORM's CARD OF 'concordatlaw01.RunesOne'. -/
def runesOneUptoCard : Claim7 := { stood := { row := runesOneUptoRow, standIns := [], harness := (true, "4998d92d8e1f6ea4f05dc2e901a499753687253749d99e1fd4011be79b6bc92f"), looks := false }, kinds := [], alts := [], laidByText := true, laidKinds := [.data, .pinned], laidTests := true, laidLooks := .later }
def RunesOneUptoCardSaid : Prop := Claim7.holds Tryd.pinned (.plain (OpenSpec.upto runesOneSpec)) runesOneUptoCard

/-- THE SECOND FORM's CARD OF 'concordatlaw01.RunesBack'. -/
def runesBackUptoCard : Claim7 := { stood := { row := runesBackUptoRow, standIns := [], harness := (true, "4998d92d8e1f6ea4f05dc2e901a499753687253749d99e1fd4011be79b6bc92f"), looks := false }, kinds := [], alts := [], laidByText := true, laidKinds := [.data, .pinned], laidTests := true, laidLooks := .later }
def RunesBackUptoCardSaid : Prop := Claim7.holds Tryd.pinned (.plain (OpenSpec.upto runesBackSpec)) runesBackUptoCard

/-- THE SECOND FORM's CARD OF 'concordatlaw01.RunesLengths'. -/
def runesLengthsUptoCard : Claim7 := { stood := { row := runesLengthsUptoRow, standIns := [], harness := (true, "4998d92d8e1f6ea4f05dc2e901a499753687253749d99e1fd4011be79b6bc92f"), looks := false }, kinds := [], alts := [], laidByText := true, laidKinds := [.data, .pinned], laidTests := true, laidLooks := .later }
def RunesLengthsUptoCardSaid : Prop := Claim7.holds Tryd.pinned (.plain (OpenSpec.upto runesLengthsSpec)) runesLengthsUptoCard
end Rows
end Go.Proofs.YtbhakfaldedinaaDoor
