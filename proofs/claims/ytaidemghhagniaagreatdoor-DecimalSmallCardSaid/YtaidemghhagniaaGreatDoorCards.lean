/-
  DERIVED. GIVEN WITH THE SEED: THE CARDS: each row of YtaidemghhagniaaGreatDoorRows.lean that lists a variable, with what it lists TIED to the program's text (the seventh form; the later family's looks); each row that meets fmt, with fmt's text TOLD by the authors' own Lean function (tested against real Go, not proved from fmt's source: count such statements apart). THE CARD IS WHAT COUNTS. Prove the row's statement (the work); the ties are given (YtaidemghhagniaaGreatDoorTie.lean); close each card by the builder's one call (the guide's Derived/Test/ToyasCard.lean, 'card_holds'). Laid BY PROGRAM, IN A SANDBOX (cutbox-door.mjs). By AI agents, Wed Nov 11 2026. No macro, syntax, notation, axiom, sorry.
-/
import Derived.Test.YtaidemghhagniaaGreatDoorRows
import GoSem.ClaimSeven
namespace Go.Proofs.YtaidemghhagniaaGreatDoor
namespace Rows

/-- THE TIED CARD OF 'gaugerlaw21.DecimalParses'. -/
def decimalParsesCard : Claim7 := { stood := { row := decimalParsesRow, standIns := [], harness := (true, "2838225ad9d1de54dcf292623232011c14b7fae2deb5901ceaff0c4a85e81356"), looks := true }, kinds := [], alts := [], laidByText := true, laidKinds := [.data, .data, .widerDeep, .widerDeep, .data, .data, .data, .data, .data, .data, .sentinel, .sentinel, .pinned, .pinned, .pinned], laidTests := true, laidLooks := .later }
def DecimalParsesCardSaid : Prop := Claim7.holds Tryz.pinned (.plain (OpenSpec.ofChange decimalParsesSpec)) decimalParsesCard

/-- THE TIED CARD OF 'gaugerlaw21.DecimalBack'. -/
def decimalBackCard : Claim7 := { stood := { row := decimalBackRow, standIns := [], harness := (true, "2838225ad9d1de54dcf292623232011c14b7fae2deb5901ceaff0c4a85e81356"), looks := true }, kinds := [], alts := [], laidByText := true, laidKinds := [.data, .data, .widerDeep, .widerDeep, .data, .data, .data, .data, .data, .data, .sentinel, .sentinel, .pinned, .pinned, .pinned], laidTests := true, laidLooks := .later }
def DecimalBackCardSaid : Prop := Claim7.holds Tryz.pinned (.plain (OpenSpec.ofChange decimalBackSpec)) decimalBackCard

/-- THE TIED CARD OF 'gaugerlaw21.DecimalWhole'. -/
def decimalWholeCard : Claim7 := { stood := { row := decimalWholeRow, standIns := [], harness := (true, "2838225ad9d1de54dcf292623232011c14b7fae2deb5901ceaff0c4a85e81356"), looks := true }, kinds := [], alts := [], laidByText := true, laidKinds := [.data, .data, .widerDeep, .widerDeep, .data, .data, .data, .data, .data, .data, .sentinel, .sentinel, .pinned, .pinned, .pinned], laidTests := true, laidLooks := .later }
def DecimalWholeCardSaid : Prop := Claim7.holds Tryz.pinned (.plain (OpenSpec.ofChange decimalWholeSpec)) decimalWholeCard

/-- THE TIED CARD OF 'gaugerlaw21.DecimalTells'. -/
def decimalTellsCard : Claim7 := { stood := { row := decimalTellsRow, standIns := [], harness := (true, "2838225ad9d1de54dcf292623232011c14b7fae2deb5901ceaff0c4a85e81356"), looks := true }, kinds := [], alts := [], laidByText := true, laidKinds := [.data, .data, .widerDeep, .widerDeep, .data, .data, .data, .data, .data, .data, .sentinel, .sentinel, .pinned, .pinned, .pinned], laidTests := true, laidLooks := .later }
def DecimalTellsCardSaid : Prop := Claim7.holds Tryz.pinned (.plain (OpenSpec.ofChange decimalTellsSpec)) decimalTellsCard

/-- THE TIED CARD OF 'gaugerlaw21.DecimalSmall'. -/
def decimalSmallCard : Claim7 := { stood := { row := decimalSmallRow, standIns := [], harness := (true, "2838225ad9d1de54dcf292623232011c14b7fae2deb5901ceaff0c4a85e81356"), looks := true }, kinds := [], alts := [], laidByText := true, laidKinds := [.data, .data, .widerDeep, .widerDeep, .data, .data, .data, .data, .data, .data, .sentinel, .sentinel, .pinned, .pinned, .pinned], laidTests := true, laidLooks := .later }
def DecimalSmallCardSaid : Prop := Claim7.holds Tryz.pinned (.plain (OpenSpec.ofChange decimalSmallSpec)) decimalSmallCard

/-- THE TIED CARD OF 'gaugerlaw21.DecimalMonotone'. -/
def decimalMonotoneCard : Claim7 := { stood := { row := decimalMonotoneRow, standIns := [], harness := (true, "2838225ad9d1de54dcf292623232011c14b7fae2deb5901ceaff0c4a85e81356"), looks := true }, kinds := [], alts := [], laidByText := true, laidKinds := [.data, .data, .widerDeep, .widerDeep, .data, .data, .data, .data, .data, .data, .sentinel, .sentinel, .pinned, .pinned, .pinned], laidTests := true, laidLooks := .later }
def DecimalMonotoneCardSaid : Prop := Claim7.holds Tryz.pinned (.plain (OpenSpec.ofChange decimalMonotoneSpec)) decimalMonotoneCard

/-- THE TIED CARD OF 'gaugerlaw21.DecimalNext'. -/
def decimalNextCard : Claim7 := { stood := { row := decimalNextRow, standIns := [], harness := (true, "2838225ad9d1de54dcf292623232011c14b7fae2deb5901ceaff0c4a85e81356"), looks := true }, kinds := [], alts := [], laidByText := true, laidKinds := [.data, .data, .widerDeep, .widerDeep, .data, .data, .data, .data, .data, .data, .sentinel, .sentinel, .pinned, .pinned, .pinned], laidTests := true, laidLooks := .later }
def DecimalNextCardSaid : Prop := Claim7.holds Tryz.pinned (.plain (OpenSpec.ofChange decimalNextSpec)) decimalNextCard

/-- THE TIED CARD OF 'gaugerlaw21.DecimalSame'. -/
def decimalSameCard : Claim7 := { stood := { row := decimalSameRow, standIns := [], harness := (true, "2838225ad9d1de54dcf292623232011c14b7fae2deb5901ceaff0c4a85e81356"), looks := true }, kinds := [], alts := [], laidByText := true, laidKinds := [.data, .data, .widerDeep, .widerDeep, .data, .data, .data, .data, .data, .data, .sentinel, .sentinel, .pinned, .pinned, .pinned], laidTests := true, laidLooks := .later }
def DecimalSameCardSaid : Prop := Claim7.holds Tryz.pinned (.plain (OpenSpec.ofChange decimalSameSpec)) decimalSameCard

/-- THE TIED CARD OF 'gaugerlaw21.DecimalWrong'. -/
def decimalWrongCard : Claim7 := { stood := { row := decimalWrongRow, standIns := [], harness := (true, "2838225ad9d1de54dcf292623232011c14b7fae2deb5901ceaff0c4a85e81356"), looks := true }, kinds := [], alts := [], laidByText := true, laidKinds := [.data, .data, .widerDeep, .widerDeep, .data, .data, .data, .data, .data, .data, .sentinel, .sentinel, .pinned, .pinned, .pinned], laidTests := true, laidLooks := .later }
def DecimalWrongCardSaid : Prop := Claim7.holds Tryz.pinned (.plain (OpenSpec.ofChange decimalWrongSpec)) decimalWrongCard

/-- THE SECOND FORM's CARD OF 'gaugerlaw21.DecimalParses'. -/
def decimalParsesUptoCard : Claim7 := { stood := { row := decimalParsesUptoRow, standIns := [], harness := (true, "2838225ad9d1de54dcf292623232011c14b7fae2deb5901ceaff0c4a85e81356"), looks := true }, kinds := [], alts := [], laidByText := true, laidKinds := [.data, .data, .widerDeep, .widerDeep, .data, .data, .data, .data, .data, .data, .sentinel, .sentinel, .pinned, .pinned, .pinned], laidTests := true, laidLooks := .later }
def DecimalParsesUptoCardSaid : Prop := Claim7.holds Tryz.pinned (.plain (OpenSpec.upto decimalParsesSpec)) decimalParsesUptoCard

/-- THE SECOND FORM's CARD OF 'gaugerlaw21.DecimalBack'. -/
def decimalBackUptoCard : Claim7 := { stood := { row := decimalBackUptoRow, standIns := [], harness := (true, "2838225ad9d1de54dcf292623232011c14b7fae2deb5901ceaff0c4a85e81356"), looks := true }, kinds := [], alts := [], laidByText := true, laidKinds := [.data, .data, .widerDeep, .widerDeep, .data, .data, .data, .data, .data, .data, .sentinel, .sentinel, .pinned, .pinned, .pinned], laidTests := true, laidLooks := .later }
def DecimalBackUptoCardSaid : Prop := Claim7.holds Tryz.pinned (.plain (OpenSpec.upto decimalBackSpec)) decimalBackUptoCard

/-- THE SECOND FORM's CARD OF 'gaugerlaw21.DecimalWhole'. -/
def decimalWholeUptoCard : Claim7 := { stood := { row := decimalWholeUptoRow, standIns := [], harness := (true, "2838225ad9d1de54dcf292623232011c14b7fae2deb5901ceaff0c4a85e81356"), looks := true }, kinds := [], alts := [], laidByText := true, laidKinds := [.data, .data, .widerDeep, .widerDeep, .data, .data, .data, .data, .data, .data, .sentinel, .sentinel, .pinned, .pinned, .pinned], laidTests := true, laidLooks := .later }
def DecimalWholeUptoCardSaid : Prop := Claim7.holds Tryz.pinned (.plain (OpenSpec.upto decimalWholeSpec)) decimalWholeUptoCard

/-- THE SECOND FORM's CARD OF 'gaugerlaw21.DecimalTells'. -/
def decimalTellsUptoCard : Claim7 := { stood := { row := decimalTellsUptoRow, standIns := [], harness := (true, "2838225ad9d1de54dcf292623232011c14b7fae2deb5901ceaff0c4a85e81356"), looks := true }, kinds := [], alts := [], laidByText := true, laidKinds := [.data, .data, .widerDeep, .widerDeep, .data, .data, .data, .data, .data, .data, .sentinel, .sentinel, .pinned, .pinned, .pinned], laidTests := true, laidLooks := .later }
def DecimalTellsUptoCardSaid : Prop := Claim7.holds Tryz.pinned (.plain (OpenSpec.upto decimalTellsSpec)) decimalTellsUptoCard

/-- THE SECOND FORM's CARD OF 'gaugerlaw21.DecimalSmall'. -/
def decimalSmallUptoCard : Claim7 := { stood := { row := decimalSmallUptoRow, standIns := [], harness := (true, "2838225ad9d1de54dcf292623232011c14b7fae2deb5901ceaff0c4a85e81356"), looks := true }, kinds := [], alts := [], laidByText := true, laidKinds := [.data, .data, .widerDeep, .widerDeep, .data, .data, .data, .data, .data, .data, .sentinel, .sentinel, .pinned, .pinned, .pinned], laidTests := true, laidLooks := .later }
def DecimalSmallUptoCardSaid : Prop := Claim7.holds Tryz.pinned (.plain (OpenSpec.upto decimalSmallSpec)) decimalSmallUptoCard

/-- THE SECOND FORM's CARD OF 'gaugerlaw21.DecimalMonotone'. -/
def decimalMonotoneUptoCard : Claim7 := { stood := { row := decimalMonotoneUptoRow, standIns := [], harness := (true, "2838225ad9d1de54dcf292623232011c14b7fae2deb5901ceaff0c4a85e81356"), looks := true }, kinds := [], alts := [], laidByText := true, laidKinds := [.data, .data, .widerDeep, .widerDeep, .data, .data, .data, .data, .data, .data, .sentinel, .sentinel, .pinned, .pinned, .pinned], laidTests := true, laidLooks := .later }
def DecimalMonotoneUptoCardSaid : Prop := Claim7.holds Tryz.pinned (.plain (OpenSpec.upto decimalMonotoneSpec)) decimalMonotoneUptoCard

/-- THE SECOND FORM's CARD OF 'gaugerlaw21.DecimalNext'. -/
def decimalNextUptoCard : Claim7 := { stood := { row := decimalNextUptoRow, standIns := [], harness := (true, "2838225ad9d1de54dcf292623232011c14b7fae2deb5901ceaff0c4a85e81356"), looks := true }, kinds := [], alts := [], laidByText := true, laidKinds := [.data, .data, .widerDeep, .widerDeep, .data, .data, .data, .data, .data, .data, .sentinel, .sentinel, .pinned, .pinned, .pinned], laidTests := true, laidLooks := .later }
def DecimalNextUptoCardSaid : Prop := Claim7.holds Tryz.pinned (.plain (OpenSpec.upto decimalNextSpec)) decimalNextUptoCard

/-- THE SECOND FORM's CARD OF 'gaugerlaw21.DecimalSame'. -/
def decimalSameUptoCard : Claim7 := { stood := { row := decimalSameUptoRow, standIns := [], harness := (true, "2838225ad9d1de54dcf292623232011c14b7fae2deb5901ceaff0c4a85e81356"), looks := true }, kinds := [], alts := [], laidByText := true, laidKinds := [.data, .data, .widerDeep, .widerDeep, .data, .data, .data, .data, .data, .data, .sentinel, .sentinel, .pinned, .pinned, .pinned], laidTests := true, laidLooks := .later }
def DecimalSameUptoCardSaid : Prop := Claim7.holds Tryz.pinned (.plain (OpenSpec.upto decimalSameSpec)) decimalSameUptoCard

/-- THE SECOND FORM's CARD OF 'gaugerlaw21.DecimalWrong'. -/
def decimalWrongUptoCard : Claim7 := { stood := { row := decimalWrongUptoRow, standIns := [], harness := (true, "2838225ad9d1de54dcf292623232011c14b7fae2deb5901ceaff0c4a85e81356"), looks := true }, kinds := [], alts := [], laidByText := true, laidKinds := [.data, .data, .widerDeep, .widerDeep, .data, .data, .data, .data, .data, .data, .sentinel, .sentinel, .pinned, .pinned, .pinned], laidTests := true, laidLooks := .later }
def DecimalWrongUptoCardSaid : Prop := Claim7.holds Tryz.pinned (.plain (OpenSpec.upto decimalWrongSpec)) decimalWrongUptoCard
end Rows
end Go.Proofs.YtaidemghhagniaaGreatDoor
