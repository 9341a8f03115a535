/-
  DERIVED. GIVEN WITH THE SEED: THE CARDS: each row of YtdeimnnpcfncpaaGreatDoorRows.lean that lists a variable, with what it lists TIED to the program's text (the seventh form; the later family's looks); each row that meets fmt, with fmt's text TOLD by the authors' own Lean function (tested against real Go, not proved from fmt's source: count such statements apart). THE CARD IS WHAT COUNTS. Prove the row's statement (the work); the ties are given (YtdeimnnpcfncpaaGreatDoorTie.lean); close each card by the builder's one call (the guide's Derived/Test/ToyasCard.lean, 'card_holds'). Laid BY PROGRAM, IN A SANDBOX (cutbox-door.mjs). By AI agents, Wed Nov 11 2026. No macro, syntax, notation, axiom, sorry.
-/
import Derived.Test.YtdeimnnpcfncpaaGreatDoorRows
import GoSem.ClaimSeven
namespace Go.Proofs.YtdeimnnpcfncpaaGreatDoor
namespace Rows

/-- THE TIED CARD OF 'gaugerlaw23.ExpoWrong'. -/
def expoWrongCard : Claim7 := { stood := { row := expoWrongRow, standIns := [], harness := (true, "acf84b4e2cc827a6a789118706dd83307db29091cd473f2f7b7ca7981a675823"), looks := true }, kinds := [], alts := [], laidByText := true, laidKinds := [.data, .data, .widerDeep, .widerDeep, .data, .data, .data, .data, .data, .data, .sentinel, .sentinel, .pinned, .pinned, .pinned], laidTests := true, laidLooks := .later }
def ExpoWrongCardSaid : Prop := Claim7.holds Tryz.pinned (.plain (OpenSpec.ofChange expoWrongSpec)) expoWrongCard

/-- THE TIED CARD OF 'gaugerlaw23.ExpoBlanks'. -/
def expoBlanksCard : Claim7 := { stood := { row := expoBlanksRow, standIns := [], harness := (true, "acf84b4e2cc827a6a789118706dd83307db29091cd473f2f7b7ca7981a675823"), looks := true }, kinds := [], alts := [], laidByText := true, laidKinds := [.data, .data, .widerDeep, .widerDeep, .data, .data, .data, .data, .data, .data, .sentinel, .sentinel, .pinned, .pinned, .pinned], laidTests := true, laidLooks := .later }
def ExpoBlanksCardSaid : Prop := Claim7.holds Tryz.pinned (.plain (OpenSpec.ofChange expoBlanksSpec)) expoBlanksCard

/-- THE TIED CARD OF 'gaugerlaw23.ExpoReads'. -/
def expoReadsCard : Claim7 := { stood := { row := expoReadsRow, standIns := [], harness := (true, "acf84b4e2cc827a6a789118706dd83307db29091cd473f2f7b7ca7981a675823"), looks := true }, kinds := [], alts := [], laidByText := true, laidKinds := [.data, .data, .widerDeep, .widerDeep, .data, .data, .data, .data, .data, .data, .sentinel, .sentinel, .pinned, .pinned, .pinned], laidTests := true, laidLooks := .later }
def ExpoReadsCardSaid : Prop := Claim7.holds Tryz.pinned (.plain (OpenSpec.ofChange expoReadsSpec)) expoReadsCard

/-- THE TIED CARD OF 'gaugerlaw23.ExpoRight'. -/
def expoRightCard : Claim7 := { stood := { row := expoRightRow, standIns := [], harness := (true, "acf84b4e2cc827a6a789118706dd83307db29091cd473f2f7b7ca7981a675823"), looks := true }, kinds := [], alts := [], laidByText := true, laidKinds := [.data, .data, .widerDeep, .widerDeep, .data, .data, .data, .data, .data, .data, .sentinel, .sentinel, .pinned, .pinned, .pinned], laidTests := true, laidLooks := .later }
def ExpoRightCardSaid : Prop := Claim7.holds Tryz.pinned (.plain (OpenSpec.ofChange expoRightSpec)) expoRightCard

/-- THE TIED CARD OF 'gaugerlaw23.ExpoParses'. -/
def expoParsesCard : Claim7 := { stood := { row := expoParsesRow, standIns := [], harness := (true, "acf84b4e2cc827a6a789118706dd83307db29091cd473f2f7b7ca7981a675823"), looks := true }, kinds := [], alts := [], laidByText := true, laidKinds := [.data, .data, .widerDeep, .widerDeep, .data, .data, .data, .data, .data, .data, .sentinel, .sentinel, .pinned, .pinned, .pinned], laidTests := true, laidLooks := .later }
def ExpoParsesCardSaid : Prop := Claim7.holds Tryz.pinned (.plain (OpenSpec.ofChange expoParsesSpec)) expoParsesCard

/-- THE TIED CARD OF 'gaugerlaw23.ExpoWrites'. -/
def expoWritesCard : Claim7 := { stood := { row := expoWritesRow, standIns := [], harness := (true, "acf84b4e2cc827a6a789118706dd83307db29091cd473f2f7b7ca7981a675823"), looks := true }, kinds := [], alts := [], laidByText := true, laidKinds := [.data, .data, .widerDeep, .widerDeep, .data, .data, .data, .data, .data, .data, .sentinel, .sentinel, .pinned, .pinned, .pinned], laidTests := true, laidLooks := .later }
def ExpoWritesCardSaid : Prop := Claim7.holds Tryz.pinned (.plain (OpenSpec.ofChange expoWritesSpec)) expoWritesCard

/-- THE TIED CARD OF 'gaugerlaw23.ExpoBack'. -/
def expoBackCard : Claim7 := { stood := { row := expoBackRow, standIns := [], harness := (true, "acf84b4e2cc827a6a789118706dd83307db29091cd473f2f7b7ca7981a675823"), looks := true }, kinds := [], alts := [], laidByText := true, laidKinds := [.data, .data, .widerDeep, .widerDeep, .data, .data, .data, .data, .data, .data, .sentinel, .sentinel, .pinned, .pinned, .pinned], laidTests := true, laidLooks := .later }
def ExpoBackCardSaid : Prop := Claim7.holds Tryz.pinned (.plain (OpenSpec.ofChange expoBackSpec)) expoBackCard

/-- THE TIED CARD OF 'gaugerlaw23.ExpoLines'. -/
def expoLinesCard : Claim7 := { stood := { row := expoLinesRow, standIns := [], harness := (true, "acf84b4e2cc827a6a789118706dd83307db29091cd473f2f7b7ca7981a675823"), looks := true }, kinds := [], alts := [], laidByText := true, laidKinds := [.data, .data, .widerDeep, .widerDeep, .data, .data, .data, .data, .data, .data, .sentinel, .sentinel, .pinned, .pinned, .pinned], laidTests := true, laidLooks := .later }
def ExpoLinesCardSaid : Prop := Claim7.holds Tryz.pinned (.plain (OpenSpec.ofChange expoLinesSpec)) expoLinesCard

/-- THE TIED CARD OF 'gaugerlaw23.ExpoSmall'. -/
def expoSmallCard : Claim7 := { stood := { row := expoSmallRow, standIns := [], harness := (true, "acf84b4e2cc827a6a789118706dd83307db29091cd473f2f7b7ca7981a675823"), looks := true }, kinds := [], alts := [], laidByText := true, laidKinds := [.data, .data, .widerDeep, .widerDeep, .data, .data, .data, .data, .data, .data, .sentinel, .sentinel, .pinned, .pinned, .pinned], laidTests := true, laidLooks := .later }
def ExpoSmallCardSaid : Prop := Claim7.holds Tryz.pinned (.plain (OpenSpec.ofChange expoSmallSpec)) expoSmallCard

/-- THE TIED CARD OF 'gaugerlaw23.ExpoTells'. -/
def expoTellsCard : Claim7 := { stood := { row := expoTellsRow, standIns := [], harness := (true, "acf84b4e2cc827a6a789118706dd83307db29091cd473f2f7b7ca7981a675823"), looks := true }, kinds := [], alts := [], laidByText := true, laidKinds := [.data, .data, .widerDeep, .widerDeep, .data, .data, .data, .data, .data, .data, .sentinel, .sentinel, .pinned, .pinned, .pinned], laidTests := true, laidLooks := .later }
def ExpoTellsCardSaid : Prop := Claim7.holds Tryz.pinned (.plain (OpenSpec.ofChange expoTellsSpec)) expoTellsCard

/-- THE SECOND FORM's CARD OF 'gaugerlaw23.ExpoWrong'. -/
def expoWrongUptoCard : Claim7 := { stood := { row := expoWrongUptoRow, standIns := [], harness := (true, "acf84b4e2cc827a6a789118706dd83307db29091cd473f2f7b7ca7981a675823"), looks := true }, kinds := [], alts := [], laidByText := true, laidKinds := [.data, .data, .widerDeep, .widerDeep, .data, .data, .data, .data, .data, .data, .sentinel, .sentinel, .pinned, .pinned, .pinned], laidTests := true, laidLooks := .later }
def ExpoWrongUptoCardSaid : Prop := Claim7.holds Tryz.pinned (.plain (OpenSpec.upto expoWrongSpec)) expoWrongUptoCard

/-- THE SECOND FORM's CARD OF 'gaugerlaw23.ExpoBlanks'. -/
def expoBlanksUptoCard : Claim7 := { stood := { row := expoBlanksUptoRow, standIns := [], harness := (true, "acf84b4e2cc827a6a789118706dd83307db29091cd473f2f7b7ca7981a675823"), looks := true }, kinds := [], alts := [], laidByText := true, laidKinds := [.data, .data, .widerDeep, .widerDeep, .data, .data, .data, .data, .data, .data, .sentinel, .sentinel, .pinned, .pinned, .pinned], laidTests := true, laidLooks := .later }
def ExpoBlanksUptoCardSaid : Prop := Claim7.holds Tryz.pinned (.plain (OpenSpec.upto expoBlanksSpec)) expoBlanksUptoCard

/-- THE SECOND FORM's CARD OF 'gaugerlaw23.ExpoReads'. -/
def expoReadsUptoCard : Claim7 := { stood := { row := expoReadsUptoRow, standIns := [], harness := (true, "acf84b4e2cc827a6a789118706dd83307db29091cd473f2f7b7ca7981a675823"), looks := true }, kinds := [], alts := [], laidByText := true, laidKinds := [.data, .data, .widerDeep, .widerDeep, .data, .data, .data, .data, .data, .data, .sentinel, .sentinel, .pinned, .pinned, .pinned], laidTests := true, laidLooks := .later }
def ExpoReadsUptoCardSaid : Prop := Claim7.holds Tryz.pinned (.plain (OpenSpec.upto expoReadsSpec)) expoReadsUptoCard

/-- THE SECOND FORM's CARD OF 'gaugerlaw23.ExpoRight'. -/
def expoRightUptoCard : Claim7 := { stood := { row := expoRightUptoRow, standIns := [], harness := (true, "acf84b4e2cc827a6a789118706dd83307db29091cd473f2f7b7ca7981a675823"), looks := true }, kinds := [], alts := [], laidByText := true, laidKinds := [.data, .data, .widerDeep, .widerDeep, .data, .data, .data, .data, .data, .data, .sentinel, .sentinel, .pinned, .pinned, .pinned], laidTests := true, laidLooks := .later }
def ExpoRightUptoCardSaid : Prop := Claim7.holds Tryz.pinned (.plain (OpenSpec.upto expoRightSpec)) expoRightUptoCard

/-- THE SECOND FORM's CARD OF 'gaugerlaw23.ExpoParses'. -/
def expoParsesUptoCard : Claim7 := { stood := { row := expoParsesUptoRow, standIns := [], harness := (true, "acf84b4e2cc827a6a789118706dd83307db29091cd473f2f7b7ca7981a675823"), looks := true }, kinds := [], alts := [], laidByText := true, laidKinds := [.data, .data, .widerDeep, .widerDeep, .data, .data, .data, .data, .data, .data, .sentinel, .sentinel, .pinned, .pinned, .pinned], laidTests := true, laidLooks := .later }
def ExpoParsesUptoCardSaid : Prop := Claim7.holds Tryz.pinned (.plain (OpenSpec.upto expoParsesSpec)) expoParsesUptoCard

/-- THE SECOND FORM's CARD OF 'gaugerlaw23.ExpoWrites'. -/
def expoWritesUptoCard : Claim7 := { stood := { row := expoWritesUptoRow, standIns := [], harness := (true, "acf84b4e2cc827a6a789118706dd83307db29091cd473f2f7b7ca7981a675823"), looks := true }, kinds := [], alts := [], laidByText := true, laidKinds := [.data, .data, .widerDeep, .widerDeep, .data, .data, .data, .data, .data, .data, .sentinel, .sentinel, .pinned, .pinned, .pinned], laidTests := true, laidLooks := .later }
def ExpoWritesUptoCardSaid : Prop := Claim7.holds Tryz.pinned (.plain (OpenSpec.upto expoWritesSpec)) expoWritesUptoCard

/-- THE SECOND FORM's CARD OF 'gaugerlaw23.ExpoBack'. -/
def expoBackUptoCard : Claim7 := { stood := { row := expoBackUptoRow, standIns := [], harness := (true, "acf84b4e2cc827a6a789118706dd83307db29091cd473f2f7b7ca7981a675823"), looks := true }, kinds := [], alts := [], laidByText := true, laidKinds := [.data, .data, .widerDeep, .widerDeep, .data, .data, .data, .data, .data, .data, .sentinel, .sentinel, .pinned, .pinned, .pinned], laidTests := true, laidLooks := .later }
def ExpoBackUptoCardSaid : Prop := Claim7.holds Tryz.pinned (.plain (OpenSpec.upto expoBackSpec)) expoBackUptoCard

/-- THE SECOND FORM's CARD OF 'gaugerlaw23.ExpoLines'. -/
def expoLinesUptoCard : Claim7 := { stood := { row := expoLinesUptoRow, standIns := [], harness := (true, "acf84b4e2cc827a6a789118706dd83307db29091cd473f2f7b7ca7981a675823"), looks := true }, kinds := [], alts := [], laidByText := true, laidKinds := [.data, .data, .widerDeep, .widerDeep, .data, .data, .data, .data, .data, .data, .sentinel, .sentinel, .pinned, .pinned, .pinned], laidTests := true, laidLooks := .later }
def ExpoLinesUptoCardSaid : Prop := Claim7.holds Tryz.pinned (.plain (OpenSpec.upto expoLinesSpec)) expoLinesUptoCard

/-- THE SECOND FORM's CARD OF 'gaugerlaw23.ExpoSmall'. -/
def expoSmallUptoCard : Claim7 := { stood := { row := expoSmallUptoRow, standIns := [], harness := (true, "acf84b4e2cc827a6a789118706dd83307db29091cd473f2f7b7ca7981a675823"), looks := true }, kinds := [], alts := [], laidByText := true, laidKinds := [.data, .data, .widerDeep, .widerDeep, .data, .data, .data, .data, .data, .data, .sentinel, .sentinel, .pinned, .pinned, .pinned], laidTests := true, laidLooks := .later }
def ExpoSmallUptoCardSaid : Prop := Claim7.holds Tryz.pinned (.plain (OpenSpec.upto expoSmallSpec)) expoSmallUptoCard

/-- THE SECOND FORM's CARD OF 'gaugerlaw23.ExpoTells'. -/
def expoTellsUptoCard : Claim7 := { stood := { row := expoTellsUptoRow, standIns := [], harness := (true, "acf84b4e2cc827a6a789118706dd83307db29091cd473f2f7b7ca7981a675823"), looks := true }, kinds := [], alts := [], laidByText := true, laidKinds := [.data, .data, .widerDeep, .widerDeep, .data, .data, .data, .data, .data, .data, .sentinel, .sentinel, .pinned, .pinned, .pinned], laidTests := true, laidLooks := .later }
def ExpoTellsUptoCardSaid : Prop := Claim7.holds Tryz.pinned (.plain (OpenSpec.upto expoTellsSpec)) expoTellsUptoCard
end Rows
end Go.Proofs.YtdeimnnpcfncpaaGreatDoor
