/-
  DERIVED. GIVEN WITH THE SEED: THE CARDS: each row of YtiapkindbbbdpaaDoorRows.lean that lists a variable, with what it lists TIED to the program's text (the seventh form; the later family's looks); each row that meets fmt, with fmt's text TOLD by the authors' own Lean function (tested against real Go, not proved from fmt's source: count such statements apart). THE CARD IS WHAT COUNTS. Prove the row's statement (the work); the ties are given (YtiapkindbbbdpaaDoorTie.lean); close each card by the builder's one call (the guide's Derived/Test/ToyasCard.lean, 'card_holds'). Laid BY PROGRAM, IN A SANDBOX (cutbox-door.mjs). By AI agents, Wed Nov 11 2026. No macro, syntax, notation, axiom, sorry.
-/
import Derived.Test.YtiapkindbbbdpaaDoorRows
import GoSem.ClaimSeven
namespace Go.Proofs.YtiapkindbbbdpaaDoor
namespace Rows

/-- THE TIED CARD OF 'gaugerlaw25.LineReads'. -/
def lineReadsCard : Claim7 := { stood := { row := lineReadsRow, standIns := [], harness := (true, "bb0d73ce6c4dae529b9650552884a589c642c64e27f230164ce1459cf1894368"), looks := true }, kinds := [], alts := [], laidByText := true, laidKinds := [.data, .data, .data, .data, .sentinel, .sentinel, .pinned], laidTests := true, laidLooks := .later }
def LineReadsCardSaid : Prop := Claim7.holds Tryd.pinned (.plain (OpenSpec.ofChange lineReadsSpec)) lineReadsCard

/-- THE TIED CARD OF 'gaugerlaw25.LineNumbers'. -/
def lineNumbersCard : Claim7 := { stood := { row := lineNumbersRow, standIns := [], harness := (true, "bb0d73ce6c4dae529b9650552884a589c642c64e27f230164ce1459cf1894368"), looks := true }, kinds := [], alts := [], laidByText := true, laidKinds := [.data, .data, .data, .data, .sentinel, .sentinel, .pinned], laidTests := true, laidLooks := .later }
def LineNumbersCardSaid : Prop := Claim7.holds Tryd.pinned (.plain (OpenSpec.ofChange lineNumbersSpec)) lineNumbersCard

/-- THE TIED CARD OF 'gaugerlaw25.LineNumbered'. -/
def lineNumberedCard : Claim7 := { stood := { row := lineNumberedRow, standIns := [], harness := (true, "bb0d73ce6c4dae529b9650552884a589c642c64e27f230164ce1459cf1894368"), looks := true }, kinds := [], alts := [], laidByText := true, laidKinds := [.data, .data, .data, .data, .sentinel, .sentinel, .pinned], laidTests := true, laidLooks := .later }
def LineNumberedCardSaid : Prop := Claim7.holds Tryd.pinned (.plain (OpenSpec.ofChange lineNumberedSpec)) lineNumberedCard

/-- THE TIED CARD OF 'gaugerlaw25.LineOf'. -/
def lineOfCard : Claim7 := { stood := { row := lineOfRow, standIns := [], harness := (true, "bb0d73ce6c4dae529b9650552884a589c642c64e27f230164ce1459cf1894368"), looks := true }, kinds := [], alts := [], laidByText := true, laidKinds := [.data, .data, .data, .data, .sentinel, .sentinel, .pinned], laidTests := true, laidLooks := .later }
def LineOfCardSaid : Prop := Claim7.holds Tryd.pinned (.plain (OpenSpec.ofChange lineOfSpec)) lineOfCard

/-- THE TIED CARD OF 'gaugerlaw25.LineWrong'. -/
def lineWrongCard : Claim7 := { stood := { row := lineWrongRow, standIns := [], harness := (true, "bb0d73ce6c4dae529b9650552884a589c642c64e27f230164ce1459cf1894368"), looks := true }, kinds := [], alts := [], laidByText := true, laidKinds := [.data, .data, .data, .data, .sentinel, .sentinel, .pinned], laidTests := true, laidLooks := .later }
def LineWrongCardSaid : Prop := Claim7.holds Tryd.pinned (.plain (OpenSpec.ofChange lineWrongSpec)) lineWrongCard

/-- THE TIED CARD OF 'gaugerlaw25.LineBack'. -/
def lineBackCard : Claim7 := { stood := { row := lineBackRow, standIns := [], harness := (true, "bb0d73ce6c4dae529b9650552884a589c642c64e27f230164ce1459cf1894368"), looks := true }, kinds := [], alts := [], laidByText := true, laidKinds := [.data, .data, .data, .data, .sentinel, .sentinel, .pinned], laidTests := true, laidLooks := .later }
def LineBackCardSaid : Prop := Claim7.holds Tryd.pinned (.plain (OpenSpec.ofChange lineBackSpec)) lineBackCard

/-- THE TIED CARD OF 'gaugerlaw25.LineBlanks'. -/
def lineBlanksCard : Claim7 := { stood := { row := lineBlanksRow, standIns := [], harness := (true, "bb0d73ce6c4dae529b9650552884a589c642c64e27f230164ce1459cf1894368"), looks := true }, kinds := [], alts := [], laidByText := true, laidKinds := [.data, .data, .data, .data, .sentinel, .sentinel, .pinned], laidTests := true, laidLooks := .later }
def LineBlanksCardSaid : Prop := Claim7.holds Tryd.pinned (.plain (OpenSpec.ofChange lineBlanksSpec)) lineBlanksCard

/-- THE SECOND FORM's CARD OF 'gaugerlaw25.LineReads'. -/
def lineReadsUptoCard : Claim7 := { stood := { row := lineReadsUptoRow, standIns := [], harness := (true, "bb0d73ce6c4dae529b9650552884a589c642c64e27f230164ce1459cf1894368"), looks := true }, kinds := [], alts := [], laidByText := true, laidKinds := [.data, .data, .data, .data, .sentinel, .sentinel, .pinned], laidTests := true, laidLooks := .later }
def LineReadsUptoCardSaid : Prop := Claim7.holds Tryd.pinned (.plain (OpenSpec.upto lineReadsSpec)) lineReadsUptoCard

/-- THE SECOND FORM's CARD OF 'gaugerlaw25.LineNumbers'. -/
def lineNumbersUptoCard : Claim7 := { stood := { row := lineNumbersUptoRow, standIns := [], harness := (true, "bb0d73ce6c4dae529b9650552884a589c642c64e27f230164ce1459cf1894368"), looks := true }, kinds := [], alts := [], laidByText := true, laidKinds := [.data, .data, .data, .data, .sentinel, .sentinel, .pinned], laidTests := true, laidLooks := .later }
def LineNumbersUptoCardSaid : Prop := Claim7.holds Tryd.pinned (.plain (OpenSpec.upto lineNumbersSpec)) lineNumbersUptoCard

/-- THE SECOND FORM's CARD OF 'gaugerlaw25.LineNumbered'. -/
def lineNumberedUptoCard : Claim7 := { stood := { row := lineNumberedUptoRow, standIns := [], harness := (true, "bb0d73ce6c4dae529b9650552884a589c642c64e27f230164ce1459cf1894368"), looks := true }, kinds := [], alts := [], laidByText := true, laidKinds := [.data, .data, .data, .data, .sentinel, .sentinel, .pinned], laidTests := true, laidLooks := .later }
def LineNumberedUptoCardSaid : Prop := Claim7.holds Tryd.pinned (.plain (OpenSpec.upto lineNumberedSpec)) lineNumberedUptoCard

/-- THE SECOND FORM's CARD OF 'gaugerlaw25.LineOf'. -/
def lineOfUptoCard : Claim7 := { stood := { row := lineOfUptoRow, standIns := [], harness := (true, "bb0d73ce6c4dae529b9650552884a589c642c64e27f230164ce1459cf1894368"), looks := true }, kinds := [], alts := [], laidByText := true, laidKinds := [.data, .data, .data, .data, .sentinel, .sentinel, .pinned], laidTests := true, laidLooks := .later }
def LineOfUptoCardSaid : Prop := Claim7.holds Tryd.pinned (.plain (OpenSpec.upto lineOfSpec)) lineOfUptoCard

/-- THE SECOND FORM's CARD OF 'gaugerlaw25.LineWrong'. -/
def lineWrongUptoCard : Claim7 := { stood := { row := lineWrongUptoRow, standIns := [], harness := (true, "bb0d73ce6c4dae529b9650552884a589c642c64e27f230164ce1459cf1894368"), looks := true }, kinds := [], alts := [], laidByText := true, laidKinds := [.data, .data, .data, .data, .sentinel, .sentinel, .pinned], laidTests := true, laidLooks := .later }
def LineWrongUptoCardSaid : Prop := Claim7.holds Tryd.pinned (.plain (OpenSpec.upto lineWrongSpec)) lineWrongUptoCard

/-- THE SECOND FORM's CARD OF 'gaugerlaw25.LineBack'. -/
def lineBackUptoCard : Claim7 := { stood := { row := lineBackUptoRow, standIns := [], harness := (true, "bb0d73ce6c4dae529b9650552884a589c642c64e27f230164ce1459cf1894368"), looks := true }, kinds := [], alts := [], laidByText := true, laidKinds := [.data, .data, .data, .data, .sentinel, .sentinel, .pinned], laidTests := true, laidLooks := .later }
def LineBackUptoCardSaid : Prop := Claim7.holds Tryd.pinned (.plain (OpenSpec.upto lineBackSpec)) lineBackUptoCard

/-- THE SECOND FORM's CARD OF 'gaugerlaw25.LineBlanks'. -/
def lineBlanksUptoCard : Claim7 := { stood := { row := lineBlanksUptoRow, standIns := [], harness := (true, "bb0d73ce6c4dae529b9650552884a589c642c64e27f230164ce1459cf1894368"), looks := true }, kinds := [], alts := [], laidByText := true, laidKinds := [.data, .data, .data, .data, .sentinel, .sentinel, .pinned], laidTests := true, laidLooks := .later }
def LineBlanksUptoCardSaid : Prop := Claim7.holds Tryd.pinned (.plain (OpenSpec.upto lineBlanksSpec)) lineBlanksUptoCard
end Rows
end Go.Proofs.YtiapkindbbbdpaaDoor
