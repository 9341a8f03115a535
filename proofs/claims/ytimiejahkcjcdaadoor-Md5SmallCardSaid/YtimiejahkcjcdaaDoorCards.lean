/-
  DERIVED. GIVEN WITH THE SEED: THE CARDS: each row of YtimiejahkcjcdaaDoorRows.lean that lists a variable, with what it lists TIED to the program's text (the seventh form; the later family's looks); each row that meets fmt, with fmt's text TOLD by the authors' own Lean function (tested against real Go, not proved from fmt's source: count such statements apart). THE CARD IS WHAT COUNTS. Prove the row's statement (the work); the ties are given (YtimiejahkcjcdaaDoorTie.lean); close each card by the builder's one call (the guide's Derived/Test/ToyasCard.lean, 'card_holds'). Laid BY PROGRAM, IN A SANDBOX (cutbox-door.mjs). By AI agents, Wed Nov 11 2026. No macro, syntax, notation, axiom, sorry.
-/
import Derived.Test.YtimiejahkcjcdaaDoorRows
import GoSem.ClaimSeven
namespace Go.Proofs.YtimiejahkcjcdaaDoor
namespace Rows

/-- THE TIED CARD OF 'gaugerlaw03.Md5Pads'. -/
def md5PadsCard : Claim7 := { stood := { row := md5PadsRow, standIns := [], harness := (true, "207d975658373f4aedb97e9749afb676a39d0b24667049f262089b8ea494db57"), looks := false }, kinds := [], alts := [], laidByText := true, laidKinds := [.data, .data], laidTests := true, laidLooks := .later }
def Md5PadsCardSaid : Prop := Claim7.holds Tryd.pinned (.plain (OpenSpec.ofChange md5PadsSpec)) md5PadsCard

/-- THE TIED CARD OF 'gaugerlaw03.Md5Blocks'. -/
def md5BlocksCard : Claim7 := { stood := { row := md5BlocksRow, standIns := [], harness := (true, "207d975658373f4aedb97e9749afb676a39d0b24667049f262089b8ea494db57"), looks := false }, kinds := [], alts := [], laidByText := true, laidKinds := [.data, .data], laidTests := true, laidLooks := .later }
def Md5BlocksCardSaid : Prop := Claim7.holds Tryd.pinned (.plain (OpenSpec.ofChange md5BlocksSpec)) md5BlocksCard

/-- THE TIED CARD OF 'gaugerlaw03.Md5Steps'. -/
def md5StepsCard : Claim7 := { stood := { row := md5StepsRow, standIns := [], harness := (true, "207d975658373f4aedb97e9749afb676a39d0b24667049f262089b8ea494db57"), looks := false }, kinds := [], alts := [], laidByText := true, laidKinds := [.data, .data], laidTests := true, laidLooks := .later }
def Md5StepsCardSaid : Prop := Claim7.holds Tryd.pinned (.plain (OpenSpec.ofChange md5StepsSpec)) md5StepsCard

/-- THE TIED CARD OF 'gaugerlaw03.Md5Tells'. -/
def md5TellsCard : Claim7 := { stood := { row := md5TellsRow, standIns := [], harness := (true, "207d975658373f4aedb97e9749afb676a39d0b24667049f262089b8ea494db57"), looks := false }, kinds := [], alts := [], laidByText := true, laidKinds := [.data, .data], laidTests := true, laidLooks := .later }
def Md5TellsCardSaid : Prop := Claim7.holds Tryd.pinned (.plain (OpenSpec.ofChange md5TellsSpec)) md5TellsCard

/-- THE TIED CARD OF 'gaugerlaw03.Md5Wrong'. -/
def md5WrongCard : Claim7 := { stood := { row := md5WrongRow, standIns := [], harness := (true, "207d975658373f4aedb97e9749afb676a39d0b24667049f262089b8ea494db57"), looks := false }, kinds := [], alts := [], laidByText := true, laidKinds := [.data, .data], laidTests := true, laidLooks := .later }
def Md5WrongCardSaid : Prop := Claim7.holds Tryd.pinned (.plain (OpenSpec.ofChange md5WrongSpec)) md5WrongCard

/-- THE TIED CARD OF 'gaugerlaw03.Md5Texts'. -/
def md5TextsCard : Claim7 := { stood := { row := md5TextsRow, standIns := [], harness := (true, "207d975658373f4aedb97e9749afb676a39d0b24667049f262089b8ea494db57"), looks := false }, kinds := [], alts := [], laidByText := true, laidKinds := [.data, .data], laidTests := true, laidLooks := .later }
def Md5TextsCardSaid : Prop := Claim7.holds Tryd.pinned (.plain (OpenSpec.ofChange md5TextsSpec)) md5TextsCard

/-- THE TIED CARD OF 'gaugerlaw03.Md5Parts'. -/
def md5PartsCard : Claim7 := { stood := { row := md5PartsRow, standIns := [], harness := (true, "207d975658373f4aedb97e9749afb676a39d0b24667049f262089b8ea494db57"), looks := false }, kinds := [], alts := [], laidByText := true, laidKinds := [.data, .data], laidTests := true, laidLooks := .later }
def Md5PartsCardSaid : Prop := Claim7.holds Tryd.pinned (.plain (OpenSpec.ofChange md5PartsSpec)) md5PartsCard

/-- THE TIED CARD OF 'gaugerlaw03.Md5Pieces'. -/
def md5PiecesCard : Claim7 := { stood := { row := md5PiecesRow, standIns := [], harness := (true, "207d975658373f4aedb97e9749afb676a39d0b24667049f262089b8ea494db57"), looks := false }, kinds := [], alts := [], laidByText := true, laidKinds := [.data, .data], laidTests := true, laidLooks := .later }
def Md5PiecesCardSaid : Prop := Claim7.holds Tryd.pinned (.plain (OpenSpec.ofChange md5PiecesSpec)) md5PiecesCard

/-- THE TIED CARD OF 'gaugerlaw03.Md5Cuts'. -/
def md5CutsCard : Claim7 := { stood := { row := md5CutsRow, standIns := [], harness := (true, "207d975658373f4aedb97e9749afb676a39d0b24667049f262089b8ea494db57"), looks := false }, kinds := [], alts := [], laidByText := true, laidKinds := [.data, .data], laidTests := true, laidLooks := .later }
def Md5CutsCardSaid : Prop := Claim7.holds Tryd.pinned (.plain (OpenSpec.ofChange md5CutsSpec)) md5CutsCard

/-- THE TIED CARD OF 'gaugerlaw03.Md5Small'. -/
def md5SmallCard : Claim7 := { stood := { row := md5SmallRow, standIns := [], harness := (true, "207d975658373f4aedb97e9749afb676a39d0b24667049f262089b8ea494db57"), looks := false }, kinds := [], alts := [], laidByText := true, laidKinds := [.data, .data], laidTests := true, laidLooks := .later }
def Md5SmallCardSaid : Prop := Claim7.holds Tryd.pinned (.plain (OpenSpec.ofChange md5SmallSpec)) md5SmallCard

/-- THE SECOND FORM's CARD OF 'gaugerlaw03.Md5Pads'. -/
def md5PadsUptoCard : Claim7 := { stood := { row := md5PadsUptoRow, standIns := [], harness := (true, "207d975658373f4aedb97e9749afb676a39d0b24667049f262089b8ea494db57"), looks := false }, kinds := [], alts := [], laidByText := true, laidKinds := [.data, .data], laidTests := true, laidLooks := .later }
def Md5PadsUptoCardSaid : Prop := Claim7.holds Tryd.pinned (.plain (OpenSpec.upto md5PadsSpec)) md5PadsUptoCard

/-- THE SECOND FORM's CARD OF 'gaugerlaw03.Md5Blocks'. -/
def md5BlocksUptoCard : Claim7 := { stood := { row := md5BlocksUptoRow, standIns := [], harness := (true, "207d975658373f4aedb97e9749afb676a39d0b24667049f262089b8ea494db57"), looks := false }, kinds := [], alts := [], laidByText := true, laidKinds := [.data, .data], laidTests := true, laidLooks := .later }
def Md5BlocksUptoCardSaid : Prop := Claim7.holds Tryd.pinned (.plain (OpenSpec.upto md5BlocksSpec)) md5BlocksUptoCard

/-- THE SECOND FORM's CARD OF 'gaugerlaw03.Md5Steps'. -/
def md5StepsUptoCard : Claim7 := { stood := { row := md5StepsUptoRow, standIns := [], harness := (true, "207d975658373f4aedb97e9749afb676a39d0b24667049f262089b8ea494db57"), looks := false }, kinds := [], alts := [], laidByText := true, laidKinds := [.data, .data], laidTests := true, laidLooks := .later }
def Md5StepsUptoCardSaid : Prop := Claim7.holds Tryd.pinned (.plain (OpenSpec.upto md5StepsSpec)) md5StepsUptoCard

/-- THE SECOND FORM's CARD OF 'gaugerlaw03.Md5Tells'. -/
def md5TellsUptoCard : Claim7 := { stood := { row := md5TellsUptoRow, standIns := [], harness := (true, "207d975658373f4aedb97e9749afb676a39d0b24667049f262089b8ea494db57"), looks := false }, kinds := [], alts := [], laidByText := true, laidKinds := [.data, .data], laidTests := true, laidLooks := .later }
def Md5TellsUptoCardSaid : Prop := Claim7.holds Tryd.pinned (.plain (OpenSpec.upto md5TellsSpec)) md5TellsUptoCard

/-- THE SECOND FORM's CARD OF 'gaugerlaw03.Md5Wrong'. -/
def md5WrongUptoCard : Claim7 := { stood := { row := md5WrongUptoRow, standIns := [], harness := (true, "207d975658373f4aedb97e9749afb676a39d0b24667049f262089b8ea494db57"), looks := false }, kinds := [], alts := [], laidByText := true, laidKinds := [.data, .data], laidTests := true, laidLooks := .later }
def Md5WrongUptoCardSaid : Prop := Claim7.holds Tryd.pinned (.plain (OpenSpec.upto md5WrongSpec)) md5WrongUptoCard

/-- THE SECOND FORM's CARD OF 'gaugerlaw03.Md5Texts'. -/
def md5TextsUptoCard : Claim7 := { stood := { row := md5TextsUptoRow, standIns := [], harness := (true, "207d975658373f4aedb97e9749afb676a39d0b24667049f262089b8ea494db57"), looks := false }, kinds := [], alts := [], laidByText := true, laidKinds := [.data, .data], laidTests := true, laidLooks := .later }
def Md5TextsUptoCardSaid : Prop := Claim7.holds Tryd.pinned (.plain (OpenSpec.upto md5TextsSpec)) md5TextsUptoCard

/-- THE SECOND FORM's CARD OF 'gaugerlaw03.Md5Parts'. -/
def md5PartsUptoCard : Claim7 := { stood := { row := md5PartsUptoRow, standIns := [], harness := (true, "207d975658373f4aedb97e9749afb676a39d0b24667049f262089b8ea494db57"), looks := false }, kinds := [], alts := [], laidByText := true, laidKinds := [.data, .data], laidTests := true, laidLooks := .later }
def Md5PartsUptoCardSaid : Prop := Claim7.holds Tryd.pinned (.plain (OpenSpec.upto md5PartsSpec)) md5PartsUptoCard

/-- THE SECOND FORM's CARD OF 'gaugerlaw03.Md5Pieces'. -/
def md5PiecesUptoCard : Claim7 := { stood := { row := md5PiecesUptoRow, standIns := [], harness := (true, "207d975658373f4aedb97e9749afb676a39d0b24667049f262089b8ea494db57"), looks := false }, kinds := [], alts := [], laidByText := true, laidKinds := [.data, .data], laidTests := true, laidLooks := .later }
def Md5PiecesUptoCardSaid : Prop := Claim7.holds Tryd.pinned (.plain (OpenSpec.upto md5PiecesSpec)) md5PiecesUptoCard

/-- THE SECOND FORM's CARD OF 'gaugerlaw03.Md5Cuts'. -/
def md5CutsUptoCard : Claim7 := { stood := { row := md5CutsUptoRow, standIns := [], harness := (true, "207d975658373f4aedb97e9749afb676a39d0b24667049f262089b8ea494db57"), looks := false }, kinds := [], alts := [], laidByText := true, laidKinds := [.data, .data], laidTests := true, laidLooks := .later }
def Md5CutsUptoCardSaid : Prop := Claim7.holds Tryd.pinned (.plain (OpenSpec.upto md5CutsSpec)) md5CutsUptoCard

/-- THE SECOND FORM's CARD OF 'gaugerlaw03.Md5Small'. -/
def md5SmallUptoCard : Claim7 := { stood := { row := md5SmallUptoRow, standIns := [], harness := (true, "207d975658373f4aedb97e9749afb676a39d0b24667049f262089b8ea494db57"), looks := false }, kinds := [], alts := [], laidByText := true, laidKinds := [.data, .data], laidTests := true, laidLooks := .later }
def Md5SmallUptoCardSaid : Prop := Claim7.holds Tryd.pinned (.plain (OpenSpec.upto md5SmallSpec)) md5SmallUptoCard
end Rows
end Go.Proofs.YtimiejahkcjcdaaDoor
