/-
  DERIVED. GIVEN WITH THE SEED: THE CARDS: each row of YtiapkindbbbdpaaGreatDoorRows.lean that lists a variable, with what it lists TIED to the program's text (the seventh form; the later family's looks); each row that meets fmt, with fmt's text TOLD by the authors' own Lean function (tested against real Go, not proved from fmt's source: count such statements apart). THE CARD IS WHAT COUNTS. Prove the row's statement (the work); the ties are given (YtiapkindbbbdpaaGreatDoorTie.lean); close each card by the builder's one call (the guide's Derived/Test/ToyasCard.lean, 'card_holds'). Laid BY PROGRAM, IN A SANDBOX (cutbox-door.mjs). By AI agents, Wed Nov 11 2026. No macro, syntax, notation, axiom, sorry.
-/
import Derived.Test.YtiapkindbbbdpaaGreatDoorRows
import GoSem.ClaimSeven
namespace Go.Proofs.YtiapkindbbbdpaaGreatDoor
namespace Rows

/-- THE TIED CARD OF 'gaugerlaw25.LineWrites'. -/
def lineWritesCard : Claim7 := { stood := { row := lineWritesRow, standIns := [], harness := (true, "bc904cd61c24a5c9f2009ed1de36c2e4f43320a40421f32af3ecdb09c5fc79d7"), looks := true }, kinds := [], alts := [], laidByText := true, laidKinds := [.data, .data, .data, .data, .sentinel, .sentinel, .pinned], laidTests := true, laidLooks := .later }
def LineWritesCardSaid : Prop := Claim7.holds Tryz.pinned (.plain (OpenSpec.ofChange lineWritesSpec)) lineWritesCard

/-- THE TIED CARD OF 'gaugerlaw25.LineSmall'. -/
def lineSmallCard : Claim7 := { stood := { row := lineSmallRow, standIns := [], harness := (true, "bc904cd61c24a5c9f2009ed1de36c2e4f43320a40421f32af3ecdb09c5fc79d7"), looks := true }, kinds := [], alts := [], laidByText := true, laidKinds := [.data, .data, .data, .data, .sentinel, .sentinel, .pinned], laidTests := true, laidLooks := .later }
def LineSmallCardSaid : Prop := Claim7.holds Tryz.pinned (.plain (OpenSpec.ofChange lineSmallSpec)) lineSmallCard

/-- THE SECOND FORM's CARD OF 'gaugerlaw25.LineWrites'. -/
def lineWritesUptoCard : Claim7 := { stood := { row := lineWritesUptoRow, standIns := [], harness := (true, "bc904cd61c24a5c9f2009ed1de36c2e4f43320a40421f32af3ecdb09c5fc79d7"), looks := true }, kinds := [], alts := [], laidByText := true, laidKinds := [.data, .data, .data, .data, .sentinel, .sentinel, .pinned], laidTests := true, laidLooks := .later }
def LineWritesUptoCardSaid : Prop := Claim7.holds Tryz.pinned (.plain (OpenSpec.upto lineWritesSpec)) lineWritesUptoCard

/-- THE SECOND FORM's CARD OF 'gaugerlaw25.LineSmall'. -/
def lineSmallUptoCard : Claim7 := { stood := { row := lineSmallUptoRow, standIns := [], harness := (true, "bc904cd61c24a5c9f2009ed1de36c2e4f43320a40421f32af3ecdb09c5fc79d7"), looks := true }, kinds := [], alts := [], laidByText := true, laidKinds := [.data, .data, .data, .data, .sentinel, .sentinel, .pinned], laidTests := true, laidLooks := .later }
def LineSmallUptoCardSaid : Prop := Claim7.holds Tryz.pinned (.plain (OpenSpec.upto lineSmallSpec)) lineSmallUptoCard
end Rows
end Go.Proofs.YtiapkindbbbdpaaGreatDoor
