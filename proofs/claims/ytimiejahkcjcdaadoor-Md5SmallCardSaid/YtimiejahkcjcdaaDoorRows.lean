/-
  NARROWER THAN 'FOR EVERY INPUT', by the rows' own cells (each row's printed sentence says how): Md5Pads: laid · Md5Blocks: laid · Md5Steps: laid · Md5Tells: laid · Md5Wrong: laid · Md5Texts: laid · Md5Parts: laid · Md5Pieces: laid · Md5Cuts: laid · Md5Small: laid.
  DERIVED. THE GIVEN ROWS OF THIS SEAT. 10 by the template 'for every input the law returns true; each argument reads behind the call as it read before'; 0 by the template 'total and deterministic' (their statements: YtimiejahkcjcdaaDoorTotals.lean).
  GIVEN WITH THE SEED: the statements are not yours to turn. If you find one false, say at which input.
  Laid BY PROGRAM, IN A SANDBOX (cutbox-rows.mjs): the forced cells as the released guide's own fill.sh prints them over the translation e46e989d5d16e1ce… (all of the seat's roots in one cut). By AI agents, Wed Nov 11 2026. No macro, syntax, notation, axiom, sorry.
-/
import Derived.Test.YtimiejahkcjcdaaDoorChecked
import GoSem.Claim
import GoSem.ClaimJoined
import GoSem.ClaimMapViews
import Derived.JoinedTies
import Derived.KernelRfl
namespace Go.Proofs.YtimiejahkcjcdaaDoor
/- THE CELL 'sum', in the pinned program and in every row, IS THE sha256 OF THE DUMP (.gsa) THAT YtimiejahkcjcdaaDoorProg.lean LOADS. Nothing in Lean hashes anything: it is a label: what it is worth is what the hold of that sum in a sandbox is worth. -/
noncomputable def Tryd.pinned : Pinned := { name := "ytimiejahkcjcdaadoor", sum := "e46e989d5d16e1ce0d538b5bd0da81a04eae8200f9214dac3ca192a1b7950c7b", checked := Tryd.checked }
namespace Rows
def none {H : Type} : Left H := { results := [], args := [] }

/- WHAT THE LISTED PACKAGE-LEVEL VARIABLES READ AS WHEN THE CALL BEGINS. Each datum BY PROGRAM (the guide's laid-datum.mjs) off the statement by which the dump's own 'gosem.cut.vars' lays the variable. In a bare row this is a premise. The card (YtimiejahkcjcdaaDoorCards.lean) ties it to the program's text. -/
def laid_gauger_md5_constants {H : Type} : DataW H := .agg [.lit (.int .u32 3614090360), .lit (.int .u32 3905402710), .lit (.int .u32 606105819), .lit (.int .u32 3250441966), .lit (.int .u32 4118548399), .lit (.int .u32 1200080426), .lit (.int .u32 2821735955), .lit (.int .u32 4249261313), .lit (.int .u32 1770035416), .lit (.int .u32 2336552879), .lit (.int .u32 4294925233), .lit (.int .u32 2304563134), .lit (.int .u32 1804603682), .lit (.int .u32 4254626195), .lit (.int .u32 2792965006), .lit (.int .u32 1236535329), .lit (.int .u32 4129170786), .lit (.int .u32 3225465664), .lit (.int .u32 643717713), .lit (.int .u32 3921069994), .lit (.int .u32 3593408605), .lit (.int .u32 38016083), .lit (.int .u32 3634488961), .lit (.int .u32 3889429448), .lit (.int .u32 568446438), .lit (.int .u32 3275163606), .lit (.int .u32 4107603335), .lit (.int .u32 1163531501), .lit (.int .u32 2850285829), .lit (.int .u32 4243563512), .lit (.int .u32 1735328473), .lit (.int .u32 2368359562), .lit (.int .u32 4294588738), .lit (.int .u32 2272392833), .lit (.int .u32 1839030562), .lit (.int .u32 4259657740), .lit (.int .u32 2763975236), .lit (.int .u32 1272893353), .lit (.int .u32 4139469664), .lit (.int .u32 3200236656), .lit (.int .u32 681279174), .lit (.int .u32 3936430074), .lit (.int .u32 3572445317), .lit (.int .u32 76029189), .lit (.int .u32 3654602809), .lit (.int .u32 3873151461), .lit (.int .u32 530742520), .lit (.int .u32 3299628645), .lit (.int .u32 4096336452), .lit (.int .u32 1126891415), .lit (.int .u32 2878612391), .lit (.int .u32 4237533241), .lit (.int .u32 1700485571), .lit (.int .u32 2399980690), .lit (.int .u32 4293915773), .lit (.int .u32 2240044497), .lit (.int .u32 1873313359), .lit (.int .u32 4264355552), .lit (.int .u32 2734768916), .lit (.int .u32 1309151649), .lit (.int .u32 4149444226), .lit (.int .u32 3174756917), .lit (.int .u32 718787259), .lit (.int .u32 3951481745)]
def laid_gauger_md5_turns {H : Type} : DataW H := .agg [.lit (.int .i64 7), .lit (.int .i64 12), .lit (.int .i64 17), .lit (.int .i64 22), .lit (.int .i64 5), .lit (.int .i64 9), .lit (.int .i64 14), .lit (.int .i64 20), .lit (.int .i64 4), .lit (.int .i64 11), .lit (.int .i64 16), .lit (.int .i64 23), .lit (.int .i64 6), .lit (.int .i64 10), .lit (.int .i64 15), .lit (.int .i64 21)]

/-- 'gaugerlaw03.Md5Pads': WHATEVER THE INPUT: true; the input reads as it did. -/
def md5PadsSpec : ChangeSpec := { name := "md5Pads", fn := fun _ => fun
  | [d] => { results := [.lit (.bool true)], args := [d] }
  | _ => none }
def md5PadsRow : OpenClaim := { program := "ytimiejahkcjcdaadoor", sum := "e46e989d5d16e1ce0d538b5bd0da81a04eae8200f9214dac3ca192a1b7950c7b", func := "gauger/gaugerlaw03.Md5Pads", spec := "md5Pads", inPlace := ["internal/abi.NoEscape"], unfollowed := true, recurses := true, named := ["gauger/md5.constants", "gauger/md5.turns"], apart := false, laid := [("gauger/md5.constants", laid_gauger_md5_constants), ("gauger/md5.turns", laid_gauger_md5_turns)] }
def Md5PadsSaid : Prop := md5PadsRow.holds Tryd.pinned (OpenSpec.ofChange md5PadsSpec)

/-- ITS FALSE NEIGHBOUR: 'it returns false'. Refute it at one input. -/
def md5PadsWrong : ChangeSpec := { name := "md5Pads", fn := fun _ => fun
  | [d] => { results := [.lit (.bool false)], args := [d] }
  | _ => none }
def Md5PadsWrongFalsely : Prop := md5PadsRow.holds Tryd.pinned (OpenSpec.ofChange md5PadsWrong)

/-- 'gaugerlaw03.Md5Blocks': WHATEVER THE INPUT: true; the input reads as it did. -/
def md5BlocksSpec : ChangeSpec := { name := "md5Blocks", fn := fun _ => fun
  | [d] => { results := [.lit (.bool true)], args := [d] }
  | _ => none }
def md5BlocksRow : OpenClaim := { program := "ytimiejahkcjcdaadoor", sum := "e46e989d5d16e1ce0d538b5bd0da81a04eae8200f9214dac3ca192a1b7950c7b", func := "gauger/gaugerlaw03.Md5Blocks", spec := "md5Blocks", inPlace := ["internal/abi.NoEscape"], unfollowed := true, recurses := true, named := ["gauger/md5.constants", "gauger/md5.turns"], apart := false, laid := [("gauger/md5.constants", laid_gauger_md5_constants), ("gauger/md5.turns", laid_gauger_md5_turns)] }
def Md5BlocksSaid : Prop := md5BlocksRow.holds Tryd.pinned (OpenSpec.ofChange md5BlocksSpec)

/-- ITS FALSE NEIGHBOUR: 'it returns false'. Refute it at one input. -/
def md5BlocksWrong : ChangeSpec := { name := "md5Blocks", fn := fun _ => fun
  | [d] => { results := [.lit (.bool false)], args := [d] }
  | _ => none }
def Md5BlocksWrongFalsely : Prop := md5BlocksRow.holds Tryd.pinned (OpenSpec.ofChange md5BlocksWrong)

/-- 'gaugerlaw03.Md5Steps': WHATEVER THE INPUT: true; the input reads as it did. -/
def md5StepsSpec : ChangeSpec := { name := "md5Steps", fn := fun _ => fun
  | [d1, d2, d3] => { results := [.lit (.bool true)], args := [d1, d2, d3] }
  | _ => none }
def md5StepsRow : OpenClaim := { program := "ytimiejahkcjcdaadoor", sum := "e46e989d5d16e1ce0d538b5bd0da81a04eae8200f9214dac3ca192a1b7950c7b", func := "gauger/gaugerlaw03.Md5Steps", spec := "md5Steps", inPlace := ["internal/abi.NoEscape"], unfollowed := true, recurses := true, named := ["gauger/md5.constants", "gauger/md5.turns"], apart := false, laid := [("gauger/md5.constants", laid_gauger_md5_constants), ("gauger/md5.turns", laid_gauger_md5_turns)] }
def Md5StepsSaid : Prop := md5StepsRow.holds Tryd.pinned (OpenSpec.ofChange md5StepsSpec)

/-- ITS FALSE NEIGHBOUR: 'it returns false'. Refute it at one input. -/
def md5StepsWrong : ChangeSpec := { name := "md5Steps", fn := fun _ => fun
  | [d1, d2, d3] => { results := [.lit (.bool false)], args := [d1, d2, d3] }
  | _ => none }
def Md5StepsWrongFalsely : Prop := md5StepsRow.holds Tryd.pinned (OpenSpec.ofChange md5StepsWrong)

/-- 'gaugerlaw03.Md5Tells': WHATEVER THE INPUT: true; the input reads as it did. -/
def md5TellsSpec : ChangeSpec := { name := "md5Tells", fn := fun _ => fun
  | [d1, d2, d3] => { results := [.lit (.bool true)], args := [d1, d2, d3] }
  | _ => none }
def md5TellsRow : OpenClaim := { program := "ytimiejahkcjcdaadoor", sum := "e46e989d5d16e1ce0d538b5bd0da81a04eae8200f9214dac3ca192a1b7950c7b", func := "gauger/gaugerlaw03.Md5Tells", spec := "md5Tells", inPlace := ["internal/abi.NoEscape"], unfollowed := true, recurses := true, named := ["gauger/md5.constants", "gauger/md5.turns"], apart := false, laid := [("gauger/md5.constants", laid_gauger_md5_constants), ("gauger/md5.turns", laid_gauger_md5_turns)] }
def Md5TellsSaid : Prop := md5TellsRow.holds Tryd.pinned (OpenSpec.ofChange md5TellsSpec)

/-- ITS FALSE NEIGHBOUR: 'it returns false'. Refute it at one input. -/
def md5TellsWrong : ChangeSpec := { name := "md5Tells", fn := fun _ => fun
  | [d1, d2, d3] => { results := [.lit (.bool false)], args := [d1, d2, d3] }
  | _ => none }
def Md5TellsWrongFalsely : Prop := md5TellsRow.holds Tryd.pinned (OpenSpec.ofChange md5TellsWrong)

/-- 'gaugerlaw03.Md5Wrong': WHATEVER THE INPUT: true; the input reads as it did. -/
def md5WrongSpec : ChangeSpec := { name := "md5Wrong", fn := fun _ => fun
  | [d1, d2, d3] => { results := [.lit (.bool true)], args := [d1, d2, d3] }
  | _ => none }
def md5WrongRow : OpenClaim := { program := "ytimiejahkcjcdaadoor", sum := "e46e989d5d16e1ce0d538b5bd0da81a04eae8200f9214dac3ca192a1b7950c7b", func := "gauger/gaugerlaw03.Md5Wrong", spec := "md5Wrong", inPlace := ["internal/abi.NoEscape"], unfollowed := true, recurses := true, named := ["gauger/md5.constants", "gauger/md5.turns"], apart := false, laid := [("gauger/md5.constants", laid_gauger_md5_constants), ("gauger/md5.turns", laid_gauger_md5_turns)] }
def Md5WrongSaid : Prop := md5WrongRow.holds Tryd.pinned (OpenSpec.ofChange md5WrongSpec)

/-- ITS FALSE NEIGHBOUR: 'it returns false'. Refute it at one input. -/
def md5WrongWrong : ChangeSpec := { name := "md5Wrong", fn := fun _ => fun
  | [d1, d2, d3] => { results := [.lit (.bool false)], args := [d1, d2, d3] }
  | _ => none }
def Md5WrongWrongFalsely : Prop := md5WrongRow.holds Tryd.pinned (OpenSpec.ofChange md5WrongWrong)

/-- 'gaugerlaw03.Md5Texts': WHATEVER THE INPUT: true; the input reads as it did. -/
def md5TextsSpec : ChangeSpec := { name := "md5Texts", fn := fun _ => fun
  | [d1, d2] => { results := [.lit (.bool true)], args := [d1, d2] }
  | _ => none }
def md5TextsRow : OpenClaim := { program := "ytimiejahkcjcdaadoor", sum := "e46e989d5d16e1ce0d538b5bd0da81a04eae8200f9214dac3ca192a1b7950c7b", func := "gauger/gaugerlaw03.Md5Texts", spec := "md5Texts", inPlace := ["internal/abi.NoEscape", "internal/bytealg.IndexByteString"], unfollowed := true, recurses := true, named := ["gauger/md5.constants", "gauger/md5.turns"], apart := false, laid := [("gauger/md5.constants", laid_gauger_md5_constants), ("gauger/md5.turns", laid_gauger_md5_turns)] }
def Md5TextsSaid : Prop := md5TextsRow.holds Tryd.pinned (OpenSpec.ofChange md5TextsSpec)

/-- ITS FALSE NEIGHBOUR: 'it returns false'. Refute it at one input. -/
def md5TextsWrong : ChangeSpec := { name := "md5Texts", fn := fun _ => fun
  | [d1, d2] => { results := [.lit (.bool false)], args := [d1, d2] }
  | _ => none }
def Md5TextsWrongFalsely : Prop := md5TextsRow.holds Tryd.pinned (OpenSpec.ofChange md5TextsWrong)

/-- 'gaugerlaw03.Md5Parts': WHATEVER THE INPUT: true; the input reads as it did. -/
def md5PartsSpec : ChangeSpec := { name := "md5Parts", fn := fun _ => fun
  | [d1, d2, d3, d4, d5, d6] => { results := [.lit (.bool true)], args := [d1, d2, d3, d4, d5, d6] }
  | _ => none }
def md5PartsRow : OpenClaim := { program := "ytimiejahkcjcdaadoor", sum := "e46e989d5d16e1ce0d538b5bd0da81a04eae8200f9214dac3ca192a1b7950c7b", func := "gauger/gaugerlaw03.Md5Parts", spec := "md5Parts", inPlace := ["internal/abi.NoEscape", "internal/bytealg.IndexByteString"], unfollowed := true, recurses := true, named := ["gauger/md5.constants", "gauger/md5.turns"], apart := false, laid := [("gauger/md5.constants", laid_gauger_md5_constants), ("gauger/md5.turns", laid_gauger_md5_turns)] }
def Md5PartsSaid : Prop := md5PartsRow.holds Tryd.pinned (OpenSpec.ofChange md5PartsSpec)

/-- ITS FALSE NEIGHBOUR: 'it returns false'. Refute it at one input. -/
def md5PartsWrong : ChangeSpec := { name := "md5Parts", fn := fun _ => fun
  | [d1, d2, d3, d4, d5, d6] => { results := [.lit (.bool false)], args := [d1, d2, d3, d4, d5, d6] }
  | _ => none }
def Md5PartsWrongFalsely : Prop := md5PartsRow.holds Tryd.pinned (OpenSpec.ofChange md5PartsWrong)

/-- 'gaugerlaw03.Md5Pieces': WHATEVER THE INPUT: true; the input reads as it did. -/
def md5PiecesSpec : ChangeSpec := { name := "md5Pieces", fn := fun _ => fun
  | [d1, d2] => { results := [.lit (.bool true)], args := [d1, d2] }
  | _ => none }
def md5PiecesRow : OpenClaim := { program := "ytimiejahkcjcdaadoor", sum := "e46e989d5d16e1ce0d538b5bd0da81a04eae8200f9214dac3ca192a1b7950c7b", func := "gauger/gaugerlaw03.Md5Pieces", spec := "md5Pieces", inPlace := ["internal/abi.NoEscape"], unfollowed := true, recurses := true, named := ["gauger/md5.constants", "gauger/md5.turns"], apart := false, laid := [("gauger/md5.constants", laid_gauger_md5_constants), ("gauger/md5.turns", laid_gauger_md5_turns)] }
def Md5PiecesSaid : Prop := md5PiecesRow.holds Tryd.pinned (OpenSpec.ofChange md5PiecesSpec)

/-- ITS FALSE NEIGHBOUR: 'it returns false'. Refute it at one input. -/
def md5PiecesWrong : ChangeSpec := { name := "md5Pieces", fn := fun _ => fun
  | [d1, d2] => { results := [.lit (.bool false)], args := [d1, d2] }
  | _ => none }
def Md5PiecesWrongFalsely : Prop := md5PiecesRow.holds Tryd.pinned (OpenSpec.ofChange md5PiecesWrong)

/-- 'gaugerlaw03.Md5Cuts': WHATEVER THE INPUT: true; the input reads as it did. -/
def md5CutsSpec : ChangeSpec := { name := "md5Cuts", fn := fun _ => fun
  | [d1, d2, d3] => { results := [.lit (.bool true)], args := [d1, d2, d3] }
  | _ => none }
def md5CutsRow : OpenClaim := { program := "ytimiejahkcjcdaadoor", sum := "e46e989d5d16e1ce0d538b5bd0da81a04eae8200f9214dac3ca192a1b7950c7b", func := "gauger/gaugerlaw03.Md5Cuts", spec := "md5Cuts", inPlace := ["internal/abi.NoEscape"], unfollowed := true, recurses := true, named := ["gauger/md5.constants", "gauger/md5.turns"], apart := false, laid := [("gauger/md5.constants", laid_gauger_md5_constants), ("gauger/md5.turns", laid_gauger_md5_turns)] }
def Md5CutsSaid : Prop := md5CutsRow.holds Tryd.pinned (OpenSpec.ofChange md5CutsSpec)

/-- ITS FALSE NEIGHBOUR: 'it returns false'. Refute it at one input. -/
def md5CutsWrong : ChangeSpec := { name := "md5Cuts", fn := fun _ => fun
  | [d1, d2, d3] => { results := [.lit (.bool false)], args := [d1, d2, d3] }
  | _ => none }
def Md5CutsWrongFalsely : Prop := md5CutsRow.holds Tryd.pinned (OpenSpec.ofChange md5CutsWrong)

/-- 'gaugerlaw03.Md5Small': WHATEVER THE INPUT: true; the input reads as it did. -/
def md5SmallSpec : ChangeSpec := { name := "md5Small", fn := fun _ => fun
  | [] => { results := [.lit (.bool true)], args := [] }
  | _ => none }
def md5SmallRow : OpenClaim := { program := "ytimiejahkcjcdaadoor", sum := "e46e989d5d16e1ce0d538b5bd0da81a04eae8200f9214dac3ca192a1b7950c7b", func := "gauger/gaugerlaw03.Md5Small", spec := "md5Small", inPlace := ["internal/abi.NoEscape", "internal/bytealg.IndexByteString"], unfollowed := true, recurses := true, named := ["gauger/md5.constants", "gauger/md5.turns"], apart := false, laid := [("gauger/md5.constants", laid_gauger_md5_constants), ("gauger/md5.turns", laid_gauger_md5_turns)] }
def Md5SmallSaid : Prop := md5SmallRow.holds Tryd.pinned (OpenSpec.ofChange md5SmallSpec)

/-- ITS FALSE NEIGHBOUR: 'it returns false'. Refute it at one input. -/
def md5SmallWrong : ChangeSpec := { name := "md5Small", fn := fun _ => fun
  | [] => { results := [.lit (.bool false)], args := [] }
  | _ => none }
def Md5SmallWrongFalsely : Prop := md5SmallRow.holds Tryd.pinned (OpenSpec.ofChange md5SmallWrong)

/- THE SECOND FORM. 'bulk': how many values and letters a reading holds, each counted each time it is reached (what is shared counts as often as it is met; a slice's spare places count too). A statement '..UptoSaid' is the law's where the arguments, and the package variables that the reading takes, are together of bulk at most 1048576: NARROWER than '..Said'. Prove '..Said' where nothing that the law and all that it calls make is longer than what came in: it says more and counts as full. Else prove '..UptoSaid'. A law counts once. -/
mutual
def uptoBulk {H : Type} : DataW H → Nat
  | .lit (.string bytes) => bytes.length + 1
  | .lit _ => 1
  | .nil => 1
  | .ptr d => uptoBulk d + 1
  | .slice elems spare => uptoBulkAll elems + uptoBulkAll spare + 1
  | .agg parts => uptoBulkAll parts + 1
  | .iface _ d => uptoBulk d + 1
  | .map entries => uptoBulkEntries entries + 1
  | .held _ => 1
def uptoBulkAll {H : Type} : List (DataW H) → Nat
  | [] => 0
  | d :: r => uptoBulk d + uptoBulkAll r
def uptoBulkEntries {H : Type} : List (Lit × DataW H) → Nat
  | [] => 0
  | x :: r => uptoBulkEntry x + uptoBulkEntries r
def uptoBulkEntry {H : Type} : Lit × DataW H → Nat
  | (.string bytes, d) => bytes.length + uptoBulk d + 1
  | (_, d) => uptoBulk d + 1
 end
def uptoSmall : (H : Type) → List (DataW H) → Bool := fun _ ds => decide (uptoBulkAll ds ≤ 1048576)
def OpenSpec.upto (s : _root_.Go.ChangeSpec) : _root_.Go.OpenSpec := { _root_.Go.OpenSpec.ofChange s with cond := some uptoSmall }

/-- 'gaugerlaw03.Md5Pads', WHERE WHAT IT READS IS OF BULK AT MOST 1048576: true; the input reads as it did. -/
def md5PadsUptoRow : OpenClaim := { program := "ytimiejahkcjcdaadoor", sum := "e46e989d5d16e1ce0d538b5bd0da81a04eae8200f9214dac3ca192a1b7950c7b", func := "gauger/gaugerlaw03.Md5Pads", spec := "md5Pads", inPlace := ["internal/abi.NoEscape"], unfollowed := true, recurses := true, named := ["gauger/md5.constants", "gauger/md5.turns"], apart := false, laid := [("gauger/md5.constants", laid_gauger_md5_constants), ("gauger/md5.turns", laid_gauger_md5_turns)], narrowed := true }
def Md5PadsUptoSaid : Prop := md5PadsUptoRow.holds Tryd.pinned (OpenSpec.upto md5PadsSpec)

/-- 'gaugerlaw03.Md5Blocks', WHERE WHAT IT READS IS OF BULK AT MOST 1048576: true; the input reads as it did. -/
def md5BlocksUptoRow : OpenClaim := { program := "ytimiejahkcjcdaadoor", sum := "e46e989d5d16e1ce0d538b5bd0da81a04eae8200f9214dac3ca192a1b7950c7b", func := "gauger/gaugerlaw03.Md5Blocks", spec := "md5Blocks", inPlace := ["internal/abi.NoEscape"], unfollowed := true, recurses := true, named := ["gauger/md5.constants", "gauger/md5.turns"], apart := false, laid := [("gauger/md5.constants", laid_gauger_md5_constants), ("gauger/md5.turns", laid_gauger_md5_turns)], narrowed := true }
def Md5BlocksUptoSaid : Prop := md5BlocksUptoRow.holds Tryd.pinned (OpenSpec.upto md5BlocksSpec)

/-- 'gaugerlaw03.Md5Steps', WHERE WHAT IT READS IS OF BULK AT MOST 1048576: true; the input reads as it did. -/
def md5StepsUptoRow : OpenClaim := { program := "ytimiejahkcjcdaadoor", sum := "e46e989d5d16e1ce0d538b5bd0da81a04eae8200f9214dac3ca192a1b7950c7b", func := "gauger/gaugerlaw03.Md5Steps", spec := "md5Steps", inPlace := ["internal/abi.NoEscape"], unfollowed := true, recurses := true, named := ["gauger/md5.constants", "gauger/md5.turns"], apart := false, laid := [("gauger/md5.constants", laid_gauger_md5_constants), ("gauger/md5.turns", laid_gauger_md5_turns)], narrowed := true }
def Md5StepsUptoSaid : Prop := md5StepsUptoRow.holds Tryd.pinned (OpenSpec.upto md5StepsSpec)

/-- 'gaugerlaw03.Md5Tells', WHERE WHAT IT READS IS OF BULK AT MOST 1048576: true; the input reads as it did. -/
def md5TellsUptoRow : OpenClaim := { program := "ytimiejahkcjcdaadoor", sum := "e46e989d5d16e1ce0d538b5bd0da81a04eae8200f9214dac3ca192a1b7950c7b", func := "gauger/gaugerlaw03.Md5Tells", spec := "md5Tells", inPlace := ["internal/abi.NoEscape"], unfollowed := true, recurses := true, named := ["gauger/md5.constants", "gauger/md5.turns"], apart := false, laid := [("gauger/md5.constants", laid_gauger_md5_constants), ("gauger/md5.turns", laid_gauger_md5_turns)], narrowed := true }
def Md5TellsUptoSaid : Prop := md5TellsUptoRow.holds Tryd.pinned (OpenSpec.upto md5TellsSpec)

/-- 'gaugerlaw03.Md5Wrong', WHERE WHAT IT READS IS OF BULK AT MOST 1048576: true; the input reads as it did. -/
def md5WrongUptoRow : OpenClaim := { program := "ytimiejahkcjcdaadoor", sum := "e46e989d5d16e1ce0d538b5bd0da81a04eae8200f9214dac3ca192a1b7950c7b", func := "gauger/gaugerlaw03.Md5Wrong", spec := "md5Wrong", inPlace := ["internal/abi.NoEscape"], unfollowed := true, recurses := true, named := ["gauger/md5.constants", "gauger/md5.turns"], apart := false, laid := [("gauger/md5.constants", laid_gauger_md5_constants), ("gauger/md5.turns", laid_gauger_md5_turns)], narrowed := true }
def Md5WrongUptoSaid : Prop := md5WrongUptoRow.holds Tryd.pinned (OpenSpec.upto md5WrongSpec)

/-- 'gaugerlaw03.Md5Texts', WHERE WHAT IT READS IS OF BULK AT MOST 1048576: true; the input reads as it did. -/
def md5TextsUptoRow : OpenClaim := { program := "ytimiejahkcjcdaadoor", sum := "e46e989d5d16e1ce0d538b5bd0da81a04eae8200f9214dac3ca192a1b7950c7b", func := "gauger/gaugerlaw03.Md5Texts", spec := "md5Texts", inPlace := ["internal/abi.NoEscape", "internal/bytealg.IndexByteString"], unfollowed := true, recurses := true, named := ["gauger/md5.constants", "gauger/md5.turns"], apart := false, laid := [("gauger/md5.constants", laid_gauger_md5_constants), ("gauger/md5.turns", laid_gauger_md5_turns)], narrowed := true }
def Md5TextsUptoSaid : Prop := md5TextsUptoRow.holds Tryd.pinned (OpenSpec.upto md5TextsSpec)

/-- 'gaugerlaw03.Md5Parts', WHERE WHAT IT READS IS OF BULK AT MOST 1048576: true; the input reads as it did. -/
def md5PartsUptoRow : OpenClaim := { program := "ytimiejahkcjcdaadoor", sum := "e46e989d5d16e1ce0d538b5bd0da81a04eae8200f9214dac3ca192a1b7950c7b", func := "gauger/gaugerlaw03.Md5Parts", spec := "md5Parts", inPlace := ["internal/abi.NoEscape", "internal/bytealg.IndexByteString"], unfollowed := true, recurses := true, named := ["gauger/md5.constants", "gauger/md5.turns"], apart := false, laid := [("gauger/md5.constants", laid_gauger_md5_constants), ("gauger/md5.turns", laid_gauger_md5_turns)], narrowed := true }
def Md5PartsUptoSaid : Prop := md5PartsUptoRow.holds Tryd.pinned (OpenSpec.upto md5PartsSpec)

/-- 'gaugerlaw03.Md5Pieces', WHERE WHAT IT READS IS OF BULK AT MOST 1048576: true; the input reads as it did. -/
def md5PiecesUptoRow : OpenClaim := { program := "ytimiejahkcjcdaadoor", sum := "e46e989d5d16e1ce0d538b5bd0da81a04eae8200f9214dac3ca192a1b7950c7b", func := "gauger/gaugerlaw03.Md5Pieces", spec := "md5Pieces", inPlace := ["internal/abi.NoEscape"], unfollowed := true, recurses := true, named := ["gauger/md5.constants", "gauger/md5.turns"], apart := false, laid := [("gauger/md5.constants", laid_gauger_md5_constants), ("gauger/md5.turns", laid_gauger_md5_turns)], narrowed := true }
def Md5PiecesUptoSaid : Prop := md5PiecesUptoRow.holds Tryd.pinned (OpenSpec.upto md5PiecesSpec)

/-- 'gaugerlaw03.Md5Cuts', WHERE WHAT IT READS IS OF BULK AT MOST 1048576: true; the input reads as it did. -/
def md5CutsUptoRow : OpenClaim := { program := "ytimiejahkcjcdaadoor", sum := "e46e989d5d16e1ce0d538b5bd0da81a04eae8200f9214dac3ca192a1b7950c7b", func := "gauger/gaugerlaw03.Md5Cuts", spec := "md5Cuts", inPlace := ["internal/abi.NoEscape"], unfollowed := true, recurses := true, named := ["gauger/md5.constants", "gauger/md5.turns"], apart := false, laid := [("gauger/md5.constants", laid_gauger_md5_constants), ("gauger/md5.turns", laid_gauger_md5_turns)], narrowed := true }
def Md5CutsUptoSaid : Prop := md5CutsUptoRow.holds Tryd.pinned (OpenSpec.upto md5CutsSpec)

/-- 'gaugerlaw03.Md5Small', WHERE WHAT IT READS IS OF BULK AT MOST 1048576: true; the input reads as it did. -/
def md5SmallUptoRow : OpenClaim := { program := "ytimiejahkcjcdaadoor", sum := "e46e989d5d16e1ce0d538b5bd0da81a04eae8200f9214dac3ca192a1b7950c7b", func := "gauger/gaugerlaw03.Md5Small", spec := "md5Small", inPlace := ["internal/abi.NoEscape", "internal/bytealg.IndexByteString"], unfollowed := true, recurses := true, named := ["gauger/md5.constants", "gauger/md5.turns"], apart := false, laid := [("gauger/md5.constants", laid_gauger_md5_constants), ("gauger/md5.turns", laid_gauger_md5_turns)], narrowed := true }
def Md5SmallUptoSaid : Prop := md5SmallUptoRow.holds Tryd.pinned (OpenSpec.upto md5SmallSpec)

end Rows
end Go.Proofs.YtimiejahkcjcdaaDoor
