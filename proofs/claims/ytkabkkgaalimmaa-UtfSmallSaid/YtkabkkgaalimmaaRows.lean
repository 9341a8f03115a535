/-
  No cell of these rows narrows 'for every input' (looked for: loops, veiled, ifaces, maps, wideKeys, modest, calm, conditions, laid).
  DERIVED. THE GIVEN ROWS OF THIS SEAT. 10 by the template 'for every input the law returns true; each argument reads behind the call as it read before'; 0 by the template 'total and deterministic' (their statements: YtkabkkgaalimmaaTotals.lean).
  GIVEN WITH THE SEED: the statements are not yours to turn. If you find one false, say at which input.
  Laid BY PROGRAM, IN A SANDBOX (cutbox-rows.mjs): the forced cells as the released guide's own fill.sh prints them over the translation db4dd5324f263325… (all of the seat's roots in one cut). By AI agents, Wed Nov 11 2026. No macro, syntax, notation, axiom, sorry.
-/
import Derived.Test.YtkabkkgaalimmaaChecked
import GoSem.Claim
import GoSem.ClaimJoined
import GoSem.ClaimMapViews
import Derived.JoinedTies
import Derived.KernelRfl
namespace Go.Proofs.Ytkabkkgaalimmaa
/- THE CELL 'sum', in the pinned program and in every row, IS THE sha256 OF THE DUMP (.gsa) THAT YtkabkkgaalimmaaProg.lean LOADS. Nothing in Lean hashes anything: it is a label: what it is worth is what the hold of that sum in a sandbox is worth. -/
noncomputable def Try.pinned : Pinned := { name := "ytkabkkgaalimmaa", sum := "db4dd5324f263325807e1656f550eb264b173f3ed240c824b7bae09a678a3287", checked := Try.checked }
namespace Rows
def none {H : Type} : Left H := { results := [], args := [] }

/-- 'gaugerlaw01.UtfTells': WHATEVER THE INPUT: true; the input reads as it did. -/
def utfTellsSpec : ChangeSpec := { name := "utfTells", fn := fun _ => fun
  | [d1, d2, d3] => { results := [.lit (.bool true)], args := [d1, d2, d3] }
  | _ => none }
def utfTellsRow : OpenClaim := { program := "ytkabkkgaalimmaa", sum := "db4dd5324f263325807e1656f550eb264b173f3ed240c824b7bae09a678a3287", func := "gauger/gaugerlaw01.UtfTells", spec := "utfTells", unfollowed := true, recurses := true, apart := false }
def UtfTellsSaid : Prop := utfTellsRow.holds Try.pinned (OpenSpec.ofChange utfTellsSpec)

/-- ITS FALSE NEIGHBOUR: 'it returns false'. Refute it at one input. -/
def utfTellsWrong : ChangeSpec := { name := "utfTells", fn := fun _ => fun
  | [d1, d2, d3] => { results := [.lit (.bool false)], args := [d1, d2, d3] }
  | _ => none }
def UtfTellsWrongFalsely : Prop := utfTellsRow.holds Try.pinned (OpenSpec.ofChange utfTellsWrong)

/-- 'gaugerlaw01.UtfPairs': WHATEVER THE INPUT: true; the input reads as it did. -/
def utfPairsSpec : ChangeSpec := { name := "utfPairs", fn := fun _ => fun
  | [d1, d2, d3] => { results := [.lit (.bool true)], args := [d1, d2, d3] }
  | _ => none }
def utfPairsRow : OpenClaim := { program := "ytkabkkgaalimmaa", sum := "db4dd5324f263325807e1656f550eb264b173f3ed240c824b7bae09a678a3287", func := "gauger/gaugerlaw01.UtfPairs", spec := "utfPairs", unfollowed := true, recurses := true, apart := false }
def UtfPairsSaid : Prop := utfPairsRow.holds Try.pinned (OpenSpec.ofChange utfPairsSpec)

/-- ITS FALSE NEIGHBOUR: 'it returns false'. Refute it at one input. -/
def utfPairsWrong : ChangeSpec := { name := "utfPairs", fn := fun _ => fun
  | [d1, d2, d3] => { results := [.lit (.bool false)], args := [d1, d2, d3] }
  | _ => none }
def UtfPairsWrongFalsely : Prop := utfPairsRow.holds Try.pinned (OpenSpec.ofChange utfPairsWrong)

/-- 'gaugerlaw01.UtfTexts': WHATEVER THE INPUT: true; the input reads as it did. -/
def utfTextsSpec : ChangeSpec := { name := "utfTexts", fn := fun _ => fun
  | [d] => { results := [.lit (.bool true)], args := [d] }
  | _ => none }
def utfTextsRow : OpenClaim := { program := "ytkabkkgaalimmaa", sum := "db4dd5324f263325807e1656f550eb264b173f3ed240c824b7bae09a678a3287", func := "gauger/gaugerlaw01.UtfTexts", spec := "utfTexts", unfollowed := true, recurses := true, apart := false }
def UtfTextsSaid : Prop := utfTextsRow.holds Try.pinned (OpenSpec.ofChange utfTextsSpec)

/-- ITS FALSE NEIGHBOUR: 'it returns false'. Refute it at one input. -/
def utfTextsWrong : ChangeSpec := { name := "utfTexts", fn := fun _ => fun
  | [d] => { results := [.lit (.bool false)], args := [d] }
  | _ => none }
def UtfTextsWrongFalsely : Prop := utfTextsRow.holds Try.pinned (OpenSpec.ofChange utfTextsWrong)

/-- 'gaugerlaw01.UtfOrder': WHATEVER THE INPUT: true; the input reads as it did. -/
def utfOrderSpec : ChangeSpec := { name := "utfOrder", fn := fun _ => fun
  | [d1, d2] => { results := [.lit (.bool true)], args := [d1, d2] }
  | _ => none }
def utfOrderRow : OpenClaim := { program := "ytkabkkgaalimmaa", sum := "db4dd5324f263325807e1656f550eb264b173f3ed240c824b7bae09a678a3287", func := "gauger/gaugerlaw01.UtfOrder", spec := "utfOrder", unfollowed := true, recurses := true, apart := false }
def UtfOrderSaid : Prop := utfOrderRow.holds Try.pinned (OpenSpec.ofChange utfOrderSpec)

/-- ITS FALSE NEIGHBOUR: 'it returns false'. Refute it at one input. -/
def utfOrderWrong : ChangeSpec := { name := "utfOrder", fn := fun _ => fun
  | [d1, d2] => { results := [.lit (.bool false)], args := [d1, d2] }
  | _ => none }
def UtfOrderWrongFalsely : Prop := utfOrderRow.holds Try.pinned (OpenSpec.ofChange utfOrderWrong)

/-- 'gaugerlaw01.UtfShort': WHATEVER THE INPUT: true; the input reads as it did. -/
def utfShortSpec : ChangeSpec := { name := "utfShort", fn := fun _ => fun
  | [d1, d2] => { results := [.lit (.bool true)], args := [d1, d2] }
  | _ => none }
def utfShortRow : OpenClaim := { program := "ytkabkkgaalimmaa", sum := "db4dd5324f263325807e1656f550eb264b173f3ed240c824b7bae09a678a3287", func := "gauger/gaugerlaw01.UtfShort", spec := "utfShort", unfollowed := true, recurses := true, apart := false }
def UtfShortSaid : Prop := utfShortRow.holds Try.pinned (OpenSpec.ofChange utfShortSpec)

/-- ITS FALSE NEIGHBOUR: 'it returns false'. Refute it at one input. -/
def utfShortWrong : ChangeSpec := { name := "utfShort", fn := fun _ => fun
  | [d1, d2] => { results := [.lit (.bool false)], args := [d1, d2] }
  | _ => none }
def UtfShortWrongFalsely : Prop := utfShortRow.holds Try.pinned (OpenSpec.ofChange utfShortWrong)

/-- 'gaugerlaw01.UtfCuts': WHATEVER THE INPUT: true; the input reads as it did. -/
def utfCutsSpec : ChangeSpec := { name := "utfCuts", fn := fun _ => fun
  | [d1, d2] => { results := [.lit (.bool true)], args := [d1, d2] }
  | _ => none }
def utfCutsRow : OpenClaim := { program := "ytkabkkgaalimmaa", sum := "db4dd5324f263325807e1656f550eb264b173f3ed240c824b7bae09a678a3287", func := "gauger/gaugerlaw01.UtfCuts", spec := "utfCuts", unfollowed := true, recurses := true, apart := false }
def UtfCutsSaid : Prop := utfCutsRow.holds Try.pinned (OpenSpec.ofChange utfCutsSpec)

/-- ITS FALSE NEIGHBOUR: 'it returns false'. Refute it at one input. -/
def utfCutsWrong : ChangeSpec := { name := "utfCuts", fn := fun _ => fun
  | [d1, d2] => { results := [.lit (.bool false)], args := [d1, d2] }
  | _ => none }
def UtfCutsWrongFalsely : Prop := utfCutsRow.holds Try.pinned (OpenSpec.ofChange utfCutsWrong)

/-- 'gaugerlaw01.UtfReads': WHATEVER THE INPUT: true; the input reads as it did. -/
def utfReadsSpec : ChangeSpec := { name := "utfReads", fn := fun _ => fun
  | [d1, d2, d3] => { results := [.lit (.bool true)], args := [d1, d2, d3] }
  | _ => none }
def utfReadsRow : OpenClaim := { program := "ytkabkkgaalimmaa", sum := "db4dd5324f263325807e1656f550eb264b173f3ed240c824b7bae09a678a3287", func := "gauger/gaugerlaw01.UtfReads", spec := "utfReads", unfollowed := true, recurses := true, apart := false }
def UtfReadsSaid : Prop := utfReadsRow.holds Try.pinned (OpenSpec.ofChange utfReadsSpec)

/-- ITS FALSE NEIGHBOUR: 'it returns false'. Refute it at one input. -/
def utfReadsWrong : ChangeSpec := { name := "utfReads", fn := fun _ => fun
  | [d1, d2, d3] => { results := [.lit (.bool false)], args := [d1, d2, d3] }
  | _ => none }
def UtfReadsWrongFalsely : Prop := utfReadsRow.holds Try.pinned (OpenSpec.ofChange utfReadsWrong)

/-- 'gaugerlaw01.UtfWrong': WHATEVER THE INPUT: true; the input reads as it did. -/
def utfWrongSpec : ChangeSpec := { name := "utfWrong", fn := fun _ => fun
  | [d1, d2, d3] => { results := [.lit (.bool true)], args := [d1, d2, d3] }
  | _ => none }
def utfWrongRow : OpenClaim := { program := "ytkabkkgaalimmaa", sum := "db4dd5324f263325807e1656f550eb264b173f3ed240c824b7bae09a678a3287", func := "gauger/gaugerlaw01.UtfWrong", spec := "utfWrong", unfollowed := true, recurses := true, apart := false }
def UtfWrongSaid : Prop := utfWrongRow.holds Try.pinned (OpenSpec.ofChange utfWrongSpec)

/-- ITS FALSE NEIGHBOUR: 'it returns false'. Refute it at one input. -/
def utfWrongWrong : ChangeSpec := { name := "utfWrong", fn := fun _ => fun
  | [d1, d2, d3] => { results := [.lit (.bool false)], args := [d1, d2, d3] }
  | _ => none }
def UtfWrongWrongFalsely : Prop := utfWrongRow.holds Try.pinned (OpenSpec.ofChange utfWrongWrong)

/-- 'gaugerlaw01.UtfBack': WHATEVER THE INPUT: true; the input reads as it did. -/
def utfBackSpec : ChangeSpec := { name := "utfBack", fn := fun _ => fun
  | [d1, d2] => { results := [.lit (.bool true)], args := [d1, d2] }
  | _ => none }
def utfBackRow : OpenClaim := { program := "ytkabkkgaalimmaa", sum := "db4dd5324f263325807e1656f550eb264b173f3ed240c824b7bae09a678a3287", func := "gauger/gaugerlaw01.UtfBack", spec := "utfBack", unfollowed := true, recurses := true, apart := false }
def UtfBackSaid : Prop := utfBackRow.holds Try.pinned (OpenSpec.ofChange utfBackSpec)

/-- ITS FALSE NEIGHBOUR: 'it returns false'. Refute it at one input. -/
def utfBackWrong : ChangeSpec := { name := "utfBack", fn := fun _ => fun
  | [d1, d2] => { results := [.lit (.bool false)], args := [d1, d2] }
  | _ => none }
def UtfBackWrongFalsely : Prop := utfBackRow.holds Try.pinned (OpenSpec.ofChange utfBackWrong)

/-- 'gaugerlaw01.UtfSmall': WHATEVER THE INPUT: true; the input reads as it did. -/
def utfSmallSpec : ChangeSpec := { name := "utfSmall", fn := fun _ => fun
  | [] => { results := [.lit (.bool true)], args := [] }
  | _ => none }
def utfSmallRow : OpenClaim := { program := "ytkabkkgaalimmaa", sum := "db4dd5324f263325807e1656f550eb264b173f3ed240c824b7bae09a678a3287", func := "gauger/gaugerlaw01.UtfSmall", spec := "utfSmall", unfollowed := true, recurses := true, apart := false }
def UtfSmallSaid : Prop := utfSmallRow.holds Try.pinned (OpenSpec.ofChange utfSmallSpec)

/-- ITS FALSE NEIGHBOUR: 'it returns false'. Refute it at one input. -/
def utfSmallWrong : ChangeSpec := { name := "utfSmall", fn := fun _ => fun
  | [] => { results := [.lit (.bool false)], args := [] }
  | _ => none }
def UtfSmallWrongFalsely : Prop := utfSmallRow.holds Try.pinned (OpenSpec.ofChange utfSmallWrong)

/- THE SECOND FORM. 'bulk': how many values and letters a reading holds, each counted each time it is reached (what is shared counts as often as it is met; a slice's spare places count too). A statement '..UptoSaid' is the law's where the arguments, and the package variables that the reading takes, are together of bulk at most 1048576: NARROWER than '..Said'. Prove '..Said' where nothing that the law and all that it calls make is longer than what came in: it says more and counts as full. Else prove '..UptoSaid'. A law counts once. -/
mutual
def uptoBulk {H : Type} : DataW H → Nat
  | .lit (.string bytes) => bytes.length + 1
  | .lit _ => 1
  | .nil => 1
  | .ptr d => uptoBulk d + 1
  | .slice elems spare => uptoBulkAll elems + uptoBulkAll spare + 1
  | .agg parts => uptoBulkAll parts + 1
  | .iface _ d => uptoBulk d + 1
  | .map entries => uptoBulkEntries entries + 1
  | .held _ => 1
def uptoBulkAll {H : Type} : List (DataW H) → Nat
  | [] => 0
  | d :: r => uptoBulk d + uptoBulkAll r
def uptoBulkEntries {H : Type} : List (Lit × DataW H) → Nat
  | [] => 0
  | x :: r => uptoBulkEntry x + uptoBulkEntries r
def uptoBulkEntry {H : Type} : Lit × DataW H → Nat
  | (.string bytes, d) => bytes.length + uptoBulk d + 1
  | (_, d) => uptoBulk d + 1
 end
def uptoSmall : (H : Type) → List (DataW H) → Bool := fun _ ds => decide (uptoBulkAll ds ≤ 1048576)
def OpenSpec.upto (s : _root_.Go.ChangeSpec) : _root_.Go.OpenSpec := { _root_.Go.OpenSpec.ofChange s with cond := some uptoSmall }

/-- 'gaugerlaw01.UtfTells', WHERE WHAT IT READS IS OF BULK AT MOST 1048576: true; the input reads as it did. -/
def utfTellsUptoRow : OpenClaim := { program := "ytkabkkgaalimmaa", sum := "db4dd5324f263325807e1656f550eb264b173f3ed240c824b7bae09a678a3287", func := "gauger/gaugerlaw01.UtfTells", spec := "utfTells", unfollowed := true, recurses := true, apart := false, narrowed := true }
def UtfTellsUptoSaid : Prop := utfTellsUptoRow.holds Try.pinned (OpenSpec.upto utfTellsSpec)

/-- 'gaugerlaw01.UtfPairs', WHERE WHAT IT READS IS OF BULK AT MOST 1048576: true; the input reads as it did. -/
def utfPairsUptoRow : OpenClaim := { program := "ytkabkkgaalimmaa", sum := "db4dd5324f263325807e1656f550eb264b173f3ed240c824b7bae09a678a3287", func := "gauger/gaugerlaw01.UtfPairs", spec := "utfPairs", unfollowed := true, recurses := true, apart := false, narrowed := true }
def UtfPairsUptoSaid : Prop := utfPairsUptoRow.holds Try.pinned (OpenSpec.upto utfPairsSpec)

/-- 'gaugerlaw01.UtfTexts', WHERE WHAT IT READS IS OF BULK AT MOST 1048576: true; the input reads as it did. -/
def utfTextsUptoRow : OpenClaim := { program := "ytkabkkgaalimmaa", sum := "db4dd5324f263325807e1656f550eb264b173f3ed240c824b7bae09a678a3287", func := "gauger/gaugerlaw01.UtfTexts", spec := "utfTexts", unfollowed := true, recurses := true, apart := false, narrowed := true }
def UtfTextsUptoSaid : Prop := utfTextsUptoRow.holds Try.pinned (OpenSpec.upto utfTextsSpec)

/-- 'gaugerlaw01.UtfOrder', WHERE WHAT IT READS IS OF BULK AT MOST 1048576: true; the input reads as it did. -/
def utfOrderUptoRow : OpenClaim := { program := "ytkabkkgaalimmaa", sum := "db4dd5324f263325807e1656f550eb264b173f3ed240c824b7bae09a678a3287", func := "gauger/gaugerlaw01.UtfOrder", spec := "utfOrder", unfollowed := true, recurses := true, apart := false, narrowed := true }
def UtfOrderUptoSaid : Prop := utfOrderUptoRow.holds Try.pinned (OpenSpec.upto utfOrderSpec)

/-- 'gaugerlaw01.UtfShort', WHERE WHAT IT READS IS OF BULK AT MOST 1048576: true; the input reads as it did. -/
def utfShortUptoRow : OpenClaim := { program := "ytkabkkgaalimmaa", sum := "db4dd5324f263325807e1656f550eb264b173f3ed240c824b7bae09a678a3287", func := "gauger/gaugerlaw01.UtfShort", spec := "utfShort", unfollowed := true, recurses := true, apart := false, narrowed := true }
def UtfShortUptoSaid : Prop := utfShortUptoRow.holds Try.pinned (OpenSpec.upto utfShortSpec)

/-- 'gaugerlaw01.UtfCuts', WHERE WHAT IT READS IS OF BULK AT MOST 1048576: true; the input reads as it did. -/
def utfCutsUptoRow : OpenClaim := { program := "ytkabkkgaalimmaa", sum := "db4dd5324f263325807e1656f550eb264b173f3ed240c824b7bae09a678a3287", func := "gauger/gaugerlaw01.UtfCuts", spec := "utfCuts", unfollowed := true, recurses := true, apart := false, narrowed := true }
def UtfCutsUptoSaid : Prop := utfCutsUptoRow.holds Try.pinned (OpenSpec.upto utfCutsSpec)

/-- 'gaugerlaw01.UtfReads', WHERE WHAT IT READS IS OF BULK AT MOST 1048576: true; the input reads as it did. -/
def utfReadsUptoRow : OpenClaim := { program := "ytkabkkgaalimmaa", sum := "db4dd5324f263325807e1656f550eb264b173f3ed240c824b7bae09a678a3287", func := "gauger/gaugerlaw01.UtfReads", spec := "utfReads", unfollowed := true, recurses := true, apart := false, narrowed := true }
def UtfReadsUptoSaid : Prop := utfReadsUptoRow.holds Try.pinned (OpenSpec.upto utfReadsSpec)

/-- 'gaugerlaw01.UtfWrong', WHERE WHAT IT READS IS OF BULK AT MOST 1048576: true; the input reads as it did. -/
def utfWrongUptoRow : OpenClaim := { program := "ytkabkkgaalimmaa", sum := "db4dd5324f263325807e1656f550eb264b173f3ed240c824b7bae09a678a3287", func := "gauger/gaugerlaw01.UtfWrong", spec := "utfWrong", unfollowed := true, recurses := true, apart := false, narrowed := true }
def UtfWrongUptoSaid : Prop := utfWrongUptoRow.holds Try.pinned (OpenSpec.upto utfWrongSpec)

/-- 'gaugerlaw01.UtfBack', WHERE WHAT IT READS IS OF BULK AT MOST 1048576: true; the input reads as it did. -/
def utfBackUptoRow : OpenClaim := { program := "ytkabkkgaalimmaa", sum := "db4dd5324f263325807e1656f550eb264b173f3ed240c824b7bae09a678a3287", func := "gauger/gaugerlaw01.UtfBack", spec := "utfBack", unfollowed := true, recurses := true, apart := false, narrowed := true }
def UtfBackUptoSaid : Prop := utfBackUptoRow.holds Try.pinned (OpenSpec.upto utfBackSpec)

/-- 'gaugerlaw01.UtfSmall', WHERE WHAT IT READS IS OF BULK AT MOST 1048576: true; the input reads as it did. -/
def utfSmallUptoRow : OpenClaim := { program := "ytkabkkgaalimmaa", sum := "db4dd5324f263325807e1656f550eb264b173f3ed240c824b7bae09a678a3287", func := "gauger/gaugerlaw01.UtfSmall", spec := "utfSmall", unfollowed := true, recurses := true, apart := false, narrowed := true }
def UtfSmallUptoSaid : Prop := utfSmallUptoRow.holds Try.pinned (OpenSpec.upto utfSmallSpec)

end Rows
end Go.Proofs.Ytkabkkgaalimmaa
