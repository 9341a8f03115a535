/- The closed facts of the row of ExpoBlanks. -/
import Derived.Test.YtdeimnnpcfncpaaGreatDoorRows
import Derived.SevenTiedAt
import Derived.ProofKit
namespace Go.Proofs.YtdeimnnpcfncpaaGreatDoor.expoBlanks
set_option maxRecDepth 100000 in
set_option maxHeartbeats 0 in
theorem closed : joinedFacts Tryz.prog 4 Tryz.f4 Rows.expoBlanksSpec Rows.expoBlanksRow = true := by
  unfold joinedFacts
  repeat' (with_reducible refine Bool.and_eq_true_iff.2 ⟨?_, ?_⟩)
  all_goals as_aux_lemma => kernel_rfl
end Go.Proofs.YtdeimnnpcfncpaaGreatDoor.expoBlanks
