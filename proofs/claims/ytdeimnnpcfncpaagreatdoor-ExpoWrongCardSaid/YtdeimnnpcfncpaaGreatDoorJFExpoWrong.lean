/- The closed facts of the row of ExpoWrong. -/
import Derived.Test.YtdeimnnpcfncpaaGreatDoorRows
import Derived.SevenTiedAt
import Derived.ProofKit
namespace Go.Proofs.YtdeimnnpcfncpaaGreatDoor.expoWrong
set_option maxRecDepth 100000 in
set_option maxHeartbeats 0 in
theorem closed : joinedFacts Tryz.prog 3 Tryz.f3 Rows.expoWrongSpec Rows.expoWrongRow = true := by
  unfold joinedFacts
  repeat' (with_reducible refine Bool.and_eq_true_iff.2 ⟨?_, ?_⟩)
  all_goals as_aux_lemma => kernel_rfl
end Go.Proofs.YtdeimnnpcfncpaaGreatDoor.expoWrong
