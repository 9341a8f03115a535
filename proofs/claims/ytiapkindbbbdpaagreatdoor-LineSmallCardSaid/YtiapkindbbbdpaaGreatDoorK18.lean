/- The walk of the law LineNumbered. -/
import Derived.Test.YtiapkindbbbdpaaGreatDoorK17
import Derived.Test.YtiapkindbbbdpaaGreatDoorP1
namespace Go.Proofs.YtiapkindbbbdpaaGreatDoor
open Go.RowKit

theorem i64_bd {a : Int} (w : (Lit.int .i64 a).wf = true) : -9223372036854775808 ≤ a ∧ a ≤ 9223372036854775807 := by
  have := w
  simp [Lit.wf, IntKind.min, IntKind.max, IntKind.signed, IntKind.bits] at this
  omega
end Go.Proofs.YtiapkindbbbdpaaGreatDoor
