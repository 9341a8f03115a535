/- DecimalNext's walk over what comes in. -/
import Derived.Test.YtaidemghhagniaaGreatDoorKM
import Derived.Test.YtaidemghhagniaaGreatDoorN2
namespace Go.Proofs.YtaidemghhagniaaGreatDoor
open Go Go.RowKit
theorem decimalNext_walk (a0 a1 : Int) (w : World) (w0 : (Lit.int .u64 a0).wf = true) (w1 : (Lit.int .u64 a1).wf = true) (hG : AGlb w) :
    Calls Tryz.prog 9 #[.int .u64 a0, .int .u64 a1] w fun e w' => e = .returned (.bool true) ∧ Below w.heap.size w w' := by
  obtain ⟨a, rfl, ha⟩ := u64_of w0
  obtain ⟨b, rfl, hb⟩ := u64_of w1
  exact next_law a b ha hb w hG
end Go.Proofs.YtaidemghhagniaaGreatDoor
