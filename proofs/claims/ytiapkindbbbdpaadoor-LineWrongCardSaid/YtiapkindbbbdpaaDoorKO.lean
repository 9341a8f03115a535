/- The law LineWrong at its parameters. -/
import Derived.Test.YtiapkindbbbdpaaDoorKM
import Derived.Test.YtiapkindbbbdpaaDoorT7
namespace Go.Proofs.YtiapkindbbbdpaaDoor
open Go.RowKit
theorem lineWrong_walk (a0 : Option Addr) (len0 cap0 : Nat) (z0 : List (List ByteArray)) (a1 : Int) (a2 : Int) (a3 : Int) (w : World) (w0 : SRows w (.slice a0 len0 cap0) z0) (_w1 : (Lit.int .u16 a1).wf = true) (w2 : (Lit.int .u8 a2).wf = true) (w3 : (Lit.int .u8 a3).wf = true) (hG : Glb2 w) :
    Calls Tryd.prog 7 #[.slice a0 len0 cap0, .int .u16 a1, .int .u8 a2, .int .u8 a3] w fun e w' => e = .returned (.bool true) ∧ Below w.heap.size w w' := by
  obtain ⟨h1, h2⟩ := u8_bd w2
  obtain ⟨h3, h4⟩ := u8_bd w3
  exact wrong_any _ a1 a2 a3 z0 h1 h2 h3 h4 w w0 hG
end Go.Proofs.YtiapkindbbbdpaaDoor
