/- Leaves: lower. -/
import Derived.Test.YtaidemghhagniaaGreatDoorD6
namespace Go.Proofs.YtaidemghhagniaaGreatDoor
open Go Go.RowKit
theorem lower_q (c : UInt8) (w : World) : Calls Tryz.prog 148 #[.int .u8 (c.toNat : Int)] w fun e w' => e = .returned (.int .u8 (((c.toNat ||| 32 : Nat)) : Int)) ∧ w = w' := by
  have h := u8_or_nat c.toNat 32 c.toNat_lt (by decide)
  have h2 : bits .or .u8 (c.toNat : Int) 32 = ((c.toNat ||| 32 : Nat) : Int) := h
  have l := c.toNat_lt
  generalize c.toNat = n at *
  go_enter Tryz.func148, Tryz.ntmps148
  go_wp2
  go_ret
  exact ⟨rfl, rfl⟩
end Go.Proofs.YtaidemghhagniaaGreatDoor
