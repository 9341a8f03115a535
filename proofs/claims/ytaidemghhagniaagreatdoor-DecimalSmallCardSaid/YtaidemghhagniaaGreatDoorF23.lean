/- The two texts that awake asks for. -/
import Derived.Test.YtaidemghhagniaaGreatDoorD20
namespace Go.Proofs.YtaidemghhagniaaGreatDoor
open Go
theorem dd_15 : Lib.decDigits (exF 0x3ff8000000000000) = [54, 55, 53, 53, 51, 57, 57, 52, 52, 49, 48, 53, 53, 55, 52, 52] := by
  rw [Lib.decDigits_eq]; decide +kernel
theorem exact_15 : exactL 0x3ff8000000000000 = [49, 46, 53] := by
  unfold exactL exW exT exD
  rw [dd_15]
  decide +kernel
theorem dd_01 : Lib.decDigits (exF 0x3fb999999999999a) = [55, 50, 48, 53, 55, 53, 57, 52, 48, 51, 55, 57, 50, 55, 57, 52] := by
  rw [Lib.decDigits_eq]; decide +kernel
theorem exact_01 : exactL 0x3fb999999999999a = "0.1000000000000000055511151231257827021181583404541015625".toUTF8.data.toList := by
  unfold exactL exW exT exD
  rw [dd_01]
  decide +kernel
end Go.Proofs.YtaidemghhagniaaGreatDoor
