/- The contract of md5.mix. -/
import Derived.Test.YtimiejahkcjcdaaDoorM1
import Derived.OwnWalk
import Derived.Below
import Derived.Lib.Hide
import Derived.Outline
import Derived.Test.YtimiejahkcjcdaaDoorProg
namespace Go.Proofs.YtimiejahkcjcdaaDoor
open Go.RowKit

abbrev W32 := BitVec 32
def mixw (i : Nat) (b c d : BitVec 32) : BitVec 32 :=
  if i < 16 then (b &&& c) ||| (~~~b &&& d) else if i < 32 then (d &&& b) ||| (~~~d &&& c) else if i < 48 then b ^^^ c ^^^ d else c ^^^ (b ||| ~~~d)
def mixg (i : Nat) : Nat := if i < 16 then i else if i < 32 then (5 * i + 1) % 16 else if i < 48 then (3 * i + 5) % 16 else 7 * i % 16
theorem mixg_lt (i : Nat) : mixg i < 16 := by unfold mixg; (repeat' split) <;> omega

set_option maxHeartbeats 1000000 in
theorem mix_any (i : Nat) (hi : i < 64) (b c d : BitVec 32) (w : World) :
    Calls Tryd.prog 44 #[.int .i64 i, .int .u32 (U b), .int .u32 (U c), .int .u32 (U d)] w fun e w' => e = .returned (.tuple #[.int .u32 (U (mixw i b c d)), .int .i64 (mixg i)]) ∧ w = w' := by
  rcases (show i < 16 ∨ (16 ≤ i ∧ i < 32) ∨ (32 ≤ i ∧ i < 48) ∨ 48 ≤ i by omega) with h | ⟨h, h2⟩ | ⟨h, h2⟩ | h
  · have e1 : mixw i b c d = (b &&& c) ||| (~~~b &&& d) := by unfold mixw; rw [if_pos h]
    have e2 : mixg i = i := by unfold mixg; rw [if_pos h]
    rw [e1, e2]
    clear e1 e2
    have t1 : (((i : Int) / 16) == 0) = true := by simp; omega
    go_enter Tryd.func44, Tryd.ntmps44
    go_wp2_with fail
    go_ret2
    exact ⟨rfl, rfl⟩
  · have e1 : mixw i b c d = (d &&& b) ||| (~~~d &&& c) := by unfold mixw; rw [if_neg (by omega), if_pos h2]
    have e2 : ((mixg i : Nat) : Int) = (5 * (i : Int) + 1) % 16 := by unfold mixg; rw [if_neg (by omega), if_pos h2]; omega
    rw [e1, e2]
    clear e1 e2
    have t1 : (((i : Int) / 16) == 0) = false := by simp; omega
    have t2 : (((i : Int) / 16) == 1) = true := by simp; omega
    go_enter Tryd.func44, Tryd.ntmps44
    go_wp2_with fail
    go_ret2
    exact ⟨rfl, rfl⟩
  · have e1 : mixw i b c d = b ^^^ c ^^^ d := by unfold mixw; rw [if_neg (by omega), if_neg (by omega), if_pos h2]
    have e2 : ((mixg i : Nat) : Int) = (3 * (i : Int) + 5) % 16 := by unfold mixg; rw [if_neg (by omega), if_neg (by omega), if_pos h2]; omega
    rw [e1, e2]
    clear e1 e2
    have t1 : (((i : Int) / 16) == 0) = false := by simp; omega
    have t2 : (((i : Int) / 16) == 1) = false := by simp; omega
    have t3 : (((i : Int) / 16) == 2) = true := by simp; omega
    go_enter Tryd.func44, Tryd.ntmps44
    go_wp2_with fail
    go_ret2
    exact ⟨rfl, rfl⟩
  · have e1 : mixw i b c d = c ^^^ (b ||| ~~~d) := by unfold mixw; rw [if_neg (by omega), if_neg (by omega), if_neg (by omega)]
    have e2 : ((mixg i : Nat) : Int) = (7 * (i : Int)) % 16 := by unfold mixg; rw [if_neg (by omega), if_neg (by omega), if_neg (by omega)]; omega
    rw [e1, e2]
    clear e1 e2
    have t1 : (((i : Int) / 16) == 0) = false := by simp; omega
    have t2 : (((i : Int) / 16) == 1) = false := by simp; omega
    have t3 : (((i : Int) / 16) == 2) = false := by simp; omega
    go_enter Tryd.func44, Tryd.ntmps44
    go_wp2_with fail
    go_ret2
    exact ⟨rfl, rfl⟩
end Go.Proofs.YtimiejahkcjcdaaDoor
