/- Contracts of utf.head, second and Read over the translation. -/
import Derived.WalkKit
import Derived.OwnWalk
import Derived.Below
import Derived.Lib.Hide
import Derived.Deep.DeepMust
import Derived.Laws.Bits128
import Derived.Test.YtiapkindbbbdpaaGreatDoorProg
namespace Go.Proofs.YtiapkindbbbdpaaGreatDoor
open Go.RowKit

def hdn (c : Int) : Nat := if c < 128 then 1 else if c < 194 then 0 else if c < 224 then 2 else if c < 240 then 3 else if c < 245 then 4 else 0
def hdx (c : Int) : Int := if c < 128 then c else if c < 194 then 0 else if c < 224 then c % 32 else if c < 240 then c % 16 else if c < 245 then c % 8 else 0

set_option maxHeartbeats 1000000 in
theorem head_any (c : Int) (h0 : 0 ≤ c) (h1 : c < 256) (w : World) :
    Calls Tryz.prog 93 #[.int .u8 c] w fun e w' => e = .returned (.tuple #[.int .i64 (hdn c), .int .i64 (hdx c)]) ∧ w = w' := by
  have b31 := u8_and31 (h₀ := h0) (h₁ := h1)
  have b15 := u8_and15 (h₀ := h0) (h₁ := h1)
  have b7 := u8_and7 (h₀ := h0) (h₁ := h1)
  rcases (show c < 128 ∨ (128 ≤ c ∧ c < 194) ∨ (194 ≤ c ∧ c < 224) ∨ (224 ≤ c ∧ c < 240) ∨ (240 ≤ c ∧ c < 245) ∨ 245 ≤ c by omega) with g | ⟨g, g2⟩ | ⟨g, g2⟩ | ⟨g, g2⟩ | ⟨g, g2⟩ | g
  · rw [show hdn c = 1 by unfold hdn; (repeat' split) <;> omega, show hdx c = c by unfold hdx; omega]
    have t1 : decide (c < 128) = true := decide_eq_true (by omega)
    go_enter Tryz.func93, Tryz.ntmps93
    go_wp2_with fail
    go_ret2
    exact ⟨rfl, rfl⟩
  · rw [show hdn c = 0 by unfold hdn; (repeat' split) <;> omega, show hdx c = 0 by unfold hdx; omega]
    have t1 : decide (c < 128) = false := decide_eq_false (by omega)
    have t2 : decide (194 ≤ c) = false := decide_eq_false (by omega)
    have t3 : decide (224 ≤ c) = false := decide_eq_false (by omega)
    have t4 : decide (240 ≤ c) = false := decide_eq_false (by omega)
    go_enter Tryz.func93, Tryz.ntmps93
    go_wp2_with fail
    go_ret2
    exact ⟨rfl, rfl⟩
  · rw [show hdn c = 2 by unfold hdn; (repeat' split) <;> omega, show hdx c = c % 32 by unfold hdx; omega]
    have t1 : decide (c < 128) = false := decide_eq_false (by omega)
    have t2 : decide (194 ≤ c) = true := decide_eq_true (by omega)
    have t3 : decide (c < 224) = true := decide_eq_true (by omega)
    go_enter Tryz.func93, Tryz.ntmps93
    go_wp2_with fail
    go_ret2
    exact ⟨rfl, rfl⟩
  · rw [show hdn c = 3 by unfold hdn; (repeat' split) <;> omega, show hdx c = c % 16 by unfold hdx; omega]
    have t1 : decide (c < 128) = false := decide_eq_false (by omega)
    have t2 : decide (194 ≤ c) = true := decide_eq_true (by omega)
    have t3 : decide (c < 224) = false := decide_eq_false (by omega)
    have t4 : decide (224 ≤ c) = true := decide_eq_true (by omega)
    have t5 : decide (c < 240) = true := decide_eq_true (by omega)
    go_enter Tryz.func93, Tryz.ntmps93
    go_wp2_with fail
    go_ret2
    exact ⟨rfl, rfl⟩
  · rw [show hdn c = 4 by unfold hdn; (repeat' split) <;> omega, show hdx c = c % 8 by unfold hdx; omega]
    have t1 : decide (c < 128) = false := decide_eq_false (by omega)
    have t2 : decide (194 ≤ c) = true := decide_eq_true (by omega)
    have t3 : decide (c < 224) = false := decide_eq_false (by omega)
    have t4 : decide (224 ≤ c) = true := decide_eq_true (by omega)
    have t5 : decide (c < 240) = false := decide_eq_false (by omega)
    have t6 : decide (240 ≤ c) = true := decide_eq_true (by omega)
    have t7 : decide (c < 245) = true := decide_eq_true (by omega)
    go_enter Tryz.func93, Tryz.ntmps93
    go_wp2_with fail
    go_ret2
    exact ⟨rfl, rfl⟩
  · rw [show hdn c = 0 by unfold hdn; (repeat' split) <;> omega, show hdx c = 0 by unfold hdx; omega]
    have t1 : decide (c < 128) = false := decide_eq_false (by omega)
    have t2 : decide (194 ≤ c) = true := decide_eq_true (by omega)
    have t3 : decide (c < 224) = false := decide_eq_false (by omega)
    have t4 : decide (224 ≤ c) = true := decide_eq_true (by omega)
    have t5 : decide (c < 240) = false := decide_eq_false (by omega)
    have t6 : decide (240 ≤ c) = true := decide_eq_true (by omega)
    have t7 : decide (c < 245) = false := decide_eq_false (by omega)
    go_enter Tryz.func93, Tryz.ntmps93
    go_wp2_with fail
    go_ret2
    exact ⟨rfl, rfl⟩

def sec (f c : Int) : Bool := if c < 128 ∨ 192 ≤ c then false else if f = 224 then decide (160 ≤ c) else if f = 237 then decide (c < 160) else if f = 240 then decide (144 ≤ c) else if f = 244 then decide (c < 144) else true

set_option maxHeartbeats 1000000 in
theorem second_any (f c : Int) (w : World) :
    Calls Tryz.prog 94 #[.int .u8 f, .int .u8 c] w fun e w' => e = .returned (.bool (sec f c)) ∧ w = w' := by
  by_cases h1 : c < 128 ∨ 192 ≤ c
  · rw [show sec f c = false by unfold sec; rw [if_pos h1]]
    by_cases h2 : c < 128
    · have t1 : decide (c < 128) = true := decide_eq_true h2
      go_enter Tryz.func94, Tryz.ntmps94
      go_wp2_with fail
      go_ret
      exact ⟨rfl, rfl⟩
    · have t1 : decide (c < 128) = false := decide_eq_false h2
      have t2 : decide (192 ≤ c) = true := decide_eq_true (by omega)
      go_enter Tryz.func94, Tryz.ntmps94
      go_wp2_with fail
      go_ret
      exact ⟨rfl, rfl⟩
  · have t1 : decide (c < 128) = false := decide_eq_false (by omega)
    have t2 : decide (192 ≤ c) = false := decide_eq_false (by omega)
    by_cases e1 : f = 224
    · subst e1
      rw [show sec 224 c = decide (160 ≤ c) by unfold sec; rw [if_neg h1]; rfl]
      go_enter Tryz.func94, Tryz.ntmps94
      go_wp2_with fail
      go_ret
      exact ⟨rfl, rfl⟩
    · by_cases e2 : f = 237
      · subst e2
        rw [show sec 237 c = decide (c < 160) by unfold sec; rw [if_neg h1]; rfl]
        go_enter Tryz.func94, Tryz.ntmps94
        go_wp2_with fail
        go_ret
        exact ⟨rfl, rfl⟩
      · by_cases e3 : f = 240
        · subst e3
          rw [show sec 240 c = decide (144 ≤ c) by unfold sec; rw [if_neg h1]; rfl]
          go_enter Tryz.func94, Tryz.ntmps94
          go_wp2_with fail
          go_ret
          exact ⟨rfl, rfl⟩
        · by_cases e4 : f = 244
          · subst e4
            rw [show sec 244 c = decide (c < 144) by unfold sec; rw [if_neg h1]; rfl]
            go_enter Tryz.func94, Tryz.ntmps94
            go_wp2_with fail
            go_ret
            exact ⟨rfl, rfl⟩
          · rw [show sec f c = true by unfold sec; rw [if_neg h1, if_neg e1, if_neg e2, if_neg e3, if_neg e4]]
            have q1 : (f == 224) = false := by simpa using e1
            have q2 : (f == 237) = false := by simpa using e2
            have q3 : (f == 240) = false := by simpa using e3
            have q4 : (f == 244) = false := by simpa using e4
            go_enter Tryz.func94, Tryz.ntmps94
            go_wp2_with fail
            go_ret
            exact ⟨rfl, rfl⟩
end Go.Proofs.YtiapkindbbbdpaaGreatDoor
