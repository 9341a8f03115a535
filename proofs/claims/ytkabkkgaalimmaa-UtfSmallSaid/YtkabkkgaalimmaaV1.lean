/- Contracts of utf.Point, Size, Pair, Split, head, second over the translation. -/
import Derived.WalkKit
import Derived.OwnWalk
import Derived.Below
import Derived.Lib.Hide
import Derived.Deep.DeepMust
import Derived.Laws.Bits128
import Derived.Test.YtkabkkgaalimmaaProg
namespace Go.Proofs.Ytkabkkgaalimmaa
open Go.RowKit

def isPt (x : Int) : Prop := 0 ≤ x ∧ x ≤ 1114111 ∧ (x < 55296 ∨ 57343 < x)
instance (x : Int) : Decidable (isPt x) := by unfold isPt; exact inferInstance
def szI (x : Int) : Int := if x < 128 then 1 else if x < 2048 then 2 else if x < 65536 then 3 else 4

theorem i64_and1023 (n : Int) : bits .and .i64 n 1023 = n % 1024 := by
  have h127 : (BitVec.ofInt 64 1023).toNat = 2 ^ 10 - 1 := by decide
  have key : (BitVec.ofInt 64 n &&& BitVec.ofInt 64 1023).toNat = (n % ((2 ^ 64 : Nat) : Int)).toNat % 2 ^ 10 := by
    rw [BitVec.toNat_and, BitVec.toNat_ofInt, h127, Nat.and_two_pow_sub_one_eq_mod]
  show IntKind.i64.wrap ((BitVec.ofInt 64 n &&& BitVec.ofInt 64 1023).toNat : Nat) = n % 1024
  rw [key, IntKind.wrap_i64]
  omega
theorem index_a (w : World) : (Instr.index 81 (.agg #[.int .i64 128, .int .i64 2048, .int .i64 65536]) (.int .i64 0)).run Try.prog w = .ok (.int .i64 128) w := by kernel_rfl
theorem index_b (w : World) : (Instr.index 81 (.agg #[.int .i64 128, .int .i64 2048, .int .i64 65536]) (.int .i64 1)).run Try.prog w = .ok (.int .i64 2048) w := by kernel_rfl
theorem index_c (w : World) : (Instr.index 81 (.agg #[.int .i64 128, .int .i64 2048, .int .i64 65536]) (.int .i64 2)).run Try.prog w = .ok (.int .i64 65536) w := by kernel_rfl
theorem ret2_1 {a b : Int} {v : Value} (h : a = b) : Ending.returned (.tuple #[.int .i64 a, v]) = .returned (.tuple #[.int .i64 b, v]) := by rw [h]

set_option maxHeartbeats 1000000 in
theorem point_any (x : Int) (w : World) : Calls Try.prog 17 #[.int .i64 x] w fun e w' => e = .returned (.bool (decide (isPt x))) ∧ w = w' := by
  rcases (show x < 0 ∨ (0 ≤ x ∧ x < 55296) ∨ (55296 ≤ x ∧ x ≤ 57343) ∨ (57343 < x ∧ x ≤ 1114111) ∨ 1114111 < x by omega) with h | ⟨h, h'⟩ | ⟨h, h'⟩ | ⟨h, h'⟩ | h
  · rw [show decide (isPt x) = false from decide_eq_false (by unfold isPt; omega)]
    have t1 : decide (0 ≤ x) = false := decide_eq_false (by omega)
    have t2 : decide (x ≤ 1114111) = true := decide_eq_true (by omega)
    have t3 : decide (x < 55296) = true := decide_eq_true (by omega)
    have t4 : decide (57343 < x) = false := decide_eq_false (by omega)
    go_enter Try.func17, Try.ntmps17
    go_wp2_with fail
    go_ret
    exact ⟨rfl, rfl⟩
  · rw [show decide (isPt x) = true from decide_eq_true (by unfold isPt; omega)]
    have t1 : decide (0 ≤ x) = true := decide_eq_true (by omega)
    have t2 : decide (x ≤ 1114111) = true := decide_eq_true (by omega)
    have t3 : decide (x < 55296) = true := decide_eq_true (by omega)
    have t4 : decide (57343 < x) = false := decide_eq_false (by omega)
    go_enter Try.func17, Try.ntmps17
    go_wp2_with fail
    go_ret
    exact ⟨rfl, rfl⟩
  · rw [show decide (isPt x) = false from decide_eq_false (by unfold isPt; omega)]
    have t1 : decide (0 ≤ x) = true := decide_eq_true (by omega)
    have t2 : decide (x ≤ 1114111) = true := decide_eq_true (by omega)
    have t3 : decide (x < 55296) = false := decide_eq_false (by omega)
    have t4 : decide (57343 < x) = false := decide_eq_false (by omega)
    go_enter Try.func17, Try.ntmps17
    go_wp2_with fail
    go_ret
    exact ⟨rfl, rfl⟩
  · rw [show decide (isPt x) = true from decide_eq_true (by unfold isPt; omega)]
    have t1 : decide (0 ≤ x) = true := decide_eq_true (by omega)
    have t2 : decide (x ≤ 1114111) = true := decide_eq_true (by omega)
    have t3 : decide (x < 55296) = false := decide_eq_false (by omega)
    have t4 : decide (57343 < x) = true := decide_eq_true (by omega)
    go_enter Try.func17, Try.ntmps17
    go_wp2_with fail
    go_ret
    exact ⟨rfl, rfl⟩
  · rw [show decide (isPt x) = false from decide_eq_false (by unfold isPt; omega)]
    have t1 : decide (0 ≤ x) = true := decide_eq_true (by omega)
    have t2 : decide (x ≤ 1114111) = false := decide_eq_false (by omega)
    have t3 : decide (x < 55296) = false := decide_eq_false (by omega)
    have t4 : decide (57343 < x) = true := decide_eq_true (by omega)
    go_enter Try.func17, Try.ntmps17
    go_wp2_with fail
    go_ret
    exact ⟨rfl, rfl⟩
theorem point_yes (x : Int) (h : isPt x) (w : World) : Calls Try.prog 17 #[.int .i64 x] w fun e w' => e = .returned (.bool true) ∧ w = w' := by
  have := point_any x w; rwa [decide_eq_true h] at this
theorem point_no (x : Int) (h : ¬ isPt x) (w : World) : Calls Try.prog 17 #[.int .i64 x] w fun e w' => e = .returned (.bool false) ∧ w = w' := by
  have := point_any x w; rwa [decide_eq_false h] at this

set_option maxHeartbeats 1000000 in
theorem size_no (x : Int) (h : ¬ isPt x) (w : World) : Calls Try.prog 28 #[.int .i64 x] w fun e w' => e = .returned (.tuple #[.int .i64 0, .int .i64 2]) ∧ w = w' := by
  replace h := Lib.hid h
  go_enter Try.func28, Try.ntmps28
  go_wp2_with fail
  refine (point_no x h.out _).mono ?_; rintro e w1 ⟨rfl, rfl⟩
  go_wp2_with fail
  go_ret2
  exact ⟨rfl, rfl⟩
set_option maxHeartbeats 1000000 in
theorem size_yes (x : Int) (h : isPt x) (w : World) : Calls Try.prog 28 #[.int .i64 x] w fun e w' => e = .returned (.tuple #[.int .i64 (szI x), .int .i64 0]) ∧ w = w' := by
  replace h := Lib.hid h
  rcases (show x < 128 ∨ (128 ≤ x ∧ x < 2048) ∨ (2048 ≤ x ∧ x < 65536) ∨ 65536 ≤ x by omega) with h1 | ⟨h1, h2⟩ | ⟨h1, h2⟩ | h1
  · rw [show szI x = 1 by unfold szI; omega]
    go_enter Try.func28, Try.ntmps28
    go_wp2_with fail
    refine (point_yes x h.out _).mono ?_; rintro e w1 ⟨rfl, rfl⟩
    have i1 := index_a w
    have i2 := index_b w
    have i3 := index_c w
    go_wp2_with fail
    refine wp_loop_rounds 1 ?_
    rw [rounds_succ]; go_wp2
    go_ret2
    exact ⟨rfl, rfl⟩
  · rw [show szI x = 2 by unfold szI; omega]
    go_enter Try.func28, Try.ntmps28
    go_wp2_with fail
    refine (point_yes x h.out _).mono ?_; rintro e w1 ⟨rfl, rfl⟩
    have i1 := index_a w
    have i2 := index_b w
    have i3 := index_c w
    go_wp2_with fail
    refine wp_loop_rounds 2 ?_
    rw [rounds_succ]; go_wp2
    rw [rounds_succ]; go_wp2
    go_ret2
    exact ⟨rfl, rfl⟩
  · rw [show szI x = 3 by unfold szI; omega]
    go_enter Try.func28, Try.ntmps28
    go_wp2_with fail
    refine (point_yes x h.out _).mono ?_; rintro e w1 ⟨rfl, rfl⟩
    have i1 := index_a w
    have i2 := index_b w
    have i3 := index_c w
    go_wp2_with fail
    refine wp_loop_rounds 3 ?_
    rw [rounds_succ]; go_wp2
    rw [rounds_succ]; go_wp2
    rw [rounds_succ]; go_wp2
    go_ret2
    exact ⟨rfl, rfl⟩
  · rw [show szI x = 4 by unfold szI; omega]
    go_enter Try.func28, Try.ntmps28
    go_wp2_with fail
    refine (point_yes x h.out _).mono ?_; rintro e w1 ⟨rfl, rfl⟩
    have i1 := index_a w
    have i2 := index_b w
    have i3 := index_c w
    go_wp2_with fail
    refine wp_loop_rounds 4 ?_
    rw [rounds_succ]; go_wp2
    rw [rounds_succ]; go_wp2
    rw [rounds_succ]; go_wp2
    rw [rounds_succ]; go_wp2
    go_ret2
    exact ⟨rfl, rfl⟩

set_option maxHeartbeats 1000000 in
theorem pair_yes (x y : Int) (h1 : 55296 ≤ x) (h2 : x < 56320) (h3 : 56320 ≤ y) (h4 : y ≤ 57343) (w : World) :
    Calls Try.prog 15 #[.int .i64 x, .int .i64 y] w fun e w' => e = .returned (.tuple #[.int .i64 (65536 + (x - 55296) * 1024 + (y - 56320)), .int .i64 0]) ∧ w = w' := by
  go_enter Try.func15, Try.ntmps15
  go_wp2_with fail
  go_ret2
  exact ⟨ret2_1 (by omega), rfl⟩
set_option maxHeartbeats 1000000 in
theorem pair_no (x y : Int) (h : ¬ (55296 ≤ x ∧ x < 56320 ∧ 56320 ≤ y ∧ y ≤ 57343)) (w : World) :
    Calls Try.prog 15 #[.int .i64 x, .int .i64 y] w fun e w' => e = .returned (.tuple #[.int .i64 0, .int .i64 2]) ∧ w = w' := by
  rcases (show x < 55296 ∨ (55296 ≤ x ∧ 56320 ≤ x) ∨ (55296 ≤ x ∧ x < 56320 ∧ y < 56320) ∨ (55296 ≤ x ∧ x < 56320 ∧ 56320 ≤ y ∧ 57343 < y) by omega) with h1 | ⟨h1, h2⟩ | ⟨h1, h2, h3⟩ | ⟨h1, h2, h3, h4⟩
  all_goals
    clear h
    go_enter Try.func15, Try.ntmps15
    go_wp2_with fail
    go_ret2
    exact ⟨rfl, rfl⟩
set_option maxHeartbeats 1000000 in
theorem split_no (x : Int) (h : ¬ (65536 ≤ x ∧ x ≤ 1114111)) (w : World) :
    Calls Try.prog 16 #[.int .i64 x] w fun e w' => e = .returned (.tuple #[.int .i64 0, .int .i64 0, .int .i64 2]) ∧ w = w' := by
  rcases (show x < 65536 ∨ (65536 ≤ x ∧ 1114111 < x) by omega) with h1 | ⟨h1, h2⟩
  all_goals
    clear h
    go_enter Try.func16, Try.ntmps16
    go_wp2_with fail
    go_ret3
    exact ⟨rfl, rfl⟩
set_option maxHeartbeats 1000000 in
theorem split_yes (x : Int) (h1 : 65536 ≤ x) (h2 : x ≤ 1114111) (w : World) :
    Calls Try.prog 16 #[.int .i64 x] w fun e w' => e = .returned (.tuple #[.int .i64 (55296 + (x - 65536) / 1024), .int .i64 (56320 + (x - 65536) % 1024), .int .i64 0]) ∧ w = w' := by
  have hm := i64_and1023 (x - 65536)
  go_enter Try.func16, Try.ntmps16
  go_wp2_with fail
  go_ret3
  exact ⟨rfl, rfl⟩
end Go.Proofs.Ytkabkkgaalimmaa
