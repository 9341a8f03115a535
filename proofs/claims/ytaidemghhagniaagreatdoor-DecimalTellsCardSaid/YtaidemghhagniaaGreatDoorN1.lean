/- The plain law of DecimalNext. -/
import Derived.Test.YtaidemghhagniaaGreatDoorD17
namespace Go.Proofs.YtaidemghhagniaaGreatDoor
open Go Ieee
theorem INF_is : INF = 9218868437227405312 := rfl
theorem nan_f (v : Nat) : nanN v = false ↔ v % 9223372036854775808 ≤ INF := by
  unfold nanN; rw [decide_eq_false_iff_not]; omega
theorem nan_t (v : Nat) : nanN v = true ↔ INF < v % 9223372036854775808 := by
  unfold nanN; rw [decide_eq_true_iff]
theorem kind4 (v : Nat) (_ : v < 18446744073709551616) : kindN v = 4 ↔ nanN v = true := by
  rw [nan_t, INF_is]
  unfold kindN
  by_cases h1 : v / 4503599627370496 % 2048 = 2047
  · rw [if_pos h1]
    by_cases h2 : v % 4503599627370496 = 0
    · rw [if_pos h2]; constructor <;> intro h <;> omega
    · rw [if_neg h2]; constructor <;> intro h <;> omega
  · rw [if_neg h1]
    constructor
    · intro h; exfalso; revert h
      split
      · decide
      · split <;> decide
    · intro h; omega
theorem ord_lo (v : Nat) (h : v < 9223372036854775808) : ordN v = v := by unfold ordN; rw [if_pos h]
theorem ord_hi (v : Nat) (h : 9223372036854775808 ≤ v) : ordN v = 9223372036854775808 - v := by unfold ordN; rw [if_neg (by omega)]; omega
/-- What Next gives of a value that is a number, and not the last one. -/
theorem next_ok (a : Nat) (ha : a < 18446744073709551616) (hn : nanN a = false) (hi : a ≠ 9218868437227405312) :
    ∃ n, nextN a = (n, 0) ∧ n < 18446744073709551616 ∧ nanN n = false ∧ ordN n = ordN a + 1 ∧ n ≠ 18442240474082181120 := by
  have hk : kindN a ≠ 4 := fun h => by rw [(kind4 a ha).1 h] at hn; cases hn
  have hn' : a % 9223372036854775808 ≤ 9218868437227405312 := by rw [nan_f, INF_is] at hn; exact hn
  have e : nextN a = if a = 9223372036854775808 then (1, 0) else if a = 9223372036854775809 then (0, 0) else if 9223372036854775808 ≤ a then (a - 1, 0) else (a + 1, 0) := by
    unfold nextN
    rw [if_neg hk, if_neg (by rw [INF_is]; exact hi)]
  rw [e]
  by_cases h1 : a = 9223372036854775808
  · rw [if_pos h1]
    refine ⟨1, rfl, by omega, by rw [nan_f, INF_is]; omega, ?_, by omega⟩
    rw [ord_lo 1 (by omega), ord_hi a (by omega)]; omega
  · rw [if_neg h1]
    by_cases h2 : a = 9223372036854775809
    · rw [if_pos h2]
      refine ⟨0, rfl, by omega, by rw [nan_f, INF_is]; omega, ?_, by omega⟩
      rw [ord_lo 0 (by omega), ord_hi a (by omega)]; omega
    · rw [if_neg h2]
      by_cases h3 : 9223372036854775808 ≤ a
      · rw [if_pos h3]
        refine ⟨a - 1, rfl, by omega, by rw [nan_f, INF_is]; omega, ?_, by omega⟩
        rw [ord_hi (a - 1) (by omega), ord_hi a (by omega)]; omega
      · rw [if_neg h3]
        refine ⟨a + 1, rfl, by omega, by rw [nan_f, INF_is]; omega, ?_, by omega⟩
        rw [ord_lo (a + 1) (by omega), ord_lo a (by omega)]; omega
theorem neg_lo (v : Nat) (h : v < 9223372036854775808) : negN v = v + 9223372036854775808 := by unfold negN; rw [if_pos h]
theorem neg_hi (v : Nat) (h : 9223372036854775808 ≤ v) : negN v = v - 9223372036854775808 := by unfold negN; rw [if_neg (by omega)]
theorem neg_ok (a : Nat) (ha : a < 18446744073709551616) : negN a < 18446744073709551616 ∧ nanN (negN a) = nanN a ∧ ordN (negN a) = - ordN a := by
  have key : nanN (negN a) = nanN a ↔ (nanN (negN a) = true ↔ nanN a = true) := by cases nanN (negN a) <;> cases nanN a <;> simp
  rw [key, nan_t, nan_t, INF_is]
  by_cases h : a < 9223372036854775808
  · rw [neg_lo a h, ord_lo a h, ord_hi _ (by omega)]
    refine ⟨by omega, by omega, by omega⟩
  · rw [neg_hi a (by omega), ord_hi a (by omega), ord_lo _ (by omega)]
    refine ⟨by omega, by omega, by omega⟩
theorem cmp_num (a b : Nat) (ha : nanN a = false) (hb : nanN b = false) : cmpN a b = (if ordN a < ordN b then -1 else if ordN b < ordN a then 1 else 0, 0) := by
  unfold cmpN; rw [ha, hb]; rfl
end Go.Proofs.YtaidemghhagniaaGreatDoor
