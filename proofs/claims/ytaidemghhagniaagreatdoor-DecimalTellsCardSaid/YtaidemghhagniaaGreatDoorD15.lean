/- decimal's parts, Kind, Next, Negate. -/
import Derived.Test.YtaidemghhagniaaGreatDoorD4
namespace Go.Proofs.YtaidemghhagniaaGreatDoor
open Go Go.RowKit
def kindN (v : Nat) : Nat := if v / 4503599627370496 % 2048 = 2047 then (if v % 4503599627370496 = 0 then 3 else 4) else if 0 < v / 4503599627370496 % 2048 then 2 else if 0 < v % 4503599627370496 then 1 else 0
theorem parts_any (v : Nat) (hv : v < 18446744073709551616) (w : World) : Calls Tryz.prog 27 #[.int .u64 v] w fun e w' => e = .returned (.tuple #[.int .i64 ((v / 4503599627370496 % 2048 : Nat) : Int), .int .u64 ((v % 4503599627370496 : Nat) : Int)]) ∧ w = w' := by
  have b1 : bits .and .u64 ((v : Int) / 4503599627370496) 2047 = ((v / 4503599627370496 % 2048 : Nat) : Int) := by
    have := u64_and_nat (v / 4503599627370496) 2047 (by omega) (by decide)
    rw [show ((v : Int) / 4503599627370496) = ((v / 4503599627370496 : Nat) : Int) by omega]
    refine Eq.trans this ?_
    rw [show (2047 : Nat) = 2 ^ 11 - 1 from rfl, Nat.and_two_pow_sub_one_eq_mod]
  have b2 : bits .and .u64 (v : Int) 4503599627370495 = ((v % 4503599627370496 : Nat) : Int) := by
    have := u64_and_nat v 4503599627370495 hv (by decide)
    refine Eq.trans this ?_
    rw [show (4503599627370495 : Nat) = 2 ^ 52 - 1 from rfl, Nat.and_two_pow_sub_one_eq_mod]
  obtain ⟨x, hx⟩ : ∃ x, x = v / 4503599627370496 % 2048 := ⟨_, rfl⟩
  obtain ⟨y, hy⟩ : ∃ y, y = v % 4503599627370496 := ⟨_, rfl⟩
  rw [← hx] at b1 ⊢
  rw [← hy] at b2 ⊢
  have hx2 : x < 2048 := by omega
  clear hx hy
  go_enter Tryz.func27, Tryz.ntmps27
  go_wp2
  go_ret2
  exact ⟨rfl, rfl⟩
theorem kind_any (v : Nat) (hv : v < 18446744073709551616) (w : World) : Calls Tryz.prog 15 #[.int .u64 v] w fun e w' => e = .returned (.int .u8 ((kindN v : Nat) : Int)) ∧ w = w' := by
  have c := Lib.hid (parts_any v hv w)
  unfold kindN
  obtain ⟨x, hx⟩ : ∃ x, x = v / 4503599627370496 % 2048 := ⟨_, rfl⟩
  obtain ⟨y, hy⟩ : ∃ y, y = v % 4503599627370496 := ⟨_, rfl⟩
  rw [← hx, ← hy] at c ⊢
  clear hx hy
  by_cases g1 : x = 2047
  · have u1 : ((x : Int) == 2047) = true := by simp [g1]
    by_cases g2 : y = 0
    · have u2 : ((y : Int) == 0) = true := by simp [g2]
      rw [if_pos g1, if_pos g2]
      clear g1 g2
      go_enter Tryz.func15, Tryz.ntmps15
      go_wp2_with fail
      refine c.out.mono ?_; rintro z w1 ⟨rfl, rfl⟩
      go_wp2_with fail
      go_ret
      exact ⟨rfl, rfl⟩
    · have u2 : ((y : Int) == 0) = false := by simp [g2]
      rw [if_pos g1, if_neg g2]
      clear g1 g2
      go_enter Tryz.func15, Tryz.ntmps15
      go_wp2_with fail
      refine c.out.mono ?_; rintro z w1 ⟨rfl, rfl⟩
      go_wp2_with fail
      go_ret
      exact ⟨rfl, rfl⟩
  · have u1 : ((x : Int) == 2047) = false := by simp; omega
    rw [if_neg g1]
    by_cases g2 : 0 < x
    · have u2 : decide ((0 : Int) < (x : Int)) = true := decide_eq_true (by omega)
      have u2' : decide (0 < x) = true := decide_eq_true g2
      rw [if_pos g2]
      clear g1
      go_enter Tryz.func15, Tryz.ntmps15
      go_wp2_with fail
      refine c.out.mono ?_; rintro z w1 ⟨rfl, rfl⟩
      go_wp2_with fail
      go_ret
      exact ⟨rfl, rfl⟩
    · have u2 : decide ((0 : Int) < (x : Int)) = false := decide_eq_false (by omega)
      have u2' : decide (0 < x) = false := decide_eq_false g2
      rw [if_neg g2]
      by_cases g3 : 0 < y
      · have u3 : decide ((0 : Int) < (y : Int)) = true := decide_eq_true (by omega)
        have u3' : decide (0 < y) = true := decide_eq_true g3
        rw [if_pos g3]
        clear g1 g2
        go_enter Tryz.func15, Tryz.ntmps15
        go_wp2_with fail
        refine c.out.mono ?_; rintro z w1 ⟨rfl, rfl⟩
        go_wp2_with fail
        go_ret
        exact ⟨rfl, rfl⟩
      · have u3 : decide ((0 : Int) < (y : Int)) = false := decide_eq_false (by omega)
        have u3' : decide (0 < y) = false := decide_eq_false g3
        rw [if_neg g3]
        clear g1 g2 g3
        go_enter Tryz.func15, Tryz.ntmps15
        go_wp2_with fail
        refine c.out.mono ?_; rintro z w1 ⟨rfl, rfl⟩
        go_wp2_with fail
        go_ret
        exact ⟨rfl, rfl⟩
end Go.Proofs.YtaidemghhagniaaGreatDoor
