/- The walk of the law UtfPairs. -/
import Derived.Test.YtkabkkgaalimmaaV9
namespace Go.Proofs.Ytkabkkgaalimmaa
open Go.RowKit Go.Shelf

theorem pair_to (x y z : Int) (h1 : 55296 ≤ x) (h2 : x < 56320) (h3 : 56320 ≤ y) (h4 : y ≤ 57343) (hz : z = 65536 + (x - 55296) * 1024 + (y - 56320)) (w : World) :
    Calls Try.prog 15 #[.int .i64 x, .int .i64 y] w fun e w' => e = .returned (.tuple #[.int .i64 z, .int .i64 0]) ∧ w = w' := by
  rw [hz]; exact pair_yes x y h1 h2 h3 h4 w
theorem split_to (x p q : Int) (h1 : 65536 ≤ x) (h2 : x ≤ 1114111) (hp : p = 55296 + (x - 65536) / 1024) (hq : q = 56320 + (x - 65536) % 1024) (w : World) :
    Calls Try.prog 16 #[.int .i64 x] w fun e w' => e = .returned (.tuple #[.int .i64 p, .int .i64 q, .int .i64 0]) ∧ w = w' := by
  rw [hp, hq]; exact split_yes x h1 h2 w
theorem u16_bd (n : Int) (h : (Lit.int .u16 n).wf = true) : 0 ≤ n ∧ n ≤ 65535 := by
  simpa [Lit.wf, IntKind.min, IntKind.max, IntKind.signed, IntKind.bits] using h
theorem u32_bd (n : Int) (h : (Lit.int .u32 n).wf = true) : 0 ≤ n ∧ n ≤ 4294967295 := by
  simpa [Lit.wf, IntKind.min, IntKind.max, IntKind.signed, IntKind.bits] using h

set_option maxRecDepth 100000 in
set_option maxHeartbeats 1000000 in
theorem utfPairs_walk (a0 a1 a2 : Int) (w0 : (Lit.int .u16 a0).wf = true) (w1 : (Lit.int .u16 a1).wf = true) (w2 : (Lit.int .u32 a2).wf = true) (w : World) :
    Calls Try.prog 4 #[.int .u16 a0, .int .u16 a1, .int .u32 a2] w fun e w' => e = .returned (.bool true) ∧ Below w.heap.size w w' := by
  obtain ⟨a00, a01⟩ := u16_bd a0 w0
  obtain ⟨a10, a11⟩ := u16_bd a1 w1
  obtain ⟨a20, a21⟩ := u32_bd a2 w2
  clear w0 w1 w2
  obtain ⟨x, hx⟩ : ∃ x, x = 65536 + (a0 % 1024) * 1024 + a1 % 1024 := ⟨_, rfl⟩
  have hx1 : 65536 ≤ x := by omega
  have hx2 : x ≤ 1114111 := by omega
  obtain ⟨r, hr⟩ : ∃ r, r = 55296 + (a2 % 1048576) / 1024 := ⟨_, rfl⟩
  obtain ⟨s, hs⟩ : ∃ s, s = 56320 + (a2 % 1048576) % 1024 := ⟨_, rfl⟩
  have hr1 : 55296 ≤ r := by omega
  have hr2 : r < 56320 := by omega
  have hs1 : 56320 ≤ s := by omega
  have hs2 : s ≤ 57343 := by omega
  have t1 : decide (x < 65536) = false := decide_eq_false (by omega)
  replace hx := Lib.hid hx
  replace hr := Lib.hid hr
  replace hs := Lib.hid hs
  go_enter Try.func4, Try.ntmps4
  go_wp2_with fail
  refine (awake_any _).mono ?_; rintro e w1 ⟨rfl, hb⟩
  go_wp2_with fail
  refine (pair_to _ _ x (by omega) (by omega) (by omega) (by omega) (by rw [hx.out]; omega) _).mono ?_; rintro e w2 ⟨rfl, rfl⟩
  go_wp2_with fail
  refine (split_to x (55296 + a0 % 1024) (56320 + a1 % 1024) hx1 hx2 (by rw [hx.out]; omega) (by rw [hx.out]; omega) _).mono ?_; rintro e w2 ⟨rfl, rfl⟩
  go_wp2_with fail
  refine (split_to _ r s (by omega) (by omega) (by rw [hr.out]; omega) (by rw [hs.out]; omega) _).mono ?_; rintro e w2 ⟨rfl, rfl⟩
  go_wp2_with fail
  refine (pair_to r s (65536 + a2 % 1048576) hr1 hr2 hs1 hs2 (by rw [hr.out, hs.out]; omega) _).mono ?_; rintro e w2 ⟨rfl, rfl⟩
  go_wp2_with fail
  refine (point_yes x (by unfold isPt; omega) _).mono ?_; rintro e w2 ⟨rfl, rfl⟩
  go_wp2_with fail
  refine (point_no _ (by unfold isPt; omega) _).mono ?_; rintro e w2 ⟨rfl, rfl⟩
  go_wp2_with fail
  refine (point_no _ (by unfold isPt; omega) _).mono ?_; rintro e w2 ⟨rfl, rfl⟩
  go_wp2_with fail
  refine (point_no r (by unfold isPt; omega) _).mono ?_; rintro e w2 ⟨rfl, rfl⟩
  go_wp2_with fail
  refine (point_no s (by unfold isPt; omega) _).mono ?_; rintro e w2 ⟨rfl, rfl⟩
  go_wp2_with fail
  refine (pair_no _ _ (by omega) _).mono ?_; rintro e w2 ⟨rfl, rfl⟩
  go_wp2_with fail
  refine (pair_no _ _ (by omega) _).mono ?_; rintro e w2 ⟨rfl, rfl⟩
  go_wp2_with fail
  refine (pair_no _ _ (by omega) _).mono ?_; rintro e w2 ⟨rfl, rfl⟩
  go_wp2_with fail
  go_ret
  exact ⟨rfl, hb⟩
end Go.Proofs.Ytkabkkgaalimmaa
