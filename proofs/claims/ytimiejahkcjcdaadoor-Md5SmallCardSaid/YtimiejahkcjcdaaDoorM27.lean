/- pads. -/
import Derived.Test.YtimiejahkcjcdaaDoorM26
import Derived.Deep.RegionWith
namespace Go.Proofs.YtimiejahkcjcdaaDoor
open Go.RowKit

theorem pad_val (n : Nat) (hn : n ≤ 1099511627776) (p : List UInt8) (hp : p = padF n) (w : World) :
    Calls Tryd.prog 15 #[.int .i64 n] w fun e w' => (∃ v, e = .returned (.tuple #[v, .int .i64 0]) ∧ RowB w' v p) ∧ Below w.heap.size w w' := pad_to n hn p hp w
set_option maxRecDepth 100000 in
set_option maxHeartbeats 1000000 in
theorem pads_yes (n : Nat) (hn : n ≤ 1099511627776) (w : World) :
    Calls Tryd.prog 13 #[.int .i64 n] w fun e w' => e = .returned (.bool true) ∧ Below w.heap.size w w' := by
  have t1 : decide ((n : Int) < 0) = false := decide_eq_false (by omega)
  have t2 : decide ((1099511627776 : Int) < n) = false := decide_eq_false (by omega)
  obtain ⟨p, hp⟩ : ∃ p, Hid (p = padF n) := ⟨_, rfl⟩
  obtain ⟨s, hs⟩ : ∃ s : ByteArray, Hid (s = ⟨p.toArray⟩) := ⟨_, rfl⟩
  have hq : (s.toList == s.toList) = true := by simp
  go_enter Tryd.func13, Tryd.ntmps13
  go_wp2_with fail
  refine (pad_val n hn p hp.out _).mono ?_; rintro e w1 ⟨⟨v, rfl, r1⟩, hb1⟩
  have hcv : (convert 24 9 v).run Tryd.prog w1.drew = .ok (.string s) w1.drew := by
    have := conv_row (w := w1.drew) (show RowB w1.drew v p from r1)
    rw [← hs.out] at this; exact this
  have R1 := Lib.hid r1
  have B1 := Lib.hid hb1
  clear r1 hb1
  go_wp2_with fail
  go_region_with (go_at_call 31; refine (rpad_to n hn p hp.out _).mono ?_; rintro e w2 ⟨⟨v2, rfl, r2⟩, hb2⟩; have hb3 := Lib.hid (show Below w1.heap.size w1 w2 from (show Below w1.heap.size w1 w1.drew from (Below.refl _ _).drew).trans hb2); have B2 := Lib.hid (B1.out.trans (hb3.out.mono B1.out.size)); have c1 : (convert 24 9 v).run Tryd.prog w2 = .ok (.string s) w2 := by {rw [hs.out]; exact conv_row (R1.out.on hb3.out)}; have c2 : (convert 24 9 v2).run Tryd.prog w2 = .ok (.string s) w2 := by {rw [hs.out]; exact conv_row r2}; clear hb2 hb3 r2)
  all_goals go_wp2_with fail
  all_goals go_ret
  all_goals exact ⟨rfl, B2.out⟩
set_option maxHeartbeats 400000 in
theorem pads_no (n : Int) (h : n < 0 ∨ 1099511627776 < n) (w : World) : Calls Tryd.prog 13 #[.int .i64 n] w fun e w' => e = .returned (.bool true) ∧ Below w.heap.size w w' := by
  rcases (show n < 0 ∨ (¬ n < 0 ∧ 1099511627776 < n) by omega) with h' | ⟨h', h2⟩
  · have t1 : decide (n < 0) = true := decide_eq_true h'
    go_enter Tryd.func13, Tryd.ntmps13
    go_wp2_with fail
    refine (padding_no n h _).mono ?_; rintro e w1 ⟨rfl, rfl⟩
    go_wp2_with fail
    go_ret
    exact ⟨rfl, Below.refl _ _⟩
  · have t1 : decide (n < 0) = false := decide_eq_false h'
    have t2 : decide (1099511627776 < n) = true := decide_eq_true h2
    go_enter Tryd.func13, Tryd.ntmps13
    go_wp2_with fail
    refine (padding_no n h _).mono ?_; rintro e w1 ⟨rfl, rfl⟩
    go_wp2_with fail
    go_ret
    exact ⟨rfl, Below.refl _ _⟩
theorem pads_any (n : Int) (w : World) : Calls Tryd.prog 13 #[.int .i64 n] w fun e w' => e = .returned (.bool true) ∧ Below w.heap.size w w' := by
  by_cases h : n < 0 ∨ 1099511627776 < n
  · exact pads_no n h w
  · obtain ⟨m, rfl⟩ := Int.eq_ofNat_of_zero_le (show 0 ≤ n by omega)
    exact pads_yes m (by omega) w
/-- The law Md5Pads. -/
theorem md5Pads_walk (n : Int) (w : World) (_hn : (Lit.int .i64 n).wf = true) (hT : Tabs w) : Calls Tryd.prog 3 #[.int .i64 n] w fun e w' => e = .returned (.bool true) ∧ Below w.heap.size w w' := by
  replace hT := Lib.hid hT
  go_enter Tryd.func3, Tryd.ntmps3
  go_wp2_with fail
  refine (pads_any n _).mono ?_; rintro e w1 ⟨rfl, hb1⟩
  replace hb1 := Lib.hid hb1
  go_wp2_with fail
  refine (awake_any _ (hT.out.on hb1.out)).mono ?_; rintro e w2 ⟨rfl, hb2⟩
  have B2 := Lib.hid (hb1.out.trans (hb2.mono hb1.out.size))
  go_wp2_with fail
  go_ret
  exact ⟨rfl, B2.out⟩
end Go.Proofs.YtimiejahkcjcdaaDoor
