/- The contract of utf.Append in all cases; the reference Pair, Split and Point. -/
import Derived.Test.YtkabkkgaalimmaaV10
namespace Go.Proofs.Ytkabkkgaalimmaa
open Go.RowKit

set_option maxHeartbeats 1000000 in
theorem append_no (v : Value) (x : Int) (hp : ¬ isPt x) (w : World) :
    Calls Try.prog 29 #[v, .int .i64 x] w fun e w' => e = .returned (.tuple #[.slice none 0 0, .int .i64 2]) ∧ w = w' := by
  replace hp := Lib.hid hp
  go_enter Try.func29, Try.ntmps29
  go_wp2_with fail
  refine (size_no x hp.out _).mono ?_; rintro e w1 ⟨rfl, rfl⟩
  go_wp2_with fail
  go_ret2
  exact ⟨rfl, rfl⟩

set_option maxRecDepth 100000 in
set_option maxHeartbeats 1000000 in
theorem append_any1 (base : Nat) (v : Value) (m : Nat) (xs : List Value) (x : Int) (hp : isPt x) (h2 : x < 128) (w : World) (hown : w.ownsRow base 5 1 v m xs) (hm : m ≤ 1099511627776) (hbase : base ≤ w.heap.size) :
    Calls Try.prog 29 #[v, .int .i64 x] w fun e w' => (∃ v', e = .returned (.tuple #[v', .int .i64 0]) ∧ w'.ownsRow base 5 1 v' (m + 1) (xs ++ (frm x).map enc8)) ∧ Below base w w' ∧ w.heap.size ≤ w'.heap.size := by
  have h1 : 0 ≤ x := hp.1
  have hfr : frm x = [b8 (x)] := by unfold frm; rw [if_pos h2]
  have hcells : Hid ((frm x).map enc8 = [.int .u8 (x)]) := by
    show _ = _
    rw [hfr, enc_b8 (x) (by omega) (by omega)]; rfl
  clear hfr
  replace hp := Lib.hid hp
  have hH := Lib.hid hown
  clear hown
  have hsz0 : szI x = 1 := by unfold szI; omega
  have hcall := size_yes x hp.out w
  rw [hsz0] at hcall
  clear hsz0
  replace hcall := Lib.hid hcall
  go_enter Try.func29, Try.ntmps29
  go_wp2_with fail
  refine hcall.out.mono ?_; rintro e w1 ⟨rfl, rfl⟩
  clear hcall
  have hq := u8_wrap (x) (by omega) (by omega)
  go_wp2_with (at_builtin; go_must (refine app_one rfl (.tmp 19) (.tmp 22) 22 rfl (u := .int .u8 (x)) base (.int .u8 0) 1 Try.underlying22 info5 rfl v m xs rfl rfl hH.out rfl (by omega) (by omega) (by omega) ?_); rintro v2 w2 hown2' hb2 hs2 _ hv2; have hown2 := Lib.hid hown2'; clear hown2')
  go_ret2
  exact ⟨⟨_, rfl, by rw [hcells.out]; exact hown2.out⟩, hb2, hs2⟩

theorem append_any (base : Nat) (v : Value) (m : Nat) (xs : List Value) (x : Int) (hp : isPt x) (w : World) (hown : w.ownsRow base 5 1 v m xs) (hm : m ≤ 1099511627776) (hbase : base ≤ w.heap.size) :
    Calls Try.prog 29 #[v, .int .i64 x] w fun e w' => (∃ v', e = .returned (.tuple #[v', .int .i64 0]) ∧ w'.ownsRow base 5 1 v' (m + (frm x).length) (xs ++ (frm x).map enc8)) ∧ Below base w w' ∧ w.heap.size ≤ w'.heap.size := by
  have hx := hp.2.1
  rcases (show x < 128 ∨ (128 ≤ x ∧ x < 2048) ∨ (2048 ≤ x ∧ x < 65536) ∨ 65536 ≤ x by omega) with h1 | ⟨h1, h2⟩ | ⟨h1, h2⟩ | h1
  · rw [show (frm x).length = 1 by unfold frm; rw [if_pos h1]; rfl]
    exact append_any1 base v m xs x hp h1 w hown hm hbase
  · rw [show (frm x).length = 2 by unfold frm; rw [if_neg (by omega), if_pos h2]; rfl]
    exact append_any2 base v m xs x hp h1 h2 w hown hm hbase
  · rw [show (frm x).length = 3 by unfold frm; rw [if_neg (by omega), if_neg (by omega), if_pos h2]; rfl]
    exact append_any3 base v m xs x hp h1 h2 w hown hm hbase
  · rw [show (frm x).length = 4 by unfold frm; rw [if_neg (by omega), if_neg (by omega), if_neg (by omega)]; rfl]
    exact append_any4 base v m xs x hp h1 (by omega) w hown hm hbase

set_option maxHeartbeats 1000000 in
theorem rpair_yes (x y : Int) (h1 : 55296 ≤ x) (h2 : x < 56320) (h3 : 56320 ≤ y) (h4 : y ≤ 57343) (w : World) :
    Calls Try.prog 34 #[.int .i64 x, .int .i64 y] w fun e w' => e = .returned (.tuple #[.int .i64 (65536 + (x - 55296) * 1024 + (y - 56320)), .int .i64 0]) ∧ w = w' := by
  go_enter Try.func34, Try.ntmps34
  go_wp2_with fail
  go_ret2
  exact ⟨ret2_1 (by omega), rfl⟩
set_option maxHeartbeats 1000000 in
theorem rpair_no (x y : Int) (h : ¬ (55296 ≤ x ∧ x < 56320 ∧ 56320 ≤ y ∧ y ≤ 57343)) (w : World) :
    Calls Try.prog 34 #[.int .i64 x, .int .i64 y] w fun e w' => e = .returned (.tuple #[.int .i64 0, .int .i64 2]) ∧ w = w' := by
  rcases (show x < 55296 ∨ (55296 ≤ x ∧ 56320 ≤ x) ∨ (55296 ≤ x ∧ x < 56320 ∧ y < 56320) ∨ (55296 ≤ x ∧ x < 56320 ∧ 56320 ≤ y ∧ 57343 < y) by omega) with h1 | ⟨h1, h2⟩ | ⟨h1, h2, h3⟩ | ⟨h1, h2, h3, h4⟩
  all_goals
    clear h
    go_enter Try.func34, Try.ntmps34
    go_wp2_with fail
    go_ret2
    exact ⟨rfl, rfl⟩
set_option maxHeartbeats 1000000 in
theorem rsplit_no (x : Int) (h : ¬ (65536 ≤ x ∧ x ≤ 1114111)) (w : World) :
    Calls Try.prog 35 #[.int .i64 x] w fun e w' => e = .returned (.tuple #[.int .i64 0, .int .i64 0, .int .i64 2]) ∧ w = w' := by
  rcases (show x < 65536 ∨ (65536 ≤ x ∧ 1114111 < x) by omega) with h1 | ⟨h1, h2⟩
  all_goals
    clear h
    go_enter Try.func35, Try.ntmps35
    go_wp2_with fail
    go_ret3
    exact ⟨rfl, rfl⟩
set_option maxHeartbeats 1000000 in
theorem rsplit_yes (x : Int) (h1 : 65536 ≤ x) (h2 : x ≤ 1114111) (w : World) :
    Calls Try.prog 35 #[.int .i64 x] w fun e w' => e = .returned (.tuple #[.int .i64 (55296 + (x - 65536) / 1024), .int .i64 (56320 + (x - 65536) % 1024), .int .i64 0]) ∧ w = w' := by
  have hm := i64_and1023 (x - 65536)
  go_enter Try.func35, Try.ntmps35
  go_wp2_with fail
  go_ret3
  exact ⟨rfl, rfl⟩
set_option maxHeartbeats 1000000 in
theorem rpoint_any (x : Int) (w : World) : Calls Try.prog 36 #[.int .i64 x] w fun e w' => e = .returned (.bool (decide (isPt x))) ∧ w = w' := by
  rcases (show x < 0 ∨ (0 ≤ x ∧ x < 55296) ∨ (55296 ≤ x ∧ x ≤ 57343) ∨ (57343 < x ∧ x ≤ 1114111) ∨ 1114111 < x by omega) with h | ⟨h, h'⟩ | ⟨h, h'⟩ | ⟨h, h'⟩ | h
  · rw [show decide (isPt x) = false from decide_eq_false (by unfold isPt; omega)]
    have t1 : decide (0 ≤ x) = false := decide_eq_false (by omega)
    have t2 : decide (x < 1114112) = true := decide_eq_true (by omega)
    have t3 : decide (x < 55296) = true := decide_eq_true (by omega)
    have t4 : decide (57343 < x) = false := decide_eq_false (by omega)
    go_enter Try.func36, Try.ntmps36
    go_wp2_with fail
    go_ret
    exact ⟨rfl, rfl⟩
  · rw [show decide (isPt x) = true from decide_eq_true (by unfold isPt; omega)]
    have t1 : decide (0 ≤ x) = true := decide_eq_true (by omega)
    have t2 : decide (x < 1114112) = true := decide_eq_true (by omega)
    have t3 : decide (x < 55296) = true := decide_eq_true (by omega)
    have t4 : decide (57343 < x) = false := decide_eq_false (by omega)
    go_enter Try.func36, Try.ntmps36
    go_wp2_with fail
    go_ret
    exact ⟨rfl, rfl⟩
  · rw [show decide (isPt x) = false from decide_eq_false (by unfold isPt; omega)]
    have t1 : decide (0 ≤ x) = true := decide_eq_true (by omega)
    have t2 : decide (x < 1114112) = true := decide_eq_true (by omega)
    have t3 : decide (x < 55296) = false := decide_eq_false (by omega)
    have t4 : decide (57343 < x) = false := decide_eq_false (by omega)
    go_enter Try.func36, Try.ntmps36
    go_wp2_with fail
    go_ret
    exact ⟨rfl, rfl⟩
  · rw [show decide (isPt x) = true from decide_eq_true (by unfold isPt; omega)]
    have t1 : decide (0 ≤ x) = true := decide_eq_true (by omega)
    have t2 : decide (x < 1114112) = true := decide_eq_true (by omega)
    have t3 : decide (x < 55296) = false := decide_eq_false (by omega)
    have t4 : decide (57343 < x) = true := decide_eq_true (by omega)
    go_enter Try.func36, Try.ntmps36
    go_wp2_with fail
    go_ret
    exact ⟨rfl, rfl⟩
  · rw [show decide (isPt x) = false from decide_eq_false (by unfold isPt; omega)]
    have t1 : decide (0 ≤ x) = true := decide_eq_true (by omega)
    have t2 : decide (x < 1114112) = false := decide_eq_false (by omega)
    have t3 : decide (x < 55296) = false := decide_eq_false (by omega)
    have t4 : decide (57343 < x) = true := decide_eq_true (by omega)
    go_enter Try.func36, Try.ntmps36
    go_wp2_with fail
    go_ret
    exact ⟨rfl, rfl⟩
end Go.Proofs.Ytkabkkgaalimmaa
