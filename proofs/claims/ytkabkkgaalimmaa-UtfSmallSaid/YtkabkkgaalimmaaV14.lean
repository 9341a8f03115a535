/- The contract of utf.Append onto a slice without room. -/
import Derived.Test.YtkabkkgaalimmaaV13
namespace Go.Proofs.Ytkabkkgaalimmaa
open Go.RowKit

set_option maxRecDepth 100000 in
set_option maxHeartbeats 1000000 in
theorem append_full2 (v : Value) (m : Nat) (xs : List Value) (x : Int) (hp : isPt x) (h1 : 128 ≤ x) (h2 : x < 2048) (w : World) (hown : Full w v m xs) (hm : m ≤ 1099511627776) :
    Calls Try.prog 29 #[v, .int .i64 x] w fun e w' => (∃ v', e = .returned (.tuple #[v', .int .i64 0]) ∧ w'.ownsRow w.heap.size 5 1 v' (m + 2) (xs ++ (frm x).map enc8)) ∧ Below w.heap.size w w' ∧ w.heap.size ≤ w'.heap.size := by
  have hfr : frm x = [b8 (192 + x / 64), b8 (128 + x % 64)] := by unfold frm; rw [if_neg (show ¬ x < 128 by omega), if_pos h2]
  have hcells : Hid ((frm x).map enc8 = [.int .u8 (192 + x / 64), .int .u8 (128 + x % 64)]) := by
    show _ = _
    rw [hfr, enc_b8 (192 + x / 64) (by omega) (by omega), enc_b8 (128 + x % 64) (by omega) (by omega)]; rfl
  clear hfr
  replace hp := Lib.hid hp
  have hH := Lib.hid hown
  clear hown
  obtain ⟨inf, hi, hz0, hz1, hz2⟩ := info_parts info5
  have hsz0 : szI x = 2 := by unfold szI; omega
  have hcall := size_yes x hp.out w
  rw [hsz0] at hcall
  clear hsz0
  replace hcall := Lib.hid hcall
  go_enter Try.func29, Try.ntmps29
  go_wp2_with fail
  refine hcall.out.mono ?_; rintro e w1 ⟨rfl, rfl⟩
  clear hcall
  have hix := index5 w.drew 192 2 (by omega)
  have hsh := shr_6 x w.drew
  have hw2 := wrap_1
  have hw12 := wrap_6
  have hq := u8_wrap (x / 64) (by omega) (by omega)
  have ho := u8_or192 (y := x / 64) (by omega) (by omega)
  go_upto_region 6 with (fail)
  go_region_law (refine step_append_full1 rfl (.tmp 24) (.tmp 35) 22 rfl 5 inf (.int .u8 0) 1 Try.underlying22 hi hz0 hz1 hz2 rfl v m xs rfl (.int .u8 (192 + x / 64)) (show Full w.drew v m xs from hH.out) rfl (by unfold maxLen; omega) (by omega) ?_; intro v' w' hown hb hsz hv)
  clear hix hsh hq ho hH
  have hown1 := Lib.hid (show w'.ownsRow w.heap.size 5 1 v' (m + 1) _ from hown)
  obtain ⟨g1, cap1, rfl⟩ := hv
  clear hown
  replace hb : Below w.heap.size w w' := (show Below w.heap.size w w.drew from (Below.refl _ _).drew).trans hb
  have hsz1 : w.heap.size ≤ w'.heap.size := by simpa using hsz
  clear hsz
  go_wp2_with fail
  refine wp_loop_rounds 2 ?_
  rw [rounds_succ]
  have s1 := shr_0 x w'
  have a1 := i64_and63 (x)
  have q1 := u8_wrap (x % 64) (by omega) (by omega)
  have o1 := u8_or128 (y := x % 64) (by omega) (by omega)
  go_wp2_with (at_builtin; go_must (refine app_one rfl (.tmp 43) (.tmp 51) 22 rfl (u := .int .u8 (128 + x % 64)) w.heap.size (.int .u8 0) 1 Try.underlying22 info5 rfl (.slice (some ⟨g1, 0, none⟩) (m + 1) cap1) (m + 1) _ rfl rfl hown1.out rfl (by omega) (by omega) (by omega) ?_); rintro v2 w2 hown2' hb2 hs2 _ hv2; have hown2 := Lib.hid hown2'; clear hown2')
  replace hb := hb.trans hb2
  have hsz2 : w.heap.size ≤ w2.heap.size := Nat.le_trans hsz1 hs2
  clear s1 a1 q1 o1
  obtain ⟨g2, cap2, rfl⟩ := hv2
  rw [rounds_succ]
  go_wp2_with fail
  go_ret2
  exact ⟨⟨_, rfl, by rw [hcells.out]; simpa using hown2.out⟩, hb, hsz2⟩

set_option maxRecDepth 100000 in
set_option maxHeartbeats 1000000 in
theorem append_full3 (v : Value) (m : Nat) (xs : List Value) (x : Int) (hp : isPt x) (h1 : 2048 ≤ x) (h2 : x < 65536) (w : World) (hown : Full w v m xs) (hm : m ≤ 1099511627776) :
    Calls Try.prog 29 #[v, .int .i64 x] w fun e w' => (∃ v', e = .returned (.tuple #[v', .int .i64 0]) ∧ w'.ownsRow w.heap.size 5 1 v' (m + 3) (xs ++ (frm x).map enc8)) ∧ Below w.heap.size w w' ∧ w.heap.size ≤ w'.heap.size := by
  have hfr : frm x = [b8 (224 + x / 4096), b8 (128 + x / 64 % 64), b8 (128 + x % 64)] := by unfold frm; rw [if_neg (show ¬ x < 128 by omega), if_neg (show ¬ x < 2048 by omega), if_pos h2]
  have hcells : Hid ((frm x).map enc8 = [.int .u8 (224 + x / 4096), .int .u8 (128 + x / 64 % 64), .int .u8 (128 + x % 64)]) := by
    show _ = _
    rw [hfr, enc_b8 (224 + x / 4096) (by omega) (by omega), enc_b8 (128 + x / 64 % 64) (by omega) (by omega), enc_b8 (128 + x % 64) (by omega) (by omega)]; rfl
  clear hfr
  replace hp := Lib.hid hp
  have hH := Lib.hid hown
  clear hown
  obtain ⟨inf, hi, hz0, hz1, hz2⟩ := info_parts info5
  have hsz0 : szI x = 3 := by unfold szI; omega
  have hcall := size_yes x hp.out w
  rw [hsz0] at hcall
  clear hsz0
  replace hcall := Lib.hid hcall
  go_enter Try.func29, Try.ntmps29
  go_wp2_with fail
  refine hcall.out.mono ?_; rintro e w1 ⟨rfl, rfl⟩
  clear hcall
  have hix := index5 w.drew 224 3 (by omega)
  have hsh := shr_12 x w.drew
  have hw2 := wrap_2
  have hw12 := wrap_12
  have hq := u8_wrap (x / 4096) (by omega) (by omega)
  have ho := u8_or224 (y := x / 4096) (by omega) (by omega)
  go_upto_region 6 with (fail)
  go_region_law (refine step_append_full1 rfl (.tmp 24) (.tmp 35) 22 rfl 5 inf (.int .u8 0) 1 Try.underlying22 hi hz0 hz1 hz2 rfl v m xs rfl (.int .u8 (224 + x / 4096)) (show Full w.drew v m xs from hH.out) rfl (by unfold maxLen; omega) (by omega) ?_; intro v' w' hown hb hsz hv)
  clear hix hsh hq ho hH
  have hown1 := Lib.hid (show w'.ownsRow w.heap.size 5 1 v' (m + 1) _ from hown)
  obtain ⟨g1, cap1, rfl⟩ := hv
  clear hown
  replace hb : Below w.heap.size w w' := (show Below w.heap.size w w.drew from (Below.refl _ _).drew).trans hb
  have hsz1 : w.heap.size ≤ w'.heap.size := by simpa using hsz
  clear hsz
  go_wp2_with fail
  refine wp_loop_rounds 3 ?_
  rw [rounds_succ]
  have s1 := shr_6 x w'
  have a1 := i64_and63 (x / 64)
  have q1 := u8_wrap (x / 64 % 64) (by omega) (by omega)
  have o1 := u8_or128 (y := x / 64 % 64) (by omega) (by omega)
  go_wp2_with (at_builtin; go_must (refine app_one rfl (.tmp 43) (.tmp 51) 22 rfl (u := .int .u8 (128 + x / 64 % 64)) w.heap.size (.int .u8 0) 1 Try.underlying22 info5 rfl (.slice (some ⟨g1, 0, none⟩) (m + 1) cap1) (m + 1) _ rfl rfl hown1.out rfl (by omega) (by omega) (by omega) ?_); rintro v2 w2 hown2' hb2 hs2 _ hv2; have hown2 := Lib.hid hown2'; clear hown2')
  replace hb := hb.trans hb2
  have hsz2 : w.heap.size ≤ w2.heap.size := Nat.le_trans hsz1 hs2
  clear s1 a1 q1 o1
  obtain ⟨g2, cap2, rfl⟩ := hv2
  rw [rounds_succ]
  have s2 := shr_0 x w2
  have a2 := i64_and63 (x)
  have q2 := u8_wrap (x % 64) (by omega) (by omega)
  have o2 := u8_or128 (y := x % 64) (by omega) (by omega)
  go_wp2_with (at_builtin; go_must (refine app_one rfl (.tmp 43) (.tmp 51) 22 rfl (u := .int .u8 (128 + x % 64)) w.heap.size (.int .u8 0) 1 Try.underlying22 info5 rfl (.slice (some ⟨g2, 0, none⟩) (m + 1 + 1) cap2) (m + 1 + 1) _ rfl rfl hown2.out rfl (by omega) (by omega) (by omega) ?_); rintro v3 w3 hown3' hb3 hs3 _ hv3; have hown3 := Lib.hid hown3'; clear hown3')
  replace hb := hb.trans hb3
  have hsz3 : w.heap.size ≤ w3.heap.size := Nat.le_trans hsz2 hs3
  clear s2 a2 q2 o2
  obtain ⟨g3, cap3, rfl⟩ := hv3
  rw [rounds_succ]
  go_wp2_with fail
  go_ret2
  exact ⟨⟨_, rfl, by rw [hcells.out]; simpa using hown3.out⟩, hb, hsz3⟩

set_option maxRecDepth 100000 in
set_option maxHeartbeats 1000000 in
theorem append_full4 (v : Value) (m : Nat) (xs : List Value) (x : Int) (hp : isPt x) (h1 : 65536 ≤ x) (h2 : x < 1114112) (w : World) (hown : Full w v m xs) (hm : m ≤ 1099511627776) :
    Calls Try.prog 29 #[v, .int .i64 x] w fun e w' => (∃ v', e = .returned (.tuple #[v', .int .i64 0]) ∧ w'.ownsRow w.heap.size 5 1 v' (m + 4) (xs ++ (frm x).map enc8)) ∧ Below w.heap.size w w' ∧ w.heap.size ≤ w'.heap.size := by
  have hfr : frm x = [b8 (240 + x / 262144), b8 (128 + x / 4096 % 64), b8 (128 + x / 64 % 64), b8 (128 + x % 64)] := by unfold frm; rw [if_neg (show ¬ x < 128 by omega), if_neg (show ¬ x < 2048 by omega), if_neg (show ¬ x < 65536 by omega)]
  have hcells : Hid ((frm x).map enc8 = [.int .u8 (240 + x / 262144), .int .u8 (128 + x / 4096 % 64), .int .u8 (128 + x / 64 % 64), .int .u8 (128 + x % 64)]) := by
    show _ = _
    rw [hfr, enc_b8 (240 + x / 262144) (by omega) (by omega), enc_b8 (128 + x / 4096 % 64) (by omega) (by omega), enc_b8 (128 + x / 64 % 64) (by omega) (by omega), enc_b8 (128 + x % 64) (by omega) (by omega)]; rfl
  clear hfr
  replace hp := Lib.hid hp
  have hH := Lib.hid hown
  clear hown
  obtain ⟨inf, hi, hz0, hz1, hz2⟩ := info_parts info5
  have hsz0 : szI x = 4 := by unfold szI; omega
  have hcall := size_yes x hp.out w
  rw [hsz0] at hcall
  clear hsz0
  replace hcall := Lib.hid hcall
  go_enter Try.func29, Try.ntmps29
  go_wp2_with fail
  refine hcall.out.mono ?_; rintro e w1 ⟨rfl, rfl⟩
  clear hcall
  have hix := index5 w.drew 240 4 (by omega)
  have hsh := shr_18 x w.drew
  have hw2 := wrap_3
  have hw12 := wrap_18
  have hq := u8_wrap (x / 262144) (by omega) (by omega)
  have ho := u8_or240 (y := x / 262144) (by omega) (by omega)
  go_upto_region 6 with (fail)
  go_region_law (refine step_append_full1 rfl (.tmp 24) (.tmp 35) 22 rfl 5 inf (.int .u8 0) 1 Try.underlying22 hi hz0 hz1 hz2 rfl v m xs rfl (.int .u8 (240 + x / 262144)) (show Full w.drew v m xs from hH.out) rfl (by unfold maxLen; omega) (by omega) ?_; intro v' w' hown hb hsz hv)
  clear hix hsh hq ho hH
  have hown1 := Lib.hid (show w'.ownsRow w.heap.size 5 1 v' (m + 1) _ from hown)
  obtain ⟨g1, cap1, rfl⟩ := hv
  clear hown
  replace hb : Below w.heap.size w w' := (show Below w.heap.size w w.drew from (Below.refl _ _).drew).trans hb
  have hsz1 : w.heap.size ≤ w'.heap.size := by simpa using hsz
  clear hsz
  go_wp2_with fail
  refine wp_loop_rounds 4 ?_
  rw [rounds_succ]
  have s1 := shr_12 x w'
  have a1 := i64_and63 (x / 4096)
  have q1 := u8_wrap (x / 4096 % 64) (by omega) (by omega)
  have o1 := u8_or128 (y := x / 4096 % 64) (by omega) (by omega)
  go_wp2_with (at_builtin; go_must (refine app_one rfl (.tmp 43) (.tmp 51) 22 rfl (u := .int .u8 (128 + x / 4096 % 64)) w.heap.size (.int .u8 0) 1 Try.underlying22 info5 rfl (.slice (some ⟨g1, 0, none⟩) (m + 1) cap1) (m + 1) _ rfl rfl hown1.out rfl (by omega) (by omega) (by omega) ?_); rintro v2 w2 hown2' hb2 hs2 _ hv2; have hown2 := Lib.hid hown2'; clear hown2')
  replace hb := hb.trans hb2
  have hsz2 : w.heap.size ≤ w2.heap.size := Nat.le_trans hsz1 hs2
  clear s1 a1 q1 o1
  obtain ⟨g2, cap2, rfl⟩ := hv2
  rw [rounds_succ]
  have s2 := shr_6 x w2
  have a2 := i64_and63 (x / 64)
  have q2 := u8_wrap (x / 64 % 64) (by omega) (by omega)
  have o2 := u8_or128 (y := x / 64 % 64) (by omega) (by omega)
  go_wp2_with (at_builtin; go_must (refine app_one rfl (.tmp 43) (.tmp 51) 22 rfl (u := .int .u8 (128 + x / 64 % 64)) w.heap.size (.int .u8 0) 1 Try.underlying22 info5 rfl (.slice (some ⟨g2, 0, none⟩) (m + 1 + 1) cap2) (m + 1 + 1) _ rfl rfl hown2.out rfl (by omega) (by omega) (by omega) ?_); rintro v3 w3 hown3' hb3 hs3 _ hv3; have hown3 := Lib.hid hown3'; clear hown3')
  replace hb := hb.trans hb3
  have hsz3 : w.heap.size ≤ w3.heap.size := Nat.le_trans hsz2 hs3
  clear s2 a2 q2 o2
  obtain ⟨g3, cap3, rfl⟩ := hv3
  rw [rounds_succ]
  have s3 := shr_0 x w3
  have a3 := i64_and63 (x)
  have q3 := u8_wrap (x % 64) (by omega) (by omega)
  have o3 := u8_or128 (y := x % 64) (by omega) (by omega)
  go_wp2_with (at_builtin; go_must (refine app_one rfl (.tmp 43) (.tmp 51) 22 rfl (u := .int .u8 (128 + x % 64)) w.heap.size (.int .u8 0) 1 Try.underlying22 info5 rfl (.slice (some ⟨g3, 0, none⟩) (m + 1 + 1 + 1) cap3) (m + 1 + 1 + 1) _ rfl rfl hown3.out rfl (by omega) (by omega) (by omega) ?_); rintro v4 w4 hown4' hb4 hs4 _ hv4; have hown4 := Lib.hid hown4'; clear hown4')
  replace hb := hb.trans hb4
  have hsz4 : w.heap.size ≤ w4.heap.size := Nat.le_trans hsz3 hs4
  clear s3 a3 q3 o3
  obtain ⟨g4, cap4, rfl⟩ := hv4
  rw [rounds_succ]
  go_wp2_with fail
  go_ret2
  exact ⟨⟨_, rfl, by rw [hcells.out]; simpa using hown4.out⟩, hb, hsz4⟩

set_option maxRecDepth 100000 in
set_option maxHeartbeats 1000000 in
theorem append_full1 (v : Value) (m : Nat) (xs : List Value) (x : Int) (hp : isPt x) (h2 : x < 128) (w : World) (hown : Full w v m xs) (hm : m ≤ 1099511627776) :
    Calls Try.prog 29 #[v, .int .i64 x] w fun e w' => (∃ v', e = .returned (.tuple #[v', .int .i64 0]) ∧ w'.ownsRow w.heap.size 5 1 v' (m + 1) (xs ++ (frm x).map enc8)) ∧ Below w.heap.size w w' ∧ w.heap.size ≤ w'.heap.size := by
  have h1 : 0 ≤ x := hp.1
  have hfr : frm x = [b8 (x)] := by unfold frm; rw [if_pos h2]
  have hcells : Hid ((frm x).map enc8 = [.int .u8 (x)]) := by
    show _ = _
    rw [hfr, enc_b8 (x) (by omega) (by omega)]; rfl
  clear hfr
  replace hp := Lib.hid hp
  have hH := Lib.hid hown
  clear hown
  have hsz0 : szI x = 1 := by unfold szI; omega
  have hcall := size_yes x hp.out w
  rw [hsz0] at hcall
  clear hsz0
  replace hcall := Lib.hid hcall
  go_enter Try.func29, Try.ntmps29
  go_wp2_with fail
  refine hcall.out.mono ?_; rintro e w1 ⟨rfl, rfl⟩
  clear hcall
  have hq := u8_wrap (x) (by omega) (by omega)
  go_wp2_with (at_builtin; go_must (refine app_full rfl (.tmp 19) (.tmp 22) 22 rfl (u := .int .u8 (x)) (.int .u8 0) 1 Try.underlying22 info5 rfl v m xs rfl rfl hH.out (by unfold maxLen; omega) (by omega) ?_); rintro v2 w2 hown2' hb2 hs2 hv2; have hown2 := Lib.hid hown2'; clear hown2')
  go_ret2
  exact ⟨⟨_, rfl, by rw [hcells.out]; exact hown2.out⟩, hb2, hs2⟩

theorem append_full (v : Value) (m : Nat) (xs : List Value) (x : Int) (hp : isPt x) (w : World) (hown : Full w v m xs) (hm : m ≤ 1099511627776) :
    Calls Try.prog 29 #[v, .int .i64 x] w fun e w' => (∃ v', e = .returned (.tuple #[v', .int .i64 0]) ∧ w'.ownsRow w.heap.size 5 1 v' (m + (frm x).length) (xs ++ (frm x).map enc8)) ∧ Below w.heap.size w w' ∧ w.heap.size ≤ w'.heap.size := by
  have hx := hp.2.1
  rcases (show x < 128 ∨ (128 ≤ x ∧ x < 2048) ∨ (2048 ≤ x ∧ x < 65536) ∨ 65536 ≤ x by omega) with h1 | ⟨h1, h2⟩ | ⟨h1, h2⟩ | h1
  · rw [show (frm x).length = 1 by unfold frm; rw [if_pos h1]; rfl]
    exact append_full1 v m xs x hp h1 w hown hm
  · rw [show (frm x).length = 2 by unfold frm; rw [if_neg (by omega), if_pos h2]; rfl]
    exact append_full2 v m xs x hp h1 h2 w hown hm
  · rw [show (frm x).length = 3 by unfold frm; rw [if_neg (by omega), if_neg (by omega), if_pos h2]; rfl]
    exact append_full3 v m xs x hp h1 h2 w hown hm
  · rw [show (frm x).length = 4 by unfold frm; rw [if_neg (by omega), if_neg (by omega), if_neg (by omega)]; rfl]
    exact append_full4 v m xs x hp h1 (by omega) w hown hm

end Go.Proofs.Ytkabkkgaalimmaa
