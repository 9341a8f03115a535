/- The walks of the laws HashWrong, HashLast, HashZeros, HashBack. -/
import Derived.Test.YtennohgmenjaaaaL1
import Derived.Deep.DeepCutAuto
namespace Go.Proofs.Ytennohgmenjaaaa
open Go.RowKit Go.Shelf

set_option maxHeartbeats 400000 in
theorem hashWrong_walk (a0 a1 : Int) (_w0 : (Lit.int .u64 a0).wf = true) (_w1 : (Lit.int .i64 a1).wf = true) (w : World) :
    Calls Try.prog 7 #[.int .u64 a0, .int .i64 a1] w fun e w' => e = .returned (.bool true) ∧ Below w.heap.size w w' := by
  rcases (show a1 ≤ -1 ∨ (-1 < a1 ∧ a1 ≤ 0) ∨ 0 < a1 by omega) with h1 | ⟨h1, h2⟩ | h1
  all_goals
    go_enter Try.func7, Try.ntmps7
    go_wp2_with fail
    refine (zeros_neg _ _ (by omega) _).mono ?_; rintro e w1 ⟨rfl, rfl⟩
    go_wp2_with fail
    refine (modulo_neg _ _ (by omega) _).mono ?_; rintro e w1 ⟨rfl, rfl⟩
    go_wp2_with fail
    refine (awake_any _).mono ?_; rintro e w2 ⟨rfl, hb⟩
    go_wp2_with fail
    go_ret
    exact ⟨rfl, hb⟩

theorem conv_one (w : World) (c : UInt8) : (convert 34 9 (.slice (some ⟨w.heap.size, 0, none⟩) 1 1)).run Try.prog (w.alloc (.cells #[.int .u8 (c.toNat : Int)] 5)) = .ok (.string ⟨#[c]⟩) (w.alloc (.cells #[.int .u8 (c.toNat : Int)] 5)) :=
  run_convert_bytes_back (P := Try.prog) _ 34 9 5 ⟨w.heap.size, 0, none⟩ 1 [c] Try.underlying34 Try.underlying5 Try.underlying9 (fun j hj => by
    obtain rfl : j = 0 := by simpa using hj
    simp [go_sem, Addr.add])

set_option maxRecDepth 100000 in
set_option maxHeartbeats 1000000 in
theorem hashLast_walk (a0 a1 a2 : Int) (w0 : (Lit.int .u64 a0).wf = true) (w1 : (Lit.int .u64 a1).wf = true) (w2 : (Lit.int .u8 a2).wf = true) (w : World) :
    Calls Try.prog 6 #[.int .u64 a0, .int .u64 a1, .int .u8 a2] w fun e w' => e = .returned (.bool true) ∧ Below w.heap.size w w' := by
  obtain ⟨h, rfl⟩ := U_ex a0 w0
  obtain ⟨tt, rfl⟩ := U_ex a1 w1
  obtain ⟨b, rfl⟩ := B_ex a2 w2
  clear w0 w1 w2
  have hcv := conv_one w b
  by_cases hc : ∃ c, hstep h c = tt
  · obtain ⟨c, hc⟩ := hc
    subst hc
    go_enter Try.func6, Try.ntmps6
    go_wp2_with fail
    clear hcv
    refine (add_any _ _ (by show 1 ≤ _; omega) _).mono ?_; rintro e w1 ⟨rfl, hb⟩
    replace hb := ((Below.refl w.heap.size w).alloc (Nat.le_refl _) _).trans (hb.mono (by simp))
    go_wp2_with fail
    refine (last_some h _ b (by exact rfl) _).mono ?_; rintro e w2 ⟨rfl, rfl⟩
    go_wp2_with fail
    refine (last_some h _ c (by exact rfl) _).mono ?_; rintro e w2 ⟨rfl, rfl⟩
    have hcv := conv_one w1 c
    go_wp2_with fail
    clear hcv
    refine (add_any _ _ (by show 1 ≤ _; omega) _).mono ?_; rintro e w2 ⟨rfl, h2⟩
    replace hb := (hb.alloc hb.size _).trans (h2.mono (by have := hb.size; simp; omega))
    rw [show hadd h [c] = hstep h c from rfl]
    go_wp2_with fail
    refine (awake_any _).mono ?_; rintro e w3 ⟨rfl, h3⟩; replace hb := on_trans hb h3; clear h2 h3
    go_wp2_with fail
    go_ret
    exact ⟨rfl, hb⟩
  · have hn : Hid (∀ c, hstep h c ≠ tt) := fun c e => hc ⟨c, e⟩
    clear hc
    go_enter Try.func6, Try.ntmps6
    go_wp2_with fail
    clear hcv
    refine (add_any _ _ (by show 1 ≤ _; omega) _).mono ?_; rintro e w1 ⟨rfl, hb⟩
    replace hb := ((Below.refl w.heap.size w).alloc (Nat.le_refl _) _).trans (hb.mono (by simp))
    go_wp2_with fail
    refine (last_some h _ b (by exact rfl) _).mono ?_; rintro e w2 ⟨rfl, rfl⟩
    go_wp2_with fail
    refine (last_none h _ hn _).mono ?_; rintro e w2 ⟨rfl, rfl⟩
    go_wp2_with fail
    refine (awake_any _).mono ?_; rintro e w3 ⟨rfl, h3⟩; replace hb := on_trans hb h3; clear h3
    go_wp2_with fail
    go_ret
    exact ⟨rfl, hb⟩
/-- 'make([]byte, k)': the world behind it, and that the text of the slice is k bytes 0. -/
theorem make_zeros (k : Nat) (hk : k ≤ 1000000) (w : World) : ∃ w1, (Instr.makeSlice 34 (.int .i64 (k : Int)) (.int .i64 (k : Int))).run Try.prog w = .ok (.slice (some ⟨w.heap.size, 0, none⟩) k k) w1 ∧
    (convert 34 9 (.slice (some ⟨w.heap.size, 0, none⟩) k k)).run Try.prog w1 = .ok (.string ⟨(List.replicate k 0).toArray⟩) w1 ∧ Below w.heap.size w w1 := by
  obtain ⟨i, hi, hz0, hz1, hz2⟩ := info_parts Try.info5
  obtain ⟨w1, hr, ho, hg⟩ := run_make_full (P := Try.prog) w w.heap.size 34 5 i (.int .u8 0) 1 Try.underlying34 hi hz0 hz1 .i64 .i64 k (by rw [hz2]; omega) (by unfold maxLen; omega) (Nat.le_refl _)
  have e : (madeCells (Value.int .u8 0).cells (k * 1)).toList = (List.replicate k (0 : UInt8)).map enc8 := by
    rw [show (Value.int .u8 0).cells = #[.int .u8 0] from rfl, toList_madeCells_one, List.map_replicate, Nat.mul_one]; rfl
  rw [e] at ho
  exact ⟨w1, hr, conv_owned Try.underlying34 Try.underlying5 Try.underlying9 ho, (Below.refl _ _).grown hg (Nat.le_refl _) (fun k e => by cases e)⟩

theorem zeros_int (h : BitVec 64) (n : Int) (h0 : 0 ≤ n) (h1 : n ≤ 9223372036854775807) (w : World) :
    Calls Try.prog 18 #[.int .u64 (U h), .int .i64 n] w fun e w' => e = .returned (.tuple #[.int .u64 (U (h * pw n.toNat)), .int .i64 0]) ∧ Below w.heap.size w w' := by
  obtain ⟨m, rfl⟩ := Int.eq_ofNat_of_zero_le h0
  exact zeros_any h m (by omega) w
theorem zeros_to (h x : BitVec 64) (n : Int) (h0 : 0 ≤ n) (h1 : n ≤ 9223372036854775807) (hx : x = h * pw n.toNat) (w : World) :
    Calls Try.prog 18 #[.int .u64 (U h), .int .i64 n] w fun e w' => e = .returned (.tuple #[.int .u64 (U x), .int .i64 0]) ∧ Below w.heap.size w w' := by
  rw [hx]; exact zeros_int h n h0 h1 w
theorem add_to (h x : BitVec 64) (s : ByteArray) (hs : s.size ≤ 9223372036854775807) (hx : x = hadd h s.data.toList) (w : World) :
    Calls Try.prog 15 #[.int .u64 (U h), .string s] w fun e W' => e = .returned (.int .u64 (U x)) ∧ Below w.heap.size w W' := by
  rw [hx]; exact add_any h s hs w
theorem back_to (h x : BitVec 64) (s : ByteArray) (hs : s.size ≤ 9223372036854775807) (hx : x = hback h s.data.toList.reverse) (w : World) :
    Calls Try.prog 16 #[.int .u64 (U h), .string s] w fun e W' => e = .returned (.int .u64 (U x)) ∧ Below w.heap.size w W' := by
  rw [hx]; exact back_any h s hs w
theorem sum_to (x : BitVec 64) (s : ByteArray) (hs : s.size ≤ 9223372036854775807) (hx : x = hadd offset s.data.toList) (w : World) :
    Calls Try.prog 17 #[.string s] w fun e W' => e = .returned (.int .u64 (U x)) ∧ Below w.heap.size w W' := by
  rw [hx]; exact sum_any s hs w
theorem u32_bd (n : Int) (h : (Lit.int .u32 n).wf = true) : 0 ≤ n ∧ n ≤ 4294967295 := by
  simpa [Lit.wf, IntKind.min, IntKind.max, IntKind.signed, IntKind.bits] using h
theorem u16_bd (n : Int) (h : (Lit.int .u16 n).wf = true) : 0 ≤ n ∧ n ≤ 65535 := by
  simpa [Lit.wf, IntKind.min, IntKind.max, IntKind.signed, IntKind.bits] using h

set_option maxRecDepth 100000 in
set_option maxHeartbeats 1000000 in
theorem hashZeros_walk (a0 a1 a2 a3 : Int) (w0 : (Lit.int .u64 a0).wf = true) (w1 : (Lit.int .u32 a1).wf = true) (w2 : (Lit.int .u32 a2).wf = true) (w3 : (Lit.int .u16 a3).wf = true) (w : World) :
    Calls Try.prog 5 #[.int .u64 a0, .int .u32 a1, .int .u32 a2, .int .u16 a3] w fun e w' => e = .returned (.bool true) ∧ Below w.heap.size w w' := by
  obtain ⟨h, rfl⟩ := U_ex a0 w0
  obtain ⟨m0, m1⟩ := u32_bd a1 w1
  obtain ⟨n0, n1⟩ := u32_bd a2 w2
  obtain ⟨k0, k1⟩ := u16_bd a3 w3
  clear w0 w1 w2 w3
  obtain ⟨x, hx⟩ : ∃ x, x = h * pw (a1 * 256).toNat := ⟨_, rfl⟩
  obtain ⟨y, hy⟩ : ∃ y, y = x * pw (a2 * 256).toNat := ⟨_, rfl⟩
  have hy' : Hid (y = h * pw (a1 * 256 + a2 * 256).toNat) := by
    show _ = _
    rw [hy, hx, BitVec.mul_assoc, ← pw_add]; congr 2; omega
  replace hx := Lib.hid hx
  replace hy := Lib.hid hy
  obtain ⟨k, hk⟩ := Int.eq_ofNat_of_zero_le (show 0 ≤ a3 % 301 by omega)
  have hk2 : k ≤ 1000000 := by omega
  obtain ⟨z, hz⟩ : ∃ z, z = h * pw k := ⟨_, rfl⟩
  have hz' : Hid (z = hadd h (List.replicate k 0)) := by show _ = _; rw [hadd_zeros]; exact hz
  replace hz := Lib.hid hz
  go_enter Try.func5, Try.ntmps5
  go_wp2_with fail
  refine (zeros_to h x _ (by omega) (by omega) hx.out _).mono ?_; rintro e w1 ⟨rfl, hb⟩
  go_wp2_with fail
  refine (zeros_to x y _ (by omega) (by omega) hy.out _).mono ?_; rintro e w1 ⟨rfl, h2⟩; replace hb := on_trans hb h2; clear h2
  go_wp2_with fail
  refine (zeros_to h y _ (by omega) (by omega) hy'.out _).mono ?_; rintro e w1 ⟨rfl, h2⟩; replace hb := on_trans hb h2; clear h2
  go_wp2_with fail
  refine (zeros_to h h _ (by omega) (by omega) (by rw [show (0 : Int).toNat = 0 from rfl, pw_zero, BitVec.mul_one]) _).mono ?_; rintro e w1 ⟨rfl, h2⟩; replace hb := on_trans hb h2; clear h2
  go_wp2_with fail
  refine (zeros_to h z _ (by omega) (by omega) (by rw [Int.toNat_natCast]; exact hz.out) _).mono ?_; rintro e w1 ⟨rfl, h2⟩; replace hb := on_trans hb h2; clear h2
  obtain ⟨w2, hm, hc, h2⟩ := make_zeros k hk2 w1
  replace hb := on_trans hb h2
  clear h2
  go_wp2_with fail
  clear hm hc
  refine (add_to h z _ (by show (List.replicate k (0 : UInt8)).toArray.size ≤ _; simp; omega) hz'.out _).mono ?_; rintro e w1 ⟨rfl, h2⟩; replace hb := on_trans hb h2; clear h2
  go_wp2_with fail
  refine (awake_any _).mono ?_; rintro e w3 ⟨rfl, h3⟩; replace hb := on_trans hb h3; clear h3
  go_wp2_with fail
  go_ret
  exact ⟨rfl, hb⟩


theorem ext_size (s : ByteArray) (n : Nat) (h : n < s.size) : (s.extract 0 n).size ≤ n := by
  rw [ByteArray.size_extract]; omega

set_option maxRecDepth 100000 in
set_option maxHeartbeats 2000000 in
theorem hashBack_walk (a0 a1 : Int) (a2 a3 : ByteArray) (w0 : (Lit.int .u64 a0).wf = true) (w1 : (Lit.int .u64 a1).wf = true) (w2 : a2.size ≤ 9223372036854775807) (w3 : a3.size ≤ 9223372036854775807) (w : World) :
    Calls Try.prog 4 #[.int .u64 a0, .int .u64 a1, .string a2, .string a3] w fun e w' => e = .returned (.bool true) ∧ Below w.heap.size w w' := by
  obtain ⟨g, rfl⟩ := U_ex a0 w0
  obtain ⟨h, rfl⟩ := U_ex a1 w1
  clear w0 w1
  go_enter Try.func4, Try.ntmps4
  go_upto_region 1 with (fail)
  go_cut [2, 3] (fun s2 s3 wx => ∃ s t : ByteArray, s2 = .string s ∧ s3 = .string t ∧ s.size ≤ 2000 ∧ t.size ≤ 2000 ∧ Below w.heap.size w wx)
  case first =>
    rcases (show a2.size ≤ 2000 ∨ 2000 < a2.size by omega) with h1 | h1 <;> rcases (show a3.size ≤ 2000 ∨ 2000 < a3.size by omega) with h2 | h2
    all_goals
      go_quiet (fail)
      go_wp2_with fail
      go_meet
      exact ⟨_, _, rfl, rfl, by first | exact h1 | exact ext_size _ _ h1, by first | exact h2 | exact ext_size _ _ h2, below_drewN (Below.refl _ _) _⟩
  case rest =>
    obtain ⟨s, t, rfl, rfl, ls, lt, hb⟩ := hcut
    clear w2 w3
    obtain ⟨x, hx⟩ : ∃ x, Hid (x = hadd g s.data.toList) := ⟨_, rfl⟩
    obtain ⟨y, hy⟩ : ∃ y, Hid (y = hadd h s.data.toList) := ⟨_, rfl⟩
    obtain ⟨z, hz⟩ : ∃ z, Hid (z = hadd x t.data.toList) := ⟨_, rfl⟩
    obtain ⟨p, hp⟩ : ∃ p, Hid (p = hback g s.data.toList.reverse) := ⟨_, rfl⟩
    obtain ⟨o, ho⟩ : ∃ o, Hid (o = hadd offset s.data.toList) := ⟨_, rfl⟩
    have hxy : (U x == U y) = (U g == U h) := by
      rw [U_beq, U_beq, hx.out, hy.out, Bool.eq_iff_iff, beq_iff_eq, beq_iff_eq, hadd_inj]
    have hxg : Hid (g = hback x s.data.toList.reverse) := by show _ = _; rw [hx.out, hback_hadd]
    have hyh : Hid (h = hback y s.data.toList.reverse) := by show _ = _; rw [hy.out, hback_hadd]
    have hpg : Hid (g = hadd p s.data.toList) := by show _ = _; rw [hp.out, hadd_hback]
    have hst : (s ++ t).data.toList = s.data.toList ++ t.data.toList := by rw [ByteArray.data_append, Array.toList_append]
    have hzst : Hid (z = hadd g (s ++ t).data.toList) := by show _ = _; rw [hst, hadd_append, ← hx.out]; exact hz.out
    have hgst : Hid (g = hback z (s ++ t).data.toList.reverse) := by show _ = _; rw [hzst.out, hback_hadd]
    clear hst
    have hzx : Hid (x = hback z t.data.toList.reverse) := by show _ = _; rw [hz.out, hback_hadd]
    go_wp2_with fail
    refine (add_to g x s (by omega) hx.out _).mono ?_; rintro e w1 ⟨rfl, h3⟩; replace hb := on_trans hb h3; clear h3
    go_wp2_with fail
    refine (add_to h y s (by omega) hy.out _).mono ?_; rintro e w1 ⟨rfl, h3⟩; replace hb := on_trans hb h3; clear h3
    go_wp2_with fail
    refine (back_to x g s (by omega) hxg.out _).mono ?_; rintro e w1 ⟨rfl, h3⟩; replace hb := on_trans hb h3; clear h3
    go_wp2_with fail
    refine (back_to y h s (by omega) hyh.out _).mono ?_; rintro e w1 ⟨rfl, h3⟩; replace hb := on_trans hb h3; clear h3
    go_wp2_with fail
    refine (back_to g p s (by omega) hp.out _).mono ?_; rintro e w1 ⟨rfl, h3⟩; replace hb := on_trans hb h3; clear h3
    go_wp2_with fail
    refine (add_to p g s (by omega) hpg.out _).mono ?_; rintro e w1 ⟨rfl, h3⟩; replace hb := on_trans hb h3; clear h3
    go_wp2_with fail
    refine (add_to x z t (by omega) hz.out _).mono ?_; rintro e w1 ⟨rfl, h3⟩; replace hb := on_trans hb h3; clear h3
    go_wp2_with fail
    refine (add_to g z (s ++ t) (by rw [ByteArray.size_append]; omega) hzst.out _).mono ?_; rintro e w1 ⟨rfl, h3⟩; replace hb := on_trans hb h3; clear h3
    go_wp2_with fail
    refine (back_to z g (s ++ t) (by rw [ByteArray.size_append]; omega) hgst.out _).mono ?_; rintro e w1 ⟨rfl, h3⟩; replace hb := on_trans hb h3; clear h3
    go_wp2_with fail
    refine (back_to z x t (by omega) hzx.out _).mono ?_; rintro e w1 ⟨rfl, h3⟩; replace hb := on_trans hb h3; clear h3
    go_wp2_with fail
    refine (back_to x g s (by omega) hxg.out _).mono ?_; rintro e w1 ⟨rfl, h3⟩; replace hb := on_trans hb h3; clear h3
    go_wp2_with fail
    refine (sum_to o s (by omega) ho.out _).mono ?_; rintro e w1 ⟨rfl, h3⟩; replace hb := on_trans hb h3; clear h3
    go_wp2_with fail
    rw [offset_lit]
    refine (add_to offset o s (by omega) ho.out _).mono ?_; rintro e w1 ⟨rfl, h3⟩; replace hb := on_trans hb h3; clear h3
    go_wp2_with fail
    refine (awake_any _).mono ?_; rintro e w3 ⟨rfl, h3⟩; replace hb := on_trans hb h3; clear h3
    go_wp2_with fail
    go_ret
    exact ⟨rfl, hb⟩
end Go.Proofs.Ytennohgmenjaaaa
