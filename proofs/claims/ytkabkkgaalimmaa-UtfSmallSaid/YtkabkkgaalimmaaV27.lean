/- The contract of reads; the walk of the law UtfReads. -/
import Derived.Test.YtkabkkgaalimmaaV26
namespace Go.Proofs.Ytkabkkgaalimmaa
open Go.RowKit Go.Shelf

theorem valid_to (s : ByteArray) (hs : s.size ≤ 4611686018427387904) (k e : Int) (h : ck s = (k, e)) (b : Bool) (hb : (e == 0) = b) (w : World) :
    Calls Try.prog 26 #[.string s] w fun e' w' => e' = .returned (.bool b) ∧ w = w' := by
  have := valid_any s hs w
  rw [h] at this
  rw [← hb]
  exact this
theorem points_to (s : ByteArray) (hs : s.size ≤ 4611686018427387904) (e0 : Int) (L : List Int) (h : rgt s = e0) (hL : ptR s = L) (w : World) :
    Calls Try.prog 31 #[.string s] w fun e W' => (∃ v, e = .returned (.tuple #[v, .int .i64 e0]) ∧ Row W' v (L.map (Value.int .i64))) ∧ Below w.heap.size w W' := by
  rw [← h, ← hL]; exact points_any s hs w
theorem rpoints_to (s : ByteArray) (hs : s.size ≤ 4611686018427387904) (e0 : Int) (L : List Int) (h : rgt s = e0) (hL : ptR s = L) (w : World) :
    Calls Try.prog 48 #[.string s] w fun e W' => (∃ v, e = .returned (.tuple #[v, .int .i64 e0]) ∧ Row W' v (L.map (Value.int .i64))) ∧ Below w.heap.size w W' := by
  rw [← h, ← hL]; exact rpoints_any s hs w
theorem count_to (s : ByteArray) (hs : s.size ≤ 4611686018427387904) (e0 : Int) (L : List Int) (h : rgt s = e0) (hL : ptR s = L) (w : World) :
    Calls Try.prog 32 #[.string s] w fun e W' => e = .returned (.tuple #[.int .i64 (L.length : Nat), .int .i64 e0]) ∧ Below w.heap.size w W' := by
  rw [← h, ← hL]; exact count_any s hs w
theorem cut_to (s : ByteArray) (hs : s.size ≤ 4611686018427387904) (n : Int) (t : ByteArray) (e0 : Int) (h : ctR s n = (t, e0)) (w : World) :
    Calls Try.prog 22 #[.string s, .int .i64 n] w fun e W' => e = .returned (.tuple #[.string t, .int .i64 e0]) ∧ Below w.heap.size w W' := by
  have := cut_any s hs n w
  unfold CutRet at this
  rw [h] at this
  exact this
theorem rcut_to (s : ByteArray) (hs : s.size ≤ 4611686018427387904) (n : Int) (t : ByteArray) (e0 : Int) (h : ctR s n = (t, e0)) (w : World) :
    Calls Try.prog 49 #[.string s, .int .i64 n] w fun e W' => e = .returned (.tuple #[.string t, .int .i64 e0]) ∧ Below w.heap.size w W' := by
  have := rcut_any s hs n w
  unfold CutRet at this
  rw [h] at this
  exact this
theorem ptf_len (s : ByteArray) : ∀ f k, (ptf s f k).length ≤ f
  | 0, _ => by simp [ptf]
  | f + 1, k => by
    rw [ptf]
    split
    · split
      · rw [List.length_cons]; have := ptf_len s f (k + (rd s k).2.1.toNat); omega
      · simp
    · simp
theorem ptR_len (s : ByteArray) : (ptR s).length ≤ 1048577 := by
  unfold ptR
  split
  · rename_i h
    have := ptf_len s (s.size + 1) 0
    have h2 := rgt_hi s h
    rw [List.length_map]; unfold pts; omega
  · simp

set_option maxRecDepth 100000 in
set_option maxHeartbeats 1000000 in
theorem reads_any (s : ByteArray) (a n : Int) (w : World) :
    Calls Try.prog 27 #[.string s, .int .i64 a, .int .i64 n] w fun e w' => e = .returned (.bool true) ∧ Below w.heap.size w w' := by
  by_cases hz : 2000 < s.size
  · have t1 : decide ((2000 : Int) < s.size) = true := decide_eq_true (by omega)
    go_enter Try.func27, Try.ntmps27
    go_wp2_with fail
    go_ret
    exact ⟨rfl, Below.refl _ _⟩
  · have t1 : decide ((2000 : Int) < s.size) = false := decide_eq_false (by omega)
    have hs : s.size ≤ 4611686018427387904 := by omega
    obtain ⟨x, k, e, hr⟩ := ex3 (rd s a)
    obtain ⟨i, g, hc⟩ := ex2 (ck s)
    obtain ⟨b, hbg⟩ : ∃ b, Hid ((g == 0) = b) := ⟨g == 0, rfl⟩
    obtain ⟨o, ho⟩ : ∃ o, Hid (rgt s = o) := ⟨rgt s, rfl⟩
    obtain ⟨L, hL⟩ : ∃ L, Hid (ptR s = L) := ⟨ptR s, rfl⟩
    have hLl : L.length ≤ 1048577 := by rw [← hL.out]; exact ptR_len s
    obtain ⟨t, u, ht⟩ : ∃ t u, Hid (ctR s n = (t, u)) := ⟨(ctR s n).1, (ctR s n).2, rfl⟩
    go_enter Try.func27, Try.ntmps27
    go_wp2_with fail
    refine (read_to s hs a x k e hr.out _).mono ?_; rintro e1 w1 ⟨rfl, rfl⟩
    go_wp2_with fail
    refine (rread_to s hs a x k e hr.out _).mono ?_; rintro e1 w1 ⟨rfl, hb⟩
    go_wp2_with fail
    refine (check_to s hs i g hc.out _).mono ?_; rintro e1 w2 ⟨rfl, rfl⟩
    go_wp2_with fail
    refine (rcheck_to s hs i g hc.out _).mono ?_; rintro e1 w2 ⟨rfl, hb2⟩
    replace hb := on_trans hb hb2; clear hb2
    go_wp2_with fail
    refine (points_to s hs o L ho.out hL.out _).mono ?_; rintro e1 w3 ⟨⟨v1, rfl, hr1⟩, hb2⟩
    replace hr1 := Lib.hid hr1
    replace hb := on_trans hb hb2; clear hb2
    go_wp2_with fail
    refine (rpoints_to s hs o L ho.out hL.out _).mono ?_; rintro e1 w4 ⟨⟨v2, rfl, hr2⟩, hb2⟩
    replace hr1 := Lib.hid (hr1.out.on hb2)
    obtain ⟨a2, c2, hv2⟩ := row_slice hr2
    rw [List.length_map] at hv2
    subst hv2
    replace hr2 := Lib.hid hr2
    replace hb := on_trans hb hb2; clear hb2
    go_wp2_with fail
    refine (count_to s hs o L ho.out hL.out _).mono ?_; rintro e1 w5 ⟨rfl, hb2⟩
    replace hr1 := Lib.hid (hr1.out.on hb2)
    replace hr2 := Lib.hid (hr2.out.on hb2)
    replace hb := on_trans hb hb2; clear hb2
    go_wp2_with fail
    refine (cut_to s hs n t u ht.out _).mono ?_; rintro e1 w6 ⟨rfl, hb2⟩
    replace hr1 := Lib.hid (hr1.out.on hb2)
    replace hr2 := Lib.hid (hr2.out.on hb2)
    replace hb := on_trans hb hb2; clear hb2
    go_wp2_with fail
    refine (rcut_to s hs n t u ht.out _).mono ?_; rintro e1 w7 ⟨rfl, hb2⟩
    replace hr1 := Lib.hid (hr1.out.on hb2)
    replace hr2 := Lib.hid (hr2.out.on hb2)
    replace hb := on_trans hb hb2; clear hb2
    go_wp2_with fail
    refine (valid_to s hs i g hc.out b hbg.out _).mono ?_; rintro e1 w8 ⟨rfl, rfl⟩
    have hbg' := hbg.out
    go_wp2_with fail
    refine (sameInts_any _ _ L L _ hr1.out hr2.out (by omega)).mono ?_; rintro e1 w8 ⟨rfl, q, rfl⟩
    go_wp2_with fail
    go_ret
    exact ⟨rfl, below_drewN hb q⟩

set_option maxHeartbeats 400000 in
theorem utfReads_walk (a0 : ByteArray) (a1 a2 : Int) (_w0 : a0.size ≤ maxLen) (_w1 : (Lit.int .i64 a1).wf = true) (_w2 : (Lit.int .i64 a2).wf = true) (w : World) :
    Calls Try.prog 9 #[.string a0, .int .i64 a1, .int .i64 a2] w fun e w' => e = .returned (.bool true) ∧ Below w.heap.size w w' := by
  clear _w0 _w1 _w2
  go_enter Try.func9, Try.ntmps9
  go_wp2_with fail
  refine (reads_any a0 a1 a2 _).mono ?_; rintro e w3 ⟨rfl, hb⟩
  go_wp2_with fail
  refine (awake_any _).mono ?_; rintro e w4 ⟨rfl, h3⟩; replace hb := on_trans hb h3; clear h3
  go_wp2_with fail
  go_ret
  exact ⟨rfl, hb⟩
end Go.Proofs.Ytkabkkgaalimmaa
