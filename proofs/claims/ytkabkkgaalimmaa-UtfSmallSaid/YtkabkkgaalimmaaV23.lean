/- The contract of the reference's value. -/
import Derived.Test.YtkabkkgaalimmaaV22
namespace Go.Proofs.Ytkabkkgaalimmaa
open Go.RowKit Go.Shelf

theorem rpoint_to (x : Int) (b : Bool) (h : decide (isPt x) = b) (w : World) : Calls Try.prog 36 #[.int .i64 x] w fun e w' => e = .returned (.bool b) ∧ w = w' := by
  have := rpoint_any x w; rwa [h] at this
theorem row_conv {w : World} {v : Value} {l : List UInt8} (h : Row w v (l.map enc8)) (hl : 1 ≤ l.length) : (convert 22 9 v).run Try.prog w = .ok (.string ⟨l.toArray⟩) w := by
  rcases h with ⟨a, c, _, rfl, h0⟩ | ⟨b, off, cap, rfl, _, _, _, hc⟩
  · obtain rfl : l = [] := by simpa using h0
    simp at hl
  · rw [show (l.map enc8).length = l.length by simp]
    refine run_convert_bytes_back w 22 9 5 ⟨b, off, none⟩ cap l Try.underlying22 Try.underlying5 Try.underlying9 (fun j hj => ?_)
    rw [show (⟨b, off, none⟩ : Addr).add j = ⟨b, off + j, none⟩ by simp [Addr.add], hc j (by simpa using hj)]
    simp [enc8]
theorem toList_data (s : ByteArray) : s.toList = s.data.toList := ByteArray.toList_eq s
theorem strEq_ne (l : List UInt8) (s : ByteArray) (h : ¬ l = s.data.toList) : (l == s.toList) = false := by
  rw [toList_data, beq_eq_false_iff_ne]; exact h
theorem strEq_eq (l : List UInt8) (s : ByteArray) (h : l = s.data.toList) : (⟨l.toArray⟩ : ByteArray) = s := by
  rw [h]
theorem below_quiet {w w3 : World} {n : Nat} (h : Below (w.drewN n).heap.size (w.drewN n) w3) : Below w.heap.size w w3 := (below_drewN (Below.refl _ w) n).trans (h.mono (by simp))
def Rets (r : Int) (w : World) (e : Ending) (w' : World) : Prop := e = .returned (.int .i64 r) ∧ Below w.heap.size w w'

set_option maxRecDepth 100000 in
set_option maxHeartbeats 1000000 in
theorem value_1 (s : ByteArray) (x : Int) (hs : s.size = 1) (a : Int) (ha : byt s 0 = a) (hx : x = a) (w : World) :
    Calls Try.prog 52 #[.string s] w (Rets (if isPt x ∧ frm x = s.data.toList then x else -1) w) := by
  obtain ⟨R, hR⟩ : ∃ R : Int, Hid (R = if isPt x ∧ frm x = s.data.toList then x else -1) := ⟨_, rfl⟩
  rw [← hR.out]
  have la := byt_lo s 0
  have ua := byt_hi s 0
  have hB0 := byt_eq s 0 (by omega)
  rw [ha] at la ua hB0
  have z1 : ((s.size : Int) == 1) = true := by rw [hs]; rfl
  have z2 : ((s.size : Int) == 2) = false := by rw [hs]; rfl
  have z3 : ((s.size : Int) == 3) = false := by rw [hs]; rfl
  have z4 : ((s.size : Int) == 4) = false := by rw [hs]; rfl
  have g0 : 0 < s.size := by omega
  replace hs := Lib.hid hs
  replace ha := Lib.hid ha
  subst hx
  by_cases hp : isPt x
  · have hpt := Lib.hid hp
    clear hp
    go_enter Try.func52, Try.ntmps52
    go_wp2_with fail
    refine (rpoint_to x true (decide_eq_true hpt.out) _).mono ?_; rintro e w2 ⟨rfl, rfl⟩
    go_wp2_with fail
    refine (form_any x hpt.out _).mono ?_; rintro e w3 ⟨⟨v3, rfl, hr3⟩, hb3⟩
    have hcv := row_conv hr3 (frm_pos x)
    replace hr3 := Lib.hid hr3
    by_cases hq : frm x = s.data.toList
    · have hsq := strEq_eq _ _ hq
      rw [hsq] at hcv
      have hr : R = x := by rw [hR.out, if_pos ⟨hpt.out, hq⟩]
      subst hr
      replace hq := Lib.hid hq
      replace hsq := Lib.hid hsq
      go_wp2_with fail
      go_ret
      exact ⟨rfl, hb3⟩
    · have hsq := strEq_ne _ _ hq
      have hr : R = -1 := by rw [hR.out, if_neg (fun h => hq h.2)]
      subst hr
      replace hq := Lib.hid hq
      go_wp2_with fail
      go_ret
      exact ⟨rfl, hb3⟩
  · have hr : R = -1 := by rw [hR.out, if_neg (fun h => hp h.1)]
    subst hr
    have hpt := Lib.hid hp
    clear hp
    go_enter Try.func52, Try.ntmps52
    go_wp2_with fail
    refine (rpoint_to x false (decide_eq_false hpt.out) _).mono ?_; rintro e w2 ⟨rfl, rfl⟩
    go_wp2_with fail
    go_ret
    exact ⟨rfl, Below.refl _ _⟩
set_option maxRecDepth 100000 in
set_option maxHeartbeats 1000000 in
theorem value_2 (s : ByteArray) (x : Int) (hs : s.size = 2) (a b : Int) (ha : byt s 0 = a) (hb : byt s 1 = b) (hx : x = 64 * (a - 192) + b - 128) (w : World) :
    Calls Try.prog 52 #[.string s] w (Rets (if isPt x ∧ frm x = s.data.toList then x else -1) w) := by
  obtain ⟨R, hR⟩ : ∃ R : Int, Hid (R = if isPt x ∧ frm x = s.data.toList then x else -1) := ⟨_, rfl⟩
  rw [← hR.out]
  have la := byt_lo s 0
  have ua := byt_hi s 0
  have hB0 := byt_eq s 0 (by omega)
  rw [ha] at la ua hB0
  have lb := byt_lo s 1
  have ub := byt_hi s 1
  have hB1 := byt_eq s 1 (by omega)
  rw [hb] at lb ub hB1
  have z1 : ((s.size : Int) == 1) = false := by rw [hs]; rfl
  have z2 : ((s.size : Int) == 2) = true := by rw [hs]; rfl
  have z3 : ((s.size : Int) == 3) = false := by rw [hs]; rfl
  have z4 : ((s.size : Int) == 4) = false := by rw [hs]; rfl
  have g0 : 0 < s.size := by omega
  have g1 : 1 < s.size := by omega
  replace hs := Lib.hid hs
  replace ha := Lib.hid ha
  replace hb := Lib.hid hb
  have hX := Lib.hid hx
  have hxs : 64 * (a - 192) + b - 128 = x := hx.symm
  clear hx
  by_cases hp : isPt x
  · have hpt := Lib.hid hp
    clear hp
    go_enter Try.func52, Try.ntmps52
    go_wp2_with fail
    go_quiet (fail)
    go_wp2_with fail
    refine (rpoint_to x true (decide_eq_true hpt.out) _).mono ?_; rintro e w2 ⟨rfl, rfl⟩
    go_wp2_with fail
    refine (form_any x hpt.out _).mono ?_; rintro e w3 ⟨⟨v3, rfl, hr3⟩, hb3⟩
    have hcv := row_conv hr3 (frm_pos x)
    replace hr3 := Lib.hid hr3
    replace hb3 := below_quiet hb3
    by_cases hq : frm x = s.data.toList
    · have hsq := strEq_eq _ _ hq
      rw [hsq] at hcv
      have hr : R = x := by rw [hR.out, if_pos ⟨hpt.out, hq⟩]
      subst hr
      replace hq := Lib.hid hq
      replace hsq := Lib.hid hsq
      go_wp2_with fail
      go_ret
      exact ⟨rfl, hb3⟩
    · have hsq := strEq_ne _ _ hq
      have hr : R = -1 := by rw [hR.out, if_neg (fun h => hq h.2)]
      subst hr
      replace hq := Lib.hid hq
      go_wp2_with fail
      go_ret
      exact ⟨rfl, hb3⟩
  · have hr : R = -1 := by rw [hR.out, if_neg (fun h => hp h.1)]
    subst hr
    have hpt := Lib.hid hp
    clear hp
    go_enter Try.func52, Try.ntmps52
    go_wp2_with fail
    go_quiet (fail)
    go_wp2_with fail
    refine (rpoint_to x false (decide_eq_false hpt.out) _).mono ?_; rintro e w2 ⟨rfl, rfl⟩
    go_wp2_with fail
    go_ret
    exact ⟨rfl, below_drewN (Below.refl _ _) _⟩
set_option maxRecDepth 100000 in
set_option maxHeartbeats 1000000 in
theorem value_3 (s : ByteArray) (x : Int) (hs : s.size = 3) (a b c : Int) (ha : byt s 0 = a) (hb : byt s 1 = b) (hc : byt s 2 = c) (hx : x = 4096 * (a - 224) + 64 * (b - 128) + c - 128) (w : World) :
    Calls Try.prog 52 #[.string s] w (Rets (if isPt x ∧ frm x = s.data.toList then x else -1) w) := by
  obtain ⟨R, hR⟩ : ∃ R : Int, Hid (R = if isPt x ∧ frm x = s.data.toList then x else -1) := ⟨_, rfl⟩
  rw [← hR.out]
  have la := byt_lo s 0
  have ua := byt_hi s 0
  have hB0 := byt_eq s 0 (by omega)
  rw [ha] at la ua hB0
  have lb := byt_lo s 1
  have ub := byt_hi s 1
  have hB1 := byt_eq s 1 (by omega)
  rw [hb] at lb ub hB1
  have lc := byt_lo s 2
  have uc := byt_hi s 2
  have hB2 := byt_eq s 2 (by omega)
  rw [hc] at lc uc hB2
  have z1 : ((s.size : Int) == 1) = false := by rw [hs]; rfl
  have z2 : ((s.size : Int) == 2) = false := by rw [hs]; rfl
  have z3 : ((s.size : Int) == 3) = true := by rw [hs]; rfl
  have z4 : ((s.size : Int) == 4) = false := by rw [hs]; rfl
  have g0 : 0 < s.size := by omega
  have g1 : 1 < s.size := by omega
  have g2 : 2 < s.size := by omega
  replace hs := Lib.hid hs
  replace ha := Lib.hid ha
  replace hb := Lib.hid hb
  replace hc := Lib.hid hc
  have hX := Lib.hid hx
  have hxs : 4096 * (a - 224) + 64 * (b - 128) + c - 128 = x := hx.symm
  clear hx
  by_cases hp : isPt x
  · have hpt := Lib.hid hp
    clear hp
    go_enter Try.func52, Try.ntmps52
    go_wp2_with fail
    go_quiet (fail)
    go_wp2_with fail
    refine (rpoint_to x true (decide_eq_true hpt.out) _).mono ?_; rintro e w2 ⟨rfl, rfl⟩
    go_wp2_with fail
    refine (form_any x hpt.out _).mono ?_; rintro e w3 ⟨⟨v3, rfl, hr3⟩, hb3⟩
    have hcv := row_conv hr3 (frm_pos x)
    replace hr3 := Lib.hid hr3
    replace hb3 := below_quiet hb3
    by_cases hq : frm x = s.data.toList
    · have hsq := strEq_eq _ _ hq
      rw [hsq] at hcv
      have hr : R = x := by rw [hR.out, if_pos ⟨hpt.out, hq⟩]
      subst hr
      replace hq := Lib.hid hq
      replace hsq := Lib.hid hsq
      go_wp2_with fail
      go_ret
      exact ⟨rfl, hb3⟩
    · have hsq := strEq_ne _ _ hq
      have hr : R = -1 := by rw [hR.out, if_neg (fun h => hq h.2)]
      subst hr
      replace hq := Lib.hid hq
      go_wp2_with fail
      go_ret
      exact ⟨rfl, hb3⟩
  · have hr : R = -1 := by rw [hR.out, if_neg (fun h => hp h.1)]
    subst hr
    have hpt := Lib.hid hp
    clear hp
    go_enter Try.func52, Try.ntmps52
    go_wp2_with fail
    go_quiet (fail)
    go_wp2_with fail
    refine (rpoint_to x false (decide_eq_false hpt.out) _).mono ?_; rintro e w2 ⟨rfl, rfl⟩
    go_wp2_with fail
    go_ret
    exact ⟨rfl, below_drewN (Below.refl _ _) _⟩
set_option maxRecDepth 100000 in
set_option maxHeartbeats 1000000 in
theorem value_4 (s : ByteArray) (x : Int) (hs : s.size = 4) (a b c d : Int) (ha : byt s 0 = a) (hb : byt s 1 = b) (hc : byt s 2 = c) (hd : byt s 3 = d) (hx : x = 262144 * (a - 240) + 4096 * (b - 128) + 64 * (c - 128) + d - 128) (w : World) :
    Calls Try.prog 52 #[.string s] w (Rets (if isPt x ∧ frm x = s.data.toList then x else -1) w) := by
  obtain ⟨R, hR⟩ : ∃ R : Int, Hid (R = if isPt x ∧ frm x = s.data.toList then x else -1) := ⟨_, rfl⟩
  rw [← hR.out]
  have la := byt_lo s 0
  have ua := byt_hi s 0
  have hB0 := byt_eq s 0 (by omega)
  rw [ha] at la ua hB0
  have lb := byt_lo s 1
  have ub := byt_hi s 1
  have hB1 := byt_eq s 1 (by omega)
  rw [hb] at lb ub hB1
  have lc := byt_lo s 2
  have uc := byt_hi s 2
  have hB2 := byt_eq s 2 (by omega)
  rw [hc] at lc uc hB2
  have ld := byt_lo s 3
  have ud := byt_hi s 3
  have hB3 := byt_eq s 3 (by omega)
  rw [hd] at ld ud hB3
  have z1 : ((s.size : Int) == 1) = false := by rw [hs]; rfl
  have z2 : ((s.size : Int) == 2) = false := by rw [hs]; rfl
  have z3 : ((s.size : Int) == 3) = false := by rw [hs]; rfl
  have z4 : ((s.size : Int) == 4) = true := by rw [hs]; rfl
  have g0 : 0 < s.size := by omega
  have g1 : 1 < s.size := by omega
  have g2 : 2 < s.size := by omega
  have g3 : 3 < s.size := by omega
  replace hs := Lib.hid hs
  replace ha := Lib.hid ha
  replace hb := Lib.hid hb
  replace hc := Lib.hid hc
  replace hd := Lib.hid hd
  have hX := Lib.hid hx
  have hxs : 262144 * (a - 240) + 4096 * (b - 128) + 64 * (c - 128) + d - 128 = x := hx.symm
  clear hx
  by_cases hp : isPt x
  · have hpt := Lib.hid hp
    clear hp
    go_enter Try.func52, Try.ntmps52
    go_wp2_with fail
    go_quiet (fail)
    go_wp2_with fail
    refine (rpoint_to x true (decide_eq_true hpt.out) _).mono ?_; rintro e w2 ⟨rfl, rfl⟩
    go_wp2_with fail
    refine (form_any x hpt.out _).mono ?_; rintro e w3 ⟨⟨v3, rfl, hr3⟩, hb3⟩
    have hcv := row_conv hr3 (frm_pos x)
    replace hr3 := Lib.hid hr3
    replace hb3 := below_quiet hb3
    by_cases hq : frm x = s.data.toList
    · have hsq := strEq_eq _ _ hq
      rw [hsq] at hcv
      have hr : R = x := by rw [hR.out, if_pos ⟨hpt.out, hq⟩]
      subst hr
      replace hq := Lib.hid hq
      replace hsq := Lib.hid hsq
      go_wp2_with fail
      go_ret
      exact ⟨rfl, hb3⟩
    · have hsq := strEq_ne _ _ hq
      have hr : R = -1 := by rw [hR.out, if_neg (fun h => hq h.2)]
      subst hr
      replace hq := Lib.hid hq
      go_wp2_with fail
      go_ret
      exact ⟨rfl, hb3⟩
  · have hr : R = -1 := by rw [hR.out, if_neg (fun h => hp h.1)]
    subst hr
    have hpt := Lib.hid hp
    clear hp
    go_enter Try.func52, Try.ntmps52
    go_wp2_with fail
    go_quiet (fail)
    go_wp2_with fail
    refine (rpoint_to x false (decide_eq_false hpt.out) _).mono ?_; rintro e w2 ⟨rfl, rfl⟩
    go_wp2_with fail
    go_ret
    exact ⟨rfl, below_drewN (Below.refl _ _) _⟩
end Go.Proofs.Ytkabkkgaalimmaa
