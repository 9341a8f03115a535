/- The walk of the law UtfBack. -/
import Derived.Test.YtkabkkgaalimmaaV31
namespace Go.Proofs.Ytkabkkgaalimmaa
open Go.RowKit Go.Shelf

theorem frm_tail (x : Int) (hx : isPt x) (i : Nat) (h0 : 0 < i) (h1 : i < (frm x).length) : 128 ≤ gi (frm x) i ∧ gi (frm x) i < 192 := by
  obtain ⟨p0, p1, _⟩ := hx
  unfold frm at h1 ⊢
  split at h1
  · simp at h1; omega
  · split at h1
    · rename_i c c2
      rw [if_neg c, if_pos c2]
      have : i = 1 := by simp at h1; omega
      subst this
      rw [show gi [b8 (192 + x / 64), b8 (128 + x % 64)] 1 = 128 + x % 64 from b8_nat _ (by omega) (by omega)]
      omega
    · split at h1
      · rename_i c c2 c3
        rw [if_neg c, if_neg c2, if_pos c3]
        have : i = 1 ∨ i = 2 := by simp at h1; omega
        rcases this with rfl | rfl
        · rw [show gi [b8 (224 + x / 4096), b8 (128 + x / 64 % 64), b8 (128 + x % 64)] 1 = 128 + x / 64 % 64 from b8_nat _ (by omega) (by omega)]
          omega
        · rw [show gi [b8 (224 + x / 4096), b8 (128 + x / 64 % 64), b8 (128 + x % 64)] 2 = 128 + x % 64 from b8_nat _ (by omega) (by omega)]
          omega
      · rename_i c c2 c3
        rw [if_neg c, if_neg c2, if_neg c3]
        have : i = 1 ∨ i = 2 ∨ i = 3 := by simp at h1; omega
        rcases this with rfl | rfl | rfl
        · rw [show gi [b8 (240 + x / 262144), b8 (128 + x / 4096 % 64), b8 (128 + x / 64 % 64), b8 (128 + x % 64)] 1 = 128 + x / 4096 % 64 from b8_nat _ (by omega) (by omega)]
          omega
        · rw [show gi [b8 (240 + x / 262144), b8 (128 + x / 4096 % 64), b8 (128 + x / 64 % 64), b8 (128 + x % 64)] 2 = 128 + x / 64 % 64 from b8_nat _ (by omega) (by omega)]
          omega
        · rw [show gi [b8 (240 + x / 262144), b8 (128 + x / 4096 % 64), b8 (128 + x / 64 % 64), b8 (128 + x % 64)] 3 = 128 + x % 64 from b8_nat _ (by omega) (by omega)]
          omega
theorem hdn_mid (c : Int) (h0 : 128 ≤ c) (h1 : c < 192) : hdn c = 0 := by unfold hdn; rw [if_neg (by omega), if_pos (by omega)]
theorem gi_drop (l : List UInt8) (i j : Nat) : gi (l.drop i) j = gi l (i + j) := by
  unfold gi; simp [List.getD_eq_getElem?_getD, List.getElem?_drop]
/-- Every other offset is bad. -/
theorem rd_inner (s : ByteArray) (M N : List Int) (x : Int) (hs : s.data.toList = frms (M ++ x :: N)) (hx : isPt x) (i : Nat) (h0 : 0 < i) (h1 : i < (frm x).length) : rd s (((frms M).length + i : Nat) : Int) = (0, 0, 11) := by
  have hlt := (frms_split s M N x hs hx).2
  rw [rd_dec s _ (by omega), hs, frms_app, frms_cons, List.drop_append, List.drop_of_length_le (show (frms M).length ≤ (frms M).length + i by omega), List.nil_append, Nat.add_sub_cancel_left, List.drop_append_of_le_length (by omega)]
  have hne : (frm x).drop i ≠ [] := fun e => by have := congrArg List.length e; rw [List.length_drop] at this; simp at this; omega
  refine dec_form _ (fun e => hne (List.append_eq_nil_iff.1 e).1) ?_
  rw [gi_app _ _ _ (len_pos hne), gi_drop]
  have := frm_tail x hx i h0 h1
  exact hdn_mid _ this.1 this.2

set_option maxRecDepth 100000 in
set_option maxHeartbeats 2000000 in
theorem utfBack_core (va : Value) (z : ByteArray) (w : World) (ha : In32 w va) :
    Calls Try.prog 11 #[va, .string z] w fun e w' => e = .returned (.bool true) ∧ Below w.heap.size w w' := by
  replace ha := Lib.hid ha
  go_enter Try.func11, Try.ntmps11
  go_wp2_with fail
  refine (awake_any _).mono ?_; rintro e w1 ⟨rfl, hB⟩
  go_wp2_with fail
  refine (made_any va _ (ha.out.on hB)).mono ?_; rintro e w2 ⟨⟨v1, p, rfl, hp⟩, hB2⟩
  replace hp := Lib.hid hp
  replace hB := on_trans hB hB2; clear hB2
  go_wp2_with fail
  refine (text_of v1 p _ hp.out).mono ?_; rintro e w4 ⟨rfl, hB2⟩
  replace hp := Lib.hid (hp.out.on hB2)
  replace hB := on_trans hB hB2; clear hB2
  obtain ⟨s, hs⟩ : ∃ s, Hid (s = strOf p) := ⟨strOf p, rfl⟩
  rw [← hs.out]
  have hsl : Hid (s.data.toList = frms p) := by show _ = _; rw [hs.out, strOf_list]
  have hsz : s.size ≤ 800 := by rw [hs.out, strOf_size]; have := frms_hi p; have := hp.out.2.2; omega
  have hpl : p.length ≤ 200 := hp.out.2.2
  have hpt : Hid (∀ x ∈ p, isPt x) := hp.out.2.1
  have hpr : Hid (ptR s = p) := (ptR_of s p hpt.out hsl.out (by omega)).1
  have hrg : Hid (rgt s = 0) := (ptR_of s p hpt.out hsl.out (by omega)).2
  obtain ⟨ck0, hck⟩ : ∃ k, Hid (ck s = (k, 0)) := ⟨_, ck_parts s p [] hpt.out (by rw [hsl.out, List.append_nil]) (by decide)⟩
  clear hs
  go_wp2_with fail
  refine (points_to s (by omega) 0 p hrg.out hpr.out _).mono ?_; rintro e w5 ⟨⟨v2, rfl, hr2⟩, hB2⟩
  replace hp := Lib.hid (hp.out.on hB2)
  replace hr2 := Lib.hid hr2
  replace hB := on_trans hB hB2; clear hB2
  go_wp2_with fail
  refine (count_to s (by omega) 0 p hrg.out hpr.out _).mono ?_; rintro e w6 ⟨rfl, hB2⟩
  replace hp := Lib.hid (hp.out.on hB2)
  replace hr2 := Lib.hid (hr2.out.on hB2)
  replace hB := on_trans hB hB2; clear hB2
  obtain ⟨a1, c1, hv1⟩ := row_slice hp.out.1
  rw [List.length_map] at hv1
  subst hv1
  go_wp2_with fail
  refine (sameInts_to _ _ p p true (decide_eq_true rfl) _ hr2.out hp.out.1 (by omega)).mono ?_; rintro e w7 ⟨rfl, n6, rfl⟩
  go_wp2_with fail
  refine (valid_to s (by omega) ck0 0 hck.out true rfl _).mono ?_; rintro e w7 ⟨rfl, rfl⟩
  have hp := Lib.hid (hp.out.1.on (below_drewN (Below.refl _ _) n6))
  replace hB := below_drewN hB n6
  generalize w6.drewN n6 = w7 at hp hB
  go_wp2_with fail
  go_loopg [71, 12] p.length (fun g s71 s12 wr => ∃ (k a : Nat) (M N : List Int), k + g = p.length ∧ s71 = .int .i64 k ∧ s12 = .int .i64 a ∧ Hid (p = M ++ N ∧ M.length = k ∧ a = (frms M).length) ∧ a ≤ s.size ∧ wr = w7)
  case atStart => exact ⟨0, 0, [], p, by omega, rfl, rfl, ⟨rfl, rfl, by simp [frms]⟩, by omega, rfl⟩
  case round =>
    obtain ⟨k, a, M, N, hg, rfl, rfl, hMN, has, rfl⟩ := hrel
    cases N with
    | nil =>
      have hk : k = p.length := by obtain ⟨e1, e2, _⟩ := hMN.out; rw [e1, ← e2, List.append_nil]
      have ha2 : a = s.size := by obtain ⟨e1, e2, e3⟩ := hMN.out; rw [e3]; exact frms_done s M (by rw [hsl.out, e1])
      subst hk
      have t1 : decide (p.length < p.length) = false := decide_eq_false (by omega)
      subst ha2
      by_cases hz : 1000 < z.size
      · have t2 : decide ((1000 : Int) < z.size) = true := decide_eq_true (by omega)
        go_wp2_with fail
        go_ret
        exact ⟨by simp, hB⟩
      · have t2 : decide ((1000 : Int) < z.size) = false := decide_eq_false (by omega)
        obtain ⟨kz, e0, hckz⟩ := ex2 (ck z)
        have hrz : Hid (rgt z = e0) := by show _ = _; unfold rgt; rw [if_neg (by omega), hckz.out]
        by_cases he : e0 = 0
        · subst he
          obtain ⟨L, hL, hsL⟩ := valid_parts z kz hckz.out
          have hpz := ptR_of z L hL hsL (by omega)
          have hzL : strOf L = z := by unfold strOf; rw [← hsL]
          have hLl : L.length ≤ 1000 := by have := frms_le L; have := size_list z; rw [hsL] at this; omega
          have htx := Lib.hid (txR_of L hL)
          rw [hzL] at htx
          have hcallp := Lib.hid (fun W => points_to z (by omega) 0 L hpz.2 hpz.1 W)
          clear hpz hL hzL
          replace hsL := Lib.hid hsL
          go_wp2_with fail
          refine (hcallp.out _).mono ?_; rintro e w9 ⟨⟨v3, rfl, hr3⟩, hB2⟩
          replace hr3 := Lib.hid hr3
          replace hB := on_trans hB hB2; clear hB2
          go_wp2_with fail
          refine (texts_to v3 L _ hr3.out (by omega) z 0 htx.out).mono ?_; rintro e w10 ⟨rfl, hB2⟩
          replace hB := on_trans hB hB2; clear hB2
          go_wp2_with fail
          go_ret
          exact ⟨by simp, hB⟩
        · have hpz : ptR z = [] := by unfold ptR; rw [if_neg (by rw [hrz.out]; exact he)]
          have hcallp := Lib.hid (fun W => points_to z (by omega) e0 [] hrz.out hpz W)
          have hcallv := Lib.hid (fun W => valid_to z (by omega) kz e0 hckz.out false (by simpa using he) W)
          have t3 : (e0 != 0) = true := by simpa using he
          clear hpz
          replace he := Lib.hid he
          go_wp2_with fail
          refine (hcallp.out _).mono ?_; rintro e w9 ⟨⟨v3, rfl, hr3⟩, hB2⟩
          obtain ⟨a3, c3, hv3⟩ := row_slice hr3
          rw [show (List.map (Value.int .i64) ([] : List Int)).length = 0 from rfl] at hv3
          subst hv3
          replace hr3 := Lib.hid hr3
          replace hB := on_trans hB hB2; clear hB2
          go_wp2_with fail
          refine (hcallv.out _).mono ?_; rintro e w10 ⟨rfl, rfl⟩
          go_wp2_with fail
          go_ret
          exact ⟨by simp, hB⟩
    | cons x N =>
      have hx : isPt x := hpt.out x (by rw [hMN.out.1]; simp)
      have hrd := (frms_split s M N x (by rw [hsl.out, hMN.out.1]) hx)
      rw [← hMN.out.2.2] at hrd
      have hlt : k < p.length := by obtain ⟨e1, e2, _⟩ := hMN.out; rw [e1, ← e2]; simp
      obtain ⟨b, off, rfl, _, hc⟩ := row_cells hp.out (by rw [List.length_map]; omega)
      have hcell := hc k (by rw [List.length_map]; exact hlt)
      have hpk : p[k] = x := by
        obtain ⟨e1, e2, _⟩ := hMN.out
        simp only [e1, ← e2]
        simp
      rw [List.getElem_map, hpk] at hcell
      clear hc hpk
      obtain ⟨hrd1, hrd2⟩ := hrd
      have hcall1 := Lib.hid (fun W => read_to s (by omega) (a : Nat) x ((frm x).length : Nat) 0 hrd1 W)
      have hcall2 := Lib.hid (fun W => size_yes x hx W)
      have hsx := szI_frm x
      have hfp := frm_pos x
      have hf4 := frm_len x
      have hin := Lib.hid (fun i h0 h1 => rd_inner s M N x (by rw [hsl.out, hMN.out.1]) hx i h0 h1)
      clear hrd1
      replace hx := Lib.hid hx
      have t1 : decide (k < p.length) = true := decide_eq_true hlt
      obtain ⟨l, hl⟩ : ∃ l, l = (frm x).length := ⟨_, rfl⟩
      rw [← hl] at hcall1 hsx hfp hf4 hin hrd2
      replace hl := Lib.hid hl
      have t2 : decide ((l : Int) < 1) = false := decide_eq_false (by omega)
      go_wp2_with fail
      refine (hcall1.out _).mono ?_; rintro e w8 ⟨rfl, rfl⟩
      go_wp2_with fail
      refine (hcall2.out _).mono ?_; rintro e w8 ⟨rfl, rfl⟩
      rw [hsx]
      clear hsx hcall1 hcall2
      go_wp2_with fail
      go_loopg [20] l (fun g s20 wi => ∃ i : Nat, i + g = l + 1 ∧ 1 ≤ i ∧ s20 = .int .i64 i ∧ wi = wr)
      case atStart => exact ⟨1, by omega, by omega, rfl, rfl⟩
      case round =>
        obtain ⟨i, hi, hi1, rfl, rfl⟩ := hrel
        by_cases hil : i < l
        · have hr := hin.out i (by omega) hil
          rw [← hMN.out.2.2] at hr
          rw [Int.natCast_add] at hr
          have hcall3 := Lib.hid (fun W => read_to s (by omega) ((a : Int) + (i : Int)) 0 0 11 hr W)
          clear hr
          have t3 : decide (i < l) = true := decide_eq_true hil
          go_wp2_with fail
          refine (hcall3.out _).mono ?_; rintro e w8 ⟨rfl, rfl⟩
          go_wp2_with fail
          go_roundg (gk - 1)
          case measure => omega
          case rel => exact ⟨i + 1, by omega, by omega, by go_num, rfl⟩
        · have t3 : decide (i < l) = false := decide_eq_false hil
          go_wp2_with fail
          go_roundg (p.length - (k + 1))
          case measure => omega
          case rel =>
            refine ⟨k + 1, a + l, M ++ [x], N, by omega, by go_num, by go_num, ⟨by rw [hMN.out.1]; simp, by rw [List.length_append, hMN.out.2.1]; rfl, by rw [frms_snoc, List.length_append, ← hMN.out.2.2, ← hl.out]⟩, by omega, rfl⟩
theorem utfBack_walk (a0 : Option Addr) (len0 cap0 : Nat) (z0 : List Int) (a1 : ByteArray) (w : World) (w0 : IsRow .u32 w a0 len0 cap0 z0) (_w1 : a1.size ≤ maxLen) :
    Calls Try.prog 11 #[.slice a0 len0 cap0, .string a1] w fun e w' => e = .returned (.bool true) ∧ Below w.heap.size w w' :=
  utfBack_core _ a1 w w0.in32
end Go.Proofs.Ytkabkkgaalimmaa
