/- The contracts of the reference Check, Points and Cut. -/
import Derived.Test.YtkabkkgaalimmaaV25
namespace Go.Proofs.Ytkabkkgaalimmaa
open Go.RowKit Go.Shelf

theorem rread_to (s : ByteArray) (hs : s.size ≤ 4611686018427387904) (k x n e : Int) (h : rd s k = (x, n, e)) (w : World) :
    Calls Try.prog 46 #[.string s, .int .i64 k] w fun e' w' => e' = .returned (.tuple #[.int .i64 x, .int .i64 n, .int .i64 e]) ∧ Below w.heap.size w w' := by
  have := rread_any s hs k w
  unfold Ret3 at this
  rw [h] at this
  exact this
def Ret2 (r : Int × Int) (w : World) (e : Ending) (w' : World) : Prop := e = .returned (.tuple #[.int .i64 r.1, .int .i64 r.2]) ∧ Below w.heap.size w w'
theorem ret2_of {r : Int × Int} {w w' : World} {e : Ending} {a b : Int} (h : (a, b) = r) (he : e = .returned (.tuple #[.int .i64 a, .int .i64 b])) (hb : Below w.heap.size w w') : Ret2 r w e w' := by
  unfold Ret2; rw [← h]; exact ⟨he, hb⟩

set_option maxRecDepth 100000 in
set_option maxHeartbeats 400000 in
theorem rcheck_any (s : ByteArray) (hs : s.size ≤ 4611686018427387904) (w : World) :
    Calls Try.prog 47 #[.string s] w (Ret2 (ck s) w) := by
  obtain ⟨R, hR⟩ : ∃ R, Hid (R = ck s) := ⟨ck s, rfl⟩
  rw [← hR.out]
  go_enter Try.func47, Try.ntmps47
  go_wp2_with fail
  go_loopg [4] (s.size) (fun g sk wr => ∃ k f : Nat, k ≤ s.size ∧ s.size - k < f ∧ k + g = s.size ∧ sk = .int .i64 k ∧ Hid (ckf s f k = R) ∧ Below w.heap.size w wr)
  case atStart => exact ⟨0, s.size + 1, by omega, by omega, by omega, rfl, hR.out.symm, Below.refl _ _⟩
  case round =>
    obtain ⟨k, f, hk, hf, hg, rfl, hc, hb⟩ := hrel
    obtain ⟨f, rfl⟩ : ∃ g, f = g + 1 := ⟨f - 1, by omega⟩
    by_cases hlt : k < s.size
    · obtain ⟨x, n, e, hr⟩ := ex3 (rd s k)
      have t1 : decide (k < s.size) = true := decide_eq_true (by omega)
      have hc' := hc.out
      rw [ckf, if_pos hlt, hr.out] at hc'
      by_cases he : e = 0
      · have hn := rd_ok s k x n e hr.out he
        subst he
        rw [if_pos rfl] at hc'
        replace hc' := Lib.hid hc'
        go_wp2_with fail
        refine (rread_to s hs k x n 0 hr.out _).mono ?_; rintro e w1 ⟨rfl, hb1⟩
        replace hb := on_trans hb hb1
        go_wp2_with fail
        go_roundg (gk - n.toNat)
        case measure => omega
        case rel => exact ⟨k + n.toNat, f, by omega, by omega, by omega, by go_num, hc'.out, hb⟩
      · rw [if_neg he] at hc'
        replace hc' := Lib.hid hc'
        have t2 : (e != 0) = true := by simpa using he
        go_wp2_with fail
        refine (rread_to s hs k x n e hr.out _).mono ?_; rintro e w1 ⟨rfl, hb1⟩
        replace hb := on_trans hb hb1
        go_wp2_with fail
        go_ret2
        exact ret2_of hc'.out rfl hb
    · obtain rfl : k = s.size := by omega
      have hc' := hc.out
      rw [ckf, if_neg hlt] at hc'
      replace hc' := Lib.hid hc'
      go_wp2_with fail
      go_ret2
      exact ret2_of hc'.out rfl hb
theorem rcheck_to (s : ByteArray) (hs : s.size ≤ 4611686018427387904) (k e : Int) (h : ck s = (k, e)) (w : World) :
    Calls Try.prog 47 #[.string s] w fun e' w' => e' = .returned (.tuple #[.int .i64 k, .int .i64 e]) ∧ Below w.heap.size w w' := by
  have := rcheck_any s hs w
  unfold Ret2 at this
  rw [h] at this
  exact this

theorem valid_parts (s : ByteArray) (k : Int) (h : ck s = (k, 0)) : ∃ L, (∀ x ∈ L, isPt x) ∧ s.data.toList = frms L := by
  obtain ⟨L, t, a, b, c⟩ := parts' s.data.toList
  have := ck_parts s L t a b c
  rw [h] at this
  refine ⟨L, a, ?_⟩
  by_cases ht : t = []
  · rw [b, ht, List.append_nil]
  · rw [if_neg ht] at this
    exact absurd (Prod.mk.inj this).2.symm c
theorem ptR_of (s : ByteArray) (L : List Int) (hL : ∀ x ∈ L, isPt x) (hs : s.data.toList = frms L) (hz : s.size ≤ 1048576) : ptR s = L ∧ rgt s = 0 := by
  have h1 := ck_parts s L [] hL (by rw [hs, List.append_nil]) (by decide)
  have h0 : rgt s = 0 := by unfold rgt; rw [if_neg (by omega), h1]; rfl
  refine ⟨?_, h0⟩
  unfold ptR
  rw [if_pos h0, pts_parts s L [] hL (by rw [hs, List.append_nil]) (by decide), offs_snd]
theorem frms_split (s : ByteArray) (M N : List Int) (x : Int) (hs : s.data.toList = frms (M ++ x :: N)) (hx : isPt x) : rd s ((frms M).length : Nat) = (x, ((frm x).length : Int), 0) ∧ (frms M).length + (frm x).length ≤ s.size := by
  rw [frms_app, frms_cons] at hs
  refine ⟨by rw [rd_at s (frms M) _ hs, dec_frm x hx], ?_⟩
  rw [size_list s, hs]; simp
theorem frms_done (s : ByteArray) (M : List Int) (hs : s.data.toList = frms (M ++ [])) : (frms M).length = s.size := by
  rw [size_list s, hs, List.append_nil]
theorem frms_le : ∀ (L : List Int), L.length ≤ (frms L).length
  | [] => by simp
  | x :: L => by have := frms_le L; have := frm_pos x; rw [frms_cons, List.length_append, List.length_cons]; omega

set_option maxRecDepth 100000 in
set_option maxHeartbeats 1000000 in
theorem rpoints_any (s : ByteArray) (hs : s.size ≤ 4611686018427387904) (w : World) :
    Calls Try.prog 48 #[.string s] w (PtsRet s w) := by
  by_cases hz : 1048576 < s.size
  · have t1 : decide ((1048576 : Int) < s.size) = true := decide_eq_true (by omega)
    have hr : Hid (rgt s = 3) := by show _ = _; unfold rgt; rw [if_pos hz]
    go_enter Try.func48, Try.ntmps48
    go_wp2_with fail
    go_ret2
    exact ⟨⟨.slice none 0 0, by rw [hr.out]; rfl, .inl ⟨none, 0, fun _ => rfl, rfl, by rw [ptR, if_neg (by rw [hr.out]; decide)]; rfl⟩⟩, Below.refl _ _⟩
  · have t1 : decide ((1048576 : Int) < s.size) = false := decide_eq_false (by omega)
    obtain ⟨k, e0, hck⟩ := ex2 (ck s)
    have hr : Hid (rgt s = e0) := by show _ = _; unfold rgt; rw [if_neg hz, hck.out]
    by_cases he : e0 = 0
    · subst he
      obtain ⟨L, hL, hsL⟩ := valid_parts s k hck.out
      obtain ⟨hpt, _⟩ := ptR_of s L hL hsL (by omega)
      have hpt := Lib.hid hpt
      have hL := Lib.hid hL
      have hsL := Lib.hid hsL
      have hLn : L.length ≤ 1048576 := by have := frms_le L; have := size_list s; rw [hsL.out] at this; omega
      have hcall := Lib.hid (fun W => rcheck_to s hs k 0 hck.out W)
      go_enter Try.func48, Try.ntmps48
      go_wp2_with fail
      refine (hcall.out _).mono ?_; rintro e w1 ⟨rfl, hb1⟩
      go_wp2_with fail
      go_loopg [6, 7] (s.size) (fun g s6 s7 wr => ∃ M N : List Int, Hid (L = M ++ N) ∧ (frms M).length + g = s.size ∧ s7 = .int .i64 (frms M).length ∧ Hid (wr.ownsRow w.heap.size 3 1 s6 M.length (M.map (Value.int .i64))) ∧ Below w.heap.size w wr)
      case atStart => exact ⟨[], L, rfl, by simp [frms], rfl, World.ownsRow_nil w1 _ 3 1, hb1⟩
      case round =>
        obtain ⟨M, N, hMN, hg, rfl, hown, hb⟩ := hrel
        have hML : M.length ≤ 1048576 := by have := hMN.out; rw [this] at hLn; simp at hLn; omega
        cases N with
        | nil =>
          have hd : Hid ((frms M).length = s.size) := frms_done s M (by rw [← hMN.out]; exact hsL.out)
          have t2 : decide ((frms M).length < s.size) = false := decide_eq_false (by have := hd.out; omega)
          go_wp2_with fail
          go_ret2
          refine ⟨⟨_, by rw [hr.out]; rfl, ?_⟩, hb⟩
          have := hMN.out
          rw [List.append_nil] at this
          rw [hpt.out, this]
          exact Row.of_owned hown.out
        | cons x N =>
          have hx : isPt x := hL.out x (by rw [hMN.out]; simp)
          obtain ⟨hrd, hle⟩ := frms_split s M N x (by rw [← hMN.out]; exact hsL.out) hx
          have hcall2 := Lib.hid (fun W => rread_to s hs _ _ _ _ hrd W)
          have hfp := frm_pos x
          clear hrd hx
          have t2 : decide ((frms M).length < s.size) = true := decide_eq_true (by omega)
          go_wp2_with fail
          refine (hcall2.out _).mono ?_; rintro e w2 ⟨rfl, hb2⟩
          have hown2 := Lib.hid (owns_on hown.out hb2)
          replace hb := on_trans hb hb2
          go_wp2_with (at_builtin; go_must (refine app_one rfl (.tmp 33) (.tmp 35) 34 rfl (u := .int .i64 x) w.heap.size (.int .i64 0) 8 Try.underlying34 info3 rfl _ M.length _ rfl rfl hown2.out rfl (by omega) (by omega) hb.size ?_); rintro v2 w3 hown3' hb3 hs3 _ hv3; have hown3 := Lib.hid hown3'; clear hown3')
          go_roundg (s.size - ((frms M).length + (frm x).length))
          case measure => omega
          case rel =>
            refine ⟨M ++ [x], N, by show L = _; rw [hMN.out]; simp, ?_, ?_, by rw [List.length_append, List.map_append]; exact hown3.out, hb.trans hb3⟩
            · rw [frms_snoc, List.length_append]; omega
            · rw [frms_snoc, List.length_append]; go_num
    · have t2 : (e0 != 0) = true := by simpa using he
      have hcall := Lib.hid (fun W => rcheck_to s hs k e0 hck.out W)
      replace he := Lib.hid he
      go_enter Try.func48, Try.ntmps48
      go_wp2_with fail
      refine (hcall.out _).mono ?_; rintro e w1 ⟨rfl, hb1⟩
      go_wp2_with fail
      go_ret2
      exact ⟨⟨.slice none 0 0, by rw [hr.out]; rfl, .inl ⟨none, 0, fun _ => rfl, rfl, by rw [ptR, if_neg (by rw [hr.out]; exact he.out)]; rfl⟩⟩, hb1⟩

theorem extract_0 (s : ByteArray) : s.extract 0 s.size = s := by simp
theorem ctR_of (s : ByteArray) (L : List Int) (hL : ∀ x ∈ L, isPt x) (hs : s.data.toList = frms L) (hz : s.size ≤ 1048576) (n : Int) (hn : 0 ≤ n) : ctR s n = (s.extract 0 (cutk n L 0), 0) := by
  obtain ⟨_, h0⟩ := ptR_of s L hL hs hz
  have hz2 := size_list s
  rw [hs] at hz2
  unfold ctR
  rw [if_neg (by omega), if_neg (by omega), if_neg (by omega)]
  split
  · rename_i c
    rw [cutk_all n L 0 (by omega), Nat.zero_add, ← hz2, extract_0]
  · rename_i c
    rw [cutE_cutk s L hL hs n hn (by omega)]; rfl
theorem cutk_le (n : Int) : ∀ (L : List Int) (k : Nat), k ≤ cutk n L k ∧ cutk n L k ≤ k + (frms L).length := by
  intro L
  induction L with
  | nil => intro k; simp [cutk, frms]
  | cons x L ih =>
    intro k
    rw [cutk, frms_cons, List.length_append]
    split
    · have := ih (k + (frm x).length); omega
    · omega

set_option maxRecDepth 100000 in
set_option maxHeartbeats 1000000 in
theorem rcut_any (s : ByteArray) (hs : s.size ≤ 4611686018427387904) (n : Int) (w : World) :
    Calls Try.prog 49 #[.string s, .int .i64 n] w (CutRet s n w) := by
  by_cases hz : 1048576 < s.size
  · have t1 : decide ((1048576 : Int) < s.size) = true := decide_eq_true (by omega)
    have hr : Hid (ctR s n = (⟨#[]⟩, 3)) := by show _ = _; unfold ctR; rw [if_pos hz]
    go_enter Try.func49, Try.ntmps49
    go_wp2_with fail
    go_ret2
    exact cutRet_of hr.out rfl (Below.refl _ _)
  · have t1 : decide ((1048576 : Int) < s.size) = false := decide_eq_false (by omega)
    by_cases hn : n < 0
    · have t2 : decide (n < 0) = true := decide_eq_true hn
      have hr : Hid (ctR s n = (⟨#[]⟩, 2)) := by show _ = _; unfold ctR; rw [if_neg hz, if_pos hn]
      go_enter Try.func49, Try.ntmps49
      go_wp2_with fail
      go_ret2
      exact cutRet_of hr.out rfl (Below.refl _ _)
    · have t2 : decide (n < 0) = false := decide_eq_false hn
      obtain ⟨k, e0, hck⟩ := ex2 (ck s)
      have hr : Hid (rgt s = e0) := by show _ = _; unfold rgt; rw [if_neg hz, hck.out]
      by_cases he : e0 = 0
      · subst he
        obtain ⟨L, hL, hsL⟩ := valid_parts s k hck.out
        have hfin := ctR_of s L hL hsL (by omega) n (by omega)
        obtain ⟨F, hF⟩ : ∃ F, Hid (cutk n L 0 = F) := ⟨cutk n L 0, rfl⟩
        have hFs : F ≤ s.size := by have := (cutk_le n L 0).2; have h2 := size_list s; rw [hsL] at h2; have := hF.out; omega
        have hfin : Hid (ctR s n = (s.extract 0 F, 0)) := by show _ = _; rw [hfin, hF.out]
        have hL := Lib.hid hL
        have hsL := Lib.hid hsL
        have hcall := Lib.hid (fun W => rcheck_to s hs k 0 hck.out W)
        go_enter Try.func49, Try.ntmps49
        go_wp2_with fail
        refine (hcall.out _).mono ?_; rintro e w1 ⟨rfl, hb1⟩
        go_wp2_with fail
        go_loopg [8, 9] (s.size) (fun g s8 s9 wr => ∃ (M N : List Int) (E : Nat), Hid (L = M ++ N) ∧ (frms M).length + g = s.size ∧ s9 = .int .i64 (frms M).length ∧ s8 = .int .i64 E ∧ Hid (endk n N (frms M).length E = F) ∧ Below w.heap.size w wr)
        case atStart => exact ⟨[], L, 0, rfl, by simp [frms], rfl, rfl, by show endk n L 0 0 = F; rw [endk_cutk]; exact hF.out, hb1⟩
        case round =>
          obtain ⟨M, N, E, hMN, hg, rfl, rfl, hend, hb⟩ := hrel
          cases N with
          | nil =>
            have hd : Hid ((frms M).length = s.size) := frms_done s M (by rw [← hMN.out]; exact hsL.out)
            have t2 : decide ((frms M).length < s.size) = false := decide_eq_false (by have := hd.out; omega)
            have hE : E = F := hend.out
            subst hE
            go_wp2_with fail
            go_ret2
            exact cutRet_of hfin.out rfl hb
          | cons x N =>
            have hx : isPt x := hL.out x (by rw [hMN.out]; simp)
            obtain ⟨hrd, hle⟩ := frms_split s M N x (by rw [← hMN.out]; exact hsL.out) hx
            have hcall2 := Lib.hid (fun W => rread_to s hs _ _ _ _ hrd W)
            have hfp := frm_pos x
            clear hrd hx
            have t2 : decide ((frms M).length < s.size) = true := decide_eq_true (by omega)
            have hend' := hend.out
            rw [endk] at hend'
            by_cases hc : (((frms M).length + (frm x).length : Nat) : Int) ≤ n
            · rw [if_pos hc] at hend'
              replace hend' := Lib.hid hend'
              have t3 : decide (((frms M).length : Int) + ((frm x).length : Int) ≤ n) = true := decide_eq_true (by omega)
              go_wp2_with fail
              refine (hcall2.out _).mono ?_; rintro e w2 ⟨rfl, hb2⟩
              replace hb := on_trans hb hb2
              go_wp2_with fail
              go_roundg (s.size - ((frms M).length + (frm x).length))
              case measure => omega
              case rel =>
                refine ⟨M ++ [x], N, (frms M).length + (frm x).length, by show L = _; rw [hMN.out]; simp, ?_, ?_, by go_num, ?_, hb⟩
                · rw [frms_snoc, List.length_append]; omega
                · rw [frms_snoc, List.length_append]; go_num
                · rw [frms_snoc, List.length_append]; exact hend'.out
            · rw [if_neg hc] at hend'
              replace hend' := Lib.hid hend'
              have t3 : decide (((frms M).length : Int) + ((frm x).length : Int) ≤ n) = false := decide_eq_false (by omega)
              go_wp2_with fail
              refine (hcall2.out _).mono ?_; rintro e w2 ⟨rfl, hb2⟩
              replace hb := on_trans hb hb2
              go_wp2_with fail
              go_roundg (s.size - ((frms M).length + (frm x).length))
              case measure => omega
              case rel =>
                refine ⟨M ++ [x], N, E, by show L = _; rw [hMN.out]; simp, ?_, ?_, rfl, ?_, hb⟩
                · rw [frms_snoc, List.length_append]; omega
                · rw [frms_snoc, List.length_append]; go_num
                · rw [frms_snoc, List.length_append]; exact hend'.out
      · have t3 : (e0 != 0) = true := by simpa using he
        have hcall := Lib.hid (fun W => rcheck_to s hs k e0 hck.out W)
        have hfin : Hid (ctR s n = (⟨#[]⟩, e0)) := by
          show _ = _; unfold ctR; rw [if_neg hz, if_neg hn, hr.out, if_pos he]
        replace he := Lib.hid he
        go_enter Try.func49, Try.ntmps49
        go_wp2_with fail
        refine (hcall.out _).mono ?_; rintro e w1 ⟨rfl, hb1⟩
        go_wp2_with fail
        go_ret2
        exact cutRet_of hfin.out rfl hb1
end Go.Proofs.Ytkabkkgaalimmaa
