/- The walk of the law LineOf. -/
import Derived.Test.YtiapkindbbbdpaaDoorP4
import Derived.Test.YtiapkindbbbdpaaDoorRS
import Derived.Test.YtiapkindbbbdpaaDoorK18
namespace Go.Proofs.YtiapkindbbbdpaaDoor
open Go.RowKit
set_option linter.unusedSimpArgs false
set_option linter.unusedVariables false

theorem fa31_0 (N : Nat) (w : World) : (Instr.fieldAt 31 (.pointer (some ⟨N, 0, none⟩)) 0).run Tryd.prog w = .ok (.pointer (some ⟨N, 0, none⟩)) w := by kernel_rfl
theorem fa31_1 (N : Nat) (w : World) : (Instr.fieldAt 31 (.pointer (some ⟨N, 0, none⟩)) 1).run Tryd.prog w = .ok (.pointer (some ⟨N, 1, none⟩)) w := by kernel_rfl
theorem bare_vld (s : ByteArray) (h : bareF s = true) : vld s = true := by
  unfold bareF at h
  rw [Bool.and_eq_true, Bool.and_eq_true] at h
  exact h.1.2
theorem right_of (s : ByteArray) (hs : s.size ≤ 500) : rightF s (!bareF s) = vld s := by
  cases h : bareF s with
  | true => exact (show bareF s = vld s from h.trans (bare_vld s h).symm)
  | false =>
    show rightF s true = _
    unfold rightF
    rw [if_pos rfl, decide_eq_true (by omega)]
    rfl
theorem quL_ge (l : List UInt8) : l.length ≤ (quL l).length := by
  induction l with
  | nil => exact Nat.le_refl _
  | cons c r ih =>
    rw [quL_cons, List.length_append, List.length_cons]
    have : 1 ≤ (encq c).length := by unfold encq; (repeat' split) <;> simp
    omega
theorem row_one (s : ByteArray) (l : List UInt8) (q : Bool) (hs : s = ⟨l.toArray⟩) (W : World) : WRow (W.alloc (.cells #[.string s, .bool q] 31)) (.slice (some ⟨W.heap.size, 0, none⟩) 1 1) [(l, q)] := by
  have := wrow_lit W [(l, q)] 1 rfl (by omega)
  rw [hs]
  exact this
theorem joinF_one (p : Wd) (h : rightW p = true) (hl : (formW p).length ≤ 65536) : joinF [p] = (0, formW p) := by
  unfold joinF
  rw [if_neg (by simp [h]), if_neg (by simp)]
  have e : Lib.join ([p].map formW) [32] = formW p := Lib.join_one _ _
  rw [e, if_neg (by omega)]
theorem joinF_bad (p : Wd) (h : rightW p = false) : joinF [p] = (250, []) := by
  unfold joinF
  rw [if_pos (by simp [h])]
set_option maxRecDepth 100000 in
set_option maxHeartbeats 4000000 in
theorem of_yes (s : ByteArray) (hs : s.size ≤ 500) (hb : Hid (bareF s = true)) (hV : Hid (vld s = true)) (w : World) (hG : Glb w) : Calls Tryd.prog 6 #[.string s] w fun e w' => e = .returned (.bool true) ∧ Below w.heap.size w w' := by
  replace hG := Lib.hid hG
  have t1 : decide (500 < (s.size : Int)) = false := decide_eq_false (by omega)
  have hr : Hid (rightF s false = true) := by
    have h := right_of s hs
    rw [hb.out, hV.out] at h
    exact Lib.hid h
  have hs9 : s.size ≤ 4611686018427387904 := by omega
  obtain ⟨l, hl⟩ : ∃ l, Hid (s = ⟨l.toArray⟩) := ⟨s.data.toList, Lib.hid (ba_ext rfl)⟩
  have hld : Hid (s.data.toList = l) := by show _ = _; rw [hl.out]
  have hll : l.length = s.size := by rw [hl.out, ba_size]
  have hrw : rightW (l, false) = true := by unfold rightW; rw [← hl.out]; exact hr.out
  have hq := quL_len l
  obtain ⟨f, hf⟩ : ∃ f, Hid (formW (l, false) = f) := ⟨_, Lib.hid rfl⟩
  have hfl : f.length ≤ 65536 := by rw [← hf.out]; show l.length ≤ _; omega
  have hJ := joinF_one (l, false) hrw (by rw [hf.out]; exact hfl)
  rw [hf.out] at hJ
  obtain ⟨T, hT⟩ : ∃ T : ByteArray, Hid (⟨f.toArray⟩ = T) := ⟨_, Lib.hid rfl⟩
  have hTd : T.data.toList = f := by rw [← hT.out]
  have hsp := splitF_join _ _ hJ
  rw [← hTd] at hsp
  have hsc := fun W => split_any T W
  rw [hsp] at hsc
  replace hsc := Lib.hid hsc
  have hTs : Hid (T = s) := by show _ = _; rw [← hT.out, ← hf.out, hl.out]; rfl
  have q1 : (T.toList == s.toList) = true := by rw [hTs.out]; simp
  replace hJ := Lib.hid hJ
  clear hsp hTd
  have hof := fun W => of_any s hs9 W
  rw [hb.out] at hof
  replace hof := Lib.hid hof
  replace hrw := Lib.hid hrw
  go_enter Tryd.func6, Tryd.ntmps6
  go_wp2_with fail
  refine (awake_any w hG.out).mono ?_; rintro y w1 ⟨rfl, hbw⟩
  have hB := Lib.hid hbw
  clear hbw hG
  go_wp2_with fail
  refine (hof.out w1).mono ?_; rintro y w2 ⟨rfl, hbw⟩
  replace hB := Lib.hid (hB.out.trans (hbw.mono hB.out.size))
  clear hbw hof t1
  go_upto_region 6 with (fail)
  show Code.wp _ _ _ _ (w2.alloc (.cells #[.string s, .bool false] 31))
  have hwd := Lib.hid (wd_new w2 s false)
  replace hB := Lib.hid (hB.out.alloc hB.out.size (.cells #[.string s, .bool false] 31))
  have hNlt : w2.heap.size < (w2.alloc (.cells #[.string s, .bool false] 31)).heap.size := by simp
  generalize w2.alloc (.cells #[.string s, .bool false] 31) = W at hwd hB hNlt ⊢
  generalize w2.heap.size = N at hwd hNlt ⊢
  have fa0 := fa31_0
  have fa1 := fa31_1
  have hc16 := Tryd.call16
  have hc17 := Tryd.call17
  have hc18 := Tryd.call18
  refine wp_region_facts (fun ix v W => match ix with | 0 => v = .pointer (some ⟨N, 0, none⟩) | 1 => v = .string s | 2 => v = .string s | 3 => v = .bool false | 4 => v = .bool false | 5 => v = .pointer (some ⟨N, 1, none⟩) | 6 => v = .bool false | 7 => v = .string s | 8 => v = .bool true | 9 => v = .bool false | 10 => v = .bool false | 11 => v = .bool false | 12 => v = .agg #[.string s, .bool false] | 13 => v = .bool true | 14 => v = .string s | 15 => v = .bool true | 16 => v = .bool false | 17 => v = .bool false | 18 => v = .bool false | 19 => v = .string s | 20 => v = .bool true | 21 => v = .bool true | 22 => v = .string s | 23 => v = .bool true | 24 => v = .bool false | 25 => v = .bool false | _ => v = .bool false)
    (by kernel_rfl) (by kernel_rfl) (by decide +kernel) (by kernel_rfl) (fun i v w w' h _ => h) ?_ ?_
  · intro ix
    rcases ix with _ | _ | _ | _ | _ | _ | _ | _ | _ | _ | _ | _ | _ | _ | _ | _ | _ | _ | _ | _ | _ | _ | _ | _ | _ | _ | _ | ix
    all_goals intro o ho a wa hba hout hsz hpre
    all_goals cases ho
    all_goals have q0 : a.tmps.getD 0 undef = .string s := (hout 0 (by decide +kernel)).trans rfl
    all_goals have q3 : a.tmps.getD 3 undef = .pointer (some ⟨N, 0, none⟩) := (hout 3 (by decide +kernel)).trans rfl
    all_goals clear hout hsz
    · exact step_faddr rfl (met_none rfl) rfl q3 (fa0 _ _) ⟨_, rfl, Below.refl _ _, rfl⟩
    · have p14 : a.tmps.getD 14 undef = .pointer (some ⟨N, 0, none⟩) := hpre ⟨0, .data⟩ (by simp) rfl _ rfl
      obtain ⟨⟨y0, y1⟩, _⟩ := (hwd.out.block hba).cells
      exact step_load rfl (met_none rfl) rfl p14 (by simp [go_sem, y0]) ⟨_, rfl, Below.refl _ _, rfl⟩
    · exact step_move rfl (met_none rfl) (.inl rfl) ⟨_, rfl, Below.refl _ _, q0⟩
    · have p15 : a.tmps.getD 15 undef = .string s := hpre ⟨1, .data⟩ (by simp) rfl _ rfl
      have p16 : a.tmps.getD 16 undef = .string s := hpre ⟨2, .data⟩ (by simp) rfl _ rfl
      exact step_bin rfl (met_none rfl) rfl p15 p16 (r := .bool false) (w' := wa) (by simp [go_sem]) ⟨_, rfl, Below.refl _ _, rfl⟩
    · have p17 : a.tmps.getD 17 undef = .bool false := hpre ⟨3, .data⟩ (by simp) rfl _ rfl
      exact step_move rfl (met_none rfl) (.inl rfl) ⟨_, rfl, Below.refl _ _, p17⟩
    · have p18 : a.tmps.getD 18 undef = .bool false := hpre ⟨4, .guard⟩ (by simp) rfl _ rfl
      exact step_faddr rfl (met_some rfl rfl rfl p18) rfl q3 (fa1 _ _) ⟨_, rfl, Below.refl _ _, rfl⟩
    · have p18 : a.tmps.getD 18 undef = .bool false := hpre ⟨4, .guard⟩ (by simp) rfl _ rfl
      have p19 : a.tmps.getD 19 undef = .pointer (some ⟨N, 1, none⟩) := hpre ⟨5, .data⟩ (by simp) rfl _ rfl
      obtain ⟨⟨y0, y1⟩, _⟩ := (hwd.out.block hba).cells
      exact step_load rfl (met_some rfl rfl rfl p18) rfl p19 (by simp [go_sem, y1]) ⟨_, rfl, Below.refl _ _, rfl⟩
    · have p18 : a.tmps.getD 18 undef = .bool false := hpre ⟨4, .guard⟩ (by simp) rfl _ rfl
      exact step_move rfl (met_some rfl rfl rfl p18) (.inl rfl) ⟨_, rfl, Below.refl _ _, q0⟩
    · have p18 : a.tmps.getD 18 undef = .bool false := hpre ⟨4, .chain⟩ (by simp) rfl _ rfl
      have p21 : a.tmps.getD 21 undef = .string s := hpre ⟨7, .data⟩ (by simp) rfl _ rfl
      refine step_call rfl (met_some rfl rfl rfl p18) _ (args1 p21) (hc16 _ _) ((bare_to s hs9 true hb.out wa).mono ?_)
      rintro e w' ⟨rfl, rfl⟩
      exact ⟨_, rfl, _, rfl, Below.refl _ _, rfl⟩
    · have p18 : a.tmps.getD 18 undef = .bool false := hpre ⟨4, .guard⟩ (by simp) rfl _ rfl
      have p20 : a.tmps.getD 20 undef = .bool false := hpre ⟨6, .data⟩ (by simp) rfl _ rfl
      have p22 : a.tmps.getD 22 undef = .bool true := hpre ⟨8, .data⟩ (by simp) rfl _ rfl
      exact step_bin rfl (met_some rfl rfl rfl p18) rfl p20 p22 (r := .bool false) (w' := wa) (by simp [go_sem]) ⟨_, rfl, Below.refl _ _, rfl⟩
    · have p18 : a.tmps.getD 18 undef = .bool false := hpre ⟨4, .data⟩ (by simp) rfl _ rfl
      have p23 : a.tmps.getD 23 undef = .bool false := hpre ⟨9, .data⟩ (by simp) rfl _ rfl
      exact step_pick rfl (met_none rfl) rfl p18 ⟨_, rfl, Below.refl _ _, p23⟩
    · have p24 : a.tmps.getD 24 undef = .bool false := hpre ⟨10, .data⟩ (by simp) rfl _ rfl
      exact step_move rfl (met_none rfl) (.inl rfl) ⟨_, rfl, Below.refl _ _, p24⟩
    · have p25 : a.tmps.getD 25 undef = .bool false := hpre ⟨11, .guard⟩ (by simp) rfl _ rfl
      obtain ⟨⟨y0, y1⟩, _⟩ := (hwd.out.block hba).cells
      exact step_load rfl (met_some rfl rfl rfl p25) rfl q3 (by simp [go_sem, y0, y1]) ⟨_, rfl, Below.refl _ _, rfl⟩
    · have p25 : a.tmps.getD 25 undef = .bool false := hpre ⟨11, .chain⟩ (by simp) rfl _ rfl
      have p26 : a.tmps.getD 26 undef = .agg #[.string s, .bool false] := hpre ⟨12, .data⟩ (by simp) rfl _ rfl
      refine step_call rfl (met_some rfl rfl rfl p25) _ (args1 p26) (hc17 _ _) ((right_to s false hs9 true hr.out wa).mono ?_)
      rintro e w' ⟨rfl, hb⟩
      exact ⟨_, rfl, _, rfl, hb, rfl⟩
    · have p25 : a.tmps.getD 25 undef = .bool false := hpre ⟨11, .guard⟩ (by simp) rfl _ rfl
      exact step_move rfl (met_some rfl rfl rfl p25) (.inl rfl) ⟨_, rfl, Below.refl _ _, q0⟩
    · have p25 : a.tmps.getD 25 undef = .bool false := hpre ⟨11, .guard⟩ (by simp) rfl _ rfl
      have p28 : a.tmps.getD 28 undef = .string s := hpre ⟨14, .data⟩ (by simp) rfl _ rfl
      refine step_call rfl (met_some rfl rfl rfl p25) _ (args1 p28) (hc18 _ _) ((valid_to s hs9 true hV.out wa).mono ?_)
      rintro e w' ⟨rfl, rfl⟩
      exact ⟨_, rfl, _, rfl, Below.refl _ _, rfl⟩
    · have p25 : a.tmps.getD 25 undef = .bool false := hpre ⟨11, .guard⟩ (by simp) rfl _ rfl
      have p27 : a.tmps.getD 27 undef = .bool true := hpre ⟨13, .data⟩ (by simp) rfl _ rfl
      have p29 : a.tmps.getD 29 undef = .bool true := hpre ⟨15, .data⟩ (by simp) rfl _ rfl
      exact step_bin rfl (met_some rfl rfl rfl p25) rfl p27 p29 (r := .bool false) (w' := wa) (by simp [go_sem]) ⟨_, rfl, Below.refl _ _, rfl⟩
    · have p25 : a.tmps.getD 25 undef = .bool false := hpre ⟨11, .data⟩ (by simp) rfl _ rfl
      have p30 : a.tmps.getD 30 undef = .bool false := hpre ⟨16, .data⟩ (by simp) rfl _ rfl
      exact step_pick rfl (met_none rfl) rfl p25 ⟨_, rfl, Below.refl _ _, p30⟩
    · have p31 : a.tmps.getD 31 undef = .bool false := hpre ⟨17, .data⟩ (by simp) rfl _ rfl
      exact step_move rfl (met_none rfl) (.inl rfl) ⟨_, rfl, Below.refl _ _, p31⟩
    · have p32 : a.tmps.getD 32 undef = .bool false := hpre ⟨18, .guard⟩ (by simp) rfl _ rfl
      exact step_move rfl (met_some rfl rfl rfl p32) (.inl rfl) ⟨_, rfl, Below.refl _ _, q0⟩
    · have p32 : a.tmps.getD 32 undef = .bool false := hpre ⟨18, .chain⟩ (by simp) rfl _ rfl
      have p33 : a.tmps.getD 33 undef = .string s := hpre ⟨19, .data⟩ (by simp) rfl _ rfl
      refine step_call rfl (met_some rfl rfl rfl p32) _ (args1 p33) (hc16 _ _) ((bare_to s hs9 true hb.out wa).mono ?_)
      rintro e w' ⟨rfl, rfl⟩
      exact ⟨_, rfl, _, rfl, Below.refl _ _, rfl⟩
    · have p32 : a.tmps.getD 32 undef = .bool false := hpre ⟨18, .guard⟩ (by simp) rfl _ rfl
      have p34 : a.tmps.getD 34 undef = .bool true := hpre ⟨20, .data⟩ (by simp) rfl _ rfl
      exact step_move rfl (met_some rfl rfl rfl p32) (.inl rfl) ⟨_, rfl, Below.refl _ _, p34⟩
    · have p35 : a.tmps.getD 35 undef = .bool true := hpre ⟨21, .guard⟩ (by simp) rfl _ rfl
      exact step_move rfl (met_some rfl rfl rfl p35) (.inl rfl) ⟨_, rfl, Below.refl _ _, q0⟩
    · have p35 : a.tmps.getD 35 undef = .bool true := hpre ⟨21, .chain⟩ (by simp) rfl _ rfl
      have p36 : a.tmps.getD 36 undef = .string s := hpre ⟨22, .data⟩ (by simp) rfl _ rfl
      refine step_call rfl (met_some rfl rfl rfl p35) _ (args1 p36) (hc18 _ _) ((valid_to s hs9 true hV.out wa).mono ?_)
      rintro e w' ⟨rfl, rfl⟩
      exact ⟨_, rfl, _, rfl, Below.refl _ _, rfl⟩
    · have p35 : a.tmps.getD 35 undef = .bool true := hpre ⟨21, .guard⟩ (by simp) rfl _ rfl
      have p37 : a.tmps.getD 37 undef = .bool true := hpre ⟨23, .data⟩ (by simp) rfl _ rfl
      exact step_not rfl (met_some rfl rfl rfl p35) rfl p37 ⟨_, rfl, Below.refl _ _, rfl⟩
    · have p32 : a.tmps.getD 32 undef = .bool false := hpre ⟨18, .guard⟩ (by simp) rfl _ rfl
      have p35 : a.tmps.getD 35 undef = .bool true := hpre ⟨21, .data⟩ (by simp) rfl _ rfl
      have p38 : a.tmps.getD 38 undef = .bool false := hpre ⟨24, .data⟩ (by simp) rfl _ rfl
      exact step_pick rfl (met_some rfl rfl rfl p32) rfl p35 ⟨_, rfl, Below.refl _ _, p38⟩
    · have p32 : a.tmps.getD 32 undef = .bool false := hpre ⟨18, .data⟩ (by simp) rfl _ rfl
      have p39 : a.tmps.getD 39 undef = .bool false := hpre ⟨25, .data⟩ (by simp) rfl _ rfl
      exact step_pick rfl (met_none rfl) rfl p32 ⟨_, rfl, Below.refl _ _, p39⟩
  · intro a wa hba hF ha
    have f0 : a.tmps.getD 14 undef = .pointer (some ⟨N, 0, none⟩) := hF 0 _ rfl
    have f1 : a.tmps.getD 15 undef = .string s := hF 1 _ rfl
    have f2 : a.tmps.getD 16 undef = .string s := hF 2 _ rfl
    have f3 : a.tmps.getD 17 undef = .bool false := hF 3 _ rfl
    have f4 : a.tmps.getD 18 undef = .bool false := hF 4 _ rfl
    have f5 : a.tmps.getD 19 undef = .pointer (some ⟨N, 1, none⟩) := hF 5 _ rfl
    have f6 : a.tmps.getD 20 undef = .bool false := hF 6 _ rfl
    have f7 : a.tmps.getD 21 undef = .string s := hF 7 _ rfl
    have f8 : a.tmps.getD 22 undef = .bool true := hF 8 _ rfl
    have f9 : a.tmps.getD 23 undef = .bool false := hF 9 _ rfl
    have f10 : a.tmps.getD 24 undef = .bool false := hF 10 _ rfl
    have f11 : a.tmps.getD 25 undef = .bool false := hF 11 _ rfl
    have f12 : a.tmps.getD 26 undef = .agg #[.string s, .bool false] := hF 12 _ rfl
    have f13 : a.tmps.getD 27 undef = .bool true := hF 13 _ rfl
    have f14 : a.tmps.getD 28 undef = .string s := hF 14 _ rfl
    have f15 : a.tmps.getD 29 undef = .bool true := hF 15 _ rfl
    have f16 : a.tmps.getD 30 undef = .bool false := hF 16 _ rfl
    have f17 : a.tmps.getD 31 undef = .bool false := hF 17 _ rfl
    have f18 : a.tmps.getD 32 undef = .bool false := hF 18 _ rfl
    have f19 : a.tmps.getD 33 undef = .string s := hF 19 _ rfl
    have f20 : a.tmps.getD 34 undef = .bool true := hF 20 _ rfl
    have f21 : a.tmps.getD 35 undef = .bool true := hF 21 _ rfl
    have f22 : a.tmps.getD 36 undef = .string s := hF 22 _ rfl
    have f23 : a.tmps.getD 37 undef = .bool true := hF 23 _ rfl
    have f24 : a.tmps.getD 38 undef = .bool false := hF 24 _ rfl
    have f25 : a.tmps.getD 39 undef = .bool false := hF 25 _ rfl
    have f26 : a.tmps.getD 40 undef = .bool false := hF 26 _ rfl
    clear hF
    simp only [List.foldl, fillFrom, f0, f1, f2, f3, f4, f5, f6, f7, f8, f9, f10, f11, f12, f13, f14, f15, f16, f17, f18, f19, f20, f21, f22, f23, f24, f25, f26] at ha
    clear f0 f1 f2 f3 f4 f5 f6 f7 f8 f9 f10 f11 f12 f13 f14 f15 f16 f17 f18 f19 f20 f21 f22 f23 f24 f25 f26
    subst ha
    simp only [Act.put, List.setIfInBounds_toArray, List.set_cons_succ, List.set_cons_zero]
    replace hwd := Lib.hid (hwd.out.block hba)
    replace hB := Lib.hid (hB.out.trans (hba.mono hB.out.size))
    clear hba fa0 fa1 hc16 hc17 hc18 hNlt hr
    obtain ⟨⟨x0, x1⟩, _⟩ := hwd.out.cells
    have hrow := row_one s l false hl.out wa
    have hjc := Lib.hid (join_any _ [(l, false)] (by simp) 0 f (by intro p hp; simp at hp; subst hp; simp only; omega) hJ.out _ hrow)
    have hal := Lib.hid ((Below.refl wa.heap.size wa).alloc (Nat.le_refl _) (.cells #[.string s, .bool false] 31))
    clear hrow
    go_wp2_with fail
    refine hjc.out.mono ?_; rintro y w3 ⟨rfl, hbw⟩
    have hb3 := hal.out.trans (hbw.mono hal.out.size)
    replace hwd := Lib.hid (hwd.out.block hb3)
    replace hB := Lib.hid (hB.out.trans (hb3.mono hB.out.size))
    clear hb3 hbw hjc hal x0 x1
    rw [hT.out]
    go_wp2_with fail
    refine (hsc.out w3).mono ?_; rintro y w4 ⟨⟨v4, rfl, hv4⟩, hbw⟩
    have hV4 := Lib.hid (WRow.of_owned hv4)
    obtain ⟨a4, c4, rfl⟩ := own_shape hv4
    replace hwd := Lib.hid (hwd.out.block hbw)
    replace hB := Lib.hid (hB.out.trans (hbw.mono hB.out.size))
    clear hbw hsc hv4
    obtain ⟨⟨x0, x1⟩, _⟩ := hwd.out.cells
    have hrow := row_one s l false hl.out w4
    have hal := Lib.hid ((Below.refl w4.heap.size w4).alloc (Nat.le_refl _) (.cells #[.string s, .bool false] 31))
    have hsm := same_any _ _ _ _ _ (hV4.out.on hal.out) hrow
    rw [decide_eq_true rfl] at hsm
    replace hsm := Lib.hid hsm
    clear hrow
    go_wp2_with fail
    refine hsm.out.mono ?_; rintro y w5 ⟨rfl, hbw⟩
    have hb3 := hal.out.trans (hbw.mono hal.out.size)
    replace hB := Lib.hid (hB.out.trans (hb3.mono hB.out.size))
    clear hb3 hbw hsm hal x0 x1 hwd hV4
    go_wp2_with fail
    refine (bare_to s hs9 true hb.out w5).mono ?_; rintro y w6 ⟨rfl, rfl⟩
    go_wp2_with fail
    go_ret
    exact ⟨rfl, hB.out⟩
set_option maxRecDepth 100000 in
set_option maxHeartbeats 4000000 in
theorem of_quoted (s : ByteArray) (hs : s.size ≤ 500) (hb : Hid (bareF s = false)) (hV : Hid (vld s = true)) (w : World) (hG : Glb w) : Calls Tryd.prog 6 #[.string s] w fun e w' => e = .returned (.bool true) ∧ Below w.heap.size w w' := by
  replace hG := Lib.hid hG
  have t1 : decide (500 < (s.size : Int)) = false := decide_eq_false (by omega)
  have hr : Hid (rightF s true = true) := by
    have h := right_of s hs
    rw [hb.out, hV.out] at h
    exact Lib.hid h
  have hs9 : s.size ≤ 4611686018427387904 := by omega
  obtain ⟨l, hl⟩ : ∃ l, Hid (s = ⟨l.toArray⟩) := ⟨s.data.toList, Lib.hid (ba_ext rfl)⟩
  have hld : Hid (s.data.toList = l) := by show _ = _; rw [hl.out]
  have hll : l.length = s.size := by rw [hl.out, ba_size]
  have hrw : rightW (l, true) = true := by unfold rightW; rw [← hl.out]; exact hr.out
  have hq := quL_len l
  obtain ⟨f, hf⟩ : ∃ f, Hid (formW (l, true) = f) := ⟨_, Lib.hid rfl⟩
  have hfl : f.length ≤ 65536 := by rw [← hf.out]; show (34 :: quL l ++ [34]).length ≤ _; simp; omega
  have hJ := joinF_one (l, true) hrw (by rw [hf.out]; exact hfl)
  rw [hf.out] at hJ
  obtain ⟨T, hT⟩ : ∃ T : ByteArray, Hid (⟨f.toArray⟩ = T) := ⟨_, Lib.hid rfl⟩
  have hTd : T.data.toList = f := by rw [← hT.out]
  have hsp := splitF_join _ _ hJ
  rw [← hTd] at hsp
  have hsc := fun W => split_any T W
  rw [hsp] at hsc
  replace hsc := Lib.hid hsc
  have hTz : T.size ≠ s.size := by
    rw [← hT.out, ba_size, ← hf.out, ← hll]
    have h : l.length ≤ (quL l).length := quL_ge l
    show (34 :: quL l ++ [34]).length ≠ _
    simp; omega
  have q1 : (T.toList == s.toList) = false := by
    rw [beq_eq_false_iff_ne, ByteArray.toList_eq, ByteArray.toList_eq]
    intro h
    apply hTz
    have := congrArg List.length h
    simpa using this
  clear hTz
  replace hJ := Lib.hid hJ
  clear hsp hTd
  have hof := fun W => of_any s hs9 W
  rw [hb.out] at hof
  replace hof := Lib.hid hof
  replace hrw := Lib.hid hrw
  go_enter Tryd.func6, Tryd.ntmps6
  go_wp2_with fail
  refine (awake_any w hG.out).mono ?_; rintro y w1 ⟨rfl, hbw⟩
  have hB := Lib.hid hbw
  clear hbw hG
  go_wp2_with fail
  refine (hof.out w1).mono ?_; rintro y w2 ⟨rfl, hbw⟩
  replace hB := Lib.hid (hB.out.trans (hbw.mono hB.out.size))
  clear hbw hof t1
  go_upto_region 6 with (fail)
  show Code.wp _ _ _ _ (w2.alloc (.cells #[.string s, .bool true] 31))
  have hwd := Lib.hid (wd_new w2 s true)
  replace hB := Lib.hid (hB.out.alloc hB.out.size (.cells #[.string s, .bool true] 31))
  have hNlt : w2.heap.size < (w2.alloc (.cells #[.string s, .bool true] 31)).heap.size := by simp
  generalize w2.alloc (.cells #[.string s, .bool true] 31) = W at hwd hB hNlt ⊢
  generalize w2.heap.size = N at hwd hNlt ⊢
  have fa0 := fa31_0
  have fa1 := fa31_1
  have hc16 := Tryd.call16
  have hc17 := Tryd.call17
  have hc18 := Tryd.call18
  refine wp_region_facts (fun ix v W => match ix with | 0 => v = .pointer (some ⟨N, 0, none⟩) | 1 => v = .string s | 2 => v = .string s | 3 => v = .bool false | 4 => v = .bool false | 5 => v = .pointer (some ⟨N, 1, none⟩) | 6 => v = .bool true | 7 => v = .string s | 8 => v = .bool false | 9 => v = .bool false | 10 => v = .bool false | 11 => v = .bool false | 12 => v = .agg #[.string s, .bool true] | 13 => v = .bool true | 14 => v = .string s | 15 => v = .bool true | 16 => v = .bool false | 17 => v = .bool false | 18 => v = .bool false | 19 => v = .string s | 20 => v = .bool false | 21 => v = .bool false | 22 => v = undef | 23 => v = undef | 24 => v = undef | 25 => v = .bool false | _ => v = .bool false)
    (by kernel_rfl) (by kernel_rfl) (by decide +kernel) (by kernel_rfl) (fun i v w w' h _ => h) ?_ ?_
  · intro ix
    rcases ix with _ | _ | _ | _ | _ | _ | _ | _ | _ | _ | _ | _ | _ | _ | _ | _ | _ | _ | _ | _ | _ | _ | _ | _ | _ | _ | _ | ix
    all_goals intro o ho a wa hba hout hsz hpre
    all_goals cases ho
    all_goals have q0 : a.tmps.getD 0 undef = .string s := (hout 0 (by decide +kernel)).trans rfl
    all_goals have q3 : a.tmps.getD 3 undef = .pointer (some ⟨N, 0, none⟩) := (hout 3 (by decide +kernel)).trans rfl
    all_goals clear hout hsz
    · exact step_faddr rfl (met_none rfl) rfl q3 (fa0 _ _) ⟨_, rfl, Below.refl _ _, rfl⟩
    · have p14 : a.tmps.getD 14 undef = .pointer (some ⟨N, 0, none⟩) := hpre ⟨0, .data⟩ (by simp) rfl _ rfl
      obtain ⟨⟨y0, y1⟩, _⟩ := (hwd.out.block hba).cells
      exact step_load rfl (met_none rfl) rfl p14 (by simp [go_sem, y0]) ⟨_, rfl, Below.refl _ _, rfl⟩
    · exact step_move rfl (met_none rfl) (.inl rfl) ⟨_, rfl, Below.refl _ _, q0⟩
    · have p15 : a.tmps.getD 15 undef = .string s := hpre ⟨1, .data⟩ (by simp) rfl _ rfl
      have p16 : a.tmps.getD 16 undef = .string s := hpre ⟨2, .data⟩ (by simp) rfl _ rfl
      exact step_bin rfl (met_none rfl) rfl p15 p16 (r := .bool false) (w' := wa) (by simp [go_sem]) ⟨_, rfl, Below.refl _ _, rfl⟩
    · have p17 : a.tmps.getD 17 undef = .bool false := hpre ⟨3, .data⟩ (by simp) rfl _ rfl
      exact step_move rfl (met_none rfl) (.inl rfl) ⟨_, rfl, Below.refl _ _, p17⟩
    · have p18 : a.tmps.getD 18 undef = .bool false := hpre ⟨4, .guard⟩ (by simp) rfl _ rfl
      exact step_faddr rfl (met_some rfl rfl rfl p18) rfl q3 (fa1 _ _) ⟨_, rfl, Below.refl _ _, rfl⟩
    · have p18 : a.tmps.getD 18 undef = .bool false := hpre ⟨4, .guard⟩ (by simp) rfl _ rfl
      have p19 : a.tmps.getD 19 undef = .pointer (some ⟨N, 1, none⟩) := hpre ⟨5, .data⟩ (by simp) rfl _ rfl
      obtain ⟨⟨y0, y1⟩, _⟩ := (hwd.out.block hba).cells
      exact step_load rfl (met_some rfl rfl rfl p18) rfl p19 (by simp [go_sem, y1]) ⟨_, rfl, Below.refl _ _, rfl⟩
    · have p18 : a.tmps.getD 18 undef = .bool false := hpre ⟨4, .guard⟩ (by simp) rfl _ rfl
      exact step_move rfl (met_some rfl rfl rfl p18) (.inl rfl) ⟨_, rfl, Below.refl _ _, q0⟩
    · have p18 : a.tmps.getD 18 undef = .bool false := hpre ⟨4, .chain⟩ (by simp) rfl _ rfl
      have p21 : a.tmps.getD 21 undef = .string s := hpre ⟨7, .data⟩ (by simp) rfl _ rfl
      refine step_call rfl (met_some rfl rfl rfl p18) _ (args1 p21) (hc16 _ _) ((bare_to s hs9 false hb.out wa).mono ?_)
      rintro e w' ⟨rfl, rfl⟩
      exact ⟨_, rfl, _, rfl, Below.refl _ _, rfl⟩
    · have p18 : a.tmps.getD 18 undef = .bool false := hpre ⟨4, .guard⟩ (by simp) rfl _ rfl
      have p20 : a.tmps.getD 20 undef = .bool true := hpre ⟨6, .data⟩ (by simp) rfl _ rfl
      have p22 : a.tmps.getD 22 undef = .bool false := hpre ⟨8, .data⟩ (by simp) rfl _ rfl
      exact step_bin rfl (met_some rfl rfl rfl p18) rfl p20 p22 (r := .bool false) (w' := wa) (by simp [go_sem]) ⟨_, rfl, Below.refl _ _, rfl⟩
    · have p18 : a.tmps.getD 18 undef = .bool false := hpre ⟨4, .data⟩ (by simp) rfl _ rfl
      have p23 : a.tmps.getD 23 undef = .bool false := hpre ⟨9, .data⟩ (by simp) rfl _ rfl
      exact step_pick rfl (met_none rfl) rfl p18 ⟨_, rfl, Below.refl _ _, p23⟩
    · have p24 : a.tmps.getD 24 undef = .bool false := hpre ⟨10, .data⟩ (by simp) rfl _ rfl
      exact step_move rfl (met_none rfl) (.inl rfl) ⟨_, rfl, Below.refl _ _, p24⟩
    · have p25 : a.tmps.getD 25 undef = .bool false := hpre ⟨11, .guard⟩ (by simp) rfl _ rfl
      obtain ⟨⟨y0, y1⟩, _⟩ := (hwd.out.block hba).cells
      exact step_load rfl (met_some rfl rfl rfl p25) rfl q3 (by simp [go_sem, y0, y1]) ⟨_, rfl, Below.refl _ _, rfl⟩
    · have p25 : a.tmps.getD 25 undef = .bool false := hpre ⟨11, .chain⟩ (by simp) rfl _ rfl
      have p26 : a.tmps.getD 26 undef = .agg #[.string s, .bool true] := hpre ⟨12, .data⟩ (by simp) rfl _ rfl
      refine step_call rfl (met_some rfl rfl rfl p25) _ (args1 p26) (hc17 _ _) ((right_to s true hs9 true hr.out wa).mono ?_)
      rintro e w' ⟨rfl, hb⟩
      exact ⟨_, rfl, _, rfl, hb, rfl⟩
    · have p25 : a.tmps.getD 25 undef = .bool false := hpre ⟨11, .guard⟩ (by simp) rfl _ rfl
      exact step_move rfl (met_some rfl rfl rfl p25) (.inl rfl) ⟨_, rfl, Below.refl _ _, q0⟩
    · have p25 : a.tmps.getD 25 undef = .bool false := hpre ⟨11, .guard⟩ (by simp) rfl _ rfl
      have p28 : a.tmps.getD 28 undef = .string s := hpre ⟨14, .data⟩ (by simp) rfl _ rfl
      refine step_call rfl (met_some rfl rfl rfl p25) _ (args1 p28) (hc18 _ _) ((valid_to s hs9 true hV.out wa).mono ?_)
      rintro e w' ⟨rfl, rfl⟩
      exact ⟨_, rfl, _, rfl, Below.refl _ _, rfl⟩
    · have p25 : a.tmps.getD 25 undef = .bool false := hpre ⟨11, .guard⟩ (by simp) rfl _ rfl
      have p27 : a.tmps.getD 27 undef = .bool true := hpre ⟨13, .data⟩ (by simp) rfl _ rfl
      have p29 : a.tmps.getD 29 undef = .bool true := hpre ⟨15, .data⟩ (by simp) rfl _ rfl
      exact step_bin rfl (met_some rfl rfl rfl p25) rfl p27 p29 (r := .bool false) (w' := wa) (by simp [go_sem]) ⟨_, rfl, Below.refl _ _, rfl⟩
    · have p25 : a.tmps.getD 25 undef = .bool false := hpre ⟨11, .data⟩ (by simp) rfl _ rfl
      have p30 : a.tmps.getD 30 undef = .bool false := hpre ⟨16, .data⟩ (by simp) rfl _ rfl
      exact step_pick rfl (met_none rfl) rfl p25 ⟨_, rfl, Below.refl _ _, p30⟩
    · have p31 : a.tmps.getD 31 undef = .bool false := hpre ⟨17, .data⟩ (by simp) rfl _ rfl
      exact step_move rfl (met_none rfl) (.inl rfl) ⟨_, rfl, Below.refl _ _, p31⟩
    · have p32 : a.tmps.getD 32 undef = .bool false := hpre ⟨18, .guard⟩ (by simp) rfl _ rfl
      exact step_move rfl (met_some rfl rfl rfl p32) (.inl rfl) ⟨_, rfl, Below.refl _ _, q0⟩
    · have p32 : a.tmps.getD 32 undef = .bool false := hpre ⟨18, .chain⟩ (by simp) rfl _ rfl
      have p33 : a.tmps.getD 33 undef = .string s := hpre ⟨19, .data⟩ (by simp) rfl _ rfl
      refine step_call rfl (met_some rfl rfl rfl p32) _ (args1 p33) (hc16 _ _) ((bare_to s hs9 false hb.out wa).mono ?_)
      rintro e w' ⟨rfl, rfl⟩
      exact ⟨_, rfl, _, rfl, Below.refl _ _, rfl⟩
    · have p32 : a.tmps.getD 32 undef = .bool false := hpre ⟨18, .guard⟩ (by simp) rfl _ rfl
      have p34 : a.tmps.getD 34 undef = .bool false := hpre ⟨20, .data⟩ (by simp) rfl _ rfl
      exact step_move rfl (met_some rfl rfl rfl p32) (.inl rfl) ⟨_, rfl, Below.refl _ _, p34⟩
    · have p35 : a.tmps.getD 35 undef = .bool false := hpre ⟨21, .guard⟩ (by simp) rfl _ rfl
      exact step_skip rfl rfl rfl rfl p35 ⟨_, rfl, Below.refl _ _, rfl⟩
    · have p35 : a.tmps.getD 35 undef = .bool false := hpre ⟨21, .chain⟩ (by simp) rfl _ rfl
      exact step_skip rfl rfl rfl rfl p35 ⟨_, rfl, Below.refl _ _, rfl⟩
    · have p35 : a.tmps.getD 35 undef = .bool false := hpre ⟨21, .guard⟩ (by simp) rfl _ rfl
      exact step_skip rfl rfl rfl rfl p35 ⟨_, rfl, Below.refl _ _, rfl⟩
    · have p32 : a.tmps.getD 32 undef = .bool false := hpre ⟨18, .guard⟩ (by simp) rfl _ rfl
      have p35 : a.tmps.getD 35 undef = .bool false := hpre ⟨21, .data⟩ (by simp) rfl _ rfl
      exact step_pick rfl (met_some rfl rfl rfl p32) rfl p35 ⟨_, rfl, Below.refl _ _, rfl⟩
    · have p32 : a.tmps.getD 32 undef = .bool false := hpre ⟨18, .data⟩ (by simp) rfl _ rfl
      have p39 : a.tmps.getD 39 undef = .bool false := hpre ⟨25, .data⟩ (by simp) rfl _ rfl
      exact step_pick rfl (met_none rfl) rfl p32 ⟨_, rfl, Below.refl _ _, p39⟩
  · intro a wa hba hF ha
    have f0 : a.tmps.getD 14 undef = .pointer (some ⟨N, 0, none⟩) := hF 0 _ rfl
    have f1 : a.tmps.getD 15 undef = .string s := hF 1 _ rfl
    have f2 : a.tmps.getD 16 undef = .string s := hF 2 _ rfl
    have f3 : a.tmps.getD 17 undef = .bool false := hF 3 _ rfl
    have f4 : a.tmps.getD 18 undef = .bool false := hF 4 _ rfl
    have f5 : a.tmps.getD 19 undef = .pointer (some ⟨N, 1, none⟩) := hF 5 _ rfl
    have f6 : a.tmps.getD 20 undef = .bool true := hF 6 _ rfl
    have f7 : a.tmps.getD 21 undef = .string s := hF 7 _ rfl
    have f8 : a.tmps.getD 22 undef = .bool false := hF 8 _ rfl
    have f9 : a.tmps.getD 23 undef = .bool false := hF 9 _ rfl
    have f10 : a.tmps.getD 24 undef = .bool false := hF 10 _ rfl
    have f11 : a.tmps.getD 25 undef = .bool false := hF 11 _ rfl
    have f12 : a.tmps.getD 26 undef = .agg #[.string s, .bool true] := hF 12 _ rfl
    have f13 : a.tmps.getD 27 undef = .bool true := hF 13 _ rfl
    have f14 : a.tmps.getD 28 undef = .string s := hF 14 _ rfl
    have f15 : a.tmps.getD 29 undef = .bool true := hF 15 _ rfl
    have f16 : a.tmps.getD 30 undef = .bool false := hF 16 _ rfl
    have f17 : a.tmps.getD 31 undef = .bool false := hF 17 _ rfl
    have f18 : a.tmps.getD 32 undef = .bool false := hF 18 _ rfl
    have f19 : a.tmps.getD 33 undef = .string s := hF 19 _ rfl
    have f20 : a.tmps.getD 34 undef = .bool false := hF 20 _ rfl
    have f21 : a.tmps.getD 35 undef = .bool false := hF 21 _ rfl
    have f22 : a.tmps.getD 36 undef = undef := hF 22 _ rfl
    have f23 : a.tmps.getD 37 undef = undef := hF 23 _ rfl
    have f24 : a.tmps.getD 38 undef = undef := hF 24 _ rfl
    have f25 : a.tmps.getD 39 undef = .bool false := hF 25 _ rfl
    have f26 : a.tmps.getD 40 undef = .bool false := hF 26 _ rfl
    clear hF
    simp only [List.foldl, fillFrom, f0, f1, f2, f3, f4, f5, f6, f7, f8, f9, f10, f11, f12, f13, f14, f15, f16, f17, f18, f19, f20, f21, f22, f23, f24, f25, f26] at ha
    clear f0 f1 f2 f3 f4 f5 f6 f7 f8 f9 f10 f11 f12 f13 f14 f15 f16 f17 f18 f19 f20 f21 f22 f23 f24 f25 f26
    subst ha
    simp only [Act.put, List.setIfInBounds_toArray, List.set_cons_succ, List.set_cons_zero]
    replace hwd := Lib.hid (hwd.out.block hba)
    replace hB := Lib.hid (hB.out.trans (hba.mono hB.out.size))
    clear hba fa0 fa1 hc16 hc17 hc18 hNlt hr
    obtain ⟨⟨x0, x1⟩, _⟩ := hwd.out.cells
    have hrow := row_one s l true hl.out wa
    have hjc := Lib.hid (join_any _ [(l, true)] (by simp) 0 f (by intro p hp; simp at hp; subst hp; simp only; omega) hJ.out _ hrow)
    have hal := Lib.hid ((Below.refl wa.heap.size wa).alloc (Nat.le_refl _) (.cells #[.string s, .bool true] 31))
    clear hrow
    go_wp2_with fail
    refine hjc.out.mono ?_; rintro y w3 ⟨rfl, hbw⟩
    have hb3 := hal.out.trans (hbw.mono hal.out.size)
    replace hwd := Lib.hid (hwd.out.block hb3)
    replace hB := Lib.hid (hB.out.trans (hb3.mono hB.out.size))
    clear hb3 hbw hjc hal x0 x1
    rw [hT.out]
    go_wp2_with fail
    refine (hsc.out w3).mono ?_; rintro y w4 ⟨⟨v4, rfl, hv4⟩, hbw⟩
    have hV4 := Lib.hid (WRow.of_owned hv4)
    obtain ⟨a4, c4, rfl⟩ := own_shape hv4
    replace hwd := Lib.hid (hwd.out.block hbw)
    replace hB := Lib.hid (hB.out.trans (hbw.mono hB.out.size))
    clear hbw hsc hv4
    obtain ⟨⟨x0, x1⟩, _⟩ := hwd.out.cells
    have hrow := row_one s l true hl.out w4
    have hal := Lib.hid ((Below.refl w4.heap.size w4).alloc (Nat.le_refl _) (.cells #[.string s, .bool true] 31))
    have hsm := same_any _ _ _ _ _ (hV4.out.on hal.out) hrow
    rw [decide_eq_true rfl] at hsm
    replace hsm := Lib.hid hsm
    clear hrow
    go_wp2_with fail
    refine hsm.out.mono ?_; rintro y w5 ⟨rfl, hbw⟩
    have hb3 := hal.out.trans (hbw.mono hal.out.size)
    replace hB := Lib.hid (hB.out.trans (hb3.mono hB.out.size))
    clear hb3 hbw hsm hal x0 x1 hwd hV4
    go_wp2_with fail
    refine (bare_to s hs9 false hb.out w5).mono ?_; rintro y w6 ⟨rfl, rfl⟩
    go_wp2_with fail
    go_ret
    exact ⟨rfl, hB.out⟩
set_option maxRecDepth 100000 in
set_option maxHeartbeats 4000000 in
theorem of_none (s : ByteArray) (hs : s.size ≤ 500) (hb : Hid (bareF s = false)) (hV : Hid (vld s = false)) (w : World) (hG : Glb w) : Calls Tryd.prog 6 #[.string s] w fun e w' => e = .returned (.bool true) ∧ Below w.heap.size w w' := by
  replace hG := Lib.hid hG
  have t1 : decide (500 < (s.size : Int)) = false := decide_eq_false (by omega)
  have hr : Hid (rightF s true = false) := by
    have h := right_of s hs
    rw [hb.out, hV.out] at h
    exact Lib.hid h
  have hs9 : s.size ≤ 4611686018427387904 := by omega
  obtain ⟨l, hl⟩ : ∃ l, Hid (s = ⟨l.toArray⟩) := ⟨s.data.toList, Lib.hid (ba_ext rfl)⟩
  have hld : Hid (s.data.toList = l) := by show _ = _; rw [hl.out]
  have hll : l.length = s.size := by rw [hl.out, ba_size]
  have hrw : rightW (l, true) = false := by unfold rightW; rw [← hl.out]; exact hr.out
  have hq := quL_len l
  have hJ := Lib.hid (joinF_bad (l, true) hrw)
  have q0 : s.size = s.size := rfl
  clear q0
  have hof := fun W => of_any s hs9 W
  rw [hb.out] at hof
  replace hof := Lib.hid hof
  replace hrw := Lib.hid hrw
  go_enter Tryd.func6, Tryd.ntmps6
  go_wp2_with fail
  refine (awake_any w hG.out).mono ?_; rintro y w1 ⟨rfl, hbw⟩
  have hB := Lib.hid hbw
  clear hbw hG
  go_wp2_with fail
  refine (hof.out w1).mono ?_; rintro y w2 ⟨rfl, hbw⟩
  replace hB := Lib.hid (hB.out.trans (hbw.mono hB.out.size))
  clear hbw hof t1
  go_upto_region 6 with (fail)
  show Code.wp _ _ _ _ (w2.alloc (.cells #[.string s, .bool true] 31))
  have hwd := Lib.hid (wd_new w2 s true)
  replace hB := Lib.hid (hB.out.alloc hB.out.size (.cells #[.string s, .bool true] 31))
  have hNlt : w2.heap.size < (w2.alloc (.cells #[.string s, .bool true] 31)).heap.size := by simp
  generalize w2.alloc (.cells #[.string s, .bool true] 31) = W at hwd hB hNlt ⊢
  generalize w2.heap.size = N at hwd hNlt ⊢
  have fa0 := fa31_0
  have fa1 := fa31_1
  have hc16 := Tryd.call16
  have hc17 := Tryd.call17
  have hc18 := Tryd.call18
  refine wp_region_facts (fun ix v W => match ix with | 0 => v = .pointer (some ⟨N, 0, none⟩) | 1 => v = .string s | 2 => v = .string s | 3 => v = .bool false | 4 => v = .bool false | 5 => v = .pointer (some ⟨N, 1, none⟩) | 6 => v = .bool true | 7 => v = .string s | 8 => v = .bool false | 9 => v = .bool false | 10 => v = .bool false | 11 => v = .bool false | 12 => v = .agg #[.string s, .bool true] | 13 => v = .bool false | 14 => v = .string s | 15 => v = .bool false | 16 => v = .bool false | 17 => v = .bool false | 18 => v = .bool false | 19 => v = .string s | 20 => v = .bool false | 21 => v = .bool false | 22 => v = undef | 23 => v = undef | 24 => v = undef | 25 => v = .bool false | _ => v = .bool false)
    (by kernel_rfl) (by kernel_rfl) (by decide +kernel) (by kernel_rfl) (fun i v w w' h _ => h) ?_ ?_
  · intro ix
    rcases ix with _ | _ | _ | _ | _ | _ | _ | _ | _ | _ | _ | _ | _ | _ | _ | _ | _ | _ | _ | _ | _ | _ | _ | _ | _ | _ | _ | ix
    all_goals intro o ho a wa hba hout hsz hpre
    all_goals cases ho
    all_goals have q0 : a.tmps.getD 0 undef = .string s := (hout 0 (by decide +kernel)).trans rfl
    all_goals have q3 : a.tmps.getD 3 undef = .pointer (some ⟨N, 0, none⟩) := (hout 3 (by decide +kernel)).trans rfl
    all_goals clear hout hsz
    · exact step_faddr rfl (met_none rfl) rfl q3 (fa0 _ _) ⟨_, rfl, Below.refl _ _, rfl⟩
    · have p14 : a.tmps.getD 14 undef = .pointer (some ⟨N, 0, none⟩) := hpre ⟨0, .data⟩ (by simp) rfl _ rfl
      obtain ⟨⟨y0, y1⟩, _⟩ := (hwd.out.block hba).cells
      exact step_load rfl (met_none rfl) rfl p14 (by simp [go_sem, y0]) ⟨_, rfl, Below.refl _ _, rfl⟩
    · exact step_move rfl (met_none rfl) (.inl rfl) ⟨_, rfl, Below.refl _ _, q0⟩
    · have p15 : a.tmps.getD 15 undef = .string s := hpre ⟨1, .data⟩ (by simp) rfl _ rfl
      have p16 : a.tmps.getD 16 undef = .string s := hpre ⟨2, .data⟩ (by simp) rfl _ rfl
      exact step_bin rfl (met_none rfl) rfl p15 p16 (r := .bool false) (w' := wa) (by simp [go_sem]) ⟨_, rfl, Below.refl _ _, rfl⟩
    · have p17 : a.tmps.getD 17 undef = .bool false := hpre ⟨3, .data⟩ (by simp) rfl _ rfl
      exact step_move rfl (met_none rfl) (.inl rfl) ⟨_, rfl, Below.refl _ _, p17⟩
    · have p18 : a.tmps.getD 18 undef = .bool false := hpre ⟨4, .guard⟩ (by simp) rfl _ rfl
      exact step_faddr rfl (met_some rfl rfl rfl p18) rfl q3 (fa1 _ _) ⟨_, rfl, Below.refl _ _, rfl⟩
    · have p18 : a.tmps.getD 18 undef = .bool false := hpre ⟨4, .guard⟩ (by simp) rfl _ rfl
      have p19 : a.tmps.getD 19 undef = .pointer (some ⟨N, 1, none⟩) := hpre ⟨5, .data⟩ (by simp) rfl _ rfl
      obtain ⟨⟨y0, y1⟩, _⟩ := (hwd.out.block hba).cells
      exact step_load rfl (met_some rfl rfl rfl p18) rfl p19 (by simp [go_sem, y1]) ⟨_, rfl, Below.refl _ _, rfl⟩
    · have p18 : a.tmps.getD 18 undef = .bool false := hpre ⟨4, .guard⟩ (by simp) rfl _ rfl
      exact step_move rfl (met_some rfl rfl rfl p18) (.inl rfl) ⟨_, rfl, Below.refl _ _, q0⟩
    · have p18 : a.tmps.getD 18 undef = .bool false := hpre ⟨4, .chain⟩ (by simp) rfl _ rfl
      have p21 : a.tmps.getD 21 undef = .string s := hpre ⟨7, .data⟩ (by simp) rfl _ rfl
      refine step_call rfl (met_some rfl rfl rfl p18) _ (args1 p21) (hc16 _ _) ((bare_to s hs9 false hb.out wa).mono ?_)
      rintro e w' ⟨rfl, rfl⟩
      exact ⟨_, rfl, _, rfl, Below.refl _ _, rfl⟩
    · have p18 : a.tmps.getD 18 undef = .bool false := hpre ⟨4, .guard⟩ (by simp) rfl _ rfl
      have p20 : a.tmps.getD 20 undef = .bool true := hpre ⟨6, .data⟩ (by simp) rfl _ rfl
      have p22 : a.tmps.getD 22 undef = .bool false := hpre ⟨8, .data⟩ (by simp) rfl _ rfl
      exact step_bin rfl (met_some rfl rfl rfl p18) rfl p20 p22 (r := .bool false) (w' := wa) (by simp [go_sem]) ⟨_, rfl, Below.refl _ _, rfl⟩
    · have p18 : a.tmps.getD 18 undef = .bool false := hpre ⟨4, .data⟩ (by simp) rfl _ rfl
      have p23 : a.tmps.getD 23 undef = .bool false := hpre ⟨9, .data⟩ (by simp) rfl _ rfl
      exact step_pick rfl (met_none rfl) rfl p18 ⟨_, rfl, Below.refl _ _, p23⟩
    · have p24 : a.tmps.getD 24 undef = .bool false := hpre ⟨10, .data⟩ (by simp) rfl _ rfl
      exact step_move rfl (met_none rfl) (.inl rfl) ⟨_, rfl, Below.refl _ _, p24⟩
    · have p25 : a.tmps.getD 25 undef = .bool false := hpre ⟨11, .guard⟩ (by simp) rfl _ rfl
      obtain ⟨⟨y0, y1⟩, _⟩ := (hwd.out.block hba).cells
      exact step_load rfl (met_some rfl rfl rfl p25) rfl q3 (by simp [go_sem, y0, y1]) ⟨_, rfl, Below.refl _ _, rfl⟩
    · have p25 : a.tmps.getD 25 undef = .bool false := hpre ⟨11, .chain⟩ (by simp) rfl _ rfl
      have p26 : a.tmps.getD 26 undef = .agg #[.string s, .bool true] := hpre ⟨12, .data⟩ (by simp) rfl _ rfl
      refine step_call rfl (met_some rfl rfl rfl p25) _ (args1 p26) (hc17 _ _) ((right_to s true hs9 false hr.out wa).mono ?_)
      rintro e w' ⟨rfl, hb⟩
      exact ⟨_, rfl, _, rfl, hb, rfl⟩
    · have p25 : a.tmps.getD 25 undef = .bool false := hpre ⟨11, .guard⟩ (by simp) rfl _ rfl
      exact step_move rfl (met_some rfl rfl rfl p25) (.inl rfl) ⟨_, rfl, Below.refl _ _, q0⟩
    · have p25 : a.tmps.getD 25 undef = .bool false := hpre ⟨11, .guard⟩ (by simp) rfl _ rfl
      have p28 : a.tmps.getD 28 undef = .string s := hpre ⟨14, .data⟩ (by simp) rfl _ rfl
      refine step_call rfl (met_some rfl rfl rfl p25) _ (args1 p28) (hc18 _ _) ((valid_to s hs9 false hV.out wa).mono ?_)
      rintro e w' ⟨rfl, rfl⟩
      exact ⟨_, rfl, _, rfl, Below.refl _ _, rfl⟩
    · have p25 : a.tmps.getD 25 undef = .bool false := hpre ⟨11, .guard⟩ (by simp) rfl _ rfl
      have p27 : a.tmps.getD 27 undef = .bool false := hpre ⟨13, .data⟩ (by simp) rfl _ rfl
      have p29 : a.tmps.getD 29 undef = .bool false := hpre ⟨15, .data⟩ (by simp) rfl _ rfl
      exact step_bin rfl (met_some rfl rfl rfl p25) rfl p27 p29 (r := .bool false) (w' := wa) (by simp [go_sem]) ⟨_, rfl, Below.refl _ _, rfl⟩
    · have p25 : a.tmps.getD 25 undef = .bool false := hpre ⟨11, .data⟩ (by simp) rfl _ rfl
      have p30 : a.tmps.getD 30 undef = .bool false := hpre ⟨16, .data⟩ (by simp) rfl _ rfl
      exact step_pick rfl (met_none rfl) rfl p25 ⟨_, rfl, Below.refl _ _, p30⟩
    · have p31 : a.tmps.getD 31 undef = .bool false := hpre ⟨17, .data⟩ (by simp) rfl _ rfl
      exact step_move rfl (met_none rfl) (.inl rfl) ⟨_, rfl, Below.refl _ _, p31⟩
    · have p32 : a.tmps.getD 32 undef = .bool false := hpre ⟨18, .guard⟩ (by simp) rfl _ rfl
      exact step_move rfl (met_some rfl rfl rfl p32) (.inl rfl) ⟨_, rfl, Below.refl _ _, q0⟩
    · have p32 : a.tmps.getD 32 undef = .bool false := hpre ⟨18, .chain⟩ (by simp) rfl _ rfl
      have p33 : a.tmps.getD 33 undef = .string s := hpre ⟨19, .data⟩ (by simp) rfl _ rfl
      refine step_call rfl (met_some rfl rfl rfl p32) _ (args1 p33) (hc16 _ _) ((bare_to s hs9 false hb.out wa).mono ?_)
      rintro e w' ⟨rfl, rfl⟩
      exact ⟨_, rfl, _, rfl, Below.refl _ _, rfl⟩
    · have p32 : a.tmps.getD 32 undef = .bool false := hpre ⟨18, .guard⟩ (by simp) rfl _ rfl
      have p34 : a.tmps.getD 34 undef = .bool false := hpre ⟨20, .data⟩ (by simp) rfl _ rfl
      exact step_move rfl (met_some rfl rfl rfl p32) (.inl rfl) ⟨_, rfl, Below.refl _ _, p34⟩
    · have p35 : a.tmps.getD 35 undef = .bool false := hpre ⟨21, .guard⟩ (by simp) rfl _ rfl
      exact step_skip rfl rfl rfl rfl p35 ⟨_, rfl, Below.refl _ _, rfl⟩
    · have p35 : a.tmps.getD 35 undef = .bool false := hpre ⟨21, .chain⟩ (by simp) rfl _ rfl
      exact step_skip rfl rfl rfl rfl p35 ⟨_, rfl, Below.refl _ _, rfl⟩
    · have p35 : a.tmps.getD 35 undef = .bool false := hpre ⟨21, .guard⟩ (by simp) rfl _ rfl
      exact step_skip rfl rfl rfl rfl p35 ⟨_, rfl, Below.refl _ _, rfl⟩
    · have p32 : a.tmps.getD 32 undef = .bool false := hpre ⟨18, .guard⟩ (by simp) rfl _ rfl
      have p35 : a.tmps.getD 35 undef = .bool false := hpre ⟨21, .data⟩ (by simp) rfl _ rfl
      exact step_pick rfl (met_some rfl rfl rfl p32) rfl p35 ⟨_, rfl, Below.refl _ _, rfl⟩
    · have p32 : a.tmps.getD 32 undef = .bool false := hpre ⟨18, .data⟩ (by simp) rfl _ rfl
      have p39 : a.tmps.getD 39 undef = .bool false := hpre ⟨25, .data⟩ (by simp) rfl _ rfl
      exact step_pick rfl (met_none rfl) rfl p32 ⟨_, rfl, Below.refl _ _, p39⟩
  · intro a wa hba hF ha
    have f0 : a.tmps.getD 14 undef = .pointer (some ⟨N, 0, none⟩) := hF 0 _ rfl
    have f1 : a.tmps.getD 15 undef = .string s := hF 1 _ rfl
    have f2 : a.tmps.getD 16 undef = .string s := hF 2 _ rfl
    have f3 : a.tmps.getD 17 undef = .bool false := hF 3 _ rfl
    have f4 : a.tmps.getD 18 undef = .bool false := hF 4 _ rfl
    have f5 : a.tmps.getD 19 undef = .pointer (some ⟨N, 1, none⟩) := hF 5 _ rfl
    have f6 : a.tmps.getD 20 undef = .bool true := hF 6 _ rfl
    have f7 : a.tmps.getD 21 undef = .string s := hF 7 _ rfl
    have f8 : a.tmps.getD 22 undef = .bool false := hF 8 _ rfl
    have f9 : a.tmps.getD 23 undef = .bool false := hF 9 _ rfl
    have f10 : a.tmps.getD 24 undef = .bool false := hF 10 _ rfl
    have f11 : a.tmps.getD 25 undef = .bool false := hF 11 _ rfl
    have f12 : a.tmps.getD 26 undef = .agg #[.string s, .bool true] := hF 12 _ rfl
    have f13 : a.tmps.getD 27 undef = .bool false := hF 13 _ rfl
    have f14 : a.tmps.getD 28 undef = .string s := hF 14 _ rfl
    have f15 : a.tmps.getD 29 undef = .bool false := hF 15 _ rfl
    have f16 : a.tmps.getD 30 undef = .bool false := hF 16 _ rfl
    have f17 : a.tmps.getD 31 undef = .bool false := hF 17 _ rfl
    have f18 : a.tmps.getD 32 undef = .bool false := hF 18 _ rfl
    have f19 : a.tmps.getD 33 undef = .string s := hF 19 _ rfl
    have f20 : a.tmps.getD 34 undef = .bool false := hF 20 _ rfl
    have f21 : a.tmps.getD 35 undef = .bool false := hF 21 _ rfl
    have f22 : a.tmps.getD 36 undef = undef := hF 22 _ rfl
    have f23 : a.tmps.getD 37 undef = undef := hF 23 _ rfl
    have f24 : a.tmps.getD 38 undef = undef := hF 24 _ rfl
    have f25 : a.tmps.getD 39 undef = .bool false := hF 25 _ rfl
    have f26 : a.tmps.getD 40 undef = .bool false := hF 26 _ rfl
    clear hF
    simp only [List.foldl, fillFrom, f0, f1, f2, f3, f4, f5, f6, f7, f8, f9, f10, f11, f12, f13, f14, f15, f16, f17, f18, f19, f20, f21, f22, f23, f24, f25, f26] at ha
    clear f0 f1 f2 f3 f4 f5 f6 f7 f8 f9 f10 f11 f12 f13 f14 f15 f16 f17 f18 f19 f20 f21 f22 f23 f24 f25 f26
    subst ha
    simp only [Act.put, List.setIfInBounds_toArray, List.set_cons_succ, List.set_cons_zero]
    replace hwd := Lib.hid (hwd.out.block hba)
    replace hB := Lib.hid (hB.out.trans (hba.mono hB.out.size))
    clear hba fa0 fa1 hc16 hc17 hc18 hNlt hr
    obtain ⟨⟨x0, x1⟩, _⟩ := hwd.out.cells
    have hrow := row_one s l true hl.out wa
    have hjc := Lib.hid (join_any _ [(l, true)] (by simp) 250 [] (by intro p hp; simp at hp; subst hp; simp only; omega) hJ.out _ hrow)
    have hal := Lib.hid ((Below.refl wa.heap.size wa).alloc (Nat.le_refl _) (.cells #[.string s, .bool true] 31))
    clear hrow
    go_wp2_with fail
    refine hjc.out.mono ?_; rintro y w3 ⟨rfl, hbw⟩
    have hb3 := hal.out.trans (hbw.mono hal.out.size)
    replace hwd := Lib.hid (hwd.out.block hb3)
    replace hB := Lib.hid (hB.out.trans (hb3.mono hB.out.size))
    clear hb3 hbw hjc hal x0 x1
    go_wp2_with fail
    refine (valid_to s hs9 false hV.out w3).mono ?_; rintro y w6 ⟨rfl, rfl⟩
    go_wp2_with fail
    go_ret
    exact ⟨rfl, hB.out⟩
theorem lineOf_walk (a0 : ByteArray) (w : World) (_w0 : a0.size ≤ maxLen) (hG : Glb w) :
    Calls Tryd.prog 6 #[.string a0] w fun e w' => e = .returned (.bool true) ∧ Below w.heap.size w w' := by
  by_cases hl : 500 < a0.size
  · have t1 : decide (500 < (a0.size : Int)) = true := decide_eq_true (by omega)
    replace hG := Lib.hid hG
    go_enter Tryd.func6, Tryd.ntmps6
    go_wp2_with fail
    refine (awake_any w hG.out).mono ?_; rintro y w1 ⟨rfl, hbw⟩
    go_wp2_with fail
    go_ret
    exact ⟨rfl, hbw⟩
  · cases hb : bareF a0 with
    | true => exact of_yes a0 (by omega) (Lib.hid hb) (Lib.hid (bare_vld _ hb)) w hG
    | false =>
      cases hv : vld a0 with
      | true => exact of_quoted a0 (by omega) (Lib.hid hb) (Lib.hid hv) w hG
      | false => exact of_none a0 (by omega) (Lib.hid hb) (Lib.hid hv) w hG
end Go.Proofs.YtiapkindbbbdpaaDoor
