/- texts; the law Md5Texts. -/
import Derived.Test.YtimiejahkcjcdaaDoorM29
import Derived.Test.YtimiejahkcjcdaaDoorMR
import Derived.Deep.CutRange
import Derived.Deep.DeepCutAuto
import Derived.Deep.RegionHeld3
import Derived.Deep.RegionWith
namespace Go.Proofs.YtimiejahkcjcdaaDoor
open Go.RowKit

theorem d_of (z : List Int) (hl : z.length = 16) (hw : ∀ i (hi : i < z.length), (Lit.int .u8 z[i]).wf = true) : ∃ d : Nat → UInt8, Value.agg (z.map (Value.int .u8)).toArray = .agg #[e8 d 0, e8 d 1, e8 d 2, e8 d 3, e8 d 4, e8 d 5, e8 d 6, e8 d 7, e8 d 8, e8 d 9, e8 d 10, e8 d 11, e8 d 12, e8 d 13, e8 d 14, e8 d 15] := by
  refine ⟨fun i => UInt8.ofNat (z.getD i 0).toNat, ?_⟩
  have h : ∀ i, i < 16 → z.getD i 0 = ((UInt8.ofNat (z.getD i 0).toNat).toNat : Int) := by
    intro i hi
    have hx := hw i (by omega)
    have h' : 0 ≤ z[i] ∧ z[i] ≤ 255 := by simpa [Lit.wf, IntKind.min, IntKind.max, IntKind.signed, IntKind.bits] using hx
    rw [show z.getD i 0 = z[i] by simp [List.getD, List.getElem?_eq_getElem (show i < z.length by omega)], UInt8.toNat_ofNat']
    omega
  have e : z = (List.range 16).map fun i => ((UInt8.ofNat (z.getD i 0).toNat).toNat : Int) := by
    apply List.ext_getElem
    · simp [hl]
    · intro i h1 h2
      have := h i (by omega)
      rw [show z.getD i 0 = z[i] by simp [List.getD, List.getElem?_eq_getElem h1]] at this
      rw [List.getElem_map, List.getElem_range, show z.getD i 0 = z[i] by simp [List.getD, List.getElem?_eq_getElem h1]]
      exact this
  conv => lhs; rw [e]
  rfl
set_option maxRecDepth 100000 in
set_option maxHeartbeats 2000000 in
theorem texts_any (d : Nat → UInt8) (s : ByteArray) (hs : s.size ≤ 4611686018427387904) (w : World) :
    Calls Tryd.prog 21 #[.agg #[e8 d 0, e8 d 1, e8 d 2, e8 d 3, e8 d 4, e8 d 5, e8 d 6, e8 d 7, e8 d 8, e8 d 9, e8 d 10, e8 d 11, e8 d 12, e8 d 13, e8 d 14, e8 d 15], .string s] w fun e w' => e = .returned (.bool true) ∧ Below w.heap.size w w' := by
  obtain ⟨T, hT⟩ : ∃ T : ByteArray, Hid (T = ⟨(txt d 16).toArray⟩) := ⟨_, rfl⟩
  obtain ⟨d1, hd1⟩ : ∃ d, Hid (d = rdE s) := ⟨_, rfl⟩
  obtain ⟨n, hn⟩ : ∃ n, Hid (n = rdN s) := ⟨_, rfl⟩
  have qT : (T.toList == T.toList) = true := by simp
  have qn : (n == n) = true := by simp
  have E34 := eq34
  go_enter Tryd.func21, Tryd.ntmps21
  go_wp2_with fail
  have z0 := Lib.hid (B16.mk w d 34)
  have B0 := Lib.hid ((Below.refl w.heap.size w).alloc (Nat.le_refl _) (e16 d 34))
  refine (read_to s hs d1 n hd1.out hn.out _).mono ?_; rintro e w1 ⟨rfl, hb1⟩
  have hs1 : w.heap.size + 1 ≤ w1.heap.size := by have := hb1.size; simpa using this
  replace z0 := Lib.hid (z0.out.block (hb1.block w.heap.size (by simp)))
  replace B0 := Lib.hid (B0.out.trans (hb1.mono (by simp)))
  clear hb1
  go_wp2_with fail
  have z1 := B16.mk w1 d1 34
  have hb2 : Below w1.heap.size w1 (w1.alloc (e16 d1 34)) := (Below.refl _ _).alloc (Nat.le_refl _) _
  have hs2 : w1.heap.size + 1 ≤ (w1.alloc (e16 d1 34)).heap.size := by simp
  replace z0 := Lib.hid (z0.out.block (hb2.block w.heap.size (by omega)))
  replace B0 := Lib.hid (B0.out.trans (hb2.mono (by omega)))
  clear hb2
  show Calls _ _ _ (w1.alloc (e16 d1 34)) _
  generalize w1.alloc (e16 d1 34) = w2 at z0 z1 B0 hs2 ⊢
  generalize w1.heap.size = N1 at z1 hs1 hs2 ⊢
  replace z1 := Lib.hid z1
  refine (rread_to s hs d1 n hd1.out hn.out _).mono ?_; rintro e w3 ⟨⟨d2, hd2, rfl⟩, hb3⟩
  have hs3 : w2.heap.size ≤ w3.heap.size := hb3.size
  replace z0 := Lib.hid (z0.out.block (hb3.block w.heap.size (by omega)))
  replace z1 := Lib.hid (z1.out.block (hb3.block N1 (by omega)))
  replace B0 := Lib.hid (B0.out.trans (hb3.mono (by omega)))
  clear hb3
  go_wp2_with fail
  have z2 := B16.mk w3 d2 34
  have hb4 : Below w3.heap.size w3 (w3.alloc (e16 d2 34)) := (Below.refl _ _).alloc (Nat.le_refl _) _
  have hs4 : w3.heap.size + 1 ≤ (w3.alloc (e16 d2 34)).heap.size := by simp
  replace z0 := Lib.hid (z0.out.block (hb4.block w.heap.size (by omega)))
  replace z1 := Lib.hid (z1.out.block (hb4.block N1 (by omega)))
  replace B0 := Lib.hid (B0.out.trans (hb4.mono (by omega)))
  clear hb4
  show Code.wp _ _ _ _ (w3.alloc (e16 d2 34))
  generalize w3.alloc (e16 d2 34) = w4 at z0 z1 z2 B0 hs4 ⊢
  have hs5 : N1 + 1 ≤ w3.heap.size := by omega
  generalize w3.heap.size = N2 at z2 hs4 hs5 ⊢
  replace z2 := Lib.hid z2
  have g0 : w.heap.size < w4.heap.size := by omega
  have g1 : N1 < w4.heap.size := by omega
  have g2 : N2 < w4.heap.size := by omega
  have h22 := Tryd.call22
  have h39 := Tryd.call39
  clear qT qn E34
  have hd2' : eqD d1 d2 = true := hd2
  refine wp_region_facts (fun i v W => match i with | 0 => v = .agg #[e8 d 0, e8 d 1, e8 d 2, e8 d 3, e8 d 4, e8 d 5, e8 d 6, e8 d 7, e8 d 8, e8 d 9, e8 d 10, e8 d 11, e8 d 12, e8 d 13, e8 d 14, e8 d 15] | 1 => v = .string T | 2 => v = .agg #[e8 d 0, e8 d 1, e8 d 2, e8 d 3, e8 d 4, e8 d 5, e8 d 6, e8 d 7, e8 d 8, e8 d 9, e8 d 10, e8 d 11, e8 d 12, e8 d 13, e8 d 14, e8 d 15] | 3 => v = .string T | 4 => v = .bool true | 5 => v = .bool true | 6 => v = .agg #[e8 d1 0, e8 d1 1, e8 d1 2, e8 d1 3, e8 d1 4, e8 d1 5, e8 d1 6, e8 d1 7, e8 d1 8, e8 d1 9, e8 d1 10, e8 d1 11, e8 d1 12, e8 d1 13, e8 d1 14, e8 d1 15] | 7 => v = .agg #[e8 d2 0, e8 d2 1, e8 d2 2, e8 d2 3, e8 d2 4, e8 d2 5, e8 d2 6, e8 d2 7, e8 d2 8, e8 d2 9, e8 d2 10, e8 d2 11, e8 d2 12, e8 d2 13, e8 d2 14, e8 d2 15] | 8 => v = .bool true | 9 => v = .bool true | 10 => v = .bool true | 11 => v = .int .i64 n | 12 => v = .int .i64 n | 13 => v = .bool true | 14 => v = .bool true | _ => v = .bool true)
    (by kernel_rfl) (by kernel_rfl) (by decide +kernel) (by kernel_rfl) (fun i v w w' h _ => h) ?_ ?_
  · intro i
    rcases i with _ | _ | _ | _ | _ | _ | _ | _ | _ | _ | _ | _ | _ | _ | _ | _ | i
    all_goals intro o ho a wa hba hout hsz hpre
    all_goals cases ho
    all_goals have q2 : a.tmps.getD 2 undef = .pointer (some ⟨w.heap.size, 0, none⟩) := (hout 2 (by decide +kernel)).trans rfl
    all_goals have q5 : a.tmps.getD 5 undef = .pointer (some ⟨N1, 0, none⟩) := (hout 5 (by decide +kernel)).trans rfl
    all_goals have q7 : a.tmps.getD 7 undef = .pointer (some ⟨N2, 0, none⟩) := (hout 7 (by decide +kernel)).trans rfl
    all_goals have q6 : a.tmps.getD 6 undef = .int .i64 n := (hout 6 (by decide +kernel)).trans rfl
    all_goals have q8 : a.tmps.getD 8 undef = .int .i64 n := (hout 8 (by decide +kernel)).trans rfl
    all_goals clear hout hsz
    · exact step_load rfl (met_none rfl) rfl q2 (load16 _ _ _ _ _ (z0.out.block (hba.block w.heap.size g0))) ⟨_, rfl, Below.refl _ _, rfl⟩
    · have p19 : a.tmps.getD 19 undef = .agg #[e8 d 0, e8 d 1, e8 d 2, e8 d 3, e8 d 4, e8 d 5, e8 d 6, e8 d 7, e8 d 8, e8 d 9, e8 d 10, e8 d 11, e8 d 12, e8 d 13, e8 d 14, e8 d 15] := hpre ⟨0, .data⟩ (by simp) rfl _ rfl
      refine step_call rfl (met_none rfl) _ (args1 p19) (h22 _ _) ((text_any d T hT.out _).mono ?_)
      rintro e w' ⟨rfl, hb⟩
      exact ⟨_, rfl, _, rfl, hb, rfl⟩
    · exact step_load rfl (met_none rfl) rfl q2 (load16 _ _ _ _ _ (z0.out.block (hba.block w.heap.size g0))) ⟨_, rfl, Below.refl _ _, rfl⟩
    · have p21 : a.tmps.getD 21 undef = .agg #[e8 d 0, e8 d 1, e8 d 2, e8 d 3, e8 d 4, e8 d 5, e8 d 6, e8 d 7, e8 d 8, e8 d 9, e8 d 10, e8 d 11, e8 d 12, e8 d 13, e8 d 14, e8 d 15] := hpre ⟨2, .data⟩ (by simp) rfl _ rfl
      refine step_call rfl (met_none rfl) _ (args1 p21) (h39 _ _) ((rtext_any d T hT.out _).mono ?_)
      rintro e w' ⟨rfl, hb⟩
      exact ⟨_, rfl, _, rfl, hb, rfl⟩
    · have p20 : a.tmps.getD 20 undef = .string T := hpre ⟨1, .data⟩ (by simp) rfl _ rfl
      have p22 : a.tmps.getD 22 undef = .string T := hpre ⟨3, .data⟩ (by simp) rfl _ rfl
      exact step_bin rfl (met_none rfl) rfl p20 p22 (r := .bool true) (w' := wa) (by simp [go_sem]) ⟨_, rfl, Below.refl _ _, rfl⟩
    · have p23 : a.tmps.getD 23 undef = .bool true := hpre ⟨4, .data⟩ (by simp) rfl _ rfl
      exact step_move rfl (met_none rfl) (.inl rfl) ⟨_, rfl, Below.refl _ _, p23⟩
    · have p24 : a.tmps.getD 24 undef = .bool true := hpre ⟨5, .guard⟩ (by simp) rfl _ rfl
      exact step_load rfl (met_some rfl rfl rfl p24) rfl q5 (load16 _ _ _ _ _ (z1.out.block (hba.block N1 g1))) ⟨_, rfl, Below.refl _ _, rfl⟩
    · have p24 : a.tmps.getD 24 undef = .bool true := hpre ⟨5, .guard⟩ (by simp) rfl _ rfl
      exact step_load rfl (met_some rfl rfl rfl p24) rfl q7 (load16 _ _ _ _ _ (z2.out.block (hba.block N2 g2))) ⟨_, rfl, Below.refl _ _, rfl⟩
    · have p24 : a.tmps.getD 24 undef = .bool true := hpre ⟨5, .guard⟩ (by simp) rfl _ rfl
      have p25 : a.tmps.getD 25 undef = .agg #[e8 d1 0, e8 d1 1, e8 d1 2, e8 d1 3, e8 d1 4, e8 d1 5, e8 d1 6, e8 d1 7, e8 d1 8, e8 d1 9, e8 d1 10, e8 d1 11, e8 d1 12, e8 d1 13, e8 d1 14, e8 d1 15] := hpre ⟨6, .data⟩ (by simp) rfl _ rfl
      have p26 : a.tmps.getD 26 undef = .agg #[e8 d2 0, e8 d2 1, e8 d2 2, e8 d2 3, e8 d2 4, e8 d2 5, e8 d2 6, e8 d2 7, e8 d2 8, e8 d2 9, e8 d2 10, e8 d2 11, e8 d2 12, e8 d2 13, e8 d2 14, e8 d2 15] := hpre ⟨7, .data⟩ (by simp) rfl _ rfl
      exact step_bin rfl (met_some rfl rfl rfl p24) rfl p25 p26 (r := .bool true) (w' := wa) (eql34 d1 d2 true hd2 wa) ⟨_, rfl, Below.refl _ _, rfl⟩
    · have p24 : a.tmps.getD 24 undef = .bool true := hpre ⟨5, .data⟩ (by simp) rfl _ rfl
      have p27 : a.tmps.getD 27 undef = .bool true := hpre ⟨8, .data⟩ (by simp) rfl _ rfl
      exact step_pick rfl (met_none rfl) rfl p24 ⟨_, rfl, Below.refl _ _, p27⟩
    · have p28 : a.tmps.getD 28 undef = .bool true := hpre ⟨9, .data⟩ (by simp) rfl _ rfl
      exact step_move rfl (met_none rfl) (.inl rfl) ⟨_, rfl, Below.refl _ _, p28⟩
    · have p29 : a.tmps.getD 29 undef = .bool true := hpre ⟨10, .guard⟩ (by simp) rfl _ rfl
      exact step_move rfl (met_some rfl rfl rfl p29) (.inl rfl) ⟨_, rfl, Below.refl _ _, q6⟩
    · have p29 : a.tmps.getD 29 undef = .bool true := hpre ⟨10, .guard⟩ (by simp) rfl _ rfl
      exact step_move rfl (met_some rfl rfl rfl p29) (.inl rfl) ⟨_, rfl, Below.refl _ _, q8⟩
    · have p29 : a.tmps.getD 29 undef = .bool true := hpre ⟨10, .guard⟩ (by simp) rfl _ rfl
      have p30 : a.tmps.getD 30 undef = .int .i64 n := hpre ⟨11, .data⟩ (by simp) rfl _ rfl
      have p31 : a.tmps.getD 31 undef = .int .i64 n := hpre ⟨12, .data⟩ (by simp) rfl _ rfl
      exact step_bin rfl (met_some rfl rfl rfl p29) rfl p30 p31 (r := .bool true) (w' := wa) (by simp [go_sem]) ⟨_, rfl, Below.refl _ _, rfl⟩
    · have p29 : a.tmps.getD 29 undef = .bool true := hpre ⟨10, .data⟩ (by simp) rfl _ rfl
      have p32 : a.tmps.getD 32 undef = .bool true := hpre ⟨13, .data⟩ (by simp) rfl _ rfl
      exact step_pick rfl (met_none rfl) rfl p29 ⟨_, rfl, Below.refl _ _, p32⟩
    · have p33 : a.tmps.getD 33 undef = .bool true := hpre ⟨14, .data⟩ (by simp) rfl _ rfl
      exact step_move rfl (met_none rfl) (.inr rfl) ⟨_, rfl, Below.refl _ _, p33⟩
  · intro a wa hba hF ha
    have f0 : a.tmps.getD 19 undef = .agg #[e8 d 0, e8 d 1, e8 d 2, e8 d 3, e8 d 4, e8 d 5, e8 d 6, e8 d 7, e8 d 8, e8 d 9, e8 d 10, e8 d 11, e8 d 12, e8 d 13, e8 d 14, e8 d 15] := hF 0 _ rfl
    have f1 : a.tmps.getD 20 undef = .string T := hF 1 _ rfl
    have f2 : a.tmps.getD 21 undef = .agg #[e8 d 0, e8 d 1, e8 d 2, e8 d 3, e8 d 4, e8 d 5, e8 d 6, e8 d 7, e8 d 8, e8 d 9, e8 d 10, e8 d 11, e8 d 12, e8 d 13, e8 d 14, e8 d 15] := hF 2 _ rfl
    have f3 : a.tmps.getD 22 undef = .string T := hF 3 _ rfl
    have f4 : a.tmps.getD 23 undef = .bool true := hF 4 _ rfl
    have f5 : a.tmps.getD 24 undef = .bool true := hF 5 _ rfl
    have f6 : a.tmps.getD 25 undef = .agg #[e8 d1 0, e8 d1 1, e8 d1 2, e8 d1 3, e8 d1 4, e8 d1 5, e8 d1 6, e8 d1 7, e8 d1 8, e8 d1 9, e8 d1 10, e8 d1 11, e8 d1 12, e8 d1 13, e8 d1 14, e8 d1 15] := hF 6 _ rfl
    have f7 : a.tmps.getD 26 undef = .agg #[e8 d2 0, e8 d2 1, e8 d2 2, e8 d2 3, e8 d2 4, e8 d2 5, e8 d2 6, e8 d2 7, e8 d2 8, e8 d2 9, e8 d2 10, e8 d2 11, e8 d2 12, e8 d2 13, e8 d2 14, e8 d2 15] := hF 7 _ rfl
    have f8 : a.tmps.getD 27 undef = .bool true := hF 8 _ rfl
    have f9 : a.tmps.getD 28 undef = .bool true := hF 9 _ rfl
    have f10 : a.tmps.getD 29 undef = .bool true := hF 10 _ rfl
    have f11 : a.tmps.getD 30 undef = .int .i64 n := hF 11 _ rfl
    have f12 : a.tmps.getD 31 undef = .int .i64 n := hF 12 _ rfl
    have f13 : a.tmps.getD 32 undef = .bool true := hF 13 _ rfl
    have f14 : a.tmps.getD 33 undef = .bool true := hF 14 _ rfl
    have f15 : a.tmps.getD 4 undef = .bool true := hF 15 _ rfl
    clear hF
    simp only [List.foldl, fillFrom, f0, f1, f2, f3, f4, f5, f6, f7, f8, f9, f10, f11, f12, f13, f14, f15] at ha
    clear f0 f1 f2 f3 f4 f5 f6 f7 f8 f9 f10 f11 f12 f13 f14 f15
    subst ha
    simp only [Act.put, List.setIfInBounds_toArray, List.set_cons_succ, List.set_cons_zero]

    have B9 := Lib.hid (B0.out.trans (hba.mono (by omega)))
    clear hba h22 h39
    go_wp2_with fail
    go_ret
    exact ⟨rfl, B9.out⟩
set_option maxHeartbeats 1000000 in
theorem md5Texts_any (d : Nat → UInt8) (s : ByteArray) (hs : s.size ≤ 9223372036854775807) (w : World) (hT : Tabs w) :
    Calls Tryd.prog 8 #[.agg #[e8 d 0, e8 d 1, e8 d 2, e8 d 3, e8 d 4, e8 d 5, e8 d 6, e8 d 7, e8 d 8, e8 d 9, e8 d 10, e8 d 11, e8 d 12, e8 d 13, e8 d 14, e8 d 15], .string s] w fun e w' => e = .returned (.bool true) ∧ Below w.heap.size w w' := by
  have z0 := Lib.hid (B16.mk w d 34)
  have B0 := Lib.hid ((Below.refl w.heap.size w).alloc (Nat.le_refl _) (e16 d 34))
  replace hT := Lib.hid hT
  by_cases h : 200 < s.size
  · have t1 : decide (200 < (s.size : Int)) = true := decide_eq_true (by omega)
    go_enter Tryd.func8, Tryd.ntmps8
    go_wp2_with fail
    refine (awake_any _ (hT.out.on B0.out)).mono ?_; rintro e w2 ⟨rfl, hb2⟩
    have B2 := Lib.hid (B0.out.trans (hb2.mono (by simp)))
    clear hb2
    go_wp2_with fail
    go_ret
    exact ⟨rfl, B2.out⟩
  · have t1 : decide (200 < (s.size : Int)) = false := decide_eq_false (by omega)
    obtain ⟨x0, x1, x2, x3, x4, x5, x6, x7, x8, x9, x10, x11, x12, x13, x14, x15⟩ := z0.out.cells
    go_enter Tryd.func8, Tryd.ntmps8
    go_wp2_with fail
    refine (texts_any d s (by omega) _).mono ?_; rintro e w1 ⟨rfl, hb1⟩
    have B1 := Lib.hid (B0.out.trans (hb1.mono (by simp)))
    clear hb1
    go_wp2_with fail
    refine (awake_any _ (hT.out.on B1.out)).mono ?_; rintro e w2 ⟨rfl, hb2⟩
    have B2 := Lib.hid (B1.out.trans (hb2.mono B1.out.size))
    clear hb2
    go_wp2_with fail
    go_ret
    exact ⟨rfl, B2.out⟩
/-- The law Md5Texts. -/
theorem md5Texts_walk (z0 : List Int) (a1 : ByteArray) (w : World) (l0 : z0.length = 16) (w0 : ∀ i (hi : i < z0.length), (Lit.int .u8 z0[i]).wf = true) (w1 : a1.size ≤ maxLen) (hT : Tabs w) :
    Calls Tryd.prog 8 #[.agg (z0.map (Value.int .u8)).toArray, .string a1] w fun e w' => e = .returned (.bool true) ∧ Below w.heap.size w w' := by
  obtain ⟨d, hd⟩ := d_of z0 l0 w0
  rw [hd]
  exact md5Texts_any d a1 (by unfold maxLen at w1; omega) w hT
end Go.Proofs.YtimiejahkcjcdaaDoor
