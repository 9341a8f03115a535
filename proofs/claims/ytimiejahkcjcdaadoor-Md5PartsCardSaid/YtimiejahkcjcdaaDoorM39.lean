/- The law Md5Parts. -/
import Derived.Test.YtimiejahkcjcdaaDoorM38
import Derived.Deep.CutRange
import Derived.Deep.DeepCutAuto
namespace Go.Proofs.YtimiejahkcjcdaaDoor
open Go.RowKit

/-- What the two boxes hold. -/
def PartI (w : World) (d c : Nat → UInt8) (wx : World) : Prop := B16 wx w.heap.size d ∧ B16 wx (w.heap.size + 1) c ∧ Below w.heap.size w wx ∧ w.heap.size + 2 ≤ wx.heap.size
theorem PartI.on {w : World} {d c : Nat → UInt8} {A B : World} (h : PartI w d c A) (hb : Below A.heap.size A B) : PartI w d c B := by
  obtain ⟨h1, h2, h3, h4⟩ := h
  exact ⟨h1.block (hb.block _ (by omega)), h2.block (hb.block _ (by omega)), h3.trans (hb.mono (by omega)), Nat.le_trans h4 hb.size⟩
theorem partI_new (w : World) (d c : Nat → UInt8) : PartI w d c ((w.alloc (e16 d 34)).alloc (e16 c 34)) := by
  have h := B16.mk (w.alloc (e16 d 34)) c 34
  rw [World.size_alloc] at h
  exact ⟨(B16.mk w d 34).block (Below.heap_alloc _ _ _ (by simp)), h, ((Below.refl _ _).alloc (Nat.le_refl _) _).alloc (by simp) _, by simp⟩
set_option maxRecDepth 100000 in
set_option maxHeartbeats 2000000 in
theorem parts_any (ad : Option Addr) (len cap : Nat) (l0 : List UInt8) (hl0 : l0.length = len) (hlm : len ≤ maxLen) (m n : Nat) (hm : m < 4294967296) (hn : n < 4294967296) (d c : Nat → UInt8) (s : ByteArray) (hs : s.size ≤ 9223372036854775807) (w : World) (hr : RowB w (.slice ad len cap) l0) (hT : Tabs w) :
    Calls Tryd.prog 9 #[.slice ad len cap, .int .u32 m, .int .u32 n, .agg #[e8 d 0, e8 d 1, e8 d 2, e8 d 3, e8 d 4, e8 d 5, e8 d 6, e8 d 7, e8 d 8, e8 d 9, e8 d 10, e8 d 11, e8 d 12, e8 d 13, e8 d 14, e8 d 15], .agg #[e8 c 0, e8 c 1, e8 c 2, e8 c 3, e8 c 4, e8 c 5, e8 c 6, e8 c 7, e8 c 8, e8 c 9, e8 c 10, e8 c 11, e8 c 12, e8 c 13, e8 c 14, e8 c 15], .string s] w fun e w' => e = .returned (.bool true) ∧ Below w.heap.size w w' := by
  have hcap := rowB_cap hr
  have hrt := fun m hm => row_take (hl0 ▸ hr) m hm
  replace hrt := Lib.hid hrt
  replace hT := Lib.hid hT
  unfold maxLen at hlm
  clear hr
  have I0 := Lib.hid (partI_new w d c)
  go_enter Tryd.func9, Tryd.ntmps9
  go_upto_region 2 with (fail)
  obtain ⟨k, hk⟩ : ∃ k : Nat, min (len : Int) 500 = k := ⟨min len 500, by omega⟩
  have hkl : k ≤ len := by omega
  have hk5 : k ≤ 500 := by omega
  simp only [hk, Int.toNat_natCast]
  obtain ⟨l, hl⟩ : ∃ l, l = l0.take k := ⟨_, rfl⟩
  have hr : RowB w (.slice ad k cap) l := by
    have := hrt.out k (by omega)
    rw [hl]; exact this
  have hll : Hid (l.length = k) := by show _ = _; rw [hl]; simp; omega
  replace hr := Lib.hid hr
  clear hl hrt hl0 hk
  have hlk : l.length ≤ 1099511627776 := by rw [hll.out]; omega
  show Code.wp _ _ _ _ ((w.alloc (e16 d 34)).alloc (e16 c 34))
  generalize (w.alloc (e16 d 34)).alloc (e16 c 34) = w0 at I0 ⊢
  obtain ⟨d1, hd1⟩ : ∃ d1, Hid (d1 = sumF l) := ⟨_, rfl⟩
  obtain ⟨T1, hT1⟩ : ∃ T, Hid (T = txB d1) := ⟨_, rfl⟩
  have hz1 : Hid (T1.size = 32) := by show _ = _; rw [hT1.out]; exact txB_size d1
  go_wp2_with fail
  refine (sum_to _ _ _ l hlk d1 hd1.out _ (hT.out.on I0.out.2.2.1) (hr.out.on I0.out.2.2.1)).mono ?_; rintro e w1 ⟨rfl, hb⟩
  replace I0 := Lib.hid (I0.out.on hb); clear hb
  go_wp2_with fail
  refine (text_any d1 T1 hT1.out _).mono ?_; rintro e w2 ⟨rfl, hb⟩
  replace I0 := Lib.hid (I0.out.on hb); clear hb
  go_wp2_with fail
  refine (read_txt d1 T1 hT1.out _).mono ?_; rintro e w3 ⟨rfl, hb⟩
  replace I0 := Lib.hid (I0.out.on hb); clear hb
  go_upto_region 4 with (fail)
  show Code.wp _ _ _ _ (w3.alloc (e16 d1 34))
  have z14 := Lib.hid (B16.mk w3 d1 34)
  have I1 := Lib.hid (I0.out.on ((Below.refl _ _).alloc (Nat.le_refl _) (e16 d1 34)))
  have hs3 : w3.heap.size < (w3.alloc (e16 d1 34)).heap.size := by simp
  have hN : w.heap.size + 2 ≤ w3.heap.size := I0.out.2.2.2
  generalize w3.alloc (e16 d1 34) = w4 at I1 z14 hs3 ⊢
  generalize w3.heap.size = N1 at z14 hs3 hN ⊢
  clear I0
  have HT4 := Lib.hid (hT.out.on I1.out.2.2.1)
  have HR4 := Lib.hid (hr.out.on I1.out.2.2.1)
  have h18 := Tryd.call18
  refine wp_region_facts (fun i v W => match i with | 0 => v = .int .i64 0 | 1 => v = .bool false | 2 => v = .bool false | 3 => v = .agg #[e8 d1 0, e8 d1 1, e8 d1 2, e8 d1 3, e8 d1 4, e8 d1 5, e8 d1 6, e8 d1 7, e8 d1 8, e8 d1 9, e8 d1 10, e8 d1 11, e8 d1 12, e8 d1 13, e8 d1 14, e8 d1 15] | 4 => v = .slice ad k cap | 5 => v = .agg #[e8 d1 0, e8 d1 1, e8 d1 2, e8 d1 3, e8 d1 4, e8 d1 5, e8 d1 6, e8 d1 7, e8 d1 8, e8 d1 9, e8 d1 10, e8 d1 11, e8 d1 12, e8 d1 13, e8 d1 14, e8 d1 15] | 6 => v = .bool false | 7 => v = .bool false | 8 => v = .bool false | 9 => v = .string T1 | 10 => v = .int .i64 T1.size | 11 => v = .bool false | _ => v = .bool false)
    (by kernel_rfl) (by kernel_rfl) (by decide +kernel) (by kernel_rfl) (fun i v w w' h _ => h) ?_ ?_
  · intro i
    rcases i with _ | _ | _ | _ | _ | _ | _ | _ | _ | _ | _ | _ | _ | i
    all_goals intro o ho a wa hba hout hsz hpre
    all_goals cases ho
    all_goals have q15 : a.tmps.getD 15 undef = .int .i64 0 := (hout 15 (by decide +kernel)).trans rfl
    all_goals have q14 : a.tmps.getD 14 undef = .pointer (some ⟨N1, 0, none⟩) := (hout 14 (by decide +kernel)).trans rfl
    all_goals have q0 : a.tmps.getD 0 undef = .slice ad k cap := (hout 0 (by decide +kernel)).trans rfl
    all_goals have q13 : a.tmps.getD 13 undef = .string T1 := (hout 13 (by decide +kernel)).trans rfl
    all_goals clear hout hsz
    · exact step_move rfl (met_none rfl) (.inl rfl) ⟨_, rfl, Below.refl _ _, q15⟩
    · have p40 : a.tmps.getD 40 undef = .int .i64 0 := hpre ⟨0, .data⟩ (by simp) rfl _ rfl
      exact step_bin rfl (met_none rfl) rfl p40 rfl (r := .bool false) (w' := wa) (by simp [go_sem]) ⟨_, rfl, Below.refl _ _, rfl⟩
    · have p41 : a.tmps.getD 41 undef = .bool false := hpre ⟨1, .data⟩ (by simp) rfl _ rfl
      exact step_move rfl (met_none rfl) (.inl rfl) ⟨_, rfl, Below.refl _ _, p41⟩
    · have p42 : a.tmps.getD 42 undef = .bool false := hpre ⟨2, .guard⟩ (by simp) rfl _ rfl
      exact step_load rfl (met_some rfl rfl rfl p42) rfl q14 (load16 _ _ _ _ _ (z14.out.block (hba.block N1 hs3))) ⟨_, rfl, Below.refl _ _, rfl⟩
    · have p42 : a.tmps.getD 42 undef = .bool false := hpre ⟨2, .guard⟩ (by simp) rfl _ rfl
      exact step_move rfl (met_some rfl rfl rfl p42) (.inl rfl) ⟨_, rfl, Below.refl _ _, q0⟩
    · have p42 : a.tmps.getD 42 undef = .bool false := hpre ⟨2, .chain⟩ (by simp) rfl _ rfl
      have p44 : a.tmps.getD 44 undef = .slice ad k cap := hpre ⟨4, .data⟩ (by simp) rfl _ rfl
      refine step_call rfl (met_some rfl rfl rfl p42) _ (args1 p44) (h18 _ _) ((sum_to _ _ _ l hlk d1 hd1.out _ (HT4.out.on hba) (HR4.out.on hba)).mono ?_)
      rintro e w' ⟨rfl, hb⟩
      exact ⟨_, rfl, _, rfl, hb, rfl⟩
    · have p42 : a.tmps.getD 42 undef = .bool false := hpre ⟨2, .guard⟩ (by simp) rfl _ rfl
      have p43 : a.tmps.getD 43 undef = .agg #[e8 d1 0, e8 d1 1, e8 d1 2, e8 d1 3, e8 d1 4, e8 d1 5, e8 d1 6, e8 d1 7, e8 d1 8, e8 d1 9, e8 d1 10, e8 d1 11, e8 d1 12, e8 d1 13, e8 d1 14, e8 d1 15] := hpre ⟨3, .data⟩ (by simp) rfl _ rfl
      have p45 : a.tmps.getD 45 undef = .agg #[e8 d1 0, e8 d1 1, e8 d1 2, e8 d1 3, e8 d1 4, e8 d1 5, e8 d1 6, e8 d1 7, e8 d1 8, e8 d1 9, e8 d1 10, e8 d1 11, e8 d1 12, e8 d1 13, e8 d1 14, e8 d1 15] := hpre ⟨5, .data⟩ (by simp) rfl _ rfl
      exact step_bin rfl (met_some rfl rfl rfl p42) rfl p43 p45 (r := .bool false) (w' := wa) (neq34 d1 d1 false (by simp [eqD_same]) wa) ⟨_, rfl, Below.refl _ _, rfl⟩
    · have p42 : a.tmps.getD 42 undef = .bool false := hpre ⟨2, .data⟩ (by simp) rfl _ rfl
      have p46 : a.tmps.getD 46 undef = .bool false := hpre ⟨6, .data⟩ (by simp) rfl _ rfl
      exact step_pick rfl (met_none rfl) rfl p42 ⟨_, rfl, Below.refl _ _, p46⟩
    · have p47 : a.tmps.getD 47 undef = .bool false := hpre ⟨7, .data⟩ (by simp) rfl _ rfl
      exact step_move rfl (met_none rfl) (.inl rfl) ⟨_, rfl, Below.refl _ _, p47⟩
    · have p48 : a.tmps.getD 48 undef = .bool false := hpre ⟨8, .guard⟩ (by simp) rfl _ rfl
      exact step_move rfl (met_some rfl rfl rfl p48) (.inl rfl) ⟨_, rfl, Below.refl _ _, q13⟩
    · have p48 : a.tmps.getD 48 undef = .bool false := hpre ⟨8, .guard⟩ (by simp) rfl _ rfl
      have p49 : a.tmps.getD 49 undef = .string T1 := hpre ⟨9, .data⟩ (by simp) rfl _ rfl
      exact step_len_string Tryd.underlying9 rfl (met_some rfl rfl rfl p48) rfl p49 ⟨_, rfl, Below.refl _ _, rfl⟩
    · have p48 : a.tmps.getD 48 undef = .bool false := hpre ⟨8, .guard⟩ (by simp) rfl _ rfl
      have p50 : a.tmps.getD 50 undef = .int .i64 T1.size := hpre ⟨10, .data⟩ (by simp) rfl _ rfl
      have hz := hz1.out
      exact step_bin rfl (met_some rfl rfl rfl p48) rfl p50 rfl (r := .bool false) (w' := wa) (by simp [go_sem, hz]) ⟨_, rfl, Below.refl _ _, rfl⟩
    · have p48 : a.tmps.getD 48 undef = .bool false := hpre ⟨8, .data⟩ (by simp) rfl _ rfl
      have p51 : a.tmps.getD 51 undef = .bool false := hpre ⟨11, .data⟩ (by simp) rfl _ rfl
      exact step_pick rfl (met_none rfl) rfl p48 ⟨_, rfl, Below.refl _ _, p51⟩
  · intro a wa hba hF ha
    have f0 : a.tmps.getD 40 undef = .int .i64 0 := hF 0 _ rfl
    have f1 : a.tmps.getD 41 undef = .bool false := hF 1 _ rfl
    have f2 : a.tmps.getD 42 undef = .bool false := hF 2 _ rfl
    have f3 : a.tmps.getD 43 undef = .agg #[e8 d1 0, e8 d1 1, e8 d1 2, e8 d1 3, e8 d1 4, e8 d1 5, e8 d1 6, e8 d1 7, e8 d1 8, e8 d1 9, e8 d1 10, e8 d1 11, e8 d1 12, e8 d1 13, e8 d1 14, e8 d1 15] := hF 3 _ rfl
    have f4 : a.tmps.getD 44 undef = .slice ad k cap := hF 4 _ rfl
    have f5 : a.tmps.getD 45 undef = .agg #[e8 d1 0, e8 d1 1, e8 d1 2, e8 d1 3, e8 d1 4, e8 d1 5, e8 d1 6, e8 d1 7, e8 d1 8, e8 d1 9, e8 d1 10, e8 d1 11, e8 d1 12, e8 d1 13, e8 d1 14, e8 d1 15] := hF 5 _ rfl
    have f6 : a.tmps.getD 46 undef = .bool false := hF 6 _ rfl
    have f7 : a.tmps.getD 47 undef = .bool false := hF 7 _ rfl
    have f8 : a.tmps.getD 48 undef = .bool false := hF 8 _ rfl
    have f9 : a.tmps.getD 49 undef = .string T1 := hF 9 _ rfl
    have f10 : a.tmps.getD 50 undef = .int .i64 T1.size := hF 10 _ rfl
    have f11 : a.tmps.getD 51 undef = .bool false := hF 11 _ rfl
    have f12 : a.tmps.getD 52 undef = .bool false := hF 12 _ rfl
    clear hF
    simp only [List.foldl, fillFrom, f0, f1, f2, f3, f4, f5, f6, f7, f8, f9, f10, f11, f12] at ha
    clear f0 f1 f2 f3 f4 f5 f6 f7 f8 f9 f10 f11 f12
    subst ha
    simp only [Act.put, List.setIfInBounds_toArray, List.set_cons_succ, List.set_cons_zero]
    replace I1 := Lib.hid (I1.out.on hba)
    replace z14 := Lib.hid (z14.out.block (hba.block N1 hs3))
    have hs4 : N1 < wa.heap.size := Nat.lt_of_lt_of_le hs3 hba.size
    clear hba HT4 HR4 h18 hs3
    go_upto_block 0 with (fail)
    obtain ⟨W, hW⟩ : ∃ W : Nat, Hid (W = wordF l) := ⟨_, rfl⟩
    have hW64 : W < 18446744073709551616 := by rw [hW.out]; exact wN_8 _ 8 (Nat.le_refl _)
    go_cut [16] (fun s16 wx => s16 = .int .u64 W ∧ wa = wx)
    case first =>
      as_aux_lemma =>
        go_wp2_with fail
        go_loopg [16, 55] 8 (fun g s16 s55 wx => ∃ j : Nat, j + g = 8 ∧ s55 = .int .i64 j ∧ s16 = .int .u64 (wN d1 j) ∧ wa = wx)
        case atStart => exact ⟨0, by omega, rfl, rfl, rfl⟩
        case round =>
          obtain ⟨j, hj, rfl, rfl, rfl⟩ := hrel
          by_cases hlt : j < 8
          · have t1 : decide ((j : Int) < 8) = true := decide_eq_true (by omega)
            have hc := (z14.out (8 + j) (by omega)).1
            obtain ⟨X, hX⟩ : ∃ X, Hid (X = wN d1 j) := ⟨_, rfl⟩
            have hX2 := Lib.hid (wN_8m d1 j hlt)
            have hX3 := Lib.hid (show wN d1 (j + 1) = X * 256 + (d1 (8 + j)).toNat by rw [hX.out]; rfl)
            rw [← hX.out] at hX2 ⊢
            have hX4 : X * 256 < 18446744073709551616 := hX2.out
            go_wp2_with fail
            go_roundg (gk - 1)
            case measure => omega
            case rel =>
              refine ⟨j + 1, by omega, rfl, ?_, rfl⟩
              have hxb := (d1 (8 + j)).toNat_lt
              rw [show IntKind.u64.wrap ((d1 (8 + j)).toNat : Int) = ((d1 (8 + j)).toNat : Int) by rw [IntKind.wrap_u64]; omega]
              rw [hX3.out]
              show Value.int .u64 _ = Value.int .u64 _
              congr 1
              have : X * 256 + (d1 (8 + j)).toNat < 18446744073709551616 := by have h8 := wN_8 d1 (j + 1) (by omega); rw [hX3.out] at h8; exact h8
              simp only [IntKind.wrap_u64]
              omega
          · obtain rfl : j = 8 := by omega
            go_wp2_with fail
            go_meet
            exact ⟨by rw [hW.out, wordF, ← hd1.out], rfl⟩
    case rest =>
      as_aux_lemma =>
        obtain ⟨rfl, rfl⟩ := hcut
        clear z14 hs4 hd1 hT1 hz1
        go_upto_region 13 with (fail)
        obtain ⟨M, hM⟩ : ∃ M : Nat, max (m : Int) 1 = M := ⟨max m 1, by omega⟩
        obtain ⟨N, hN'⟩ : ∃ N : Nat, max (n : Int) 1 = N := ⟨max n 1, by omega⟩
        simp only [hM, hN']
        have hM1 : 0 < M := by omega
        have hN1 : 0 < N := by omega
        have hMb : M ≤ 4294967295 := by omega
        have hNb : N ≤ 4294967295 := by omega
        clear hM hN' hm hn
        have hMN : M * N ≤ 4294967295 * 4294967295 := Nat.mul_le_mul hMb hNb
        have hMNp : 0 < M * N := Nat.mul_pos hM1 hN1
        obtain ⟨Q, hQ⟩ : ∃ Q : Nat, (M : Int) * (N : Int) = (Q : Int) := ⟨M * N, by simp⟩
        have hQM : Q = M * N := by have : ((M * N : Nat) : Int) = (Q : Int) := by rw [← hQ]; simp
                                   omega
        have hQ0 : 0 < Q := by omega
        have hQb : Q < 18446744073709551616 := by omega
        have mm : (W % Q) % M = W % M := by rw [hQM]; exact Nat.mod_mul_right_mod W M N
        have lt : W % Q < Q := Nat.mod_lt _ hQ0
        obtain ⟨x, hx⟩ : ∃ x, Hid (x = W % Q) := ⟨_, rfl⟩
        obtain ⟨y, hy⟩ : ∃ y, Hid (y = W % M) := ⟨_, rfl⟩
        have hxM : (x : Int) % (M : Int) = (y : Int) := by have : x % M = y := by rw [hx.out, hy.out, mm]
                                                           omega
        have hxQ : x < Q := by rw [hx.out]; exact lt
        replace hQM := Lib.hid hQM
        clear mm lt hMN hMNp
        have hcq := Lib.hid (fun A h1 h2 => modulo_any (.slice ad k cap) l hlk W Q hW.out hQ0 A h1 h2)
        have hcm := Lib.hid (fun A h1 h2 => modulo_any (.slice ad k cap) l hlk W M hW.out hM1 A h1 h2)
        rw [← hx.out] at hcq
        rw [← hy.out] at hcm
        go_wp2_with fail
        refine (hcq.out _ (hT.out.on I1.out.2.2.1) (hr.out.on I1.out.2.2.1)).mono ?_; rintro e w5 ⟨rfl, hb⟩
        replace I1 := Lib.hid (I1.out.on hb); clear hb hcq
        go_wp2_with fail
        refine (hcm.out _ (hT.out.on I1.out.2.2.1) (hr.out.on I1.out.2.2.1)).mono ?_; rintro e w6 ⟨rfl, hb⟩
        replace I1 := Lib.hid (I1.out.on hb); clear hb hcm
        have hMz : (M : Int) ≠ 0 := by omega
        have tq : decide (Q ≤ x) = false := decide_eq_false (by omega)
        go_wp2_with fail
        refine (word_any _ l hlk W hW.out _ (hT.out.on I1.out.2.2.1) (hr.out.on I1.out.2.2.1)).mono ?_; rintro e w7 ⟨rfl, hb⟩
        replace I1 := Lib.hid (I1.out.on hb); clear hb
        obtain ⟨T2, hT2⟩ : ∃ T, Hid (T = txB d) := ⟨_, rfl⟩
        obtain ⟨x0, x1, x2, x3, x4, x5, x6, x7, x8, x9, x10, x11, x12, x13, x14, x15⟩ := I1.out.1.cells
        go_wp2_with fail
        refine (text_any d T2 hT2.out _).mono ?_; rintro e w8 ⟨rfl, hb⟩
        replace I1 := Lib.hid (I1.out.on hb); clear hb x0 x1 x2 x3 x4 x5 x6 x7 x8 x9 x10 x11 x12 x13 x14 x15
        clear hxM hxQ hQM hMz tq hQ hQb hQ0 hx hy hW64 hM1 hN1 hMb hNb
        as_aux_lemma =>
          go_wp2_with fail
          refine (read_txt d T2 hT2.out _).mono ?_; rintro e w9 ⟨rfl, hb⟩
          replace I1 := Lib.hid (I1.out.on hb); clear hb
          go_upto_region 18 with (fail)
          show Code.wp _ _ _ _ (w9.alloc (e16 d 34))
          have z23 := Lib.hid (B16.mk w9 d 34)
          replace I1 := Lib.hid (I1.out.on ((Below.refl _ _).alloc (Nat.le_refl _) (e16 d 34)))
          have g23 : w9.heap.size < (w9.alloc (e16 d 34)).heap.size := by simp
          generalize w9.alloc (e16 d 34) = w10 at I1 z23 g23 ⊢
          generalize w9.heap.size = N2 at z23 g23 ⊢
          have g9 : w.heap.size < w10.heap.size := by have := I1.out.2.2.2; omega
          have g10 : w.heap.size + 1 < w10.heap.size := by have := I1.out.2.2.2; omega
          obtain ⟨T3, hT3⟩ : ∃ T, Hid (T = txB c) := ⟨_, rfl⟩
          obtain ⟨b, hb⟩ : ∃ b, eqD c d = b := ⟨_, rfl⟩
          have qcd : (T3.toList == T2.toList) = b := by rw [hT3.out, hT2.out, txB_eq, hb]
          have h22 := Tryd.call22
          refine wp_region_facts (fun i v W => match i with | 0 => v = .int .i64 0 | 1 => v = .bool false | 2 => v = .bool false | 3 => v = .agg #[e8 d 0, e8 d 1, e8 d 2, e8 d 3, e8 d 4, e8 d 5, e8 d 6, e8 d 7, e8 d 8, e8 d 9, e8 d 10, e8 d 11, e8 d 12, e8 d 13, e8 d 14, e8 d 15] | 4 => v = .agg #[e8 d 0, e8 d 1, e8 d 2, e8 d 3, e8 d 4, e8 d 5, e8 d 6, e8 d 7, e8 d 8, e8 d 9, e8 d 10, e8 d 11, e8 d 12, e8 d 13, e8 d 14, e8 d 15] | 5 => v = .bool false | 6 => v = .bool false | 7 => v = .bool false | 8 => v = .agg #[e8 c 0, e8 c 1, e8 c 2, e8 c 3, e8 c 4, e8 c 5, e8 c 6, e8 c 7, e8 c 8, e8 c 9, e8 c 10, e8 c 11, e8 c 12, e8 c 13, e8 c 14, e8 c 15] | 9 => v = .string T3 | 10 => v = .agg #[e8 d 0, e8 d 1, e8 d 2, e8 d 3, e8 d 4, e8 d 5, e8 d 6, e8 d 7, e8 d 8, e8 d 9, e8 d 10, e8 d 11, e8 d 12, e8 d 13, e8 d 14, e8 d 15] | 11 => v = .string T2 | 12 => v = .bool b | 13 => v = .agg #[e8 c 0, e8 c 1, e8 c 2, e8 c 3, e8 c 4, e8 c 5, e8 c 6, e8 c 7, e8 c 8, e8 c 9, e8 c 10, e8 c 11, e8 c 12, e8 c 13, e8 c 14, e8 c 15] | 14 => v = .agg #[e8 d 0, e8 d 1, e8 d 2, e8 d 3, e8 d 4, e8 d 5, e8 d 6, e8 d 7, e8 d 8, e8 d 9, e8 d 10, e8 d 11, e8 d 12, e8 d 13, e8 d 14, e8 d 15] | 15 => v = .bool b | 16 => v = .bool false | _ => v = .bool false)
            (by kernel_rfl) (by kernel_rfl) (by decide +kernel) (by kernel_rfl) (fun i v w w' h _ => h) ?_ ?_
          · intro i
            rcases i with _ | _ | _ | _ | _ | _ | _ | _ | _ | _ | _ | _ | _ | _ | _ | _ | _ | _ | i
            all_goals intro o ho a wa hba hout hsz hpre
            all_goals cases ho
            all_goals have q24 : a.tmps.getD 24 undef = .int .i64 0 := (hout 24 (by decide +kernel)).trans rfl
            all_goals have q23 : a.tmps.getD 23 undef = .pointer (some ⟨N2, 0, none⟩) := (hout 23 (by decide +kernel)).trans rfl
            all_goals have q9 : a.tmps.getD 9 undef = .pointer (some ⟨w.heap.size, 0, none⟩) := (hout 9 (by decide +kernel)).trans rfl
            all_goals have q10 : a.tmps.getD 10 undef = .pointer (some ⟨w.heap.size + 1, 0, none⟩) := (hout 10 (by decide +kernel)).trans rfl
            all_goals clear hout hsz
            · exact step_move rfl (met_none rfl) (.inl rfl) ⟨_, rfl, Below.refl _ _, q24⟩
            · have p119 : a.tmps.getD 119 undef = .int .i64 0 := hpre ⟨0, .data⟩ (by simp) rfl _ rfl
              exact step_bin rfl (met_none rfl) rfl p119 rfl (r := .bool false) (w' := wa) (by simp [go_sem]) ⟨_, rfl, Below.refl _ _, rfl⟩
            · have p120 : a.tmps.getD 120 undef = .bool false := hpre ⟨1, .data⟩ (by simp) rfl _ rfl
              exact step_move rfl (met_none rfl) (.inl rfl) ⟨_, rfl, Below.refl _ _, p120⟩
            · have p121 : a.tmps.getD 121 undef = .bool false := hpre ⟨2, .guard⟩ (by simp) rfl _ rfl
              exact step_load rfl (met_some rfl rfl rfl p121) rfl q23 (load16 _ _ _ _ _ (z23.out.block (hba.block N2 g23))) ⟨_, rfl, Below.refl _ _, rfl⟩
            · have p121 : a.tmps.getD 121 undef = .bool false := hpre ⟨2, .guard⟩ (by simp) rfl _ rfl
              exact step_load rfl (met_some rfl rfl rfl p121) rfl q9 (load16 _ _ _ _ _ (I1.out.1.block (hba.block w.heap.size g9))) ⟨_, rfl, Below.refl _ _, rfl⟩
            · have p121 : a.tmps.getD 121 undef = .bool false := hpre ⟨2, .guard⟩ (by simp) rfl _ rfl
              have p122 : a.tmps.getD 122 undef = .agg #[e8 d 0, e8 d 1, e8 d 2, e8 d 3, e8 d 4, e8 d 5, e8 d 6, e8 d 7, e8 d 8, e8 d 9, e8 d 10, e8 d 11, e8 d 12, e8 d 13, e8 d 14, e8 d 15] := hpre ⟨3, .data⟩ (by simp) rfl _ rfl
              have p123 : a.tmps.getD 123 undef = .agg #[e8 d 0, e8 d 1, e8 d 2, e8 d 3, e8 d 4, e8 d 5, e8 d 6, e8 d 7, e8 d 8, e8 d 9, e8 d 10, e8 d 11, e8 d 12, e8 d 13, e8 d 14, e8 d 15] := hpre ⟨4, .data⟩ (by simp) rfl _ rfl
              exact step_bin rfl (met_some rfl rfl rfl p121) rfl p122 p123 (r := .bool false) (w' := wa) (neq34 d d false (by simp [eqD_same]) wa) ⟨_, rfl, Below.refl _ _, rfl⟩
            · have p121 : a.tmps.getD 121 undef = .bool false := hpre ⟨2, .data⟩ (by simp) rfl _ rfl
              have p124 : a.tmps.getD 124 undef = .bool false := hpre ⟨5, .data⟩ (by simp) rfl _ rfl
              exact step_pick rfl (met_none rfl) rfl p121 ⟨_, rfl, Below.refl _ _, p124⟩
            · have p125 : a.tmps.getD 125 undef = .bool false := hpre ⟨6, .data⟩ (by simp) rfl _ rfl
              exact step_move rfl (met_none rfl) (.inl rfl) ⟨_, rfl, Below.refl _ _, p125⟩
            · have p126 : a.tmps.getD 126 undef = .bool false := hpre ⟨7, .guard⟩ (by simp) rfl _ rfl
              exact step_load rfl (met_some rfl rfl rfl p126) rfl q10 (load16 _ _ _ _ _ (I1.out.2.1.block (hba.block (w.heap.size + 1) g10))) ⟨_, rfl, Below.refl _ _, rfl⟩
            · have p126 : a.tmps.getD 126 undef = .bool false := hpre ⟨7, .chain⟩ (by simp) rfl _ rfl
              have p127 : a.tmps.getD 127 undef = .agg #[e8 c 0, e8 c 1, e8 c 2, e8 c 3, e8 c 4, e8 c 5, e8 c 6, e8 c 7, e8 c 8, e8 c 9, e8 c 10, e8 c 11, e8 c 12, e8 c 13, e8 c 14, e8 c 15] := hpre ⟨8, .data⟩ (by simp) rfl _ rfl
              refine step_call rfl (met_some rfl rfl rfl p126) _ (args1 p127) (h22 _ _) ((text_any c T3 hT3.out _).mono ?_)
              rintro e w' ⟨rfl, hb⟩
              exact ⟨_, rfl, _, rfl, hb, rfl⟩
            · have p126 : a.tmps.getD 126 undef = .bool false := hpre ⟨7, .guard⟩ (by simp) rfl _ rfl
              exact step_load rfl (met_some rfl rfl rfl p126) rfl q9 (load16 _ _ _ _ _ (I1.out.1.block (hba.block w.heap.size g9))) ⟨_, rfl, Below.refl _ _, rfl⟩
            · have p126 : a.tmps.getD 126 undef = .bool false := hpre ⟨7, .guard⟩ (by simp) rfl _ rfl
              have p129 : a.tmps.getD 129 undef = .agg #[e8 d 0, e8 d 1, e8 d 2, e8 d 3, e8 d 4, e8 d 5, e8 d 6, e8 d 7, e8 d 8, e8 d 9, e8 d 10, e8 d 11, e8 d 12, e8 d 13, e8 d 14, e8 d 15] := hpre ⟨10, .data⟩ (by simp) rfl _ rfl
              refine step_call rfl (met_some rfl rfl rfl p126) _ (args1 p129) (h22 _ _) ((text_any d T2 hT2.out _).mono ?_)
              rintro e w' ⟨rfl, hb⟩
              exact ⟨_, rfl, _, rfl, hb, rfl⟩
            · have p126 : a.tmps.getD 126 undef = .bool false := hpre ⟨7, .guard⟩ (by simp) rfl _ rfl
              have p128 : a.tmps.getD 128 undef = .string T3 := hpre ⟨9, .data⟩ (by simp) rfl _ rfl
              have p130 : a.tmps.getD 130 undef = .string T2 := hpre ⟨11, .data⟩ (by simp) rfl _ rfl
              exact step_bin rfl (met_some rfl rfl rfl p126) rfl p128 p130 (r := .bool b) (w' := wa) (by simp [go_sem, qcd]) ⟨_, rfl, Below.refl _ _, rfl⟩
            · have p126 : a.tmps.getD 126 undef = .bool false := hpre ⟨7, .guard⟩ (by simp) rfl _ rfl
              exact step_load rfl (met_some rfl rfl rfl p126) rfl q10 (load16 _ _ _ _ _ (I1.out.2.1.block (hba.block (w.heap.size + 1) g10))) ⟨_, rfl, Below.refl _ _, rfl⟩
            · have p126 : a.tmps.getD 126 undef = .bool false := hpre ⟨7, .guard⟩ (by simp) rfl _ rfl
              exact step_load rfl (met_some rfl rfl rfl p126) rfl q9 (load16 _ _ _ _ _ (I1.out.1.block (hba.block w.heap.size g9))) ⟨_, rfl, Below.refl _ _, rfl⟩
            · have p126 : a.tmps.getD 126 undef = .bool false := hpre ⟨7, .guard⟩ (by simp) rfl _ rfl
              have p132 : a.tmps.getD 132 undef = .agg #[e8 c 0, e8 c 1, e8 c 2, e8 c 3, e8 c 4, e8 c 5, e8 c 6, e8 c 7, e8 c 8, e8 c 9, e8 c 10, e8 c 11, e8 c 12, e8 c 13, e8 c 14, e8 c 15] := hpre ⟨13, .data⟩ (by simp) rfl _ rfl
              have p133 : a.tmps.getD 133 undef = .agg #[e8 d 0, e8 d 1, e8 d 2, e8 d 3, e8 d 4, e8 d 5, e8 d 6, e8 d 7, e8 d 8, e8 d 9, e8 d 10, e8 d 11, e8 d 12, e8 d 13, e8 d 14, e8 d 15] := hpre ⟨14, .data⟩ (by simp) rfl _ rfl
              exact step_bin rfl (met_some rfl rfl rfl p126) rfl p132 p133 (r := .bool b) (w' := wa) (eql34 c d b hb wa) ⟨_, rfl, Below.refl _ _, rfl⟩
            · have p126 : a.tmps.getD 126 undef = .bool false := hpre ⟨7, .guard⟩ (by simp) rfl _ rfl
              have p131 : a.tmps.getD 131 undef = .bool b := hpre ⟨12, .data⟩ (by simp) rfl _ rfl
              have p134 : a.tmps.getD 134 undef = .bool b := hpre ⟨15, .data⟩ (by simp) rfl _ rfl
              exact step_bin rfl (met_some rfl rfl rfl p126) rfl p131 p134 (r := .bool false) (w' := wa) (by simp [go_sem]) ⟨_, rfl, Below.refl _ _, rfl⟩
            · have p126 : a.tmps.getD 126 undef = .bool false := hpre ⟨7, .data⟩ (by simp) rfl _ rfl
              have p135 : a.tmps.getD 135 undef = .bool false := hpre ⟨16, .data⟩ (by simp) rfl _ rfl
              exact step_pick rfl (met_none rfl) rfl p126 ⟨_, rfl, Below.refl _ _, p135⟩
          · intro a wa hba hF ha
            have f0 : a.tmps.getD 119 undef = .int .i64 0 := hF 0 _ rfl
            have f1 : a.tmps.getD 120 undef = .bool false := hF 1 _ rfl
            have f2 : a.tmps.getD 121 undef = .bool false := hF 2 _ rfl
            have f3 : a.tmps.getD 122 undef = .agg #[e8 d 0, e8 d 1, e8 d 2, e8 d 3, e8 d 4, e8 d 5, e8 d 6, e8 d 7, e8 d 8, e8 d 9, e8 d 10, e8 d 11, e8 d 12, e8 d 13, e8 d 14, e8 d 15] := hF 3 _ rfl
            have f4 : a.tmps.getD 123 undef = .agg #[e8 d 0, e8 d 1, e8 d 2, e8 d 3, e8 d 4, e8 d 5, e8 d 6, e8 d 7, e8 d 8, e8 d 9, e8 d 10, e8 d 11, e8 d 12, e8 d 13, e8 d 14, e8 d 15] := hF 4 _ rfl
            have f5 : a.tmps.getD 124 undef = .bool false := hF 5 _ rfl
            have f6 : a.tmps.getD 125 undef = .bool false := hF 6 _ rfl
            have f7 : a.tmps.getD 126 undef = .bool false := hF 7 _ rfl
            have f8 : a.tmps.getD 127 undef = .agg #[e8 c 0, e8 c 1, e8 c 2, e8 c 3, e8 c 4, e8 c 5, e8 c 6, e8 c 7, e8 c 8, e8 c 9, e8 c 10, e8 c 11, e8 c 12, e8 c 13, e8 c 14, e8 c 15] := hF 8 _ rfl
            have f9 : a.tmps.getD 128 undef = .string T3 := hF 9 _ rfl
            have f10 : a.tmps.getD 129 undef = .agg #[e8 d 0, e8 d 1, e8 d 2, e8 d 3, e8 d 4, e8 d 5, e8 d 6, e8 d 7, e8 d 8, e8 d 9, e8 d 10, e8 d 11, e8 d 12, e8 d 13, e8 d 14, e8 d 15] := hF 10 _ rfl
            have f11 : a.tmps.getD 130 undef = .string T2 := hF 11 _ rfl
            have f12 : a.tmps.getD 131 undef = .bool b := hF 12 _ rfl
            have f13 : a.tmps.getD 132 undef = .agg #[e8 c 0, e8 c 1, e8 c 2, e8 c 3, e8 c 4, e8 c 5, e8 c 6, e8 c 7, e8 c 8, e8 c 9, e8 c 10, e8 c 11, e8 c 12, e8 c 13, e8 c 14, e8 c 15] := hF 13 _ rfl
            have f14 : a.tmps.getD 133 undef = .agg #[e8 d 0, e8 d 1, e8 d 2, e8 d 3, e8 d 4, e8 d 5, e8 d 6, e8 d 7, e8 d 8, e8 d 9, e8 d 10, e8 d 11, e8 d 12, e8 d 13, e8 d 14, e8 d 15] := hF 14 _ rfl
            have f15 : a.tmps.getD 134 undef = .bool b := hF 15 _ rfl
            have f16 : a.tmps.getD 135 undef = .bool false := hF 16 _ rfl
            have f17 : a.tmps.getD 136 undef = .bool false := hF 17 _ rfl
            clear hF
            simp only [List.foldl, fillFrom, f0, f1, f2, f3, f4, f5, f6, f7, f8, f9, f10, f11, f12, f13, f14, f15, f16, f17] at ha
            clear f0 f1 f2 f3 f4 f5 f6 f7 f8 f9 f10 f11 f12 f13 f14 f15 f16 f17
            subst ha
            simp only [Act.put, List.setIfInBounds_toArray, List.set_cons_succ, List.set_cons_zero]

            replace I1 := Lib.hid (I1.out.on hba)
            clear hba h22 g9 g10 z23 g23 hb hT3 hT2 qcd
            as_aux_lemma =>
              obtain ⟨p, hp⟩ : ∃ p, Hid (p = s.extract 0 (min (s.size : Int) 200).toNat) := ⟨_, rfl⟩
              have hpz : p.size ≤ 200 := by rw [hp.out]; exact cut_size s
              obtain ⟨d5, hd5⟩ : ∃ d, Hid (d = rdE p) := ⟨_, rfl⟩
              obtain ⟨n5, hn5⟩ : ∃ n, Hid (n = rdN p) := ⟨_, rfl⟩
              have hcut := cut_read s p hp.out
              rw [← hd5.out, ← hn5.out] at hcut
              obtain ⟨T5, hT5⟩ : ∃ T, Hid (T = txB d5) := ⟨_, rfl⟩
              rw [← hT5.out] at hcut
              have hrd := Lib.hid hcut
              clear hcut
              go_wp2_with fail
              rw [← hp.out]
              refine (read_to p (by omega) d5 n5 hd5.out hn5.out _).mono ?_; rintro e w11 ⟨rfl, hb⟩
              replace I1 := Lib.hid (I1.out.on hb); clear hb hp hd5 hn5
              go_upto_region 21 with (fail)
              show Code.wp _ _ _ _ (w11.alloc (e16 d5 34))
              have z25 := Lib.hid (B16.mk w11 d5 34)
              replace I1 := Lib.hid (I1.out.on ((Below.refl _ _).alloc (Nat.le_refl _) (e16 d5 34)))
              generalize w11.alloc (e16 d5 34) = w12 at I1 z25 ⊢
              generalize w11.heap.size = N3 at z25 ⊢
              go_cut [166] (fun s166 wx => s166 = .bool false ∧ Hid (Below w.heap.size w wx))
              case first =>
                as_aux_lemma =>
                  obtain ⟨x0, x1, x2, x3, x4, x5, x6, x7, x8, x9, x10, x11, x12, x13, x14, x15⟩ := z25.out.cells
                  have E34 := eq34z
                  rcases hrd.out with ⟨rfl, e2⟩ | ⟨rfl, e2⟩
                  · have e1 : T5.toList = s.toList := by simpa using e2
                    go_wp2_with fail
                    refine (text_any d5 T5 hT5.out _).mono ?_; rintro e w13 ⟨rfl, hb⟩
                    replace I1 := Lib.hid (I1.out.on hb); clear hb
                    clear x0 x1 x2 x3 x4 x5 x6 x7 x8 x9 x10 x11 x12 x13 x14 x15
                    go_wp2_with fail
                    go_meet
                    exact ⟨rfl, I1.out.2.2.1⟩
                  · go_wp2_with fail
                    go_meet
                    exact ⟨rfl, I1.out.2.2.1⟩
              case rest =>
                as_aux_lemma =>
                  clear I1 z25 hrd
                  obtain ⟨rfl, hcut⟩ := hcut
                  go_wp2_with fail
                  refine (awake_any _ (hT.out.on hcut.out)).mono ?_; rintro e w14 ⟨rfl, hb⟩
                  have B9 := Lib.hid (hcut.out.trans (hb.mono hcut.out.size))
                  clear hb
                  go_wp2_with fail
                  go_ret
                  exact ⟨rfl, B9.out⟩
/-- The law Md5Parts. -/
theorem md5Parts_walk (a0 : Option Addr) (len0 cap0 : Nat) (z0 : List Int) (a1 a2 : Int) (z3 z4 : List Int) (a5 : ByteArray) (w : World) (w0 : IsRow .u8 w a0 len0 cap0 z0) (w1 : (Lit.int .u32 a1).wf = true) (w2 : (Lit.int .u32 a2).wf = true) (l3 : z3.length = 16) (w3 : ∀ i (hi : i < z3.length), (Lit.int .u8 z3[i]).wf = true) (l4 : z4.length = 16) (w4 : ∀ i (hi : i < z4.length), (Lit.int .u8 z4[i]).wf = true) (w5 : a5.size ≤ maxLen) (hT : Tabs w) :
    Calls Tryd.prog 9 #[.slice a0 len0 cap0, .int .u32 a1, .int .u32 a2, .agg (z3.map (Value.int .u8)).toArray, .agg (z4.map (Value.int .u8)).toArray, .string a5] w fun e w' => e = .returned (.bool true) ∧ Below w.heap.size w w' := by
  obtain ⟨l, hl, hlm, hr⟩ := w0.bytes
  obtain ⟨d, hd⟩ := d_of z3 l3 w3
  obtain ⟨c, hc⟩ := d_of z4 l4 w4
  have h1 := u32_bd a1 w1
  have h2 := u32_bd a2 w2
  obtain ⟨m, rfl⟩ : ∃ m : Nat, a1 = m := ⟨a1.toNat, by omega⟩
  obtain ⟨n, rfl⟩ : ∃ n : Nat, a2 = n := ⟨a2.toNat, by omega⟩
  rw [hd, hc]
  exact parts_any a0 len0 cap0 l hl hlm m n (by omega) (by omega) d c a5 (by unfold maxLen at w5; omega) w hr hT
end Go.Proofs.YtimiejahkcjcdaaDoor
