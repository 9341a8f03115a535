/- decimal's right. -/
import Derived.Test.YtaidemghhagniaaGreatDoorD11
import Derived.ScopeJumps
namespace Go.Proofs.YtaidemghhagniaaGreatDoor
open Go Go.RowKit
theorem pre_dot (s : ByteArray) (hs : s.size ≤ 2000) (w : World) : Calls Tryz.prog 46 #[.string s, .string ⟨#[46]⟩] w fun e w' => e = .returned (.bool (decide (s.data.toList.head? = some 46))) ∧ w = w' := by
  obtain ⟨b, hb⟩ : ∃ b, Hid (decide (s.data.toList.head? = some 46) = b) := ⟨_, Lib.hid rfl⟩
  rw [hb.out]
  have h82 : Hid (Calls Tryz.prog 82 #[.string s, .string ⟨#[46]⟩] w fun e w' => e = .returned (.bool b) ∧ w = w') := by
    by_cases h0 : 1 ≤ s.size
    · have u1 : decide ((1 : Int) ≤ (s.size : Int)) = true := decide_eq_true (by omega)
      have u1' : decide (1 ≤ s.size) = true := decide_eq_true (by omega)
      have hl := drop_cons s.data.toList 0 (by rw [len_size]; exact h0)
      rw [List.drop_zero] at hl
      have hx : (s.extract 0 1).data.toList = [s.data.toList.getD 0 0] := by
        rw [ByteArray.data_extract, Array.toList_extract, List.extract_eq_take_drop, List.drop_zero]
        conv => lhs; rw [hl]
        rfl
      have hh : s.data.toList.head? = some (s.data.toList.getD 0 0) := by
        conv => lhs; rw [hl]
        rfl
      obtain ⟨c, hc⟩ : ∃ c, c = s.data.toList.getD 0 0 := ⟨_, rfl⟩
      rw [← hc] at hx hh
      clear hl hc
      by_cases g : c = 46
      · obtain rfl : b = true := by rw [← hb.out, hh, g]; rfl
        have hE : ((s.extract 0 1).toList == [46]) = true := by rw [ByteArray.toList_eq, hx, g]; rfl
        clear hx hh g hb
        go_enter Tryz.func82, Tryz.ntmps82
        go_wp2_with fail
        go_ret
        exact ⟨rfl, rfl⟩
      · obtain rfl : b = false := by rw [← hb.out, hh]; exact decide_eq_false (fun e => g (Option.some.inj e))
        have hE : ((s.extract 0 1).toList == [46]) = false := by rw [ByteArray.toList_eq, hx]; simpa using g
        clear hx hh g hb
        go_enter Tryz.func82, Tryz.ntmps82
        go_wp2_with fail
        go_ret
        exact ⟨rfl, rfl⟩
    · have u1 : decide ((1 : Int) ≤ (s.size : Int)) = false := decide_eq_false (by omega)
      have u1' : decide (1 ≤ s.size) = false := decide_eq_false (by omega)
      have hn : s.data.toList = [] := List.length_eq_zero_iff.1 (by rw [len_size]; omega)
      obtain rfl : b = false := by rw [← hb.out, hn]; rfl
      have tE : s = ByteArray.empty := ba_ext (by rw [hn]; rfl)
      clear hn hb
      subst tE
      go_enter Tryz.func82, Tryz.ntmps82
      go_wp2_with fail
      go_ret
      exact ⟨rfl, rfl⟩
  clear hb
  go_enter Tryz.func46, Tryz.ntmps46
  go_wp2_with fail
  refine h82.out.mono ?_; rintro x w1 ⟨rfl, rfl⟩
  go_wp2_with fail
  go_ret
  exact ⟨rfl, rfl⟩
/-- What right answers, on the bytes. -/
def tailL : List UInt8 → Bool
  | [] => true
  | c :: t => (c == 101 || c == 69) && (decide (1 ≤ digN (sgd t)) && decide (digN (sgd t) ≤ 5) && (digN (sgd t) == (sgd t).length))
def manL (l : List UInt8) : Nat × List UInt8 :=
  let rest := l.drop (digN l)
  match rest with
  | [] => (digN l, [])
  | c :: t => if c = 46 then (digN l + digN t, t.drop (digN t)) else (digN l, c :: t)
def rightL (l : List UInt8) : Bool := (manL (sgd l)).1 != 0 && tailL (manL (sgd l)).2

theorem sgd_le (l : List UInt8) : (sgd l).length ≤ l.length := by
  cases l with
  | nil => exact Nat.le_refl _
  | cons c t => rw [sgd]; split; exact Nat.le_succ _; exact Nat.le_refl _
theorem list_hd (l : List UInt8) : l = [] ∨ ∃ c t, l = c :: t := by cases l; exact .inl rfl; exact .inr ⟨_, _, rfl⟩
theorem mk_list (l : List UInt8) : ∃ s : ByteArray, Hid (s.data.toList = l) ∧ s = ⟨l.toArray⟩ := ⟨⟨l.toArray⟩, Lib.hid rfl, rfl⟩
set_option maxRecDepth 100000 in
set_option maxHeartbeats 2000000 in
theorem right_any (s : ByteArray) (hs : s.size ≤ 2000) (w : World) : Calls Tryz.prog 33 #[.string s] w fun e w' => e = .returned (.bool (rightL s.data.toList)) ∧ w = w' := by
  have c1 := signed_any s hs w
  obtain ⟨s1, hl1, h1⟩ := mk_list (sgd s.data.toList)
  rw [← h1] at c1
  have hz1 : s1.size ≤ 2000 := by
    have := len_size s1
    rw [hl1.out] at this
    have h2 := len_size s
    have h3 := sgd_le s.data.toList
    omega
  have c2 := digits_any s1 hz1 w
  obtain ⟨n, hn⟩ : ∃ n, n = digN s1.data.toList := ⟨_, rfl⟩
  rw [← hn] at c2
  have hns : n ≤ s1.size := by rw [hn, ← len_size]; exact digN_le _
  obtain ⟨s4, h4⟩ : ∃ s4, s1.extract n s1.size = s4 := ⟨_, rfl⟩
  have hl4 : s4.data.toList = s1.data.toList.drop n := by rw [← h4]; exact ext_list _ _
  have hz4 : s4.size ≤ 2000 := by rw [← h4, ext_size]; omega
  have c3 := pre_dot s4 hz4 w
  obtain ⟨R, hR⟩ : ∃ R, R = rightL s.data.toList := ⟨_, rfl⟩
  rw [← hR]
  unfold rightL at hR
  rw [← hl1.out] at hR
  obtain ⟨N, r, hNr⟩ : ∃ (N : Nat) (r : ByteArray), manL s1.data.toList = (N, r.data.toList) := ⟨(manL s1.data.toList).1, ⟨(manL s1.data.toList).2.toArray⟩, rfl⟩
  rw [hNr] at hR
  replace hR : Hid (R = (N != 0 && tailL r.data.toList)) := hR
  unfold manL at hNr
  rw [← hn, ← hl4] at hNr
  replace hNr := Lib.hid hNr
  replace hl4 := Lib.hid hl4
  replace c1 := Lib.hid c1
  replace c2 := Lib.hid c2
  replace c3 := Lib.hid c3
  clear hn hl1 h1
  have hrz : Hid (N ≤ 4000 ∧ r.size ≤ 2000) := Lib.hid (by
    have := hNr.out
    have hl := len_size r
    dsimp only at this
    split at this
    · simp only [Prod.mk.injEq] at this
      rw [← this.2] at hl
      simp at hl
      omega
    · rename_i c t hct
      have hlt : t.length + 1 = s4.size := by rw [← len_size s4, hct]; rfl
      have hdl := digN_le t
      split at this
      · simp only [Prod.mk.injEq] at this
        rw [← this.2, List.length_drop] at hl
        omega
      · simp only [Prod.mk.injEq] at this
        rw [← this.2] at hl
        simp at hl
        omega)
  go_enter Tryz.func33, Tryz.ntmps33
  go_wp2_with fail
  refine wp_scope_jumps 0 (fun a' w' => R = false ∧ w = w' ∧ ∃ u0 u1 u2 u3 u4 u5 u6 u7 u8 u9 u10 u11 u12 u13 u14 u15 u16 u17 u18 u19 u20 u21 u22 u23 u24 u25 u26 u27 u28 u29 u30 u31 u32 u33 u34 u35 u36 u37 u38 u39 u40 u41 u42 u43 u44 u45 u46 u47 u48 u49 u50 u51 u52 u53 u54 : Value, a' = ⟨#[u0, u1, u2, u3, u4, u5, u6, u7, u8, u9, u10, u11, u12, u13, u14, u15, u16, u17, u18, u19, u20, u21, u22, u23, u24, u25, u26, u27, u28, u29, u30, u31, u32, u33, u34, u35, u36, u37, u38, u39, u40, u41, u42, u43, u44, u45, u46, u47, u48, u49, u50, u51, u52, u53, u54], []⟩) (fun _ _ => 0) rfl ?_ ?_
  · go_wp2_with fail
    refine c1.out.mono ?_; rintro x w1 ⟨rfl, rfl⟩
    go_wp2_with fail
    refine c2.out.mono ?_; rintro x w1 ⟨rfl, rfl⟩
    obtain ⟨bd, hbd⟩ : ∃ bd, Hid (decide (s4.data.toList.head? = some 46) = bd) := ⟨_, Lib.hid rfl⟩
    rw [hbd.out] at c3
    go_upto_if 15 with (refine c3.out.mono ?_; rintro x w1 ⟨rfl, rfl⟩)
    clear c1 c2 c3
    go_cut [3, 4] (fun s3 s4 wx => s3 = .int .i64 (N : Int) ∧ s4 = .string r ∧ w = wx)
    case first =>
      rcases list_hd s4.data.toList with hs4 | ⟨c, t, hs4⟩
      · obtain rfl : bd = false := by rw [← hbd.out, hs4]; rfl
        have hq := hNr.out
        rw [hs4] at hq
        simp only [Prod.mk.injEq] at hq
        obtain ⟨rfl, hq⟩ := hq
        obtain rfl : s4 = r := ba_ext (hs4.trans hq)
        clear hs4 hq hbd hNr hl4 h4
        go_wp2_with fail
        go_meet
        exact ⟨rfl, rfl, rfl⟩
      · have hq := hNr.out
        rw [hs4] at hq
        dsimp only at hq
        by_cases g : c = 46
        · obtain rfl : bd = true := by rw [← hbd.out, hs4, g]; rfl
          rw [if_pos g] at hq
          simp only [Prod.mk.injEq] at hq
          have hz : 1 + t.length = s4.size := by rw [← len_size s4, hs4]; simp; omega
          obtain ⟨s5, h5⟩ : ∃ s5, s4.extract 1 s4.size = s5 := ⟨_, rfl⟩
          have hl5 : s5.data.toList = t := by rw [← h5, ext_list, hs4]; rfl
          have hz5 : s5.size ≤ 2000 := by rw [← h5, ext_size]; omega
          have c4 := digits_any s5 hz5 w
          rw [hl5] at c4
          have hdl := digN_le t
          obtain ⟨m, hm⟩ : ∃ m, m = digN t := ⟨_, rfl⟩
          rw [← hm] at c4 hq hdl
          obtain ⟨rfl, hq⟩ := hq
          have h6 : s4.extract (1 + m) s4.size = r := ba_ext (by rw [ext_list, hs4, ← hq, Nat.add_comm, List.drop_succ_cons])
          have hb1 : 1 ≤ s4.size := by omega
          have hb2 : 1 + m ≤ s4.size := by omega
          replace c4 := Lib.hid c4
          clear hq hl5 hs4 hbd hNr hl4 h4 hm hR hrz g hz hdl
          go_wp2_with fail
          refine c4.out.mono ?_; rintro x w1 ⟨rfl, rfl⟩
          go_wp2_with fail
          go_meet
          exact ⟨by go_num, congrArg Value.string h6, rfl⟩
        · obtain rfl : bd = false := by rw [← hbd.out, hs4]; simpa using g
          rw [if_neg g] at hq
          simp only [Prod.mk.injEq] at hq
          obtain ⟨rfl, hq⟩ := hq
          obtain rfl : s4 = r := ba_ext (hs4.trans hq)
          clear hs4 hq hbd hNr hl4 h4
          go_wp2_with fail
          go_meet
          exact ⟨rfl, rfl, rfl⟩
    case rest =>
      obtain ⟨rfl, rfl, rfl⟩ := hcut
      clear hbd hNr hl4 h4
      obtain ⟨hN4, hr2⟩ := hrz.out
      by_cases hN : N = 0
      · have u0 : ((N : Int) == 0) = true := by simp [hN]
        obtain rfl : R = false := by rw [hR.out, hN]; rfl
        clear hR hrz hN
        go_wp2_with fail
        go_step3
        exact ⟨rfl, rfl, rfl, _, _, _, _, _, _, _, _, _, _, _, _, _, _, _, _, _, _, _, _, _, _, _, _, _, _, _, _, _, _, _, _, _, _, _, _, _, _, _, _, _, _, _, _, _, _, _, _, _, _, _, _, _, _, _, rfl⟩
      · have u0 : ((N : Int) == 0) = false := by simp [hN]
        have hN' : (N != 0) = true := by simp [hN]
        have hR' := hR.out
        rw [hN', Bool.true_and] at hR'
        clear hR hrz hN hN'
        rcases list_hd r.data.toList with hr | ⟨c, t, hr⟩
        · obtain rfl : R = true := by rw [hR', hr]; rfl
          have e1 : r.toList = [] := by rw [ByteArray.toList_eq, hr]
          have e2 : r.toList.isEmpty = true := by rw [e1]; rfl
          clear hR' hr
          go_wp2_with fail
          simp only [Exit.jump]
          go_ret
          exact ⟨rfl, rfl⟩
        · have e1 : ¬ r.toList = [] := by rw [ByteArray.toList_eq, hr]; simp
          have e2 : r.toList.isEmpty = false := by rw [ByteArray.toList_eq, hr]; rfl
          have hrs : 0 < r.size := by rw [← len_size, hr]; simp
          obtain ⟨c', hc', hB⟩ := bt_u r 0 hrs
          obtain rfl : c = c' := by rw [← hc'.out]; unfold bt; rw [hr]; rfl
          clear hc'
          rw [hr, tailL] at hR'
          by_cases g : c = 101 ∨ c = 69
          · have g1 : (c == 101 || c == 69) = true := by simpa using g
            rw [g1, Bool.true_and] at hR'
            obtain ⟨s7, h7⟩ : ∃ s7, r.extract 1 r.size = s7 := ⟨_, rfl⟩
            have hl7 : s7.data.toList = t := by rw [← h7, ext_list, hr]; rfl
            have hz7 : s7.size ≤ 2000 := by rw [← h7, ext_size]; omega
            have c5 := signed_any s7 hz7 w
            rw [hl7] at c5
            obtain ⟨s8, hl8, h8⟩ := mk_list (sgd t)
            rw [← h8] at c5
            have hz8 : s8.size ≤ 2000 := by
              have := len_size s8
              rw [hl8.out] at this
              have h2 := len_size s7
              rw [hl7] at h2
              have h3 := sgd_le t
              omega
            have c6 := digits_any s8 hz8 w
            rw [← hl8.out, len_size] at hR'
            obtain ⟨k, hk⟩ : ∃ k, k = digN s8.data.toList := ⟨_, rfl⟩
            rw [← hk] at c6 hR'
            have hk2 : k ≤ s8.size := by rw [hk, ← len_size]; exact digN_le _
            replace c5 := Lib.hid c5
            replace c6 := Lib.hid c6
            replace hR' := Lib.hid hR'
            clear hl7 hl8 h8 hk hr g1
            have hcc : (c.toNat : Int) = 101 ∨ (c.toNat : Int) = 69 := by rcases g with rfl | rfl; exact .inl rfl; exact .inr rfl
            clear g
            rcases hcc with h | h
            all_goals
              rw [h] at hB
              clear h
              go_wp2_with fail
              refine c5.out.mono ?_; rintro x w1 ⟨rfl, rfl⟩
              go_wp2_with fail
              refine c6.out.mono ?_; rintro x w1 ⟨rfl, rfl⟩
              clear c5 c6
              by_cases k1 : 1 ≤ k
              · have a1 : decide ((1 : Int) ≤ (k : Int)) = true := decide_eq_true (by omega)
                have a1' : decide (1 ≤ k) = true := decide_eq_true k1
                by_cases k5 : k ≤ 5
                · have a2 : decide ((k : Int) ≤ 5) = true := decide_eq_true (by omega)
                  have a2' : decide (k ≤ 5) = true := decide_eq_true k5
                  by_cases kz : k = s8.size
                  · have a3 : ((k : Int) == (s8.size : Int)) = true := by simp [kz]
                    obtain rfl : R = true := by rw [hR'.out, a1', a2', kz]; simp
                    clear hR' k1 k5 kz
                    go_wp2_with fail
                    simp only [Exit.jump]
                    go_ret
                    exact ⟨rfl, rfl⟩
                  · have a3 : ((k : Int) == (s8.size : Int)) = false := by simp; omega
                    obtain rfl : R = false := by rw [hR'.out, show (k == s8.size) = false by simpa using kz, Bool.and_false]
                    clear hR' k1 k5 kz
                    go_wp2_with fail
                    go_step3
                    go_wp2_with fail
                    simp only [Exit.jump]
                    go_ret
                    exact ⟨rfl, rfl⟩
                · have a2 : decide ((k : Int) ≤ 5) = false := decide_eq_false (by omega)
                  have a2' : decide (k ≤ 5) = false := decide_eq_false k5
                  obtain rfl : R = false := by rw [hR'.out, a2']; simp
                  clear hR' k1 k5
                  go_wp2_with fail
                  go_step3
                  go_wp2_with fail
                  simp only [Exit.jump]
                  go_ret
                  exact ⟨rfl, rfl⟩
              · have a1 : decide ((1 : Int) ≤ (k : Int)) = false := decide_eq_false (by omega)
                have a1' : decide (1 ≤ k) = false := decide_eq_false k1
                obtain rfl : R = false := by rw [hR'.out, a1']; simp
                clear hR' k1
                go_wp2_with fail
                go_step3
                go_wp2_with fail
                simp only [Exit.jump]
                go_ret
                exact ⟨rfl, rfl⟩
          · obtain rfl : R = false := by
              have g1 : (c == 101 || c == 69) = false := by simpa using g
              rw [hR', g1, Bool.false_and]
            have v1 : ((c.toNat : Int) != 101) = true := by rw [bne, ne_bt c 101 101 rfl (fun e => g (.inl e))]; rfl
            have v2 : ((c.toNat : Int) != 69) = true := by rw [bne, ne_bt c 69 69 rfl (fun e => g (.inr e))]; rfl
            clear hR' hr g
            go_wp2_with fail
            go_step3
            exact ⟨rfl, rfl, rfl, _, _, _, _, _, _, _, _, _, _, _, _, _, _, _, _, _, _, _, _, _, _, _, _, _, _, _, _, _, _, _, _, _, _, _, _, _, _, _, _, _, _, _, _, _, _, _, _, _, _, _, _, _, _, _, rfl⟩
  · rintro a' w' ⟨hF, rfl, u0, u1, u2, u3, u4, u5, u6, u7, u8, u9, u10, u11, u12, u13, u14, u15, u16, u17, u18, u19, u20, u21, u22, u23, u24, u25, u26, u27, u28, u29, u30, u31, u32, u33, u34, u35, u36, u37, u38, u39, u40, u41, u42, u43, u44, u45, u46, u47, u48, u49, u50, u51, u52, u53, u54, rfl⟩
    subst hF
    go_wp2_with fail
    simp only [Exit.jump]
    go_ret
    exact ⟨rfl, rfl⟩

end Go.Proofs.YtaidemghhagniaaGreatDoor
