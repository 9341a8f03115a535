/- The reference's Number over the translation. -/
import Derived.Test.YtiapkindbbbdpaaGreatDoorK19
import Derived.Test.YtiapkindbbbdpaaGreatDoorP2
namespace Go.Proofs.YtiapkindbbbdpaaGreatDoor
open Go.RowKit

theorem head_byt (s : ByteArray) (h : 0 < s.size) : (s.data.toList.head? = some 45) ↔ byt s 0 = 45 := by
  unfold byt
  have hl : 0 < s.data.toList.length := by simpa using h
  generalize s.data.toList = l at hl
  cases l with
  | nil => simp at hl
  | cons c r =>
    simp only [List.head?_cons, Option.some.injEq, List.getD_cons_zero]
    constructor
    · rintro rfl; rfl
    · intro e
      apply UInt8.toNat_inj.1
      show _ = 45
      omega
theorem getD_byt (s : ByteArray) (i : Nat) : (s.data.toList.getD i 0 = 48) ↔ byt s i = 48 := by
  unfold byt
  generalize s.data.toList.getD i 0 = c
  constructor
  · rintro rfl; rfl
  · intro e
    apply UInt8.toNat_inj.1
    show _ = 48
    omega
theorem refAcc_at (s : ByteArray) (i a : Nat) (h : i < s.size) : refAcc (s.data.toList.drop i) a = if 48 ≤ byt s i ∧ byt s i ≤ 57 then if 9223372036854775808 < 10 * a + ((byt s i).toNat - 48) then none else refAcc (s.data.toList.drop (i + 1)) (10 * a + ((byt s i).toNat - 48)) else none := by
  have hl : i < s.data.toList.length := by simpa using h
  rw [List.drop_eq_getElem_cons hl, refAcc]
  have e : byt s i = ((s.data.toList[i]).toNat : Int) := by
    unfold byt; rw [List.getD_eq_getElem?_getD, List.getElem?_eq_getElem hl, Option.getD_some]
  rw [e, Int.toNat_natCast]
  generalize s.data.toList[i] = c
  by_cases h1 : 48 ≤ c.toNat ∧ c.toNat ≤ 57
  · have h2 : (48 : Int) ≤ c.toNat ∧ (c.toNat : Int) ≤ 57 := by omega
    rw [if_pos h1, if_pos h2]
  · have h2 : ¬ ((48 : Int) ≤ c.toNat ∧ (c.toNat : Int) ≤ 57) := by omega
    rw [if_neg h1, if_neg h2]
set_option maxRecDepth 100000 in
set_option maxHeartbeats 2000000 in
theorem rnum_to (s : ByteArray) (hs : s.size ≤ 100) (least most x e : Int) (h : numF s.data.toList least most = (x, e)) (w : World) :
    Calls Tryz.prog 30 #[.string s, .int .i64 least, .int .i64 most] w fun r w' => r = .returned (.tuple #[.int .i64 x, .int .i64 e]) ∧ w = w' := by
  rw [numF_ref] at h
  obtain ⟨k, hk⟩ : ∃ k : Nat, (if s.data.toList.head? = some 45 then 1 else 0) = k := ⟨_, rfl⟩
  unfold refN at h
  rw [hk] at h
  simp only at h
  have hz : s.data.toList.length = s.size := by simp
  rw [hz] at h
  replace h := Lib.hid h
  replace hk := Lib.hid hk
  replace hz := Lib.hid hz
  go_enter Tryz.func30, Tryz.ntmps30
  go_upto_region 2 with (fail)
  obtain ⟨b, hb⟩ : ∃ b : Bool, Hid (k = if b then 1 else 0) := ⟨decide (s.data.toList.head? = some 45), Lib.hid (by rw [← hk.out]; by_cases e : s.data.toList.head? = some 45 <;> simp [e])⟩
  go_cut [19] (fun s19 wx => s19 = .bool b ∧ w = wx)
  case first =>
    by_cases h0 : 0 < s.size
    · have t1 : decide (0 < (s.size : Int)) = true := decide_eq_true (by omega)
      have hB := byt_eq s 0 h0
      by_cases hm : byt s 0 = 45
      · have hk' := hk.out
        rw [if_pos ((head_byt s h0).2 hm), hb.out] at hk'
        rw [hm] at hB
        obtain rfl : b = true := by cases b <;> simp at hk' ⊢
        clear hk' hk hz h
        go_wp2_with fail
        go_meet
        exact ⟨rfl, rfl⟩
      · have hk' := hk.out
        rw [if_neg (fun e => hm ((head_byt s h0).1 e)), hb.out] at hk'
        obtain rfl : b = false := by cases b <;> simp at hk' ⊢
        obtain ⟨c, hc⟩ : ∃ c, c = byt s 0 := ⟨_, rfl⟩
        rw [← hc] at hB hm
        have s1 : (c == 45) = false := by simpa using hm
        clear hc hm hk' hk hz h
        go_wp2_with fail
        go_meet
        exact ⟨rfl, rfl⟩
    · have t1 : decide (0 < (s.size : Int)) = false := decide_eq_false (by omega)
      have hk' := hk.out
      have hnil : s.data.toList = [] := List.length_eq_zero_iff.1 (by rw [hz.out]; omega)
      rw [hnil, hb.out] at hk'
      obtain rfl : b = false := by cases b <;> simp at hk' ⊢
      clear hnil hk' hk hz h
      go_wp2_with fail
      go_meet
      exact ⟨rfl, rfl⟩
  case rest =>
   obtain ⟨rfl, rfl⟩ := hcut
   go_upto_if 19 with (fail)
   go_cut [8] (fun s8 wx => s8 = .int .i64 (k : Int) ∧ w = wx)
   case first =>
    cases b with
    | true =>
      obtain rfl := hb.out
      go_wp2_with fail
      go_meet
      exact ⟨rfl, rfl⟩
    | false =>
      obtain rfl := hb.out
      go_wp2_with fail
      go_meet
      exact ⟨rfl, rfl⟩
   case rest =>
    clear hb
    obtain ⟨rfl, rfl⟩ := hcut
    have hk1 : k = 0 ∨ k = 1 := by have := hk.out; split at this <;> omega
    have hkn : k ≤ s.size := by
      have := hk.out
      split at this
      · rename_i e
        rcases Nat.eq_zero_or_pos s.size with e0 | e0
        · rw [List.length_eq_zero_iff.1 (hz.out.trans e0)] at e; cases e
        · omega
      · omega
    by_cases hn : s.size = k
    · have h' := h.out
      rw [if_pos (.inl hn)] at h'
      simp only [Prod.mk.injEq] at h'
      obtain ⟨rfl, rfl⟩ := h'
      have t1 : ((s.size : Int) == (k : Int)) = true := by simp [hn]
      clear h hk hz hk1 hn
      go_wp2_with fail
      go_ret2
      exact ⟨rfl, rfl⟩
    · have t1 : ((s.size : Int) == (k : Int)) = false := by simp; omega
      have hkl : k < s.size := by omega
      have hB := byt_eq s k hkl
      obtain ⟨c, hc⟩ : ∃ c, Hid (c = byt s k) := ⟨_, Lib.hid rfl⟩
      rw [← hc.out] at hB
      by_cases h48 : c = 48 ∧ 1 < s.size
      · have h' := h.out
        rw [if_pos (.inr ⟨(getD_byt s k).2 (hc.out ▸ h48.1), h48.2⟩)] at h'
        simp only [Prod.mk.injEq] at h'
        obtain ⟨rfl, rfl⟩ := h'
        obtain ⟨rfl, h2⟩ := h48
        have t2 : decide (1 < (s.size : Int)) = true := decide_eq_true (by omega)
        clear h hk hz hk1 hn hc
        go_wp2_with fail
        go_ret2
        exact ⟨rfl, rfl⟩
      · have h' := h.out
        rw [if_neg (by rintro (e | ⟨e1, e2⟩)
                       · exact hn e
                       · exact h48 ⟨hc.out.trans ((getD_byt s k).1 e1), e2⟩)] at h'
        replace h' := Lib.hid h'
        clear h hk hz
        obtain ⟨b, hb⟩ : ∃ b : Bool, Hid ((c == 48 && decide (1 < (s.size : Int))) = b) := ⟨_, Lib.hid rfl⟩
        have hbf : Hid (b = false) := by
          show _ = _
          rw [← hb.out]
          simp only [Bool.and_eq_false_iff, decide_eq_false_iff_not, beq_eq_false_iff_ne]
          by_cases e : c = 48
          · right; intro e2; exact h48 ⟨e, by omega⟩
          · exact .inl e
        obtain rfl := hbf.out
        go_upto_region 4 with (fail)
        go_cut [34] (fun s34 wx => s34 = .bool false ∧ w = wx)
        case first =>
          by_cases e : c = 48
          · subst e
            have t2 : decide (1 < (s.size : Int)) = false := decide_eq_false (fun e2 => h48 ⟨rfl, by omega⟩)
            clear h48 hb hbf hc h' hn hk1
            go_wp2_with fail
            go_meet
            exact ⟨rfl, rfl⟩
          · have t2 : (c == 48) = false := by simpa using e
            clear h48 hb hbf hc h' hn hk1 e
            go_wp2_with fail
            go_meet
            exact ⟨rfl, rfl⟩
        case rest =>
          obtain ⟨rfl, rfl⟩ := hcut
          clear h48 hb hbf hc hn hB c
          go_wp2_with fail
          go_loop [9, 10] (fun s9 s10 => ∃ a i : Nat, k ≤ i ∧ i ≤ s.size ∧ a ≤ 9223372036854775808 ∧ s9 = .int .i64 (-(a : Int)) ∧ s10 = .int .i64 i ∧ Hid (refAcc (s.data.toList.drop k) 0 = refAcc (s.data.toList.drop i) a)) (fun _ v => s.size - (intOf v).toNat)
          case atStart => exact ⟨0, k, by omega, by omega, by omega, rfl, rfl, Lib.hid rfl⟩
          case round =>
            obtain ⟨a, i, hki, hi, ha, rfl, rfl, hA⟩ := hrel
            by_cases hlt : i < s.size
            · have t3 : decide ((i : Int) < s.size) = true := decide_eq_true (by omega)
              have hB := byt_eq s i hlt
              have hst := Lib.hid (hA.out.trans (refAcc_at s i a hlt))
              have hc0 := byt_lo s i
              have hc1 := byt_hi s i
              obtain ⟨c, hc⟩ : ∃ c, byt s i = c := ⟨_, rfl⟩
              rw [hc] at hB hst hc0 hc1
              clear hc hA
              by_cases g1 : c < 48
              · have s1 : decide (c < 48) = true := decide_eq_true g1
                have e1 := h'.out
                rw [hst.out, if_neg (by omega)] at e1
                simp only [Prod.mk.injEq] at e1
                obtain ⟨rfl, rfl⟩ := e1
                clear hst h'
                go_wp2_with fail
                go_ret2
                exact ⟨rfl, rfl⟩
              · have s1 : decide (c < 48) = false := decide_eq_false g1
                by_cases g2 : 57 < c
                · have s2 : decide (57 < c) = true := decide_eq_true g2
                  have e1 := h'.out
                  rw [hst.out, if_neg (by omega)] at e1
                  simp only [Prod.mk.injEq] at e1
                  obtain ⟨rfl, rfl⟩ := e1
                  clear hst h'
                  go_wp2_with fail
                  go_ret2
                  exact ⟨rfl, rfl⟩
                · have s2 : decide (57 < c) = false := decide_eq_false g2
                  clear hc0 hc1
                  go_upto_region 13 with (fail)
                  obtain ⟨d, hd⟩ : ∃ d : Nat, c - 48 = d := ⟨(c - 48).toNat, by omega⟩
                  rw [hd]
                  have hd9 : d ≤ 9 := by omega
                  have hst2 := hst.out
                  rw [if_pos (by omega), show c.toNat - 48 = d by omega] at hst2
                  replace hst2 := Lib.hid hst2
                  clear hst hd hB s1 s2 g1 g2 t3
                  go_cut [61] from 36 to 65 (fun s61 wx => s61 = .bool (decide (9223372036854775808 < 10 * a + d)) ∧ w = wx)
                  case first =>
                    obtain ⟨q, hq⟩ : ∃ q : Int, Hid (Int.tdiv (-9223372036854775808 + (d : Int)) 10 = q) := ⟨_, Lib.hid rfl⟩
                    have hq' := hq.out
                    have e : (-9223372036854775808 + (d : Int)).tdiv 10 = -(((9223372036854775808 - d : Nat) / 10 : Nat) : Int) := by
                      rw [show (-9223372036854775808 + (d : Int)) = -((9223372036854775808 - d : Nat) : Int) by omega, Int.neg_tdiv, Int.tdiv_eq_ediv_of_nonneg (by omega)]
                      rfl
                    have hq1 : -1000000000000000000 ≤ q := by omega
                    have hq2 : q ≤ 0 := by omega
                    have hdec : Hid (decide (-(a : Int) < q) = decide (9223372036854775808 < 10 * a + d)) := by
                      show _ = _
                      apply decide_eq_decide.2
                      omega
                    clear e
                    go_wp2_with fail
                    go_meet
                    exact ⟨congrArg Value.bool hdec.out, rfl⟩
                  case rest =>
                    obtain ⟨rfl, rfl⟩ := hcut
                    have hst' := hst2.out
                    by_cases hbig : 9223372036854775808 < 10 * a + d
                    · rw [if_pos hbig] at hst'
                      have e1 := h'.out
                      rw [hst'] at e1
                      simp only [Prod.mk.injEq] at e1
                      obtain ⟨rfl, rfl⟩ := e1
                      have s3 : decide (9223372036854775808 < 10 * a + d) = true := decide_eq_true hbig
                      clear hst2 hst' h'
                      go_wp2_with fail
                      go_ret2
                      exact ⟨rfl, rfl⟩
                    · rw [if_neg hbig] at hst'
                      replace hst' := Lib.hid hst'
                      have s3 : decide (9223372036854775808 < 10 * a + d) = false := decide_eq_false hbig
                      clear hst2
                      go_wp2_with fail
                      go_round
                      case measure => simp [intOf]; omega
                      case rel => exact ⟨10 * a + d, i + 1, by omega, by omega, by omega, congrArg (Value.int .i64) (by omega), by go_num, hst'⟩
            · obtain rfl : i = s.size := by omega
              have t3 : decide ((s.size : Int) < s.size) = false := decide_eq_false (by omega)
              have e1 := h'.out
              have hA' := hA.out
              rw [List.drop_of_length_le (i := s.size) (by simp), refAcc] at hA'
              rw [hA'] at e1
              simp only at e1
              clear h' hA hA'
              by_cases hk0 : k = 0
              · subst hk0
                simp only [if_true] at e1
                by_cases hmax : a = 9223372036854775808
                · subst hmax
                  simp only [if_true, Prod.mk.injEq] at e1
                  obtain ⟨rfl, rfl⟩ := e1
                  go_wp2_with fail
                  go_ret2
                  exact ⟨rfl, rfl⟩
                · rw [if_neg hmax] at e1
                  simp only at e1
                  have s1 : (-(a : Int) == -9223372036854775808) = false := by simp; omega
                  replace e1 := Lib.hid e1
                  by_cases hlo : (a : Int) < least
                  · have e2 := e1.out
                    rw [if_pos (.inl hlo)] at e2
                    simp only [Prod.mk.injEq] at e2
                    obtain ⟨rfl, rfl⟩ := e2
                    have s2 : decide ((a : Int) < least) = true := decide_eq_true hlo
                    clear e1
                    go_wp2_with fail
                    go_ret2
                    exact ⟨rfl, rfl⟩
                  · have s2 : decide ((a : Int) < least) = false := decide_eq_false hlo
                    by_cases hhi : most < (a : Int)
                    · have e2 := e1.out
                      rw [if_pos (.inr hhi)] at e2
                      simp only [Prod.mk.injEq] at e2
                      obtain ⟨rfl, rfl⟩ := e2
                      have s3 : decide (most < (a : Int)) = true := decide_eq_true hhi
                      clear e1
                      go_wp2_with fail
                      go_ret2
                      exact ⟨rfl, rfl⟩
                    · have e2 := e1.out
                      rw [if_neg (by rintro (e | e); exact hlo e; exact hhi e)] at e2
                      simp only [Prod.mk.injEq] at e2
                      obtain ⟨rfl, rfl⟩ := e2
                      have s3 : decide (most < (a : Int)) = false := decide_eq_false hhi
                      clear e1
                      go_wp2_with fail
                      go_ret2
                      exact ⟨rfl, rfl⟩
              · rw [if_neg hk0] at e1
                simp only at e1
                have s1 : ((k : Int) == 0) = false := by simp; omega
                replace e1 := Lib.hid e1
                by_cases hlo : -(a : Int) < least
                · have e2 := e1.out
                  rw [if_pos (.inl hlo)] at e2
                  simp only [Prod.mk.injEq] at e2
                  obtain ⟨rfl, rfl⟩ := e2
                  have s2 : decide (-(a : Int) < least) = true := decide_eq_true hlo
                  clear e1
                  go_wp2_with fail
                  go_ret2
                  exact ⟨rfl, rfl⟩
                · have s2 : decide (-(a : Int) < least) = false := decide_eq_false hlo
                  by_cases hhi : most < -(a : Int)
                  · have e2 := e1.out
                    rw [if_pos (.inr hhi)] at e2
                    simp only [Prod.mk.injEq] at e2
                    obtain ⟨rfl, rfl⟩ := e2
                    have s3 : decide (most < -(a : Int)) = true := decide_eq_true hhi
                    clear e1
                    go_wp2_with fail
                    go_ret2
                    exact ⟨rfl, rfl⟩
                  · have e2 := e1.out
                    rw [if_neg (by rintro (e | e); exact hlo e; exact hhi e)] at e2
                    simp only [Prod.mk.injEq] at e2
                    obtain ⟨rfl, rfl⟩ := e2
                    have s3 : decide (most < -(a : Int)) = false := decide_eq_false hhi
                    clear e1
                    go_wp2_with fail
                    go_ret2
                    exact ⟨rfl, rfl⟩
end Go.Proofs.YtiapkindbbbdpaaGreatDoor
