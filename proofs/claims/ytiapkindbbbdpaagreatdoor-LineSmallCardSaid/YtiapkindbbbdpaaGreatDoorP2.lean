/- Plain facts: the reference's integers in decimal. -/
import Derived.Test.YtiapkindbbbdpaaGreatDoorP1
namespace Go.Proofs.YtiapkindbbbdpaaGreatDoor

/-- Digits, read one by one, up to 2^63. -/
def refAcc : List UInt8 → Nat → Option Nat
  | [], a => some a
  | c :: r, a => if 48 ≤ c.toNat ∧ c.toNat ≤ 57 then if 9223372036854775808 < 10 * a + (c.toNat - 48) then none else refAcc r (10 * a + (c.toNat - 48)) else none
/-- The integer that a string is. -/
def refN (l : List UInt8) : Option Int :=
  let at' := if l.head? = some 45 then 1 else 0
  if l.length = at' ∨ (l.getD at' 0 = 48 ∧ 1 < l.length) then none
  else match refAcc (l.drop at') 0 with
    | none => none
    | some a => if at' = 0 then if a = 9223372036854775808 then none else some (a : Int) else some (-(a : Int))
theorem refAcc_le : ∀ (l : List UInt8) (a b : Nat), a ≤ 9223372036854775808 → refAcc l a = some b → b ≤ 9223372036854775808
  | [], a, b, ha, h => by simp only [refAcc, Option.some.injEq] at h; omega
  | c :: r, a, b, ha, h => by
    rw [refAcc] at h
    split at h
    · split at h
      · cases h
      · exact refAcc_le r _ b (by omega) h
    · cases h
theorem refAcc_append : ∀ (l : List UInt8) (c : UInt8) (a : Nat), refAcc (l ++ [c]) a = (refAcc l a).bind fun b => refAcc [c] b
  | [], c, a => rfl
  | d :: l, c, a => by
    rw [List.cons_append, refAcc, refAcc]
    split
    · split
      · rfl
      · exact refAcc_append l c _
    · rfl
theorem refAcc_dec (u : Nat) (h : u ≤ 9223372036854775808) : refAcc (Lib.decDigits u) 0 = some u := by
  induction u using Nat.strongRecOn with
  | _ u ih =>
    rw [Lib.decDigits]
    by_cases h10 : u < 10
    · rw [dif_pos h10, refAcc, dig_nat u h10, if_pos (by omega), if_neg (by omega)]
      simp only [refAcc, Option.some.injEq]; omega
    · rw [dif_neg h10, refAcc_append, ih (u / 10) (by omega) (by omega), Option.bind_some, refAcc, dig_nat _ (Nat.mod_lt _ (by omega)), if_pos (by omega), if_neg (by omega)]
      simp only [refAcc, Option.some.injEq]; omega
theorem dec_head1 (u : Nat) (h0 : 0 < u) : ∃ c r, Lib.decDigits u = c :: r ∧ 49 ≤ c.toNat ∧ c.toNat ≤ 57 := by
  induction u using Nat.strongRecOn with
  | _ u ih =>
    rw [Lib.decDigits]
    by_cases h10 : u < 10
    · rw [dif_pos h10]
      exact ⟨_, _, rfl, by rw [dig_nat u h10]; omega, by rw [dig_nat u h10]; omega⟩
    · rw [dif_neg h10]
      obtain ⟨c, r, h1, h2, h3⟩ := ih (u / 10) (by omega) (by omega)
      exact ⟨c, r ++ [_], by rw [h1]; rfl, h2, h3⟩
theorem refAcc_back (n : Nat) : ∀ (l : List UInt8), l.length = n + 1 → (l.getD 0 0 ≠ 48 ∨ n = 0) → ∀ a, refAcc l 0 = some a → l = Lib.decDigits a := by
  induction n with
  | zero =>
    intro l hl _ a h
    match l, hl with
    | [c], _ =>
      rw [refAcc] at h
      split at h
      · split at h
        · cases h
        · simp only [refAcc, Option.some.injEq] at h
          subst h
          rw [Lib.decDigits, dif_pos (by omega)]
          congr 1
          apply UInt8.toNat_inj.1
          rw [dig_nat _ (by omega)]
          omega
      · cases h
  | succ n ih =>
    intro l hl h0 a h
    have hne : l ≠ [] := by intro e; rw [e] at hl; simp at hl
    have hd : l.getD 0 0 ≠ 48 := h0.resolve_right (by omega)
    have hs := List.dropLast_concat_getLast hne
    have hr : l.dropLast.length = n + 1 := by simp [hl]
    rw [← hs, refAcc_append] at h
    cases hb : refAcc l.dropLast 0 with
    | none => rw [hb] at h; cases h
    | some b =>
      rw [hb, Option.bind_some] at h
      have hd' : l.dropLast.getD 0 0 ≠ 48 := by
        rw [List.getD_eq_getElem?_getD, List.getElem?_dropLast, if_pos (by omega), ← List.getD_eq_getElem?_getD]; exact hd
      have hl' := ih l.dropLast hr (.inl hd') b hb
      have hb0 : 0 < b := by
        rcases Nat.eq_zero_or_pos b with e | e
        · rw [e, Lib.decDigits, dif_pos (by omega)] at hl'
          rw [hl'] at hd'
          exact absurd rfl hd'
        · exact e
      generalize l.getLast hne = c at h hs
      rw [refAcc] at h
      split at h
      · split at h
        · cases h
        · rename_i h1 _
          simp only [refAcc, Option.some.injEq] at h
          subst h
          rw [← hs, hl', Lib.decDigits.eq_def (10 * b + (c.toNat - 48)), dif_neg (by omega), show (10 * b + (c.toNat - 48)) / 10 = b by omega, show (10 * b + (c.toNat - 48)) % 10 = c.toNat - 48 by omega]
          congr 2
          apply UInt8.toNat_inj.1
          rw [dig_nat _ (by omega)]
          omega
      · cases h
/-- What is read is what it is in decimal. -/
theorem refN_back (l : List UInt8) (v : Int) (h : refN l = some v) : l = Lib.itoa v ∧ -9223372036854775808 ≤ v ∧ v ≤ 9223372036854775807 := by
  unfold refN at h
  by_cases hm : l.head? = some 45
  · obtain ⟨r, rfl⟩ : ∃ r, l = 45 :: r := by
      cases l with
      | nil => cases hm
      | cons c r => simp only [List.head?_cons, Option.some.injEq] at hm; exact ⟨r, by rw [hm]⟩
    simp only [List.head?_cons, if_true] at h
    split at h
    · cases h
    · rename_i hn
      simp only [List.length_cons, List.getD_cons_succ, List.drop_succ_cons, List.drop_zero, not_or, not_and] at hn h
      cases ha : refAcc r 0 with
      | none => rw [ha] at h; cases h
      | some a =>
        rw [ha] at h
        simp only [Nat.succ_ne_zero, if_false, Option.some.injEq] at h
        have hle := refAcc_le r 0 a (by omega) ha
        have hne : r.length ≠ 0 := by omega
        have hd : r.getD 0 0 ≠ 48 := fun e => hn.2 e (by omega)
        have hr := refAcc_back (r.length - 1) r (by omega) (.inl hd) a ha
        have ha0 : 0 < a := by
          rcases Nat.eq_zero_or_pos a with e | e
          · rw [e, Lib.decDigits, dif_pos (by omega)] at hr
            rw [hr] at hd
            exact absurd rfl hd
          · exact e
        subst h
        refine ⟨?_, by omega, by omega⟩
        unfold Lib.itoa
        rw [if_pos (by omega), show (-(a : Int)).natAbs = a by omega, ← hr]
  · rw [if_neg hm] at h
    simp only [if_true] at h
    split at h
    · cases h
    · rename_i hn
      simp only [List.drop_zero, not_or, not_and] at hn h
      cases ha : refAcc l 0 with
      | none => rw [ha] at h; cases h
      | some a =>
        rw [ha] at h
        simp only at h
        split at h
        · cases h
        · rename_i hmax
          simp only [Option.some.injEq] at h
          have hle := refAcc_le l 0 a (by omega) ha
          have hr := refAcc_back (l.length - 1) l (by omega) (by by_cases e : l.getD 0 0 = 48
                                                                 · right; have := hn.2 e; omega
                                                                 · exact .inl e) a ha
          subst h
          refine ⟨?_, by omega, by omega⟩
          unfold Lib.itoa
          rw [if_neg (by omega), Int.toNat_natCast]
          exact hr
theorem refN_itoa (v : Int) (h0 : -9223372036854775808 ≤ v) (h1 : v ≤ 9223372036854775807) : refN (Lib.itoa v) = some v := by
  unfold refN Lib.itoa
  by_cases hv : v < 0
  · rw [if_pos hv]
    obtain ⟨c, r, hd, hc, _⟩ := dec_head1 v.natAbs (by omega)
    have ha := refAcc_dec v.natAbs (by omega)
    simp only [List.head?_cons, if_true, List.length_cons, List.getD_cons_succ, List.drop_succ_cons, List.drop_zero]
    rw [if_neg, ha]
    · simp only [Nat.succ_ne_zero, if_false]
      congr 1; omega
    · rw [hd]
      simp only [List.length_cons, List.getD_cons_zero]
      rintro (h | ⟨h, _⟩)
      · omega
      · rw [h] at hc; exact absurd hc (by decide)
  · rw [if_neg hv]
    obtain ⟨c, r, hd, hc, hc9⟩ := dec_head v.toNat
    have ha := refAcc_dec v.toNat (by omega)
    have hm : ¬ (Lib.decDigits v.toNat).head? = some 45 := by
      rw [hd]
      simp only [List.head?_cons, Option.some.injEq]
      intro e; rw [e] at hc; exact absurd hc (by decide)
    simp only [if_neg hm, if_true, List.drop_zero]
    rw [if_neg, ha]
    · simp only
      rw [if_neg (by omega)]
      congr 1; omega
    · rintro (h | ⟨h, h2⟩)
      · rw [hd] at h; simp at h
      · rcases Nat.eq_zero_or_pos v.toNat with e | e
        · rw [e, Lib.decDigits, dif_pos (by omega)] at h2; simp at h2
        · obtain ⟨c', r', hd', hc', _⟩ := dec_head1 v.toNat e
          rw [hd'] at h
          simp only [List.getD_cons_zero] at h
          rw [h] at hc'; exact absurd hc' (by decide)
/-- The reference's Number. -/
theorem numF_ref (l : List UInt8) (least most : Int) : numF l least most = match refN l with
    | none => (0, 2)
    | some v => if v < least ∨ most < v then (0, 6) else (v, 0) := by
  cases h : refN l with
  | some v =>
    obtain ⟨rfl, h0, h1⟩ := refN_back l v h
    exact num_itoa v least most h0 h1
  | none =>
    unfold numF
    split
    · rename_i v hv
      have hr := atoi_range l v hv
      rw [if_neg]
      intro e
      rw [← e, refN_itoa v hr.1 hr.2] at h
      cases h
    · rfl
end Go.Proofs.YtiapkindbbbdpaaGreatDoor
