/- Numbers: what Exact tells, what is read of a whole number's text, DecimalWhole's plain law. -/
import Derived.Test.YtaidemghhagniaaGreatDoorF19
import Derived.Test.YtaidemghhagniaaGreatDoorDG
import Derived.Lib.ItoaNum
import Derived.Test.YtaidemghhagniaaGreatDoorFG
import Derived.Test.YtaidemghhagniaaGreatDoorD20
import Derived.Test.YtaidemghhagniaaGreatDoorXA
section
namespace Go.Proofs.YtaidemghhagniaaGreatDoor
open Go
theorem dval_foldl (l : List UInt8) (x : Nat) : l.foldl (fun e c => e * 10 + (c.toNat - 48)) x = x * 10 ^ l.length + dval l := by
  unfold dval
  induction l generalizing x with
  | nil => simp
  | cons c t ih =>
    rw [List.foldl_cons, List.foldl_cons, ih, ih (0 * 10 + (c.toNat - 48)), List.length_cons, Nat.pow_succ]
    rw [Nat.add_mul, Nat.zero_mul, Nat.zero_add, Nat.mul_assoc, Nat.mul_comm 10]; omega
theorem dval_app (a b : List UInt8) : dval (a ++ b) = dval a * 10 ^ b.length + dval b := by
  conv => lhs; unfold dval
  rw [List.foldl_append, dval_foldl]; rfl
theorem dval_cons (c : UInt8) (t : List UInt8) : dval (c :: t) = (c.toNat - 48) * 10 ^ t.length + dval t := by
  rw [show c :: t = [c] ++ t from rfl, dval_app]; simp [dval]
theorem dval_one (c : UInt8) : dval [c] = c.toNat - 48 := by simp [dval]
theorem dval_nil : dval [] = 0 := rfl
theorem dval_digits (F : Nat) : dval (Lib.decDigits F) = F := by
  induction F using Nat.strongRecOn with
  | _ F ih =>
    rw [Lib.decDigits]
    split
    · rename_i h
      rw [dval_one, ofNat_to _ (by omega)]; omega
    · rename_i h
      rw [dval_app, ih (F / 10) (by omega), dval_one, ofNat_to _ (by omega)]
      simp; omega
theorem dblC_val (l : List UInt8) (h : DigL l) : dval (dblC l).1 + (dblC l).2 * 10 ^ l.length = 2 * dval l := by
  induction l with
  | nil => rfl
  | cons c t ih =>
    have hc := h c (List.mem_cons_self ..)
    have ht : DigL t := fun x hx => h x (List.mem_cons_of_mem _ hx)
    have i := ih ht
    obtain ⟨b1, b2, b3⟩ := dblC_bd t ht
    have hd : dblC (c :: t) = (UInt8.ofNat (48 + (2 * (c.toNat - 48) + (dblC t).2) % 10) :: (dblC t).1, (2 * (c.toNat - 48) + (dblC t).2) / 10) := dblC_at (c :: t) 0 (by simp)
    rw [hd]
    dsimp only
    rw [dval_cons, dval_cons, ofNat_to _ (by omega), b3, List.length_cons, Nat.pow_succ]
    generalize (dblC t).2 = k at *
    generalize dval (dblC t).1 = X at *
    generalize dval t = Y at *
    generalize 10 ^ t.length = Z at *
    have e : 48 + (2 * (c.toNat - 48) + k) % 10 - 48 = (2 * (c.toNat - 48) + k) % 10 := by omega
    rw [e]
    obtain ⟨d, hd'⟩ : ∃ d, d = c.toNat - 48 := ⟨_, rfl⟩
    rw [← hd']
    have key : (2 * d + k) % 10 * Z + (2 * d + k) / 10 * (Z * 10) = (2 * d + k) * Z := by
      have := Nat.div_add_mod (2 * d + k) 10
      calc (2 * d + k) % 10 * Z + (2 * d + k) / 10 * (Z * 10) = (10 * ((2 * d + k) / 10) + (2 * d + k) % 10) * Z := by
            rw [Nat.add_mul, Nat.mul_assoc, Nat.mul_comm ((2 * d + k) / 10) (Z * 10), Nat.mul_comm Z 10, Nat.mul_assoc, Nat.mul_comm ((2 * d + k) / 10) Z]; omega
        _ = (2 * d + k) * Z := by rw [this]
    rw [Nat.add_mul] at key
    have e2 : 2 * (d * Z + Y) = 2 * d * Z + 2 * Y := by rw [Nat.mul_add, Nat.mul_assoc]
    rw [e2]
    omega
theorem dblL_val (l : List UInt8) (h : DigL l) : dval (dblL l) = 2 * dval l := by
  have i := dblC_val l h
  obtain ⟨b1, b2, b3⟩ := dblC_bd l h
  unfold dblL
  split
  · rename_i h0; rw [h0] at i; omega
  · rw [dval_cons, ofNat_to _ (by omega), b3]
    rw [show 48 + (dblC l).2 - 48 = (dblC l).2 by omega]; omega
theorem dblN_val (n : Nat) (l : List UInt8) (h : DigL l) : dval (dblN n l) = 2 ^ n * dval l ∧ DigL (dblN n l) := by
  induction n generalizing l with
  | zero => exact ⟨by simp [dblN], h⟩
  | succ n ih =>
    obtain ⟨a, b⟩ := ih (dblL l) (dblL_ok l h).1
    exact ⟨by show dval (dblN n (dblL l)) = _; rw [a, dblL_val l h, Nat.pow_succ, Nat.mul_assoc], b⟩
theorem hlvC_val (l : List UInt8) (h : DigL l) : ∀ r, r ≤ 1 → r * 10 ^ l.length + dval l = 2 * dval (hlvC r l).1 + (hlvC r l).2 := by
  induction l with
  | nil => intro r _; simp [hlvC, dval]
  | cons c t ih =>
    intro r hr
    have hc := h c (List.mem_cons_self ..)
    have ht : DigL t := fun x hx => h x (List.mem_cons_of_mem _ hx)
    have hd : hlvC r (c :: t) = (UInt8.ofNat (48 + (10 * r + (c.toNat - 48)) / 2) :: (hlvC ((10 * r + (c.toNat - 48)) % 2) t).1, (hlvC ((10 * r + (c.toNat - 48)) % 2) t).2) := hlvC_at r (c :: t) 0 (by simp)
    obtain ⟨b1, b2, b3⟩ := hlvC_bd t ht ((10 * r + (c.toNat - 48)) % 2) (by omega)
    have i := ih ht ((10 * r + (c.toNat - 48)) % 2) (by omega)
    rw [hd]
    dsimp only
    rw [dval_cons, dval_cons, ofNat_to _ (by omega), b3, List.length_cons, Nat.pow_succ]
    obtain ⟨d, hd'⟩ : ∃ d, d = c.toNat - 48 := ⟨_, rfl⟩
    rw [← hd'] at i ⊢
    generalize (hlvC ((10 * r + d) % 2) t).2 = k at *
    generalize dval (hlvC ((10 * r + d) % 2) t).1 = X at *
    generalize dval t = Y at *
    generalize 10 ^ t.length = Z at *
    rw [show 48 + (10 * r + d) / 2 - 48 = (10 * r + d) / 2 by omega]
    have e1 : r * (Z * 10) + (d * Z + Y) = (10 * r + d) * Z + Y := by rw [Nat.add_mul, Nat.mul_comm 10 r, Nat.mul_assoc, Nat.mul_comm 10 Z]; omega
    have e2 : (10 * r + d) * Z = 2 * ((10 * r + d) / 2 * Z) + (10 * r + d) % 2 * Z := by
      conv => lhs; rw [← Nat.div_add_mod (10 * r + d) 2]
      rw [Nat.add_mul, Nat.mul_assoc]
    rw [e1, e2]
    omega
theorem hlvL_val (l : List UInt8) (h : DigL l) : dval (hlvL l) * 2 = dval l * 10 ^ hlvK l := by
  have i := hlvC_val l h 0 (by decide)
  obtain ⟨b1, b2, b3⟩ := hlvC_bd l h 0 (by decide)
  unfold hlvL hlvK
  split
  · rename_i h0; rw [h0] at i; simp; omega
  · rw [dval_app, dval_one, show (53 : UInt8).toNat - 48 = 5 from rfl]
    simp only [List.length_cons, List.length_nil, Nat.zero_add, Nat.pow_one]
    omega
theorem hlvN_val (n : Nat) (l : List UInt8) (q : Nat) (h : DigL l) : ∃ L p, hlvN n l q = (L, q + p) ∧ DigL L ∧ dval L * 2 ^ n = dval l * 10 ^ p ∧ L.length = l.length + p ∧ p ≤ n := by
  induction n generalizing l q with
  | zero => exact ⟨l, 0, rfl, h, by simp, rfl, Nat.le_refl _⟩
  | succ n ih =>
    obtain ⟨h1, h2⟩ := hlvL_ok l h
    obtain ⟨L, p, e, d, v, s, b⟩ := ih (hlvL l) (q + hlvK l) h1
    have hk : hlvK l ≤ 1 := by unfold hlvK; split <;> omega
    refine ⟨L, hlvK l + p, by show hlvN n (hlvL l) (q + hlvK l) = _; rw [e, Nat.add_assoc], d, ?_, by omega, by omega⟩
    rw [Nat.pow_succ, ← Nat.mul_assoc, v, Nat.mul_right_comm, hlvL_val l h, Nat.mul_assoc, ← Nat.pow_add]
end Go.Proofs.YtaidemghhagniaaGreatDoor
end
section
namespace Go.Proofs.YtaidemghhagniaaGreatDoor
open Go Ieee
/-- d * 10^p is the value r: it is read as r. -/
theorem v64_exact (d : Nat) (p : Int) (r U : Nat) (hU : 2 ^ 1074 = U) (hr : r < INF) (h0 : 0 < d) (hd : d < 18446744073709551616) (hp : -345 ≤ p) (hp2 : p ≤ 310) (h : d * 10 ^ p.toNat * U = V r * 10 ^ (-p).toNat) : v64 d p = r := by
  have e0 : v64 d p = pf64 d (p + 348).toNat := by
    unfold v64
    rw [if_neg (by omega), if_neg (by omega), if_neg (by omega)]
  rw [e0]
  have hi : (p + 348).toNat < 696 := by omega
  have h1 := pf64_ok d (p + 348).toNat h0 hd hi
  generalize pf64 d (p + 348).toNat = x at h1 ⊢
  have hP : pP (p + 348).toNat = 10 ^ p.toNat := by
    unfold pP
    by_cases h : 348 ≤ (p + 348).toNat
    · rw [if_pos h]; exact congrArg (10 ^ ·) (by omega)
    · rw [if_neg h, show p.toNat = 0 by omega]
  have hQ : pQ (p + 348).toNat = 10 ^ (-p).toNat := by
    unfold pQ
    by_cases h : 348 ≤ (p + 348).toNat
    · rw [if_pos h, show (-p).toNat = 0 by omega]
    · rw [if_neg h]; exact congrArg (10 ^ ·) (by omega)
  have e75 : (2 : Nat) ^ 1075 = U * 2 := by rw [← hU]; decide +kernel
  rw [hP, hQ, e75] at h1
  have hq : 0 < 10 ^ (-p).toNat := Nat.pow_pos (by omega)
  generalize 10 ^ (-p).toNat = B at *
  generalize 10 ^ p.toNat = A at *
  have e : d * A * (U * 2) = 2 * V r * B := by
    rw [← Nat.mul_assoc, h, Nat.mul_comm _ 2, Nat.mul_assoc]
  exact near_exact hq (by omega) e h1
theorem dval_lt (l : List UInt8) (h : DigL l) : dval l < 10 ^ l.length := by
  induction l with
  | nil => exact Nat.one_pos
  | cons c t ih =>
    have hc := h c (List.mem_cons_self ..)
    have := ih (fun x hx => h x (List.mem_cons_of_mem _ hx))
    rw [dval_cons, List.length_cons, Nat.pow_succ]
    have h9 : (c.toNat - 48) * 10 ^ t.length ≤ 9 * 10 ^ t.length := Nat.mul_le_mul_right _ (by omega)
    omega
theorem digL_cons {c : UInt8} {t : List UInt8} (h : DigL (c :: t)) : 48 ≤ c.toNat ∧ c.toNat ≤ 57 ∧ DigL t := ⟨(h c (List.mem_cons_self ..)).1, (h c (List.mem_cons_self ..)).2, fun x hx => h x (List.mem_cons_of_mem _ hx)⟩
theorem digL_app {a b : List UInt8} (h : DigL (a ++ b)) : DigL a ∧ DigL b := ⟨fun x hx => h x (List.mem_append_left _ hx), fun x hx => h x (List.mem_append_right _ hx)⟩
theorem eq48 {c : UInt8} (h : c.toNat = 48) : c = 48 := UInt8.toNat_inj.1 h
theorem dval_pos (c : UInt8) (t : List UInt8) (h : DigL (c :: t)) (hc : c ≠ 48) : 10 ^ t.length ≤ dval (c :: t) := by
  obtain ⟨h1, h2, h3⟩ := digL_cons h
  rw [dval_cons]
  have h4 : c.toNat ≠ 48 := fun e => hc (eq48 e)
  have : 1 * 10 ^ t.length ≤ (c.toNat - 48) * 10 ^ t.length := Nat.mul_le_mul_right _ (by omega)
  omega
theorem dval_zero (l : List UInt8) (h : DigL l) (h0 : dval l = 0) : ∀ c ∈ l, c = 48 := by
  induction l with
  | nil => intro c hc; cases hc
  | cons c t ih =>
    obtain ⟨h1, h2, h3⟩ := digL_cons h
    have hc : c = 48 := by
      rcases Nat.lt_or_ge 48 c.toNat with g | g
      · have := dval_pos c t h (fun e => by rw [e] at g; exact absurd g (by decide))
        have := Nat.pow_pos (n := t.length) (show 0 < 10 by decide)
        omega
      · exact eq48 (by omega)
    subst hc
    have h4 : dval t = 0 := by rw [dval_cons] at h0; omega
    intro x hx
    rw [List.mem_cons] at hx
    rcases hx with rfl | hx
    · rfl
    · exact ih h3 h4 x hx
/-- Digits without a zero ahead are those of their number. -/
theorem canon (n : Nat) : ∀ l : List UInt8, l.length = n → DigL l → l ≠ [] → (l.head? ≠ some 48 ∨ l.length = 1) → l = Lib.decDigits (dval l) := by
  induction n with
  | zero => intro l h _ h0; exact absurd (List.eq_nil_of_length_eq_zero h) h0
  | succ n ih =>
    intro l hl hd h0 hh
    obtain ⟨a, x, rfl⟩ : ∃ a x, l = a ++ [x] := ⟨l.dropLast, l.getLast h0, (List.dropLast_concat_getLast h0).symm⟩
    obtain ⟨ha, hx⟩ := digL_app hd
    have hx1 := hx x (List.mem_singleton.2 rfl)
    rw [List.length_append, List.length_singleton] at hl
    by_cases hn : a = []
    · subst hn
      rw [List.nil_append, dval_one, Lib.decDigits, dif_pos (by omega)]
      rw [show 48 + (x.toNat - 48) = x.toNat by omega, UInt8.ofNat_toNat]
    · have hha : a.head? ≠ some 48 := by
        rcases hh with hh | hh
        · intro e; apply hh
          cases a with
          | nil => exact absurd rfl hn
          | cons c t => exact e
        · rw [List.length_append, List.length_singleton] at hh
          have := List.length_pos_iff.2 hn
          omega
      have hi := ih a (by omega) ha hn (.inl hha)
      have hp : 1 ≤ dval a := by
        cases a with
        | nil => exact absurd rfl hn
        | cons c t =>
          have := dval_pos c t ha (fun e => hha (by rw [e]; rfl))
          have := Nat.pow_pos (n := t.length) (show 0 < 10 by decide)
          omega
      rw [dval_app, dval_one, List.length_singleton, Nat.pow_one, Lib.decDigits, dif_neg (by omega)]
      rw [show (dval a * 10 + (x.toNat - 48)) / 10 = dval a by omega, show 48 + (dval a * 10 + (x.toNat - 48)) % 10 = x.toNat by omega, ← hi, UInt8.ofNat_toNat]
theorem trimL_dec (l : List UInt8) (h : DigL l) : Lib.trimLeftB l 48 = if dval l = 0 then [] else Lib.decDigits (dval l) := by
  induction l with
  | nil => rfl
  | cons c t ih =>
    obtain ⟨h1, h2, h3⟩ := digL_cons h
    by_cases hc : c = 48
    · subst hc
      have e : dval (48 :: t) = dval t := by rw [dval_cons]; simp
      rw [e, ← ih h3]
      rfl
    · have hp := dval_pos c t h hc
      have := Nat.pow_pos (n := t.length) (show 0 < 10 by decide)
      rw [if_neg (by omega), ← canon _ (c :: t) rfl h (by simp) (.inl (by simpa using hc))]
      unfold Lib.trimLeftB
      rw [List.dropWhile_cons, if_neg (by simpa using hc)]
theorem trimR_zero (l : List UInt8) (h : ∀ c ∈ l, c = 48) : Lib.trimRightB l 48 = [] := by
  unfold Lib.trimRightB
  have key : ∀ m : List UInt8, (∀ c ∈ m, c = 48) → m.dropWhile (fun x => x == 48) = [] := by
    intro m
    induction m with
    | nil => intro _; rfl
    | cons c t ih =>
      intro hm
      rw [hm c (List.mem_cons_self ..)]
      exact ih (fun x hx => hm x (List.mem_cons_of_mem _ hx))
  rw [key _ (fun c hc => h c (List.mem_reverse.1 hc))]
  rfl
theorem mul4 (A B C D : Nat) : A * D * C * B = D * B * C * A := by ac_rfl
/-- The digits that Exact makes are the value's number. -/
theorem exD_val (s : Bool) (r U : Nat) (hU : 2 ^ 1074 = U) (hr : r < INF) : ∃ L q, exD (sgw s + r) = (L, q) ∧ DigL L ∧ q ≤ L.length ∧ (q ≤ 1074 ∧ q ≤ 1075 - ex r) ∧ dval L * U = V r * 10 ^ q := by
  replace hU := Lib.hid hU
  have hI : INF = 9218868437227405312 := rfl
  have hw : (sgw s + r) / 4503599627370496 % 2048 = r / 4503599627370496 ∧ (sgw s + r) % 4503599627370496 = r % 4503599627370496 := by
    cases s <;> simp only [sgw, Bool.false_eq_true, if_false, if_true] <;> omega
  have hE : exE (sgw s + r) = ex r := by
    unfold exE ex
    rw [hw.1]
    by_cases h : r < 4503599627370496
    · rw [if_pos h, if_pos (by omega)]
    · rw [if_neg h, if_neg (by omega)]
  have hF : exF (sgw s + r) = fr r := by
    unfold exF fr
    rw [hw.1, hw.2]
    by_cases h : r < 4503599627370496
    · rw [if_pos h, if_pos (by omega), Nat.mod_eq_of_lt h]
    · rw [if_neg h, if_neg (by omega)]
  have he1 : 1 ≤ ex r := by
    unfold ex; split <;> omega
  have hV : V r = fr r * 2 ^ (ex r - 1) := rfl
  unfold exD
  rw [hE, hF, hV]
  obtain ⟨a1, a2⟩ := dblN_val (ex r - 1075) (Lib.decDigits (fr r)) (digs_dig _)
  rw [dval_digits] at a1
  by_cases h0 : 0 < fr r
  · rw [if_pos h0]
    obtain ⟨L, p, b1, b2, b3, b4, b5⟩ := hlvN_val (1075 - ex r) _ 0 a2
    rw [Nat.zero_add] at b1
    have hp4 : p ≤ 1074 := Nat.le_trans b5 (by have := he1; revert this; generalize ex r = E; intro this; omega)
    refine ⟨L, p, b1, b2, b4 ▸ Nat.le_add_left _ _, ⟨hp4, b5⟩, ?_⟩
    rw [a1] at b3
    have e1 : U * 2 ^ (ex r - 1075) = 2 ^ (1075 - ex r) * 2 ^ (ex r - 1) := by
      have q1 := Nat.pow_add 2 1074 (ex r - 1075)
      rw [hU.out] at q1
      rw [← q1, ← Nat.pow_add 2 (1075 - ex r) (ex r - 1)]
      exact congrArg (2 ^ ·) (by omega)
    have hz : 0 < 2 ^ (ex r - 1075) := Nat.two_pow_pos _
    apply Nat.eq_of_mul_eq_mul_right hz
    rw [Nat.mul_assoc, e1, ← Nat.mul_assoc, b3]
    generalize 2 ^ (ex r - 1075) = A
    generalize 2 ^ (ex r - 1) = B
    generalize 10 ^ p = C
    generalize fr r = D
    exact mul4 A B C D
  · have hf0 : fr r = 0 := by omega
    rw [if_neg h0]
    exact ⟨_, 0, rfl, a2, Nat.zero_le _, ⟨Nat.zero_le _, Nat.zero_le _⟩, by rw [a1, hf0, Nat.mul_zero, Nat.zero_mul, Nat.zero_mul, Nat.zero_mul]⟩
end Go.Proofs.YtaidemghhagniaaGreatDoor
end
section
namespace Go.Proofs.YtaidemghhagniaaGreatDoor
open Go Ieee
theorem digL_isD {l : List UInt8} (h : DigL l) : ∀ c ∈ l, isD c = true := fun c hc => (isD_iff c).2 (h c hc)
theorem dig_len (k : Nat) : ∀ F, 0 < k → F < 10 ^ k → (Lib.decDigits F).length ≤ k := by
  induction k with
  | zero => intro F h; omega
  | succ k ih =>
    intro F _ hF
    rw [Lib.decDigits]
    split
    · simp
    · rename_i h10
      have h1 : F / 10 < 10 ^ k := by rw [Nat.div_lt_iff_lt_mul (by decide)]; rw [Nat.pow_succ] at hF; exact hF
      have hk : 0 < k := by
        rcases Nat.eq_zero_or_pos k with rfl | hk
        · simp at hF; omega
        · exact hk
      have := ih (F / 10) hk h1
      simp only [List.length_append, List.length_cons, List.length_nil]
      omega
theorem dec_ne (m : Nat) : Lib.decDigits m ≠ [] := by
  rw [Lib.decDigits]; split <;> simp
theorem dec_head (m : Nat) (h : 0 < m) : ∃ c t, Lib.decDigits m = c :: t ∧ c ≠ 48 := by
  induction m using Nat.strongRecOn with
  | _ m ih =>
    rw [Lib.decDigits]
    split
    · rename_i h10
      exact ⟨_, [], rfl, fun e => by have := congrArg UInt8.toNat e; rw [ofNat_to _ (by omega)] at this; have e48 : (48 : UInt8).toNat = 48 := rfl; omega⟩
    · obtain ⟨c, t, e, hc⟩ := ih (m / 10) (by omega) (by omega)
      exact ⟨c, _, by rw [e, List.cons_append], hc⟩
theorem mstep_dig (c : UInt8) (dt : Bool) (nd mant : Nat) (dp : Int) (h1 : 48 ≤ c.toNat) (h2 : c.toNat ≤ 57) (h3 : c ≠ 48 ∨ 0 < nd) (h4 : nd < 19) (sn : Bool) : mstep ⟨dt, sn, nd, mant, dp, false⟩ c = ⟨dt, true, nd + 1, mant * 10 + (c.toNat - 48), dp, false⟩ := by
  unfold mstep
  rw [if_neg (fun e => by subst e; exact absurd h1 (by decide)), if_neg (fun e => by rcases h3 with h3 | h3; exact h3 e.1; have := e.2; dsimp only at this; omega), if_pos h4]
theorem fold_low (l : List UInt8) : ∀ (dt : Bool) (nd mant : Nat) (dp : Int), DigL l → 0 < nd → nd + l.length ≤ 19 → l.foldl mstep ⟨dt, true, nd, mant, dp, false⟩ = ⟨dt, true, nd + l.length, mant * 10 ^ l.length + dval l, dp, false⟩ := by
  induction l with
  | nil => intro dt nd mant dp _ _ _; simp [dval]
  | cons c t ih =>
    intro dt nd mant dp hd h0 hn
    obtain ⟨h1, h2, h3⟩ := digL_cons hd
    rw [List.length_cons] at hn
    rw [List.foldl_cons, mstep_dig c dt nd mant dp h1 h2 (.inr h0) (by omega), ih _ _ _ _ h3 (by omega) (by omega), List.length_cons, dval_cons, Nat.pow_succ]
    congr 1
    · omega
    · rw [Nat.add_mul, Nat.mul_assoc, Nat.mul_comm 10]; omega
theorem mrun_dec (m : Nat) (h0 : 0 < m) (hm : m < 10 ^ 19) : mrun (Lib.decDigits m) = ⟨false, true, (Lib.decDigits m).length, m, 0, false⟩ := by
  have hl := dig_len 19 m (by decide) hm
  have hd := digs_dig m
  have hv := dval_digits m
  obtain ⟨c, t, e, hc⟩ := dec_head m h0
  rw [e] at hl hd hv ⊢
  obtain ⟨h1, h2, h3⟩ := digL_cons hd
  unfold mrun
  rw [List.length_cons] at hl
  rw [List.foldl_cons, show ms0 = ⟨false, false, 0, 0, 0, false⟩ from rfl, mstep_dig c false 0 0 0 h1 h2 (.inl hc) (by decide), fold_low t false _ _ _ h3 (by omega) (by omega), List.length_cons]
  rw [dval_cons] at hv
  congr 1
  · omega
  · rw [Nat.zero_mul, Nat.zero_add]; exact hv
/-- A sign, or none. -/
def sg (n : Int) : List UInt8 := if n < 0 then [45] else []
theorem itoa_sg (n : Int) : Lib.itoa n = sg n ++ Lib.decDigits n.natAbs := by
  unfold Lib.itoa sg
  by_cases h : n < 0
  · rw [if_pos h, if_pos h]; rfl
  · rw [if_neg h, if_neg h, show n.toNat = n.natAbs by omega]; rfl
theorem sgd_sg (n : Int) (m : Nat) (R : List UInt8) : sgd (sg n ++ (Lib.decDigits m ++ R)) = Lib.decDigits m ++ R ∧ ngL (sg n ++ (Lib.decDigits m ++ R)) = decide (n < 0) := by
  have hd := digs_dig m
  cases e : Lib.decDigits m with
  | nil => exact absurd e (dec_ne m)
  | cons c t =>
    rw [e] at hd
    obtain ⟨h1, h2, h3⟩ := digL_cons hd
    unfold sg
    by_cases h : n < 0
    · rw [if_pos h, decide_eq_true h]
      exact ⟨rfl, rfl⟩
    · rw [if_neg h, decide_eq_false h]
      refine ⟨?_, ?_⟩
      · show (if c = 43 ∨ c = 45 then _ else _) = _
        rw [if_neg (by rintro (rfl | rfl) <;> exact absurd h1 (by decide))]
        rfl
      · show (some c == some 45) = false
        rw [beq_eq_false_iff_ne]
        intro e; cases e; exact absurd h1 (by decide)
theorem manL_int (A : List UInt8) (hA : ∀ c ∈ A, isD c = true) : manL A = (A.length, []) := by
  have h1 := digN_at A [] hA (fun c hc => by cases hc)
  rw [List.append_nil] at h1
  unfold manL
  dsimp only
  rw [h1, List.drop_length]
theorem nam_ok (l : List UInt8) (h : ∀ c ∈ l, okB c = true) : isNam l = false := by
  cases g : isNam l with
  | false => rfl
  | true =>
    exfalso
    have : ∃ c ∈ l, okB c = false := by
      unfold isNam at g
      simp only [Bool.or_eq_true, beq_iff_eq] at g
      rcases g with ((rfl | rfl) | rfl) | rfl
      · exact ⟨73, by simp, rfl⟩
      · exact ⟨73, by simp, rfl⟩
      · exact ⟨73, by simp, rfl⟩
      · exact ⟨78, by simp, rfl⟩
    obtain ⟨c, hc, e⟩ := this
    rw [h c hc] at e; cases e
theorem sg_ok (n : Int) : ∀ c ∈ sg n, okB c = true := by
  unfold sg
  split
  · intro c hc; rw [List.mem_singleton] at hc; subst hc; rfl
  · intro c hc; cases hc
/-- What is read of a whole number's text. -/
theorem itoa_read (n : Int) : rightL (Lib.itoa n) = true ∧ isNam (Lib.itoa n) = false ∧ ngL (Lib.itoa n) = decide (n < 0) ∧ tlL (Lib.itoa n) = [] ∧ manP (Lib.itoa n) = Lib.decDigits n.natAbs := by
  have hD := digL_isD (digs_dig n.natAbs)
  obtain ⟨s1, s2⟩ := sgd_sg n n.natAbs []
  rw [List.append_nil] at s1 s2
  rw [← itoa_sg] at s1 s2
  have hm := manL_int _ hD
  have ht : tlL (Lib.itoa n) = [] := by unfold tlL; rw [s1, hm]
  refine ⟨?_, ?_, s2, ht, ?_⟩
  · unfold rightL
    rw [s1, hm]
    show ((Lib.decDigits n.natAbs).length != 0 && true) = true
    rw [Bool.and_true, bne_iff_ne]
    exact fun e => dec_ne _ (List.eq_nil_of_length_eq_zero e)
  · refine nam_ok _ (fun c hc => ?_)
    rw [itoa_sg, List.mem_append] at hc
    rcases hc with hc | hc
    · exact sg_ok n c hc
    · exact okB_dig (hD c hc)
  · unfold manP
    rw [ht, s1]
    simp
end Go.Proofs.YtaidemghhagniaaGreatDoor
end
section
namespace Go.Proofs.YtaidemghhagniaaGreatDoor
open Go Ieee
def UU : Nat := 2 ^ 1074
theorem UU_is : 2 ^ 1074 = UU := by unfold UU; exact Eq.refl _
theorem v64_le (d : Nat) (p : Int) (hd : d < 18446744073709551616) : v64 d p ≤ INF := by
  unfold v64
  by_cases h0 : d = 0
  · rw [if_pos h0]; exact Nat.zero_le _
  · rw [if_neg h0]
    by_cases h1 : 310 < p
    · rw [if_pos h1]; exact Nat.le_refl _
    · rw [if_neg h1]
      by_cases h2 : p < -345
      · rw [if_pos h2]; exact Nat.zero_le _
      · rw [if_neg h2]; exact (pf64_ok d (p + 348).toNat (by omega) hd (by omega)).1
theorem V_half (r : Nat) (h : 9007199254740992 ≤ r) : V (r - 4503599627370496) * 2 = V r := by
  have e1 : ex r = ex (r - 4503599627370496) + 1 := by unfold ex; rw [if_neg (by omega), if_neg (by omega)]; omega
  have e2 : fr r = fr (r - 4503599627370496) := by unfold fr; rw [if_neg (by omega), if_neg (by omega)]; omega
  have e3 : 1 ≤ ex (r - 4503599627370496) := by unfold ex; rw [if_neg (by omega)]; omega
  unfold V
  rw [e1, e2, Nat.mul_assoc, ← Nat.pow_succ]
  exact congrArg (fun x => fr (r - 4503599627370496) * 2 ^ x) (by omega)
theorem V_one : V 4607182418800017408 = UU := by unfold UU; decide +kernel
theorem V_top : V W53 = 9007199254740992 * UU := by unfold UU; exact V_53
theorem le_W53 (r m : Nat) (hm : m ≤ 9007199254740992) (h : V r = m * UU) : r ≤ W53 := by
  apply Nat.le_of_not_lt
  intro hlt
  have h1 := V_lt hlt
  rw [V_top, h] at h1
  have := Nat.mul_le_mul_right UU hm
  omega
theorem U_pos : 0 < UU := by unfold UU; decide +kernel
/-- A whole number's text has its value. -/
theorem itoa_val (n : Int) (hn : n.natAbs ≤ 9007199254740992) : ∃ r, r ≤ W53 ∧ V r = n.natAbs * UU ∧ valL (Lib.itoa n) = sgw (decide (n < 0)) + r ∧ (mrun (manP (Lib.itoa n))).trunc = false := by
  obtain ⟨r, h1, h2, _⟩ := int_word false n.natAbs hn
  rw [UU_is] at h2
  have hr := le_W53 r _ hn h2
  obtain ⟨r1, r2, r3, r4, r5⟩ := itoa_read n
  refine ⟨r, hr, h2, ?_, ?_⟩
  · unfold valL
    rw [r3, r4, r5]
    congr 1
    by_cases h0 : n.natAbs = 0
    · rw [h0, show mrun (Lib.decDigits 0) = ⟨false, true, 0, 0, -1, false⟩ from by rw [Lib.decDigits_one (by decide)]; rfl]
      have : V r = V 0 := by rw [h2, h0, V_zero, Nat.zero_mul]
      rw [V_inj this]; rfl
    · have hm := mrun_dec n.natAbs (by omega) (by omega)
      have hl := dig_len 19 n.natAbs (by decide) (by omega)
      rw [hm]
      have hp : rfExp ⟨false, true, (Lib.decDigits n.natAbs).length, n.natAbs, 0, false⟩ (expL []) = 0 := by
        unfold rfExp
        rw [if_neg h0]
        show ((Lib.decDigits n.natAbs).length : Int) + 0 - (min (Lib.decDigits n.natAbs).length 19 : Nat) = 0
        rw [Nat.min_eq_left hl]; omega
      rw [hp]
      refine v64_exact n.natAbs 0 r UU UU_is h1 (by omega) (by omega) (by decide) (by decide) ?_
      rw [h2]; simp
  · rw [r5]
    by_cases h0 : n.natAbs = 0
    · rw [h0, Lib.decDigits_one (by decide)]; decide
    · rw [mrun_dec n.natAbs (by omega) (by omega)]
theorem whole_word (s : Bool) (r m : Nat) (hr : r ≤ W53) (h : V r = m * UU) : wholeN (sgw s + r) = (if s then -(m : Int) else (m : Int), true) := by
  have h63 : W53 = 4845873199050653696 := rfl
  have hp := U_pos
  rw [whole_at s r (by omega), UU_is, h, Nat.mul_mod_left, Nat.mul_div_cancel _ hp, if_pos ⟨hr, rfl⟩]
theorem kind_low (s : Bool) (r : Nat) (hr : r < INF) : kindN (sgw s + r) ≠ 4 ∧ kindN (sgw s + r) ≠ 3 := by
  have hI : INF = 9218868437227405312 := rfl
  have hw : (sgw s + r) / 4503599627370496 % 2048 ≠ 2047 := by
    cases s <;> simp only [sgw, Bool.false_eq_true, if_false, if_true] <;> omega
  unfold kindN
  rw [if_neg hw]
  constructor
  · split
    · decide
    · split <;> decide
  · split
    · decide
    · split <;> decide
theorem sgw_ge (s : Bool) (r : Nat) (hr : r < INF) : (9223372036854775808 ≤ sgw s + r) ↔ s = true := by
  have hI : INF = 9218868437227405312 := rfl
  cases s
  · simp only [sgw, Bool.false_eq_true, if_false, iff_false]; omega
  · simp only [sgw, if_true, iff_true]; omega
/-- Exact tells a whole number as its digits. -/
theorem exact_word (s : Bool) (r m : Nat) (hr : r < INF) (h : V r = m * UU) : exactL (sgw s + r) = (if s then [45] else []) ++ Lib.decDigits m := by
  obtain ⟨k4, k3⟩ := kind_low s r hr
  obtain ⟨L, q, e, hd, hq, hq2, hv⟩ := exD_val s r UU UU_is hr
  have hp := U_pos
  have hv' : dval L = m * 10 ^ q := by
    apply Nat.eq_of_mul_eq_mul_right hp
    rw [hv, h, Nat.mul_right_comm]
  have hL : L = L.take (L.length - q) ++ L.drop (L.length - q) := (List.take_append_drop _ _).symm
  have hT : (L.drop (L.length - q)).length = q := by rw [List.length_drop]; omega
  obtain ⟨hW, hTd⟩ := digL_app (hL ▸ hd)
  have hsplit : dval L = dval (L.take (L.length - q)) * 10 ^ q + dval (L.drop (L.length - q)) := by
    conv => lhs; rw [hL]
    rw [dval_app, hT]
  have hlt := dval_lt _ hTd
  rw [hT] at hlt
  have eW : dval (L.take (L.length - q)) = m ∧ dval (L.drop (L.length - q)) = 0 := by
    rw [hv'] at hsplit
    generalize dval (L.take (L.length - q)) = A at *
    generalize dval (L.drop (L.length - q)) = B at *
    generalize 10 ^ q = Q at *
    have h1 : A = m := by
      rcases Nat.lt_trichotomy A m with l | l | l
      · have : (A + 1) * Q ≤ m * Q := Nat.mul_le_mul_right _ l
        rw [Nat.add_mul] at this; omega
      · exact l
      · have : (m + 1) * Q ≤ A * Q := Nat.mul_le_mul_right _ l
        rw [Nat.add_mul] at this; omega
    subst h1
    exact ⟨rfl, by omega⟩
  have x1 : exW (sgw s + r) = if m = 0 then [] else Lib.decDigits m := by
    unfold exW; rw [e]
    show Lib.trimLeftB (L.take (L.length - q)) 48 = _
    rw [trimL_dec _ hW, eW.1]
  have x2 : exT (sgw s + r) = [] := by
    unfold exT; rw [e]
    exact trimR_zero _ (dval_zero _ hTd eW.2)
  unfold exactL
  rw [if_neg k4, if_neg k3, x1, x2, if_pos rfl, List.append_nil]
  have y1 : (if 9223372036854775808 ≤ sgw s + r then [45] else []) = (if s = true then [45] else ([] : List UInt8)) := by
    by_cases hs : s = true
    · rw [if_pos ((sgw_ge s r hr).2 hs), if_pos hs]
    · rw [if_neg (fun h => hs ((sgw_ge s r hr).1 h)), if_neg hs]
  have y2 : (if (if m = 0 then [] else Lib.decDigits m) = [] then [48] else (if m = 0 then [] else Lib.decDigits m)) = Lib.decDigits m := by
    by_cases h0 : m = 0
    · subst h0
      rw [if_pos rfl, if_pos rfl, Lib.decDigits_one (by decide)]; rfl
    · rw [if_neg h0, if_neg (dec_ne m)]
  rw [y1, y2]
theorem half_read (n : Int) : rightL (Lib.itoa n ++ [46, 53]) = true ∧ isNam (Lib.itoa n ++ [46, 53]) = false ∧ ngL (Lib.itoa n ++ [46, 53]) = decide (n < 0) ∧ tlL (Lib.itoa n ++ [46, 53]) = [] ∧ manP (Lib.itoa n ++ [46, 53]) = Lib.decDigits n.natAbs ++ [46, 53] := by
  have hD := digL_isD (digs_dig n.natAbs)
  obtain ⟨s1, s2⟩ := sgd_sg n n.natAbs [46, 53]
  have e : Lib.itoa n ++ [46, 53] = sg n ++ (Lib.decDigits n.natAbs ++ [46, 53]) := by rw [itoa_sg, List.append_assoc]
  rw [← e] at s1 s2
  have hm : manL (Lib.decDigits n.natAbs ++ [46, 53]) = ((Lib.decDigits n.natAbs).length + 1, []) := manL_at _ [53] [] hD (fun c hc => by rw [List.mem_singleton] at hc; subst hc; rfl) (fun c hc => by cases hc)
  have ht : tlL (Lib.itoa n ++ [46, 53]) = [] := by unfold tlL; rw [s1, hm]
  refine ⟨?_, ?_, s2, ht, ?_⟩
  · unfold rightL
    rw [s1, hm]
    rfl
  · refine nam_ok _ (fun c hc => ?_)
    rw [itoa_sg, List.mem_append, List.mem_append] at hc
    rcases hc with (hc | hc) | hc
    · exact sg_ok n c hc
    · exact okB_dig (hD c hc)
    · simp at hc
      rcases hc with rfl | rfl <;> rfl
  · unfold manP
    rw [ht, s1, List.length_nil, Nat.sub_zero, List.take_length]
theorem mrun_half (m : Nat) (hm : m < 10 ^ 17) : (mrun (Lib.decDigits m ++ [46, 53])).mant = 10 * m + 5 ∧ rfExp (mrun (Lib.decDigits m ++ [46, 53])) 0 = -1 ∧ (mrun (Lib.decDigits m ++ [46, 53])).trunc = false := by
  by_cases h0 : m = 0
  · subst h0
    rw [Lib.decDigits_one (by decide)]
    decide
  · have hl := dig_len 17 m (by decide) hm
    have h1 := mrun_dec m (by omega) (Nat.lt_trans hm (by decide))
    have e : mrun (Lib.decDigits m ++ [46, 53]) = ⟨true, true, (Lib.decDigits m).length + 1, 10 * m + 5, ((Lib.decDigits m).length : Int), false⟩ := by
      have e1 : mrun (Lib.decDigits m ++ [46, 53]) = mstep (mstep (mrun (Lib.decDigits m)) 46) 53 := by unfold mrun; rw [List.foldl_append]; rfl
      have hln : 0 < (Lib.decDigits m).length := List.length_pos_iff.2 (dec_ne m)
      rw [e1, h1]
      generalize (Lib.decDigits m).length = k at *
      have e2 : mstep ⟨false, true, k, m, 0, false⟩ 46 = ⟨true, true, k, m, (k : Int), false⟩ := rfl
      rw [e2, mstep_dig 53 true k m (k : Int) (by decide) (by decide) (.inl (by decide)) (by omega)]
      congr 1
      show m * 10 + 5 = _
      omega
    rw [e]
    refine ⟨rfl, ?_, rfl⟩
    unfold rfExp
    dsimp only
    rw [if_neg (by omega), if_pos rfl, Nat.min_eq_left (by omega)]
    omega
/-- A half is read as a value that is not whole. -/
theorem half_val (n : Int) (hn : n.natAbs ≤ 4503599627370496) :
    valL (Lib.itoa n ++ [46, 53]) < 18446744073709551616 ∧ (mrun (manP (Lib.itoa n ++ [46, 53]))).trunc = false ∧ (n.natAbs < 4503599627370496 → (wholeN (valL (Lib.itoa n ++ [46, 53]))).2 = false) := by
  obtain ⟨r1, r2, r3, r4, r5⟩ := half_read n
  obtain ⟨m1, m2, m3⟩ := mrun_half n.natAbs (by omega)
  have hI : INF = 9218868437227405312 := rfl
  have hv : valL (Lib.itoa n ++ [46, 53]) = sgw (decide (n < 0)) + v64 (10 * n.natAbs + 5) (-1) := by
    unfold valL
    rw [r3, r4, r5, m1]
    rw [show rfExp (mrun (Lib.decDigits n.natAbs ++ [46, 53])) (expL []) = -1 from m2]
  have hle := v64_le (10 * n.natAbs + 5) (-1) (by omega)
  refine ⟨?_, by rw [r5]; exact m3, fun hlt => ?_⟩
  · rw [hv]
    generalize v64 (10 * n.natAbs + 5) (-1) = x at *
    cases decide (n < 0) <;> simp only [sgw, Bool.false_eq_true, if_false, if_true] <;> omega
  · obtain ⟨r, h1, h2, _⟩ := int_word false (2 * n.natAbs + 1) (by omega)
    rw [UU_is] at h2
    have hp := U_pos
    have hbig : 4607182418800017408 ≤ r := by
      apply Nat.le_of_not_lt
      intro hl
      have := V_lt hl
      rw [V_one, h2] at this
      have : 1 * UU ≤ (2 * n.natAbs + 1) * UU := Nat.mul_le_mul_right _ (by omega)
      omega
    have hh := V_half r (by omega)
    have hx : v64 (10 * n.natAbs + 5) (-1) = r - 4503599627370496 := by
      refine v64_exact _ (-1) _ UU UU_is (by omega) (by omega) (by omega) (by decide) (by decide) ?_
      show (10 * n.natAbs + 5) * 1 * UU = V (r - 4503599627370496) * 10
      rw [h2] at hh
      have : V (r - 4503599627370496) * 10 = V (r - 4503599627370496) * 2 * 5 := by rw [Nat.mul_assoc]
      rw [this, hh, Nat.mul_one, Nat.mul_right_comm]
      exact congrArg (· * UU) (show 10 * n.natAbs + 5 = (2 * n.natAbs + 1) * 5 by omega)
    rw [hv, hx, whole_at _ _ (by omega), if_neg]
    rintro ⟨_, h0⟩
    rw [UU_is] at h0
    rw [h2] at hh
    have hk := Nat.div_add_mod (V (r - 4503599627370496)) UU
    rw [h0, Nat.add_zero] at hk
    rw [← hk, Nat.mul_comm UU, Nat.mul_right_comm] at hh
    have := Nat.eq_of_mul_eq_mul_right hp hh
    omega
/-- What Whole finds is read back as an equal value. -/
theorem whole_same (v : Nat) (hv : v < 18446744073709551616) (x : Int) (h : wholeN v = (x, true)) : x.natAbs ≤ 9007199254740992 ∧ cmpN (valL (Lib.itoa x)) v = (0, 0) := by
  have hI : INF = 9218868437227405312 := rfl
  have h53 : W53 = 4845873199050653696 := rfl
  have hp := U_pos
  obtain ⟨s, a, hva, ha⟩ : ∃ s a, v = sgw s + a ∧ a < 9223372036854775808 := by
    by_cases g : v < 9223372036854775808
    · exact ⟨false, v, by simp [sgw], g⟩
    · exact ⟨true, v - 9223372036854775808, by simp only [sgw, if_true]; omega, by omega⟩
  subst hva
  rw [whole_at s a ha, UU_is] at h
  by_cases hc : a ≤ W53 ∧ V a % UU = 0
  · rw [if_pos hc] at h
    simp only [Prod.mk.injEq, and_true] at h
    obtain ⟨c1, c2⟩ := hc
    have hk := Nat.div_add_mod (V a) UU
    rw [c2, Nat.add_zero, Nat.mul_comm] at hk
    obtain ⟨m, hm⟩ : ∃ m, m = V a / UU := ⟨_, rfl⟩
    rw [← hm] at hk h
    have hm53 : m ≤ 9007199254740992 := by
      apply Nat.le_of_not_lt
      intro hl
      have h1 : V a ≤ V W53 := by
        rcases Nat.lt_or_ge a W53 with g | g
        · exact Nat.le_of_lt (V_lt g)
        · rw [Nat.le_antisymm c1 g]; exact Nat.le_refl _
      rw [V_top, ← hk] at h1
      have h2 : (9007199254740992 + 1) * UU ≤ m * UU := Nat.mul_le_mul_right _ hl
      rw [Nat.add_mul] at h2
      omega
    have hxm : x.natAbs = m := by rw [← h]; cases s <;> simp
    obtain ⟨r, b1, b2, b3, _⟩ := itoa_val x (by omega)
    rw [hxm, hk] at b2
    have hra := V_inj b2
    subst hra
    refine ⟨by omega, ?_⟩
    rw [b3]
    have n1 : ∀ t, nanN (sgw t + r) = false := fun t => by
      rw [nan_f]
      cases t <;> simp only [sgw, Bool.false_eq_true, if_false, if_true] <;> omega
    rw [cmp_num _ _ (n1 _) (n1 _)]
    have ho : ordN (sgw (decide (x < 0)) + r) = ordN (sgw s + r) := by
      by_cases hx0 : m = 0
      · have : V r = V 0 := by rw [← hk, hx0, V_zero, Nat.zero_mul]
        rw [V_inj this]
        cases s <;> cases decide (x < 0) <;> decide
      · have : decide (x < 0) = s := by
          rw [← h]
          cases s
          · exact decide_eq_false (by simp)
          · exact decide_eq_true (by simp; omega)
        rw [this]
    rw [ho, if_neg (by omega), if_neg (by omega)]
  · rw [if_neg hc] at h
    simp at h
end Go.Proofs.YtaidemghhagniaaGreatDoor
end
