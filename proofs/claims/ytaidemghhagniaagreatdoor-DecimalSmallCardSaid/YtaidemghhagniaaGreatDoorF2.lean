/- Plain facts: the unrounded product by a table of powers of ten is exact in what it tells. -/
import Derived.Test.YtaidemghhagniaaGreatDoorF1
namespace Go.Proofs.YtaidemghhagniaaGreatDoor
/-- The whole part, its last bit set where anything is left over. -/
def unr (N D : Nat) : Nat := if N % D = 0 then N / D else (N / D) ||| 1
def usc (x hi lo s : Nat) : Nat :=
  let H := x * hi / 18446744073709551616
  let mid := x * hi % 18446744073709551616
  let mid2 := x * lo / 18446744073709551616
  if H % 2 ^ s ≠ 0 then (H / 2 ^ s) ||| 1
  else if mid < mid2 then ((H - 1) / 2 ^ s) ||| 1
  else if 1 < mid - mid2 then (H / 2 ^ s) ||| 1
  else H / 2 ^ s
theorem div_mid {A W k c S : Nat} (hc : c < S) (h1 : (k * S + c) * W < A) (h2 : A < (k * S + c + 1) * W) : A / (S * W) = k ∧ A % (S * W) ≠ 0 := by
  have hW : 0 < W := by
    rcases Nat.eq_zero_or_pos W with h | h
    · subst h; simp at h2
    · exact h
  have a1 : k * S * W ≤ (k * S + c) * W := Nat.mul_le_mul_right _ (by omega)
  have a2 : (k * S + c + 1) * W ≤ (k + 1) * S * W := Nat.mul_le_mul_right _ (by rw [Nat.add_mul, Nat.one_mul]; omega)
  have a3 : k * S * W = S * W * k := by rw [Nat.mul_assoc, Nat.mul_comm]
  have a4 : (k + 1) * S * W = S * W * (k + 1) := by rw [Nat.mul_assoc, Nat.mul_comm]
  have hq : A / (S * W) = k := by
    apply Nat.div_eq_of_lt_le
    · rw [Nat.mul_comm]; omega
    · rw [Nat.mul_comm]; omega
  refine ⟨hq, fun e => ?_⟩
  have := Nat.div_add_mod A (S * W)
  rw [hq, e] at this
  omega
theorem usc_ok (x hi lo s num den pm W T : Nat) (hW' : W = den * 340282366920938463463374607431768211456) (hT' : T = W * 256) (hx : x < 18446744073709551616) (hx0 : 0 < x) (hlo : lo < 18446744073709551616) (hpm : pm + lo = hi * 18446744073709551616)
    (hd : 0 < den) (hn1 : num ≤ den * pm) (hn2 : den * pm < num + den) (hs : 8 ≤ s) (hH : 0 < x * hi / 18446744073709551616)
    (hex : ∀ y : Nat, x * num ≤ y * T + den * 18446744073709551616 → y * T < x * num + den * 36893488147419103232 → x * num = y * T) :
    usc x hi lo s = unr (x * num) (2 ^ s * W) := by
  unfold usc unr
  dsimp only
  generalize hHd : x * hi / 18446744073709551616 = H at hH ⊢
  generalize hmd : x * hi % 18446744073709551616 = mid
  have e1 : x * hi = H * 18446744073709551616 + mid := by omega
  have e2 : x * lo / 18446744073709551616 * 18446744073709551616 + x * lo % 18446744073709551616 = x * lo := by omega
  have hm2 : x * lo / 18446744073709551616 ≤ 18446744073709551614 := by
    have : x * lo ≤ 18446744073709551615 * 18446744073709551615 := Nat.mul_le_mul (by omega) (by omega)
    omega
  have hl2 : x * lo % 18446744073709551616 < 18446744073709551616 := Nat.mod_lt _ (by omega)
  generalize x * lo / 18446744073709551616 = mid2 at hm2 e2 ⊢
  generalize x * lo % 18446744073709551616 = lo2 at hl2 e2 ⊢
  have hmid : mid < 18446744073709551616 := by omega
  -- the product
  have e3 : x * pm + (mid2 * 18446744073709551616 + lo2) = H * 340282366920938463463374607431768211456 + mid * 18446744073709551616 := by
    have : x * (pm + lo) = x * (hi * 18446744073709551616) := by rw [hpm]
    rw [Nat.mul_add, ← Nat.mul_assoc, e1, ← e2] at this
    rw [this, Nat.add_mul, Nat.mul_assoc]
  have e4 : den * (x * pm) + (den * mid2 * 18446744073709551616 + den * lo2) = H * W + den * mid * 18446744073709551616 := by
    have := congrArg (den * ·) e3
    simp only [Nat.mul_add] at this
    have c2 : den * (H * 340282366920938463463374607431768211456) = H * W := by rw [hW']; exact Nat.mul_left_comm _ _ _
    rw [Nat.mul_assoc den mid2, Nat.mul_assoc den mid, this, c2]
  have a1 : x * num ≤ den * (x * pm) := by
    rw [Nat.mul_left_comm]; exact Nat.mul_le_mul_left _ hn1
  have a2 : den * (x * pm) < x * num + x * den := by
    rw [Nat.mul_left_comm, ← Nat.mul_add]; exact Nat.mul_lt_mul_of_pos_left hn2 hx0
  have a3 : x * den ≤ 18446744073709551615 * den := Nat.mul_le_mul_right _ (by omega)
  have a4 : den * lo2 + den ≤ den * 18446744073709551616 := by
    have := Nat.mul_le_mul_left den (show lo2 + 1 ≤ 18446744073709551616 by omega)
    rw [Nat.mul_add, Nat.mul_one] at this; exact this
  generalize hA : x * num = A at a1 a2 hex ⊢
  have b1 : H * W + W = (H + 1) * W := by rw [Nat.add_mul, Nat.one_mul]
  have b2 : (H - 1) * W + W = H * W := by
    have : H - 1 + 1 = H := by omega
    rw [← Nat.succ_mul, Nat.succ_eq_add_one, this]
  have hdm : den * mid + den ≤ den * 18446744073709551616 := by
    have := Nat.mul_le_mul_left den (show mid + 1 ≤ 18446744073709551616 by omega)
    rw [Nat.mul_add, Nat.mul_one] at this; exact this
  have hdm2 : den * mid2 + 2 * den ≤ den * 18446744073709551616 := by
    have := Nat.mul_le_mul_left den (show mid2 + 2 ≤ 18446744073709551616 by omega)
    rw [Nat.mul_add, Nat.mul_comm den 2] at this; exact this
  have hHs := Nat.div_add_mod H (2 ^ s)
  have hHl : H % 2 ^ s < 2 ^ s := Nat.mod_lt _ (Nat.two_pow_pos s)
  rw [Nat.mul_comm] at hHs
  generalize hc : H % 2 ^ s = c at hHs hHl ⊢
  generalize hk : H / 2 ^ s = k at hHs ⊢
  have hS : 0 < 2 ^ s := Nat.two_pow_pos s
  by_cases g1 : c = 0
  · subst g1
    have hHk : H = k * 2 ^ s := by omega
    rw [if_neg (by simp)]
    by_cases g2 : mid < mid2
    · rw [if_pos g2]
      have hl : den * mid + den ≤ den * mid2 := by
        have := Nat.mul_le_mul_left den (show mid + 1 ≤ mid2 by omega)
        rw [Nat.mul_add, Nat.mul_one] at this; exact this
      have l1 : (H - 1) * W < A := by omega
      have l2 : A < H * W := by omega
      have hk1 : 1 ≤ k := by
        apply Nat.pos_of_ne_zero; intro h0; subst h0; omega
      have f1 : H - 1 = (k - 1) * 2 ^ s + (2 ^ s - 1) := by
        have : k * 2 ^ s = (k - 1) * 2 ^ s + 2 ^ s := by rw [← Nat.succ_mul, Nat.succ_eq_add_one, Nat.sub_add_cancel hk1]
        omega
      obtain ⟨r1, r2⟩ := div_mid (S := 2 ^ s) (k := k - 1) (c := 2 ^ s - 1) (W := W) (A := A) (by omega) (by rw [← f1]; exact l1) (by rw [← f1, show H - 1 + 1 = H by omega]; exact l2)
      have f2 : (H - 1) / 2 ^ s = k - 1 := by
        rw [f1, Nat.mul_comm, Nat.mul_add_div hS, Nat.div_eq_of_lt (by omega), Nat.add_zero]
      rw [if_neg r2, r1, f2]
    · rw [if_neg g2]
      by_cases g3 : 1 < mid - mid2
      · rw [if_pos g3]
        have hl : den * mid2 + 2 * den ≤ den * mid := by
          have := Nat.mul_le_mul_left den (show mid2 + 2 ≤ mid by omega)
          rw [Nat.mul_add, Nat.mul_comm den 2] at this; exact this
        have l1 : H * W < A := by omega
        have l2 : A < (H + 1) * W := by omega
        obtain ⟨r1, r2⟩ := div_mid (S := 2 ^ s) (k := k) (c := 0) (W := W) (A := A) (by omega) (by rw [Nat.add_zero, ← hHk]; exact l1) (by rw [Nat.add_zero, ← hHk]; exact l2)
        rw [if_neg r2, r1]
      · rw [if_neg g3]
        have hl : den * mid2 ≤ den * mid := Nat.mul_le_mul_left den (by omega)
        have hl2 : den * mid ≤ den * mid2 + den := by
          have := Nat.mul_le_mul_left den (show mid ≤ mid2 + 1 by omega)
          rw [Nat.mul_add, Nat.mul_one] at this; exact this
        -- the whole of 2^s is a multiple of 2^8
        have hs8 : 2 ^ s = 2 ^ (s - 8) * 256 := by
          rw [show (256 : Nat) = 2 ^ 8 from rfl, ← Nat.pow_add]; congr 1; omega
        have hT : k * 2 ^ (s - 8) * T = H * W := by
          rw [hHk, hs8, hT', ← Nat.mul_assoc k, Nat.mul_assoc (k * 2 ^ (s - 8)) 256, Nat.mul_comm W 256]
        have := hex (k * 2 ^ (s - 8)) (by rw [hT]; omega) (by rw [hT]; omega)
        rw [hT, hHk, Nat.mul_assoc, Nat.mul_comm] at this
        have hWp : 0 < 2 ^ s * W := Nat.mul_pos hS (by omega)
        rw [this, if_pos (Nat.mul_mod_right _ _), Nat.mul_div_cancel_left _ hWp]
  · rw [if_pos (by simpa using g1)]
    have l1 : (H - 1) * W < A := by omega
    have l2 : A < (H + 1) * W := by omega
    have g0 : A ≠ H * W ∨ True := .inr trivial
    -- from (H - 1) on, and less than H + 1: one of both
    by_cases g2 : H * W < A
    · obtain ⟨r1, r2⟩ := div_mid (S := 2 ^ s) (k := k) (c := c) (W := W) (A := A) (by omega) (by rw [hHs]; exact g2) (by rw [hHs]; exact l2)
      rw [if_neg r2, r1]
    · have q1 : k * (2 ^ s * W) < A := by
        have : k * 2 ^ s * W ≤ (H - 1) * W := Nat.mul_le_mul_right _ (by omega)
        rw [Nat.mul_assoc] at this; omega
      have q2 : A < (k + 1) * (2 ^ s * W) := by
        have : (H + 1) * W ≤ (k + 1) * 2 ^ s * W := Nat.mul_le_mul_right _ (by rw [Nat.add_mul, Nat.one_mul]; omega)
        rw [Nat.mul_assoc] at this; omega
      have r1 : A / (2 ^ s * W) = k := Nat.div_eq_of_lt_le (by omega) (by omega)
      have r2 : A % (2 ^ s * W) ≠ 0 := by
        intro e
        have := Nat.div_add_mod A (2 ^ s * W)
        rw [r1, e, Nat.mul_comm] at this; omega
      rw [if_neg r2, r1]
/-- Where a great number divides both sides, what is near is the same. -/
theorem near_dvd (x num den G T : Nat) (h1 : G ∣ num) (h2 : G ∣ T) (h3 : den * 36893488147419103232 ≤ G) (y : Nat) (a : x * num ≤ y * T + den * 18446744073709551616) (b : y * T < x * num + den * 36893488147419103232) : x * num = y * T := by
  obtain ⟨u, rfl⟩ := h1
  obtain ⟨v, rfl⟩ := h2
  rw [Nat.mul_left_comm x, Nat.mul_left_comm y] at *
  generalize x * u = m at *
  generalize y * v = n at *
  rcases Nat.lt_trichotomy m n with l | l | l
  · have : G * m + G ≤ G * n := by
      have := Nat.mul_le_mul_left G l; rw [Nat.succ_eq_add_one, Nat.mul_add, Nat.mul_one] at this; exact this
    omega
  · rw [l]
  · have : G * n + G ≤ G * m := by
      have := Nat.mul_le_mul_left G l; rw [Nat.succ_eq_add_one, Nat.mul_add, Nat.mul_one] at this; exact this
    have : 0 < G := by
      rcases Nat.eq_zero_or_pos G with h | h
      · subst h; simp at a b; omega
      · exact h
    by_cases hd : den = 0
    · subst hd; omega
    · omega
/-- Two neighbours of a lattice: nothing else is as near. -/
theorem near_two (x num T den q1 r1 q2 r2 bm : Int) (hx : x < 18446744073709551616) (hx2 : 9223372036854775808 ≤ x)
    (hq1 : 0 ≤ q1) (hq2 : 0 ≤ q2) (hq : 18446744073709551616 ≤ q1 + q2) (hdet : q1 * r2 - q2 * r1 = 1)
    (h1 : den * 18446744073709551616 < q1 * num - r1 * T) (h2 : q2 * num - r2 * T < 0)
    (h3 : den * 36893488147419103232 ≤ (q1 * num - r1 * T) - (q2 * num - r2 * T))
    (hbm : (bm - 1) * q2 < 9223372036854775808) (h4 : bm * (q2 * num - r2 * T) ≤ -(den * 36893488147419103232))
    (y : Int) (a : x * num ≤ y * T + den * 18446744073709551616) (b : y * T < x * num + den * 36893488147419103232) : False := by
  have ea : (x * r2 - y * q2) * q1 + (y * q1 - x * r1) * q2 = x := by
    have : (x * r2 - y * q2) * q1 + (y * q1 - x * r1) * q2 = x * (q1 * r2 - q2 * r1) := by grind
    rw [this, hdet, Int.mul_one]
  have eb : (x * r2 - y * q2) * r1 + (y * q1 - x * r1) * r2 = y := by
    have : (x * r2 - y * q2) * r1 + (y * q1 - x * r1) * r2 = y * (q1 * r2 - q2 * r1) := by grind
    rw [this, hdet, Int.mul_one]
  generalize x * r2 - y * q2 = u at *
  generalize y * q1 - x * r1 = v at *
  have ed : x * num - y * T = u * (q1 * num - r1 * T) + v * (q2 * num - r2 * T) := by
    rw [← ea, ← eb]; grind
  generalize q1 * num - r1 * T = D1 at *
  generalize q2 * num - r2 * T = D2 at *
  have hd : x * num - y * T ≤ den * 18446744073709551616 := by omega
  have hd2 : -(den * 36893488147419103232) < x * num - y * T := by omega
  rw [ed] at hd hd2
  rcases Int.lt_or_le 0 u with hu | hu
  · rcases Int.lt_or_le 0 v with hv | hv
    · have p1 : q1 ≤ u * q1 := by have := Int.mul_le_mul_of_nonneg_right hu hq1; omega
      have p2 : q2 ≤ v * q2 := by have := Int.mul_le_mul_of_nonneg_right hv hq2; omega
      omega
    · have p1 : D1 ≤ u * D1 := by have := Int.mul_le_mul_of_nonneg_right hu (show 0 ≤ D1 by omega); omega
      have p2 : 0 ≤ v * D2 := Int.mul_nonneg_of_nonpos_of_nonpos hv (by omega)
      omega
  · rcases Int.lt_or_le 0 v with hv | hv
    · by_cases hu0 : u = 0
      · subst hu0
        simp only [Int.zero_mul, Int.zero_add] at *
        have hb : bm ≤ v := by
          apply Int.not_lt.1; intro hlt
          have : v * q2 ≤ (bm - 1) * q2 := Int.mul_le_mul_of_nonneg_right (by omega) hq2
          omega
        have : v * D2 ≤ bm * D2 := Int.mul_le_mul_of_nonpos_right hb (by omega)
        omega
      · have p1 : u * D1 ≤ -1 * D1 := Int.mul_le_mul_of_nonneg_right (by omega) (by omega)
        have p2 : v * D2 ≤ 1 * D2 := Int.mul_le_mul_of_nonpos_right (by omega) (by omega)
        omega
    · have p1 : u * q1 ≤ 0 := Int.mul_nonpos_of_nonpos_of_nonneg hu hq1
      have p2 : v * q2 ≤ 0 := Int.mul_nonpos_of_nonpos_of_nonneg hv hq2
      omega
end Go.Proofs.YtaidemghhagniaaGreatDoor
