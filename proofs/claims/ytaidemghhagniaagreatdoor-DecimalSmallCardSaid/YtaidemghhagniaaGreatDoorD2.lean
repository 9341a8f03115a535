/- Plain facts on the bits of floats. -/
namespace Go.Proofs.YtaidemghhagniaaGreatDoor
theorem and_pow (n i : Nat) : n &&& 2 ^ i = n / 2 ^ i % 2 * 2 ^ i := by
  have hb := Nat.testBit_eq_decide_div_mod_eq (x := n) (i := i)
  have hc : n / 2 ^ i % 2 = 0 ∨ n / 2 ^ i % 2 = 1 := by omega
  apply Nat.eq_of_testBit_eq
  intro j
  rw [Nat.testBit_and, Nat.testBit_two_pow]
  rcases hc with h | h
  · rw [h, Nat.zero_mul, Nat.zero_testBit]
    rw [h] at hb
    by_cases e : i = j
    · subst e; rw [hb]; rfl
    · simp [e]
  · rw [h, Nat.one_mul, Nat.testBit_two_pow]
    rw [h] at hb
    by_cases e : i = j
    · subst e; rw [hb]; simp
    · simp [e]
/-- A number without one of its bits. -/
theorem and_not_pow (n i k : Nat) (hi : i < k) (hn : n < 2 ^ k) : n &&& (2 ^ k - 1 - 2 ^ i) = n - (n &&& 2 ^ i) := by
  have h1 : 2 ^ k - 1 - 2 ^ i = 2 ^ k - (2 ^ i + 1) := by omega
  have h2 : 2 ^ i < 2 ^ k := Nat.pow_lt_pow_right (by omega) hi
  rw [h1, and_pow]
  have hd := Nat.div_add_mod n (2 ^ (i + 1))
  have hm := Nat.mod_lt n (Nat.two_pow_pos (i + 1))
  obtain ⟨a, b, c, hb, hc, hn2⟩ : ∃ a b c, b < 2 ∧ c < 2 ^ i ∧ n = 2 ^ (i + 1) * a + (2 ^ i * b + c) := by
    refine ⟨n / 2 ^ (i + 1), n % 2 ^ (i + 1) / 2 ^ i, n % 2 ^ (i + 1) % 2 ^ i, ?_, Nat.mod_lt _ (Nat.two_pow_pos i), ?_⟩
    · rw [Nat.div_lt_iff_lt_mul (Nat.two_pow_pos i)]; rw [Nat.pow_succ] at hm; omega
    · rw [Nat.div_add_mod, Nat.div_add_mod]
  have hbit : n / 2 ^ i % 2 = b := by
    rw [hn2, Nat.pow_succ, show 2 ^ i * 2 * a + (2 ^ i * b + c) = 2 ^ i * (2 * a + b) + c by rw [Nat.mul_add]; rw [Nat.mul_assoc]; omega, Nat.mul_add_div (Nat.two_pow_pos i), Nat.div_eq_of_lt hc]
    omega
  have hres : n - b * 2 ^ i = 2 ^ (i + 1) * a + c := by
    rw [hn2, Nat.mul_comm b]; omega
  rw [hbit, hres]
  apply Nat.eq_of_testBit_eq
  intro j
  rw [Nat.testBit_and, Nat.testBit_two_pow_sub_succ h2, Nat.testBit_two_pow, hn2]
  have hlt : 2 ^ i * b + c < 2 ^ (i + 1) := by
    rw [Nat.pow_succ]
    have : 2 ^ i * b ≤ 2 ^ i * 1 := Nat.mul_le_mul_left _ (by omega)
    omega
  have hc2 : c < 2 ^ (i + 1) := by rw [Nat.pow_succ]; omega
  rw [Nat.testBit_two_pow_mul_add a hlt, Nat.testBit_two_pow_mul_add a hc2]
  by_cases hj : j < i + 1
  · rw [if_pos hj, if_pos hj, Nat.testBit_two_pow_mul_add b hc]
    by_cases hji : j < i
    · rw [if_pos hji]
      have : j < k := by omega
      simp [this]; omega
    · have : j = i := by omega
      subst this
      simp [Nat.testBit_lt_two_pow hc]
  · rw [if_neg hj, if_neg hj]
    by_cases hjk : j < k
    · simp [hjk]; intro _; omega
    · have : a.testBit (j - (i + 1)) = false := by
        apply Nat.testBit_lt_two_pow
        have h3 : 2 ^ (i + 1) * a < 2 ^ (i + 1) * 2 ^ (k - (i + 1)) := by
          rw [← Nat.pow_add, show i + 1 + (k - (i + 1)) = k by omega]; omega
        have h4 := Nat.lt_of_mul_lt_mul_left h3
        exact Nat.lt_of_lt_of_le h4 (Nat.pow_le_pow_right (by omega) (by omega))
      simp [this]
theorem or_low (i a b : Nat) (h : b < 2 ^ i) : (2 ^ i * a) ||| b = 2 ^ i * a + b := (Nat.two_pow_add_eq_or_of_lt h a).symm
/-- Sign and the rest. -/
theorem or_sign (sg m : Nat) (hs : sg = 0 ∨ sg = 9223372036854775808) (hm : m < 9223372036854775808) : sg ||| m = sg + m := by
  rcases hs with rfl | rfl
  · rw [Nat.zero_or, Nat.zero_add]
  · exact or_low 63 1 m hm
theorem and_52 (sg m : Nat) (hs : sg = 0 ∨ sg = 9223372036854775808) (hm : m < 9007199254740992) : (sg + m) &&& 4503599627370496 = if 4503599627370496 ≤ m then 4503599627370496 else 0 := by
  rw [show (4503599627370496 : Nat) = 2 ^ 52 from rfl, and_pow]
  have h : (sg + m) / 4503599627370496 % 2 = m / 4503599627370496 := by rcases hs with rfl | rfl <;> omega
  rw [show (2 : Nat) ^ 52 = 4503599627370496 from rfl, h]
  split <;> omega
theorem and_63 (sg m : Nat) (hs : sg = 0 ∨ sg = 9223372036854775808) (hm : m < 9223372036854775808) : (sg + m) &&& 9223372036854775808 = sg := by
  rw [show (9223372036854775808 : Nat) = 2 ^ 63 from rfl, and_pow, show (2 : Nat) ^ 63 = 9223372036854775808 from rfl]
  rcases hs with rfl | rfl <;> omega
theorem andNot_52 (sg m : Nat) (hs : sg = 0 ∨ sg = 9223372036854775808) (hm : m < 9007199254740992) (h : 4503599627370496 ≤ m) : (sg + m) &&& (18446744073709551615 - 4503599627370496) = sg + m - 4503599627370496 := by
  have h1 := and_not_pow (sg + m) 52 64 (by omega) (by rw [show (2 : Nat) ^ 64 = 18446744073709551616 from rfl]; rcases hs with rfl | rfl <;> omega)
  have h2 := and_52 sg m hs hm
  rw [if_pos h] at h2
  rw [show (2 : Nat) ^ 52 = 4503599627370496 from rfl, h2] at h1
  exact h1
theorem or_exp (sg r k : Nat) (hs : sg = 0 ∨ sg = 9223372036854775808) (hr : r < 4503599627370496) (hk : k < 2048) : (sg + r) ||| (k * 4503599627370496) = sg + r + k * 4503599627370496 := by
  have h1 : k * 4503599627370496 + r = (k * 4503599627370496) ||| r := by
    rw [Nat.mul_comm]; exact (or_low 52 k r hr).symm
  have h2 := or_sign sg (k * 4503599627370496 + r) hs (by omega)
  have h3 := or_sign sg r hs (by omega)
  rw [← h3, Nat.or_assoc, Nat.or_comm r, ← h1, h2, h3]; omega
end Go.Proofs.YtaidemghhagniaaGreatDoor
