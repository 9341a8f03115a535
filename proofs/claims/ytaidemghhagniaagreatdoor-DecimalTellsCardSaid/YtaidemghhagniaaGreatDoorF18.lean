/- Plain facts: the integer part of a float. -/
import Derived.Test.YtaidemghhagniaaGreatDoorF17
namespace Go.Proofs.YtaidemghhagniaaGreatDoor
open Go Ieee
theorem cut_zero (neg : Bool) (n k : Nat) : Toward.zero.cut neg n k = n / 2 ^ k := by
  unfold Toward.cut
  dsimp only
  rw [Nat.one_shiftLeft]
  show _ + 0 = _
  rw [Nat.add_zero]
  by_cases hk : k ≤ n.log2 + 2
  · rw [Nat.min_eq_left hk]
  · rw [Nat.min_eq_right (by omega)]
    have h1 : n < 2 ^ (n.log2 + 1) := Nat.lt_log2_self
    have h2 : 2 ^ (n.log2 + 2) = 2 * 2 ^ (n.log2 + 1) := by rw [Nat.pow_succ]; omega
    have h3 : 2 ^ (n.log2 + 2) ≤ 2 ^ k := Nat.pow_le_pow_right (by omega) (by omega)
    rw [Nat.div_eq_of_lt (show n < 2 ^ (n.log2 + 2) by omega), Nat.div_eq_of_lt (show n < 2 ^ k by omega)]
theorem int_part (s : Bool) (a : Nat) (ha : a < INF) : (double.read (sgw s + a)).integral .zero = .number s (V a / 2 ^ 1074) 0 := by
  rw [read_ok s a ha]
  unfold Datum.integral
  dsimp only
  rw [cut_zero, Nat.shiftLeft_eq]
  obtain ⟨p, hp⟩ : ∃ p, p = ex a - 1 := ⟨_, rfl⟩
  have va : V a = fr a * 2 ^ p := by rw [hp]; rfl
  rw [← hp, va]
  obtain ⟨K, hK⟩ : ∃ K : Nat, K = 1074 := ⟨_, rfl⟩
  rw [show (-1074 : Int) = -(K : Int) by omega, ← hK]
  congr 1
  rcases Nat.le_total K p with h | h
  · rw [show (-(K : Int) + (p : Int)).toNat = p - K by omega, show (-(-(K : Int) + (p : Int))).toNat = 0 by omega, Nat.pow_zero, Nat.div_one]
    conv => rhs; rw [show p = (p - K) + K by omega, Nat.pow_add, ← Nat.mul_assoc]
    rw [Nat.mul_div_cancel _ (Nat.two_pow_pos K)]
  · rw [show (-(K : Int) + (p : Int)).toNat = 0 by omega, show (-(-(K : Int) + (p : Int))).toNat = K - p by omega, Nat.pow_zero, Nat.mul_one]
    conv => rhs; rw [show K = p + (K - p) by omega, Nat.pow_add, ← Nat.div_div_eq_div_mul, Nat.mul_div_cancel _ (Nat.two_pow_pos p)]
def W53 : Nat := 4845873199050653696
theorem V_53 : V W53 = 9007199254740992 * 2 ^ 1074 := by decide +kernel
theorem div_le_gen (A B T : Nat) (hT : 0 < T) (h : A ≤ B * T) : A / T ≤ B := by
  have := Nat.div_le_div_right (c := T) h
  rwa [Nat.mul_div_cancel _ hT] at this
theorem int_le (a : Nat) (ha : a ≤ W53) : V a / 2 ^ 1074 ≤ 9007199254740992 := by
  have h := Nat.le_trans (V_mono ha) (Nat.le_of_eq V_53)
  obtain ⟨K, hK⟩ : ∃ K : Nat, K = 1074 := ⟨_, rfl⟩
  rw [← hK] at h ⊢
  exact div_le_gen _ _ _ (Nat.two_pow_pos K) h
theorem zero_gen (T : Nat) : V 0 = 0 * T := by rw [V_zero, Nat.zero_mul]
theorem int_word0 (s : Bool) (N : Nat) (hN : N ≤ 9007199254740992) (U : Nat) (hU : 2 ^ 1074 = U) : ∃ r, r < INF ∧ V r = N * U ∧ double.write (.number s N 0) = sgw s + r := by
  by_cases h0 : N = 0
  · subst h0
    refine ⟨0, by decide, zero_gen U, ?_⟩
    cases s <;> decide +kernel
  · by_cases h1 : N = 9007199254740992
    · subst h1
      exact ⟨W53, by decide, by rw [← hU]; exact V_53, by cases s <;> decide +kernel⟩
    · obtain ⟨r, h2, h3, _⟩ := int_rung N (by omega) (by omega)
      exact ⟨r, h2, by rw [← hU]; exact h3, of_int s N (by omega) r h2 h3⟩
theorem int_word (s : Bool) (N : Nat) (hN : N ≤ 9007199254740992) : ∃ r, r < INF ∧ V r = N * 2 ^ 1074 ∧ double.write (.number s N 0) = sgw s + r := int_word0 s N hN _ rfl
/-- What Whole answers. -/
def wholeN (v : Nat) : Int × Bool := if v % 9223372036854775808 ≤ W53 ∧ V (v % 9223372036854775808) % 2 ^ 1074 = 0 then (if v < 9223372036854775808 then ((V (v % 9223372036854775808) / 2 ^ 1074 : Nat) : Int) else -((V (v % 9223372036854775808) / 2 ^ 1074 : Nat) : Int), true) else (0, false)
theorem trunc_gen (s : Bool) (a r T : Nat) (hV : V r = V a / T * T) : (some (compare (if s then -(a : Int) else a) (if s then -(r : Int) else r)) != some .eq) = decide (V a % T ≠ 0) := by
  have hd := Nat.div_add_mod (V a) T
  rw [Nat.mul_comm, ← hV] at hd
  by_cases h : V a % T = 0
  · have : a = r := V_inj (by omega)
    rw [decide_eq_false (by simpa using h), cmp_eq (by rw [this])]; rfl
  · rw [decide_eq_true h]
    have : r < a := by
      rcases Nat.lt_or_ge r a with g | g
      · exact g
      · have := V_mono g; omega
    cases s
    · rw [cmp_gt (by simp only [Bool.false_eq_true, if_false]; omega)]; rfl
    · rw [cmp_lt (by simp only [if_true]; omega)]; rfl
theorem trunc_eq (s : Bool) (a r : Nat) (ha : a < INF) (hr : r < INF) (hV : V r = V a / 2 ^ 1074 * 2 ^ 1074) : (double.order (sgw s + a) (sgw s + r) != some .eq) = decide (V a % 2 ^ 1074 ≠ 0) := by
  rw [order_num s s a r (by omega) (by omega)]
  exact trunc_gen s a r _ hV
end Go.Proofs.YtaidemghhagniaaGreatDoor
