/- The contract of atof64exact. -/
import Derived.Test.YtaidemghhagniaaGreatDoorLC
import Derived.Test.YtaidemghhagniaaGreatDoorD4
import Derived.Test.YtaidemghhagniaaGreatDoorF11
namespace Go.Proofs.YtaidemghhagniaaGreatDoor
open Go Go.RowKit
set_option linter.unusedVariables false
theorem pf_of_near (d i r : Nat) (h0 : 0 < d) (hd : d < 18446744073709551616) (hi : i < 696) (h : Near (d * pP i * 2 ^ 1075) (pQ i) r) : r = pf64 d i :=
  near_eq (pQ_pos i) h (pf64_ok d i h0 hd hi)
theorem ex_mul (neg : Bool) (r0 A k d i : Nat) (hr : r0 < INF) (hr0 : 0 < r0) (hA : V r0 = A * 2 ^ 1074) (hk : k < 23) (h0 : 0 < d) (hd : d < 18446744073709551616) (hi : i < 696) (hq : pQ i = 1) (he : A * 10 ^ k = d * pP i) :
    floatBits .mul .f64 (sgw neg + r0) (f10 k) = some (sgw neg + pf64 d i) := by
  obtain ⟨f1, f2, f3⟩ := f10_ok k hk
  obtain ⟨r, h1, h2⟩ := mul_near neg false r0 (f10 k) A (10 ^ k) hr f2 hA f1 hr0 f3
  rw [he] at h2
  have := pf_of_near d i r h0 hd hi (by rw [hq]; exact h2)
  rw [show sgw false + f10 k = f10 k from Nat.zero_add _, Bool.xor_false, this] at h1
  exact h1
theorem ex_div (neg : Bool) (r0 k d i : Nat) (hr : r0 < INF) (hA : V r0 = d * 2 ^ 1074) (hk : k < 23) (h0 : 0 < d) (hd : d < 9007199254740992) (hi : i < 696) (hp : pP i = 1) (hq : pQ i = 10 ^ k) :
    floatBits .quo .f64 (sgw neg + r0) (f10 k) = some (sgw neg + pf64 d i) := by
  obtain ⟨f1, f2, f3⟩ := f10_ok k hk
  have hk2 : (10 : Nat) ^ k ≤ 10 ^ 22 := Nat.pow_le_pow_right (by omega) (by omega)
  have e22 : (10 : Nat) ^ 22 < 2 ^ 75 := by decide
  have e53 : (9007199254740992 : Nat) < 2 ^ 75 := by decide
  obtain ⟨r, h1, h2⟩ := div_near neg false r0 (f10 k) d (10 ^ k) hr f2 hA f1 h0 (Nat.pow_pos (by omega)) (by omega) (by omega)
  have := pf_of_near d i r h0 (by omega) hi (by rw [hp, hq, Nat.mul_one]; exact h2)
  rw [show sgw false + f10 k = f10 k from Nat.zero_add _, Bool.xor_false, this] at h1
  exact h1
theorem ex_one (r0 d : Nat) (hr : r0 < INF) (hA : V r0 = d * 2 ^ 1074) (h0 : 0 < d) (hd : d < 18446744073709551616) : r0 = pf64 d 348 := by
  refine pf_of_near d 348 r0 h0 hd (by omega) ?_
  have h := near_V r0 1 (by omega) Nat.one_pos
  rw [hA] at h
  have e1 : pQ 348 = 1 := rfl
  have e2 : pP 348 = 1 := rfl
  rw [e1, e2, Nat.mul_one]
  obtain ⟨K, hK⟩ : ∃ K : Nat, K = 1074 := ⟨_, rfl⟩
  rw [← hK] at h
  rw [show 1075 = K + 1 by omega, Nat.pow_succ]
  rw [show d * (2 ^ K * 2) = 2 * (d * 2 ^ K) * 1 by rw [Nat.mul_one, ← Nat.mul_assoc, Nat.mul_comm 2]]
  exact h
/-- A product that is rounded to at most 10^15 is exact. -/
theorem ex_first (D r : Nat) (hD : 0 < D) (h : Near (D * 2 ^ 1075) 1 r) (hr : r ≤ 4831355200913801216) : V r = D * 2 ^ 1074 ∧ 0 < r := by
  have h53 : D < 9007199254740992 := by
    apply Nat.lt_of_not_le; intro hge
    have hv : V 4845873199050653696 = 9007199254740992 * 2 ^ 1074 := by decide +kernel
    have h2 := near_V 4845873199050653696 1 (by decide) Nat.one_pos
    rw [hv] at h2
    obtain ⟨K, hK⟩ : ∃ K : Nat, K = 1074 := ⟨_, rfl⟩
    rw [← hK] at h2
    rw [show 1075 = K + 1 by omega, Nat.pow_succ] at h
    have := near_le Nat.one_pos Nat.one_pos (by
      generalize 2 ^ K = Z
      have h3 := Nat.mul_le_mul_right (Z * 2) hge
      rw [Nat.mul_one, Nat.mul_one, Nat.mul_one]
      exact Nat.le_trans (by omega) h3) h2 h
    omega
  obtain ⟨r1, a1, a2, a3⟩ := int_rung D hD h53
  have := near_exact (r0 := r1) Nat.one_pos (by omega) (by
    rw [a2, Nat.mul_one]
    obtain ⟨K, hK⟩ : ∃ K : Nat, K = 1074 := ⟨_, rfl⟩
    rw [← hK, show 1075 = K + 1 by omega, Nat.pow_succ, ← Nat.mul_assoc, Nat.mul_comm 2]) h
  rw [this]; exact ⟨a2, a3⟩
theorem first_lt (D r : Nat) (hD : D < 2 ^ 102) (h : Near (D * 2 ^ 1075) 1 r) : r < INF := by
  obtain ⟨h1, _, h3⟩ := h
  apply Nat.lt_of_not_le; intro hge
  have e : r = INF := by omega
  obtain ⟨h4, _⟩ := h3 (by rw [e]; decide)
  rw [e, Nat.mul_one] at h4
  obtain ⟨K, hK⟩ : ∃ K : Nat, K = 1075 := ⟨_, rfl⟩
  rw [← hK] at h4
  have e1 : ex (INF - 1) = 2046 := by decide +kernel
  have h5 : 2 ^ 102 * 2 ^ K ≤ M (INF - 1) := by
    unfold M
    rw [e1, ← Nat.pow_add]
    exact Nat.le_trans (Nat.pow_le_pow_right (n := 2) (by omega) (show 102 + K ≤ 2046 - 1 by omega)) (Nat.le_mul_of_pos_left _ (by omega))
  have h6 : D * 2 ^ K < 2 ^ 102 * 2 ^ K := Nat.mul_lt_mul_of_pos_right hD (Nat.two_pow_pos _)
  exact absurd (Nat.lt_of_lt_of_le h6 h5) (Nat.not_lt.2 h4)
theorem order_le (neg : Bool) (r : Nat) (hr : r < INF) (h1 : (FloatKind.f64.format.order (sgw neg + r) 4831355200913801216 == some .gt) = false) (h2 : (FloatKind.f64.format.order (sgw neg + r) 14054727237768577024 == some .lt) = false) : r ≤ 4831355200913801216 := by
  obtain ⟨o1, o2⟩ := order_ok r 4831355200913801216 hr (by decide)
  apply Nat.le_of_not_lt; intro hlt
  have hV := V_lt hlt
  cases neg
  · rw [show sgw false + r = r from Nat.zero_add r, o1] at h1
    have : compare (V r : Int) (V 4831355200913801216 : Int) = .gt := by
      simp only [compare, compareOfLessAndEq]
      rw [if_neg (by omega), if_neg (by omega)]
    rw [this] at h1
    exact absurd h1 (by decide)
  · rw [show sgw true + r = 9223372036854775808 + r from rfl, show (14054727237768577024 : Nat) = 9223372036854775808 + 4831355200913801216 from rfl, o2] at h2
    have : compare (-(V r : Int)) (-(V 4831355200913801216 : Int)) = .lt := by
      simp only [compare, compareOfLessAndEq]
      rw [if_pos (by omega)]
    rw [this] at h2
    exact absurd h2 (by decide)
/-- What the reading looks at. -/
structure FGlb (w : World) : Prop where
  tab : TabP w
  opt : w.cell? ⟨8, 0, none⟩ = some (.bool true)
  i0 : w.cell? ⟨9, 0, none⟩ = some (.int .u64 52)
  i1 : w.cell? ⟨9, 1, none⟩ = some (.int .u64 11)
  i2 : w.cell? ⟨9, 2, none⟩ = some (.int .i64 (-1023))
  pow : ∃ b off cap, w.cell? ⟨14, 0, none⟩ = some (.slice (some ⟨b, off, none⟩) 23 cap) ∧ b < w.heap.size ∧ ∀ k, k < 23 → w.cell? ⟨b, off + k, none⟩ = some (.float .f64 (f10 k))
  big : 16 < w.heap.size
  pt : PtP w
  lc : LcP w
theorem FGlb.on {w W : World} (h : FGlb w) (hb : Below w.heap.size w W) : FGlb W := by
  have c : ∀ b o, b < w.heap.size → W.cell? ⟨b, o, none⟩ = w.cell? ⟨b, o, none⟩ := fun b o hl => hb.cell (p := ⟨b, o, none⟩) hl
  have hz := h.big
  obtain ⟨b, off, cap, p1, p2, p3⟩ := h.pow
  refine ⟨fun i hi => ?_, ?_, ?_, ?_, ?_, ⟨b, off, cap, ?_, Nat.lt_of_lt_of_le p2 hb.size, fun k hk => ?_⟩, Nat.lt_of_lt_of_le hz hb.size, h.pt.on (Nat.le_refl _) hb, h.lc.on (Nat.le_refl _) hb⟩
  · rw [c _ _ (by omega), c _ _ (by omega)]; exact h.tab i hi
  · rw [c _ _ (by omega)]; exact h.opt
  · rw [c _ _ (by omega)]; exact h.i0
  · rw [c _ _ (by omega)]; exact h.i1
  · rw [c _ _ (by omega)]; exact h.i2
  · rw [c _ _ (by omega)]; exact p1
  · rw [c _ _ p2]; exact p3 k hk
end Go.Proofs.YtaidemghhagniaaGreatDoor
