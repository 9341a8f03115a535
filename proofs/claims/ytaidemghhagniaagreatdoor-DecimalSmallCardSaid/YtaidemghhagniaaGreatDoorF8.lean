/- Plain facts: the model's rounding (Ieee.double.nearest) gives the nearest rung. -/
import Derived.Test.YtaidemghhagniaaGreatDoorF3
import Ieee.Arith
namespace Go.Proofs.YtaidemghhagniaaGreatDoor
open Ieee
/-- n / 2^k, rounded to the nearest whole number, of two to the even one. -/
def half (n k : Nat) : Nat := n / 2 ^ k + (decide (2 ^ k < 2 * (n % 2 ^ k)) || (decide (2 ^ k = 2 * (n % 2 ^ k)) && decide (n / 2 ^ k % 2 = 1))).toNat
theorem half_ok (n k : Nat) : (2 * n ≤ (2 * half n k + 1) * 2 ^ k ∧ (2 * n = (2 * half n k + 1) * 2 ^ k → half n k % 2 = 0)) ∧ (0 < half n k → (2 * half n k - 1) * 2 ^ k ≤ 2 * n ∧ (2 * n = (2 * half n k - 1) * 2 ^ k → half n k % 2 = 0)) := by
  have h := Nat.div_add_mod n (2 ^ k)
  have ht := Nat.mod_lt n (Nat.two_pow_pos k)
  unfold half
  generalize n % 2 ^ k = t at *
  generalize hq : n / 2 ^ k = q at *
  have hG : 0 < 2 ^ k := Nat.two_pow_pos k
  generalize 2 ^ k = G at *
  rw [Nat.mul_comm G] at h
  have f : ∀ a b : Nat, (2 * a + b) * G = 2 * (a * G) + b * G := fun a b => by rw [Nat.add_mul, Nat.mul_assoc]
  by_cases h1 : G < 2 * t
  · rw [decide_eq_true h1, Bool.true_or, show true.toNat = 1 from rfl]
    rw [show 2 * (q + 1) - 1 = 2 * q + 1 by omega, show 2 * (q + 1) + 1 = 2 * q + 3 by omega, f, f]
    exact ⟨⟨by omega, fun e => by omega⟩, fun _ => ⟨by omega, fun e => by omega⟩⟩
  · rw [decide_eq_false h1, Bool.false_or]
    by_cases h2 : G = 2 * t
    · rw [decide_eq_true h2, Bool.true_and]
      by_cases h3 : q % 2 = 1
      · rw [decide_eq_true h3, show true.toNat = 1 from rfl]
        rw [show 2 * (q + 1) - 1 = 2 * q + 1 by omega, show 2 * (q + 1) + 1 = 2 * q + 3 by omega, f, f]
        exact ⟨⟨by omega, fun e => by omega⟩, fun _ => ⟨by omega, fun e => by omega⟩⟩
      · simp only [decide_eq_false h3, show false.toNat = 0 from rfl, Nat.add_zero, f]
        refine ⟨⟨by omega, fun e => by omega⟩, fun hp => ?_⟩
        obtain ⟨q, rfl⟩ : ∃ p, q = p + 1 := ⟨q - 1, by omega⟩
        rw [show 2 * (q + 1) - 1 = 2 * q + 1 by omega, f]
        rw [Nat.add_mul] at h
        exact ⟨by omega, fun e => by omega⟩
    · simp only [decide_eq_false h2, Bool.false_and, show false.toNat = 0 from rfl, Nat.add_zero, f]
      refine ⟨⟨by omega, fun e => by omega⟩, fun hp => ?_⟩
      obtain ⟨q, rfl⟩ : ∃ p, q = p + 1 := ⟨q - 1, by omega⟩
      rw [show 2 * (q + 1) - 1 = 2 * q + 1 by omega, f]
      rw [Nat.add_mul] at h
      exact ⟨by omega, fun e => by omega⟩
theorem cut_half (neg : Bool) (n k : Nat) (hn : 0 < n) : Toward.even.cut neg n k = half n k := by
  unfold Toward.cut
  dsimp only
  rw [Nat.one_shiftLeft]
  by_cases hk : k ≤ n.log2 + 2
  · rw [Nat.min_eq_left hk]
    unfold half
    congr 2
  · rw [Nat.min_eq_right (by omega)]
    have h1 : n < 2 ^ (n.log2 + 1) := Nat.lt_log2_self
    have h2 : 2 ^ (n.log2 + 2) = 2 * 2 ^ (n.log2 + 1) := by rw [Nat.pow_succ]; omega
    have h3 : 2 ^ (n.log2 + 2) ≤ 2 ^ k := Nat.pow_le_pow_right (by omega) (by omega)
    unfold half
    rw [Nat.div_eq_of_lt (show n < 2 ^ (n.log2 + 2) by omega), Nat.mod_eq_of_lt (show n < 2 ^ (n.log2 + 2) by omega), Nat.div_eq_of_lt (show n < 2 ^ k by omega), Nat.mod_eq_of_lt (show n < 2 ^ k by omega)]
    have e1 : decide (2 ^ (n.log2 + 2) < 2 * n) = false := decide_eq_false (by omega)
    have e2 : (2 ^ (n.log2 + 2) == 2 * n) = false := by simp; omega
    have e3 : decide (2 ^ k < 2 * n) = false := decide_eq_false (by omega)
    have e4 : decide (2 ^ k = 2 * n) = false := decide_eq_false (by omega)
    rw [e1, e2, e3, e4]; rfl
/-- A rung from a rounded number that may be one too great. -/
theorem near0_at' (N D m j : Nat) (hm : m ≤ 9007199254740992) (h1 : 1 ≤ j) (h2 : 1 < j → 4503599627370496 ≤ m)
    (hr : (2 * N ≤ (2 * m + 1) * (D * 2 ^ j) ∧ (2 * N = (2 * m + 1) * (D * 2 ^ j) → m % 2 = 0)) ∧ (0 < m → (2 * m - 1) * (D * 2 ^ j) ≤ 2 * N ∧ (2 * N = (2 * m - 1) * (D * 2 ^ j) → m % 2 = 0)))
    (h3 : 1 < j → m = 4503599627370496 → 18014398509481983 * 2 ^ (j - 2) * D ≤ N) : Near0 N D (m + (j - 1) * 4503599627370496) := by
  by_cases g : m = 9007199254740992
  · subst g
    obtain ⟨⟨a1, _⟩, b⟩ := hr
    obtain ⟨b1, _⟩ := b (by omega)
    have e : D * 2 ^ (j + 1) = 2 * (D * 2 ^ j) := by rw [Nat.pow_succ]; rw [← Nat.mul_assoc, Nat.mul_comm]
    have e2 : (9007199254740992 + (j - 1) * 4503599627370496) = 4503599627370496 + (j + 1 - 1) * 4503599627370496 := by omega
    rw [e2]
    refine near0_at N D 4503599627370496 (j + 1) (by omega) (by omega) (fun _ => by omega) ?_ (fun _ _ => ?_)
    · rw [e]
      generalize D * 2 ^ j = Z at *
      exact ⟨⟨by omega, fun _ => by omega⟩, fun _ => ⟨by omega, fun _ => by omega⟩⟩
    · have e3 : D * 2 ^ j = 2 * (2 ^ (j + 1 - 2) * D) := by
        rw [show 2 ^ j = 2 ^ (j + 1 - 2) * 2 by rw [← Nat.pow_succ]; congr 1; omega]
        rw [← Nat.mul_assoc, Nat.mul_comm D, Nat.mul_comm]
      rw [e3] at b1
      rw [Nat.mul_assoc]
      generalize 2 ^ (j + 1 - 2) * D = Z at *
      omega
  · exact near0_at N D m j (by omega) h1 h2 hr h3
def sgw (neg : Bool) : Nat := if neg then 9223372036854775808 else 0
theorem word_eq (neg : Bool) (r : Nat) : double.word neg r = sgw neg + r := by
  cases neg
  · exact (Nat.zero_add r).symm
  · rfl
/-- The model's nearest word. a and b: place = b - a - 1075. -/
theorem nearest_ok (neg : Bool) (mag : Nat) (place : Int) (hm : 0 < mag) (a b : Nat) (hab : place + 1075 + a = b) :
    ∃ r, double.nearest neg mag place = sgw neg + r ∧ Near (mag * 2 ^ b) (2 ^ a) r := by
  have hl1 : 2 ^ mag.log2 ≤ mag := Nat.log2_self_le (by omega)
  have hl2 : mag < 2 ^ (mag.log2 + 1) := Nat.lt_log2_self
  generalize hL : mag.log2 = L at *
  obtain ⟨last, hlast⟩ : ∃ last : Int, last = max (place + L - 52) (-1074) := ⟨_, rfl⟩
  obtain ⟨j, hj⟩ : ∃ j : Nat, (j : Int) = last + 1075 := ⟨(last + 1075).toNat, by omega⟩
  obtain ⟨up, hup⟩ : ∃ up : Nat, up = (place - last).toNat := ⟨_, rfl⟩
  obtain ⟨dr, hdr⟩ : ∃ dr : Nat, dr = (last - place).toNat := ⟨_, rfl⟩
  have hj1 : 1 ≤ j := by omega
  have hn : 0 < mag * 2 ^ up := Nat.mul_pos hm (Nat.two_pow_pos _)
  obtain ⟨m, hmv⟩ : ∃ m, m = half (mag * 2 ^ up) dr := ⟨_, rfl⟩
  refine ⟨min (m + (j - 1) * 4503599627370496) INF, ?_, ?_⟩
  · unfold Format.nearest
    rw [if_neg (by omega), hL]
    have e1 : double.leastPlace = -1074 := by decide
    have e2 : double.binade = 4503599627370496 := by decide
    have e3 : double.infRung = INF := by decide
    have e4 : double.fractionBits = 52 := rfl
    dsimp only
    rw [e1, e2, e3, e4]
    have e5 : max (place + ((L : Nat) : Int) - ((52 : Nat) : Int)) (-1074) = last := by omega
    rw [e5, Nat.shiftLeft_eq, ← hup, ← hdr, cut_half neg _ _ hn, ← hmv, word_eq]
    have e6 : (last - -1074).toNat = j - 1 := by omega
    rw [e6, Nat.add_comm m]
  · apply near_of0
    have ho := half_ok (mag * 2 ^ up) dr
    rw [← hmv] at ho
    -- mag * 2^up / 2^dr = N / (D * 2^j)
    have hcr : ∀ k : Nat, k * 2 ^ dr * 2 ^ b = k * 2 ^ a * 2 ^ j * 2 ^ up := by
      intro k
      rw [Nat.mul_assoc k, Nat.mul_assoc k, Nat.mul_assoc k, ← Nat.pow_add, ← Nat.pow_add, ← Nat.pow_add]
      congr 2; omega
    have hz : 0 < 2 ^ b := Nat.two_pow_pos _
    have hz2 : 0 < 2 ^ up := Nat.two_pow_pos _
    have cmp : ∀ k : Nat, (2 * (mag * 2 ^ up) ≤ k * 2 ^ dr ↔ 2 * (mag * 2 ^ b) ≤ k * (2 ^ a * 2 ^ j)) ∧ (k * 2 ^ dr ≤ 2 * (mag * 2 ^ up) ↔ k * (2 ^ a * 2 ^ j) ≤ 2 * (mag * 2 ^ b)) := by
      intro k
      have h1 := hcr k
      have l : 2 * (mag * 2 ^ up) * 2 ^ b = 2 * (mag * 2 ^ b) * 2 ^ up := by
        rw [Nat.mul_assoc, Nat.mul_assoc, Nat.mul_assoc 2, Nat.mul_assoc mag, Nat.mul_comm (2 ^ up)]
      rw [Nat.mul_assoc k (2 ^ a)] at h1
      constructor
      · rw [← Nat.mul_le_mul_right_iff hz, l, h1, Nat.mul_le_mul_right_iff hz2]
      · rw [← Nat.mul_le_mul_right_iff hz, l, h1, Nat.mul_le_mul_right_iff hz2]
    have ceq : ∀ k : Nat, 2 * (mag * 2 ^ b) = k * (2 ^ a * 2 ^ j) → 2 * (mag * 2 ^ up) = k * 2 ^ dr := by
      intro k e
      have := cmp k
      exact Nat.le_antisymm (this.1.2 (by omega)) (this.2.2 (by omega))
    -- bounds of m
    have hub : mag * 2 ^ up < 9007199254740992 * 2 ^ dr := by
      have : mag * 2 ^ up < 2 ^ (L + 1) * 2 ^ up := Nat.mul_lt_mul_of_pos_right hl2 hz2
      refine Nat.lt_of_lt_of_le this ?_
      rw [show (9007199254740992 : Nat) = 2 ^ 53 from rfl, ← Nat.pow_add, ← Nat.pow_add]
      exact Nat.pow_le_pow_right (by omega) (by omega)
    have hlb : 1 < j → 4503599627370496 * 2 ^ dr ≤ mag * 2 ^ up := by
      intro hj2
      have : 2 ^ L * 2 ^ up ≤ mag * 2 ^ up := Nat.mul_le_mul_right _ hl1
      refine Nat.le_trans ?_ this
      rw [show (4503599627370496 : Nat) = 2 ^ 52 from rfl, ← Nat.pow_add, ← Nat.pow_add]
      exact Nat.pow_le_pow_right (by omega) (by omega)
    have hG : 0 < 2 ^ dr := Nat.two_pow_pos _
    have hm53 : m ≤ 9007199254740992 := by
      apply Nat.le_of_not_lt; intro hlt
      obtain ⟨_, b2⟩ := ho
      obtain ⟨b3, _⟩ := b2 (by omega)
      have : (2 * 9007199254740992 + 1) * 2 ^ dr ≤ (2 * m - 1) * 2 ^ dr := Nat.mul_le_mul_right _ (by omega)
      omega
    have hm52 : 1 < j → 4503599627370496 ≤ m := by
      intro hj2
      apply Nat.le_of_not_lt; intro hlt
      obtain ⟨⟨b3, _⟩, _⟩ := ho
      have h5 := hlb hj2
      have : (2 * m + 1) * 2 ^ dr ≤ (2 * 4503599627370496 - 1) * 2 ^ dr := Nat.mul_le_mul_right _ (by omega)
      omega
    refine near0_at' (mag * 2 ^ b) (2 ^ a) m j hm53 hj1 hm52 ?_ ?_
    · obtain ⟨⟨o1, o2⟩, o3⟩ := ho
      refine ⟨⟨(cmp _).1.1 o1, fun e => o2 (ceq _ e)⟩, fun h => ?_⟩
      obtain ⟨o4, o5⟩ := o3 h
      exact ⟨(cmp _).2.1 o4, fun e => o5 (ceq _ e)⟩
    · intro hj2 _
      have h5 := hlb hj2
      have h6 := (cmp (2 * 4503599627370496)).2.1 (by omega)
      have e3 : 2 ^ j = 2 ^ (j - 2) * 4 := by rw [show (4 : Nat) = 2 ^ 2 from rfl, ← Nat.pow_add]; congr 1; omega
      rw [e3, ← Nat.mul_assoc (2 ^ a), Nat.mul_comm (2 ^ a)] at h6
      rw [Nat.mul_assoc]
      generalize 2 ^ (j - 2) * 2 ^ a = Z at *
      omega
end Go.Proofs.YtaidemghhagniaaGreatDoor
