/- Plain facts: the model's quotient of two integers is the nearest rung. -/
import Derived.Test.YtaidemghhagniaaGreatDoorF9
namespace Go.Proofs.YtaidemghhagniaaGreatDoor
open Ieee
theorem M_lt_pow (r : Nat) : M r < 2 ^ 54 * 2 ^ (ex r - 1) := by
  unfold M
  apply Nat.mul_lt_mul_of_pos_right _ (Nat.two_pow_pos _)
  have : fr r < 9007199254740992 := by unfold fr; split <;> omega
  have e : (2 : Nat) ^ 54 = 18014398509481984 := rfl
  omega
/-- A bound that is a multiple of the unit stands to the quotient as to its whole part with its last bit. -/
theorem quo_le (X n q st Y : Nat) (hn : 0 < n) (hq : q = X / n) (hst : st = if X % n = 0 then 0 else 1) : (2 * q + st ≤ 2 * Y ↔ X ≤ Y * n) ∧ (2 * Y ≤ 2 * q + st ↔ Y * n ≤ X) ∧ (2 * q + st = 2 * Y ↔ X = Y * n) := by
  have h := Nat.div_add_mod X n
  have hm := Nat.mod_lt X hn
  rw [← hq] at h
  have k1 : 2 * q + st ≤ 2 * Y ↔ X ≤ Y * n := by
    by_cases g : X % n = 0
    · rw [if_pos g] at hst
      rw [g, Nat.add_zero] at h
      subst hst
      rw [← h, Nat.mul_comm Y]
      constructor
      · intro e; exact Nat.mul_le_mul_left _ (by omega)
      · intro e; have := Nat.le_of_mul_le_mul_left e hn; omega
    · rw [if_neg g] at hst
      subst hst
      constructor
      · intro e
        have : n * (q + 1) ≤ n * Y := Nat.mul_le_mul_left _ (by omega)
        rw [Nat.mul_add, Nat.mul_one] at this
        rw [Nat.mul_comm Y]; omega
      · intro e
        have : n * q < n * Y := by rw [Nat.mul_comm n Y]; omega
        have := Nat.lt_of_mul_lt_mul_left this
        omega
  have k2 : 2 * Y ≤ 2 * q + st ↔ Y * n ≤ X := by
    constructor
    · intro e
      have : Y ≤ q := by rw [hst] at e; split at e <;> omega
      have : Y * n ≤ q * n := Nat.mul_le_mul_right _ this
      rw [Nat.mul_comm q] at this; omega
    · intro e
      have : Y ≤ X / n := (Nat.le_div_iff_mul_le hn).2 e
      omega
  exact ⟨k1, k2, ⟨fun e => Nat.le_antisymm (k1.1 (by omega)) (k2.1 (by omega)), fun e => Nat.le_antisymm (k1.2 (by omega)) (k2.2 (by omega))⟩⟩
theorem ex_inf : ex INF = 2047 := by decide +kernel
theorem div_core (m n ea eb q st r : Nat) (hm1 : 4503599627370496 ≤ m) (hn1 : 0 < n) (hn2 : n < 9007199254740992) (hea : ea ≤ 1100) (heb : 1000 ≤ eb)
    (hq : q = m * 2 ^ 54 / n) (hst : st = if m * 2 ^ 54 % n = 0 then 0 else 1) (h : Near ((2 * q + st) * 2 ^ (ea + 1020)) (2 ^ eb) r) : Near (m * 2 ^ 54 * 2 ^ (ea + 1021)) (n * 2 ^ eb) r := by
  obtain ⟨hr, h1, h2⟩ := h
  have hq53 : 9007199254740992 ≤ q := by
    rw [hq]
    refine (Nat.le_div_iff_mul_le hn1).2 ?_
    have : (2 : Nat) ^ 54 = 18014398509481984 := rfl
    omega
  have hT : 2 ^ (ea + 1021) = 2 * 2 ^ (ea + 1020) := by rw [show ea + 1021 = ea + 1020 + 1 from rfl, Nat.pow_succ, Nat.mul_comm]
  have hP : 0 < 2 ^ (ea + 1020) := Nat.two_pow_pos _
  have hE : 0 < 2 ^ eb := Nat.two_pow_pos _
  -- a multiple
  have key : ∀ Mv Y : Nat, Mv * 2 ^ eb = Y * 2 ^ (ea + 1021) → ((2 * q + st) * 2 ^ (ea + 1020) ≤ Mv * 2 ^ eb ↔ m * 2 ^ 54 * 2 ^ (ea + 1021) ≤ Mv * (n * 2 ^ eb)) ∧ (Mv * 2 ^ eb ≤ (2 * q + st) * 2 ^ (ea + 1020) ↔ Mv * (n * 2 ^ eb) ≤ m * 2 ^ 54 * 2 ^ (ea + 1021)) ∧ ((2 * q + st) * 2 ^ (ea + 1020) = Mv * 2 ^ eb ↔ m * 2 ^ 54 * 2 ^ (ea + 1021) = Mv * (n * 2 ^ eb)) := by
    intro Mv Y e
    obtain ⟨a1, a2, a3⟩ := quo_le (m * 2 ^ 54) n q st Y hn1 hq hst
    have e1 : Mv * (n * 2 ^ eb) = Y * n * 2 ^ (ea + 1021) := by rw [Nat.mul_left_comm, e, Nat.mul_comm Y n, Nat.mul_assoc]
    have hT2 : 0 < 2 ^ (ea + 1021) := Nat.two_pow_pos _
    have e2 : Y * 2 ^ (ea + 1021) = 2 * Y * 2 ^ (ea + 1020) := by rw [hT, Nat.mul_left_comm, Nat.mul_assoc]
    rw [e1, e, e2, Nat.mul_le_mul_right_iff hP, Nat.mul_le_mul_right_iff hP, Nat.mul_le_mul_right_iff hT2, Nat.mul_le_mul_right_iff hT2]
    refine ⟨a1, a2, ?_⟩
    constructor
    · intro e3
      rw [a3.1 (Nat.eq_of_mul_eq_mul_right hP e3)]
    · intro e3
      rw [a3.2 (Nat.eq_of_mul_eq_mul_right hT2 e3)]
  -- exponents
  have hexp : r < INF → ea + 1021 ≤ ex r - 1 + eb := by
    intro hri
    obtain ⟨b1, _⟩ := h1 hri
    have b2 := M_lt_pow r
    have b3 : M r * 2 ^ eb < 2 ^ 54 * 2 ^ (ex r - 1) * 2 ^ eb := Nat.mul_lt_mul_of_pos_right b2 hE
    have b4 : 2 ^ 54 * 2 ^ (ea + 1020) ≤ (2 * q + st) * 2 ^ (ea + 1020) := Nat.mul_le_mul_right _ (by have : (2 : Nat) ^ 54 = 18014398509481984 := rfl; omega)
    have b5 : 2 ^ (ea + 1074) < 2 ^ (54 + (ex r - 1) + eb) := by
      rw [show ea + 1074 = 54 + (ea + 1020) by omega, Nat.pow_add 2 54 (ea + 1020), Nat.pow_add 2 (54 + (ex r - 1)) eb, Nat.pow_add 2 54 (ex r - 1)]
      exact Nat.lt_of_le_of_lt b4 (Nat.lt_of_le_of_lt b1 b3)
    have := (Nat.pow_lt_pow_iff_right (a := 2) (by omega)).1 b5
    omega
  have hex : ea + 1021 ≤ ex r - 1 + eb := by
    rcases Nat.lt_or_ge r INF with hri | hri
    · exact hexp hri
    · have e2 : ex r = 2047 := (congrArg ex (Nat.le_antisymm hr hri)).trans ex_inf
      clear hq hst h1 h2 hexp key hT hP hE hr hri
      omega
  have mul_of : ∀ v : Nat, ea + 1021 ≤ ex v - 1 + eb → M v * 2 ^ eb = (2 * fr v + 1) * 2 ^ (ex v - 1 + eb - (ea + 1021)) * 2 ^ (ea + 1021) := by
    intro v hv
    unfold M
    rw [Nat.mul_assoc, ← Nat.pow_add, Nat.mul_assoc, ← Nat.pow_add, Nat.sub_add_cancel hv]
  refine ⟨hr, fun hri => ?_, fun hr0 => ?_⟩
  · obtain ⟨b1, b2⟩ := h1 hri
    obtain ⟨k1, k2, k3⟩ := key _ _ (mul_of r hex)
    exact ⟨k1.1 b1, fun e => b2 (k3.2 e)⟩
  · obtain ⟨b1, b2⟩ := h2 hr0
    by_cases g : ea + 1021 ≤ ex (r - 1) - 1 + eb
    · obtain ⟨k1, k2, k3⟩ := key _ _ (mul_of (r - 1) g)
      exact ⟨k2.1 b1, fun e => b2 (k3.2 e)⟩
    · -- the border of two binades
      have hx : ex (r - 1) - 1 + eb = ea + 1020 := by
        have : ex r ≤ ex (r - 1) + 1 := by unfold ex; split <;> split <;> omega
        have := ex_pos r; have := ex_pos (r - 1)
        omega
      have b3 := M_lt_pow (r - 1)
      have b4 : M (r - 1) * 2 ^ eb < 2 ^ 54 * 2 ^ (ea + 1020) := by
        rw [← hx, Nat.pow_add, ← Nat.mul_assoc]
        exact Nat.mul_lt_mul_of_pos_right b3 hE
      have b5 : M (r - 1) * 2 ^ eb < q * 2 ^ (ea + 1021) := by
        refine Nat.lt_of_lt_of_le b4 ?_
        rw [hT, ← Nat.mul_assoc]
        exact Nat.mul_le_mul_right _ (by have : (2 : Nat) ^ 54 = 18014398509481984 := rfl; omega)
      have b6 : M (r - 1) * (n * 2 ^ eb) < m * 2 ^ 54 * 2 ^ (ea + 1021) := by
        rw [Nat.mul_left_comm]
        have c1 : n * (M (r - 1) * 2 ^ eb) < n * (q * 2 ^ (ea + 1021)) := Nat.mul_lt_mul_of_pos_left b5 hn1
        have c2 : n * q ≤ m * 2 ^ 54 := by rw [hq]; exact Nat.mul_div_le _ _
        have c3 : n * (q * 2 ^ (ea + 1021)) ≤ m * 2 ^ 54 * 2 ^ (ea + 1021) := by rw [← Nat.mul_assoc]; exact Nat.mul_le_mul_right _ c2
        omega
      exact ⟨Nat.le_of_lt b6, fun e => by omega⟩
/-- The rung of an integer: what is known of its parts. -/
theorem int_parts {r A : Nat} (hA : V r = A * 2 ^ 1074) (h0 : 0 < A) (h : A < 2 ^ 75) : 4503599627370496 ≤ fr r ∧ fr r < 9007199254740992 ∧ 1000 ≤ ex r - 1 ∧ ex r - 1 ≤ 1100 := by
  have hf : fr r < 9007199254740992 := by unfold fr; split <;> omega
  have hv := fr_ex r
  obtain ⟨K, hK⟩ : ∃ K : Nat, K = 1074 := ⟨_, rfl⟩
  rw [← hK] at hA
  have h1 : 2 ^ K ≤ V r := by rw [hA]; exact Nat.le_mul_of_pos_left _ h0
  have hlo : 1000 ≤ ex r - 1 := by
    apply Nat.le_of_not_lt; intro hlt
    have h2 : fr r * 2 ^ (ex r - 1) < 2 ^ 53 * 2 ^ (ex r - 1) := Nat.mul_lt_mul_of_pos_right (show fr r < 2 ^ 53 from hf) (Nat.two_pow_pos _)
    rw [hv, ← Nat.pow_add] at h2
    have e : 2 ^ (53 + (ex r - 1)) ≤ 2 ^ K := Nat.pow_le_pow_right (by omega) (by omega)
    omega
  have hfl : 4503599627370496 ≤ fr r := by
    unfold fr
    unfold ex at hlo
    split
    · rename_i g; rw [if_pos g] at hlo; omega
    · omega
  refine ⟨hfl, hf, hlo, ?_⟩
  apply Nat.le_of_not_lt; intro hlt
  have h3 : 2 ^ 52 * 2 ^ (ex r - 1) ≤ fr r * 2 ^ (ex r - 1) := Nat.mul_le_mul_right _ (show 2 ^ 52 ≤ fr r from hfl)
  rw [hv, hA, ← Nat.pow_add] at h3
  have e : A * 2 ^ K < 2 ^ 75 * 2 ^ K := Nat.mul_lt_mul_of_pos_right h (Nat.two_pow_pos _)
  rw [← Nat.pow_add] at e
  have e2 : 2 ^ (75 + K) ≤ 2 ^ (52 + (ex r - 1)) := Nat.pow_le_pow_right (by omega) (by omega)
  omega
theorem log_52 (m : Nat) (h1 : 4503599627370496 ≤ m) (h2 : m < 9007199254740992) : m.log2 = 52 := by
  have a := (Nat.log2_lt (n := m) (k := 53) (by omega)).2 h2
  have b : ¬ m.log2 < 52 := fun h => by
    have := (Nat.log2_lt (n := m) (k := 52) (by omega)).1 h
    have e : (2 : Nat) ^ 52 = 4503599627370496 := rfl
    omega
  omega
/-- The quotient of two floats that are the integers A and B. -/
theorem div_near (s t : Bool) (a b A B : Nat) (ha : a < INF) (hb : b < INF) (hA : V a = A * 2 ^ 1074) (hB : V b = B * 2 ^ 1074) (hA0 : 0 < A) (hB0 : 0 < B) (hA1 : A < 2 ^ 75) (hB1 : B < 2 ^ 75) :
    ∃ r, double.div (sgw s + a) (sgw t + b) = some (sgw (s ^^ t) + r) ∧ Near (A * 2 ^ 1075) B r := by
  obtain ⟨m1, m2, m3, m4⟩ := int_parts hA hA0 hA1
  obtain ⟨n1, n2, n3, n4⟩ := int_parts hB hB0 hB1
  have hlm := log_52 _ m1 m2
  have hln := log_52 _ n1 n2
  have fa := fr_ex a
  have fb := fr_ex b
  rw [hA] at fa
  rw [hB] at fb
  have ra := read_ok s a ha
  have rb := read_ok t b hb
  generalize fr a = m at *
  generalize fr b = n at *
  generalize ex a - 1 = ea at *
  generalize ex b - 1 = eb at *
  obtain ⟨q, hq⟩ : ∃ q, q = m * 2 ^ 54 / n := ⟨_, rfl⟩
  obtain ⟨st, hst⟩ : ∃ st, st = if m * 2 ^ 54 % n = 0 then 0 else 1 := ⟨_, rfl⟩
  have hq53 : 9007199254740992 ≤ q := by
    rw [hq]
    refine (Nat.le_div_iff_mul_le (by omega)).2 ?_
    have : (2 : Nat) ^ 54 = 18014398509481984 := rfl
    omega
  obtain ⟨r, h1, h2⟩ := nearest_ok (s ^^ t) (2 * q + st) (-1074 + (ea : Int) - (-1074 + (eb : Int)) - 54 - 1) (by omega) eb (ea + 1020) (by omega)
  refine ⟨r, ?_, ?_⟩
  · unfold Format.div
    rw [ra, rb]
    simp only [Datum.quotient]
    rw [if_neg (by omega)]
    simp only [Option.map_some, Format.write]
    have e0 : double.fractionBits + 2 = 54 := rfl
    rw [e0, hlm, hln, show 54 + 52 - 52 = 54 from rfl, Nat.shiftLeft_eq, ← hq]
    have e1 : (m * 2 ^ 54 % n != 0).toNat = st := by
      rw [hst]
      by_cases g : m * 2 ^ 54 % n = 0
      · rw [if_pos g, g]; rfl
      · rw [if_neg g, show (m * 2 ^ 54 % n != 0) = true by simpa using g]; rfl
    rw [e1]
    exact congrArg some h1
  · have h3 := div_core m n ea eb q st r m1 (by omega) n2 m4 n3 hq hst h2
    refine near_cross (Nat.mul_pos (by omega) (Nat.two_pow_pos _)) hB0 ?_ h3
    obtain ⟨K, hK⟩ : ∃ K : Nat, K = 1074 := ⟨_, rfl⟩
    rw [fb, ← hK]
    rw [← hK] at fa
    have e1 : m * 2 ^ 54 * 2 ^ (ea + 1021) = A * 2 ^ K * 2 ^ (K + 1) := by
      rw [← fa, Nat.mul_assoc, Nat.mul_assoc, ← Nat.pow_add, ← Nat.pow_add]; congr 2; omega
    rw [e1, show 1075 = K + 1 by omega]
    clear hA hB ra rb h1 h2 h3 e1 fa fb hK
    generalize 2 ^ (K + 1) = Z1
    generalize 2 ^ K = Z2
    grind
end Go.Proofs.YtaidemghhagniaaGreatDoor
