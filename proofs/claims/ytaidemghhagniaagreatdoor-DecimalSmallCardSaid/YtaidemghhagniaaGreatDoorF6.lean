/- Plain facts: what the fast reading makes of a number of at most 64 bits and a power of ten is the nearest rung. -/
import Derived.Test.YtaidemghhagniaaGreatDoorF5
namespace Go.Proofs.YtaidemghhagniaaGreatDoor
def bl (d : Nat) : Nat := d.log2 + 1
def pfE (c : Int) : Int := min 1074 (53 - c)
def pfS (c : Int) : Int := 61 - c - pfE c
def pf64 (d i : Nat) : Nat :=
  let c : Int := (bl d : Int) + lp2 ((i : Int) - 348)
  if 64 ≤ pfS c then 0
  else pk (usc (d * 2 ^ (64 - bl d)) (thi i) (tlo i) (pfS c).toNat) (1075 - pfE c).toNat
theorem bl_lt (d : Nat) : d < 2 ^ bl d := Nat.lt_log2_self
theorem bl_le (d : Nat) (h : 0 < d) : 2 ^ (bl d - 1) ≤ d := Nat.log2_self_le (by omega)
theorem bl_64 (d : Nat) (h : d < 18446744073709551616) : bl d ≤ 64 := by
  by_cases h0 : d = 0
  · subst h0; decide
  · have := (Nat.log2_lt (n := d) (k := 64) h0).2 h
    unfold bl; omega
theorem pf_x (d : Nat) (h0 : 0 < d) (h : d < 18446744073709551616) : 9223372036854775808 ≤ d * 2 ^ (64 - bl d) ∧ d * 2 ^ (64 - bl d) < 18446744073709551616 := by
  have hb := bl_64 d h
  have e1 : (18446744073709551616 : Nat) = 2 ^ bl d * 2 ^ (64 - bl d) := by
    rw [← Nat.pow_add, show bl d + (64 - bl d) = 64 by omega]
  have e2 : (9223372036854775808 : Nat) = 2 ^ (bl d - 1) * 2 ^ (64 - bl d) := by
    rw [← Nat.pow_add, show bl d - 1 + (64 - bl d) = 63 by unfold bl at *; omega]
  rw [e1, e2]
  exact ⟨Nat.mul_le_mul_right _ (bl_le d h0), Nat.mul_lt_mul_of_pos_right (bl_lt d) (Nat.two_pow_pos _)⟩
/-- num / den is the power, times 2^(127 - lp). -/
theorem num_den (i : Nat) : pNum i * pQ i * 2 ^ (lp2 ((i : Int) - 348) - 127).toNat = pP i * pDen i * 2 ^ (127 - lp2 ((i : Int) - 348)).toNat := by
  unfold pNum pDen
  generalize 2 ^ (lp2 ((i : Int) - 348) - 127).toNat = a
  generalize 2 ^ (127 - lp2 ((i : Int) - 348)).toNat = b
  rw [Nat.mul_assoc, Nat.mul_assoc, Nat.mul_assoc, Nat.mul_comm b]
theorem pQ_pos (i : Nat) : 0 < pQ i := by
  unfold pQ; split
  · exact Nat.one_pos
  · exact Nat.pos_of_ne_zero (fun h => by simp at h)
theorem pDen_pos (i : Nat) : 0 < pDen i := Nat.mul_pos (pQ_pos i) (Nat.two_pow_pos _)
theorem p1205 (n m : Nat) (h : m = n + 130) : 4 * 2 ^ n * 340282366920938463463374607431768211456 = (2 : Nat) ^ m := by
  rw [h, Nat.pow_add]
  generalize 2 ^ n = x
  omega
/-- The crossed products. -/
theorem pf_cross (d i s j W : Nat) (hb : bl d ≤ 64) (hW : W = pDen i * 340282366920938463463374607431768211456)
    (h : (64 - (bl d : Int)) + 127 - lp2 ((i : Int) - 348) + j = 1205 + s) :
    d * 2 ^ (64 - bl d) * pNum i * (pQ i * 2 ^ j) = 4 * (d * pP i * 2 ^ 1075) * (2 ^ s * W) := by
  obtain ⟨K, hK⟩ : ∃ K : Nat, K = 1075 + 130 := ⟨_, rfl⟩
  have hnd := num_den i
  have h2 : 2 ^ (64 - bl d) * 2 ^ j * 2 ^ (127 - lp2 ((i : Int) - 348)).toNat = 2 ^ K * 2 ^ s * 2 ^ (lp2 ((i : Int) - 348) - 127).toNat := by
    rw [← Nat.pow_add, ← Nat.pow_add, ← Nat.pow_add, ← Nat.pow_add]; congr 1; omega
  have hp : 0 < 2 ^ (lp2 ((i : Int) - 348) - 127).toNat := Nat.two_pow_pos _
  have h4 : 4 * 2 ^ 1075 * 340282366920938463463374607431768211456 = 2 ^ K := p1205 1075 K hK
  subst hW
  generalize pNum i = num at *
  generalize pDen i = den at *
  generalize pQ i = Q at *
  generalize pP i = P at *
  generalize 2 ^ (lp2 ((i : Int) - 348) - 127).toNat = A at *
  generalize 2 ^ (127 - lp2 ((i : Int) - 348)).toNat = B at *
  generalize 2 ^ (64 - bl d) = C at *
  generalize 2 ^ j = J at *
  generalize 2 ^ s = S at *
  generalize (2 : Nat) ^ K = E1 at *
  generalize (2 : Nat) ^ 1075 = E2 at *
  generalize (340282366920938463463374607431768211456 : Nat) = E3 at *
  refine Nat.eq_of_mul_eq_mul_right hp ?_
  calc d * C * num * (Q * J) * A = d * (C * J) * (num * Q * A) := by grind
    _ = d * (C * J) * (P * den * B) := by rw [hnd]
    _ = d * P * den * (C * J * B) := by grind
    _ = d * P * den * (E1 * S * A) := by rw [h2]
    _ = d * P * den * (4 * E2 * E3 * S * A) := by rw [h4]
    _ = 4 * (d * P * E2) * (S * (den * E3)) * A := by grind
theorem pf_up {N W S x num Z : Nat} (hW : 0 < W) (hZ : 0 < Z) (hx : x < 18446744073709551616) (hb : num * 1048576 ≤ W * 1048575) (hS : 256 ≤ S) (hc : x * num * Z = 4 * N * (S * W)) : N < 18014398509481983 * Z := by
  have a1 : 4 * N * (S * W) * 1048576 ≤ x * (W * 1048575) * Z := by
    rw [← hc]
    have : x * num * 1048576 ≤ x * (W * 1048575) := by rw [Nat.mul_assoc]; exact Nat.mul_le_mul_left _ hb
    have := Nat.mul_le_mul_right Z this
    rw [Nat.mul_right_comm] at this; exact this
  have a2 : x * (W * 1048575) * Z ≤ 18446744073709551616 * (W * 1048575) * Z := Nat.mul_le_mul_right _ (Nat.mul_le_mul_right _ (by omega))
  have a3 : 4 * N * (256 * W) * 1048576 ≤ 4 * N * (S * W) * 1048576 := Nat.mul_le_mul_right _ (Nat.mul_le_mul_left _ (Nat.mul_le_mul_right _ hS))
  have a5 : W * (N * 1073741824) ≤ W * (19342794667089993085747200 * Z) := by
    have e1 : W * (N * 1073741824) = 4 * N * (256 * W) * 1048576 := by clear a1 a2 a3 hc hb; grind
    have e2 : W * (19342794667089993085747200 * Z) = 18446744073709551616 * (W * 1048575) * Z := by clear a1 a2 a3 hc hb; grind
    rw [e1, e2]
    exact Nat.le_trans a3 (Nat.le_trans a1 a2)
  have a6 := Nat.le_of_mul_le_mul_left a5 hW
  omega
theorem pf_low {N W x num Z : Nat} (hW : 0 < W) (hx : 9223372036854775808 ≤ x) (hb : W ≤ num * 2) (hc : x * num * Z = 4 * N * (2 ^ 8 * W)) : 4503599627370496 * Z ≤ N := by
  have a1 : 9223372036854775808 * W * Z ≤ x * (num * 2) * Z := Nat.mul_le_mul_right _ (Nat.mul_le_mul hx hb)
  have a2 : x * (num * 2) * Z = 2 * (x * num * Z) := by clear a1 hb hc; grind
  rw [a2, hc] at a1
  have a5 : W * (9223372036854775808 * Z) ≤ W * (2048 * N) := by
    have e1 : W * (9223372036854775808 * Z) = 9223372036854775808 * W * Z := by clear a1 a2 hc hb; grind
    have e2 : W * (2048 * N) = 2 * (4 * N * (2 ^ 8 * W)) := by clear a1 a2 hc hb; grind
    rw [e1, e2]; exact a1
  have a6 := Nat.le_of_mul_le_mul_left a5 hW
  omega
theorem pf_zero {N W S x num Q : Nat} (hW : 0 < W) (hQ : 0 < Q) (hx : x < 18446744073709551616) (hb : num * 1048576 ≤ W * 1048575) (hS : 18446744073709551616 ≤ S) (hc : x * num * (Q * 2) = 4 * N * (S * W)) : N < Q := by
  have hn : num ≤ W := by omega
  have a1 : x * num * (Q * 2) ≤ 18446744073709551615 * W * (Q * 2) := Nat.mul_le_mul_right _ (Nat.mul_le_mul (by omega) hn)
  have a2 : 4 * N * (18446744073709551616 * W) ≤ 4 * N * (S * W) := Nat.mul_le_mul_left _ (Nat.mul_le_mul_right _ hS)
  have a5 : W * (4 * 18446744073709551616 * N) ≤ W * (2 * 18446744073709551615 * Q) := by
    have e1 : W * (4 * 18446744073709551616 * N) = 4 * N * (18446744073709551616 * W) := by clear a1 a2 hc hb; grind
    have e2 : W * (2 * 18446744073709551615 * Q) = 18446744073709551615 * W * (Q * 2) := by clear a1 a2 hc hb; grind
    rw [e1, e2]
    rw [hc] at a1
    exact Nat.le_trans a2 a1
  have a6 := Nat.le_of_mul_le_mul_left a5 hW
  omega
theorem pf64_ok (d i : Nat) (h0 : 0 < d) (hd : d < 18446744073709551616) (hi : i < 696) : Near (d * pP i * 2 ^ 1075) (pQ i) (pf64 d i) := by
  have R := row_ok i hi
  obtain ⟨hx1, hx2⟩ := pf_x d h0 hd
  have hb := bl_64 d hd
  have hb1 : 1 ≤ bl d := by unfold bl; omega
  have hQ := pQ_pos i
  have hD := pDen_pos i
  obtain ⟨W, hW⟩ : ∃ W, W = pDen i * 340282366920938463463374607431768211456 := ⟨_, rfl⟩
  have hlp : -1300 ≤ lp2 ((i : Int) - 348) ∧ lp2 ((i : Int) - 348) ≤ 1300 := by unfold lp2; omega
  unfold pf64
  dsimp only
  obtain ⟨c, hc⟩ : ∃ c : Int, c = (bl d : Int) + lp2 ((i : Int) - 348) := ⟨_, rfl⟩
  rw [← hc]
  have hse : pfE c = 53 - c ∧ pfS c = 8 ∧ -1021 ≤ c ∨ pfE c = 1074 ∧ pfS c = -1013 - c ∧ c < -1021 := by unfold pfS pfE; omega
  obtain ⟨s, hs⟩ : ∃ s : Nat, pfS c = s := ⟨(pfS c).toNat, by omega⟩
  obtain ⟨j, hj⟩ : ∃ j : Nat, 1075 - pfE c = j := ⟨(1075 - pfE c).toNat, by omega⟩
  have hcr := pf_cross d i s j W hb hW (by omega)
  have hs8 : 8 ≤ s := by omega
  have hj1 : 1 ≤ j := by omega
  have hj8 : 1 < j → s = 8 := by omega
  have hs64 : 64 ≤ s → j = 1 := by omega
  rw [hs, hj, Int.toNat_natCast, Int.toNat_natCast]
  have hWp : 0 < W := by rw [hW]; exact Nat.mul_pos hD (by decide)
  have hSp : 0 < 2 ^ s := Nat.two_pow_pos _
  have hJp : 0 < 2 ^ j := Nat.two_pow_pos _
  have hS256 : 256 ≤ 2 ^ s := by
    have := Nat.pow_le_pow_right (n := 2) (by omega) hs8
    exact this
  obtain ⟨x, hx⟩ : ∃ x, x = d * 2 ^ (64 - bl d) := ⟨_, rfl⟩
  rw [← hx] at hcr hx1 hx2 ⊢
  obtain ⟨N, hN⟩ : ∃ N, N = d * pP i * 2 ^ 1075 := ⟨_, rfl⟩
  rw [← hN] at hcr ⊢
  have hb2 := R.b2
  rw [← hW] at hb2
  have hb1' : W ≤ pNum i * 2 := by have := R.b1; omega
  have hZp : 0 < pQ i * 2 ^ j := Nat.mul_pos hQ hJp
  by_cases h64 : (64 : Int) ≤ s
  · rw [if_pos h64]
    have hs' : 64 ≤ s := by omega
    have hS64 : 18446744073709551616 ≤ 2 ^ s := Nat.pow_le_pow_right (n := 2) (by omega) hs'
    have := hs64 hs'
    subst this
    have hlt : N < pQ i := pf_zero (x := x) (num := pNum i) hWp hQ hx2 hb2 hS64 (by rw [Nat.pow_one] at hcr; exact hcr)
    refine ⟨Nat.zero_le _, fun _ => ⟨?_, fun _ => rfl⟩, fun h => absurd h (Nat.lt_irrefl _)⟩
    show N ≤ 1 * pQ i
    omega
  · rw [if_neg h64]
    have hu : usc x (thi i) (tlo i) s = unr (x * pNum i) (2 ^ s * W) := by
      have hthi : 18446744073709551616 ≤ thi i * x := by
        have := Nat.mul_le_mul R.h1 hx1; omega
      refine usc_ok x (thi i) (tlo i) s (pNum i) (pDen i) (thi i * 18446744073709551616 - tlo i) W (W * 256) hW rfl hx2 (by omega) R.h3 ?_ hD R.n1 R.n2 hs8 ?_ ?_
      · have := R.h1; have := R.h3; omega
      · rw [Nat.mul_comm]; exact Nat.div_pos hthi (by decide)
      · intro y a b
        have eT : pDen i * 87112285931760246646623899502532662132736 = W * 256 := by
          rw [hW, Nat.mul_assoc]
        have := R.ex x hx2 hx1 y (by rw [eT]; exact a) (by rw [eT]; exact b)
        rw [eT] at this; exact this
    rw [hu, unr_cross (Nat.mul_pos hSp hWp) hZp hcr]
    refine pk_ok N (pQ i) j hQ hj1 (fun hj => ?_) (pf_up (x := x) (num := pNum i) hWp hZp hx2 hb2 hS256 hcr)
    have := hj8 hj
    subst this
    exact pf_low (x := x) (num := pNum i) hWp hx1 hb1' hcr
end Go.Proofs.YtaidemghhagniaaGreatDoor
