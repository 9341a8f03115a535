/- Plain facts: bounds of what the fast reading comes to on its way. -/
import Derived.Test.YtaidemghhagniaaGreatDoorF6
namespace Go.Proofs.YtaidemghhagniaaGreatDoor
/-- What is known on the way where the shift is below 64. -/
theorem pf_way (d i : Nat) (h0 : 0 < d) (hd : d < 18446744073709551616) (hi : i < 696) (c : Int) (hc : c = (bl d : Int) + lp2 ((i : Int) - 348)) (s j x U : Nat) (hs : pfS c = s) (hj : 1075 - pfE c = j) (hs64 : s < 64) (hx : x = d * 2 ^ (64 - bl d)) (hU : U = usc x (thi i) (tlo i) s) :
    8 ≤ s ∧ 1 ≤ j ∧ 0 < x * thi i / 18446744073709551616 ∧ (36028797018963966 ≤ U → U / 2 ||| U % 2 < 36028797018963966 ∧ 18014398509481983 ≤ U / 2 ||| U % 2) ∧ (1 < j → 18014398509481984 ≤ U) := by
  have R := row_ok i hi
  obtain ⟨hx1, hx2⟩ := pf_x d h0 hd
  have hb := bl_64 d hd
  have hb1 : 1 ≤ bl d := by unfold bl; omega
  have hQ := pQ_pos i
  have hD := pDen_pos i
  obtain ⟨W, hW⟩ : ∃ W, W = pDen i * 340282366920938463463374607431768211456 := ⟨_, rfl⟩
  have hlp : -1300 ≤ lp2 ((i : Int) - 348) ∧ lp2 ((i : Int) - 348) ≤ 1300 := by unfold lp2; omega
  have hse : pfE c = 53 - c ∧ pfS c = 8 ∧ -1021 ≤ c ∨ pfE c = 1074 ∧ pfS c = -1013 - c ∧ c < -1021 := by unfold pfS pfE; omega
  have hcr := pf_cross d i s j W hb hW (by omega)
  have hs8 : 8 ≤ s := by omega
  have hj1 : 1 ≤ j := by omega
  have hj8 : 1 < j → s = 8 := by omega
  have hWp : 0 < W := by rw [hW]; exact Nat.mul_pos hD (by decide)
  have hSp : 0 < 2 ^ s := Nat.two_pow_pos _
  have hJp : 0 < 2 ^ j := Nat.two_pow_pos _
  have hS256 : 256 ≤ 2 ^ s := by
    have := Nat.pow_le_pow_right (n := 2) (by omega) hs8
    exact this
  rw [← hx] at hcr hx1 hx2
  obtain ⟨N, hN⟩ : ∃ N, N = d * pP i * 2 ^ 1075 := ⟨_, rfl⟩
  rw [← hN] at hcr
  have hb2 := R.b2
  rw [← hW] at hb2
  have hb1' : W ≤ pNum i * 2 := by have := R.b1; omega
  have hZp : 0 < pQ i * 2 ^ j := Nat.mul_pos hQ hJp
  have hthi : 18446744073709551616 ≤ thi i * x := by
    have := Nat.mul_le_mul R.h1 hx1; omega
  have hH : 0 < x * thi i / 18446744073709551616 := by
    rw [Nat.mul_comm]; exact Nat.div_pos hthi (by decide)
  have hu : usc x (thi i) (tlo i) s = unr (x * pNum i) (2 ^ s * W) := by
    refine usc_ok x (thi i) (tlo i) s (pNum i) (pDen i) (thi i * 18446744073709551616 - tlo i) W (W * 256) hW rfl hx2 (by omega) R.h3 ?_ hD R.n1 R.n2 hs8 hH ?_
    · have := R.h1; have := R.h3; omega
    · intro y a b
      have eT : pDen i * 87112285931760246646623899502532662132736 = W * 256 := by
        rw [hW, Nat.mul_assoc]
      have := R.ex x hx2 hx1 y (by rw [eT]; exact a) (by rw [eT]; exact b)
      rw [eT] at this; exact this
  rw [unr_cross (Nat.mul_pos hSp hWp) hZp hcr] at hu
  have hup := pf_up (x := x) (num := pNum i) hWp hZp hx2 hb2 hS256 hcr
  refine ⟨hs8, hj1, hH, fun g => ?_, fun g => ?_⟩
  · rw [hU, hu] at g ⊢
    have g1 := unr_even _ _ _ hZp rfl g
    rw [← unr_half _ _ hZp]
    have hD3 : 0 < pQ i * 2 ^ j * 2 := by omega
    exact ⟨unr_lt _ _ _ hD3 rfl (by omega), unr_ge _ _ _ hD3 (by omega)⟩
  · rw [hU, hu]
    have hs8' := hj8 g
    subst hs8'
    have := pf_low (x := x) (num := pNum i) hWp hx1 hb1' hcr
    exact unr_ge _ _ _ hZp (by omega)
end Go.Proofs.YtaidemghhagniaaGreatDoor
