/- Plain facts: rounding what is not rounded. -/
import Derived.Test.YtaidemghhagniaaGreatDoorF1
import Derived.Test.YtaidemghhagniaaGreatDoorF2
namespace Go.Proofs.YtaidemghhagniaaGreatDoor
def rnd (u : Nat) : Nat := (u + 1 + u / 4 % 2) / 4
theorem or_one (a : Nat) : a ||| 1 = a / 2 * 2 + 1 := by
  have := Nat.div_add_mod (a ||| 1) 2
  rw [Nat.or_div_two, Nat.or_mod_two_eq_one.2 (.inr rfl)] at this
  simp at this
  omega
theorem unr_cross {N1 D1 N2 D2 : Nat} (h1 : 0 < D1) (h2 : 0 < D2) (h : N1 * D2 = N2 * D1) : unr N1 D1 = unr N2 D2 := by
  have key : ∀ {N1 D1 N2 D2 : Nat}, 0 < D1 → 0 < D2 → N1 * D2 = N2 * D1 → N1 / D1 = N1 * D2 / (D1 * D2) ∧ (N1 % D1 = 0 ↔ N1 * D2 % (D1 * D2) = 0) := by
    intro N1 D1 N2 D2 h1 h2 _
    refine ⟨(Nat.mul_div_mul_right _ _ h2).symm, ?_⟩
    rw [Nat.mul_mod_mul_right]
    constructor
    · intro h; rw [h, Nat.zero_mul]
    · intro h; rcases Nat.mul_eq_zero.1 h with h | h
      · exact h
      · omega
  obtain ⟨a1, a2⟩ := key h1 h2 h
  obtain ⟨b1, b2⟩ := key h2 h1 h.symm
  unfold unr
  have e : N1 * D2 / (D1 * D2) = N2 * D1 / (D2 * D1) := by rw [h, Nat.mul_comm D1]
  have e2 : (N1 % D1 = 0) ↔ (N2 % D2 = 0) := by rw [a2, b2, h, Nat.mul_comm D1]
  rw [a1, b1, e]
  by_cases g : N2 % D2 = 0
  · rw [if_pos g, if_pos (e2.2 g)]
  · rw [if_neg g, if_neg (fun x => g (e2.1 x))]
theorem unr_half (N D : Nat) (hD : 0 < D) : unr N (D * 2) = unr N D / 2 ||| unr N D % 2 := by
  unfold unr
  have e1 : N / (D * 2) = N / D / 2 := (Nat.div_div_eq_div_mul _ _ _).symm
  have e2 : N % (D * 2) = 0 ↔ (N % D = 0 ∧ N / D % 2 = 0) := by
    rw [Nat.mod_mul]
    constructor
    · intro h
      have h0 : N % D = 0 := by omega
      refine ⟨h0, ?_⟩
      rw [h0, Nat.zero_add] at h
      rcases Nat.mul_eq_zero.1 h with h | h
      · omega
      · exact h
    · rintro ⟨a, b⟩; rw [a, b]; rfl
  rw [e1]
  generalize N / D = q at *
  by_cases g : N % D = 0
  · rw [if_pos g]
    by_cases g2 : q % 2 = 0
    · rw [if_pos (e2.2 ⟨g, g2⟩), g2, Nat.or_zero]
    · rw [if_neg (fun x => g2 (e2.1 x).2), show q % 2 = 1 by omega]
  · rw [if_neg g, if_neg (fun x => g (e2.1 x).1), or_one q]
    rw [show (q / 2 * 2 + 1) / 2 = q / 2 by omega, show (q / 2 * 2 + 1) % 2 = 1 by omega]
/-- What is known of a rounded number. -/
theorem rnd_ok (N D : Nat) (hD : 0 < D) : (2 * N ≤ (2 * rnd (unr (4 * N) D) + 1) * D ∧ (2 * N = (2 * rnd (unr (4 * N) D) + 1) * D → rnd (unr (4 * N) D) % 2 = 0)) ∧ (0 < rnd (unr (4 * N) D) → (2 * rnd (unr (4 * N) D) - 1) * D ≤ 2 * N ∧ (2 * N = (2 * rnd (unr (4 * N) D) - 1) * D → rnd (unr (4 * N) D) % 2 = 0)) := by
  have h := Nat.div_add_mod (4 * N) D
  have ht := Nat.mod_lt (4 * N) hD
  unfold unr
  generalize 4 * N % D = t at *
  generalize 4 * N / D = q at *
  obtain ⟨k, c, hc, rfl⟩ : ∃ k c, c < 4 ∧ q = 4 * k + c := ⟨q / 4, q % 4, Nat.mod_lt _ (by omega), by omega⟩
  rw [Nat.mul_comm D, Nat.add_mul, Nat.mul_assoc] at h
  have f : ∀ a b : Nat, (2 * a + b) * D = 2 * (a * D) + b * D := fun a b => by rw [Nat.add_mul, Nat.mul_assoc]
  have hm : ∀ m : Nat, m = k → 0 < D → (2 * N ≤ (2 * m + 1) * D ∧ (2 * N = (2 * m + 1) * D → m % 2 = 0)) ∧ (0 < m → (2 * m - 1) * D ≤ 2 * N ∧ (2 * N = (2 * m - 1) * D → m % 2 = 0)) ∨ (2 ≤ c ∧ (¬ (c = 2 ∧ t = 0 ∧ k % 2 = 0))) := by
    rintro m rfl _
    by_cases hh : 2 ≤ c ∧ ¬ (c = 2 ∧ t = 0 ∧ m % 2 = 0)
    · exact .inr hh
    · refine .inl ⟨?_, fun hp => ?_⟩
      · rw [f]
        rcases (by omega : c = 0 ∨ c = 1 ∨ c = 2 ∨ c = 3) with rfl | rfl | rfl | rfl
        · refine ⟨by omega, fun e => by omega⟩
        · refine ⟨by omega, fun e => by omega⟩
        · refine ⟨by omega, fun e => by omega⟩
        · omega
      · obtain ⟨m, rfl⟩ : ∃ n, m = n + 1 := ⟨m - 1, by omega⟩
        rw [show 2 * (m + 1) - 1 = 2 * m + 1 by omega, f]
        rw [Nat.add_mul m] at h
        rcases (by omega : c = 0 ∨ c = 1 ∨ c = 2 ∨ c = 3) with rfl | rfl | rfl | rfl
        · refine ⟨by omega, fun e => by omega⟩
        · refine ⟨by omega, fun e => by omega⟩
        · refine ⟨by omega, fun e => by omega⟩
        · omega
  have hm2 : (2 ≤ c ∧ ¬ (c = 2 ∧ t = 0 ∧ k % 2 = 0)) → (2 * N ≤ (2 * (k + 1) + 1) * D ∧ (2 * N = (2 * (k + 1) + 1) * D → (k + 1) % 2 = 0)) ∧ (0 < k + 1 → (2 * (k + 1) - 1) * D ≤ 2 * N ∧ (2 * N = (2 * (k + 1) - 1) * D → (k + 1) % 2 = 0)) := by
    intro hh
    rw [show 2 * (k + 1) - 1 = 2 * k + 1 by omega, show 2 * (k + 1) + 1 = 2 * k + 3 by omega, f, f]
    rcases (by omega : c = 2 ∨ c = 3) with rfl | rfl
    · exact ⟨⟨by omega, fun e => by omega⟩, fun _ => ⟨by omega, fun e => by omega⟩⟩
    · exact ⟨⟨by omega, fun e => by omega⟩, fun _ => ⟨by omega, fun e => by omega⟩⟩
  have hv : rnd (if t = 0 then 4 * k + c else (4 * k + c) ||| 1) = if 2 ≤ c ∧ ¬ (c = 2 ∧ t = 0 ∧ k % 2 = 0) then k + 1 else k := by
    unfold rnd
    rw [or_one]
    by_cases ht0 : t = 0
    · rw [if_pos ht0]
      split <;> omega
    · rw [if_neg ht0]
      split <;> omega
  rw [hv]
  by_cases hh : 2 ≤ c ∧ ¬ (c = 2 ∧ t = 0 ∧ k % 2 = 0)
  · rw [if_pos hh]; exact hm2 hh
  · rw [if_neg hh]
    rcases hm k rfl hD with h | h
    · exact h
    · exact absurd h hh
theorem unr_ge (N D a : Nat) (hD : 0 < D) (h : a * D ≤ N) : a ≤ unr N D := by
  unfold unr
  have : a ≤ N / D := (Nat.le_div_iff_mul_le hD).2 h
  split
  · exact this
  · rw [or_one]; omega
theorem unr_even (N D a : Nat) (hD : 0 < D) (ha : a % 2 = 0) (h : a ≤ unr N D) : a * D ≤ N := by
  refine (Nat.le_div_iff_mul_le hD).1 ?_
  unfold unr at h
  split at h
  · exact h
  · rw [or_one] at h; omega
theorem unr_lt (N D a : Nat) (hD : 0 < D) (ha : a % 2 = 0) (h : N < a * D) : unr N D < a := by
  have : N / D < a := (Nat.div_lt_iff_lt_mul hD).2 h
  unfold unr
  split
  · exact this
  · rw [or_one]; omega
/-- Near, without the greatest. -/
def Near0 (N d r : Nat) : Prop := (N ≤ M r * d ∧ (N = M r * d → r % 2 = 0)) ∧ (0 < r → M (r - 1) * d ≤ N ∧ (N = M (r - 1) * d → r % 2 = 0))
theorem near_of0 {N d r : Nat} (h : Near0 N d r) : Near N d (min r INF) := by
  obtain ⟨a, b⟩ := h
  by_cases g : r ≤ INF
  · rw [Nat.min_eq_left g]; exact ⟨g, fun _ => a, b⟩
  · rw [Nat.min_eq_right (by omega)]
    refine ⟨Nat.le_refl _, fun h => absurd h (Nat.lt_irrefl _), fun _ => ⟨Nat.le_trans (Nat.mul_le_mul_right _ (M_mono (by omega))) (b (by omega)).1, fun _ => rfl⟩⟩
theorem M_at (m j : Nat) (hm : m < 9007199254740992) (h1 : 1 ≤ j) (h2 : 1 < j → 4503599627370496 ≤ m) : M (m + (j - 1) * 4503599627370496) = (2 * m + 1) * 2 ^ (j - 1) := by
  unfold M fr ex
  by_cases hj : j = 1
  · subst hj
    simp only [Nat.sub_self, Nat.zero_mul, Nat.add_zero]
    by_cases g : m < 4503599627370496
    · rw [if_pos g, if_pos g]
    · rw [if_neg g, if_neg g, show m / 4503599627370496 = 1 by omega, show 4503599627370496 + m % 4503599627370496 = m by omega]
  · have := h2 (by omega)
    have e1 : (m + (j - 1) * 4503599627370496) / 4503599627370496 = j := by omega
    have e2 : 4503599627370496 + (m + (j - 1) * 4503599627370496) % 4503599627370496 = m := by omega
    rw [if_neg (by omega), if_neg (by omega), e1, e2]
theorem near0_at (N D m j : Nat) (hm : m < 9007199254740992) (h1 : 1 ≤ j) (h2 : 1 < j → 4503599627370496 ≤ m)
    (hr : (2 * N ≤ (2 * m + 1) * (D * 2 ^ j) ∧ (2 * N = (2 * m + 1) * (D * 2 ^ j) → m % 2 = 0)) ∧ (0 < m → (2 * m - 1) * (D * 2 ^ j) ≤ 2 * N ∧ (2 * N = (2 * m - 1) * (D * 2 ^ j) → m % 2 = 0)))
    (h3 : 1 < j → m = 4503599627370496 → 18014398509481983 * 2 ^ (j - 2) * D ≤ N) : Near0 N D (m + (j - 1) * 4503599627370496) := by
  have hp : 2 ^ j = 2 ^ (j - 1) * 2 := by rw [← Nat.pow_succ]; congr 1; omega
  have hpar : (m + (j - 1) * 4503599627370496) % 2 = m % 2 := by omega
  have e : ∀ a : Nat, a * (D * 2 ^ j) = 2 * (a * 2 ^ (j - 1) * D) := by
    intro a; rw [hp, ← Nat.mul_assoc D, ← Nat.mul_assoc a, Nat.mul_comm _ 2, Nat.mul_assoc a, Nat.mul_comm D]
  rw [e, e] at hr
  obtain ⟨⟨a1, a2⟩, b⟩ := hr
  refine ⟨?_, fun hr0 => ?_⟩
  · rw [M_at m j hm h1 h2, hpar]
    exact ⟨by omega, fun q => a2 (by omega)⟩
  · rw [hpar]
    by_cases g : 1 < j ∧ m = 4503599627370496
    · obtain ⟨g1, g2⟩ := g
      have e3 : m + (j - 1) * 4503599627370496 - 1 = 9007199254740991 + (j - 1 - 1) * 4503599627370496 := by omega
      rw [e3, M_at 9007199254740991 (j - 1) (by omega) (by omega) (by omega)]
      refine ⟨?_, fun _ => by omega⟩
      have := h3 g1 g2
      rw [show j - 1 - 1 = j - 2 by omega]; exact this
    · have hm0 : 0 < m := by
        apply Nat.pos_of_ne_zero; intro h0; subst h0
        by_cases g1 : 1 < j
        · have := h2 g1; omega
        · have : j = 1 := by omega
          subst this; simp at hr0
      obtain ⟨b1, b2⟩ := b hm0
      have e3 : m + (j - 1) * 4503599627370496 - 1 = (m - 1) + (j - 1) * 4503599627370496 := by omega
      rw [e3, M_at (m - 1) j (by omega) h1 (fun g1 => by have := h2 g1; omega), show 2 * (m - 1) + 1 = 2 * m - 1 by omega]
      exact ⟨by omega, fun q => b2 (by omega)⟩
/-- What the last half of the reading makes of what is not rounded: a rung. -/
def pk (U j : Nat) : Nat :=
  if 36028797018963966 ≤ U then min (rnd (U / 2 ||| U % 2) + j * 4503599627370496) INF
  else min (rnd U + (j - 1) * 4503599627370496) INF
theorem pk_ok (N D j : Nat) (hD : 0 < D) (hj : 1 ≤ j) (hlo : 1 < j → 4503599627370496 * (D * 2 ^ j) ≤ N) (hhi : N < 18014398509481983 * (D * 2 ^ j)) : Near N D (pk (unr (4 * N) (D * 2 ^ j)) j) := by
  have hD2 : 0 < D * 2 ^ j := Nat.mul_pos hD (Nat.two_pow_pos _)
  unfold pk
  by_cases g : 36028797018963966 ≤ unr (4 * N) (D * 2 ^ j)
  · rw [if_pos g]
    have g1 := unr_even _ _ _ hD2 rfl g
    have e : D * 2 ^ (j + 1) = D * 2 ^ j * 2 := by rw [Nat.pow_succ, Nat.mul_assoc]
    have hD3 : 0 < D * 2 ^ (j + 1) := Nat.mul_pos hD (Nat.two_pow_pos _)
    rw [← unr_half _ _ hD2, ← e]
    have hl : 18014398509481983 ≤ unr (4 * N) (D * 2 ^ (j + 1)) := unr_ge _ _ _ hD3 (by rw [e]; omega)
    have hu : unr (4 * N) (D * 2 ^ (j + 1)) < 36028797018963966 := unr_lt _ _ _ hD3 rfl (by rw [e]; omega)
    have hr := rnd_ok N (D * 2 ^ (j + 1)) hD3
    have m1 : 4503599627370496 ≤ rnd (unr (4 * N) (D * 2 ^ (j + 1))) := by unfold rnd; omega
    have m2 : rnd (unr (4 * N) (D * 2 ^ (j + 1))) < 9007199254740992 := by unfold rnd; omega
    generalize rnd (unr (4 * N) (D * 2 ^ (j + 1))) = m at *
    have := near_of0 (near0_at N D m (j + 1) m2 (by omega) (fun _ => m1) hr (fun _ _ => by
      have e5 : 2 ^ j = 2 ^ (j - 1) * 2 := by rw [← Nat.pow_succ]; congr 1; omega
      rw [e5, ← Nat.mul_assoc D] at g1
      rw [show j + 1 - 2 = j - 1 by omega, Nat.mul_assoc, Nat.mul_comm (2 ^ (j - 1))]
      omega))
    exact this
  · rw [if_neg g]
    have hr := rnd_ok N (D * 2 ^ j) hD2
    have m2 : rnd (unr (4 * N) (D * 2 ^ j)) < 9007199254740992 := by unfold rnd; omega
    have m1 : 1 < j → 4503599627370496 ≤ rnd (unr (4 * N) (D * 2 ^ j)) := by
      intro hj1
      have := unr_ge (4 * N) (D * 2 ^ j) 18014398509481984 hD2 (by have := hlo hj1; omega)
      unfold rnd; omega
    generalize rnd (unr (4 * N) (D * 2 ^ j)) = m at *
    refine near_of0 (near0_at N D m j m2 hj m1 hr (fun hj1 _ => ?_))
    have h := hlo hj1
    have e5 : 2 ^ j = 2 ^ (j - 2) * 4 := by rw [show (4 : Nat) = 2 ^ 2 from rfl, ← Nat.pow_add]; congr 1; omega
    rw [e5, ← Nat.mul_assoc D] at h
    rw [Nat.mul_assoc, Nat.mul_comm (2 ^ (j - 2))]
    omega
end Go.Proofs.YtaidemghhagniaaGreatDoor
