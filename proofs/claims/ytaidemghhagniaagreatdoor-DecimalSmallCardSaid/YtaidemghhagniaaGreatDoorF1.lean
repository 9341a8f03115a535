/- Plain facts: the numbers of rungs, middles, and the nearest one. -/
namespace Go.Proofs.YtaidemghhagniaaGreatDoor
/-- The power of two of a rung: its fraction is counted in units of 2^(ex v - 1), times 2^-1074. -/
def ex (v : Nat) : Nat := if v < 4503599627370496 then 1 else v / 4503599627370496
def fr (v : Nat) : Nat := if v < 4503599627370496 then v else 4503599627370496 + v % 4503599627370496
/-- The number of a rung, times 2^1074. -/
def V (v : Nat) : Nat := fr v * 2 ^ (ex v - 1)
/-- The middle between a rung and the next one, times 2^1075. -/
def M (v : Nat) : Nat := (2 * fr v + 1) * 2 ^ (ex v - 1)
def INF : Nat := 9218868437227405312
theorem ex_pos (v : Nat) : 1 ≤ ex v := by
  unfold ex; split
  · exact Nat.le_refl _
  · omega
theorem V_succ (v : Nat) : V (v + 1) = V v + 2 ^ (ex v - 1) := by
  unfold V fr ex
  by_cases h1 : v + 1 < 4503599627370496
  · rw [if_pos h1, if_pos h1, if_pos (by omega), if_pos (by omega)]
    show (v + 1) * 2 ^ 0 = v * 2 ^ 0 + 2 ^ 0
    omega
  · rw [if_neg h1, if_neg h1]
    by_cases h2 : v < 4503599627370496
    · rw [if_pos h2, if_pos h2]
      obtain rfl : v = 4503599627370495 := by omega
      rfl
    · rw [if_neg h2, if_neg h2]
      by_cases h3 : (v + 1) % 4503599627370496 = 0
      · have e1 : (v + 1) / 4503599627370496 = v / 4503599627370496 + 1 := by omega
        have e2 : v % 4503599627370496 = 4503599627370495 := by omega
        rw [h3, e1, e2]
        have e3 : v / 4503599627370496 + 1 - 1 = (v / 4503599627370496 - 1) + 1 := by omega
        rw [e3, Nat.pow_succ]
        generalize 2 ^ (v / 4503599627370496 - 1) = x
        omega
      · have e1 : (v + 1) / 4503599627370496 = v / 4503599627370496 := by omega
        have e2 : (v + 1) % 4503599627370496 = v % 4503599627370496 + 1 := by omega
        rw [e1, e2, ← Nat.add_assoc, Nat.add_mul _ 1, Nat.one_mul]
theorem M_eq (v : Nat) : M v = V v + V (v + 1) := by
  rw [V_succ]; unfold M V
  rw [Nat.add_mul, Nat.mul_assoc 2, Nat.one_mul, Nat.two_mul, Nat.add_assoc]
theorem V_lt_succ (v : Nat) : V v < V (v + 1) := by
  rw [V_succ]; have : 0 < 2 ^ (ex v - 1) := Nat.two_pow_pos _; omega
theorem V_mono {a b : Nat} (h : a ≤ b) : V a ≤ V b := by
  induction h with
  | refl => exact Nat.le_refl _
  | step _ ih => exact Nat.le_trans ih (Nat.le_of_lt (V_lt_succ _))
theorem V_lt {a b : Nat} (h : a < b) : V a < V b := Nat.lt_of_lt_of_le (V_lt_succ a) (V_mono h)
theorem V_inj {a b : Nat} (h : V a = V b) : a = b := by
  rcases Nat.lt_trichotomy a b with l | l | l
  · have := V_lt l; omega
  · exact l
  · have := V_lt l; omega
theorem M_lt {a b : Nat} (h : a < b) : M a < M b := by
  rw [M_eq, M_eq]; have := V_lt h; have : V (a + 1) < V (b + 1) := V_lt (Nat.succ_lt_succ h); omega
theorem M_mono {a b : Nat} (h : a ≤ b) : M a ≤ M b := by
  rw [M_eq, M_eq]; have := V_mono h; have : V (a + 1) ≤ V (b + 1) := V_mono (Nat.succ_le_succ h); omega
theorem M_inj {a b : Nat} (h : M a = M b) : a = b := by
  rcases Nat.lt_trichotomy a b with l | l | l
  · have := M_lt l; omega
  · exact l
  · have := M_lt l; omega
/-- 'r' is the rung nearest to the fraction n / d (given as n * 2^1075 over d); of two the even one; infinity counts as the number behind the greatest one. -/
def Near (N d r : Nat) : Prop :=
  r ≤ INF ∧ (r < INF → N ≤ M r * d ∧ (N = M r * d → r % 2 = 0)) ∧ (0 < r → M (r - 1) * d ≤ N ∧ (N = M (r - 1) * d → r % 2 = 0))
theorem near_le {N1 d1 N2 d2 r1 r2 : Nat} (hd1 : 0 < d1) (hd2 : 0 < d2) (h : N1 * d2 ≤ N2 * d1) (h1 : Near N1 d1 r1) (h2 : Near N2 d2 r2) : r1 ≤ r2 := by
  apply Nat.le_of_not_lt
  intro hlt
  obtain ⟨i1, a1, b1⟩ := h1
  obtain ⟨i2, a2, b2⟩ := h2
  obtain ⟨p1, q1⟩ := b1 (by omega)
  obtain ⟨p2, q2⟩ := a2 (by omega)
  have e0 : M r2 ≤ M (r1 - 1) := M_mono (by omega)
  have e1 : M (r1 - 1) * d1 * d2 ≤ N1 * d2 := Nat.mul_le_mul_right _ p1
  have e2 : N2 * d1 ≤ M r2 * d2 * d1 := Nat.mul_le_mul_right _ p2
  have e3 : M r2 * d2 * d1 ≤ M (r1 - 1) * d2 * d1 := Nat.mul_le_mul_right _ (Nat.mul_le_mul_right _ e0)
  have e4 : M (r1 - 1) * d1 * d2 = M (r1 - 1) * d2 * d1 := Nat.mul_right_comm _ _ _
  have f1 : M r2 * d2 * d1 = M (r1 - 1) * d2 * d1 := by omega
  have f2 : M (r1 - 1) * d1 * d2 = N1 * d2 := by omega
  have f3 : N2 * d1 = M r2 * d2 * d1 := by omega
  have g1 : M r2 = M (r1 - 1) := Nat.eq_of_mul_eq_mul_right hd2 (Nat.eq_of_mul_eq_mul_right hd1 f1)
  have g2 := M_inj g1
  have g3 := q1 (Nat.eq_of_mul_eq_mul_right hd2 f2.symm)
  have g4 := q2 (Nat.eq_of_mul_eq_mul_right hd1 f3)
  omega
theorem near_eq {N d r1 r2 : Nat} (hd : 0 < d) (h1 : Near N d r1) (h2 : Near N d r2) : r1 = r2 :=
  Nat.le_antisymm (near_le hd hd (Nat.le_refl _) h1 h2) (near_le hd hd (Nat.le_refl _) h2 h1)
/-- What lies between two numbers with one nearest rung has it, too. -/
theorem near_mid {N1 d1 N2 d2 N d r : Nat} (hd1 : 0 < d1) (hd2 : 0 < d2) (hd : 0 < d) (l : N1 * d ≤ N * d1) (u : N * d2 ≤ N2 * d) (h1 : Near N1 d1 r) (h2 : Near N2 d2 r) : Near N d r := by
  obtain ⟨i1, a1, b1⟩ := h1
  obtain ⟨i2, a2, b2⟩ := h2
  refine ⟨i1, fun hr => ?_, fun hr => ?_⟩
  · obtain ⟨p, q⟩ := a2 hr
    have e1 : N2 * d ≤ M r * d2 * d := Nat.mul_le_mul_right _ p
    have e2 : M r * d2 * d = M r * d * d2 := Nat.mul_right_comm _ _ _
    have e3 : N * d2 ≤ M r * d * d2 := by omega
    refine ⟨Nat.le_of_mul_le_mul_right e3 hd2, fun e => q ?_⟩
    have : N * d2 = M r * d * d2 := by rw [e]
    exact Nat.eq_of_mul_eq_mul_right hd (by omega)
  · obtain ⟨p, q⟩ := b1 hr
    have e1 : M (r - 1) * d1 * d ≤ N1 * d := Nat.mul_le_mul_right _ p
    have e2 : M (r - 1) * d1 * d = M (r - 1) * d * d1 := Nat.mul_right_comm _ _ _
    have e3 : M (r - 1) * d * d1 ≤ N * d1 := by omega
    refine ⟨Nat.le_of_mul_le_mul_right e3 hd1, fun e => q ?_⟩
    have : N * d1 = M (r - 1) * d * d1 := by rw [e]
    exact Nat.eq_of_mul_eq_mul_right hd (by omega)
/-- A fraction may be widened. -/
theorem near_mul {N d r k : Nat} (hk : 0 < k) : Near (N * k) (d * k) r ↔ Near N d r := by
  unfold Near
  have e : ∀ x, x * (d * k) = x * d * k := fun x => (Nat.mul_assoc _ _ _).symm
  have le1 : ∀ x y, x * k ≤ y * k ↔ x ≤ y := fun x y => Nat.mul_le_mul_right_iff hk
  have eq1 : ∀ x y, x * k = y * k ↔ x = y := fun x y => ⟨Nat.eq_of_mul_eq_mul_right hk, fun h => by rw [h]⟩
  simp only [e, le1, eq1]
end Go.Proofs.YtaidemghhagniaaGreatDoor
