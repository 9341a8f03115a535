/- Plain facts: the model's words, exact numbers, products and quotients. -/
import Derived.Test.YtaidemghhagniaaGreatDoorF8
namespace Go.Proofs.YtaidemghhagniaaGreatDoor
open Ieee
theorem near_cross {N1 D1 N2 D2 r : Nat} (h1 : 0 < D1) (h2 : 0 < D2) (e : N1 * D2 = N2 * D1) (h : Near N1 D1 r) : Near N2 D2 r :=
  near_mid h1 h1 h2 (by omega) (by omega) h h
theorem near_V (r D : Nat) (hr : r ≤ INF) (hD : 0 < D) : Near (2 * V r * D) D r := by
  have up : 2 * V r < M r := by rw [M_eq]; have := V_lt_succ r; omega
  refine ⟨hr, fun _ => ⟨Nat.mul_le_mul_right _ (by omega), fun e => ?_⟩, fun h => ⟨Nat.mul_le_mul_right _ ?_, fun e => ?_⟩⟩
  · have := Nat.eq_of_mul_eq_mul_right hD e; omega
  · rw [M_eq]; have := V_lt_succ (r - 1); rw [show r - 1 + 1 = r by omega] at *; omega
  · have h1 := Nat.eq_of_mul_eq_mul_right hD e
    rw [M_eq] at h1; have := V_lt_succ (r - 1); rw [show r - 1 + 1 = r by omega] at *; omega
theorem near_exact {N D r r0 : Nat} (hD : 0 < D) (hr : r0 ≤ INF) (e : N = 2 * V r0 * D) (h : Near N D r) : r = r0 := by
  subst e; exact near_eq hD h (near_V r0 D hr hD)
theorem ex_fr (r : Nat) (hr : r < INF) : double.read r = .number false (fr r) (-1074 + ((ex r - 1 : Nat) : Int)) ∧ double.read (9223372036854775808 + r) = .number true (fr r) (-1074 + ((ex r - 1 : Nat) : Int)) := by
  have e1 : double.leastPlace = -1074 := by decide
  have e2 : double.binade = 4503599627370496 := by decide
  have e3 : double.infRung = 9218868437227405312 := by decide
  have e4 : double.signWeight = 9223372036854775808 := by decide
  have hr' : r < 9218868437227405312 := hr
  have key : ∀ (W : Nat) (b : Bool), W % 9223372036854775808 = r → (W / 9223372036854775808 % 2 == 1) = b → double.read W = .number b (fr r) (-1074 + ((ex r - 1 : Nat) : Int)) := by
    intro W b h1 h2
    unfold Format.read
    dsimp only
    rw [e1, e2, e3, e4, h1, h2]
    unfold fr ex
    by_cases g : r < 4503599627370496
    · rw [if_pos g, if_pos g, if_pos g]; rfl
    · rw [if_neg g, if_neg g, if_neg g, if_pos hr']
  refine ⟨key r false (by omega) ?_, key _ true (by omega) ?_⟩
  · rw [beq_eq_false_iff_ne]; omega
  · rw [beq_iff_eq]; omega
theorem read_ok (neg : Bool) (r : Nat) (hr : r < INF) : double.read (sgw neg + r) = .number neg (fr r) (-1074 + ((ex r - 1 : Nat) : Int)) := by
  cases neg
  · show double.read (0 + r) = _
    rw [Nat.zero_add]; exact (ex_fr r hr).1
  · exact (ex_fr r hr).2
theorem V_at (m j : Nat) (hm : m < 9007199254740992) (h1 : 1 ≤ j) (h2 : 1 < j → 4503599627370496 ≤ m) : V (m + (j - 1) * 4503599627370496) = m * 2 ^ (j - 1) := by
  have h := M_at m j hm h1 h2
  unfold M at h
  unfold V
  by_cases hj : j = 1
  · subst hj
    unfold fr ex
    simp only [Nat.sub_self, Nat.zero_mul, Nat.add_zero]
    by_cases g : m < 4503599627370496
    · rw [if_pos g, if_pos g]
    · rw [if_neg g, if_neg g, show m / 4503599627370496 = 1 by omega, show 4503599627370496 + m % 4503599627370496 = m by omega]
  · have := h2 (by omega)
    have e1 : (m + (j - 1) * 4503599627370496) / 4503599627370496 = j := by omega
    have e2 : 4503599627370496 + (m + (j - 1) * 4503599627370496) % 4503599627370496 = m := by omega
    unfold fr ex
    rw [if_neg (by omega), if_neg (by omega), e1, e2]
/-- The rung of an integer below 2^53. -/
theorem int_rung (m : Nat) (h0 : 0 < m) (h : m < 9007199254740992) : ∃ r, r < INF ∧ V r = m * 2 ^ 1074 ∧ 0 < r := by
  have hl1 : 2 ^ m.log2 ≤ m := Nat.log2_self_le (by omega)
  have hl2 : m < 2 ^ (m.log2 + 1) := Nat.lt_log2_self
  have hL : m.log2 ≤ 52 := by
    apply Nat.le_of_not_lt; intro hlt
    have := Nat.pow_le_pow_right (n := 2) (by omega) (show 53 ≤ m.log2 by omega)
    have e : (2 : Nat) ^ 53 = 9007199254740992 := rfl
    omega
  generalize m.log2 = L at *
  have a1 : 4503599627370496 ≤ m * 2 ^ (52 - L) := by
    rw [show (4503599627370496 : Nat) = 2 ^ L * 2 ^ (52 - L) by rw [← Nat.pow_add, show L + (52 - L) = 52 by omega]]
    exact Nat.mul_le_mul_right _ hl1
  have a2 : m * 2 ^ (52 - L) < 9007199254740992 := by
    rw [show (9007199254740992 : Nat) = 2 ^ (L + 1) * 2 ^ (52 - L) by rw [← Nat.pow_add, show L + 1 + (52 - L) = 53 by omega]]
    exact Nat.mul_lt_mul_of_pos_right hl2 (Nat.two_pow_pos _)
  refine ⟨m * 2 ^ (52 - L) + (1023 + L - 1) * 4503599627370496, ?_, ?_, by omega⟩
  · unfold INF; omega
  · rw [V_at _ _ a2 (by omega) (fun _ => a1), Nat.mul_assoc, ← Nat.pow_add]
    congr 2; omega
theorem fr_ex (r : Nat) : fr r * 2 ^ (ex r - 1) = V r := rfl
theorem V_pos {r : Nat} (h : 0 < r) : 0 < V r := by have := V_lt h; omega
theorem fr_pos {r : Nat} (h : 0 < r) : 0 < fr r := by
  apply Nat.pos_of_ne_zero; intro e
  have := V_pos h
  rw [← fr_ex, e, Nat.zero_mul] at this; omega
/-- An integer as a float. -/
theorem of_int (neg : Bool) (m : Nat) (h0 : 0 < m) (r0 : Nat) (hr : r0 < INF) (hV : V r0 = m * 2 ^ 1074) : double.nearest neg m 0 = sgw neg + r0 := by
  obtain ⟨r, h1, h2⟩ := nearest_ok neg m 0 h0 0 1075 (by omega)
  rw [h1, near_exact (r0 := r0) (Nat.two_pow_pos 0) (by omega) ?_ h2]
  obtain ⟨K, hK⟩ : ∃ K : Nat, K = 1074 := ⟨_, rfl⟩
  rw [hV, ← hK, show 1075 = K + 1 by omega, Nat.pow_succ, Nat.pow_zero, Nat.mul_one, Nat.mul_comm 2, Nat.mul_assoc]
/-- The product of two floats that are the integers A and B. -/
theorem mul_near (s t : Bool) (a b A B : Nat) (ha : a < INF) (hb : b < INF) (hA : V a = A * 2 ^ 1074) (hB : V b = B * 2 ^ 1074) (ha0 : 0 < a) (hb0 : 0 < b) :
    ∃ r, double.mul (sgw s + a) (sgw t + b) = some (sgw (s ^^ t) + r) ∧ Near (A * B * 2 ^ 1075) 1 r := by
  obtain ⟨r, h1, h2⟩ := nearest_ok (s ^^ t) (fr a * fr b) (-1074 + ((ex a - 1 : Nat) : Int) + (-1074 + ((ex b - 1 : Nat) : Int))) (Nat.mul_pos (fr_pos ha0) (fr_pos hb0)) 1073 ((ex a - 1) + (ex b - 1)) (by omega)
  refine ⟨r, ?_, near_cross (Nat.two_pow_pos _) Nat.one_pos ?_ h2⟩
  · unfold Format.mul
    rw [read_ok s a ha, read_ok t b hb]
    simp only [Datum.product, Option.map_some, Format.write]
    rw [h1]
  · rw [Nat.mul_one, Nat.pow_add, show fr a * fr b * (2 ^ (ex a - 1) * 2 ^ (ex b - 1)) = (fr a * 2 ^ (ex a - 1)) * (fr b * 2 ^ (ex b - 1)) by rw [Nat.mul_mul_mul_comm], fr_ex, fr_ex, hA, hB]
    obtain ⟨K, hK⟩ : ∃ K : Nat, K = 1073 := ⟨_, rfl⟩
    rw [← hK, show 1074 = K + 1 by omega, show 1075 = K + 2 by omega, Nat.mul_mul_mul_comm, ← Nat.pow_add, Nat.mul_assoc (A * B), ← Nat.pow_add]
    congr 2; omega
end Go.Proofs.YtaidemghhagniaaGreatDoor
