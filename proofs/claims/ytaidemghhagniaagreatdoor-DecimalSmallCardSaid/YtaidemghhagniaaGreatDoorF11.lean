/- Plain facts: what atof64exact reckons. -/
import Derived.Test.YtaidemghhagniaaGreatDoorF10
import Derived.Test.YtaidemghhagniaaGreatDoorF7
import Derived.Laws.FloatArith
namespace Go.Proofs.YtaidemghhagniaaGreatDoor
open Go Ieee
/-- The words of the exact powers of ten. -/
def f10 (k : Nat) : Nat := [4607182418800017408, 4621819117588971520, 4636737291354636288, 4652007308841189376, 4666723172467343360, 4681608360884174848, 4696837146684686336, 4711630319722168320, 4726483295884279808, 4741671816366391296, 4756540486875873280, 4771362005757984768, 4786511204640096256, 4801453603149578240, 4816244402031689728, 4831355200913801216, 4846369599423283200, 4861130398305394688, 4876203697187506176, 4891288408196988160, 4906019910204099648, 4921056587992461136, 4936209963552724370].getD k 0
theorem f10_ok (k : Nat) (h : k < 23) : V (f10 k) = 10 ^ k * 2 ^ 1074 ∧ f10 k < INF ∧ 0 < f10 k := by
  have key : ∀ k : Fin 23, V (f10 k.val) = 10 ^ k.val * 2 ^ 1074 ∧ f10 k.val < INF ∧ 0 < f10 k.val := by decide +kernel
  exact key ⟨k, h⟩
theorem flt_int (d : Nat) (h0 : 0 < d) (h : d < 9007199254740992) : ∃ r, r < INF ∧ V r = d * 2 ^ 1074 ∧ 0 < r ∧ floatOfInt .f64 (d : Int) = r := by
  obtain ⟨r, h1, h2, h3⟩ := int_rung d h0 h
  refine ⟨r, h1, h2, h3, ?_⟩
  have := of_int false d h0 r h1 h2
  rw [show sgw false + r = r from Nat.zero_add r] at this
  show FloatKind.nearest .f64 (d : Int) = r
  unfold FloatKind.nearest FloatKind.encode
  rw [decide_eq_false (by omega), Int.natAbs_natCast]
  exact this
theorem neg_float (r : Nat) (h : r < INF) : Op.negFloat .f64 r = sgw true + r := by
  have hr : r < 2 ^ 63 := Nat.lt_trans h (by decide)
  show r ^^^ 2 ^ 63 = _
  rw [show sgw true = 2 ^ 63 from rfl]
  apply Nat.eq_of_testBit_eq
  intro j
  have e : 2 ^ 63 + r = 2 ^ 63 * 1 + r := by rw [Nat.mul_one]
  rw [e, Nat.testBit_two_pow_mul_add 1 hr, Nat.testBit_xor, Nat.testBit_two_pow]
  by_cases hj : j < 63
  · rw [if_pos hj, decide_eq_false (show ¬ (63 = j) by omega), Bool.xor_false]
  · rw [if_neg hj]
    have : r.testBit j = false := Nat.testBit_lt_two_pow (Nat.lt_of_lt_of_le hr (Nat.pow_le_pow_right (by omega) (by omega)))
    rw [this]
    by_cases e2 : j = 63
    · subst e2; rfl
    · have : Nat.testBit 1 (j - 63) = false := by
        apply Nat.testBit_lt_two_pow
        exact Nat.one_lt_two_pow (by omega)
      rw [this, decide_eq_false (show ¬ (63 = j) by omega)]; rfl
theorem sgw_lt (neg : Bool) : sgw neg = 0 ∨ sgw neg = 9223372036854775808 := by cases neg <;> simp [sgw]
/-- Floats in order. -/
theorem order_ok (a b : Nat) (ha : a < INF) (hb : b < INF) : (FloatKind.f64.format.order a b = some (compare (V a : Int) (V b : Int))) ∧ (FloatKind.f64.format.order (9223372036854775808 + a) (9223372036854775808 + b) = some (compare (-(V a : Int)) (-(V b : Int)))) := by
  have key : ∀ s : Bool, double.order (sgw s + a) (sgw s + b) = some (compare (if s then -(V a : Int) else V a) (if s then -(V b : Int) else V b)) := by
    intro s
    unfold Format.order
    rw [read_ok s a ha, read_ok s b hb]
    unfold Datum.order
    dsimp only
    obtain ⟨p, hp⟩ : ∃ p, p = ex a - 1 := ⟨_, rfl⟩
    obtain ⟨q, hq⟩ : ∃ q, q = ex b - 1 := ⟨_, rfl⟩
    have va : V a = fr a * 2 ^ p := by rw [hp]; rfl
    have vb : V b = fr b * 2 ^ q := by rw [hq]; rfl
    rw [← hp, ← hq]
    have e1 : (-1074 + (p : Int) - min (-1074 + (p : Int)) (-1074 + (q : Int))).toNat = p - min p q := by omega
    have e2 : (-1074 + (q : Int) - min (-1074 + (p : Int)) (-1074 + (q : Int))).toNat = q - min p q := by omega
    rw [e1, e2]
    have f1 : V a = fr a * 2 ^ (p - min p q) * 2 ^ min p q := by rw [va, Nat.mul_assoc, ← Nat.pow_add, Nat.sub_add_cancel (Nat.min_le_left _ _)]
    have f2 : V b = fr b * 2 ^ (q - min p q) * 2 ^ min p q := by rw [vb, Nat.mul_assoc, ← Nat.pow_add, Nat.sub_add_cancel (Nat.min_le_right _ _)]
    rw [f1, f2]
    unfold signed
    rw [Nat.shiftLeft_eq, Nat.shiftLeft_eq]
    generalize fr a * 2 ^ (p - min p q) = X
    generalize fr b * 2 ^ (q - min p q) = Y
    have hz : (0 : Int) < ((2 ^ min p q : Nat) : Int) := by have := Nat.two_pow_pos (min p q); omega
    generalize (2 ^ min p q : Nat) = Z at *
    have cmp : ∀ x y : Int, compare x y = compare (x * Z) (y * Z) := by
      intro x y
      rcases Int.lt_trichotomy x y with l | l | l
      · have : x * Z < y * Z := Int.mul_lt_mul_of_pos_right l hz
        rw [show compare x y = .lt by simp [compare, compareOfLessAndEq, l], show compare (x * Z) (y * Z) = .lt by simp [compare, compareOfLessAndEq, this]]
      · subst l; simp
      · have : y * Z < x * Z := Int.mul_lt_mul_of_pos_right l hz
        rw [show compare x y = .gt by simp [compare, compareOfLessAndEq, show ¬ x < y by omega, show x ≠ y by omega], show compare (x * Z) (y * Z) = .gt by simp only [compare, compareOfLessAndEq, if_neg (show ¬ x * Z < y * Z by omega), if_neg (show ¬ x * Z = y * Z by omega)]]
    cases s
    · simp only [Bool.false_eq_true, if_false]
      rw [cmp]; simp
    · simp only [if_true]
      rw [cmp]; simp [Int.neg_mul]
  have k0 := key false
  have k1 := key true
  simp only [Bool.false_eq_true, if_false] at k0
  simp only [if_true] at k1
  refine ⟨?_, k1⟩
  rw [show sgw false + a = a from Nat.zero_add a, show sgw false + b = b from Nat.zero_add b] at k0
  exact k0
end Go.Proofs.YtaidemghhagniaaGreatDoor
