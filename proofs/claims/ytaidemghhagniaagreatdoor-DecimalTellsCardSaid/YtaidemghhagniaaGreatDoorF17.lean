/- Plain facts: floats stand in the order of their words. -/
import Derived.Test.YtaidemghhagniaaGreatDoorF11
namespace Go.Proofs.YtaidemghhagniaaGreatDoor
open Go Ieee
def ordN (v : Nat) : Int := if v < 9223372036854775808 then (v : Int) else -((v - 9223372036854775808 : Nat) : Int)
def nanN (v : Nat) : Bool := decide (INF < v % 9223372036854775808)
theorem cmp_lt {x y : Int} (h : x < y) : compare x y = .lt := by simp [compare, compareOfLessAndEq, h]
theorem cmp_gt {x y : Int} (h : y < x) : compare x y = .gt := by simp [compare, compareOfLessAndEq, show ¬ x < y by omega, show x ≠ y by omega]
theorem cmp_eq {x y : Int} (h : x = y) : compare x y = .eq := by subst h; simp
theorem cmp_same {x y x' y' : Int} (h1 : x < y → x' < y') (h2 : x = y → x' = y') (h3 : y < x → y' < x') : compare x y = compare x' y' := by
  rcases Int.lt_trichotomy x y with l | l | l
  · rw [cmp_lt l, cmp_lt (h1 l)]
  · rw [cmp_eq l, cmp_eq (h2 l)]
  · rw [cmp_gt l, cmp_gt (h3 l)]
theorem order_key (s t : Bool) (a b : Nat) (ha : a < INF) (hb : b < INF) : double.order (sgw s + a) (sgw t + b) = some (compare (if s then -(V a : Int) else V a) (if t then -(V b : Int) else V b)) := by
  unfold Format.order
  rw [read_ok s a ha, read_ok t b hb]
  unfold Datum.order
  dsimp only
  obtain ⟨p, hp⟩ : ∃ p, p = ex a - 1 := ⟨_, rfl⟩
  obtain ⟨q, hq⟩ : ∃ q, q = ex b - 1 := ⟨_, rfl⟩
  have va : V a = fr a * 2 ^ p := by rw [hp]; rfl
  have vb : V b = fr b * 2 ^ q := by rw [hq]; rfl
  rw [← hp, ← hq]
  have e1 : (-1074 + (p : Int) - min (-1074 + (p : Int)) (-1074 + (q : Int))).toNat = p - min p q := by omega
  have e2 : (-1074 + (q : Int) - min (-1074 + (p : Int)) (-1074 + (q : Int))).toNat = q - min p q := by omega
  rw [e1, e2]
  have f1 : V a = fr a * 2 ^ (p - min p q) * 2 ^ min p q := by rw [va, Nat.mul_assoc, ← Nat.pow_add, Nat.sub_add_cancel (Nat.min_le_left _ _)]
  have f2 : V b = fr b * 2 ^ (q - min p q) * 2 ^ min p q := by rw [vb, Nat.mul_assoc, ← Nat.pow_add, Nat.sub_add_cancel (Nat.min_le_right _ _)]
  rw [f1, f2]
  unfold signed
  rw [Nat.shiftLeft_eq, Nat.shiftLeft_eq]
  generalize fr a * 2 ^ (p - min p q) = X
  generalize fr b * 2 ^ (q - min p q) = Y
  have hz : 0 < 2 ^ min p q := Nat.two_pow_pos _
  generalize 2 ^ min p q = Z at *
  clear f1 f2 e1 e2 va vb hp hq
  have hlt : X < Y → X * Z < Y * Z := fun h => Nat.mul_lt_mul_of_pos_right h hz
  have hgt : Y < X → Y * Z < X * Z := fun h => Nat.mul_lt_mul_of_pos_right h hz
  have he : X = Y → X * Z = Y * Z := fun h => by rw [h]
  have hx0 : X = 0 → X * Z = 0 := fun h => by rw [h, Nat.zero_mul]
  have hy0 : Y = 0 → Y * Z = 0 := fun h => by rw [h, Nat.zero_mul]
  have hx1 : 0 < X → 0 < X * Z := fun h => Nat.mul_pos h hz
  have hy1 : 0 < Y → 0 < Y * Z := fun h => Nat.mul_pos h hz
  generalize X * Z = XZ at *
  generalize Y * Z = YZ at *
  congr 1
  apply cmp_same <;> cases s <;> cases t <;> simp only [Bool.false_eq_true, if_false, if_true] <;> omega
theorem V_zero : V 0 = 0 := by decide
theorem read_inf (s : Bool) : double.read (sgw s + INF) = .infinity s := by cases s <;> decide +kernel
theorem read_nan (s : Bool) (a : Nat) (h : INF < a) (h2 : a < 9223372036854775808) : ∃ t, double.read (sgw s + a) = .nan s t := by
  have e1 : double.leastPlace = -1074 := by decide
  have e2 : double.binade = 4503599627370496 := by decide
  have e3 : double.infRung = 9218868437227405312 := by decide
  have e4 : double.signWeight = 9223372036854775808 := by decide
  have h' : 9218868437227405312 < a := h
  unfold Format.read
  dsimp only
  rw [e1, e2, e3, e4]
  have m1 : (sgw s + a) % 9223372036854775808 = a := by cases s <;> simp only [sgw, Bool.false_eq_true, if_false, if_true] <;> omega
  have m2 : ((sgw s + a) / 9223372036854775808 % 2 == 1) = s := by
    cases s <;> simp only [sgw, Bool.false_eq_true, if_false, if_true]
    · rw [beq_eq_false_iff_ne]; omega
    · rw [beq_iff_eq]; omega
  rw [m1, m2, if_neg (by omega), if_neg (by omega), if_neg (by omega)]
  exact ⟨_, rfl⟩
theorem order_num (s t : Bool) (a b : Nat) (ha : a ≤ INF) (hb : b ≤ INF) : double.order (sgw s + a) (sgw t + b) = some (compare (if s then -(a : Int) else a) (if t then -(b : Int) else b)) := by
  rcases Nat.lt_or_ge a INF with ha' | ha'
  · rcases Nat.lt_or_ge b INF with hb' | hb'
    · rw [order_key s t a b ha' hb']
      have m1 : a < b → V a < V b := V_lt
      have m2 : b < a → V b < V a := V_lt
      have m3 : a = b → V a = V b := fun h => by rw [h]
      have m4 : a = 0 → V a = 0 := fun h => by rw [h]; exact V_zero
      have m5 : b = 0 → V b = 0 := fun h => by rw [h]; exact V_zero
      have m6 : 0 < a → 0 < V a := V_pos
      have m7 : 0 < b → 0 < V b := V_pos
      generalize V a = A at *
      generalize V b = B at *
      congr 1
      apply cmp_same <;> cases s <;> cases t <;> simp only [Bool.false_eq_true, if_false, if_true] <;> omega
    · obtain rfl : b = INF := Nat.le_antisymm hb hb'
      unfold Format.order
      rw [read_ok s a ha', read_inf]
      unfold Datum.order
      dsimp only
      congr 1
      have hI : a < 9218868437227405312 := ha'
      have hII : (INF : Int) = 9218868437227405312 := rfl
      rw [hII]
      cases s <;> cases t <;> simp only [Bool.false_eq_true, if_false, if_true]
      · rw [cmp_lt (by omega)]
      · rw [cmp_gt (by omega)]
      · rw [cmp_lt (by omega)]
      · rw [cmp_gt (by omega)]
  · obtain rfl : a = INF := Nat.le_antisymm ha ha'
    rcases Nat.lt_or_ge b INF with hb' | hb'
    · unfold Format.order
      rw [read_ok t b hb', read_inf]
      unfold Datum.order
      dsimp only
      congr 1
      have hI : b < 9218868437227405312 := hb'
      have hII : (INF : Int) = 9218868437227405312 := rfl
      rw [hII]
      cases s <;> cases t <;> simp only [Bool.false_eq_true, if_false, if_true]
      · rw [cmp_gt (by omega)]
      · rw [cmp_gt (by omega)]
      · rw [cmp_lt (by omega)]
      · rw [cmp_lt (by omega)]
    · obtain rfl : b = INF := Nat.le_antisymm hb hb'
      unfold Format.order
      rw [read_inf, read_inf]
      cases s <;> cases t <;> decide +kernel
theorem word_split (v : Nat) (hv : v < 18446744073709551616) : ∃ s a, v = sgw s + a ∧ a < 9223372036854775808 ∧ ordN v = (if s then -(a : Int) else a) ∧ nanN v = decide (INF < a) := by
  obtain ⟨W, hW⟩ : ∃ W, W = 9223372036854775808 := ⟨_, rfl⟩
  unfold ordN nanN sgw
  rw [← hW]
  have hv2 : v < 2 * W := by omega
  clear hv hW
  by_cases h : v < W
  · refine ⟨false, v, ?_, h, ?_, ?_⟩
    · rw [if_neg (by decide), Nat.zero_add]
    · rw [if_pos h, if_neg (by decide)]
    · rw [Nat.mod_eq_of_lt h]
  · have hm : v % W = v - W := by rw [Nat.mod_eq_sub_mod (by omega), Nat.mod_eq_of_lt (by omega)]
    refine ⟨true, v - W, ?_, by omega, ?_, ?_⟩
    · rw [if_pos rfl]; omega
    · rw [if_neg h, if_pos rfl]
    · rw [hm]
theorem order_nan (x y : Datum) (s : Bool) (z : Nat) (h : x = .nan s z ∨ y = .nan s z) : Datum.order x y = none := by
  rcases h with rfl | rfl
  · rfl
  · cases x <;> rfl
theorem order_all0 (s t : Bool) (a b : Nat) (a1 : a < 9223372036854775808) (b1 : b < 9223372036854775808) (hn : INF < a ∨ INF < b) : double.order (sgw s + a) (sgw t + b) = none := by
  unfold Format.order
  rcases hn with h | h
  · obtain ⟨z, hz⟩ := read_nan s a h a1
    exact order_nan _ _ s z (.inl hz)
  · obtain ⟨z, hz⟩ := read_nan t b h b1
    exact order_nan _ _ t z (.inr hz)
theorem order_all1 (p q : Prop) [Decidable p] [Decidable q] (X : Option Ordering) (o : Option Ordering) (h1 : p ∨ q → o = none) (h2 : ¬ p → ¬ q → o = X) : o = if (decide p || decide q) = true then none else X := by
  by_cases h : p
  · rw [h1 (.inl h), decide_eq_true h]; simp
  · by_cases g : q
    · rw [h1 (.inr g), decide_eq_true g]; simp
    · rw [h2 h g, decide_eq_false h, decide_eq_false g]; simp
theorem order_all (x y : Nat) (hx : x < 18446744073709551616) (hy : y < 18446744073709551616) : double.order x y = if (nanN x || nanN y) = true then none else some (compare (ordN x) (ordN y)) := by
  obtain ⟨s, a, e1, a1, o1, n1⟩ := word_split x hx
  obtain ⟨t, b, e2, b1, o2, n2⟩ := word_split y hy
  rw [o1, o2, n1, n2]
  subst e1 e2
  exact order_all1 _ _ _ _ (order_all0 s t a b a1 b1) (fun h h2 => order_num s t a b (Nat.le_of_not_lt h) (Nat.le_of_not_lt h2))
end Go.Proofs.YtaidemghhagniaaGreatDoor
