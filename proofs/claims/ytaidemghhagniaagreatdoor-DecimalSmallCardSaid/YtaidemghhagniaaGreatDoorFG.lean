/- The order of values; parts, Kind, Compare, Next, Whole (F17 D15 D16 F18 D17 N1). -/
import Derived.Test.YtaidemghhagniaaGreatDoorF11
import Derived.Test.YtaidemghhagniaaGreatDoorD4
import Derived.Laws.Externs
import Derived.Laws.FloatArith
section
namespace Go.Proofs.YtaidemghhagniaaGreatDoor
open Go Ieee
def ordN (v : Nat) : Int := if v < 9223372036854775808 then (v : Int) else -((v - 9223372036854775808 : Nat) : Int)
def nanN (v : Nat) : Bool := decide (INF < v % 9223372036854775808)
theorem cmp_lt {x y : Int} (h : x < y) : compare x y = .lt := by simp [compare, compareOfLessAndEq, h]
theorem cmp_gt {x y : Int} (h : y < x) : compare x y = .gt := by simp [compare, compareOfLessAndEq, show ¬ x < y by omega, show x ≠ y by omega]
theorem cmp_eq {x y : Int} (h : x = y) : compare x y = .eq := by subst h; simp
theorem cmp_same {x y x' y' : Int} (h1 : x < y → x' < y') (h2 : x = y → x' = y') (h3 : y < x → y' < x') : compare x y = compare x' y' := by
  rcases Int.lt_trichotomy x y with l | l | l
  · rw [cmp_lt l, cmp_lt (h1 l)]
  · rw [cmp_eq l, cmp_eq (h2 l)]
  · rw [cmp_gt l, cmp_gt (h3 l)]
theorem order_key (s t : Bool) (a b : Nat) (ha : a < INF) (hb : b < INF) : double.order (sgw s + a) (sgw t + b) = some (compare (if s then -(V a : Int) else V a) (if t then -(V b : Int) else V b)) := by
  unfold Format.order
  rw [read_ok s a ha, read_ok t b hb]
  unfold Datum.order
  dsimp only
  obtain ⟨p, hp⟩ : ∃ p, p = ex a - 1 := ⟨_, rfl⟩
  obtain ⟨q, hq⟩ : ∃ q, q = ex b - 1 := ⟨_, rfl⟩
  have va : V a = fr a * 2 ^ p := by rw [hp]; rfl
  have vb : V b = fr b * 2 ^ q := by rw [hq]; rfl
  rw [← hp, ← hq]
  have e1 : (-1074 + (p : Int) - min (-1074 + (p : Int)) (-1074 + (q : Int))).toNat = p - min p q := by omega
  have e2 : (-1074 + (q : Int) - min (-1074 + (p : Int)) (-1074 + (q : Int))).toNat = q - min p q := by omega
  rw [e1, e2]
  have f1 : V a = fr a * 2 ^ (p - min p q) * 2 ^ min p q := by rw [va, Nat.mul_assoc, ← Nat.pow_add, Nat.sub_add_cancel (Nat.min_le_left _ _)]
  have f2 : V b = fr b * 2 ^ (q - min p q) * 2 ^ min p q := by rw [vb, Nat.mul_assoc, ← Nat.pow_add, Nat.sub_add_cancel (Nat.min_le_right _ _)]
  rw [f1, f2]
  unfold signed
  rw [Nat.shiftLeft_eq, Nat.shiftLeft_eq]
  generalize fr a * 2 ^ (p - min p q) = X
  generalize fr b * 2 ^ (q - min p q) = Y
  have hz : 0 < 2 ^ min p q := Nat.two_pow_pos _
  generalize 2 ^ min p q = Z at *
  clear f1 f2 e1 e2 va vb hp hq
  have hlt : X < Y → X * Z < Y * Z := fun h => Nat.mul_lt_mul_of_pos_right h hz
  have hgt : Y < X → Y * Z < X * Z := fun h => Nat.mul_lt_mul_of_pos_right h hz
  have he : X = Y → X * Z = Y * Z := fun h => by rw [h]
  have hx0 : X = 0 → X * Z = 0 := fun h => by rw [h, Nat.zero_mul]
  have hy0 : Y = 0 → Y * Z = 0 := fun h => by rw [h, Nat.zero_mul]
  have hx1 : 0 < X → 0 < X * Z := fun h => Nat.mul_pos h hz
  have hy1 : 0 < Y → 0 < Y * Z := fun h => Nat.mul_pos h hz
  generalize X * Z = XZ at *
  generalize Y * Z = YZ at *
  congr 1
  apply cmp_same <;> cases s <;> cases t <;> simp only [Bool.false_eq_true, if_false, if_true] <;> omega
theorem V_zero : V 0 = 0 := by decide
theorem read_inf (s : Bool) : double.read (sgw s + INF) = .infinity s := by cases s <;> decide +kernel
theorem read_nan (s : Bool) (a : Nat) (h : INF < a) (h2 : a < 9223372036854775808) : ∃ t, double.read (sgw s + a) = .nan s t := by
  have e1 : double.leastPlace = -1074 := by decide
  have e2 : double.binade = 4503599627370496 := by decide
  have e3 : double.infRung = 9218868437227405312 := by decide
  have e4 : double.signWeight = 9223372036854775808 := by decide
  have h' : 9218868437227405312 < a := h
  unfold Format.read
  dsimp only
  rw [e1, e2, e3, e4]
  have m1 : (sgw s + a) % 9223372036854775808 = a := by cases s <;> simp only [sgw, Bool.false_eq_true, if_false, if_true] <;> omega
  have m2 : ((sgw s + a) / 9223372036854775808 % 2 == 1) = s := by
    cases s <;> simp only [sgw, Bool.false_eq_true, if_false, if_true]
    · rw [beq_eq_false_iff_ne]; omega
    · rw [beq_iff_eq]; omega
  rw [m1, m2, if_neg (by omega), if_neg (by omega), if_neg (by omega)]
  exact ⟨_, rfl⟩
theorem order_num (s t : Bool) (a b : Nat) (ha : a ≤ INF) (hb : b ≤ INF) : double.order (sgw s + a) (sgw t + b) = some (compare (if s then -(a : Int) else a) (if t then -(b : Int) else b)) := by
  rcases Nat.lt_or_ge a INF with ha' | ha'
  · rcases Nat.lt_or_ge b INF with hb' | hb'
    · rw [order_key s t a b ha' hb']
      have m1 : a < b → V a < V b := V_lt
      have m2 : b < a → V b < V a := V_lt
      have m3 : a = b → V a = V b := fun h => by rw [h]
      have m4 : a = 0 → V a = 0 := fun h => by rw [h]; exact V_zero
      have m5 : b = 0 → V b = 0 := fun h => by rw [h]; exact V_zero
      have m6 : 0 < a → 0 < V a := V_pos
      have m7 : 0 < b → 0 < V b := V_pos
      generalize V a = A at *
      generalize V b = B at *
      congr 1
      apply cmp_same <;> cases s <;> cases t <;> simp only [Bool.false_eq_true, if_false, if_true] <;> omega
    · obtain rfl : b = INF := Nat.le_antisymm hb hb'
      unfold Format.order
      rw [read_ok s a ha', read_inf]
      unfold Datum.order
      dsimp only
      congr 1
      have hI : a < 9218868437227405312 := ha'
      have hII : (INF : Int) = 9218868437227405312 := rfl
      rw [hII]
      cases s <;> cases t <;> simp only [Bool.false_eq_true, if_false, if_true]
      · rw [cmp_lt (by omega)]
      · rw [cmp_gt (by omega)]
      · rw [cmp_lt (by omega)]
      · rw [cmp_gt (by omega)]
  · obtain rfl : a = INF := Nat.le_antisymm ha ha'
    rcases Nat.lt_or_ge b INF with hb' | hb'
    · unfold Format.order
      rw [read_ok t b hb', read_inf]
      unfold Datum.order
      dsimp only
      congr 1
      have hI : b < 9218868437227405312 := hb'
      have hII : (INF : Int) = 9218868437227405312 := rfl
      rw [hII]
      cases s <;> cases t <;> simp only [Bool.false_eq_true, if_false, if_true]
      · rw [cmp_gt (by omega)]
      · rw [cmp_gt (by omega)]
      · rw [cmp_lt (by omega)]
      · rw [cmp_lt (by omega)]
    · obtain rfl : b = INF := Nat.le_antisymm hb hb'
      unfold Format.order
      rw [read_inf, read_inf]
      cases s <;> cases t <;> decide +kernel
theorem word_split (v : Nat) (hv : v < 18446744073709551616) : ∃ s a, v = sgw s + a ∧ a < 9223372036854775808 ∧ ordN v = (if s then -(a : Int) else a) ∧ nanN v = decide (INF < a) := by
  obtain ⟨W, hW⟩ : ∃ W, W = 9223372036854775808 := ⟨_, rfl⟩
  unfold ordN nanN sgw
  rw [← hW]
  have hv2 : v < 2 * W := by omega
  clear hv hW
  by_cases h : v < W
  · refine ⟨false, v, ?_, h, ?_, ?_⟩
    · rw [if_neg (by decide), Nat.zero_add]
    · rw [if_pos h, if_neg (by decide)]
    · rw [Nat.mod_eq_of_lt h]
  · have hm : v % W = v - W := by rw [Nat.mod_eq_sub_mod (by omega), Nat.mod_eq_of_lt (by omega)]
    refine ⟨true, v - W, ?_, by omega, ?_, ?_⟩
    · rw [if_pos rfl]; omega
    · rw [if_neg h, if_pos rfl]
    · rw [hm]
theorem order_nan (x y : Datum) (s : Bool) (z : Nat) (h : x = .nan s z ∨ y = .nan s z) : Datum.order x y = none := by
  rcases h with rfl | rfl
  · rfl
  · cases x <;> rfl
theorem order_all0 (s t : Bool) (a b : Nat) (a1 : a < 9223372036854775808) (b1 : b < 9223372036854775808) (hn : INF < a ∨ INF < b) : double.order (sgw s + a) (sgw t + b) = none := by
  unfold Format.order
  rcases hn with h | h
  · obtain ⟨z, hz⟩ := read_nan s a h a1
    exact order_nan _ _ s z (.inl hz)
  · obtain ⟨z, hz⟩ := read_nan t b h b1
    exact order_nan _ _ t z (.inr hz)
theorem order_all1 (p q : Prop) [Decidable p] [Decidable q] (X : Option Ordering) (o : Option Ordering) (h1 : p ∨ q → o = none) (h2 : ¬ p → ¬ q → o = X) : o = if (decide p || decide q) = true then none else X := by
  by_cases h : p
  · rw [h1 (.inl h), decide_eq_true h]; simp
  · by_cases g : q
    · rw [h1 (.inr g), decide_eq_true g]; simp
    · rw [h2 h g, decide_eq_false h, decide_eq_false g]; simp
theorem order_all (x y : Nat) (hx : x < 18446744073709551616) (hy : y < 18446744073709551616) : double.order x y = if (nanN x || nanN y) = true then none else some (compare (ordN x) (ordN y)) := by
  obtain ⟨s, a, e1, a1, o1, n1⟩ := word_split x hx
  obtain ⟨t, b, e2, b1, o2, n2⟩ := word_split y hy
  rw [o1, o2, n1, n2]
  subst e1 e2
  exact order_all1 _ _ _ _ (order_all0 s t a b a1 b1) (fun h h2 => order_num s t a b (Nat.le_of_not_lt h) (Nat.le_of_not_lt h2))
end Go.Proofs.YtaidemghhagniaaGreatDoor
end
section
namespace Go.Proofs.YtaidemghhagniaaGreatDoor
open Go Go.RowKit
def kindN (v : Nat) : Nat := if v / 4503599627370496 % 2048 = 2047 then (if v % 4503599627370496 = 0 then 3 else 4) else if 0 < v / 4503599627370496 % 2048 then 2 else if 0 < v % 4503599627370496 then 1 else 0
theorem parts_any (v : Nat) (hv : v < 18446744073709551616) (w : World) : Calls Tryz.prog 27 #[.int .u64 v] w fun e w' => e = .returned (.tuple #[.int .i64 ((v / 4503599627370496 % 2048 : Nat) : Int), .int .u64 ((v % 4503599627370496 : Nat) : Int)]) ∧ w = w' := by
  have b1 : bits .and .u64 ((v : Int) / 4503599627370496) 2047 = ((v / 4503599627370496 % 2048 : Nat) : Int) := by
    have := u64_and_nat (v / 4503599627370496) 2047 (by omega) (by decide)
    rw [show ((v : Int) / 4503599627370496) = ((v / 4503599627370496 : Nat) : Int) by omega]
    refine Eq.trans this ?_
    rw [show (2047 : Nat) = 2 ^ 11 - 1 from rfl, Nat.and_two_pow_sub_one_eq_mod]
  have b2 : bits .and .u64 (v : Int) 4503599627370495 = ((v % 4503599627370496 : Nat) : Int) := by
    have := u64_and_nat v 4503599627370495 hv (by decide)
    refine Eq.trans this ?_
    rw [show (4503599627370495 : Nat) = 2 ^ 52 - 1 from rfl, Nat.and_two_pow_sub_one_eq_mod]
  obtain ⟨x, hx⟩ : ∃ x, x = v / 4503599627370496 % 2048 := ⟨_, rfl⟩
  obtain ⟨y, hy⟩ : ∃ y, y = v % 4503599627370496 := ⟨_, rfl⟩
  rw [← hx] at b1 ⊢
  rw [← hy] at b2 ⊢
  have hx2 : x < 2048 := by omega
  clear hx hy
  go_enter Tryz.func27, Tryz.ntmps27
  go_wp2
  go_ret2
  exact ⟨rfl, rfl⟩
theorem kind_any (v : Nat) (hv : v < 18446744073709551616) (w : World) : Calls Tryz.prog 15 #[.int .u64 v] w fun e w' => e = .returned (.int .u8 ((kindN v : Nat) : Int)) ∧ w = w' := by
  have c := Lib.hid (parts_any v hv w)
  unfold kindN
  obtain ⟨x, hx⟩ : ∃ x, x = v / 4503599627370496 % 2048 := ⟨_, rfl⟩
  obtain ⟨y, hy⟩ : ∃ y, y = v % 4503599627370496 := ⟨_, rfl⟩
  rw [← hx, ← hy] at c ⊢
  clear hx hy
  by_cases g1 : x = 2047
  · have u1 : ((x : Int) == 2047) = true := by simp [g1]
    by_cases g2 : y = 0
    · have u2 : ((y : Int) == 0) = true := by simp [g2]
      rw [if_pos g1, if_pos g2]
      clear g1 g2
      go_enter Tryz.func15, Tryz.ntmps15
      go_wp2_with fail
      refine c.out.mono ?_; rintro z w1 ⟨rfl, rfl⟩
      go_wp2_with fail
      go_ret
      exact ⟨rfl, rfl⟩
    · have u2 : ((y : Int) == 0) = false := by simp [g2]
      rw [if_pos g1, if_neg g2]
      clear g1 g2
      go_enter Tryz.func15, Tryz.ntmps15
      go_wp2_with fail
      refine c.out.mono ?_; rintro z w1 ⟨rfl, rfl⟩
      go_wp2_with fail
      go_ret
      exact ⟨rfl, rfl⟩
  · have u1 : ((x : Int) == 2047) = false := by simp; omega
    rw [if_neg g1]
    by_cases g2 : 0 < x
    · have u2 : decide ((0 : Int) < (x : Int)) = true := decide_eq_true (by omega)
      have u2' : decide (0 < x) = true := decide_eq_true g2
      rw [if_pos g2]
      clear g1
      go_enter Tryz.func15, Tryz.ntmps15
      go_wp2_with fail
      refine c.out.mono ?_; rintro z w1 ⟨rfl, rfl⟩
      go_wp2_with fail
      go_ret
      exact ⟨rfl, rfl⟩
    · have u2 : decide ((0 : Int) < (x : Int)) = false := decide_eq_false (by omega)
      have u2' : decide (0 < x) = false := decide_eq_false g2
      rw [if_neg g2]
      by_cases g3 : 0 < y
      · have u3 : decide ((0 : Int) < (y : Int)) = true := decide_eq_true (by omega)
        have u3' : decide (0 < y) = true := decide_eq_true g3
        rw [if_pos g3]
        clear g1 g2
        go_enter Tryz.func15, Tryz.ntmps15
        go_wp2_with fail
        refine c.out.mono ?_; rintro z w1 ⟨rfl, rfl⟩
        go_wp2_with fail
        go_ret
        exact ⟨rfl, rfl⟩
      · have u3 : decide ((0 : Int) < (y : Int)) = false := decide_eq_false (by omega)
        have u3' : decide (0 < y) = false := decide_eq_false g3
        rw [if_neg g3]
        clear g1 g2 g3
        go_enter Tryz.func15, Tryz.ntmps15
        go_wp2_with fail
        refine c.out.mono ?_; rintro z w1 ⟨rfl, rfl⟩
        go_wp2_with fail
        go_ret
        exact ⟨rfl, rfl⟩
end Go.Proofs.YtaidemghhagniaaGreatDoor
end
section
namespace Go.Proofs.YtaidemghhagniaaGreatDoor
open Go Go.RowKit
theorem fb38 (n : Nat) (w : World) : (callFunc 38 #[.int .u64 (n : Int)]).run Tryz.prog w = .ok (.value (.float .f64 n)) w := by
  rw [run_callFunc_extern (e := Extern.MathFloatBits.float64frombits) Tryz.func38 (by kernel_rfl) (by kernel_rfl) (by kernel_rfl) (by kernel_rfl)]
  rfl
def cmpN (a b : Nat) : Int × Int := if nanN a || nanN b then (0, 2) else (if ordN a < ordN b then -1 else if ordN b < ordN a then 1 else 0, 0)
theorem nan_self (a : Nat) (ha : a < 18446744073709551616) : (FloatKind.f64.format.order a a != some .eq) = nanN a := by
  have : FloatKind.f64.format.order a a = _ := order_all a a ha ha
  rw [this]
  cases nanN a
  · rw [Bool.or_self, if_neg (by decide), cmp_eq rfl]; rfl
  · rw [Bool.or_self, if_pos rfl]; rfl
theorem compare_any (a b : Nat) (ha : a < 18446744073709551616) (hb : b < 18446744073709551616) (w : World) : Calls Tryz.prog 19 #[.int .u64 a, .int .u64 b] w fun e w' => e = .returned (.tuple #[.int .i64 (cmpN a b).1, .int .i64 (cmpN a b).2]) ∧ w = w' := by
  have f1 := fb38 a w
  have f2 := fb38 b w
  have n1 := nan_self a ha
  have n2 := nan_self b hb
  have ho : FloatKind.f64.format.order a b = _ := order_all a b ha hb
  obtain ⟨X, hX⟩ : ∃ X, X = FloatKind.f64.format.order a b := ⟨_, rfl⟩
  unfold cmpN
  cases ga : nanN a
  · rw [ga] at n1 ho
    cases gb : nanN b
    · rw [gb] at n2 ho
      rw [Bool.or_self, if_neg (by decide)] at ho
      rw [Bool.or_self, if_neg (by decide)]
      clear ga gb
      dsimp only
      by_cases g1 : ordN a < ordN b
      · rw [if_pos g1]
        rw [cmp_lt g1] at ho
        clear g1 hX
        go_enter Tryz.func19, Tryz.ntmps19
        go_wp2_with fail
        go_ret2
        exact ⟨rfl, rfl⟩
      · by_cases g2 : ordN b < ordN a
        · rw [if_neg g1, if_pos g2]
          rw [cmp_gt g2] at ho
          clear g1 g2 hX
          go_enter Tryz.func19, Tryz.ntmps19
          go_wp2_with fail
          go_ret2
          exact ⟨rfl, rfl⟩
        · rw [if_neg g1, if_neg g2]
          rw [cmp_eq (by omega)] at ho
          clear g1 g2 hX
          go_enter Tryz.func19, Tryz.ntmps19
          go_wp2_with fail
          go_ret2
          exact ⟨rfl, rfl⟩
    · rw [gb] at n2
      rw [Bool.or_true, if_pos rfl]
      clear ga gb ho hX
      go_enter Tryz.func19, Tryz.ntmps19
      go_wp2_with fail
      go_ret2
      exact ⟨rfl, rfl⟩
  · rw [ga] at n1
    rw [Bool.true_or, if_pos rfl]
    clear ga ho hX
    go_enter Tryz.func19, Tryz.ntmps19
    go_wp2_with fail
    go_ret2
    exact ⟨rfl, rfl⟩
def negN (v : Nat) : Nat := if v < 9223372036854775808 then v + 9223372036854775808 else v - 9223372036854775808
theorem xor_top (v : Nat) (hv : v < 2 ^ 64) : v ^^^ 2 ^ 63 = if v < 2 ^ 63 then v + 2 ^ 63 else v - 2 ^ 63 := by
  by_cases h : v < 2 ^ 63
  · rw [if_pos h]
    have := Nat.two_pow_add_eq_or_of_lt h 1
    rw [Nat.mul_one] at this
    rw [Nat.add_comm, this, Nat.xor_comm]
    apply Nat.eq_of_testBit_eq
    intro j
    rw [Nat.testBit_xor, Nat.testBit_or, Nat.testBit_two_pow]
    by_cases e : 63 = j
    · subst e; rw [Nat.testBit_lt_two_pow h]; rfl
    · simp [e]
  · rw [if_neg h]
    obtain ⟨u, rfl⟩ : ∃ u, v = 2 ^ 63 + u := ⟨v - 2 ^ 63, by omega⟩
    have hu : u < 2 ^ 63 := by omega
    rw [Nat.add_sub_cancel_left]
    have := Nat.two_pow_add_eq_or_of_lt hu 1
    rw [Nat.mul_one] at this
    rw [this]
    apply Nat.eq_of_testBit_eq
    intro j
    rw [Nat.testBit_xor, Nat.testBit_or, Nat.testBit_two_pow]
    by_cases e : 63 = j
    · subst e; rw [Nat.testBit_lt_two_pow hu]; rfl
    · simp [e]
theorem neg_any (v : Nat) (hv : v < 18446744073709551616) (w : World) : Calls Tryz.prog 22 #[.int .u64 v] w fun e w' => e = .returned (.int .u64 ((negN v : Nat) : Int)) ∧ w = w' := by
  have b1 : bits .xor .u64 (v : Int) 9223372036854775808 = ((negN v : Nat) : Int) := by
    refine Eq.trans (u64_xor_nat v 9223372036854775808 hv (by decide)) ?_
    exact congrArg _ (xor_top v hv)
  obtain ⟨x, hx⟩ : ∃ x, x = negN v := ⟨_, rfl⟩
  rw [← hx] at b1 ⊢
  clear hx
  go_enter Tryz.func22, Tryz.ntmps22
  go_wp2
  go_ret
  exact ⟨rfl, rfl⟩
end Go.Proofs.YtaidemghhagniaaGreatDoor
end
section
namespace Go.Proofs.YtaidemghhagniaaGreatDoor
open Go Ieee
theorem cut_zero (neg : Bool) (n k : Nat) : Toward.zero.cut neg n k = n / 2 ^ k := by
  unfold Toward.cut
  dsimp only
  rw [Nat.one_shiftLeft]
  show _ + 0 = _
  rw [Nat.add_zero]
  by_cases hk : k ≤ n.log2 + 2
  · rw [Nat.min_eq_left hk]
  · rw [Nat.min_eq_right (by omega)]
    have h1 : n < 2 ^ (n.log2 + 1) := Nat.lt_log2_self
    have h2 : 2 ^ (n.log2 + 2) = 2 * 2 ^ (n.log2 + 1) := by rw [Nat.pow_succ]; omega
    have h3 : 2 ^ (n.log2 + 2) ≤ 2 ^ k := Nat.pow_le_pow_right (by omega) (by omega)
    rw [Nat.div_eq_of_lt (show n < 2 ^ (n.log2 + 2) by omega), Nat.div_eq_of_lt (show n < 2 ^ k by omega)]
theorem int_part (s : Bool) (a : Nat) (ha : a < INF) : (double.read (sgw s + a)).integral .zero = .number s (V a / 2 ^ 1074) 0 := by
  rw [read_ok s a ha]
  unfold Datum.integral
  dsimp only
  rw [cut_zero, Nat.shiftLeft_eq]
  obtain ⟨p, hp⟩ : ∃ p, p = ex a - 1 := ⟨_, rfl⟩
  have va : V a = fr a * 2 ^ p := by rw [hp]; rfl
  rw [← hp, va]
  obtain ⟨K, hK⟩ : ∃ K : Nat, K = 1074 := ⟨_, rfl⟩
  rw [show (-1074 : Int) = -(K : Int) by omega, ← hK]
  congr 1
  rcases Nat.le_total K p with h | h
  · rw [show (-(K : Int) + (p : Int)).toNat = p - K by omega, show (-(-(K : Int) + (p : Int))).toNat = 0 by omega, Nat.pow_zero, Nat.div_one]
    conv => rhs; rw [show p = (p - K) + K by omega, Nat.pow_add, ← Nat.mul_assoc]
    rw [Nat.mul_div_cancel _ (Nat.two_pow_pos K)]
  · rw [show (-(K : Int) + (p : Int)).toNat = 0 by omega, show (-(-(K : Int) + (p : Int))).toNat = K - p by omega, Nat.pow_zero, Nat.mul_one]
    conv => rhs; rw [show K = p + (K - p) by omega, Nat.pow_add, ← Nat.div_div_eq_div_mul, Nat.mul_div_cancel _ (Nat.two_pow_pos p)]
def W53 : Nat := 4845873199050653696
theorem V_53 : V W53 = 9007199254740992 * 2 ^ 1074 := by decide +kernel
theorem div_le_gen (A B T : Nat) (hT : 0 < T) (h : A ≤ B * T) : A / T ≤ B := by
  have := Nat.div_le_div_right (c := T) h
  rwa [Nat.mul_div_cancel _ hT] at this
theorem int_le (a : Nat) (ha : a ≤ W53) : V a / 2 ^ 1074 ≤ 9007199254740992 := by
  have h := Nat.le_trans (V_mono ha) (Nat.le_of_eq V_53)
  obtain ⟨K, hK⟩ : ∃ K : Nat, K = 1074 := ⟨_, rfl⟩
  rw [← hK] at h ⊢
  exact div_le_gen _ _ _ (Nat.two_pow_pos K) h
theorem zero_gen (T : Nat) : V 0 = 0 * T := by rw [V_zero, Nat.zero_mul]
theorem int_word0 (s : Bool) (N : Nat) (hN : N ≤ 9007199254740992) (U : Nat) (hU : 2 ^ 1074 = U) : ∃ r, r < INF ∧ V r = N * U ∧ double.write (.number s N 0) = sgw s + r := by
  by_cases h0 : N = 0
  · subst h0
    refine ⟨0, by decide, zero_gen U, ?_⟩
    cases s <;> decide +kernel
  · by_cases h1 : N = 9007199254740992
    · subst h1
      exact ⟨W53, by decide, by rw [← hU]; exact V_53, by cases s <;> decide +kernel⟩
    · obtain ⟨r, h2, h3, _⟩ := int_rung N (by omega) (by omega)
      exact ⟨r, h2, by rw [← hU]; exact h3, of_int s N (by omega) r h2 h3⟩
theorem int_word (s : Bool) (N : Nat) (hN : N ≤ 9007199254740992) : ∃ r, r < INF ∧ V r = N * 2 ^ 1074 ∧ double.write (.number s N 0) = sgw s + r := int_word0 s N hN _ rfl
/-- What Whole answers. -/
def wholeN (v : Nat) : Int × Bool := if v % 9223372036854775808 ≤ W53 ∧ V (v % 9223372036854775808) % 2 ^ 1074 = 0 then (if v < 9223372036854775808 then ((V (v % 9223372036854775808) / 2 ^ 1074 : Nat) : Int) else -((V (v % 9223372036854775808) / 2 ^ 1074 : Nat) : Int), true) else (0, false)
theorem trunc_gen (s : Bool) (a r T : Nat) (hV : V r = V a / T * T) : (some (compare (if s then -(a : Int) else a) (if s then -(r : Int) else r)) != some .eq) = decide (V a % T ≠ 0) := by
  have hd := Nat.div_add_mod (V a) T
  rw [Nat.mul_comm, ← hV] at hd
  by_cases h : V a % T = 0
  · have : a = r := V_inj (by omega)
    rw [decide_eq_false (by simpa using h), cmp_eq (by rw [this])]; rfl
  · rw [decide_eq_true h]
    have : r < a := by
      rcases Nat.lt_or_ge r a with g | g
      · exact g
      · have := V_mono g; omega
    cases s
    · rw [cmp_gt (by simp only [Bool.false_eq_true, if_false]; omega)]; rfl
    · rw [cmp_lt (by simp only [if_true]; omega)]; rfl
theorem trunc_eq (s : Bool) (a r : Nat) (ha : a < INF) (hr : r < INF) (hV : V r = V a / 2 ^ 1074 * 2 ^ 1074) : (double.order (sgw s + a) (sgw s + r) != some .eq) = decide (V a % 2 ^ 1074 ≠ 0) := by
  rw [order_num s s a r (by omega) (by omega)]
  exact trunc_gen s a r _ hV
end Go.Proofs.YtaidemghhagniaaGreatDoor
end
section
namespace Go.Proofs.YtaidemghhagniaaGreatDoor
open Go Go.RowKit Ieee
def nextN (v : Nat) : Nat × Int := if kindN v = 4 then (0, 2) else if v = INF then (0, 6) else if v = 9223372036854775808 then (1, 0) else if v = 9223372036854775809 then (0, 0) else if 9223372036854775808 ≤ v then (v - 1, 0) else (v + 1, 0)
theorem top_bit (v : Nat) (hv : v < 18446744073709551616) : bits .and .u64 (v : Int) 9223372036854775808 = if 9223372036854775808 ≤ v then 9223372036854775808 else 0 := by
  refine Eq.trans (u64_and_nat v 9223372036854775808 hv (by decide)) ?_
  have := and_pow v 63
  rw [show (2 : Nat) ^ 63 = 9223372036854775808 from rfl] at this
  rw [this]
  split
  · rw [show v / 9223372036854775808 = 1 by omega]; rfl
  · rw [show v / 9223372036854775808 = 0 by omega]; rfl
theorem next_any (v : Nat) (hv : v < 18446744073709551616) (w : World) : Calls Tryz.prog 23 #[.int .u64 v] w fun e w' => e = .returned (.tuple #[.int .u64 ((nextN v).1 : Int), .int .i64 (nextN v).2]) ∧ w = w' := by
  have c := Lib.hid (kind_any v hv w)
  have b1 := top_bit v hv
  unfold nextN
  by_cases g1 : kindN v = 4
  · rw [if_pos g1]
    rw [g1] at c
    clear g1 b1
    go_enter Tryz.func23, Tryz.ntmps23
    go_wp2_with fail
    refine c.out.mono ?_; rintro z w1 ⟨rfl, rfl⟩
    go_wp2_with fail
    go_ret2
    exact ⟨rfl, rfl⟩
  · rw [if_neg g1]
    have u1 : ((kindN v : Int) == 4) = false := by simp; omega
    obtain ⟨k, hk⟩ : ∃ k, k = kindN v := ⟨_, rfl⟩
    rw [← hk] at c u1
    clear g1 hk
    by_cases g2 : v = INF
    · rw [if_pos g2]
      have u2 : ((v : Int) == 9218868437227405312) = true := by rw [g2]; rfl
      clear g2 b1
      go_enter Tryz.func23, Tryz.ntmps23
      go_wp2_with fail
      refine c.out.mono ?_; rintro z w1 ⟨rfl, rfl⟩
      go_wp2_with fail
      go_ret2
      exact ⟨rfl, rfl⟩
    · rw [if_neg g2]
      have u2 : ((v : Int) == 9218868437227405312) = false := by
        simp only [beq_eq_false_iff_ne, ne_eq]
        exact fun e => g2 (by show v = 9218868437227405312; omega)
      clear g2
      by_cases g3 : v = 9223372036854775808
      · rw [if_pos g3]
        have u3 : ((v : Int) == 9223372036854775808) = true := by rw [g3]; rfl
        clear g3 b1
        go_enter Tryz.func23, Tryz.ntmps23
        go_wp2_with fail
        refine c.out.mono ?_; rintro z w1 ⟨rfl, rfl⟩
        go_wp2_with fail
        go_ret2
        exact ⟨rfl, rfl⟩
      · rw [if_neg g3]
        have u3 : ((v : Int) == 9223372036854775808) = false := by simp only [beq_eq_false_iff_ne, ne_eq]; omega
        by_cases g4 : v = 9223372036854775809
        · rw [if_pos g4]
          have u4 : ((v : Int) == 9223372036854775809) = true := by rw [g4]; rfl
          clear g3 g4 b1
          go_enter Tryz.func23, Tryz.ntmps23
          go_wp2_with fail
          refine c.out.mono ?_; rintro z w1 ⟨rfl, rfl⟩
          go_wp2_with fail
          go_ret2
          exact ⟨rfl, rfl⟩
        · rw [if_neg g4]
          have u4 : ((v : Int) == 9223372036854775809) = false := by simp only [beq_eq_false_iff_ne, ne_eq]; omega
          clear g4
          by_cases g5 : 9223372036854775808 ≤ v
          · rw [if_pos g5] at b1 ⊢
            have l1 : (1 : Int) ≤ (v : Int) := by omega
            obtain ⟨u, hu⟩ : ∃ u : Nat, Hid ((v : Int) - 1 = (u : Int) ∧ v - 1 = u) := ⟨v - 1, Lib.hid ⟨by omega, rfl⟩⟩
            rw [hu.out.2]
            have hu1 := hu.out.1
            clear g3 g5
            go_enter Tryz.func23, Tryz.ntmps23
            go_wp2_with fail
            refine c.out.mono ?_; rintro z w1 ⟨rfl, rfl⟩
            go_wp2_with fail
            go_ret2
            exact ⟨rfl, rfl⟩
          · rw [if_neg g5] at b1 ⊢
            have l1 : (v : Int) < 9223372036854775808 := by omega
            clear g3 g5
            go_enter Tryz.func23, Tryz.ntmps23
            go_wp2_with fail
            refine c.out.mono ?_; rintro z w1 ⟨rfl, rfl⟩
            go_wp2_with fail
            go_ret2
            exact ⟨by go_num, rfl⟩
theorem ti_num (name : String) (way : Toward) (x : Nat) (s : Bool) (m : Nat) (i : Int) (h : FloatKind.f64.decode x = .number s m i) : Extern.MathFloor.toIntegral name way #[.float .f64 x] = pure (.float .f64 (FloatKind.f64.encode ((Datum.number s m i).integral way))) := by
  show (match FloatKind.f64.decode x with
    | .nan s t => (if FloatKind.f64.format.quiet t = t then (pure (Value.float .f64 x) : Sem Value) else do
      let kept ← choose (.extern "math.Floor,Ceil,Trunc,RoundToEven.signallingNaN kept" 2)
      pure (Value.float .f64 (if kept == 1 then x else FloatKind.f64.encode (.nan s (FloatKind.f64.format.quiet t)))))
    | d => pure (Value.float .f64 (FloatKind.f64.encode (d.integral way)))) = _
  rw [h]
theorem tr71 (s : Bool) (a r : Nat) (ha : a < INF) (hr : double.write (.number s (V a / 2 ^ 1074) 0) = sgw s + r) (w : World) : (callFunc 71 #[.float .f64 (sgw s + a)]).run Tryz.prog w = .ok (.value (.float .f64 (sgw s + r))) w := by
  rw [run_callFunc_extern (e := Extern.MathFloor.toIntegral "math.archTrunc" .zero) Tryz.func71 (by kernel_rfl) (by kernel_rfl) (by kernel_rfl) (by kernel_rfl)]
  have h : FloatKind.f64.decode (sgw s + a) = .number s (fr a) (-1074 + ((ex a - 1 : Nat) : Int)) := read_ok s a ha
  have h2 := int_part s a ha
  rw [read_ok s a ha] at h2
  rw [ti_num _ _ _ _ _ _ h, h2]
  show (Sem.run Tryz.prog (pure (Value.float .f64 (double.write (.number s (V a / 2 ^ 1074) 0)))) w).andThen _ = _
  rw [hr]; rfl
set_option maxRecDepth 100000 in
theorem trunc_any (s : Bool) (a r : Nat) (ha : a < INF) (hr : double.write (.number s (V a / 2 ^ 1074) 0) = sgw s + r) (w : World) : Calls Tryz.prog 39 #[.float .f64 (sgw s + a)] w fun e w' => e = .returned (.float .f64 (sgw s + r)) ∧ w = w' := by
  have f := tr71 s a r ha hr w
  obtain ⟨x, hx⟩ : ∃ x, x = sgw s + a := ⟨_, rfl⟩
  obtain ⟨y, hy⟩ : ∃ y, y = sgw s + r := ⟨_, rfl⟩
  rw [← hx, ← hy] at f
  rw [← hx, ← hy]
  clear hx hy hr ha
  go_enter Tryz.func39, Tryz.ntmps39
  go_wp2_with fail
  go_ret
  exact ⟨rfl, rfl⟩
theorem int_val (s : Bool) (a : Nat) (ha : a < INF) (hN : V a / 2 ^ 1074 ≤ 9007199254740992) : floatToIntVal .f64 (sgw s + a) .i64 = some (if s then -((V a / 2 ^ 1074 : Nat) : Int) else ((V a / 2 ^ 1074 : Nat) : Int)) := by
  unfold floatToIntVal Datum.toInt
  have h2 : (FloatKind.f64.decode (sgw s + a)).integral .zero = _ := int_part s a ha
  rw [h2]
  generalize V a / 2 ^ 1074 = N at *
  dsimp only
  have hs : signed s N 0 = if s then -(N : Int) else (N : Int) := by unfold signed; rw [Nat.shiftLeft_zero]
  rw [hs]
  have h3 : IntKind.i64.min ≤ (if s then -(N : Int) else (N : Int)) ∧ (if s then -(N : Int) else (N : Int)) ≤ IntKind.i64.max := by
    show (-9223372036854775808 : Int) ≤ _ ∧ _ ≤ (9223372036854775807 : Int)
    cases s <;> simp only [Bool.false_eq_true, if_false, if_true] <;> omega
  rw [if_pos h3]
theorem sgn_if (s : Bool) (a : Nat) (ha : a < 9223372036854775808) (X Y : Int) : (if sgw s + a < 9223372036854775808 then X else Y) = if s then Y else X := by
  cases s
  · rw [if_pos (by simp only [sgw, Bool.false_eq_true, if_false]; omega)]; simp
  · rw [if_neg (by simp only [sgw, if_true]; omega)]; simp
theorem whole_at (s : Bool) (a : Nat) (ha : a < 9223372036854775808) : wholeN (sgw s + a) = if a ≤ W53 ∧ V a % 2 ^ 1074 = 0 then (if s then -((V a / 2 ^ 1074 : Nat) : Int) else ((V a / 2 ^ 1074 : Nat) : Int), true) else (0, false) := by
  have h1 : (sgw s + a) % 9223372036854775808 = a := by cases s <;> simp only [sgw, Bool.false_eq_true, if_false, if_true] <;> omega
  unfold wholeN
  rw [h1, sgn_if s a ha]
theorem ge_fact (v c : Nat) (hv : v < 18446744073709551616) (hc : c < 18446744073709551616) (hn : nanN c = false) : (FloatKind.f64.format.order v c == some .gt || FloatKind.f64.format.order v c == some .eq) = (!nanN v && decide (ordN c ≤ ordN v)) := by
  have : FloatKind.f64.format.order v c = _ := order_all v c hv hc
  rw [this, hn, Bool.or_false]
  cases nanN v
  · rw [if_neg (by decide)]
    rcases Int.lt_trichotomy (ordN v) (ordN c) with l | l | l
    · rw [cmp_lt l, decide_eq_false (by omega)]; rfl
    · rw [cmp_eq l, decide_eq_true (by omega)]; rfl
    · rw [cmp_gt l, decide_eq_true (by omega)]; rfl
  · rw [if_pos rfl]; rfl
theorem le_fact (v c : Nat) (hv : v < 18446744073709551616) (hc : c < 18446744073709551616) (hn : nanN c = false) : (FloatKind.f64.format.order v c == some .lt || FloatKind.f64.format.order v c == some .eq) = (!nanN v && decide (ordN v ≤ ordN c)) := by
  have : FloatKind.f64.format.order v c = _ := order_all v c hv hc
  rw [this, hn, Bool.or_false]
  cases nanN v
  · rw [if_neg (by decide)]
    rcases Int.lt_trichotomy (ordN v) (ordN c) with l | l | l
    · rw [cmp_lt l, decide_eq_true (by omega)]; rfl
    · rw [cmp_eq l, decide_eq_true (by omega)]; rfl
    · rw [cmp_gt l, decide_eq_false (by omega)]; rfl
  · rw [if_pos rfl]; rfl
theorem bounds_iff (s : Bool) (a : Nat) (ha : a < 9223372036854775808) (o : Int) (n : Bool) (ho : o = (if s then -(a : Int) else a)) (hn : n = decide (INF < a)) : ((!n && decide (-4845873199050653696 ≤ o)) = true ∧ (!n && decide (o ≤ 4845873199050653696)) = true) ↔ a ≤ W53 := by
  have hI : (INF : Nat) = 9218868437227405312 := rfl
  have hW : (W53 : Nat) = 4845873199050653696 := rfl
  rw [hI] at hn
  rw [hW]
  subst hn
  simp only [Bool.and_eq_true, Bool.not_eq_true', decide_eq_false_iff_not, decide_eq_true_eq]
  cases s
  · simp only [Bool.false_eq_true, if_false] at ho; omega
  · simp only [if_true] at ho; omega
set_option maxRecDepth 100000 in
theorem whole_any (v : Nat) (hv : v < 18446744073709551616) (w : World) : Calls Tryz.prog 18 #[.int .u64 v] w fun e w' => e = .returned (.tuple #[.int .i64 (wholeN v).1, .bool (wholeN v).2]) ∧ w = w' := by
  obtain ⟨s, a, hva, ha, ho, hn⟩ := word_split v hv
  have f1 := fb38 v w
  have g1 := ge_fact v 14069245235905429504 hv (by decide) (by decide)
  have g2 := le_fact v 4845873199050653696 hv (by decide) (by decide)
  rw [show ordN 14069245235905429504 = -4845873199050653696 by decide] at g1
  rw [show ordN 4845873199050653696 = 4845873199050653696 by decide] at g2
  have hb := bounds_iff s a ha (ordN v) (nanN v) ho hn
  obtain ⟨b1, hb1⟩ : ∃ b1, b1 = (!nanN v && decide (-4845873199050653696 ≤ ordN v)) := ⟨_, rfl⟩
  obtain ⟨b2, hb2⟩ : ∃ b2, b2 = (!nanN v && decide (ordN v ≤ 4845873199050653696)) := ⟨_, rfl⟩
  rw [← hb1] at g1 hb
  rw [← hb2] at g2 hb
  have hw := whole_at s a ha
  rw [← hva] at hw
  obtain ⟨wa, wb, hwv⟩ : ∃ wa wb, wholeN v = (wa, wb) := ⟨_, _, rfl⟩
  rw [hwv] at hw ⊢
  dsimp only
  clear hb1 hb2 ho hn
  by_cases hW : a ≤ W53
  · obtain ⟨rfl, rfl⟩ := hb.2 hW
    have haI : a < INF := Nat.lt_of_le_of_lt hW (by decide)
    have hN := int_le a hW
    obtain ⟨r, hr1, hr2, hr3⟩ := int_word s (V a / 2 ^ 1074) hN
    have ht := trunc_any s a r haI hr3 w
    have hte := trunc_eq s a r haI hr1 hr2
    have hiv := int_val s a haI hN
    rw [← hva] at ht hte hiv
    have hcv := fun w => run_convert_float_int (P := Tryz.prog) w 57 3 .f64 .i64 v _ (by kernel_rfl) (by kernel_rfl) hiv
    obtain ⟨x, hx⟩ : ∃ x, x = sgw s + r := ⟨_, rfl⟩
    rw [← hx] at ht hte
    replace hte : (FloatKind.f64.format.order v x != some .eq) = _ := hte
    replace ht := Lib.hid ht
    by_cases hz : V a % 2 ^ 1074 = 0
    · rw [if_pos ⟨hW, hz⟩] at hw
      simp only [Prod.mk.injEq] at hw
      obtain ⟨h1, rfl⟩ := hw
      rw [← h1] at hcv
      rw [decide_eq_false (fun g => g hz)] at hte
      clear hiv hz hr1 hr2 hr3 haI hN hW hwv h1 hva hx hb
      go_enter Tryz.func18, Tryz.ntmps18
      go_wp2_with fail
      refine ht.out.mono ?_; rintro z w1 ⟨rfl, rfl⟩
      go_wp2_with fail
      go_ret2
      exact ⟨rfl, rfl⟩
    · rw [if_neg (fun g => hz g.2)] at hw
      simp only [Prod.mk.injEq] at hw
      obtain ⟨rfl, rfl⟩ := hw
      rw [decide_eq_true hz] at hte
      clear hcv hiv hz hr1 hr2 hr3 haI hN hW hwv hva hx hb
      go_enter Tryz.func18, Tryz.ntmps18
      go_wp2_with fail
      refine ht.out.mono ?_; rintro z w1 ⟨rfl, rfl⟩
      go_wp2_with fail
      go_ret2
      exact ⟨rfl, rfl⟩
  · rw [if_neg (fun g => hW g.1)] at hw
    simp only [Prod.mk.injEq] at hw
    obtain ⟨rfl, rfl⟩ := hw
    cases b1
    · clear hb hwv hva hW g2
      go_enter Tryz.func18, Tryz.ntmps18
      go_wp2_with fail
      go_ret2
      exact ⟨rfl, rfl⟩
    · cases b2
      · clear hb hwv hva hW
        go_enter Tryz.func18, Tryz.ntmps18
        go_wp2_with fail
        go_ret2
        exact ⟨rfl, rfl⟩
      · exact absurd (hb.1 ⟨rfl, rfl⟩) hW
end Go.Proofs.YtaidemghhagniaaGreatDoor
end
section
namespace Go.Proofs.YtaidemghhagniaaGreatDoor
open Go Ieee
theorem INF_is : INF = 9218868437227405312 := rfl
theorem nan_f (v : Nat) : nanN v = false ↔ v % 9223372036854775808 ≤ INF := by
  unfold nanN; rw [decide_eq_false_iff_not]; omega
theorem nan_t (v : Nat) : nanN v = true ↔ INF < v % 9223372036854775808 := by
  unfold nanN; rw [decide_eq_true_iff]
theorem kind4 (v : Nat) (_ : v < 18446744073709551616) : kindN v = 4 ↔ nanN v = true := by
  rw [nan_t, INF_is]
  unfold kindN
  by_cases h1 : v / 4503599627370496 % 2048 = 2047
  · rw [if_pos h1]
    by_cases h2 : v % 4503599627370496 = 0
    · rw [if_pos h2]; constructor <;> intro h <;> omega
    · rw [if_neg h2]; constructor <;> intro h <;> omega
  · rw [if_neg h1]
    constructor
    · intro h; exfalso; revert h
      split
      · decide
      · split <;> decide
    · intro h; omega
theorem ord_lo (v : Nat) (h : v < 9223372036854775808) : ordN v = v := by unfold ordN; rw [if_pos h]
theorem ord_hi (v : Nat) (h : 9223372036854775808 ≤ v) : ordN v = 9223372036854775808 - v := by unfold ordN; rw [if_neg (by omega)]; omega
/-- What Next gives of a value that is a number, and not the last one. -/
theorem next_ok (a : Nat) (ha : a < 18446744073709551616) (hn : nanN a = false) (hi : a ≠ 9218868437227405312) :
    ∃ n, nextN a = (n, 0) ∧ n < 18446744073709551616 ∧ nanN n = false ∧ ordN n = ordN a + 1 ∧ n ≠ 18442240474082181120 := by
  have hk : kindN a ≠ 4 := fun h => by rw [(kind4 a ha).1 h] at hn; cases hn
  have hn' : a % 9223372036854775808 ≤ 9218868437227405312 := by rw [nan_f, INF_is] at hn; exact hn
  have e : nextN a = if a = 9223372036854775808 then (1, 0) else if a = 9223372036854775809 then (0, 0) else if 9223372036854775808 ≤ a then (a - 1, 0) else (a + 1, 0) := by
    unfold nextN
    rw [if_neg hk, if_neg (by rw [INF_is]; exact hi)]
  rw [e]
  by_cases h1 : a = 9223372036854775808
  · rw [if_pos h1]
    refine ⟨1, rfl, by omega, by rw [nan_f, INF_is]; omega, ?_, by omega⟩
    rw [ord_lo 1 (by omega), ord_hi a (by omega)]; omega
  · rw [if_neg h1]
    by_cases h2 : a = 9223372036854775809
    · rw [if_pos h2]
      refine ⟨0, rfl, by omega, by rw [nan_f, INF_is]; omega, ?_, by omega⟩
      rw [ord_lo 0 (by omega), ord_hi a (by omega)]; omega
    · rw [if_neg h2]
      by_cases h3 : 9223372036854775808 ≤ a
      · rw [if_pos h3]
        refine ⟨a - 1, rfl, by omega, by rw [nan_f, INF_is]; omega, ?_, by omega⟩
        rw [ord_hi (a - 1) (by omega), ord_hi a (by omega)]; omega
      · rw [if_neg h3]
        refine ⟨a + 1, rfl, by omega, by rw [nan_f, INF_is]; omega, ?_, by omega⟩
        rw [ord_lo (a + 1) (by omega), ord_lo a (by omega)]; omega
theorem neg_lo (v : Nat) (h : v < 9223372036854775808) : negN v = v + 9223372036854775808 := by unfold negN; rw [if_pos h]
theorem neg_hi (v : Nat) (h : 9223372036854775808 ≤ v) : negN v = v - 9223372036854775808 := by unfold negN; rw [if_neg (by omega)]
theorem neg_ok (a : Nat) (ha : a < 18446744073709551616) : negN a < 18446744073709551616 ∧ nanN (negN a) = nanN a ∧ ordN (negN a) = - ordN a := by
  have key : nanN (negN a) = nanN a ↔ (nanN (negN a) = true ↔ nanN a = true) := by cases nanN (negN a) <;> cases nanN a <;> simp
  rw [key, nan_t, nan_t, INF_is]
  by_cases h : a < 9223372036854775808
  · rw [neg_lo a h, ord_lo a h, ord_hi _ (by omega)]
    refine ⟨by omega, by omega, by omega⟩
  · rw [neg_hi a (by omega), ord_hi a (by omega), ord_lo _ (by omega)]
    refine ⟨by omega, by omega, by omega⟩
theorem cmp_num (a b : Nat) (ha : nanN a = false) (hb : nanN b = false) : cmpN a b = (if ordN a < ordN b then -1 else if ordN b < ordN a then 1 else 0, 0) := by
  unfold cmpN; rw [ha, hb]; rfl
end Go.Proofs.YtaidemghhagniaaGreatDoor
end
