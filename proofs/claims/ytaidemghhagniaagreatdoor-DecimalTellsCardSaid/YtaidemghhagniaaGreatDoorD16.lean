/- decimal's Compare, Negate, Next. -/
import Derived.Test.YtaidemghhagniaaGreatDoorD15
import Derived.Test.YtaidemghhagniaaGreatDoorF17
import Derived.Laws.Externs
namespace Go.Proofs.YtaidemghhagniaaGreatDoor
open Go Go.RowKit
theorem fb38 (n : Nat) (w : World) : (callFunc 38 #[.int .u64 (n : Int)]).run Tryz.prog w = .ok (.value (.float .f64 n)) w := by
  rw [run_callFunc_extern (e := Extern.MathFloatBits.float64frombits) Tryz.func38 (by kernel_rfl) (by kernel_rfl) (by kernel_rfl) (by kernel_rfl)]
  rfl
def cmpN (a b : Nat) : Int × Int := if nanN a || nanN b then (0, 2) else (if ordN a < ordN b then -1 else if ordN b < ordN a then 1 else 0, 0)
theorem nan_self (a : Nat) (ha : a < 18446744073709551616) : (FloatKind.f64.format.order a a != some .eq) = nanN a := by
  have : FloatKind.f64.format.order a a = _ := order_all a a ha ha
  rw [this]
  cases nanN a
  · rw [Bool.or_self, if_neg (by decide), cmp_eq rfl]; rfl
  · rw [Bool.or_self, if_pos rfl]; rfl
theorem compare_any (a b : Nat) (ha : a < 18446744073709551616) (hb : b < 18446744073709551616) (w : World) : Calls Tryz.prog 19 #[.int .u64 a, .int .u64 b] w fun e w' => e = .returned (.tuple #[.int .i64 (cmpN a b).1, .int .i64 (cmpN a b).2]) ∧ w = w' := by
  have f1 := fb38 a w
  have f2 := fb38 b w
  have n1 := nan_self a ha
  have n2 := nan_self b hb
  have ho : FloatKind.f64.format.order a b = _ := order_all a b ha hb
  obtain ⟨X, hX⟩ : ∃ X, X = FloatKind.f64.format.order a b := ⟨_, rfl⟩
  unfold cmpN
  cases ga : nanN a
  · rw [ga] at n1 ho
    cases gb : nanN b
    · rw [gb] at n2 ho
      rw [Bool.or_self, if_neg (by decide)] at ho
      rw [Bool.or_self, if_neg (by decide)]
      clear ga gb
      dsimp only
      by_cases g1 : ordN a < ordN b
      · rw [if_pos g1]
        rw [cmp_lt g1] at ho
        clear g1 hX
        go_enter Tryz.func19, Tryz.ntmps19
        go_wp2_with fail
        go_ret2
        exact ⟨rfl, rfl⟩
      · by_cases g2 : ordN b < ordN a
        · rw [if_neg g1, if_pos g2]
          rw [cmp_gt g2] at ho
          clear g1 g2 hX
          go_enter Tryz.func19, Tryz.ntmps19
          go_wp2_with fail
          go_ret2
          exact ⟨rfl, rfl⟩
        · rw [if_neg g1, if_neg g2]
          rw [cmp_eq (by omega)] at ho
          clear g1 g2 hX
          go_enter Tryz.func19, Tryz.ntmps19
          go_wp2_with fail
          go_ret2
          exact ⟨rfl, rfl⟩
    · rw [gb] at n2
      rw [Bool.or_true, if_pos rfl]
      clear ga gb ho hX
      go_enter Tryz.func19, Tryz.ntmps19
      go_wp2_with fail
      go_ret2
      exact ⟨rfl, rfl⟩
  · rw [ga] at n1
    rw [Bool.true_or, if_pos rfl]
    clear ga ho hX
    go_enter Tryz.func19, Tryz.ntmps19
    go_wp2_with fail
    go_ret2
    exact ⟨rfl, rfl⟩
def negN (v : Nat) : Nat := if v < 9223372036854775808 then v + 9223372036854775808 else v - 9223372036854775808
theorem xor_top (v : Nat) (hv : v < 2 ^ 64) : v ^^^ 2 ^ 63 = if v < 2 ^ 63 then v + 2 ^ 63 else v - 2 ^ 63 := by
  by_cases h : v < 2 ^ 63
  · rw [if_pos h]
    have := Nat.two_pow_add_eq_or_of_lt h 1
    rw [Nat.mul_one] at this
    rw [Nat.add_comm, this, Nat.xor_comm]
    apply Nat.eq_of_testBit_eq
    intro j
    rw [Nat.testBit_xor, Nat.testBit_or, Nat.testBit_two_pow]
    by_cases e : 63 = j
    · subst e; rw [Nat.testBit_lt_two_pow h]; rfl
    · simp [e]
  · rw [if_neg h]
    obtain ⟨u, rfl⟩ : ∃ u, v = 2 ^ 63 + u := ⟨v - 2 ^ 63, by omega⟩
    have hu : u < 2 ^ 63 := by omega
    rw [Nat.add_sub_cancel_left]
    have := Nat.two_pow_add_eq_or_of_lt hu 1
    rw [Nat.mul_one] at this
    rw [this]
    apply Nat.eq_of_testBit_eq
    intro j
    rw [Nat.testBit_xor, Nat.testBit_or, Nat.testBit_two_pow]
    by_cases e : 63 = j
    · subst e; rw [Nat.testBit_lt_two_pow hu]; rfl
    · simp [e]
theorem neg_any (v : Nat) (hv : v < 18446744073709551616) (w : World) : Calls Tryz.prog 22 #[.int .u64 v] w fun e w' => e = .returned (.int .u64 ((negN v : Nat) : Int)) ∧ w = w' := by
  have b1 : bits .xor .u64 (v : Int) 9223372036854775808 = ((negN v : Nat) : Int) := by
    refine Eq.trans (u64_xor_nat v 9223372036854775808 hv (by decide)) ?_
    exact congrArg _ (xor_top v hv)
  obtain ⟨x, hx⟩ : ∃ x, x = negN v := ⟨_, rfl⟩
  rw [← hx] at b1 ⊢
  clear hx
  go_enter Tryz.func22, Tryz.ntmps22
  go_wp2
  go_ret
  exact ⟨rfl, rfl⟩
end Go.Proofs.YtaidemghhagniaaGreatDoor
