/- Leaves of the fast reading of floats. -/
import Derived.Test.YtaidemghhagniaaGreatDoorShelf
import Derived.Test.YtaidemghhagniaaGreatDoorF6
import Derived.WalkKit
import Derived.IntWalk
import Derived.Below
import Derived.OwnWalk
import Derived.Deep.DeepMust
import Derived.Laws.BitsAllLaws
import Derived.Lib.Hide
import Derived.Outline
import Derived.Deep.QuietTactic
import Derived.BigQuiet
namespace Go.Proofs.YtaidemghhagniaaGreatDoor
open Go Go.RowKit
theorem bool2_any (b : Bool) (w : World) : Calls Tryz.prog 139 #[.bool b] w fun e w' => e = .returned (.int .u64 (if b then 1 else 0)) ∧ w = w' := by
  cases b
  all_goals
    go_enter Tryz.func139, Tryz.ntmps139
    go_wp2
    go_ret
    exact ⟨rfl, rfl⟩
theorem bool2_q (b : Bool) (w : World) : Calls Tryz.prog 139 #[.bool b] w fun e w' => e = .returned (.int .u64 (if b then 1 else 0)) ∧ w' = w := (bool2_any b w).mono fun _ _ h => ⟨h.1, h.2.symm⟩
theorem bool2i_any (b : Bool) (w : World) : Calls Tryz.prog 113 #[.bool b] w fun e w' => e = .returned (.int .i64 (if b then 1 else 0)) ∧ w = w' := by
  cases b
  all_goals
    go_enter Tryz.func113, Tryz.ntmps113
    go_wp2
    go_ret
    exact ⟨rfl, rfl⟩
theorem unmin_any (w : World) : Calls Tryz.prog 153 #[.int .u64 9007199254740992] w fun e w' => e = .returned (.int .u64 36028797018963966) ∧ w = w' := by
  go_enter Tryz.func153, Tryz.ntmps153
  go_wp2
  go_ret
  exact ⟨rfl, rfl⟩
theorem log2_any (p : Int) (h0 : -1000 ≤ p) (h1 : p ≤ 1000) (w : World) : Calls Tryz.prog 150 #[.int .i64 p] w fun e w' => e = .returned (.int .i64 (lp2 p)) ∧ w = w' := by
  go_enter Tryz.func150, Tryz.ntmps150
  go_wp2
  go_ret
  exact ⟨rfl, rfl⟩
theorem ret_u {a b : Int} (h : a = b) : Ending.returned (.int .u64 a) = .returned (.int .u64 b) := by rw [h]
theorem u64_low (a : Nat) (h : a < 18446744073709551616) : bits .and .u64 (a : Int) 1 = ((a % 2 : Nat) : Int) := by
  have := u64_and_nat a 1 h (by decide)
  rw [Nat.and_one_is_mod] at this
  exact this
theorem round_any (u : Nat) (h1 : u < 9223372036854775808) (w : World) : Calls Tryz.prog 155 #[.int .u64 u] w fun e w' => e = .returned (.int .u64 (rnd u)) ∧ w = w' := by
  have b1 : bits .and .u64 ((u : Int) / 4) 1 = ((u : Int) / 4) % 2 := by
    have := u64_low (u / 4) (by omega)
    rw [show ((u : Int) / 4) = ((u / 4 : Nat) : Int) by omega, this]; omega
  have l1 : 0 ≤ ((u : Int) / 4) % 2 ∧ ((u : Int) / 4) % 2 ≤ 1 := by omega
  go_enter Tryz.func155, Tryz.ntmps155
  go_wp2
  go_ret
  exact ⟨ret_u (by unfold rnd; omega), rfl⟩
/-- The table of powers of ten, and what else the reading looks at. -/
def TabP (w : World) : Prop := ∀ i, i < 696 → w.cell? ⟨15, i * 2, none⟩ = some (.int .u64 (thi i)) ∧ w.cell? ⟨15, i * 2 + 1, none⟩ = some (.int .u64 (tlo i))
/-- A scaler. -/
def ScAt (w : World) (b : Nat) (hi lo : Int) (s : Int) : Prop := w.cell? ⟨b, 0, none⟩ = some (.int .u64 hi) ∧ w.cell? ⟨b, 1, none⟩ = some (.int .u64 lo) ∧ w.cell? ⟨b, 2, none⟩ = some (.int .i64 s)
set_option maxHeartbeats 1000000 in
theorem prescale_any (b i : Nat) (e lp : Int) (hi : i < 696) (he : -10000 ≤ e ∧ e ≤ 10000) (hl : -10000 ≤ lp ∧ lp ≤ 10000) (w : World) (x y z : Value) (hT : TabP w) (hb : w.heap[b]? = some (.cells #[x, y, z] 193 (0, 0))) (hb15 : b ≠ 15) :
    Calls Tryz.prog 151 #[.pointer (some ⟨b, 0, none⟩), .int .i64 e, .int .i64 ((i : Int) - 348), .int .i64 lp] w fun r w' => r = .returned (.tuple #[]) ∧ w' = ((w.setCell ⟨b, 0, none⟩ (.int .u64 (thi i))).setCell ⟨b, 1, none⟩ (.int .u64 (tlo i))).setCell ⟨b, 2, none⟩ (.int .i64 (-(e + lp + 3))) := by
  obtain ⟨c1, c2⟩ := hT i hi
  have d0 : w.cell? ⟨b, 0, none⟩ = some x := by simp [World.cell?, hb]
  have d1 : w.cell? ⟨b, 1, none⟩ = some y := by simp [World.cell?, hb]
  have d2 : w.cell? ⟨b, 2, none⟩ = some z := by simp [World.cell?, hb]
  have f0 : w.frozen? ⟨b, 0, none⟩ = false := by simp [World.frozen?, hb]
  have f1 : w.frozen? ⟨b, 1, none⟩ = false := by simp [World.frozen?, hb]
  have f2 : w.frozen? ⟨b, 2, none⟩ = false := by simp [World.frozen?, hb]
  have hb15' : 15 ≠ b := hb15.symm
  have hz : Hid (w.heap[b]? = some (.cells #[x, y, z] 193 (0, 0))) := hb
  have l1 : (0 : Int) ≤ (i : Int) - 348 + 348 := by omega
  have l2 : (i : Int) - 348 + 348 = i := by omega
  have l3 : (i : Int) < 696 := by omega
  clear hb
  go_enter Tryz.func151, Tryz.ntmps151
  go_wp2
  go_end0
  exact ⟨rfl, rfl⟩
theorem i64_and63 (n : Int) : bits .and .i64 n 63 = n % 64 := by
  have h63 : (BitVec.ofInt 64 63).toNat = 2 ^ 6 - 1 := by decide
  have key : (BitVec.ofInt 64 n &&& BitVec.ofInt 64 63).toNat = (n % ((2 ^ 64 : Nat) : Int)).toNat % 2 ^ 6 := by
    rw [BitVec.toNat_and, BitVec.toNat_ofInt, h63, Nat.and_two_pow_sub_one_eq_mod]
  show IntKind.i64.wrap ((BitVec.ofInt 64 n &&& BitVec.ofInt 64 63).toNat : Nat) = n % 64
  rw [key, IntKind.wrap_i64]
  omega
theorem u64_wrap_in (n : Int) (h0 : 0 ≤ n) (h1 : n < 18446744073709551616) : IntKind.u64.wrap n = n := by
  rw [IntKind.wrap_u64]; omega
theorem u64_wrap_neg (n : Int) (h0 : -18446744073709551616 ≤ n) (h1 : n < 0) : IntKind.u64.wrap n = n + 18446744073709551616 := by
  rw [IntKind.wrap_u64]; omega
theorem or1_u64 (a : Nat) (h : a < 18446744073709551616) : bits .or .u64 (a : Int) 1 = ((a ||| 1 : Nat) : Int) := u64_or_nat a 1 h (by decide)
theorem or0_u64 (a : Nat) (h : a < 18446744073709551616) : bits .or .u64 (a : Int) 0 = (a : Int) := by
  have := u64_or_nat a 0 h (by decide)
  rw [Nat.or_zero] at this; exact this
set_option maxRecDepth 100000 in
set_option maxHeartbeats 2000000 in
theorem uscale_any (x hi lo s : Nat) (hx : x < 18446744073709551616) (hh : hi < 18446744073709551616) (hl : lo < 18446744073709551616) (hs : s < 64) (h0 : 0 < x * hi / 18446744073709551616) (b : Nat) (w : World) (hb : ScAt w b hi lo s) (R : Nat) (hR : usc x hi lo s = R) :
    Calls Tryz.prog 152 #[.int .u64 x, .pointer (some ⟨b, 0, none⟩)] w fun r w' => r = .returned (.int .u64 R) ∧ ∃ n, w' = w.drewN n := by
  obtain ⟨c0, c1, c2⟩ := hb
  have b63 : bits .and .i64 (s : Int) 63 = s := by
    rw [i64_and63]; omega
  have q := Tryz.bits_Mul64 x hi hx hh w
  have q2 := Tryz.bits_Mul64 x lo hx hl w
  have hH1 : x * hi / 18446744073709551616 < 18446744073709551616 := (Nat.div_lt_iff_lt_mul (by decide)).2 (Nat.mul_lt_mul'' hx hh)
  have hM1 : x * hi % 18446744073709551616 < 18446744073709551616 := Nat.mod_lt _ (by decide)
  have hM2 : x * lo / 18446744073709551616 ≤ 18446744073709551614 := by
    have : x * lo ≤ 18446744073709551615 * 18446744073709551615 := Nat.mul_le_mul (by omega) (by omega)
    omega
  unfold usc at hR
  dsimp only at hR
  generalize x * hi / 18446744073709551616 = H at *
  generalize x * hi % 18446744073709551616 = m1 at *
  generalize x * lo / 18446744073709551616 = m2 at *
  generalize x * lo % 18446744073709551616 = r2 at *
  have hdm : H / 2 ^ s * 2 ^ s ≤ H := Nat.div_mul_le_self _ _
  have hds : H / 2 ^ s ≤ H := Nat.div_le_self _ _
  have e1 : ((H : Int) / 2 ^ s) = ((H / 2 ^ s : Nat) : Int) := by
    rw [Int.natCast_ediv, Int.natCast_pow]; rfl
  have e2 : IntKind.u64.wrap ((H : Int) / 2 ^ s * 2 ^ s) = ((H / 2 ^ s * 2 ^ s : Nat) : Int) := by
    rw [e1, ← (by rw [Int.natCast_mul, Int.natCast_pow]; rfl : ((H / 2 ^ s * 2 ^ s : Nat) : Int) = ((H / 2 ^ s : Nat) : Int) * 2 ^ s)]
    exact u64_wrap_in _ (by omega) (by omega)
  obtain ⟨Y, hY⟩ : ∃ Y, Y = H / 2 ^ s * 2 ^ s := ⟨_, rfl⟩
  rw [← hY] at e2 hdm
  replace q := Lib.hid q
  replace q2 := Lib.hid q2
  by_cases g : H % 2 ^ s ≠ 0
  · rw [if_pos g] at hR
    have hne : Y ≠ H := by
      intro e
      have := Nat.div_add_mod H (2 ^ s)
      rw [Nat.mul_comm] at this; omega
    have t1 : ((Y : Int) != (H : Int)) = true := by rw [bne_iff_ne]; omega
    have t2 : bits .or .u64 ((H : Int) / 2 ^ s) 1 = R := by rw [e1, or1_u64 _ (by omega), hR]
    clear hR g e1 hY hne
    go_enter Tryz.func152, Tryz.ntmps152
    go_wp2_with fail
    refine (q.out).mono ?_; rintro r w1 ⟨rfl, rfl⟩
    go_wp2_with fail
    go_ret
    exact ⟨rfl, 0, rfl⟩
  · rw [if_neg g] at hR
    have hYH : Y = H := by
      have := Nat.div_add_mod H (2 ^ s)
      rw [Nat.mul_comm] at this; omega
    have t1 : ((H : Int) != (H : Int)) = false := by simp
    rw [hYH] at e2
    clear hY hYH hdm g
    by_cases g2 : m1 < m2
    · rw [if_pos g2] at hR
      have t2 : decide (m1 < m2) = true := decide_eq_true g2
      have e3 : IntKind.u64.wrap ((m1 : Int) - m2) = (m1 : Int) - m2 + 18446744073709551616 := u64_wrap_neg _ (by omega) (by omega)
      have e4 : IntKind.u64.wrap ((H : Int) - 1) = ((H - 1 : Nat) : Int) := by rw [u64_wrap_in _ (by omega) (by omega)]; omega
      have t3 : decide (1 < (m1 : Int) - m2 + 18446744073709551616) = true := decide_eq_true (by omega)
      have hds2 : (H - 1) / 2 ^ s ≤ H - 1 := Nat.div_le_self _ _
      have t4 : bits .or .u64 (((H - 1 : Nat) : Int) / 2 ^ s) 1 = R := by
        rw [show (((H - 1 : Nat) : Int) / 2 ^ s) = (((H - 1) / 2 ^ s : Nat) : Int) by rw [Int.natCast_ediv, Int.natCast_pow]; rfl, or1_u64 _ (by omega), hR]
      generalize H - 1 = G at *
      clear hR e1 g2
      go_enter Tryz.func152, Tryz.ntmps152
      go_wp2_with fail
      refine (q.out).mono ?_; rintro r w1 ⟨rfl, rfl⟩
      go_wp2_with fail
      refine (q2.out).mono ?_; rintro r w1 ⟨rfl, rfl⟩
      go_wp2_with fail
      refine (bool2_any true _).mono ?_; rintro r w1 ⟨rfl, rfl⟩
      go_upto_region 7 with (fail)
      go_quiet ((go_at_call 139; exact Calls.quiet_of_same (bool2_q _ _)))
      go_wp2_with fail
      go_ret
      exact ⟨rfl, _, rfl⟩
    · rw [if_neg g2] at hR
      have t2 : decide (m1 < m2) = false := decide_eq_false g2
      have e3 : IntKind.u64.wrap ((m1 : Int) - m2) = ((m1 - m2 : Nat) : Int) := by rw [u64_wrap_in _ (by omega) (by omega)]; omega
      have e4 : IntKind.u64.wrap ((H : Int) - 0) = (H : Int) := by rw [u64_wrap_in _ (by omega) (by omega)]; omega
      by_cases g3 : 1 < m1 - m2
      · rw [if_pos g3] at hR
        have t3 : decide (1 < m1 - m2) = true := decide_eq_true g3
        have t3' : decide (1 < ((m1 - m2 : Nat) : Int)) = true := decide_eq_true (by omega)
        have t4 : bits .or .u64 ((H : Int) / 2 ^ s) 1 = R := by rw [e1, or1_u64 _ (by omega), hR]
        generalize m1 - m2 = D at *
        clear hR e1 g2 g3
        go_enter Tryz.func152, Tryz.ntmps152
        go_wp2_with fail
        refine (q.out).mono ?_; rintro r w1 ⟨rfl, rfl⟩
        go_wp2_with fail
        refine (q2.out).mono ?_; rintro r w1 ⟨rfl, rfl⟩
        go_wp2_with fail
        refine (bool2_any false _).mono ?_; rintro r w1 ⟨rfl, rfl⟩
        go_upto_region 7 with (fail)
        go_quiet ((go_at_call 139; exact Calls.quiet_of_same (bool2_q _ _)))
        go_wp2_with fail
        go_ret
        exact ⟨rfl, _, rfl⟩
      · rw [if_neg g3] at hR
        have t3 : decide (1 < m1 - m2) = false := decide_eq_false g3
        have t3' : decide (1 < ((m1 - m2 : Nat) : Int)) = false := decide_eq_false (by omega)
        have t4 : bits .or .u64 ((H : Int) / 2 ^ s) 0 = R := by rw [e1, or0_u64 _ (by omega), hR]
        generalize m1 - m2 = D at *
        clear hR e1 g2 g3
        go_enter Tryz.func152, Tryz.ntmps152
        go_wp2_with fail
        refine (q.out).mono ?_; rintro r w1 ⟨rfl, rfl⟩
        go_wp2_with fail
        refine (q2.out).mono ?_; rintro r w1 ⟨rfl, rfl⟩
        go_wp2_with fail
        refine (bool2_any false _).mono ?_; rintro r w1 ⟨rfl, rfl⟩
        go_upto_region 7 with (fail)
        go_quiet ((go_at_call 139; exact Calls.quiet_of_same (bool2_q _ _)))
        go_wp2_with fail
        go_ret
        exact ⟨rfl, _, rfl⟩
end Go.Proofs.YtaidemghhagniaaGreatDoor
