/- The contracts of pack64 and of parseFloat64. -/
import Derived.Test.YtaidemghhagniaaGreatDoorD1
import Derived.Test.YtaidemghhagniaaGreatDoorD2
import Derived.Laws.Externs
namespace Go.Proofs.YtaidemghhagniaaGreatDoor
open Go Go.RowKit
set_option linter.unusedVariables false
theorem fb64 (n : Int) (w : World) : (callFunc 140 #[.int .u64 n]).run Tryz.prog w = .ok (.value (.float .f64 n.toNat)) w := by
  rw [run_callFunc_extern (e := Extern.MathFloatBits.float64frombits) Tryz.func140 (by kernel_rfl) (by kernel_rfl) (by kernel_rfl) (by kernel_rfl)]
  rfl
def errV (inf : Bool) : Value := if inf then .iface 125 (.int .i64 1) else .nilIface
/-- What pack64 and parseFloat64 return of a sign and a rung. -/
def PkRet (sg r : Nat) (w : World) (x : Ending) (w' : World) : Prop := x = .returned (.tuple #[.float .f64 (sg + r), errV (decide (r = INF))]) ∧ ∃ n, w' = w.drewN n
theorem ret2_f {a b : Nat} {x y : Value} (h : a = b) (h2 : x = y) : Ending.returned (.tuple #[.float .f64 a, x]) = .returned (.tuple #[.float .f64 b, y]) := by rw [h, h2]
theorem pk_wrap (k : Nat) (h : k < 2048) : IntKind.u64.wrap (k : Int) = k ∧ IntKind.u64.wrap ((k : Int) * 4503599627370496) = ((k * 4503599627370496 : Nat) : Int) :=
  ⟨u64_wrap_in _ (by omega) (by omega), by rw [u64_wrap_in _ (by omega) (by omega)]; omega⟩
theorem pk_min (m k : Nat) (e : Int) (hm : m < 9007199254740992) (g : 4503599627370496 ≤ m) (hk : 1075 + e = k) (g2 : ¬ 972 ≤ e) (he : -1074 ≤ e) : min (m + (1074 + e).toNat * 4503599627370496) INF = m + (k - 1) * 4503599627370496 ∧ m + (k - 1) * 4503599627370496 ≠ INF := by
  have h1 : (1074 + e).toNat = k - 1 := by omega
  rw [h1]; unfold INF
  have h2 : k - 1 ≤ 2045 := by omega
  omega
theorem pk_or (sg m k : Nat) (hs : sg = 0 ∨ sg = 9223372036854775808) (hm : m < 9007199254740992) (g : 4503599627370496 ≤ m) (hk : 1 ≤ k) (hk2 : k < 2048) :
    bits .or .u64 ((sg + (m - 4503599627370496) : Nat) : Int) ((k * 4503599627370496 : Nat) : Int) = ((sg + (m + (k - 1) * 4503599627370496) : Nat) : Int) := by
  have := u64_or_nat (sg + (m - 4503599627370496)) (k * 4503599627370496) (by omega) (by omega)
  rw [or_exp sg _ k hs (by omega) (by omega)] at this
  rw [this]
  have : k * 4503599627370496 = (k - 1) * 4503599627370496 + 4503599627370496 := by rw [← Nat.succ_mul]; congr 1; omega
  omega
set_option maxRecDepth 100000 in
set_option maxHeartbeats 1000000 in
theorem pack_any (sg m : Nat) (e : Int) (hs : sg = 0 ∨ sg = 9223372036854775808) (hm : m < 9007199254740992) (he : -1074 ≤ e) (he2 : e ≤ 2000) (hlow : m < 4503599627370496 → e = -1074) (w : World) :
    Calls Tryz.prog 158 #[.int .u64 ((sg + m : Nat) : Int), .int .i64 e] w fun x w' => x = .returned (.tuple #[.float .f64 (sg + min (m + (1074 + e).toNat * 4503599627370496) INF), errV (decide (min (m + (1074 + e).toNat * 4503599627370496) INF = INF))]) ∧ w = w' := by
  have f1 := fb64
  have a1 := and_52 sg m hs hm
  have b1 : bits .and .u64 ((sg + m : Nat) : Int) 4503599627370496 = (((sg + m) &&& 4503599627370496 : Nat) : Int) := u64_and_nat (sg + m) 4503599627370496 (by omega) (by decide)
  rw [a1] at b1
  by_cases g : 4503599627370496 ≤ m
  · rw [if_pos g] at b1
    by_cases g2 : 972 ≤ e
    · have a2 := and_63 sg m hs (by omega)
      have b2 : bits .and .u64 ((sg + m : Nat) : Int) 9223372036854775808 = (sg : Int) := by
        have := u64_and_nat (sg + m) 9223372036854775808 (by omega) (by decide)
        rw [a2] at this; exact this
      have b3 : bits .or .u64 (sg : Int) 9218868437227405312 = ((sg + 9218868437227405312 : Nat) : Int) := by
        have := u64_or_nat sg 9218868437227405312 (by omega) (by decide)
        rw [or_sign sg _ hs (by omega)] at this; exact this
      have t1 : decide (972 ≤ e) = true := decide_eq_true g2
      have hmin : min (m + (1074 + e).toNat * 4503599627370496) INF = INF := by unfold INF; omega
      obtain ⟨N, hN⟩ : ∃ N, N = sg + m := ⟨_, rfl⟩
      obtain ⟨N2, hN2⟩ : ∃ N, N = sg + 9218868437227405312 := ⟨_, rfl⟩
      rw [← hN] at b1 b2 ⊢
      rw [← hN2] at b3
      rw [hmin, show sg + INF = N2 from hN2.symm, show errV (decide (INF = INF)) = .iface 125 (.int .i64 1) by rw [decide_eq_true rfl]; rfl]
      clear hmin a1 a2 g hs hlow hm
      clear hN hN2
      go_enter Tryz.func158, Tryz.ntmps158
      go_wp2_with fail
      go_ret2
      exact ⟨rfl, rfl⟩
    · have a2 := andNot_52 sg m hs hm g
      obtain ⟨k, hk⟩ : ∃ k : Nat, 1075 + e = k := ⟨(1075 + e).toNat, by omega⟩
      have hk1 : 1 ≤ k ∧ k < 2048 := by omega
      have b2 : bits .andNot .u64 ((sg + m : Nat) : Int) 4503599627370496 = ((sg + (m - 4503599627370496) : Nat) : Int) := by
        have := u64_andNot_nat (sg + m) 4503599627370496 (by omega) (by decide)
        rw [a2, show sg + m - 4503599627370496 = sg + (m - 4503599627370496) by omega] at this; exact this
      have b3 := pk_or sg m k hs hm g hk1.1 hk1.2
      obtain ⟨e3, e4⟩ := pk_wrap k hk1.2
      obtain ⟨hmin, hni⟩ := pk_min m k e hm g hk g2 he
      have t1 : decide (972 ≤ e) = false := decide_eq_false g2
      obtain ⟨r, hr⟩ : ∃ r, r = m + (k - 1) * 4503599627370496 := ⟨_, rfl⟩
      rw [hmin, decide_eq_false hni, show errV false = .nilIface from rfl, ← hr]
      rw [← hr] at b3
      clear hni hmin hr
      obtain ⟨N, hN⟩ : ∃ N, N = sg + m := ⟨_, rfl⟩
      obtain ⟨N2, hN2⟩ : ∃ N, N = sg + (m - 4503599627370496) := ⟨_, rfl⟩
      obtain ⟨N3, hN3⟩ : ∃ N, N = sg + r := ⟨_, rfl⟩
      obtain ⟨N4, hN4⟩ : ∃ N, N = k * 4503599627370496 := ⟨_, rfl⟩
      rw [← hN] at b1 b2 ⊢
      rw [← hN2] at b2 b3
      rw [← hN3] at b3 ⊢
      rw [← hN4] at b3 e4
      clear a1 a2 g hs hlow hm hN hN2 hN3 hN4 g2
      go_enter Tryz.func158, Tryz.ntmps158
      go_wp2_with fail
      go_ret2
      exact ⟨rfl, rfl⟩
  · rw [if_neg g] at b1
    have he0 := hlow (by omega)
    have hmin : min (m + (1074 + e).toNat * 4503599627370496) INF = m := by unfold INF; omega
    have hni : decide (m = INF) = false := by apply decide_eq_false; unfold INF; omega
    rw [hmin, hni, show errV false = .nilIface from rfl]
    generalize sg + m = N at *
    clear hmin hni a1 g hs hlow hm
    go_enter Tryz.func158, Tryz.ntmps158
    go_wp2_with fail
    go_ret2
    exact ⟨rfl, rfl⟩
end Go.Proofs.YtaidemghhagniaaGreatDoor
