/- Word, Modulo. -/
import Derived.Test.YtimiejahkcjcdaaDoorM10
namespace Go.Proofs.YtimiejahkcjcdaaDoor
open Go.RowKit

/-- The number of the last bytes of a digest, k of them taken. -/
def wN (d : Nat → UInt8) : Nat → Nat
  | 0 => 0
  | k + 1 => wN d k * 256 + (d (8 + k)).toNat
def wordF (l : List UInt8) : Nat := wN (sumF l) 8
theorem wN_lt (d : Nat → UInt8) : ∀ k, wN d k < 256 ^ k
  | 0 => by simp [wN]
  | k + 1 => by
    have h := wN_lt d k
    have hx := (d (8 + k)).toNat_lt
    rw [wN, Nat.pow_succ]
    omega
theorem wN_8 (d : Nat → UInt8) (k : Nat) (h : k ≤ 8) : wN d k < 18446744073709551616 :=
  Nat.lt_of_lt_of_le (wN_lt d k) (Nat.le_trans (Nat.pow_le_pow_right (by omega) h) (by decide))
theorem wN_8m (d : Nat → UInt8) (k : Nat) (h : k < 8) : wN d k * 256 < 18446744073709551616 := by
  have h1 := wN_lt d k
  have h2 : 256 ^ k ≤ 256 ^ 7 := Nat.pow_le_pow_right (by omega) (by omega)
  have h3 : (256 : Nat) ^ 7 = 72057594037927936 := by decide
  omega
theorem or_u64 (a b : Nat) (ha : a < 18446744073709551616) (hb : b < 256) (hm : a % 256 = 0) : bits .or .u64 (a : Int) (b : Int) = ((a + b : Nat) : Int) := by
  show IntKind.u64.wrap ((BitVec.ofInt 64 (a : Int) ||| BitVec.ofInt 64 (b : Int)).toNat : Int) = _
  rw [BitVec.ofInt_natCast, BitVec.ofInt_natCast, BitVec.toNat_or, BitVec.toNat_ofNat, BitVec.toNat_ofNat, Nat.mod_eq_of_lt (show a < 2 ^ 64 by omega), Nat.mod_eq_of_lt (show b < 2 ^ 64 by omega)]
  have h1 : a ||| b = a + b := by
    have h2 := Nat.shiftLeft_add_eq_or_of_lt (show b < 2 ^ 8 by omega) (a / 256)
    have h3 : (a / 256) <<< 8 = a := by rw [Nat.shiftLeft_eq]; omega
    rw [h3] at h2
    exact h2.symm
  rw [h1, IntKind.wrap_u64]
  omega
theorem sum_to (a : Option Addr) (n c : Nat) (l : List UInt8) (hl : l.length ≤ 1099511627776) (d : Nat → UInt8) (hd : d = sumF l) (w : World) (hT : Tabs w) (hr : RowB w (.slice a n c) l) :
    Calls Tryd.prog 18 #[.slice a n c] w fun e w' => e = .returned (.agg #[e8 d 0, e8 d 1, e8 d 2, e8 d 3, e8 d 4, e8 d 5, e8 d 6, e8 d 7, e8 d 8, e8 d 9, e8 d 10, e8 d 11, e8 d 12, e8 d 13, e8 d 14, e8 d 15]) ∧ Below w.heap.size w w' := sum_any _ l hl d hd w hT hr
def e16 (d : Nat → UInt8) (t : TypeId) : Obj := .cells #[e8 d 0, e8 d 1, e8 d 2, e8 d 3, e8 d 4, e8 d 5, e8 d 6, e8 d 7, e8 d 8, e8 d 9, e8 d 10, e8 d 11, e8 d 12, e8 d 13, e8 d 14, e8 d 15] t
theorem B16.mk (w : World) (d : Nat → UInt8) (t : TypeId) : B16 (w.alloc (e16 d t)) w.heap.size d := by
  intro i hi
  rcases (show i = 0 ∨ i = 1 ∨ i = 2 ∨ i = 3 ∨ i = 4 ∨ i = 5 ∨ i = 6 ∨ i = 7 ∨ i = 8 ∨ i = 9 ∨ i = 10 ∨ i = 11 ∨ i = 12 ∨ i = 13 ∨ i = 14 ∨ i = 15 by omega) with rfl | rfl | rfl | rfl | rfl | rfl | rfl | rfl | rfl | rfl | rfl | rfl | rfl | rfl | rfl | rfl <;> simp [go_sem, e16]
set_option maxRecDepth 100000 in
set_option maxHeartbeats 1000000 in
theorem word_any (v : Value) (l : List UInt8) (hl : l.length ≤ 1099511627776) (x : Nat) (hx : x = wordF l) (w : World) (hT : Tabs w) (hr : RowB w v l) :
    Calls Tryd.prog 24 #[v] w fun e w' => e = .returned (.int .u64 x) ∧ Below w.heap.size w w' := by
  obtain ⟨a, c, rfl⟩ := rowB_len hr
  obtain ⟨d, hd⟩ : ∃ d, Hid (d = sumF l) := ⟨_, rfl⟩
  have hx' : Hid (x = wN d 8) := by rw [hd.out]; exact hx
  clear hx
  have hcall := Lib.hid (sum_to a l.length c l hl d hd.out w hT hr)
  clear hT hr
  go_enter Tryd.func24, Tryd.ntmps24
  go_wp2_with fail
  refine hcall.out.mono ?_; rintro e w1 ⟨rfl, hb1⟩
  clear hcall
  have z := Lib.hid (B16.mk w1 d 34)
  have hB := Lib.hid (hb1.alloc hb1.size (e16 d 34))
  go_wp2_with fail
  go_loopg [3, 11] 8 (fun g s3 s11 wr => ∃ k : Nat, k + g = 8 ∧ s11 = .int .i64 k ∧ s3 = .int .u64 (wN d k) ∧ wr = w1.alloc (e16 d 34))
  case atStart => exact ⟨0, by omega, rfl, rfl, rfl⟩
  case round =>
    obtain ⟨k, hk, rfl, rfl, rfl⟩ := hrel
    by_cases hlt : k < 8
    · have t1 : decide ((k : Int) < 8) = true := decide_eq_true (by omega)
      have hc := (z.out (8 + k) (by omega)).1
      obtain ⟨X, hX⟩ : ∃ X, Hid (X = wN d k) := ⟨_, rfl⟩
      have hX2 := Lib.hid (wN_8m d k hlt)
      have hX3 := Lib.hid (show wN d (k + 1) = X * 256 + (d (8 + k)).toNat by rw [hX.out]; rfl)
      rw [← hX.out] at hX2 ⊢
      have hX4 : X * 256 < 18446744073709551616 := hX2.out
      go_wp2_with fail
      go_roundg (gk - 1)
      case measure => omega
      case rel =>
        refine ⟨k + 1, by omega, rfl, ?_, rfl⟩
        have hxb := (d (8 + k)).toNat_lt
        have hor := or_u64 (X * 256) (d (8 + k)).toNat hX4 hxb (by omega)
        rw [show IntKind.u64.wrap ((d (8 + k)).toNat : Int) = ((d (8 + k)).toNat : Int) by rw [IntKind.wrap_u64]; omega]
        rw [hX3.out, ← hor]
        rfl
    · obtain rfl : k = 8 := by omega
      go_wp2_with fail
      go_ret
      exact ⟨by rw [hx'.out]; rfl, hB.out⟩
set_option maxHeartbeats 400000 in
theorem modulo_0 (v : Value) (w : World) : Calls Tryd.prog 20 #[v, .int .u64 0] w fun e w' => e = .returned (.tuple #[.int .u64 0, .int .i64 2]) ∧ w = w' := by
  go_enter Tryd.func20, Tryd.ntmps20
  go_wp2_with fail
  go_ret2
  exact ⟨rfl, rfl⟩
set_option maxHeartbeats 400000 in
theorem modulo_any (v : Value) (l : List UInt8) (hl : l.length ≤ 1099511627776) (x n : Nat) (hx : x = wordF l) (hn : 0 < n) (w : World) (hT : Tabs w) (hr : RowB w v l) :
    Calls Tryd.prog 20 #[v, .int .u64 n] w fun e w' => e = .returned (.tuple #[.int .u64 ((x % n : Nat) : Int), .int .i64 0]) ∧ Below w.heap.size w w' := by
  obtain ⟨a, c, rfl⟩ := rowB_len hr
  have hcall := Lib.hid (word_any _ l hl x hx w hT hr)
  have hx64 : x < 18446744073709551616 := by rw [hx]; exact wN_8 _ 8 (Nat.le_refl _)
  have t1 : ((n : Int) == 0) = false := beq_eq_false_iff_ne.2 (by omega)
  have t2 : (n : Int) ≠ 0 := by omega
  have t3 : ((x % n : Nat) : Int) = (x : Int) % n := by omega
  clear hx hT hr
  go_enter Tryd.func20, Tryd.ntmps20
  go_wp2_with fail
  refine hcall.out.mono ?_; rintro e w1 ⟨rfl, hb1⟩
  go_wp2_with fail
  go_ret2
  exact ⟨rfl, hb1⟩
end Go.Proofs.YtimiejahkcjcdaaDoor
