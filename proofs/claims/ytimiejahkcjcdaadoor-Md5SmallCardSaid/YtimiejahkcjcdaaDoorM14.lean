/- Read. -/
import Derived.Test.YtimiejahkcjcdaaDoorM13
namespace Go.Proofs.YtimiejahkcjcdaaDoor
open Go.RowKit

/-- A digit's value; 16: none. -/
def vx (c : UInt8) : Nat := if 48 ≤ c.toNat ∧ c.toNat ≤ 57 then c.toNat - 48 else if 97 ≤ c.toNat ∧ c.toNat ≤ 102 then c.toNat - 87 else 16
theorem vx_ix0 : ∀ n, n < 256 → Lib.indexByte [48, 49, 50, 51, 52, 53, 54, 55, 56, 57, 97, 98, 99, 100, 101, 102] (UInt8.ofNat n) = if vx (UInt8.ofNat n) < 16 then ((vx (UInt8.ofNat n) : Nat) : Int) else -1 := by decide +kernel
theorem vx_ix (c : UInt8) : Lib.indexByte [48, 49, 50, 51, 52, 53, 54, 55, 56, 57, 97, 98, 99, 100, 101, 102] c = if vx c < 16 then ((vx c : Nat) : Int) else -1 := by
  have := vx_ix0 c.toNat c.toNat_lt
  rwa [UInt8.ofNat_toNat] at this
/-- The i-th byte of a string; 0 where there is none. -/
def sb (s : ByteArray) (i : Nat) : UInt8 := if h : i < s.size then s[i] else 0
theorem sb_eq (s : ByteArray) (i : Nat) (h : i < s.size) : s[i] = sb s i := by simp [sb, h]
/-- The bytes after k digits. -/
def rdk (s : ByteArray) : Nat → Nat → UInt8
  | 0 => fun _ => 0
  | k + 1 => fun j => if j = k / 2 then UInt8.ofNat ((rdk s k (k / 2)).toNat * 16 % 256 + vx (sb s k)) else rdk s k j
def okk (s : ByteArray) : Nat → Bool
  | 0 => true
  | k + 1 => okk s k && decide (vx (sb s k) < 16)
theorem ib_to (s : ByteArray) (k : Nat) (h : k < s.size) (w : World) :
    Calls Tryd.prog 42 #[.string HEX, .int .u8 (s[k].toNat : Int)] w fun e w' => e = .returned (.int .i64 (if vx (sb s k) < 16 then ((vx (sb s k) : Nat) : Int) else -1)) ∧ w = w' := by
  refine (Tryd.strings_IndexByte HEX (s[k].toNat : Int) w).mono ?_
  rintro e w' ⟨rfl, rfl⟩
  refine ⟨?_, rfl⟩
  rw [show ((s[k].toNat : Int).toNat.toUInt8) = sb s k by rw [sb_eq s k h]; simp, ← vx_ix]
  rfl
theorem or8 : ∀ a b : Nat, b < 16 → a % 16 = 0 → a < 256 → bits .or .u8 (a : Int) (b : Int) = ((a + b : Nat) : Int) := by
  intro a b hb ha h
  show IntKind.u8.wrap ((BitVec.ofInt 8 (a : Int) ||| BitVec.ofInt 8 (b : Int)).toNat : Int) = _
  rw [BitVec.ofInt_natCast, BitVec.ofInt_natCast, BitVec.toNat_or, BitVec.toNat_ofNat, BitVec.toNat_ofNat, Nat.mod_eq_of_lt (show a < 2 ^ 8 by omega), Nat.mod_eq_of_lt (show b < 2 ^ 8 by omega)]
  have h1 : a ||| b = a + b := by
    have h2 := Nat.shiftLeft_add_eq_or_of_lt (show b < 2 ^ 4 by omega) (a / 16)
    have h3 : (a / 16) <<< 4 = a := by rw [Nat.shiftLeft_eq]; omega
    rw [h3] at h2
    exact h2.symm
  rw [h1, IntKind.wrap_u8]
  omega
set_option maxRecDepth 100000 in
set_option maxHeartbeats 1000000 in
theorem read_short (s : ByteArray) (_hs : s.size ≤ 4611686018427387904) (h : s.size ≠ 32) (w : World) :
    Calls Tryd.prog 23 #[.string s] w fun e w' => e = .returned (.tuple #[dgv (fun _ => 0), .int .i64 30]) ∧ Below w.heap.size w w' := by
  have t1 : ((s.size : Int) != 32) = true := by simp; omega
  go_enter Tryd.func23, Tryd.ntmps23
  go_wp2_with fail
  exact bodyPost_ret (v := .tuple #[.agg #[.int .u8 0, .int .u8 0, .int .u8 0, .int .u8 0, .int .u8 0, .int .u8 0, .int .u8 0, .int .u8 0, .int .u8 0, .int .u8 0, .int .u8 0, .int .u8 0, .int .u8 0, .int .u8 0, .int .u8 0, .int .u8 0], .int .i64 30]) (by simp [results, Tryd.results23, go_sem]) rfl ⟨rfl, ((Below.refl _ w).alloc (Nat.le_refl _) (z16 34)).alloc (by simp) (z16 34)⟩
theorem rd_or (y : UInt8) (x : Nat) (hx : x < 16) : bits .or .u8 ((y.toNat : Int) * 16 % 256) (x : Int) = ((UInt8.ofNat (y.toNat * 16 % 256 + x)).toNat : Int) := by
  have := or8 (y.toNat * 16 % 256) x hx (by omega) (by omega)
  rw [show ((y.toNat : Int) * 16 % 256) = ((y.toNat * 16 % 256 : Nat) : Int) by omega, this, UInt8.toNat_ofNat']
  omega
/-- What Read leaves. -/
def rdE (s : ByteArray) : Nat → UInt8 := if s.size = 32 ∧ okk s 32 = true then rdk s 32 else fun _ => 0
def rdN (s : ByteArray) : Int := if s.size = 32 ∧ okk s 32 = true then 0 else 30
theorem okk_mono (s : ByteArray) : ∀ m k, k ≤ m → okk s m = true → okk s k = true
  | 0, k, h, e => by obtain rfl : k = 0 := by omega
                     exact e
  | m + 1, k, h, e => by
    rcases Nat.lt_or_ge m k with h' | h'
    · obtain rfl : k = m + 1 := by omega
      exact e
    · rw [okk, Bool.and_eq_true] at e
      exact okk_mono s m k h' e.1
end Go.Proofs.YtimiejahkcjcdaaDoor
