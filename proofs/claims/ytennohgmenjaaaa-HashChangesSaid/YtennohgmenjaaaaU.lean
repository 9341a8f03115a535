/- Words of 64 bits as numbers of the model: laws of arithmetic; no condition. -/
import Derived.WalkKit
namespace Go.Proofs.Ytennohgmenjaaaa
open Go.RowKit

/-- A word of 64 bits as the model's number. -/
def U (x : BitVec 64) : Int := (x.toNat : Int)
theorem U_eq (x : BitVec 64) : U x = (x.toNat : Int) := rfl
theorem U_lo (x : BitVec 64) : 0 ≤ U x := Int.natCast_nonneg _
theorem U_hi (x : BitVec 64) : U x < 18446744073709551616 := by unfold U; have := x.isLt; omega
theorem U_inj {x y : BitVec 64} : U x = U y ↔ x = y := by
  unfold U; constructor
  · intro h; exact BitVec.eq_of_toNat_eq (by omega)
  · rintro rfl; rfl
theorem U_beq (x y : BitVec 64) : (U x == U y) = (x == y) := by
  rw [Bool.eq_iff_iff]; simp [U_inj]
theorem U_bne (x y : BitVec 64) : (U x != U y) = (x != y) := by
  simp [bne, U_beq]
theorem U_wf (x : BitVec 64) : (Lit.int .u64 (U x)).wf = true := WalkArith.wf_u64 (by have := U_lo x; have := U_hi x; omega)
theorem U_of (n : Int) (h : 0 ≤ n) (h' : n < 18446744073709551616) : n = U (BitVec.ofNat 64 n.toNat) := by
  unfold U; rw [BitVec.toNat_ofNat]; rw [Nat.mod_eq_of_lt (by omega)]; omega
theorem U_ex (n : Int) (h : (Lit.int .u64 n).wf = true) : ∃ x : BitVec 64, n = U x := by
  have h' : 0 ≤ n ∧ n ≤ 18446744073709551615 := by simpa [Lit.wf, IntKind.min, IntKind.max, IntKind.signed, IntKind.bits] using h
  exact ⟨_, U_of n (by omega) (by omega)⟩
theorem U_wrap (n : Int) : IntKind.u64.wrap n = U (BitVec.ofInt 64 n) := by
  rw [IntKind.wrap_u64, U, BitVec.toNat_ofInt]
  have : (0 : Int) ≤ n % 18446744073709551616 := by omega
  show n % 18446744073709551616 = ((n % 18446744073709551616).toNat : Int)
  omega
theorem ofInt_U (x : BitVec 64) : BitVec.ofInt 64 (U x) = x := by
  rw [U, BitVec.ofInt_natCast, BitVec.ofNat_toNat, BitVec.setWidth_eq]
theorem U_same (x : BitVec 64) : IntKind.u64.wrap (x.toNat : Int) = U x := by rw [U_wrap, ← U_eq, ofInt_U]
@[go_sem] theorem U_wrapU (x : BitVec 64) : IntKind.u64.wrap (U x) = U x := by rw [U_wrap, ofInt_U]
@[go_sem] theorem U_add (x y : BitVec 64) : IntKind.u64.wrap (U x + U y) = U (x + y) := by rw [U_wrap, BitVec.ofInt_add, ofInt_U, ofInt_U]
@[go_sem] theorem U_mul (x y : BitVec 64) : IntKind.u64.wrap (U x * U y) = U (x * y) := by rw [U_wrap, BitVec.ofInt_mul, ofInt_U, ofInt_U]
@[go_sem] theorem U_sub (x y : BitVec 64) : IntKind.u64.wrap (U x - U y) = U (x - y) := by
  rw [U_wrap, Int.sub_eq_add_neg, BitVec.ofInt_add, BitVec.ofInt_neg, ofInt_U, ofInt_U, BitVec.sub_eq_add_neg]
@[go_sem] theorem U_xor (x y : BitVec 64) : bits .xor .u64 (U x) (U y) = U (x ^^^ y) := by
  show IntKind.u64.wrap ((BitVec.ofInt 64 (U x) ^^^ BitVec.ofInt 64 (U y)).toNat : Int) = _
  rw [ofInt_U, ofInt_U, U_same]
@[go_sem] theorem U_and (x y : BitVec 64) : bits .and .u64 (U x) (U y) = U (x &&& y) := by
  show IntKind.u64.wrap ((BitVec.ofInt 64 (U x) &&& BitVec.ofInt 64 (U y)).toNat : Int) = _
  rw [ofInt_U, ofInt_U, U_same]
@[go_sem] theorem U_or (x y : BitVec 64) : bits .or .u64 (U x) (U y) = U (x ||| y) := by
  show IntKind.u64.wrap ((BitVec.ofInt 64 (U x) ||| BitVec.ofInt 64 (U y)).toNat : Int) = _
  rw [ofInt_U, ofInt_U, U_same]
theorem U_lit (n : Nat) (h : n < 18446744073709551616) : (no_index (OfNat.ofNat n) : Int) = U (BitVec.ofNat 64 n) := by
  unfold U; rw [BitVec.toNat_ofNat, Nat.mod_eq_of_lt (by simpa using h)]; rfl
theorem ofInt_lit (n : Nat) : BitVec.ofInt 64 (no_index (OfNat.ofNat n) : Int) = BitVec.ofNat 64 n := by
  show BitVec.ofInt 64 ((n : Nat) : Int) = _
  rw [BitVec.ofInt_natCast]
@[go_sem] theorem U_mul_lit (x : BitVec 64) (n : Nat) : IntKind.u64.wrap (U x * (no_index (OfNat.ofNat n) : Int)) = U (x * BitVec.ofNat 64 n) := by
  rw [U_wrap, BitVec.ofInt_mul, ofInt_U, ofInt_lit]
@[go_sem] theorem U_lit_mul (x : BitVec 64) (n : Nat) : IntKind.u64.wrap ((no_index (OfNat.ofNat n) : Int) * U x) = U (BitVec.ofNat 64 n * x) := by
  rw [U_wrap, BitVec.ofInt_mul, ofInt_U, ofInt_lit]
@[go_sem] theorem U_add_lit (x : BitVec 64) (n : Nat) : IntKind.u64.wrap (U x + (no_index (OfNat.ofNat n) : Int)) = U (x + BitVec.ofNat 64 n) := by
  rw [U_wrap, BitVec.ofInt_add, ofInt_U, ofInt_lit]
@[go_sem] theorem U_lit_add (x : BitVec 64) (n : Nat) : IntKind.u64.wrap ((no_index (OfNat.ofNat n) : Int) + U x) = U (BitVec.ofNat 64 n + x) := by
  rw [U_wrap, BitVec.ofInt_add, ofInt_U, ofInt_lit]
@[go_sem] theorem U_lit_sub (x : BitVec 64) (n : Nat) : IntKind.u64.wrap ((no_index (OfNat.ofNat n) : Int) - U x) = U (BitVec.ofNat 64 n - x) := by
  rw [U_wrap, Int.sub_eq_add_neg, BitVec.ofInt_add, BitVec.ofInt_neg, ofInt_U, ofInt_lit, BitVec.sub_eq_add_neg]
@[go_sem] theorem U_sub_lit (x : BitVec 64) (n : Nat) : IntKind.u64.wrap (U x - (no_index (OfNat.ofNat n) : Int)) = U (x - BitVec.ofNat 64 n) := by
  rw [U_wrap, Int.sub_eq_add_neg, BitVec.ofInt_add, BitVec.ofInt_neg, ofInt_U, ofInt_lit, BitVec.sub_eq_add_neg]
@[go_sem] theorem U_tmod (x y : BitVec 64) : (U x).tmod (U y) = U (x % y) := by
  rw [Int.tmod_eq_emod_of_nonneg (U_lo x)]; unfold U; rw [BitVec.toNat_umod]; rfl
@[go_sem] theorem U_tmod_lit (x : BitVec 64) (n : Nat) (h : n < 18446744073709551616) : (U x).tmod (no_index (OfNat.ofNat n) : Int) = U (x % BitVec.ofNat 64 n) := by
  rw [U_lit n h, U_tmod]
theorem U_tdiv (x y : BitVec 64) : (U x).tdiv (U y) = U (x / y) := by
  rw [Int.tdiv_eq_ediv_of_nonneg (U_lo x)]; unfold U; rw [BitVec.toNat_udiv]; rfl
@[go_sem] theorem U_quo (x y : BitVec 64) : IntKind.u64.wrap ((U x).tdiv (U y)) = U (x / y) := by rw [U_tdiv, U_wrapU]
@[go_sem] theorem U_quo_lit (x : BitVec 64) (n : Nat) (h : n < 18446744073709551616) : IntKind.u64.wrap ((U x).tdiv (no_index (OfNat.ofNat n) : Int)) = U (x / BitVec.ofNat 64 n) := by
  rw [U_lit n h, U_tdiv, U_wrapU]
theorem U_and_lit (x : BitVec 64) (n : Nat) : bits .and .u64 (U x) (no_index (OfNat.ofNat n) : Int) = U (x &&& BitVec.ofNat 64 n) := by
  show IntKind.u64.wrap ((BitVec.ofInt 64 (U x) &&& BitVec.ofInt 64 (no_index (OfNat.ofNat n) : Int)).toNat : Int) = _
  rw [ofInt_U, ofInt_lit, U_same]
theorem U_or_lit (x : BitVec 64) (n : Nat) : bits .or .u64 (U x) (no_index (OfNat.ofNat n) : Int) = U (x ||| BitVec.ofNat 64 n) := by
  show IntKind.u64.wrap ((BitVec.ofInt 64 (U x) ||| BitVec.ofInt 64 (no_index (OfNat.ofNat n) : Int)).toNat : Int) = _
  rw [ofInt_U, ofInt_lit, U_same]
attribute [go_sem] U_and_lit U_or_lit
theorem bounds_byte (c : UInt8) : c.toNat < 256 := c.toNat_lt
/-- A byte as a word of 64 bits. -/
def zx (c : UInt8) : BitVec 64 := c.toBitVec.setWidth 64
@[go_sem] theorem U_of_byte (c : UInt8) : IntKind.u64.wrap (c.toNat : Int) = U (zx c) := by
  have := c.toNat_lt
  rw [IntKind.wrap_u64, U, zx, BitVec.toNat_setWidth, UInt8.toNat_toBitVec]; omega
end Go.Proofs.Ytennohgmenjaaaa
