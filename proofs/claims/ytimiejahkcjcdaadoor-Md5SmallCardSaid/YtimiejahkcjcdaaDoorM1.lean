/- Words of 32 bits as numbers of the model: laws of arithmetic; no condition. -/
import Derived.WalkKit
namespace Go.Proofs.YtimiejahkcjcdaaDoor
open Go.RowKit
set_option linter.unusedSimpArgs false

/-- A word of 32 bits as the model's number. -/
def U (x : BitVec 32) : Int := (x.toNat : Int)
theorem U_eq (x : BitVec 32) : U x = (x.toNat : Int) := rfl
theorem U_lo (x : BitVec 32) : 0 ≤ U x := Int.natCast_nonneg _
theorem U_hi (x : BitVec 32) : U x < 4294967296 := by unfold U; have := x.isLt; omega
theorem U_inj {x y : BitVec 32} : U x = U y ↔ x = y := by
  unfold U; constructor
  · intro h; exact BitVec.eq_of_toNat_eq (by omega)
  · rintro rfl; rfl
theorem U_beq (x y : BitVec 32) : (U x == U y) = (x == y) := by
  rw [Bool.eq_iff_iff]; simp [U_inj]
theorem U_bne (x y : BitVec 32) : (U x != U y) = (x != y) := by
  simp [bne, U_beq]
theorem U_wf (x : BitVec 32) : (Lit.int .u32 (U x)).wf = true := WalkArith.wf_u32 (by have := U_lo x; have := U_hi x; omega)
theorem U_of (n : Int) (h : 0 ≤ n) (h' : n < 4294967296) : n = U (BitVec.ofNat 32 n.toNat) := by
  unfold U; rw [BitVec.toNat_ofNat]; rw [Nat.mod_eq_of_lt (by omega)]; omega
theorem U_ex (n : Int) (h : (Lit.int .u32 n).wf = true) : ∃ x : BitVec 32, n = U x := by
  have h' : 0 ≤ n ∧ n ≤ 4294967295 := by simpa [Lit.wf, IntKind.min, IntKind.max, IntKind.signed, IntKind.bits] using h
  exact ⟨_, U_of n (by omega) (by omega)⟩
theorem U_wrap (n : Int) : IntKind.u32.wrap n = U (BitVec.ofInt 32 n) := by
  rw [IntKind.wrap_u32, U, BitVec.toNat_ofInt]
  have : (0 : Int) ≤ n % 4294967296 := by omega
  show n % 4294967296 = ((n % 4294967296).toNat : Int)
  omega
theorem ofInt_U (x : BitVec 32) : BitVec.ofInt 32 (U x) = x := by
  rw [U, BitVec.ofInt_natCast, BitVec.ofNat_toNat, BitVec.setWidth_eq]
theorem U_same (x : BitVec 32) : IntKind.u32.wrap (x.toNat : Int) = U x := by rw [U_wrap, ← U_eq, ofInt_U]
@[go_sem] theorem U_wrapU (x : BitVec 32) : IntKind.u32.wrap (U x) = U x := by rw [U_wrap, ofInt_U]
@[go_sem] theorem U_add (x y : BitVec 32) : IntKind.u32.wrap (U x + U y) = U (x + y) := by rw [U_wrap, BitVec.ofInt_add, ofInt_U, ofInt_U]
@[go_sem] theorem U_mul (x y : BitVec 32) : IntKind.u32.wrap (U x * U y) = U (x * y) := by rw [U_wrap, BitVec.ofInt_mul, ofInt_U, ofInt_U]
@[go_sem] theorem U_sub (x y : BitVec 32) : IntKind.u32.wrap (U x - U y) = U (x - y) := by
  rw [U_wrap, Int.sub_eq_add_neg, BitVec.ofInt_add, BitVec.ofInt_neg, ofInt_U, ofInt_U, BitVec.sub_eq_add_neg]
@[go_sem] theorem U_xor (x y : BitVec 32) : bits .xor .u32 (U x) (U y) = U (x ^^^ y) := by
  show IntKind.u32.wrap ((BitVec.ofInt 32 (U x) ^^^ BitVec.ofInt 32 (U y)).toNat : Int) = _
  rw [ofInt_U, ofInt_U, U_same]
@[go_sem] theorem U_and (x y : BitVec 32) : bits .and .u32 (U x) (U y) = U (x &&& y) := by
  show IntKind.u32.wrap ((BitVec.ofInt 32 (U x) &&& BitVec.ofInt 32 (U y)).toNat : Int) = _
  rw [ofInt_U, ofInt_U, U_same]
@[go_sem] theorem U_or (x y : BitVec 32) : bits .or .u32 (U x) (U y) = U (x ||| y) := by
  show IntKind.u32.wrap ((BitVec.ofInt 32 (U x) ||| BitVec.ofInt 32 (U y)).toNat : Int) = _
  rw [ofInt_U, ofInt_U, U_same]
theorem U_lit (n : Nat) (h : n < 4294967296) : (no_index (OfNat.ofNat n) : Int) = U (BitVec.ofNat 32 n) := by
  unfold U; rw [BitVec.toNat_ofNat, Nat.mod_eq_of_lt (by simpa using h)]; rfl
theorem ofInt_lit (n : Nat) : BitVec.ofInt 32 (no_index (OfNat.ofNat n) : Int) = BitVec.ofNat 32 n := by
  show BitVec.ofInt 32 ((n : Nat) : Int) = _
  rw [BitVec.ofInt_natCast]
@[go_sem] theorem U_mul_lit (x : BitVec 32) (n : Nat) : IntKind.u32.wrap (U x * (no_index (OfNat.ofNat n) : Int)) = U (x * BitVec.ofNat 32 n) := by
  rw [U_wrap, BitVec.ofInt_mul, ofInt_U, ofInt_lit]
@[go_sem] theorem U_lit_mul (x : BitVec 32) (n : Nat) : IntKind.u32.wrap ((no_index (OfNat.ofNat n) : Int) * U x) = U (BitVec.ofNat 32 n * x) := by
  rw [U_wrap, BitVec.ofInt_mul, ofInt_U, ofInt_lit]
@[go_sem] theorem U_add_lit (x : BitVec 32) (n : Nat) : IntKind.u32.wrap (U x + (no_index (OfNat.ofNat n) : Int)) = U (x + BitVec.ofNat 32 n) := by
  rw [U_wrap, BitVec.ofInt_add, ofInt_U, ofInt_lit]
@[go_sem] theorem U_lit_add (x : BitVec 32) (n : Nat) : IntKind.u32.wrap ((no_index (OfNat.ofNat n) : Int) + U x) = U (BitVec.ofNat 32 n + x) := by
  rw [U_wrap, BitVec.ofInt_add, ofInt_U, ofInt_lit]
@[go_sem] theorem U_lit_sub (x : BitVec 32) (n : Nat) : IntKind.u32.wrap ((no_index (OfNat.ofNat n) : Int) - U x) = U (BitVec.ofNat 32 n - x) := by
  rw [U_wrap, Int.sub_eq_add_neg, BitVec.ofInt_add, BitVec.ofInt_neg, ofInt_U, ofInt_lit, BitVec.sub_eq_add_neg]
@[go_sem] theorem U_sub_lit (x : BitVec 32) (n : Nat) : IntKind.u32.wrap (U x - (no_index (OfNat.ofNat n) : Int)) = U (x - BitVec.ofNat 32 n) := by
  rw [U_wrap, Int.sub_eq_add_neg, BitVec.ofInt_add, BitVec.ofInt_neg, ofInt_U, ofInt_lit, BitVec.sub_eq_add_neg]
@[go_sem] theorem U_tmod (x y : BitVec 32) : (U x).tmod (U y) = U (x % y) := by
  rw [Int.tmod_eq_emod_of_nonneg (U_lo x)]; unfold U; rw [BitVec.toNat_umod]; rfl
@[go_sem] theorem U_tmod_lit (x : BitVec 32) (n : Nat) (h : n < 4294967296) : (U x).tmod (no_index (OfNat.ofNat n) : Int) = U (x % BitVec.ofNat 32 n) := by
  rw [U_lit n h, U_tmod]
theorem U_tdiv (x y : BitVec 32) : (U x).tdiv (U y) = U (x / y) := by
  rw [Int.tdiv_eq_ediv_of_nonneg (U_lo x)]; unfold U; rw [BitVec.toNat_udiv]; rfl
@[go_sem] theorem U_quo (x y : BitVec 32) : IntKind.u32.wrap ((U x).tdiv (U y)) = U (x / y) := by rw [U_tdiv, U_wrapU]
@[go_sem] theorem U_quo_lit (x : BitVec 32) (n : Nat) (h : n < 4294967296) : IntKind.u32.wrap ((U x).tdiv (no_index (OfNat.ofNat n) : Int)) = U (x / BitVec.ofNat 32 n) := by
  rw [U_lit n h, U_tdiv, U_wrapU]
theorem U_and_lit (x : BitVec 32) (n : Nat) : bits .and .u32 (U x) (no_index (OfNat.ofNat n) : Int) = U (x &&& BitVec.ofNat 32 n) := by
  show IntKind.u32.wrap ((BitVec.ofInt 32 (U x) &&& BitVec.ofInt 32 (no_index (OfNat.ofNat n) : Int)).toNat : Int) = _
  rw [ofInt_U, ofInt_lit, U_same]
theorem U_or_lit (x : BitVec 32) (n : Nat) : bits .or .u32 (U x) (no_index (OfNat.ofNat n) : Int) = U (x ||| BitVec.ofNat 32 n) := by
  show IntKind.u32.wrap ((BitVec.ofInt 32 (U x) ||| BitVec.ofInt 32 (no_index (OfNat.ofNat n) : Int)).toNat : Int) = _
  rw [ofInt_U, ofInt_lit, U_same]
attribute [go_sem] U_and_lit U_or_lit
theorem bounds_byte (c : UInt8) : c.toNat < 256 := c.toNat_lt
/-- A byte as a word of 32 bits. -/
def zx (c : UInt8) : BitVec 32 := c.toBitVec.setWidth 32
@[go_sem] theorem U_of_byte (c : UInt8) : IntKind.u32.wrap (c.toNat : Int) = U (zx c) := by
  have := c.toNat_lt
  rw [IntKind.wrap_u32, U, zx, BitVec.toNat_setWidth, UInt8.toNat_toBitVec]; omega
@[go_sem] theorem u32_signed : IntKind.u32.signed = false := rfl
@[go_sem] theorem U_not (x : BitVec 32) : bits .xor .u32 IntKind.u32.max (U x) = U (~~~x) := by
  show IntKind.u32.wrap ((BitVec.ofInt 32 IntKind.u32.max ^^^ BitVec.ofInt 32 (U x)).toNat : Int) = _
  rw [ofInt_U, U_same, show BitVec.ofInt 32 IntKind.u32.max = BitVec.allOnes 32 by decide, BitVec.allOnes_xor]
@[go_sem] theorem U_shl (x : BitVec 32) (n : Nat) : IntKind.u32.wrap (U x * 2 ^ n) = U (x <<< n) := by
  rw [IntKind.wrap_u32]
  unfold U
  rw [BitVec.toNat_shiftLeft, Nat.shiftLeft_eq]
  show (x.toNat : Int) * 2 ^ n % 4294967296 = ((x.toNat * 2 ^ n % 4294967296 : Nat) : Int)
  rw [Int.natCast_emod, Int.natCast_mul, Int.natCast_pow]
  rfl
@[go_sem] theorem U_shr (x : BitVec 32) (n : Nat) : (U x).fdiv (2 ^ n) = U (x >>> n) := by
  have h : (0 : Int) ≤ 2 ^ n := Int.le_of_lt (Int.pow_pos (by decide))
  unfold U
  rw [BitVec.toNat_ushiftRight, Nat.shiftRight_eq_div_pow, Int.fdiv_eq_ediv_of_nonneg _ h, Int.natCast_ediv, Int.natCast_pow]
  rfl
end Go.Proofs.YtimiejahkcjcdaaDoor
