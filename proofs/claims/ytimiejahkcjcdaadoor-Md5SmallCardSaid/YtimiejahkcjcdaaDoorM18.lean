/- The reference: constants, Step. -/
import Derived.Test.YtimiejahkcjcdaaDoorM17
import Derived.StillTailTactics
import Derived.IntWalk
namespace Go.Proofs.YtimiejahkcjcdaaDoor
open Go.RowKit

set_option maxRecDepth 100000 in
set_option maxHeartbeats 1000000 in
theorem kst_any (w : World) : Calls Tryd.prog 46 #[] w fun e w' => e = .returned (.slice (some ⟨w.heap.size, 0, none⟩) 64 64) ∧ w' = w.alloc (.cells KsV 28) := by
  go_enter Tryd.func46, Tryd.ntmps46
  go_wp2_with fail
  go_ret
  exact ⟨rfl, rfl⟩

/-- The words of a block, as the reference takes them. -/
def m4 (l : List UInt8) (j : Nat) : BitVec 32 := zx (l.getD (4 * j) 0) + 256#32 * zx (l.getD (4 * j + 1) 0) + 65536#32 * zx (l.getD (4 * j + 2) 0) + 16777216#32 * zx (l.getD (4 * j + 3) 0)
theorem mw_0 (l : List UInt8) (j : Nat) : ∀ k, k ≤ 4 * j → mw l k j = 0
  | 0, _ => rfl
  | k + 1, h => by rw [mw, if_neg (by omega), mw_0 l j k (by omega)]
theorem mw_4 (l : List UInt8) (j : Nat) : ∀ n, mw l (4 * j + 4 + n) j = mw l (4 * j + 4) j
  | 0 => rfl
  | n + 1 => by rw [← Nat.add_assoc, mw, if_neg (by omega), mw_4 l j n]
theorem zx_nat (x : UInt8) : (zx x).toNat = x.toNat := by
  have := x.toNat_lt
  simp [zx] <;> omega
theorem or_shl (x : BitVec 32) (y : UInt8) (i : Nat) (hi : i ≤ 24) (hx : x.toNat < 2 ^ i) : x ||| zx y <<< i = x + zx y <<< i := by
  apply BitVec.eq_of_toNat_eq
  have hy := y.toNat_lt
  have h1 : y.toNat * 2 ^ i < 2 ^ 32 := by
    have : 2 ^ i ≤ 2 ^ 24 := Nat.pow_le_pow_right (by omega) hi
    calc y.toNat * 2 ^ i ≤ 255 * 2 ^ 24 := Nat.mul_le_mul (by omega) this
      _ < 2 ^ 32 := by decide
  have h2 : 2 ^ i + y.toNat * 2 ^ i ≤ 2 ^ 32 := by
    have : 2 ^ i ≤ 2 ^ 24 := Nat.pow_le_pow_right (by omega) hi
    have h3 : (y.toNat + 1) * 2 ^ i ≤ 256 * 2 ^ 24 := Nat.mul_le_mul (by omega) this
    rw [Nat.add_mul] at h3
    have : 256 * 2 ^ 24 = 2 ^ 32 := by decide
    omega
  rw [BitVec.toNat_or, BitVec.toNat_add, BitVec.toNat_shiftLeft, zx_nat, Nat.shiftLeft_eq, Nat.mod_eq_of_lt h1, Nat.mod_eq_of_lt (by omega)]
  have := Nat.shiftLeft_add_eq_or_of_lt hx y.toNat
  rw [Nat.shiftLeft_eq] at this
  rw [Nat.or_comm, ← this, Nat.add_comm]
theorem m4_eq (l : List UInt8) (j : Nat) (h : j < 16) : mw l 64 j = m4 l j := by
  rw [show 64 = 4 * j + 4 + (60 - 4 * j) by omega, mw_4]
  rw [mw, if_pos (by omega), mw, if_pos (by omega), mw, if_pos (by omega), mw, if_pos (by omega), mw_0 l j _ (Nat.le_refl _)]
  rw [show 4 * j % 4 * 8 = 0 by omega, show (4 * j + 1) % 4 * 8 = 8 by omega, show (4 * j + 2) % 4 * 8 = 16 by omega, show (4 * j + 3) % 4 * 8 = 24 by omega]
  rw [m4]
  generalize l.getD (4 * j) 0 = a, l.getD (4 * j + 1) 0 = b, l.getD (4 * j + 2) 0 = c, l.getD (4 * j + 3) 0 = d
  have e0 : (0 : BitVec 32) ||| zx a <<< 0 = zx a := by simp
  have ha := a.toNat_lt
  have hb := b.toNat_lt
  have hc := c.toNat_lt
  rw [e0, or_shl _ b 8 (by omega) (by rw [zx_nat]; omega)]
  have n1 : (zx a + zx b <<< 8).toNat = a.toNat + b.toNat * 256 := by
    rw [BitVec.toNat_add, BitVec.toNat_shiftLeft, zx_nat, zx_nat, Nat.shiftLeft_eq]; omega
  rw [or_shl _ c 16 (by omega) (by rw [n1]; omega)]
  have n2 : (zx a + zx b <<< 8 + zx c <<< 16).toNat = a.toNat + b.toNat * 256 + c.toNat * 65536 := by
    rw [BitVec.toNat_add, n1, BitVec.toNat_shiftLeft, zx_nat, Nat.shiftLeft_eq]; omega
  rw [or_shl _ d 24 (by omega) (by rw [n2]; omega)]
  have sh : ∀ (y : UInt8) (i : Nat) (m : BitVec 32), m.toNat = 2 ^ i → zx y <<< i = m * zx y := by
    intro y i m hm
    apply BitVec.eq_of_toNat_eq
    rw [BitVec.toNat_shiftLeft, BitVec.toNat_mul, hm, Nat.shiftLeft_eq, Nat.mul_comm]
  rw [sh b 8 256#32 (by decide), sh c 16 65536#32 (by decide), sh d 24 16777216#32 (by decide)]
end Go.Proofs.YtimiejahkcjcdaaDoor
