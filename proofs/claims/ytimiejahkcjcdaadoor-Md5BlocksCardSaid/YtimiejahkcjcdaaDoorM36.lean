/- Plain facts about the padding; of bits. -/
import Derived.Test.YtimiejahkcjcdaaDoorM35
namespace Go.Proofs.YtimiejahkcjcdaaDoor
open Go.RowKit

theorem pad_at0 (n : Nat) : (padF n).getD 0 0 = 128 := rfl
theorem pad_atz (n j : Nat) (h : j < z0 n) : (padF n).getD (1 + j) 0 = 0 := by
  rw [Nat.add_comm 1 j, padF, List.getD_cons_succ, List.getD_eq_getElem?_getD, List.getElem?_append_left (by simpa using h), List.getElem?_replicate, if_pos h]
  rfl
theorem pad_atl (n i : Nat) (h : i < 8) : (padF n).getD (1 + z0 n + i) 0 = UInt8.ofNat (8 * n / 256 ^ i) := by
  rw [show 1 + z0 n + i = (z0 n + i) + 1 by omega, padF, List.getD_cons_succ, List.getD_eq_getElem?_getD, List.getElem?_append_right (by simp), List.length_replicate, Nat.add_sub_cancel_left, le, List.getElem?_map, List.getElem?_range h]
  rfl
theorem or_i64 (a b i : Nat) (ha : a < 256 ^ i) (hb : b * 256 ^ i < 9223372036854775808) (ha2 : a < 9223372036854775808) : bits .or .i64 (a : Int) ((b * 256 ^ i : Nat) : Int) = ((a + b * 256 ^ i : Nat) : Int) := by
  show IntKind.i64.wrap ((BitVec.ofInt 64 (a : Int) ||| BitVec.ofInt 64 ((b * 256 ^ i : Nat) : Int)).toNat : Int) = _
  rw [BitVec.ofInt_natCast, BitVec.ofInt_natCast, BitVec.toNat_or, BitVec.toNat_ofNat, BitVec.toNat_ofNat, Nat.mod_eq_of_lt (show a < 2 ^ 64 by omega), Nat.mod_eq_of_lt (show b * 256 ^ i < 2 ^ 64 by omega)]
  have h1 : a ||| (b * 256 ^ i) = a + b * 256 ^ i := by
    have h2 := Nat.shiftLeft_add_eq_or_of_lt (show a < 2 ^ (8 * i) by rw [Nat.pow_mul]; exact ha) b
    rw [Nat.shiftLeft_eq, Nat.pow_mul] at h2
    rw [Nat.or_comm, Nat.add_comm]
    exact h2.symm
  rw [h1]
  have h3 : a + b * 256 ^ i < 9223372036854775808 := by
    have h4 := Nat.shiftLeft_add_eq_or_of_lt (show a < 2 ^ (8 * i) by rw [Nat.pow_mul]; exact ha) b
    rw [Nat.shiftLeft_eq, Nat.pow_mul] at h4
    rw [← h1]
    exact Nat.or_lt_two_pow (n := 63) (by omega) (by omega)
  rw [IntWalk.i64_in _ (by omega)]
theorem bits_step (n i : Nat) : 8 * n % 256 ^ (i + 1) = 8 * n % 256 ^ i + (8 * n / 256 ^ i % 256) * 256 ^ i := by
  rw [Nat.pow_succ, Nat.mod_mul, Nat.mul_comm (256 ^ i)]
theorem bits_at (n k : Nat) (hn : n ≤ 3000) : bits .or .i64 ((8 * n % 256 ^ k : Nat) : Int) (wrap64 (wrap64 ((UInt8.ofNat (8 * n / 256 ^ k)).toNat : Int) * 2 ^ (8 * k))) = ((8 * n % 256 ^ (k + 1) : Nat) : Int) := by
  have hx : ∀ y : Nat, (UInt8.ofNat y).toNat = y % 256 := fun y => UInt8.toNat_ofNat'
  rw [hx]
  clear hx
  have h1 : 8 * n / 256 ^ k % 256 * 256 ^ k ≤ 8 * n := Nat.le_trans (Nat.mul_le_mul_right _ (Nat.mod_le _ _)) (Nat.div_mul_le_self _ _)
  have h2 : 8 * n / 256 ^ k % 256 < 256 := Nat.mod_lt _ (by omega)
  have h3 : 8 * n % 256 ^ k ≤ 8 * n := Nat.mod_le _ _
  have h4 : 8 * n % 256 ^ k < 256 ^ k := Nat.mod_lt _ (Nat.pow_pos (by omega))
  rw [bits_step]
  generalize 8 * n / 256 ^ k % 256 = x at h1 h2 ⊢
  generalize 8 * n % 256 ^ k = y at h3 h4 ⊢
  have e1 : wrap64 (x : Int) = x := IntWalk.wrap64_in _ (by omega)
  have e2 : (x : Int) * 2 ^ (8 * k) = ((x * 256 ^ k : Nat) : Int) := by
    rw [Int.natCast_mul, Int.natCast_pow, Int.pow_mul, show (2 : Int) ^ 8 = ((256 : Nat) : Int) by decide]
  have e3 : wrap64 ((x * 256 ^ k : Nat) : Int) = ((x * 256 ^ k : Nat) : Int) := IntWalk.wrap64_in _ (by generalize x * 256 ^ k = u at h1; omega)
  rw [e1, e2, e3]
  have h5 : x * 256 ^ k < 9223372036854775808 := by generalize x * 256 ^ k = u at h1; omega
  clear e1 e2 e3 h1
  exact or_i64 y x k h4 h5 (by omega)
end Go.Proofs.YtimiejahkcjcdaaDoor
