/- The reference: Start, rotated. -/
import Derived.Test.YtimiejahkcjcdaaDoorM11
import Derived.Deep.LoopGhost
namespace Go.Proofs.YtimiejahkcjcdaaDoor
open Go.RowKit

set_option maxHeartbeats 400000 in
theorem rstart_any (s : S4) (hs : s = S0) (w : World) : Calls Tryd.prog 35 #[] w fun e w' => e = .returned (.agg #[.int .u32 (U s.a), .int .u32 (U s.b), .int .u32 (U s.c), .int .u32 (U s.d)]) ∧ Below w.heap.size w w' := by
  subst hs
  show Calls _ _ _ _ fun e w' => e = .returned (sv S0) ∧ _
  rw [S0_sv]
  go_enter Tryd.func35, Tryd.ntmps35
  go_wp2_with fail
  exact bodyPost_ret (v := .agg #[.int .u32 1732584193, .int .u32 4023233417, .int .u32 2562383102, .int .u32 271733878]) (by simp [results, Tryd.results35, go_sem]) rfl ⟨rfl, (Below.refl _ _).alloc (Nat.le_refl _) _⟩

def rot1 (x : BitVec 32) : BitVec 32 := x * 2#32 + x >>> 31
def rotN (x : BitVec 32) : Nat → BitVec 32
  | 0 => x
  | k + 1 => rot1 (rotN x k)
theorem rot1_eq (x : BitVec 32) : rot1 x = x <<< 1 ||| x >>> 31 := by
  have h1 : x * 2#32 = x <<< 1 := by
    apply BitVec.eq_of_toNat_eq
    simp [BitVec.toNat_mul, BitVec.toNat_shiftLeft, Nat.shiftLeft_eq]
  rw [rot1, h1, BitVec.add_eq_or_of_and_eq_zero]
  ext i hi
  simp
  intro h0 _
  exact BitVec.getLsbD_of_ge x _ (by omega)
theorem rotN_eq (x : BitVec 32) : ∀ k, k < 32 → rotN x k = x <<< k ||| x >>> (32 - k)
  | 0, _ => by
    rw [rotN]
    ext i hi
    simp
  | k + 1, h => by
    rw [rotN, rotN_eq x k (by omega), rot1_eq]
    ext i hi
    simp
    by_cases h0 : i = 0
    · subst h0
      have h1 : x.getLsbD (32 - k + 31) = false := BitVec.getLsbD_of_ge x _ (by omega)
      have h2 : ¬ 31 < k := by omega
      simp [h1, h2]
    · have h1 : x.getLsbD (32 - k + (31 + i)) = false := BitVec.getLsbD_of_ge x _ (by omega)
      have h2 : ¬ 31 + i < 32 := by omega
      have h3 : 32 - k + (i - 1) = 31 - k + i := by omega
      have h4 : i - 1 - k = i - (k + 1) := by omega
      have h5 : (i - 1 < k) = (i < k + 1) := propext ⟨fun _ => by omega, fun _ => by omega⟩
      simp [h0, h1, h2, h3, h4, h5]
theorem rotN_rot (x : BitVec 32) (k : Nat) (h : k < 32) : rotN x k = rot x k := rotN_eq x k h
theorem div31 (x : BitVec 32) : x / 2147483648#32 = x >>> 31 := by
  apply BitVec.eq_of_toNat_eq
  simp [BitVec.toNat_udiv, Nat.shiftRight_eq_div_pow]
set_option maxHeartbeats 400000 in
theorem rotated_any (x : BitVec 32) (n : Nat) (hn : n < 32) (w : World) : Calls Tryd.prog 47 #[.int .u32 (U x), .int .i64 n] w fun e w' => e = .returned (.int .u32 (U (rot x n))) ∧ w = w' := by
  have hr := Lib.hid (rotN_rot x n hn)
  go_enter Tryd.func47, Tryd.ntmps47
  go_wp2_with fail
  go_loopg [0, 5] n (fun g s0 s5 wr => ∃ k : Nat, k + g = n ∧ s5 = .int .i64 k ∧ s0 = .int .u32 (U (rotN x k)) ∧ w = wr)
  case atStart => exact ⟨0, by omega, rfl, rfl, rfl⟩
  case round =>
    obtain ⟨k, hk, rfl, rfl, rfl⟩ := hrel
    by_cases hlt : k < n
    · have t1 : decide ((k : Int) < n) = true := decide_eq_true (by omega)
      have h1 := Lib.hid (show rotN x (k + 1) = rotN x k * 2#32 + rotN x k >>> 31 from rfl)
      obtain ⟨y, hy⟩ : ∃ y, Hid (y = rotN x k) := ⟨_, rfl⟩
      rw [← hy.out] at h1 ⊢
      go_wp2_with fail
      go_roundg (gk - 1)
      case measure => omega
      case rel => exact ⟨k + 1, by omega, by go_num, by rw [h1.out, ← div31], rfl⟩
    · obtain rfl : k = n := by omega
      have t1 : decide ((k : Int) < k) = false := decide_eq_false (by omega)
      go_wp2_with fail
      go_ret
      exact ⟨by rw [hr.out]; rfl, rfl⟩
end Go.Proofs.YtimiejahkcjcdaaDoor
