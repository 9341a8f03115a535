/- The reference: Word. -/
import Derived.Test.YtimiejahkcjcdaaDoorM21
namespace Go.Proofs.YtimiejahkcjcdaaDoor
open Go.RowKit

theorem rsum_to (a : Option Addr) (n c : Nat) (l : List UInt8) (hl : l.length ≤ 1099511627776) (d : Nat → UInt8) (hd : d = sumF l) (w : World) (hr : RowB w (.slice a n c) l) :
    Calls Tryd.prog 29 #[.slice a n c] w fun e w' => e = .returned (.agg #[e8 d 0, e8 d 1, e8 d 2, e8 d 3, e8 d 4, e8 d 5, e8 d 6, e8 d 7, e8 d 8, e8 d 9, e8 d 10, e8 d 11, e8 d 12, e8 d 13, e8 d 14, e8 d 15]) ∧ Below w.heap.size w w' := rsum_any _ l hl d hd w hr
set_option maxRecDepth 100000 in
set_option maxHeartbeats 1000000 in
theorem rword_any (v : Value) (l : List UInt8) (hl : l.length ≤ 1099511627776) (x : Nat) (hx : x = wordF l) (w : World) (hr : RowB w v l) :
    Calls Tryd.prog 36 #[v] w fun e w' => e = .returned (.int .u64 x) ∧ Below w.heap.size w w' := by
  obtain ⟨a, c, rfl⟩ := rowB_len hr
  obtain ⟨d, hd⟩ : ∃ d, Hid (d = sumF l) := ⟨_, rfl⟩
  have hx' : Hid (x = wN d 8) := by rw [hd.out]; exact hx
  clear hx
  have hcall := Lib.hid (rsum_to a l.length c l hl d hd.out w hr)
  clear hr
  go_enter Tryd.func36, Tryd.ntmps36
  go_wp2_with fail
  refine hcall.out.mono ?_; rintro e w1 ⟨rfl, hb1⟩
  clear hcall
  have z := Lib.hid (B16.mk w1 d 34)
  have hB := Lib.hid (hb1.alloc hb1.size (e16 d 34))
  go_wp2_with fail
  go_loopg [4, 5] 8 (fun g s3 s11 wr => ∃ k m : Nat, k + g = 8 ∧ m = k + 8 ∧ s11 = .int .i64 m ∧ s3 = .int .u64 (wN d k) ∧ wr = w1.alloc (e16 d 34))
  case atStart => exact ⟨0, 8, by omega, rfl, rfl, rfl, rfl⟩
  case round =>
    obtain ⟨k, m, hk, hm, rfl, rfl, rfl⟩ := hrel
    replace hm := Lib.hid hm
    by_cases hlt : k < 8
    · have t1 : decide ((m : Int) < 16) = true := decide_eq_true (by have := hm.out; omega)
      have hc := (z.out m (by have := hm.out; omega)).1
      have hm16 : m < 16 := by have := hm.out; omega
      obtain ⟨X, hX⟩ : ∃ X, Hid (X = wN d k) := ⟨_, rfl⟩
      have hX2 := Lib.hid (wN_8m d k hlt)
      have hX3 := Lib.hid (show wN d (k + 1) = X * 256 + (d m).toNat by rw [hX.out, hm.out, Nat.add_comm k 8]; rfl)
      rw [← hX.out] at hX2 ⊢
      have hX4 : X * 256 < 18446744073709551616 := hX2.out
      go_wp2_with fail
      go_roundg (gk - 1)
      case measure => omega
      case rel =>
        refine ⟨k + 1, m + 1, by omega, by have := hm.out; omega, rfl, ?_, rfl⟩
        have hxb := (d m).toNat_lt
        rw [show IntKind.u64.wrap ((d m).toNat : Int) = ((d m).toNat : Int) by rw [IntKind.wrap_u64]; omega]
        rw [hX3.out]
        show Value.int .u64 _ = Value.int .u64 _
        congr 1
        have : X * 256 + (d m).toNat < 18446744073709551616 := by have h8 := wN_8 d (k + 1) (by omega); rw [hX3.out] at h8; exact h8
        simp only [IntKind.wrap_u64]
        omega
    · obtain rfl : k = 8 := by omega
      have t1 : decide ((m : Int) < 16) = false := decide_eq_false (by have := hm.out; omega)
      go_wp2_with fail
      go_ret
      exact ⟨by rw [hx'.out]; rfl, hB.out⟩
end Go.Proofs.YtimiejahkcjcdaaDoor
