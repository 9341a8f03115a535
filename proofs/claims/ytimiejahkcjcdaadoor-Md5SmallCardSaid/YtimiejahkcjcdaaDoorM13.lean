/- Text. -/
import Derived.Test.YtimiejahkcjcdaaDoorM12
namespace Go.Proofs.YtimiejahkcjcdaaDoor
open Go.RowKit

/-- A digit of sixteen. -/
def hx (n : Nat) : UInt8 := if n < 10 then UInt8.ofNat (48 + n) else UInt8.ofNat (87 + n)
/-- The text of the first k bytes. -/
def txt (d : Nat → UInt8) : Nat → List UInt8
  | 0 => []
  | k + 1 => txt d k ++ [hx ((d k).toNat / 16)] ++ [hx ((d k).toNat % 16)]
theorem txt_len (d : Nat → UInt8) : ∀ k, (txt d k).length = 2 * k
  | 0 => rfl
  | k + 1 => by simp [txt, txt_len d k]; omega
def HEX : ByteArray := ⟨#[48, 49, 50, 51, 52, 53, 54, 55, 56, 57, 97, 98, 99, 100, 101, 102]⟩
theorem hex_get (k : Nat) (h : k < 16) : (({ data := #[48, 49, 50, 51, 52, 53, 54, 55, 56, 57, 97, 98, 99, 100, 101, 102] } : ByteArray)[k]'h) = hx k := by
  rcases (show k = 0 ∨ k = 1 ∨ k = 2 ∨ k = 3 ∨ k = 4 ∨ k = 5 ∨ k = 6 ∨ k = 7 ∨ k = 8 ∨ k = 9 ∨ k = 10 ∨ k = 11 ∨ k = 12 ∨ k = 13 ∨ k = 14 ∨ k = 15 by omega) with rfl | rfl | rfl | rfl | rfl | rfl | rfl | rfl | rfl | rfl | rfl | rfl | rfl | rfl | rfl | rfl <;> rfl
theorem agg_at (d : Nat → UInt8) (w : World) : ∀ k : Nat, k < 16 → (Instr.index 34 (.agg #[e8 d 0, e8 d 1, e8 d 2, e8 d 3, e8 d 4, e8 d 5, e8 d 6, e8 d 7, e8 d 8, e8 d 9, e8 d 10, e8 d 11, e8 d 12, e8 d 13, e8 d 14, e8 d 15]) (.int .i64 (k : Nat))).run Tryd.prog w = .ok (.int .u8 ((d k).toNat : Int)) w := by
  intro k hk
  rcases (show k = 0 ∨ k = 1 ∨ k = 2 ∨ k = 3 ∨ k = 4 ∨ k = 5 ∨ k = 6 ∨ k = 7 ∨ k = 8 ∨ k = 9 ∨ k = 10 ∨ k = 11 ∨ k = 12 ∨ k = 13 ∨ k = 14 ∨ k = 15 by omega) with rfl | rfl | rfl | rfl | rfl | rfl | rfl | rfl | rfl | rfl | rfl | rfl | rfl | rfl | rfl | rfl <;> kernel_rfl
theorem and15 : ∀ n : Nat, n < 256 → bits .and .u8 (n : Int) 15 = ((n % 16 : Nat) : Int) := by decide +kernel

set_option maxRecDepth 100000 in
set_option maxHeartbeats 1000000 in
theorem text_any (d : Nat → UInt8) (s : ByteArray) (hs : s = ⟨(txt d 16).toArray⟩) (w : World) :
    Calls Tryd.prog 22 #[.agg #[e8 d 0, e8 d 1, e8 d 2, e8 d 3, e8 d 4, e8 d 5, e8 d 6, e8 d 7, e8 d 8, e8 d 9, e8 d 10, e8 d 11, e8 d 12, e8 d 13, e8 d 14, e8 d 15]] w fun e w' => e = .returned (.string s) ∧ Below w.heap.size w w' := by
  replace hs := Lib.hid hs
  have hix := Lib.hid (fun W => agg_at d W)
  go_enter Tryd.func22, Tryd.ntmps22
  go_wp2_with fail
  have hb0 := Lib.hid (bld_new (w.alloc (e16 d 34)) w.heap.size (by simp))
  have hB := Lib.hid (((Below.refl w.heap.size w).alloc (Nat.le_refl _) (e16 d 34)).alloc (by simp) (.cells #[.pointer none, .slice none 0 0] 81))
  simp only [World.size_alloc] at hb0
  go_loopg [7] 16 (fun g s7 wr => ∃ k : Nat, k + g = 16 ∧ s7 = .int .i64 k ∧ Hid (Bld w.heap.size (w.heap.size + 1) (txt d k) wr) ∧ Hid (Below w.heap.size w wr))
  case atStart => exact ⟨0, by omega, rfl, hb0, hB⟩
  case round =>
    clear hb0 hB
    obtain ⟨k, hk, rfl, hb, hB⟩ := hrel
    by_cases hlt : k < 16
    · have t1 : decide ((k : Int) < 16) = true := decide_eq_true (by omega)
      have hi := fun W => hix.out W k hlt
      obtain ⟨x, hx⟩ : ∃ x, Hid (x = d k) := ⟨_, rfl⟩
      rw [← hx.out] at hi
      have hxl := x.toNat_lt
      have ha := and15 x.toNat hxl
      have hl := txt_len d k
      have hsz := hB.out.size
      go_wp2_with fail
      refine (wb_any _ _ (txt d k) _ (by omega) wr hb.out hsz).mono ?_; rintro e w1 ⟨rfl, hb1, hB1⟩
      replace hb1 := Lib.hid hb1
      have hB1' := Lib.hid (hB.out.trans hB1)
      have hs1 := hB1'.out.size
      clear hB1
      go_wp2_with fail
      refine (wb_any _ _ _ _ (by simp; omega) w1 hb1.out hs1).mono ?_; rintro e w2 ⟨rfl, hb2, hB2⟩
      replace hb2 := Lib.hid hb2
      have hB2' := Lib.hid (hB1'.out.trans hB2)
      clear hB2
      go_wp2_with fail
      go_roundg (gk - 1)
      case measure => omega
      case rel =>
        refine ⟨k + 1, by omega, by go_num, ?_, hB2'⟩
        have := hb2.out
        rw [hex_get _ (by omega), hex_get _ (by omega), hx.out] at this
        exact this
    · obtain rfl : k = 16 := by omega
      have hsz := hB.out.size
      have hcall := Lib.hid (fun W h => str_any w.heap.size (w.heap.size + 1) (txt d 16) s hs.out W h)
      go_wp2_with fail
      refine (hcall.out _ hb.out hsz).mono ?_; rintro e w1 ⟨rfl, hb1⟩
      go_wp2_with fail
      go_ret
      exact ⟨rfl, hB.out.trans hb1⟩
end Go.Proofs.YtimiejahkcjcdaaDoor
