/- The contract of the reference Form. -/
import Derived.Test.YtkabkkgaalimmaaV11
import Derived.Test.YtkabkkgaalimmaaV9
import Derived.Test.YtkabkkgaalimmaaVG2
namespace Go.Proofs.Ytkabkkgaalimmaa
open Go.RowKit Go.Shelf

theorem Bts.of_row {W : World} {v : Value} {l : List UInt8} (h : Row W v (l.map enc8)) (hl : l.length ≤ 4611686018427387904) : Bts W v l := by
  rcases h with ⟨a, c, _, h1, h2⟩ | ⟨b, off, cap, h1, _, _, _, hc⟩
  · exact .inl ⟨a, c, h1, by simpa using h2⟩
  · refine .inr ⟨b, off, cap, by simpa using h1, hl, fun i hi => ?_⟩
    rw [hc i (by simpa using hi)]; simp [enc8]
theorem row_lit (w : World) (xs : List Value) (n : Nat) (hn : xs.length = n) (hpos : n ≤ 1000) : Row (w.alloc (.cells xs.toArray 5)) (.slice (some ⟨w.heap.size, 0, none⟩) n n) xs := by
  subst hn
  refine .inr ⟨w.heap.size, 0, xs.length, rfl, by simp, Nat.le_refl _, by unfold maxLen; omega, fun i hi => ?_⟩
  simp [World.cell?, World.alloc, -World.alloc_eq, hi]

set_option maxRecDepth 100000 in
set_option maxHeartbeats 1000000 in
theorem form_any (x : Int) (hp : isPt x) (w : World) :
    Calls Try.prog 38 #[.int .i64 x] w fun e w' => (∃ v, e = .returned v ∧ Row w' v ((frm x).map enc8)) ∧ Below w.heap.size w w' := by
  obtain ⟨h0, hx, _⟩ := hp
  rcases (show x < 128 ∨ (128 ≤ x ∧ x < 2048) ∨ (2048 ≤ x ∧ x < 65536) ∨ 65536 ≤ x by omega) with h1 | ⟨h1, h2⟩ | ⟨h1, h2⟩ | h1
  · have hcells : Hid ((frm x).map enc8 = [.int .u8 (x)]) := by
      show _ = _
      unfold frm; rw [if_pos h1, enc_b8 (x) (by omega) (by omega)]; rfl
    have q1 := u8_wrap x (by omega) (by omega)
    go_enter Try.func38, Try.ntmps38
    go_wp2_with fail
    go_ret
    refine ⟨⟨_, rfl, ?_⟩, (Below.refl _ _).alloc (Nat.le_refl _) _⟩
    rw [hcells.out]; exact row_lit w _ 1 rfl (by omega)
  · have hcells : Hid ((frm x).map enc8 = [.int .u8 (192 + x / 64), .int .u8 (128 + x % 64)]) := by
      show _ = _
      unfold frm; rw [if_neg (by omega), if_pos h2, enc_b8 (192 + x / 64) (by omega) (by omega), enc_b8 (128 + x % 64) (by omega) (by omega)]; rfl
    have q1 := u8_wrap (192 + x / 64) (by omega) (by omega)
    have q2 := u8_wrap (128 + x % 64) (by omega) (by omega)
    go_enter Try.func38, Try.ntmps38
    go_wp2_with fail
    go_ret
    refine ⟨⟨_, rfl, ?_⟩, (Below.refl _ _).alloc (Nat.le_refl _) _⟩
    rw [hcells.out]; exact row_lit w _ 2 rfl (by omega)
  · have hcells : Hid ((frm x).map enc8 = [.int .u8 (224 + x / 4096), .int .u8 (128 + x / 64 % 64), .int .u8 (128 + x % 64)]) := by
      show _ = _
      unfold frm; rw [if_neg (by omega), if_neg (by omega), if_pos h2, enc_b8 (224 + x / 4096) (by omega) (by omega), enc_b8 (128 + x / 64 % 64) (by omega) (by omega), enc_b8 (128 + x % 64) (by omega) (by omega)]; rfl
    have q1 := u8_wrap (224 + x / 4096) (by omega) (by omega)
    have q2 := u8_wrap (128 + x / 64 % 64) (by omega) (by omega)
    have q3 := u8_wrap (128 + x % 64) (by omega) (by omega)
    go_enter Try.func38, Try.ntmps38
    go_wp2_with fail
    go_ret
    refine ⟨⟨_, rfl, ?_⟩, (Below.refl _ _).alloc (Nat.le_refl _) _⟩
    rw [hcells.out]; exact row_lit w _ 3 rfl (by omega)
  · have hcells : Hid ((frm x).map enc8 = [.int .u8 (240 + x / 262144), .int .u8 (128 + x / 4096 % 64), .int .u8 (128 + x / 64 % 64), .int .u8 (128 + x % 64)]) := by
      show _ = _
      unfold frm; rw [if_neg (by omega), if_neg (by omega), if_neg (by omega), enc_b8 (240 + x / 262144) (by omega) (by omega), enc_b8 (128 + x / 4096 % 64) (by omega) (by omega), enc_b8 (128 + x / 64 % 64) (by omega) (by omega), enc_b8 (128 + x % 64) (by omega) (by omega)]; rfl
    have q1 := u8_wrap (240 + x / 262144) (by omega) (by omega)
    have q2 := u8_wrap (128 + x / 4096 % 64) (by omega) (by omega)
    have q3 := u8_wrap (128 + x / 64 % 64) (by omega) (by omega)
    have q4 := u8_wrap (128 + x % 64) (by omega) (by omega)
    go_enter Try.func38, Try.ntmps38
    go_wp2_with fail
    go_ret
    refine ⟨⟨_, rfl, ?_⟩, (Below.refl _ _).alloc (Nat.le_refl _) _⟩
    rw [hcells.out]; exact row_lit w _ 4 rfl (by omega)
end Go.Proofs.Ytkabkkgaalimmaa
