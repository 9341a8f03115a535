/- The contract of md5.Padding. -/
import Derived.Test.YtimiejahkcjcdaaDoorM4
namespace Go.Proofs.YtimiejahkcjcdaaDoor
open Go.RowKit

/-- How many bytes 0 are put behind the first. -/
def z0 (n : Nat) : Nat := (119 - n % 64) % 64
def le (x : Nat) (k : Nat) : List UInt8 := (List.range k).map fun j => UInt8.ofNat (x / 256 ^ j)
/-- The padding. -/
def padF (n : Nat) : List UInt8 := 128 :: (List.replicate (z0 n) 0 ++ le (8 * n) 8)
theorem le_succ (x k : Nat) : le x (k + 1) = le x k ++ [UInt8.ofNat (x / 256 ^ k)] := by simp [le, List.range_succ]
theorem le_len (x k : Nat) : (le x k).length = k := by simp [le]
theorem padF_len (n : Nat) : (padF n).length = 9 + z0 n := by simp [padF, le_len]; omega
theorem z0_lt (n : Nat) : z0 n < 64 := by unfold z0; omega
theorem z0_sum (n : Nat) : (n + (padF n).length) % 64 = 0 := by rw [padF_len]; unfold z0; omega
theorem info5 : (Tryd.prog.info? 5).map (fun i => (i.zero, i.size, i.bytes)) = some (some (.int .u8 0), 1, 1) := by kernel_rfl
def zeros72 : Array Value := Array.replicate 72 (.int .u8 0)
theorem mk72 (w : World) : (Instr.makeSlice 24 (.int .i64 1) (.int .i64 72)).run Tryd.prog w = .ok (.slice (some ⟨w.heap.size, 0, none⟩) 1 72) (w.alloc (.cells zeros72 5)) := by
  kernel_rfl
theorem pad_own (w : World) : (w.alloc (.cells (zeros72.setIfInBounds 0 (.int .u8 128)) 5)).ownsRow w.heap.size 5 1 (.slice (some ⟨w.heap.size, 0, none⟩) 1 72) 1 ((128 :: List.replicate 0 0).map enc8) :=
  ⟨rfl, .inr ⟨w.heap.size, 72, zeros72.setIfInBounds 0 (.int .u8 128), rfl, Nat.le_refl _, (by simp [World.alloc, -World.alloc_eq]), by omega, by unfold maxLen; omega, rfl, rfl⟩⟩
set_option maxRecDepth 100000 in
set_option maxHeartbeats 1000000 in
theorem padding_any (n : Nat) (hn : n ≤ 1099511627776) (w : World) :
    Calls Tryd.prog 15 #[.int .i64 n] w fun e w' => (∃ v, e = .returned (.tuple #[v, .int .i64 0]) ∧ w'.ownsRow w.heap.size 5 1 v (padF n).length ((padF n).map enc8)) ∧ Below w.heap.size w w' := by
  have t1 : decide ((n : Int) < 0) = false := decide_eq_false (by omega)
  have t2 : decide ((1099511627776 : Int) < n) = false := decide_eq_false (by omega)
  have hmk := mk72
  have hz0 : (w.alloc (.cells zeros72 5)).cell? ⟨w.heap.size, 0, none⟩ = some (.int .u8 0) := by simp [go_sem, zeros72]
  have hz1 : (w.alloc (.cells zeros72 5)).frozen? ⟨w.heap.size, 0, none⟩ = false := by simp [go_sem]
  go_enter Tryd.func15, Tryd.ntmps15
  go_wp2_with fail
  have hown := pad_own w
  have hb0 : Below w.heap.size w (w.alloc (.cells (zeros72.setIfInBounds 0 (.int .u8 128)) 5)) := (Below.refl _ w).alloc (Nat.le_refl _) _
  generalize w.alloc (.cells (zeros72.setIfInBounds 0 (.int .u8 128)) 5) = W1 at hown hb0 ⊢
  replace hown := Lib.hid hown
  have hz64 := z0_lt n
  have hzd : Hid (z0 n = (119 - n % 64) % 64) := rfl
  clear hz0 hz1 hmk
  go_loopg [4] (z0 n) (fun g s4 wr => ∃ (z : Nat) (b cap : Nat), z + g = z0 n ∧ s4 = .slice (some ⟨b, 0, none⟩) (1 + z) cap ∧ Hid (wr.ownsRow w.heap.size 5 1 s4 (1 + z) ((128 :: List.replicate z 0).map enc8)) ∧ Below w.heap.size w wr)
  case atStart => exact ⟨0, w.heap.size, 72, by omega, rfl, hown, hb0⟩
  case round =>
    clear hown hb0
    obtain ⟨z, b, cap, hz, rfl, hown, hb⟩ := hrel
    by_cases hlt : z < z0 n
    · have t3 : ((((n : Int) + (1 + (z : Int))) % 64) != 56) = true := by
        have := hzd.out
        simp; omega
      go_wp2_with (at_builtin; go_must (refine app_one rfl (.tmp 21) (.tmp 22) 24 rfl (u := .int .u8 0) w.heap.size (.int .u8 0) 1 Tryd.underlying24 info5 rfl _ (1 + z) _ rfl rfl hown.out rfl (by omega) (by omega) hb.size ?_); rintro v2 w2 hown2' hb2 hs2 _ hv2; have hown2 := Lib.hid hown2'; clear hown2')
      obtain ⟨b2, cap2, rfl⟩ := hv2
      go_roundg (gk - 1)
      case measure => omega
      case rel =>
        refine ⟨z + 1, b2, cap2, by omega, rfl, ?_, hb.trans hb2⟩
        have := hown2.out
        rw [show (128 :: List.replicate (z + 1) (0 : UInt8)) = (128 :: List.replicate z 0) ++ [0] by rw [List.replicate_succ']; rfl, List.map_append]
        exact this
    · obtain rfl : z = z0 n := by omega
      have t3 : ((((n : Int) + (1 + (z0 n : Int))) % 64) != 56) = false := by
        have := hzd.out
        simp; omega
      clear hlt hz
      go_wp2_with fail
      go_loopg [4, 5, 27] 8 (fun g s4 s5 s27 wr => ∃ (i : Nat), i + g = 8 ∧ s27 = .int .i64 i ∧ s5 = .int .u64 ((8 * n / 256 ^ i : Nat) : Int) ∧ Hid (wr.ownsRow w.heap.size 5 1 s4 (1 + z0 n + i) ((128 :: (List.replicate (z0 n) 0 ++ le (8 * n) i)).map enc8)) ∧ Below w.heap.size w wr)
      case atStart =>
        refine ⟨0, by omega, rfl, ?_, by simpa [le] using hown, hb⟩
        rw [show 8 * n / 256 ^ 0 = 8 * n by omega]
        go_num
      case round =>
        obtain ⟨i, hi, rfl, rfl, hown, hb⟩ := hrel
        by_cases hlt : i < 8
        · have t4 : decide ((i : Int) < 8) = true := decide_eq_true (by omega)
          have hX : 8 * n / 256 ^ i ≤ 8796093022208 := Nat.le_trans (Nat.div_le_self _ _) (by omega)
          have hX2 : 8 * n / 256 ^ (i + 1) = 8 * n / 256 ^ i / 256 := by rw [Nat.div_div_eq_div_mul, Nat.pow_succ]
          have hls := Lib.hid (le_succ (8 * n) i)
          replace hX2 := Lib.hid hX2
          obtain ⟨X, hXe⟩ : ∃ X, X = 8 * n / 256 ^ i := ⟨_, rfl⟩
          rw [← hXe] at hX hX2 hls ⊢
          clear hXe
          have hw8 : IntKind.u8.wrap (X : Int) = ((UInt8.ofNat X).toNat : Int) := by rw [IntKind.wrap_u8, UInt8.toNat_ofNat']; omega
          go_wp2_with (at_builtin; go_must (refine app_one rfl (.tmp 29) (.tmp 32) 24 rfl (u := .int .u8 ((UInt8.ofNat X).toNat : Int)) w.heap.size (.int .u8 0) 1 Tryd.underlying24 info5 rfl _ (1 + z0 n + i) _ rfl rfl hown.out rfl (by omega) (by omega) hb.size ?_); rintro v2 w2 hown2' hb2 hs2 _ hv2; have hown2 := Lib.hid hown2'; clear hown2')
          obtain ⟨b2, cap2, rfl⟩ := hv2
          go_roundg (gk - 1)
          case measure => omega
          case rel =>
            refine ⟨i + 1, by omega, by go_num, by rw [hX2.out]; rfl, ?_, hb.trans hb2⟩
            have := hown2.out
            rw [hls.out, ← List.append_assoc, ← List.cons_append, List.map_append]
            exact this
        · obtain rfl : i = 8 := by omega
          have hl9 : Hid ((padF n).length = 1 + z0 n + 8) := by show _ = _; rw [padF_len]; omega
          go_wp2_with fail
          go_ret2
          exact ⟨⟨_, rfl, by rw [hl9.out]; exact hown.out⟩, hb⟩
set_option maxHeartbeats 400000 in
theorem padding_no (n : Int) (hn : n < 0 ∨ 1099511627776 < n) (w : World) :
    Calls Tryd.prog 15 #[.int .i64 n] w fun e w' => e = .returned (.tuple #[.slice none 0 0, .int .i64 2]) ∧ w = w' := by
  rcases (show n < 0 ∨ (¬ n < 0 ∧ 1099511627776 < n) by omega) with h | ⟨h, h2⟩
  · have t1 : decide (n < 0) = true := decide_eq_true h
    go_enter Tryd.func15, Tryd.ntmps15
    go_wp2_with fail
    go_ret2
    exact ⟨rfl, rfl⟩
  · have t1 : decide (n < 0) = false := decide_eq_false h
    have t2 : decide ((1099511627776 : Int) < n) = true := decide_eq_true h2
    go_enter Tryd.func15, Tryd.ntmps15
    go_wp2_with fail
    go_ret2
    exact ⟨rfl, rfl⟩
end Go.Proofs.YtimiejahkcjcdaaDoor
