/- The reference: Text. -/
import Derived.Test.YtimiejahkcjcdaaDoorM22
import Derived.Test.YtimiejahkcjcdaaDoorM14
namespace Go.Proofs.YtimiejahkcjcdaaDoor
open Go.RowKit

/-- The digit of number j of a byte. -/
def nib (x : Nat) (j : Nat) : Nat := if j = 0 then x / 16 else x % 16
theorem nib_lt (x j : Nat) (h : x < 256) : nib x j < 16 := by unfold nib; split <;> omega
def nibs (x : Nat) : Obj := .cells #[.int .u8 ((nib x 0 : Nat) : Int), .int .u8 ((nib x 1 : Nat) : Int)] 5
theorem nibs_eq (x : Nat) : nibs x = .cells #[.int .u8 ((x : Int) / 16), .int .u8 ((x : Int) % 16)] 5 := rfl
theorem nibs_cell {w : World} {N x : Nat} (h : w.heap[N]? = some (nibs x)) (j : Nat) (hj : j < 2) : w.cell? ⟨N, j, none⟩ = some (.int .u8 ((nib x j : Nat) : Int)) := by
  rw [cell_heap h]
  rcases (show j = 0 ∨ j = 1 by omega) with rfl | rfl <;> rfl
theorem hx_lo (y : Nat) (h : y < 10) : ((hx y).toNat : Int) = 48 + (y : Int) := by
  unfold hx; rw [if_pos h, UInt8.toNat_ofNat']; omega
theorem hx_hi (y : Nat) (h : ¬ y < 10) (h2 : y < 16) : ((hx y).toNat : Int) = 87 + (y : Int) := by
  unfold hx; rw [if_neg h, UInt8.toNat_ofNat']; omega
/-- What has been written of a byte. -/
def txk (d : Nat → UInt8) (i k : Nat) : List UInt8 := txt d i ++ ((List.range k).map fun j => hx (nib (d i).toNat j))
theorem txk_0 (d : Nat → UInt8) (i : Nat) : txk d i 0 = txt d i := by simp [txk]
theorem txk_2 (d : Nat → UInt8) (i : Nat) : txk d i 2 = txt d (i + 1) := by simp [txk, txt, List.range_succ, nib]
theorem txk_succ (d : Nat → UInt8) (i k : Nat) : txk d i (k + 1) = txk d i k ++ [hx (nib (d i).toNat k)] := by simp [txk, List.range_succ]
set_option maxRecDepth 100000 in
set_option maxHeartbeats 2000000 in
theorem rtext_any (d : Nat → UInt8) (s : ByteArray) (hs : s = ⟨(txt d 16).toArray⟩) (w : World) :
    Calls Tryd.prog 39 #[.agg #[e8 d 0, e8 d 1, e8 d 2, e8 d 3, e8 d 4, e8 d 5, e8 d 6, e8 d 7, e8 d 8, e8 d 9, e8 d 10, e8 d 11, e8 d 12, e8 d 13, e8 d 14, e8 d 15]] w fun e w' => e = .returned (.string s) ∧ Below w.heap.size w w' := by
  replace hs := Lib.hid hs
  go_enter Tryd.func39, Tryd.ntmps39
  go_wp2_with fail
  have z0 := Lib.hid (B16.mk w d 34)
  have hB0 := Lib.hid ((Below.refl w.heap.size w).alloc (Nat.le_refl _) (e16 d 34))
  have hown0 := Lib.hid (World.ownsRow_nil (w.alloc (e16 d 34)) (w.heap.size + 1) 5 1)
  have hsz0 : w.heap.size + 1 ≤ (w.alloc (e16 d 34)).heap.size := by simp
  show Code.wp _ _ _ _ (w.alloc (e16 d 34))
  generalize w.alloc (e16 d 34) = w0 at z0 hB0 hown0 hsz0 ⊢
  go_loopg [3, 4] 16 (fun g s3 s4 wr => ∃ i : Nat, i + g = 16 ∧ s4 = .int .i64 i ∧ Hid (wr.ownsRow (w.heap.size + 1) 5 1 s3 (2 * i) ((txt d i).map enc8)) ∧ Hid (B16 wr w.heap.size d) ∧ Hid (Below w.heap.size w wr) ∧ w.heap.size + 1 ≤ wr.heap.size)
  case atStart => exact ⟨0, by omega, rfl, hown0, z0, hB0, hsz0⟩
  case round =>
    clear z0 hB0 hown0 hsz0
    obtain ⟨i, hi, rfl, hown, z0, hB, hsz⟩ := hrel
    by_cases hlt : i < 16
    · have t1 : decide ((i : Int) < 16) = true := decide_eq_true (by omega)
      have hc := (z0.out i hlt).1
      obtain ⟨x, hx⟩ : ∃ x, Hid (x = d i) := ⟨_, rfl⟩
      rw [show e8 d i = .int .u8 (x.toNat : Int) by rw [hx.out]] at hc
      have hxl := x.toNat_lt
      have l0 : (i : Int) < 16 := by omega
      go_wp2_with fail
      have q1 : IntKind.u8.wrap ((x.toNat : Int) / 16) = (x.toNat : Int) / 16 := by rw [IntKind.wrap_u8]; omega
      have q2 : ((x.toNat : Int)).tmod 16 = (x.toNat : Int) % 16 := by rw [Int.tmod_eq_emod_of_nonneg (by omega)]
      go_region_held3 (fun w' => w'.cell? ⟨w.heap.size, i, none⟩ = some (.int .u8 x.toNat)) (go_keep) (fail)
      clear q1 q2 hc
      have g0 : Hid (((wr.alloc (nibs x.toNat)).drew).heap[wr.heap.size]? = some (nibs x.toNat)) := World.alloc_heap_new wr (nibs x.toNat)
      have hb1 : Below wr.heap.size wr ((wr.alloc (nibs x.toNat)).drew) := ((Below.refl _ _).alloc (Nat.le_refl _) _).drew
      have hown1 := Lib.hid (owns_on hown.out hb1)
      have hn1 : Hid (u3.ownBlock ≠ some wr.heap.size) := by
        intro e
        have := (hown.out.lt _ e).2
        omega
      have z1 := Lib.hid (z0.out.block (hb1.block w.heap.size (by omega)))
      have hB1 := Lib.hid (hB.out.trans (hb1.mono (by omega)))
      have hsz1 : wr.heap.size + 1 ≤ ((wr.alloc (nibs x.toNat)).drew).heap.size := by simp
      have hsz2 : w.heap.size + 1 ≤ ((wr.alloc (nibs x.toNat)).drew).heap.size := by omega
      show Exit.then _ _ Exit.normal _ ((wr.alloc (nibs x.toNat)).drew)
      generalize (wr.alloc (nibs x.toNat)).drew = w1 at g0 hb1 hown1 z1 hB1 hsz1 hsz2 ⊢
      clear hb1 hown z0 hB hsz
      generalize wr.heap.size = N at g0 hn1 hsz1 ⊢
      rw [← txk_0] at hown1
      go_wp2_with fail
      go_loopg [3, 21] 2 (fun gj s3 s21 wx => ∃ k : Nat, k + gj = 2 ∧ s21 = .int .i64 k ∧ Hid (wx.ownsRow (w.heap.size + 1) 5 1 s3 (2 * i + k) ((txk d i k).map enc8)) ∧ Hid (B16 wx w.heap.size d) ∧ Hid (Below w.heap.size w wx) ∧ w.heap.size + 1 ≤ wx.heap.size ∧ Hid (k < 2 → wx.heap[N]? = some (nibs x.toNat)) ∧ Hid (k = 0 → s3.ownBlock ≠ some N ∧ N < wx.heap.size))
      case atStart => exact ⟨0, by omega, rfl, hown1, z1, hB1, hsz2, fun _ => g0.out, fun _ => ⟨hn1.out, by omega⟩⟩
      case round =>
        clear hown1 z1 hB1 hsz2 g0 hn1 hsz1
        obtain ⟨k, hk, rfl, hown, z1, hB1, hsz2, g0, hn1⟩ := hrel
        by_cases hlk : k < 2
        · have t2 : decide ((k : Int) < 2) = true := decide_eq_true (by omega)
          have hc := nibs_cell (g0.out hlk) k hlk
          have hy16 := nib_lt x.toNat k (by omega)
          have htx := Lib.hid (txk_succ d i k)
          rw [← hx.out] at htx
          obtain ⟨y, hy⟩ : ∃ y, Hid (y = nib x.toNat k) := ⟨_, rfl⟩
          rw [← hy.out] at hc hy16 htx
          have hkeep : Hid (∀ w2 : World, (∀ row, u3.ownBlock ≠ some row → row < wr.heap.size → w2.heap[row]? = wr.heap[row]?) → (k + 1 < 2 → w2.heap[N]? = some (nibs x.toNat))) := by
            intro w2 hr hk2
            obtain ⟨h1, h2⟩ := hn1.out (by omega)
            exact (hr N h1 h2).trans (g0.out hlk)
          by_cases h10 : y < 10
          · have t3 : decide ((y : Int) < 10) = true := decide_eq_true (by omega)
            have hu := Lib.hid (hx_lo y h10)
            go_wp2_with (at_builtin; go_must (refine app_one rfl (.tmp 27) (.tmp 30) 24 rfl (u := .int .u8 (48 + (y : Int))) (w.heap.size + 1) (.int .u8 0) 1 Tryd.underlying24 info5 rfl u3 (2 * i + k) _ rfl rfl hown.out rfl (by omega) (by omega) hsz2 ?_); rintro v2 w2 hown2' hb2 hs2 hr2 hv2; have hown2 := Lib.hid hown2'; clear hown2'; replace hr2 := Lib.hid hr2)
            go_roundg (gk - 1)
            case measure => omega
            case rel =>
              refine ⟨k + 1, by omega, by go_num, ?_, z1.out.block (hb2.block w.heap.size (by omega)), hB1.out.trans (hb2.mono (by omega)), Nat.le_trans hsz2 hs2, hkeep.out w2 hr2.out, fun h => by omega⟩
              have h := hown2.out
              rw [htx.out, List.map_append, ← Nat.add_assoc]
              rw [← hu.out] at h
              exact h
          · have t3 : decide ((y : Int) < 10) = false := decide_eq_false (by omega)
            have hu := Lib.hid (hx_hi y h10 hy16)
            go_wp2_with (at_builtin; go_must (refine app_one rfl (.tmp 32) (.tmp 35) 24 rfl (u := .int .u8 (87 + (y : Int))) (w.heap.size + 1) (.int .u8 0) 1 Tryd.underlying24 info5 rfl u3 (2 * i + k) _ rfl rfl hown.out rfl (by omega) (by omega) hsz2 ?_); rintro v2 w2 hown2' hb2 hs2 hr2 hv2; have hown2 := Lib.hid hown2'; clear hown2'; replace hr2 := Lib.hid hr2)
            go_roundg (gk - 1)
            case measure => omega
            case rel =>
              refine ⟨k + 1, by omega, by go_num, ?_, z1.out.block (hb2.block w.heap.size (by omega)), hB1.out.trans (hb2.mono (by omega)), Nat.le_trans hsz2 hs2, hkeep.out w2 hr2.out, fun h => by omega⟩
              have h := hown2.out
              rw [htx.out, List.map_append, ← Nat.add_assoc]
              rw [← hu.out] at h
              exact h
        · obtain rfl : k = 2 := by omega
          go_wp2_with fail
          go_roundg (15 - i)
          case measure => omega
          case rel =>
            refine ⟨i + 1, by omega, by go_num, ?_, z1, hB1, hsz2⟩
            rw [← txk_2, show 2 * (i + 1) = 2 * i + 2 by omega]
            exact hown
    · obtain rfl : i = 16 := by omega
      have hcv := fun (W : World) (h : W.ownsRow (w.heap.size + 1) 5 1 u3 (2 * 16) ((txt d 16).map enc8)) => conv_owned (P := Tryd.prog) (src := 24) (dst := 9) Tryd.underlying24 Tryd.underlying5 Tryd.underlying9 h
      have hcv2 := hcv wr hown.out
      rw [← hs.out] at hcv2
      clear hcv
      go_wp2_with fail
      go_ret
      exact ⟨rfl, hB.out⟩
end Go.Proofs.YtimiejahkcjcdaaDoor
