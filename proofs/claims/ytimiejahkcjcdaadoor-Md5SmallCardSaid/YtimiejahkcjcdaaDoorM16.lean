/- Read, at strings of 32 bytes: not all digits. -/
import Derived.Test.YtimiejahkcjcdaaDoorM14
namespace Go.Proofs.YtimiejahkcjcdaaDoor
open Go.RowKit

set_option maxRecDepth 100000 in
set_option maxHeartbeats 1000000 in
theorem read_bad (s : ByteArray) (h : s.size = 32) (hall : okk s 32 = false) (w : World) :
    Calls Tryd.prog 23 #[.string s] w fun e w' => e = .returned (.tuple #[dgv (rdE s), .int .i64 (rdN s)]) ∧ Below w.heap.size w w' := by
  have t1 : ((s.size : Int) != 32) = false := by simp; omega
  go_enter Tryd.func23, Tryd.ntmps23
  go_wp2_with fail
  have z0 := (B16.new w 34).block (Below.heap_alloc (w.alloc (z16 34)) (z16 34) w.heap.size (by simp))
  have z1 := B16.new (w.alloc (z16 34)) 34
  have hB := ((Below.refl w.heap.size w).alloc (Nat.le_refl _) (z16 34)).alloc (by simp) (z16 34)
  simp only [World.size_alloc] at z1
  go_loopg [13] 32 (fun g s13 wr => ∃ k : Nat, k + g = 32 ∧ s13 = .int .i64 k ∧ okk s k = true ∧ Hid (B16 wr w.heap.size (fun _ => 0)) ∧ Hid (B16 wr (w.heap.size + 1) (rdk s k)) ∧ Hid (Below w.heap.size w wr))
  case atStart => exact ⟨0, by omega, rfl, rfl, z0, z1, hB⟩
  case round =>
    clear z0 z1 hB
    obtain ⟨k, hk, rfl, hok, z0, z1, hB⟩ := hrel
    obtain ⟨g0, g1, g2, g3, g4, g5, g6, g7, g8, g9, g10, g11, g12, g13, g14, g15⟩ := z0.out.frees
    obtain ⟨y0, y1, y2, y3, y4, y5, y6, y7, y8, y9, y10, y11, y12, y13, y14, y15⟩ := z0.out.cells
    by_cases hlt : k < 32
    · have t2 : decide ((k : Int) < s.size) = true := decide_eq_true (by omega)
      have hcall := Lib.hid (fun W => ib_to s k (by omega) W)
      obtain ⟨x, hx⟩ : ∃ x, Hid (x = vx (sb s k)) := ⟨_, rfl⟩
      rw [← hx.out] at hcall
      by_cases hv : x < 16
      · rw [if_pos hv] at hcall
        have t3 : decide ((x : Int) < 0) = false := decide_eq_false (by omega)
        have hc := (z1.out (k / 2) (by omega)).1
        have hf := (z1.out (k / 2) (by omega)).2
        obtain ⟨y, hy⟩ : ∃ y, Hid (y = rdk s k (k / 2)) := ⟨_, rfl⟩
        rw [show e8 (rdk s k) (k / 2) = .int .u8 (y.toNat : Int) by rw [hy.out]] at hc
        clear y0 y1 y2 y3 y4 y5 y6 y7 y8 y9 y10 y11 y12 y13 y14 y15 g0 g1 g2 g3 g4 g5 g6 g7 g8 g9 g10 g11 g12 g13 g14 g15
        go_wp2_with fail
        refine (hcall.out _).mono ?_; rintro e w1 ⟨rfl, rfl⟩
        go_wp2_with fail
        go_roundg (gk - 1)
        case measure => omega
        case rel =>
          rw [rd_or y x hv]
          refine ⟨k + 1, by omega, by go_num, by rw [okk, hok, ← hx.out]; simpa using hv, z0.out.block (heap_other' (by omega)), ?_, hB.out.setCell (p := ⟨w.heap.size + 1, k / 2, none⟩) (by show w.heap.size ≤ w.heap.size + 1; omega) _⟩
          refine (z1.out.set (k / 2) (by omega) _).congr (fun i hi => ?_)
          rw [rdk, hx.out, hy.out]
      · rw [if_neg hv] at hcall
        have hno := hall
        have hz := B16.setAll z0.out (fun _ => 0)
        have hb := setAll16_below (fun _ => 0) hB.out (Nat.le_refl w.heap.size)
        replace hz := Lib.hid hz
        replace hb := Lib.hid hb
        go_wp2_with fail
        refine (hcall.out _).mono ?_; rintro e w1 ⟨rfl, rfl⟩
        go_wp2_with fail
        show bodyPost _ _ _ _ _ (setAll16 wr w.heap.size (fun _ => 0))
        generalize setAll16 wr w.heap.size (fun _ => 0) = WE at hz hb ⊢
        obtain ⟨k0, k1, k2, k3, k4, k5, k6, k7, k8, k9, k10, k11, k12, k13, k14, k15⟩ := hz.out.cells
        clear hz
        have e1 : rdE s = fun _ => 0 := by rw [rdE, if_neg (fun e => by rw [hno] at e; cases e.2)]
        have e2 : rdN s = 30 := by rw [rdN, if_neg (fun e => by rw [hno] at e; cases e.2)]
        rw [e1, e2]
        exact bodyPost_ret (v := .tuple #[.agg #[.int .u8 0, .int .u8 0, .int .u8 0, .int .u8 0, .int .u8 0, .int .u8 0, .int .u8 0, .int .u8 0, .int .u8 0, .int .u8 0, .int .u8 0, .int .u8 0, .int .u8 0, .int .u8 0, .int .u8 0, .int .u8 0], .int .i64 30]) (by simp [results, Tryd.results23, go_sem, k0, k1, k2, k3, k4, k5, k6, k7, k8, k9, k10, k11, k12, k13, k14, k15]) rfl ⟨rfl, hb.out⟩
    · obtain rfl : k = 32 := by omega
      rw [hall] at hok
      cases hok
end Go.Proofs.YtimiejahkcjcdaaDoor
