/- Read, at strings of 32 bytes: digits all. -/
import Derived.Test.YtimiejahkcjcdaaDoorM14
namespace Go.Proofs.YtimiejahkcjcdaaDoor
open Go.RowKit

set_option maxRecDepth 100000 in
set_option maxHeartbeats 1000000 in
theorem read_good (s : ByteArray) (h : s.size = 32) (hall : okk s 32 = true) (w : World) :
    Calls Tryd.prog 23 #[.string s] w fun e w' => e = .returned (.tuple #[dgv (rdE s), .int .i64 (rdN s)]) ∧ Below w.heap.size w w' := by
  have t1 : ((s.size : Int) != 32) = false := by simp; omega
  go_enter Tryd.func23, Tryd.ntmps23
  go_wp2_with fail
  have z0 := (B16.new w 34).block (Below.heap_alloc (w.alloc (z16 34)) (z16 34) w.heap.size (by simp))
  have z1 := B16.new (w.alloc (z16 34)) 34
  have hB := ((Below.refl w.heap.size w).alloc (Nat.le_refl _) (z16 34)).alloc (by simp) (z16 34)
  simp only [World.size_alloc] at z1
  go_loopg [13] 32 (fun g s13 wr => ∃ k : Nat, k + g = 32 ∧ s13 = .int .i64 k ∧ okk s k = true ∧ Hid (B16 wr w.heap.size (fun _ => 0)) ∧ Hid (B16 wr (w.heap.size + 1) (rdk s k)) ∧ Hid (Below w.heap.size w wr))
  case atStart => exact ⟨0, by omega, rfl, rfl, z0, z1, hB⟩
  case round =>
    clear z0 z1 hB
    obtain ⟨k, hk, rfl, hok, z0, z1, hB⟩ := hrel
    by_cases hlt : k < 32
    · have t2 : decide ((k : Int) < s.size) = true := decide_eq_true (by omega)
      have hcall := Lib.hid (fun W => ib_to s k (by omega) W)
      obtain ⟨x, hx⟩ : ∃ x, Hid (x = vx (sb s k)) := ⟨_, rfl⟩
      rw [← hx.out] at hcall
      by_cases hv : x < 16
      · rw [if_pos hv] at hcall
        have t3 : decide ((x : Int) < 0) = false := decide_eq_false (by omega)
        have hc := (z1.out (k / 2) (by omega)).1
        have hf := (z1.out (k / 2) (by omega)).2
        obtain ⟨y, hy⟩ : ∃ y, Hid (y = rdk s k (k / 2)) := ⟨_, rfl⟩
        rw [show e8 (rdk s k) (k / 2) = .int .u8 (y.toNat : Int) by rw [hy.out]] at hc
        go_wp2_with fail
        refine (hcall.out _).mono ?_; rintro e w1 ⟨rfl, rfl⟩
        go_wp2_with fail
        go_roundg (gk - 1)
        case measure => omega
        case rel =>
          rw [rd_or y x hv]
          refine ⟨k + 1, by omega, by go_num, by rw [okk, hok, ← hx.out]; simpa using hv, z0.out.block (heap_other' (by omega)), ?_, hB.out.setCell (p := ⟨w.heap.size + 1, k / 2, none⟩) (by show w.heap.size ≤ w.heap.size + 1; omega) _⟩
          refine (z1.out.set (k / 2) (by omega) _).congr (fun i hi => ?_)
          rw [rdk, hx.out, hy.out]
      · exfalso
        have := okk_mono s 32 (k + 1) (by omega) hall
        rw [okk, ← hx.out] at this
        simp at this
        omega
    · obtain rfl : k = 32 := by omega
      have t2 : decide (((32 : Nat) : Int) < s.size) = false := decide_eq_false (by omega)
      obtain ⟨d, hd⟩ : ∃ d, Hid (d = rdk s 32) := ⟨_, rfl⟩
      rw [← hd.out] at z1
      have hd2 : rdE s = d := by rw [rdE, if_pos ⟨h, hok⟩, hd.out]
      have hn2 : rdN s = 0 := by rw [rdN, if_pos ⟨h, hok⟩]
      obtain ⟨g0, g1, g2, g3, g4, g5, g6, g7, g8, g9, g10, g11, g12, g13, g14, g15⟩ := z0.out.frees
      obtain ⟨y0, y1, y2, y3, y4, y5, y6, y7, y8, y9, y10, y11, y12, y13, y14, y15⟩ := z0.out.cells
      have HE := B16.setAll z0.out d
      have HB := Lib.hid (setAll16_below d hB.out (Nat.le_refl w.heap.size))
      obtain ⟨x0, x1, x2, x3, x4, x5, x6, x7, x8, x9, x10, x11, x12, x13, x14, x15⟩ := z1.out.cells
      replace hd2 := Lib.hid hd2
      replace hn2 := Lib.hid hn2
      go_wp2_with fail
      show bodyPost _ _ _ _ _ (setAll16 wr w.heap.size d)
      generalize setAll16 wr w.heap.size d = WE at HE HB ⊢
      obtain ⟨k0, k1, k2, k3, k4, k5, k6, k7, k8, k9, k10, k11, k12, k13, k14, k15⟩ := HE.cells
      clear HE
      rw [hd2.out, hn2.out]
      exact bodyPost_ret (v := .tuple #[.agg #[.int .u8 ((d 0).toNat : Int), .int .u8 ((d 1).toNat : Int), .int .u8 ((d 2).toNat : Int), .int .u8 ((d 3).toNat : Int), .int .u8 ((d 4).toNat : Int), .int .u8 ((d 5).toNat : Int), .int .u8 ((d 6).toNat : Int), .int .u8 ((d 7).toNat : Int), .int .u8 ((d 8).toNat : Int), .int .u8 ((d 9).toNat : Int), .int .u8 ((d 10).toNat : Int), .int .u8 ((d 11).toNat : Int), .int .u8 ((d 12).toNat : Int), .int .u8 ((d 13).toNat : Int), .int .u8 ((d 14).toNat : Int), .int .u8 ((d 15).toNat : Int)], .int .i64 0]) (by simp [results, Tryd.results23, go_sem, k0, k1, k2, k3, k4, k5, k6, k7, k8, k9, k10, k11, k12, k13, k14, k15]) rfl ⟨rfl, HB.out⟩
end Go.Proofs.YtimiejahkcjcdaaDoor
