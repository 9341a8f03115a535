/- The reference: Read, where the text is another. -/
import Derived.Test.YtimiejahkcjcdaaDoorM24
namespace Go.Proofs.YtimiejahkcjcdaaDoor
open Go.RowKit

set_option maxRecDepth 100000 in
set_option maxHeartbeats 2000000 in
theorem rread_no (s : ByteArray) (hs : s.size ≤ 4611686018427387904) (d : Nat → UInt8) (hd : d = rrE s) (t : ByteArray) (ht : t = ⟨(txt d 16).toArray⟩) (hb : (t.toList == s.toList) = false) (w : World) :
    Calls Tryd.prog 38 #[.string s] w fun e w' => e = .returned (.tuple #[dgv (fun _ => 0), .int .i64 30]) ∧ Below w.heap.size w w' := by
  replace hd := Lib.hid hd
  replace hb := Lib.hid hb
  have htx := Lib.hid (fun W => rtext_any d t ht W)
  clear ht
  go_enter Tryd.func38, Tryd.ntmps38
  go_upto_block 0 with (fail)
  have z0 := (B16.new w 34).block (Below.heap_alloc (w.alloc (z16 34)) (z16 34) w.heap.size (by simp))
  have z1 := B16.new (w.alloc (z16 34)) 34
  have hB := ((Below.refl w.heap.size w).alloc (Nat.le_refl _) (z16 34)).alloc (by simp) (z16 34)
  simp only [World.size_alloc] at z1
  show Code.wp _ _ _ _ ((w.alloc (z16 34)).alloc (z16 34))
  generalize (w.alloc (z16 34)).alloc (z16 34) = w0 at z0 z1 hB ⊢
  go_cut [5] (fun _ wx => Hid (B16 wx w.heap.size (fun _ => 0)) ∧ Hid (B16 wx (w.heap.size + 1) d) ∧ Hid (Below w.heap.size w wx))
  case first =>
    go_wp2_with fail
    obtain ⟨M, hM⟩ : ∃ M, Hid (M = min s.size 32) := ⟨_, rfl⟩
    have hM1 : M ≤ s.size := by rw [hM.out]; omega
    have hM2 : M ≤ 32 := by rw [hM.out]; omega
    go_loopg [5] M (fun g s5 wr => ∃ k : Nat, k + g = M ∧ s5 = .int .i64 k ∧ Hid (B16 wr w.heap.size (fun _ => 0)) ∧ Hid (B16 wr (w.heap.size + 1) (rrk s k)) ∧ Hid (Below w.heap.size w wr))
    case atStart => exact ⟨0, by omega, rfl, z0, z1, hB⟩
    case round =>
      clear z0 z1 hB
      obtain ⟨k, hk, rfl, z0, z1, hB⟩ := hrel
      by_cases hlt : k < M
      · have t1 : decide (k < s.size) = true := decide_eq_true (by omega)
        have t2 : decide ((k : Int) < 32) = true := decide_eq_true (by omega)
        have hks : k < s.size := by omega
        obtain ⟨c, hc⟩ : ∃ c, s[k] = c := ⟨_, rfl⟩
        have hsb := Lib.hid ((sb_eq s k hks).symm.trans hc)
        have hcl := c.toNat_lt
        have hc5 := (z1.out (k / 2) (by omega)).1
        have hf5 := (z1.out (k / 2) (by omega)).2
        obtain ⟨y, hy⟩ : ∃ y, Hid (y = rrk s k (k / 2)) := ⟨_, rfl⟩
        rw [show e8 (rrk s k) (k / 2) = .int .u8 (y.toNat : Int) by rw [hy.out]] at hc5
        have hyl := y.toNat_lt
        rcases (show (97 ≤ c.toNat ∧ c.toNat ≤ 102) ∨ (48 ≤ c.toNat ∧ c.toNat ≤ 57) ∨ (c.toNat < 48) ∨ (57 < c.toNat ∧ c.toNat < 97) ∨ 102 < c.toNat by omega) with ⟨h1, h2⟩ | ⟨h1, h2⟩ | h1 | ⟨h1, h2⟩ | h1
        · as_aux_lemma =>
          have q1 : decide (48 ≤ (c.toNat : Int)) = true := decide_eq_true (by omega)
          have q2 : decide ((c.toNat : Int) ≤ 57) = false := decide_eq_false (by omega)
          have q3 : decide (97 ≤ (c.toNat : Int)) = true := decide_eq_true (by omega)
          have q4 : decide ((c.toNat : Int) ≤ 102) = true := decide_eq_true (by omega)
          have hX := Lib.hid (show (y.toNat : Int) * 16 % 256 + ((c.toNat : Int) - 87) = ((UInt8.ofNat (y.toNat * 16 + vr c)).toNat : Int) by rw [UInt8.toNat_ofNat']; unfold vr; (repeat' split) <;> omega)
          go_wp2_with fail
          go_roundg (gk - 1)
          case measure => omega
          case rel =>
            rw [hX.out]
            refine ⟨k + 1, by omega, by go_num, z0.out.block (heap_other' (by omega)), ?_, hB.out.setCell (p := ⟨w.heap.size + 1, k / 2, none⟩) (by show w.heap.size ≤ w.heap.size + 1; omega) _⟩
            refine (z1.out.set (k / 2) (by omega) _).congr (fun i hi => ?_)
            rw [rrk, hsb.out, hy.out]
        · as_aux_lemma =>
          have q1 : decide (48 ≤ (c.toNat : Int)) = true := decide_eq_true (by omega)
          have q2 : decide ((c.toNat : Int) ≤ 57) = true := decide_eq_true (by omega)
          have q3 : decide (97 ≤ (c.toNat : Int)) = false := decide_eq_false (by omega)
          have q4 : decide ((c.toNat : Int) ≤ 102) = true := decide_eq_true (by omega)
          have hX := Lib.hid (show (y.toNat : Int) * 16 % 256 + ((c.toNat : Int) - 48) = ((UInt8.ofNat (y.toNat * 16 + vr c)).toNat : Int) by rw [UInt8.toNat_ofNat']; unfold vr; (repeat' split) <;> omega)
          go_wp2_with fail
          go_roundg (gk - 1)
          case measure => omega
          case rel =>
            rw [hX.out]
            refine ⟨k + 1, by omega, by go_num, z0.out.block (heap_other' (by omega)), ?_, hB.out.setCell (p := ⟨w.heap.size + 1, k / 2, none⟩) (by show w.heap.size ≤ w.heap.size + 1; omega) _⟩
            refine (z1.out.set (k / 2) (by omega) _).congr (fun i hi => ?_)
            rw [rrk, hsb.out, hy.out]
        · as_aux_lemma =>
          have q1 : decide (48 ≤ (c.toNat : Int)) = false := decide_eq_false (by omega)
          have q2 : decide ((c.toNat : Int) ≤ 57) = true := decide_eq_true (by omega)
          have q3 : decide (97 ≤ (c.toNat : Int)) = false := decide_eq_false (by omega)
          have q4 : decide ((c.toNat : Int) ≤ 102) = true := decide_eq_true (by omega)
          have hX := Lib.hid (show (y.toNat : Int) * 16 % 256 = ((UInt8.ofNat (y.toNat * 16 + vr c)).toNat : Int) by rw [UInt8.toNat_ofNat']; unfold vr; (repeat' split) <;> omega)
          go_wp2_with fail
          go_roundg (gk - 1)
          case measure => omega
          case rel =>
            rw [hX.out]
            refine ⟨k + 1, by omega, by go_num, z0.out.block (heap_other' (by omega)), ?_, hB.out.setCell (p := ⟨w.heap.size + 1, k / 2, none⟩) (by show w.heap.size ≤ w.heap.size + 1; omega) _⟩
            refine (z1.out.set (k / 2) (by omega) _).congr (fun i hi => ?_)
            rw [rrk, hsb.out, hy.out]
        · as_aux_lemma =>
          have q1 : decide (48 ≤ (c.toNat : Int)) = true := decide_eq_true (by omega)
          have q2 : decide ((c.toNat : Int) ≤ 57) = false := decide_eq_false (by omega)
          have q3 : decide (97 ≤ (c.toNat : Int)) = false := decide_eq_false (by omega)
          have q4 : decide ((c.toNat : Int) ≤ 102) = true := decide_eq_true (by omega)
          have hX := Lib.hid (show (y.toNat : Int) * 16 % 256 = ((UInt8.ofNat (y.toNat * 16 + vr c)).toNat : Int) by rw [UInt8.toNat_ofNat']; unfold vr; (repeat' split) <;> omega)
          go_wp2_with fail
          go_roundg (gk - 1)
          case measure => omega
          case rel =>
            rw [hX.out]
            refine ⟨k + 1, by omega, by go_num, z0.out.block (heap_other' (by omega)), ?_, hB.out.setCell (p := ⟨w.heap.size + 1, k / 2, none⟩) (by show w.heap.size ≤ w.heap.size + 1; omega) _⟩
            refine (z1.out.set (k / 2) (by omega) _).congr (fun i hi => ?_)
            rw [rrk, hsb.out, hy.out]
        · as_aux_lemma =>
          have q1 : decide (48 ≤ (c.toNat : Int)) = true := decide_eq_true (by omega)
          have q2 : decide ((c.toNat : Int) ≤ 57) = false := decide_eq_false (by omega)
          have q3 : decide (97 ≤ (c.toNat : Int)) = true := decide_eq_true (by omega)
          have q4 : decide ((c.toNat : Int) ≤ 102) = false := decide_eq_false (by omega)
          have hX := Lib.hid (show (y.toNat : Int) * 16 % 256 = ((UInt8.ofNat (y.toNat * 16 + vr c)).toNat : Int) by rw [UInt8.toNat_ofNat']; unfold vr; (repeat' split) <;> omega)
          go_wp2_with fail
          go_roundg (gk - 1)
          case measure => omega
          case rel =>
            rw [hX.out]
            refine ⟨k + 1, by omega, by go_num, z0.out.block (heap_other' (by omega)), ?_, hB.out.setCell (p := ⟨w.heap.size + 1, k / 2, none⟩) (by show w.heap.size ≤ w.heap.size + 1; omega) _⟩
            refine (z1.out.set (k / 2) (by omega) _).congr (fun i hi => ?_)
            rw [rrk, hsb.out, hy.out]
      · obtain rfl : k = M := by omega
        have hxd : d = rrk s k := by rw [hd.out, hM.out]; rfl
        rw [← hxd] at z1
        clear hxd hd
        have tx : (decide (k < s.size) = false) ∨ (decide (k < s.size) = true ∧ decide ((k : Int) < 32) = false) := by
          have := hM.out
          by_cases h : k < s.size
          · exact .inr ⟨decide_eq_true h, decide_eq_false (by omega)⟩
          · exact .inl (decide_eq_false h)
        rcases tx with t1 | ⟨t1, t2⟩
        all_goals
          go_wp2_with fail
          go_meet
          exact ⟨z0, z1, hB⟩
  case rest =>
    obtain ⟨hzs, hz1s, hB⟩ := hcut
    clear z0 z1
    have HE := Lib.hid (fun W (h : B16 W w.heap.size (fun _ => 0)) => B16.setAll h (fun _ => 0))
    have HB := Lib.hid (fun W (h : Below w.heap.size w W) => setAll16_below (fun _ => 0) h (Nat.le_refl w.heap.size))
    obtain ⟨y0, y1, y2, y3, y4, y5, y6, y7, y8, y9, y10, y11, y12, y13, y14, y15⟩ := hz1s.out.cells
    have hsz : w.heap.size + 1 < wc.heap.size := World.block_lt_of_cell? wc _ y0
    have e1 := hb.out
    have e2 : (t.toList != s.toList) = true := by simp [bne, e1]
    clear hb
    go_wp2_with fail
    refine (htx.out _).mono ?_; rintro e w9 ⟨rfl, hb9⟩
    have Z9 := hzs.out.block (hb9.block w.heap.size (by omega))
    have B9 := Lib.hid (hB.out.trans (hb9.mono (by omega)))
    obtain ⟨x0, x1, x2, x3, x4, x5, x6, x7, x8, x9, x10, x11, x12, x13, x14, x15⟩ := Z9.cells
    obtain ⟨g0, g1, g2, g3, g4, g5, g6, g7, g8, g9, g10, g11, g12, g13, g14, g15⟩ := Z9.frees
    have W9 := Lib.hid (HE.out w9 Z9)
    have WB := Lib.hid (HB.out w9 B9.out)
    clear hb9 HE HB htx hzs hz1s hB B9 Z9
    go_wp2_with fail
    show bodyPost _ _ _ _ _ (setAll16 w9 w.heap.size (fun _ => 0))
    generalize setAll16 w9 w.heap.size (fun _ => 0) = WE at W9 WB ⊢
    obtain ⟨k0, k1, k2, k3, k4, k5, k6, k7, k8, k9, k10, k11, k12, k13, k14, k15⟩ := W9.out.cells
    clear W9
    exact bodyPost_ret (v := .tuple #[.agg #[.int .u8 0, .int .u8 0, .int .u8 0, .int .u8 0, .int .u8 0, .int .u8 0, .int .u8 0, .int .u8 0, .int .u8 0, .int .u8 0, .int .u8 0, .int .u8 0, .int .u8 0, .int .u8 0, .int .u8 0, .int .u8 0], .int .i64 30]) (by simp [results, Tryd.results38, go_sem, k0, k1, k2, k3, k4, k5, k6, k7, k8, k9, k10, k11, k12, k13, k14, k15]) rfl ⟨rfl, WB.out⟩
end Go.Proofs.YtimiejahkcjcdaaDoor
