/- The digest's Sum. -/
import Derived.Test.YtimiejahkcjcdaaDoorM33
import Derived.StillTailTactics
namespace Go.Proofs.YtimiejahkcjcdaaDoor
open Go.RowKit

theorem digest_c (s : S4) (d : Nat → UInt8) (v : Value) (l : List UInt8) (n : Nat) (hn : n ≤ 1099511627776) (hl : l.length ≤ 1099511627776) (hd : d = dgF (allF s (l ++ padF n))) (w : World) (hT : Tabs w) (hr : RowB w v l) :
    Calls Tryd.prog 34 #[.agg #[.int .u32 (U s.a), .int .u32 (U s.b), .int .u32 (U s.c), .int .u32 (U s.d)], v, .int .i64 n] w fun e w' => e = .returned (.agg #[e8 d 0, e8 d 1, e8 d 2, e8 d 3, e8 d 4, e8 d 5, e8 d 6, e8 d 7, e8 d 8, e8 d 9, e8 d 10, e8 d 11, e8 d 12, e8 d 13, e8 d 14, e8 d 15]) ∧ Below w.heap.size w w' := digest_to s d v l n hn hl hd w hT hr
set_option maxRecDepth 100000 in
set_option maxHeartbeats 2000000 in
theorem dsum_any (D n : Nat) (s : S4) (v : Value) (l : List UInt8) (hn : n ≤ 1099511627776) (hl : l.length ≤ 1099511627776) (d : Nat → UInt8) (hd : d = dgF (allF s (l ++ padF n))) (w : World) (hD : D < w.heap.size) (h : Dig w D s v n) (hs : 0 < n ∨ s ≠ SZ) (hr : RowB w v l) (hT : Tabs w) :
    Calls Tryd.prog 28 #[.pointer (some ⟨D, 0, none⟩)] w fun e w' => e = .returned (.tuple #[dgv d, .int .i64 0]) ∧ Below w.heap.size w w' := by
  replace hs := Lib.hid hs
  replace hd := Lib.hid hd
  have B0 := Lib.hid ((Below.refl w.heap.size w).alloc (Nat.le_refl _) (z16 34))
  have z0 := Lib.hid (B16.new w 34)
  have H := Lib.hid (h.block (B0.out.block D hD))
  have HR := Lib.hid (hr.on B0.out)
  have HT := Lib.hid (hT.on B0.out)
  clear h hr hT
  go_enter Tryd.func28, Tryd.ntmps28
  go_wp2_with fail
  show Calls _ _ _ (w.alloc (z16 34)) _
  have hsz : w.heap.size < (w.alloc (z16 34)).heap.size := by simp
  generalize w.alloc (z16 34) = w0 at B0 z0 H HR HT hsz ⊢
  refine (some_any D n s v _ H.out hs.out).mono ?_; rintro e w1 ⟨rfl, rfl⟩
  obtain ⟨⟨⟨a0, a1, a2, a3⟩, _⟩, ⟨a4, _⟩, ⟨a5, _⟩⟩ := H.out
  go_wp2_with fail
  go_still_tail 12, (by kernel_rfl)
  change wpList _ _ _ _ _ w0.drew
  have HR1 : Hid (RowB w0.drew v l) := HR.out
  have HT1 : Hid (Tabs w0.drew) := HT.out.on ((Below.refl _ _).drew)
  have B1 : Hid (Below w.heap.size w w0.drew) := B0.out.drew
  have z1 : Hid (B16 w0.drew w.heap.size (fun _ => 0)) := z0.out
  have hsz1 : w.heap.size < w0.drew.heap.size := hsz
  clear B0 z0 H HR HT hsz a0 a1 a2 a3 a4 a5
  generalize w0.drew = wd at HR1 HT1 B1 z1 hsz1 ⊢
  go_wp2_with fail
  refine (digest_c s d v l n hn hl hd.out wd HT1.out HR1.out).mono ?_; rintro e w9 ⟨rfl, hb9⟩
  have Z9 := z1.out.block (hb9.block w.heap.size hsz1)
  have B9 := Lib.hid (B1.out.trans (hb9.mono (by omega)))
  obtain ⟨x0, x1, x2, x3, x4, x5, x6, x7, x8, x9, x10, x11, x12, x13, x14, x15⟩ := Z9.cells
  obtain ⟨g0, g1, g2, g3, g4, g5, g6, g7, g8, g9, g10, g11, g12, g13, g14, g15⟩ := Z9.frees
  have W9 := Lib.hid (B16.setAll Z9 d)
  have WB := Lib.hid (setAll16_below d B9.out (Nat.le_refl w.heap.size))
  clear hb9 Z9 B9 z1 HR1 HT1 B1
  go_wp2_with fail
  show bodyPost _ _ _ _ _ (setAll16 w9 w.heap.size d)
  generalize setAll16 w9 w.heap.size d = WE at W9 WB ⊢
  obtain ⟨k0, k1, k2, k3, k4, k5, k6, k7, k8, k9, k10, k11, k12, k13, k14, k15⟩ := W9.out.cells
  clear W9
  exact bodyPost_ret (v := .tuple #[.agg #[.int .u8 ((d 0).toNat : Int), .int .u8 ((d 1).toNat : Int), .int .u8 ((d 2).toNat : Int), .int .u8 ((d 3).toNat : Int), .int .u8 ((d 4).toNat : Int), .int .u8 ((d 5).toNat : Int), .int .u8 ((d 6).toNat : Int), .int .u8 ((d 7).toNat : Int), .int .u8 ((d 8).toNat : Int), .int .u8 ((d 9).toNat : Int), .int .u8 ((d 10).toNat : Int), .int .u8 ((d 11).toNat : Int), .int .u8 ((d 12).toNat : Int), .int .u8 ((d 13).toNat : Int), .int .u8 ((d 14).toNat : Int), .int .u8 ((d 15).toNat : Int)], .int .i64 0]) (by simp [results, Tryd.results28, go_sem, k0, k1, k2, k3, k4, k5, k6, k7, k8, k9, k10, k11, k12, k13, k14, k15]) rfl ⟨rfl, WB.out⟩
set_option maxRecDepth 100000 in
set_option maxHeartbeats 2000000 in
theorem dsum_no (w : World) (p : Option Addr) (hs : ∀ W, Below w.heap.size w W → Calls Tryd.prog 43 #[.pointer p] W fun e w' => e = .returned (.bool false) ∧ W = w') :
    Calls Tryd.prog 28 #[.pointer p] w fun e w' => e = .returned (.tuple #[.agg #[.int .u8 0, .int .u8 0, .int .u8 0, .int .u8 0, .int .u8 0, .int .u8 0, .int .u8 0, .int .u8 0, .int .u8 0, .int .u8 0, .int .u8 0, .int .u8 0, .int .u8 0, .int .u8 0, .int .u8 0, .int .u8 0], .int .i64 1]) ∧ Below w.heap.size w w' := by
  have B0 := Lib.hid ((Below.refl w.heap.size w).alloc (Nat.le_refl _) (z16 34))
  replace hs := Lib.hid hs
  have z0 := Lib.hid (B16.new w 34)
  go_enter Tryd.func28, Tryd.ntmps28
  go_wp2_with fail
  show Calls _ _ _ (w.alloc (z16 34)) _
  generalize w.alloc (z16 34) = w0 at B0 z0 ⊢
  refine (hs.out _ B0.out).mono ?_; rintro e w1 ⟨rfl, rfl⟩
  obtain ⟨x0, x1, x2, x3, x4, x5, x6, x7, x8, x9, x10, x11, x12, x13, x14, x15⟩ := z0.out.cells
  obtain ⟨g0, g1, g2, g3, g4, g5, g6, g7, g8, g9, g10, g11, g12, g13, g14, g15⟩ := z0.out.frees
  have W9 := Lib.hid (B16.setAll z0.out (fun _ => 0))
  have WB := Lib.hid (setAll16_below (fun _ => 0) B0.out (Nat.le_refl w.heap.size))
  clear z0 B0 hs
  go_wp2_with fail
  show bodyPost _ _ _ _ _ (setAll16 w0 w.heap.size (fun _ => 0))
  generalize setAll16 w0 w.heap.size (fun _ => 0) = WE at W9 WB ⊢
  obtain ⟨k0, k1, k2, k3, k4, k5, k6, k7, k8, k9, k10, k11, k12, k13, k14, k15⟩ := W9.out.cells
  clear W9
  exact bodyPost_ret (v := .tuple #[.agg #[.int .u8 0, .int .u8 0, .int .u8 0, .int .u8 0, .int .u8 0, .int .u8 0, .int .u8 0, .int .u8 0, .int .u8 0, .int .u8 0, .int .u8 0, .int .u8 0, .int .u8 0, .int .u8 0, .int .u8 0, .int .u8 0], .int .i64 1]) (by simp [results, Tryd.results28, go_sem, k0, k1, k2, k3, k4, k5, k6, k7, k8, k9, k10, k11, k12, k13, k14, k15]) rfl ⟨rfl, WB.out⟩
end Go.Proofs.YtimiejahkcjcdaaDoor
