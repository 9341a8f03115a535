/- Sum, Word, Modulo. -/
import Derived.Test.YtimiejahkcjcdaaDoorM9
namespace Go.Proofs.YtimiejahkcjcdaaDoor
open Go.RowKit

theorem allK_left (l p : List UInt8) (s : S4) : ∀ k, k ≤ l.length / 64 → allK (l ++ p) s k = allK l s k
  | 0, _ => rfl
  | k + 1, h => by
    rw [allK, allK, allK_left l p s k (by omega), List.drop_append_of_le_length (by omega), List.take_append_of_le_length (by simp; omega)]
theorem restF_app (l p : List UInt8) : (l ++ p).drop (l.length / 64 * 64) = restF l ++ p := by
  rw [List.drop_append_of_le_length (by omega), restF]
theorem allK_right (l p : List UInt8) (s : S4) : ∀ j, allK (l ++ p) s (l.length / 64 + j) = allK (restF l ++ p) (allF s l) j
  | 0 => by rw [allK, Nat.add_zero, allK_left l p s _ (Nat.le_refl _)]; rfl
  | j + 1 => by
    rw [← Nat.add_assoc, allK, allK, allK_right l p s j, ← restF_app, List.drop_drop]
    congr 3
    omega
theorem restF_len (l : List UInt8) : (restF l).length = l.length % 64 := by simp [restF]; omega
theorem allF_app (l p : List UInt8) (s : S4) : allF s (l ++ p) = allF (allF s l) (restF l ++ p) := by
  unfold allF
  rw [show (l ++ p).length / 64 = l.length / 64 + (restF l ++ p).length / 64 by rw [List.length_append, List.length_append, restF_len]; omega, allK_right]
  rfl
/-- The state after the bytes and their padding; the digest. -/
def mdF (l : List UInt8) : S4 := allF S0 (l ++ padF l.length)
def sumF (l : List UInt8) : Nat → UInt8 := dgF (mdF l)

theorem start_to (s : S4) (h : s = S0) (w : World) : Calls Tryd.prog 16 #[] w fun e w' => e = .returned (.agg #[.int .u32 (U s.a), .int .u32 (U s.b), .int .u32 (U s.c), .int .u32 (U s.d)]) ∧ Below w.heap.size w w' := by
  subst h; exact start_any w
theorem digest_to (s : S4) (d : Nat → UInt8) (v : Value) (l : List UInt8) (n : Nat) (hn : n ≤ 1099511627776) (hl : l.length ≤ 1099511627776) (hd : d = dgF (allF s (l ++ padF n))) (w : World) (hT : Tabs w) (hr : RowB w v l) :
    Calls Tryd.prog 34 #[.agg #[.int .u32 (U s.a), .int .u32 (U s.b), .int .u32 (U s.c), .int .u32 (U s.d)], v, .int .i64 n] w fun e w' => e = .returned (.agg #[e8 d 0, e8 d 1, e8 d 2, e8 d 3, e8 d 4, e8 d 5, e8 d 6, e8 d 7, e8 d 8, e8 d 9, e8 d 10, e8 d 11, e8 d 12, e8 d 13, e8 d 14, e8 d 15]) ∧ Below w.heap.size w w' := by
  subst hd; exact digest_any s _ v l n hn hl rfl w hT hr
theorem rowB_len {w : World} {v : Value} {l : List UInt8} (h : RowB w v l) : ∃ a c, v = .slice a l.length c := by
  obtain ⟨a, c, h, _⟩ := rowB_parts h
  exact ⟨a, c, h⟩

set_option maxRecDepth 100000 in
set_option maxHeartbeats 1000000 in
theorem sum_any (v : Value) (l : List UInt8) (hl : l.length ≤ 1099511627776) (d : Nat → UInt8) (hd : d = sumF l) (w : World) (hT : Tabs w) (hr : RowB w v l) :
    Calls Tryd.prog 18 #[v] w fun e w' => e = .returned (dgv d) ∧ Below w.heap.size w w' := by
  obtain ⟨a, c, rfl⟩ := rowB_len hr
  obtain ⟨s, hs⟩ : ∃ s, Hid (s = S0) := ⟨_, rfl⟩
  obtain ⟨s2, hs2⟩ : ∃ s2, Hid (s2 = allF s l) := ⟨_, rfl⟩
  have hd' : d = dgF (allF s2 (restF l ++ padF l.length)) := by rw [hs2.out, hs.out, hd, sumF, mdF, allF_app]
  replace hd := Lib.hid hd'
  clear hd'
  have hrl : (restF l).length ≤ 1099511627776 := by rw [restF_len]; omega
  replace hT := Lib.hid hT
  replace hr := Lib.hid hr
  go_enter Tryd.func18, Tryd.ntmps18
  go_wp2_with fail
  have z0 := Lib.hid (B16.new w 34)
  have hB0 := Lib.hid ((Below.refl w.heap.size w).alloc (Nat.le_refl _) (z16 34))
  have hsz : (w.alloc (z16 34)).heap.size = w.heap.size + 1 := by simp
  show Calls _ _ _ (w.alloc (z16 34)) _
  generalize w.alloc (z16 34) = W1 at z0 hB0 hsz ⊢
  refine (start_to s hs.out W1).mono ?_; rintro e W2 ⟨rfl, hb2⟩
  replace z0 := Lib.hid (z0.out.block (hb2.block _ (by omega)))
  replace hB0 := Lib.hid (hB0.out.trans (hb2.mono (by omega)))
  have hsz2 := hb2.size
  clear hb2
  go_wp2_with fail
  refine (all_row s s2 _ l (restF l) hs2.out rfl W2 (hT.out.on hB0.out) (hr.out.on hB0.out)).mono ?_; rintro e W3 ⟨⟨u, rfl, hu⟩, hb3⟩
  replace z0 := Lib.hid (z0.out.block (hb3.block _ (by omega)))
  replace hB0 := Lib.hid (hB0.out.trans (hb3.mono (by omega)))
  have hsz3 := hb3.size
  replace hu := Lib.hid hu
  clear hb3
  go_wp2_with fail
  have c4 := St4.new W3 s2 30
  replace z0 := Lib.hid (z0.out.block (Below.heap_alloc W3 (.cells #[.int .u32 (U s2.a), .int .u32 (U s2.b), .int .u32 (U s2.c), .int .u32 (U s2.d)] 30) w.heap.size (by omega)))
  have hb4 : Below W3.heap.size W3 (W3.alloc (.cells #[.int .u32 (U s2.a), .int .u32 (U s2.b), .int .u32 (U s2.c), .int .u32 (U s2.d)] 30)) := (Below.refl _ _).alloc (Nat.le_refl _) _
  refine (digest_to s2 d u (restF l) l.length hl hrl hd.out _ (hT.out.on (hB0.out.trans (hb4.mono (by omega)))) (hu.out.on hb4)).mono ?_; rintro e W5 ⟨rfl, hb5⟩
  have z5 := z0.out.block (hb5.block w.heap.size (by simp; omega))
  replace hB0 := Lib.hid ((hB0.out.trans (hb4.mono (by omega))).trans (hb5.mono (by simp; omega)))
  obtain ⟨y0, y1, y2, y3, y4, y5, y6, y7, y8, y9, y10, y11, y12, y13, y14, y15⟩ := z5.cells
  obtain ⟨g0, g1, g2, g3, g4, g5, g6, g7, g8, g9, g10, g11, g12, g13, g14, g15⟩ := z5.frees
  have HE := B16.setAll z5 d
  have HB := Lib.hid (setAll16_below d hB0.out (Nat.le_refl w.heap.size))
  clear z0 z5 hb4 hb5 c4 hB0 hT hr
  go_wp2_with fail
  show bodyPost _ _ _ _ _ (setAll16 W5 w.heap.size d)
  generalize setAll16 W5 w.heap.size d = WE at HE HB ⊢
  obtain ⟨k0, k1, k2, k3, k4, k5, k6, k7, k8, k9, k10, k11, k12, k13, k14, k15⟩ := HE.cells
  clear HE
  exact bodyPost_ret (v := .agg #[.int .u8 ((d 0).toNat : Int), .int .u8 ((d 1).toNat : Int), .int .u8 ((d 2).toNat : Int), .int .u8 ((d 3).toNat : Int), .int .u8 ((d 4).toNat : Int), .int .u8 ((d 5).toNat : Int), .int .u8 ((d 6).toNat : Int), .int .u8 ((d 7).toNat : Int), .int .u8 ((d 8).toNat : Int), .int .u8 ((d 9).toNat : Int), .int .u8 ((d 10).toNat : Int), .int .u8 ((d 11).toNat : Int), .int .u8 ((d 12).toNat : Int), .int .u8 ((d 13).toNat : Int), .int .u8 ((d 14).toNat : Int), .int .u8 ((d 15).toNat : Int)]) (by simp [results, Tryd.results18, go_sem, k0, k1, k2, k3, k4, k5, k6, k7, k8, k9, k10, k11, k12, k13, k14, k15]) rfl ⟨rfl, HB.out⟩
end Go.Proofs.YtimiejahkcjcdaaDoor
