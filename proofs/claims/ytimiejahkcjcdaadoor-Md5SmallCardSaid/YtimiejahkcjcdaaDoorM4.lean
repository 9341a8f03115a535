/- The contracts of md5.Start, Step and Padding. -/
import Derived.Test.YtimiejahkcjcdaaDoorM3
import Derived.Test.YtimiejahkcjcdaaDoorMG2
import Derived.Deep.DeepMust
import Derived.Laws.NewBlocks
namespace Go.Proofs.YtimiejahkcjcdaaDoor
open Go.RowKit

def S0 : S4 := ⟨0x67452301, 0xefcdab89, 0x98badcfe, 0x10325476⟩
theorem S0_sv : sv S0 = .agg #[.int .u32 1732584193, .int .u32 4023233417, .int .u32 2562383102, .int .u32 271733878] := by kernel_rfl
set_option maxHeartbeats 400000 in
theorem start_any (w : World) : Calls Tryd.prog 16 #[] w fun e w' => e = .returned (sv S0) ∧ Below w.heap.size w w' := by
  rw [S0_sv]
  go_enter Tryd.func16, Tryd.ntmps16
  go_wp2_with fail
  exact bodyPost_ret (v := .agg #[.int .u32 1732584193, .int .u32 4023233417, .int .u32 2562383102, .int .u32 271733878]) (by simp [results, Tryd.results16, go_sem]) rfl ⟨rfl, (Below.refl _ _).alloc (Nat.le_refl _) _⟩
set_option maxHeartbeats 400000 in
theorem stepE_no (s : S4) (a : Option Addr) (n c : Nat) (h : n ≠ 64) (w : World) : Calls Tryd.prog 17 #[sv s, .slice a n c] w fun e w' => e = .returned (.tuple #[sv ⟨0, 0, 0, 0⟩, .int .i64 2]) ∧ Below w.heap.size w w' := by
  have t1 : ((n : Int) != 64) = true := by simp; omega
  show Calls Tryd.prog 17 #[.agg #[.int .u32 (U s.a), .int .u32 (U s.b), .int .u32 (U s.c), .int .u32 (U s.d)], .slice a n c] w fun e w' => e = .returned (.tuple #[.agg #[.int .u32 0, .int .u32 0, .int .u32 0, .int .u32 0], .int .i64 2]) ∧ Below w.heap.size w w'
  go_enter Tryd.func17, Tryd.ntmps17
  go_wp2_with fail
  exact bodyPost_ret (v := .tuple #[.agg #[.int .u32 0, .int .u32 0, .int .u32 0, .int .u32 0], .int .i64 2]) (by simp [results, Tryd.results17, go_sem]) rfl ⟨rfl, ((Below.refl _ _).alloc (Nat.le_refl _) _).alloc (by simp) _⟩
/-- A slice of bytes. -/
abbrev RowB (w : World) (v : Value) (l : List UInt8) : Prop := Row w v (l.map enc8)
theorem rowB_cells {w : World} {v : Value} {l : List UInt8} (h : RowB w v l) (hp : l ≠ []) : ∃ b off cap, v = .slice (some ⟨b, off, none⟩) l.length cap ∧ b < w.heap.size ∧ l.length ≤ cap ∧ cap ≤ maxLen ∧ ∀ i, i < l.length → w.cell? ⟨b, off + i, none⟩ = some (.int .u8 ((l.getD i 0).toNat : Int)) := by
  rcases h with ⟨a, c, _, _, h0⟩ | ⟨b, off, cap, hv, h1, h2, h3, hc⟩
  · exact absurd (by simpa using h0) hp
  · refine ⟨b, off, cap, by simpa using hv, h1, by simpa using h2, h3, fun i hi => ?_⟩
    rw [hc i (by simpa using hi)]
    simp [enc8, List.getD_eq_getElem?_getD, List.getElem?_eq_getElem hi]
theorem step_row (s : S4) (v : Value) (l : List UInt8) (hl : l.length = 64) (w : World) (hT : Tabs w) (hr : RowB w v l) : Calls Tryd.prog 32 #[sv s, v] w fun e w' => e = .returned (sv (stepF s l)) ∧ Below w.heap.size w w' := by
  obtain ⟨b, off, cap, rfl, hb, _, _, hc⟩ := rowB_cells hr (fun e => by rw [e] at hl; cases hl)
  rw [hl]
  exact step_any s.a s.b s.c s.d l hl b off cap w hb hT (fun i hi => hc i (by omega))
theorem step_to (s r : S4) (v : Value) (l : List UInt8) (hl : l.length = 64) (h : r = stepF s l) (w : World) (hT : Tabs w) (hr : RowB w v l) : Calls Tryd.prog 32 #[.agg #[.int .u32 (U s.a), .int .u32 (U s.b), .int .u32 (U s.c), .int .u32 (U s.d)], v] w fun e w' => e = .returned (.agg #[.int .u32 (U r.a), .int .u32 (U r.b), .int .u32 (U r.c), .int .u32 (U r.d)]) ∧ Below w.heap.size w w' := by
  rw [h]; exact step_row s v l hl w hT hr
theorem zero4 (w : World) (t : TypeId) (j : Nat) (hj : j < 4) : (w.alloc (.cells #[.int .u32 0, .int .u32 0, .int .u32 0, .int .u32 0] t)).cell? ⟨w.heap.size, j, none⟩ = some (.int .u32 0) ∧ (w.alloc (.cells #[.int .u32 0, .int .u32 0, .int .u32 0, .int .u32 0] t)).frozen? ⟨w.heap.size, j, none⟩ = false := by
  rcases (show j = 0 ∨ j = 1 ∨ j = 2 ∨ j = 3 by omega) with rfl | rfl | rfl | rfl <;> simp [go_sem]
set_option maxHeartbeats 400000 in
theorem stepE_yes (s : S4) (v : Value) (l : List UInt8) (hl : l.length = 64) (w : World) (hT : Tabs w) (hr : RowB w v l) : Calls Tryd.prog 17 #[sv s, v] w fun e w' => e = .returned (.tuple #[sv (stepF s l), .int .i64 0]) ∧ Below w.heap.size w w' := by
  obtain ⟨b, off, cap, rfl, _, _, _, _⟩ := rowB_cells hr (fun e => by rw [e] at hl; cases hl)
  replace hr := Lib.hid hr
  replace hT := Lib.hid hT
  rw [hl] at hr ⊢
  obtain ⟨r, hrr⟩ : ∃ r, Hid (r = stepF s l) := ⟨_, rfl⟩
  rw [← hrr.out]
  show Calls Tryd.prog 17 #[.agg #[.int .u32 (U s.a), .int .u32 (U s.b), .int .u32 (U s.c), .int .u32 (U s.d)], .slice (some ⟨b, off, none⟩) 64 cap] w fun e w' => e = .returned (.tuple #[.agg #[.int .u32 (U r.a), .int .u32 (U r.b), .int .u32 (U r.c), .int .u32 (U r.d)], .int .i64 0]) ∧ Below w.heap.size w w'
  go_enter Tryd.func17, Tryd.ntmps17
  go_wp2_with fail
  have hB0 : Below w.heap.size w ((w.alloc (.cells #[.int .u32 (U s.a), .int .u32 (U s.b), .int .u32 (U s.c), .int .u32 (U s.d)] 30)).alloc (.cells #[.int .u32 0, .int .u32 0, .int .u32 0, .int .u32 0] 30)) := ((Below.refl _ w).alloc (Nat.le_refl _) _).alloc (by simp) _
  refine (step_to s r _ l hl hrr.out _ (hT.out.on hB0) (hr.out.on hB0)).mono ?_; rintro e w1 ⟨rfl, hb1⟩
  have z0 := fun j (hj : j < 4) => zero4 (w.alloc (.cells #[.int .u32 (U s.a), .int .u32 (U s.b), .int .u32 (U s.c), .int .u32 (U s.d)] 30)) 30 j hj
  simp only [World.size_alloc] at z0
  have k0 := (hb1.cell (p := ⟨w.heap.size + 1, 0, none⟩) (by simp)).trans (z0 0 (by omega)).1
  have k1 := (hb1.cell (p := ⟨w.heap.size + 1, 1, none⟩) (by simp)).trans (z0 1 (by omega)).1
  have k2 := (hb1.cell (p := ⟨w.heap.size + 1, 2, none⟩) (by simp)).trans (z0 2 (by omega)).1
  have k3 := (hb1.cell (p := ⟨w.heap.size + 1, 3, none⟩) (by simp)).trans (z0 3 (by omega)).1
  have f0 := (hb1.frozen (p := ⟨w.heap.size + 1, 0, none⟩) (by simp)).trans (z0 0 (by omega)).2
  have f1 := (hb1.frozen (p := ⟨w.heap.size + 1, 1, none⟩) (by simp)).trans (z0 1 (by omega)).2
  have f2 := (hb1.frozen (p := ⟨w.heap.size + 1, 2, none⟩) (by simp)).trans (z0 2 (by omega)).2
  have f3 := (hb1.frozen (p := ⟨w.heap.size + 1, 3, none⟩) (by simp)).trans (z0 3 (by omega)).2
  replace hb1 := hB0.trans (hb1.mono (by simp; omega))
  clear z0 hB0
  go_wp2_with fail
  refine bodyPost_ret (v := .tuple #[.agg #[.int .u32 (U r.a), .int .u32 (U r.b), .int .u32 (U r.c), .int .u32 (U r.d)], .int .i64 0]) (by simp [results, Tryd.results17, go_sem, k0, k1, k2, k3]) rfl ⟨rfl, ?_⟩
  exact (((hb1.setCell (p := ⟨w.heap.size + 1, 0, none⟩) (by show w.heap.size ≤ w.heap.size + 1; omega) _).setCell (p := ⟨w.heap.size + 1, 1, none⟩) (by show w.heap.size ≤ w.heap.size + 1; omega) _).setCell (p := ⟨w.heap.size + 1, 2, none⟩) (by show w.heap.size ≤ w.heap.size + 1; omega) _).setCell (p := ⟨w.heap.size + 1, 3, none⟩) (by show w.heap.size ≤ w.heap.size + 1; omega) _
end Go.Proofs.YtimiejahkcjcdaaDoor
