/- The digest's methods: some, New, Len, Sum, Reset. -/
import Derived.Test.YtimiejahkcjcdaaDoorMEq
import Derived.Deep.RegionHeld3
namespace Go.Proofs.YtimiejahkcjcdaaDoor
open Go.RowKit

def SZ : S4 := ⟨0, 0, 0, 0⟩
/-- A digest in memory: its state, what is left, how many bytes. -/
def Dig (W : World) (D : Nat) (s : S4) (v : Value) (n : Nat) : Prop :=
  St4 W D s ∧ (W.cell? ⟨D, 4, none⟩ = some v ∧ W.frozen? ⟨D, 4, none⟩ = false) ∧ (W.cell? ⟨D, 5, none⟩ = some (.int .i64 n) ∧ W.frozen? ⟨D, 5, none⟩ = false)
theorem Dig.block {W W' : World} {D : Nat} {s : S4} {v : Value} {n : Nat} (h : Dig W D s v n) (hb : W'.heap[D]? = W.heap[D]?) : Dig W' D s v n := by
  obtain ⟨h1, ⟨h2, h3⟩, ⟨h4, h5⟩⟩ := h
  have hc : ∀ j, W'.cell? ⟨D, j, none⟩ = W.cell? ⟨D, j, none⟩ := fun j => World.cell?_of_block (w := W) hb
  have hf : ∀ j, W'.frozen? ⟨D, j, none⟩ = W.frozen? ⟨D, j, none⟩ := fun j => by simp [World.frozen?, hb]
  exact ⟨h1.block hb, ⟨(hc 4).trans h2, (hf 4).trans h3⟩, ⟨(hc 5).trans h4, (hf 5).trans h5⟩⟩
theorem eq30z (s : S4) (w : World) : (Op.equalIn 10000 30 (.agg #[.int .u32 (U s.a), .int .u32 (U s.b), .int .u32 (U s.c), .int .u32 (U s.d)]) (.agg #[.int .u32 0, .int .u32 0, .int .u32 0, .int .u32 0])).run Tryd.prog w = .ok (decide (s = SZ)) w := eq30 s SZ w
set_option maxRecDepth 100000 in
set_option maxHeartbeats 1000000 in
theorem some_any (D n : Nat) (s : S4) (v : Value) (w : World) (h : Dig w D s v n) (hs : 0 < n ∨ s ≠ SZ) : Calls Tryd.prog 43 #[.pointer (some ⟨D, 0, none⟩)] w fun e w' => e = .returned (.bool true) ∧ w = w' := by
  obtain ⟨⟨⟨c0, c1, c2, c3⟩, _⟩, ⟨c4, _⟩, ⟨c5, _⟩⟩ := h
  have E := eq30z
  by_cases hn : 0 < n
  · have t1 : decide (0 < (n : Int)) = true := decide_eq_true (by omega)
    go_enter Tryd.func43, Tryd.ntmps43
    go_wp2_with fail
    go_ret
    exact ⟨rfl, rfl⟩
  · obtain rfl : n = 0 := by omega
    have t1 : decide (s = SZ) = false := decide_eq_false (hs.resolve_left hn)
    go_enter Tryd.func43, Tryd.ntmps43
    go_wp2_with fail
    go_ret
    exact ⟨rfl, rfl⟩
set_option maxHeartbeats 400000 in
theorem some_nil (w : World) : Calls Tryd.prog 43 #[.pointer none] w fun e w' => e = .returned (.bool false) ∧ w = w' := by
  go_enter Tryd.func43, Tryd.ntmps43
  go_wp2_with fail
  go_ret
  exact ⟨rfl, rfl⟩
set_option maxHeartbeats 400000 in
theorem some_zero (D : Nat) (v : Value) (w : World) (h : Dig w D SZ v 0) : Calls Tryd.prog 43 #[.pointer (some ⟨D, 0, none⟩)] w fun e w' => e = .returned (.bool false) ∧ w = w' := by
  obtain ⟨⟨⟨c0, c1, c2, c3⟩, _⟩, ⟨c4, _⟩, ⟨c5, _⟩⟩ := h
  have E := eq30z
  have t1 : decide (SZ = SZ) = true := decide_eq_true rfl
  go_enter Tryd.func43, Tryd.ntmps43
  go_wp2_with fail
  go_ret
  exact ⟨rfl, rfl⟩
theorem dig_new (w : World) (s : S4) (v : Value) (n : Nat) (t : TypeId) : Dig (w.alloc (.cells #[.int .u32 (U s.a), .int .u32 (U s.b), .int .u32 (U s.c), .int .u32 (U s.d), v, .int .i64 n] t)) w.heap.size s v n := by
  refine ⟨⟨⟨?_, ?_, ?_, ?_⟩, ⟨?_, ?_, ?_, ?_⟩⟩, ⟨?_, ?_⟩, ⟨?_, ?_⟩⟩ <;> simp [go_sem]
set_option maxRecDepth 100000 in
set_option maxHeartbeats 1000000 in
theorem new_any (w : World) : Calls Tryd.prog 25 #[] w fun e w' => ∃ D, e = .returned (.pointer (some ⟨D, 0, none⟩)) ∧ w.heap.size ≤ D ∧ D < w'.heap.size ∧ Dig w' D S0 (.slice none 0 0) 0 ∧ Below w.heap.size w w' := by
  obtain ⟨s0, hs0⟩ : ∃ s, Hid (s = S0) := ⟨_, rfl⟩
  go_enter Tryd.func25, Tryd.ntmps25
  go_wp2_with fail
  refine (start_to s0 hs0.out _).mono ?_; rintro e w1 ⟨rfl, hb⟩
  have HB := Lib.hid hb
  clear hb
  go_wp2_with fail
  refine bodyPost_ret (v := .pointer (some ⟨w1.heap.size, 0, none⟩)) (by simp [results, Tryd.results25, go_sem]) rfl ⟨_, rfl, HB.out.size, by simp, ?_, HB.out.alloc HB.out.size _⟩
  rw [← hs0.out]
  exact dig_new w1 s0 _ _ 67
def DigSet (W : World) (D : Nat) (s : S4) (v : Value) (n : Nat) : World := ((((((W.setCell ⟨D, 0, none⟩ (.int .u32 (U s.a))).setCell ⟨D, 1, none⟩ (.int .u32 (U s.b))).setCell ⟨D, 2, none⟩ (.int .u32 (U s.c))).setCell ⟨D, 3, none⟩ (.int .u32 (U s.d))).setCell ⟨D, 4, none⟩ v).setCell ⟨D, 5, none⟩ (.int .i64 n))
theorem DigSet.other {W : World} {D k : Nat} {s : S4} {v : Value} {n : Nat} (h : k ≠ D) : (DigSet W D s v n).heap[k]? = W.heap[k]? :=
  (((((Below.heap_setCell _ ⟨D, 5, none⟩ _ k h).trans (Below.heap_setCell _ ⟨D, 4, none⟩ _ k h)).trans (Below.heap_setCell _ ⟨D, 3, none⟩ _ k h)).trans (Below.heap_setCell _ ⟨D, 2, none⟩ _ k h)).trans (Below.heap_setCell _ ⟨D, 1, none⟩ _ k h)).trans (Below.heap_setCell _ ⟨D, 0, none⟩ _ k h)
theorem Dig.set {W : World} {D : Nat} {s0 : S4} {v0 : Value} {n0 : Nat} (h : Dig W D s0 v0 n0) (s : S4) (v : Value) (n : Nat) : Dig (DigSet W D s v n) D s v n := by
  obtain ⟨⟨⟨a, b, c, d⟩, ⟨e, f, g, i⟩⟩, ⟨j, k⟩, ⟨l, m⟩⟩ := h
  refine ⟨⟨⟨?_, ?_, ?_, ?_⟩, ?_⟩, ⟨?_, ?_⟩, ?_⟩ <;> simp [DigSet, go_sem, a, b, c, d, e, f, g, i, j, k, l, m]
/-- Of what was there block D alone may have turned. -/
def Only (D : Nat) (w w' : World) : Prop := Below 0 w w' ∧ ∀ k, k < w.heap.size → k ≠ D → w'.heap[k]? = w.heap[k]?
theorem Only.below {D B : Nat} {w w' : World} (h : Only D w w') (hB : B ≤ D) (hBw : B ≤ w.heap.size) : Below B w w' :=
  ⟨h.1.os, h.1.tape, h.1.output, h.1.size, fun k hk => h.2 k (by omega) (by omega)⟩
theorem Only.of_below {D : Nat} {w w' : World} (h : Below w.heap.size w w') : Only D w w' := ⟨h.mono (by omega), fun k hk _ => h.block k hk⟩
theorem Only.trans {D : Nat} {a b c : World} (h : Only D a b) (k : Only D b c) : Only D a c := ⟨h.1.trans k.1, fun j hj hn => (k.2 j (Nat.lt_of_lt_of_le hj h.1.size) hn).trans (h.2 j hj hn)⟩
theorem Only.set {D : Nat} {a b : World} (h : Only D a b) (s : S4) (v : Value) (n : Nat) : Only D a (DigSet b D s v n) :=
  ⟨(((((h.1.setCell (p := ⟨D, 0, none⟩) (by simp) _).setCell (p := ⟨D, 1, none⟩) (by simp) _).setCell (p := ⟨D, 2, none⟩) (by simp) _).setCell (p := ⟨D, 3, none⟩) (by simp) _).setCell (p := ⟨D, 4, none⟩) (by simp) _).setCell (p := ⟨D, 5, none⟩) (by simp) _,
   fun k hk hn => (DigSet.other hn).trans (h.2 k hk hn)⟩
set_option maxHeartbeats 400000 in
theorem len_any (D n : Nat) (s : S4) (v : Value) (w : World) (h : Dig w D s v n) (hs : 0 < n ∨ s ≠ SZ) : Calls Tryd.prog 30 #[.pointer (some ⟨D, 0, none⟩)] w fun e w' => e = .returned (.int .i64 n) ∧ w = w' := by
  have H := Lib.hid h
  obtain ⟨c5, _⟩ := h.2.2
  go_enter Tryd.func30, Tryd.ntmps30
  go_wp2_with fail
  refine (some_any D n s v _ H.out hs).mono ?_; rintro e w1 ⟨rfl, rfl⟩
  go_wp2_with fail
  go_ret
  exact ⟨rfl, rfl⟩
set_option maxRecDepth 100000 in
set_option maxHeartbeats 1000000 in
theorem reset_any (D n : Nat) (s : S4) (v : Value) (w : World) (hD : D < w.heap.size) (h : Dig w D s v n) (hs : 0 < n ∨ s ≠ SZ) :
    Calls Tryd.prog 26 #[.pointer (some ⟨D, 0, none⟩)] w fun e w' => e = .returned (.int .i64 0) ∧ Dig w' D S0 (.slice none 0 0) 0 ∧ Only D w w' := by
  have H := Lib.hid h
  replace hs := Lib.hid hs
  clear h
  obtain ⟨s0, hs0⟩ : ∃ s, Hid (s = S0) := ⟨_, rfl⟩
  rw [← hs0.out]
  go_enter Tryd.func26, Tryd.ntmps26
  go_wp2_with fail
  refine (some_any D n s v _ H.out hs.out).mono ?_; rintro e w1 ⟨rfl, rfl⟩
  go_wp2_with fail
  refine (new_any _).mono ?_; rintro e w1 ⟨D2, rfl, h1, h2, h3, hb⟩
  rw [← hs0.out] at h3
  have H1 := Lib.hid (H.out.block (hb.block D hD))
  have HS := Lib.hid (H1.out.set s0 (.slice none 0 0) 0)
  have HO := Lib.hid ((Only.of_below (D := D) hb).set s0 (.slice none 0 0) 0)
  obtain ⟨⟨⟨a0, a1, a2, a3⟩, _⟩, ⟨a4, _⟩, ⟨a5, _⟩⟩ := h3
  obtain ⟨⟨⟨b0, b1, b2, b3⟩, ⟨f0, f1, f2, f3⟩⟩, ⟨b4, f4⟩, ⟨b5, f5⟩⟩ := H1.out
  clear hb H H1
  go_wp2_with fail
  show bodyPost _ _ _ _ _ (DigSet w1 D s0 (.slice none 0 0) 0)
  generalize DigSet w1 D s0 (.slice none 0 0) 0 = w2 at HS HO ⊢
  go_ret
  exact ⟨rfl, HS.out, HO.out⟩
end Go.Proofs.YtimiejahkcjcdaaDoor
