/- Contracts of hash.bytes, hash.Add, hash.Back, hash.inverse over the translation; strings of at most 2^63-1 bytes. -/
import Derived.RangeFuncNested
import Derived.RangeFuncBound
import Derived.RangeFuncCalls
import Derived.RangeFuncLeaves
import Derived.RangeFuncFrom
import Derived.Shelf.Abstract
import Derived.Shelf.RegionOpen
import Derived.WalkKit
import Derived.OwnWalkIn
import Derived.TacticsInMore
import Derived.LoopNIn
import Derived.LoopIn
import Derived.Test.YtennohgmenjaaaaProg
import Derived.Test.YtennohgmenjaaaaM
namespace Go.Proofs.Ytennohgmenjaaaa
open Go.RowKit Go.Shelf
attribute [local go_sem] Oper.semAt_some

/-- What has come of a string when k rounds are over, from the first byte or from the last one on. -/
def come (s : ByteArray) (back : Bool) (k : Nat) : List UInt8 := (if back then s.data.toList.reverse else s.data.toList).take k


theorem come_length (s : ByteArray) (back : Bool) (k : Nat) (h : k ≤ s.size) : (come s back k).length = k := by
  have : s.data.toList.length = s.size := rfl
  cases back <;> simp [come] <;> omega
theorem come_succ_fwd (s : ByteArray) (k : Nat) (h : k < s.size) : come s false (k + 1) = come s false k ++ [s[k]] := by
  have : s.data.toList.length = s.size := rfl
  simp only [come, Bool.false_eq_true, if_false]
  rw [List.take_succ_eq_append_getElem (by omega)]; rfl
theorem come_succ_bwd (s : ByteArray) (k : Nat) (h : k < s.size) : come s true (k + 1) = come s true k ++ [s[s.size - 1 - k]] := by
  have : s.data.toList.length = s.size := rfl
  simp only [come, if_true]
  rw [List.take_succ_eq_append_getElem (by simp; omega), List.getElem_reverse]; rfl
theorem come_all (s : ByteArray) (back : Bool) : come s back s.size = if back then s.data.toList.reverse else s.data.toList := by
  have : s.data.toList.length = s.size := rfl
  cases back <;> simp only [come, if_true, Bool.false_eq_true, if_false] <;> exact List.take_of_length_le (by simp)

/-- What the body of a round keeps: the iterator's two variables. -/
def KeepsB (Bs Bb : Nat) (s : ByteArray) (back : Bool) (W W' : World) : Prop :=
  (W.cell? ⟨Bs, 0, none⟩ = some (.string s) → W'.cell? ⟨Bs, 0, none⟩ = some (.string s)) ∧ (W.cell? ⟨Bb, 0, none⟩ = some (.bool back) → W'.cell? ⟨Bb, 0, none⟩ = some (.bool back))
theorem KeepsB.refl (Bs Bb : Nat) (s : ByteArray) (back : Bool) (W : World) : KeepsB Bs Bb s back W W := ⟨id, id⟩
theorem KeepsB.trans {Bs Bb : Nat} {s : ByteArray} {back : Bool} {A B C : World} (h : KeepsB Bs Bb s back A B) (k : KeepsB Bs Bb s back B C) : KeepsB Bs Bb s back A C := ⟨fun x => k.1 (h.1 x), fun x => k.2 (h.2 x)⟩
theorem KeepsB.turn {Bs Bb : Nat} {s : ByteArray} {back : Bool} (W : World) (l : Nat) (o o' : Obj) (h : W.heap[l]? = some o) (hc : o.isCells = false) : KeepsB Bs Bb s back W (W.putObj l o') :=
  ⟨fun x => cell_kept x (grownBy_putObj' W l o') (fun r e => by cases e; exact ⟨o, h, hc⟩), fun x => cell_kept x (grownBy_putObj' W l o') (fun r e => by cases e; exact ⟨o, h, hc⟩)⟩
theorem cell_other {W : World} {b c : Nat} {v u : Value} (hne : b ≠ c) (h : W.cell? ⟨b, 0, none⟩ = some v) : (W.setCell ⟨c, 0, none⟩ u).cell? ⟨b, 0, none⟩ = some v :=
  (World.cell?_of_block (w := W) (Below.heap_setCell W ⟨c, 0, none⟩ u b hne)).trans h
theorem KeepsB.set {Bs Bb : Nat} {s : ByteArray} {back : Bool} (W : World) (c : Nat) (u : Value) (h1 : Bs ≠ c) (h2 : Bb ≠ c) : KeepsB Bs Bb s back W (W.setCell ⟨c, 0, none⟩ u) := ⟨cell_other h1, cell_other h2⟩

set_option maxRecDepth 100000 in
set_option maxHeartbeats 2000000 in
theorem bytes1_in (F : Fence) (n : Nat) (h7 : F.fn 40) (hro : F.round = none) (hn : 1 ≤ n) (l Bs Bb : Nat) (s : ByteArray) (back : Bool) (hs : s.size ≤ 9223372036854775807) (J Jx : List UInt8 → World → Prop)
    (hY : ∀ pre x W, J pre W → pre.length < s.size → YieldAt F (n - 1) Try.prog l #[.int .u8 (UInt8.toNat x)] W fun e W' =>
      (e = .returned (.bool true) ∧ J (pre ++ [x]) W' ∧ KeepsB Bs Bb s back W W') ∨ (e = .returned (.bool false) ∧ Jx (pre ++ [x]) W'))
    (W : World) (hBs : W.cell? ⟨Bs, 0, none⟩ = some (.string s)) (hBb : W.cell? ⟨Bb, 0, none⟩ = some (.bool back)) (h0 : J [] W) :
    CallsIn F n Try.prog 40 #[.func (.yield l) #[] #[], .pointer (some ⟨Bs, 0, none⟩), .pointer (some ⟨Bb, 0, none⟩)] W fun e W' => (∃ v, e = .returned v) ∧
      ((∃ ys, ys = come s back s.size ∧ J ys W') ∨ (∃ pre, (∃ k, k ≤ s.size ∧ pre = come s back k) ∧ Jx pre W')) := by
  refine callsIn_of_wp Try.func40 rfl h7 ?_ hro
  simp only [Try.ntmps40, List.size_toArray, List.length_cons, List.length_nil, Nat.reduceAdd, Nat.reduceSub, Array.replicate_succ, Array.replicate_zero, List.push_toArray, List.append_toArray, List.nil_append, List.cons_append]
  gi_wp2
  gi_loopw [8] (fun i wr => ∃ k : Nat, k ≤ s.size ∧ i = .int .i64 k ∧ J (come s back k) wr ∧ KeepsB Bs Bb s back W wr)
    (fun i _ => s.size - (intOf i).toNat)
  case atStart => exact ⟨0, Nat.zero_le _, rfl, by simpa [come] using h0, KeepsB.refl _ _ _ _ _⟩
  case round =>
    obtain ⟨k, hk, rfl, hJs, hnx⟩ := hrel
    have hs' := hnx.1 hBs
    have hb2 := hnx.2 hBb
    by_cases hlt : k < s.size
    · cases back with
      | false =>
        obtain ⟨fn, tmps, assign, body, hy, hR⟩ := hY _ (s[k]'hlt) wr hJs (by rw [come_length s _ k hk]; exact hlt)
        have hcs := come_succ_fwd s k hlt
        rw [← hcs] at hR
        clear hcs
        gi_wp2
        refine hR.mono ?_
        rintro e W3 (⟨rfl, hJ3, hk3⟩ | ⟨rfl, hJx3⟩)
        · gi_wp2
          go_roundw
          case rel => exact ⟨k + 1, by omega, by simp, hJ3, hnx.trans hk3⟩
          case measure => simp [intOf]; omega
        · gi_wp2
          refine bodyPost_ret (results_none rfl _ _ _) rfl ?_
          exact ⟨⟨_, rfl⟩, .inr ⟨_, ⟨k + 1, by omega, rfl⟩, hJx3⟩⟩
      | true =>
        have hlt' : s.size - 1 - k < s.size := by omega
        obtain ⟨fn, tmps, assign, body, hy, hR⟩ := hY _ (s[s.size - 1 - k]'hlt') wr hJs (by rw [come_length s _ k hk]; exact hlt)
        have hcs := come_succ_bwd s k hlt
        rw [← hcs] at hR
        clear hcs
        gi_wp2
        refine hR.mono ?_
        rintro e W3 (⟨rfl, hJ3, hk3⟩ | ⟨rfl, hJx3⟩)
        · gi_wp2
          go_roundw
          case rel => exact ⟨k + 1, by omega, by simp, hJ3, hnx.trans hk3⟩
          case measure => simp [intOf]; omega
        · gi_wp2
          refine bodyPost_ret (results_none rfl _ _ _) rfl ?_
          exact ⟨⟨_, rfl⟩, .inr ⟨_, ⟨k + 1, by omega, rfl⟩, hJx3⟩⟩
    · obtain rfl : k = s.size := by omega
      gi_wp2
      go_end0
      exact ⟨⟨_, rfl⟩, .inl ⟨_, rfl, hJs⟩⟩

theorem bytes_stops (F : Fence) (n : Nat) (h7 : F.fn 40) (hro : F.round = none) (hn : 1 ≤ n) (Bs Bb : Nat) (s : ByteArray) (back : Bool) (hs : s.size ≤ 9223372036854775807) (w : World) (hb : Bs < w.heap.size) (hb' : Bb < w.heap.size)
    (hBs : w.cell? ⟨Bs, 0, none⟩ = some (.string s)) (hBb : w.cell? ⟨Bb, 0, none⟩ = some (.bool back)) :
    SeqStopsK F n Try.prog 40 #[.pointer (some ⟨Bs, 0, none⟩), .pointer (some ⟨Bb, 0, none⟩)] (fun x : UInt8 => #[Value.int .u8 (UInt8.toNat x)]) (KeepsB Bs Bb s back) (fun ys => ys = come s back s.size) (fun pre => ∃ k, k ≤ s.size ∧ pre = come s back k) s.size w := fun l J Jx W hW _ _ hY h0 =>
  bytes1_in F n h7 hro hn l Bs Bb s back hs J Jx hY W ((hW.cell (p := ⟨Bs, 0, none⟩) hb).trans hBs) ((hW.cell (p := ⟨Bb, 0, none⟩) hb').trans hBb) h0

theorem cell_mk (W : World) (v : Value) (t : TypeId) : (W.alloc (.cells #[v] t)).cell? ⟨W.heap.size, 0, none⟩ = some v ∧ (W.alloc (.cells #[v] t)).frozen? ⟨W.heap.size, 0, none⟩ = false := by
  constructor <;> simp [go_sem]
theorem cell_on {W : World} {a : Addr} {v : Value} (o : Obj) (h : W.cell? a = some v) : (W.alloc o).cell? a = some v := cell_kept h (World.grownBy_alloc W o none) (fun r e => by cases e)
theorem frozen_on {W : World} {a : Addr} {v : Value} (o : Obj) (h : W.cell? a = some v) (hf : W.frozen? a = false) : (W.alloc o).frozen? a = false := (frozen_kept h (World.grownBy_alloc W o none) (fun r e => by cases e)).trans hf

theorem bytes_in (F : Fence) (n : Nat) (h31 : F.fn 31) (hro : F.round = none) (s : ByteArray) (back : Bool) (w : World) :
    CallsIn F n Try.prog 31 #[.string s, .bool back] w fun e W' => e = .returned (.func (.func 40) #[] #[.pointer (some ⟨w.heap.size, 0, none⟩), .pointer (some ⟨w.heap.size + 1, 0, none⟩)]) ∧ W' = (w.alloc (.cells #[.string s] 9)).alloc (.cells #[.bool back] 4) := by
  refine callsIn_of_wp Try.func31 rfl h31 ?_ hro
  simp only [Try.ntmps31, List.size_toArray, List.length_cons, List.length_nil, Nat.reduceAdd, Nat.reduceSub, Array.replicate_succ, Array.replicate_zero, List.push_toArray, List.append_toArray, List.nil_append, List.cons_append]
  gi_wp2
  go_ret
  exact ⟨rfl, rfl⟩

set_option maxRecDepth 100000 in
set_option maxHeartbeats 2000000 in
theorem add_in (F : Fence) (n : Nat) (h15 : F.fn 15) (h31 : F.fn 31) (h40 : F.fn 40) (hro : F.round = none) (hn : 3 ≤ n) (h : BitVec 64) (s : ByteArray) (hs : s.size ≤ 9223372036854775807) (w : World) :
    CallsIn F n Try.prog 15 #[.int .u64 (U h), .string s] w fun e W' => e = .returned (.int .u64 (U (hadd h s.data.toList))) ∧ Below w.heap.size w W' := by
  have h1 : 1 ≤ n := by omega
  refine callsIn_of_wp_marks Try.func15 rfl h15 ?_ hro
  simp only [Try.ntmps15, List.size_toArray, List.length_cons, List.length_nil, Nat.reduceAdd, Nat.reduceSub, Array.replicate_succ, Array.replicate_zero, List.push_toArray, List.append_toArray, List.nil_append, List.cons_append]
  gi_wp2_with (gi_at_call 31; refine (bytes_in F (n - 1) h31 hro _ _ _).mono ?_; rintro e w' ⟨rfl, rfl⟩)
  have c0 := cell_mk w (.int .u64 (U h)) 22
  have c1 := cell_mk (w.alloc (.cells #[.int .u64 (U h)] 22)) (.string s) 9
  have c2 := cell_mk ((w.alloc (.cells #[.int .u64 (U h)] 22)).alloc (.cells #[.string s] 9)) (.bool false) 4
  simp only [World.size_alloc] at c1 c2
  have hB0 : Below w.heap.size w (((w.alloc (.cells #[.int .u64 (U h)] 22)).alloc (.cells #[.string s] 9)).alloc (.cells #[.bool false] 4)) := (((Below.refl _ w).alloc (Nat.le_refl _) _).alloc (by simp) _).alloc (by simp; omega) _
  refine wpIn_rangeFunc_ownF hro h1 (gf := 40) (lb := #[.pointer (some ⟨w.heap.size + 1, 0, none⟩), .pointer (some ⟨w.heap.size + 1 + 1, 0, none⟩)]) rfl h40 (enters_of Try.func40 (by kernel_rfl) rfl)
    (bytes_stops F (n - 1) h40 hro (by omega) (w.heap.size + 1) (w.heap.size + 1 + 1) s false hs _ (by simp) (by simp) (cell_on _ c1.1) c2.1) (fun h k => h.trans k) (fun W l o o' _ h1 h2 _ => KeepsB.turn W l o o' h1 h2) (Below.refl _ _) (fun _ => rfl)
    (fun pre W => (W.cell? ⟨w.heap.size, 0, none⟩ = some (.int .u64 (U (hadd h pre))) ∧ W.frozen? ⟨w.heap.size, 0, none⟩ = false) ∧ Below w.heap.size w W)
    (fun _ _ _ => False)
    (OwnFrom.and (Own.from (fun s A B row hs hg hr => ⟨cell_kept hs.1 hg hr, (frozen_kept hs.1 hg hr).trans hs.2⟩) _) (ownFrom_below (Nat.le_refl _) (by simp; omega)))
    (fun _ _ _ _ _ hs _ _ => hs)
    ⟨⟨cell_on _ (cell_on _ c0.1), frozen_on _ (cell_on _ c0.1) (frozen_on _ c0.1 c0.2)⟩, hB0⟩
    (fun x => { tmps := #[.int .u64 (U h), .string s, .pointer (some ⟨w.heap.size, 0, none⟩), undef, .int .u64 0, .int .u8 x.toNat, .string s, .func (.func 40) #[] #[.pointer (some ⟨w.heap.size + 1, 0, none⟩), .pointer (some ⟨w.heap.size + 1 + 1, 0, none⟩)], .int .u8 x.toNat, undef, undef, undef, undef, undef, undef], defers := [] }) ?assign ?body ?done ?stop
  case assign =>
    intro l x W K hK
    gi_wp2
    exact hK
  case body =>
    rintro l pre x W ⟨⟨hc, hf⟩, hB⟩ _
    gi_wp2
    exact ⟨KeepsOthers.setCell _ _ _, KeepsB.set _ _ _ (by omega) (by omega), ⟨by rw [hadd_snoc]; exact World.cell?_setCell_same' _ _ _ (by rw [hc]; rfl), by rw [World.frozen?_setCell]; exact hf⟩, hB.setCell (p := ⟨w.heap.size, 0, none⟩) (Nat.le_refl _) _⟩
  case done =>
    rintro D ys W hD rfl ⟨⟨hc, _⟩, hB⟩ hK
    gi_wp2
    refine ⟨by simp, .inl ⟨_, _, rfl, run_takeDeferred hK, ?_⟩⟩
    exact ⟨_, results_tmp rfl _ _ _, by rw [come_all]; rfl, hB.trans (belowK_b (w := w) (Nat.le_refl _) W D _ _ (by simp at hD; omega) hK rfl rfl)⟩
  case stop =>
    rintro D c pre W _ _ h _
    exact h.elim

/-- The number that inverse has after k rounds. -/
def newt : Nat → BitVec 64
  | 0 => prime
  | k + 1 => newt k * (2#64 - prime * newt k)
theorem newt_six : newt 6 = inv := by decide
theorem ret_u64 {a b : Int} (h : a = b) : Ending.returned (.int .u64 a) = .returned (.int .u64 b) := by rw [h]
theorem prime_lit : (1099511628211 : Int) = U prime := by decide
theorem inverse_any (w : World) :
    Calls Try.prog 32 #[] w fun e w' => e = .returned (.int .u64 (U inv)) ∧ w = w' := by
  go_enter Try.func32, Try.ntmps32
  go_wp2
  go_loop [1, 2] (fun x i => ∃ k : Nat, k ≤ 6 ∧ i = .int .i64 k ∧ x = .int .u64 (U (newt k))) (fun _ i => 6 - (intOf i).toNat)
  case atStart => exact ⟨0, Nat.zero_le _, rfl, congrArg (Value.int .u64) prime_lit⟩
  case round =>
    obtain ⟨k, hk, rfl, rfl⟩ := hrel
    by_cases hlt : k < 6
    · go_wp2
      go_round
      case rel => exact ⟨k + 1, by omega, by go_num, rfl⟩
      case measure => simp [intOf]; omega
    · obtain rfl : k = 6 := by omega
      go_wp2
      go_ret
      exact ⟨ret_u64 (by rw [newt_six]), rfl⟩

set_option maxRecDepth 100000 in
set_option maxHeartbeats 2000000 in
theorem back_in (h : BitVec 64) (s : ByteArray) (hs : s.size ≤ 9223372036854775807) (w : World) :
    CallsIn Fence.wide 9 Try.prog 16 #[.int .u64 (U h), .string s] w fun e W' => e = .returned (.int .u64 (U (hback h s.data.toList.reverse))) ∧ Below w.heap.size w W' := by
  have hro : Fence.wide.round = none := rfl
  have h1 : 1 ≤ 9 := by omega
  refine callsIn_of_wp_marks Try.func16 rfl trivial ?_ hro
  simp only [Try.ntmps16, List.size_toArray, List.length_cons, List.length_nil, Nat.reduceAdd, Nat.reduceSub, Array.replicate_succ, Array.replicate_zero, List.push_toArray, List.append_toArray, List.nil_append, List.cons_append]
  gi_wp2_with (first | (refine ⟨trivial, ?_⟩; gi_at_call 32; refine (callsIn_wide.2 (inverse_any _)).mono ?_; rintro e w' ⟨rfl, rfl⟩) | (refine ⟨trivial, ?_⟩; gi_at_call 31; refine (bytes_in Fence.wide 8 trivial hro _ _ _).mono ?_; rintro e w' ⟨rfl, rfl⟩))
  have c0 := cell_mk w (.int .u64 (U h)) 22
  have c1 := cell_mk (w.alloc (.cells #[.int .u64 (U h)] 22)) (.int .u64 (U inv)) 22
  have c2 := cell_mk ((w.alloc (.cells #[.int .u64 (U h)] 22)).alloc (.cells #[.int .u64 (U inv)] 22)) (.string s) 9
  have c3 := cell_mk (((w.alloc (.cells #[.int .u64 (U h)] 22)).alloc (.cells #[.int .u64 (U inv)] 22)).alloc (.cells #[.string s] 9)) (.bool true) 4
  simp only [World.size_alloc] at c1 c2 c3
  have hB0 : Below w.heap.size w ((((w.alloc (.cells #[.int .u64 (U h)] 22)).alloc (.cells #[.int .u64 (U inv)] 22)).alloc (.cells #[.string s] 9)).alloc (.cells #[.bool true] 4)) := ((((Below.refl _ w).alloc (Nat.le_refl _) _).alloc (by simp) _).alloc (by simp; omega) _).alloc (by simp; omega) _
  refine wpIn_rangeFunc_ownF hro h1 (gf := 40) (lb := #[.pointer (some ⟨w.heap.size + 1 + 1, 0, none⟩), .pointer (some ⟨w.heap.size + 1 + 1 + 1, 0, none⟩)]) rfl trivial (enters_of Try.func40 (by kernel_rfl) rfl)
    (bytes_stops Fence.wide 8 trivial hro (by omega) (w.heap.size + 1 + 1) (w.heap.size + 1 + 1 + 1) s true hs _ (by simp) (by simp) (cell_on _ c2.1) c3.1) (fun h k => h.trans k) (fun W l o o' _ h1 h2 _ => KeepsB.turn W l o o' h1 h2) (Below.refl _ _) (fun _ => rfl)
    (fun pre W => (W.cell? ⟨w.heap.size, 0, none⟩ = some (.int .u64 (U (hback h pre))) ∧ W.frozen? ⟨w.heap.size, 0, none⟩ = false ∧ W.cell? ⟨w.heap.size + 1, 0, none⟩ = some (.int .u64 (U inv))) ∧ Below w.heap.size w W)
    (fun _ _ _ => False)
    (OwnFrom.and (Own.from (fun s A B row hs hg hr => ⟨cell_kept hs.1 hg hr, (frozen_kept hs.1 hg hr).trans hs.2.1, cell_kept hs.2.2 hg hr⟩) _) (ownFrom_below (Nat.le_refl _) (by simp; omega)))
    (fun _ _ _ _ _ hs _ _ => hs)
    ⟨⟨cell_on _ (cell_on _ (cell_on _ c0.1)), frozen_on _ (cell_on _ (cell_on _ c0.1)) (frozen_on _ (cell_on _ c0.1) (frozen_on _ c0.1 c0.2)), cell_on _ (cell_on _ c1.1)⟩, hB0⟩
    (fun x => { tmps := #[.int .u64 (U h), .string s, .pointer (some ⟨w.heap.size, 0, none⟩), undef, .int .u64 0, .pointer (some ⟨w.heap.size + 1, 0, none⟩), .int .u8 x.toNat, .int .u64 (U inv), .string s, .func (.func 40) #[] #[.pointer (some ⟨w.heap.size + 1 + 1, 0, none⟩), .pointer (some ⟨w.heap.size + 1 + 1 + 1, 0, none⟩)], .int .u8 x.toNat, undef, undef, undef, undef, undef, undef, undef], defers := [] }) ?assign ?body ?done ?stop
  case assign =>
    intro l x W K hK
    gi_wp2
    exact hK
  case body =>
    rintro l pre x W ⟨⟨hc, hf, hi⟩, hB⟩ _
    gi_wp2
    exact ⟨KeepsOthers.setCell _ _ _, KeepsB.set _ _ _ (by omega) (by omega), ⟨by rw [hback_snoc]; exact World.cell?_setCell_same' _ _ _ (by rw [hc]; rfl), by rw [World.frozen?_setCell]; exact hf, cell_other (by omega) hi⟩, hB.setCell (p := ⟨w.heap.size, 0, none⟩) (Nat.le_refl _) _⟩
  case done =>
    rintro D ys W hD rfl ⟨⟨hc, _⟩, hB⟩ hK
    gi_wp2
    refine ⟨by simp, .inl ⟨_, _, rfl, run_takeDeferred hK, ?_⟩⟩
    exact ⟨_, results_tmp rfl _ _ _, by rw [come_all]; rfl, hB.trans (belowK_b (w := w) (Nat.le_refl _) W D _ _ (by simp at hD; omega) hK rfl rfl)⟩
  case stop =>
    rintro D c pre W _ _ h _
    exact h.elim
end Go.Proofs.Ytennohgmenjaaaa
