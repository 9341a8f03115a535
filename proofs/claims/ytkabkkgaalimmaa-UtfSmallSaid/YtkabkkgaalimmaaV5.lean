/- The contract of the iterator points over the translation. -/
import Derived.RangeFuncNested
import Derived.RangeFuncBound
import Derived.RangeFuncCalls
import Derived.RangeFuncLeaves
import Derived.RangeFuncFrom
import Derived.Shelf.Abstract
import Derived.Shelf.RegionOpen
import Derived.OwnWalkIn
import Derived.TacticsInMore
import Derived.LoopNIn
import Derived.LoopIn
import Derived.Test.YtkabkkgaalimmaaV4
namespace Go.Proofs.Ytkabkkgaalimmaa
open Go.RowKit Go.Shelf
attribute [local go_sem] Oper.semAt_some

/-- What points yields from offset k on, within f rounds. -/
def ptf (s : ByteArray) : Nat → Nat → List (Int × Int)
  | 0, _ => []
  | f + 1, k => if k < s.size then if (rd s k).2.2 = 0 then ((k : Int), (rd s k).1) :: ptf s f (k + (rd s k).2.1.toNat) else [] else []
def pts (s : ByteArray) : List (Int × Int) := ptf s (s.size + 1) 0

/-- What the body of a round keeps: the iterator's variable. -/
def KeepsS (Bs : Nat) (s : ByteArray) (W W' : World) : Prop :=
  W.cell? ⟨Bs, 0, none⟩ = some (.string s) → W'.cell? ⟨Bs, 0, none⟩ = some (.string s)
theorem KeepsS.refl (Bs : Nat) (s : ByteArray) (W : World) : KeepsS Bs s W W := id
theorem KeepsS.trans {Bs : Nat} {s : ByteArray} {A B C : World} (h : KeepsS Bs s A B) (k : KeepsS Bs s B C) : KeepsS Bs s A C := fun x => k (h x)
theorem KeepsS.turn {Bs : Nat} {s : ByteArray} (W : World) (l : Nat) (o o' : Obj) (h : W.heap[l]? = some o) (hc : o.isCells = false) : KeepsS Bs s W (W.putObj l o') :=
  fun x => cell_kept x (grownBy_putObj' W l o') (fun r e => by cases e; exact ⟨o, h, hc⟩)
theorem cell_other {W : World} {b c : Nat} {v u : Value} (hne : b ≠ c) (h : W.cell? ⟨b, 0, none⟩ = some v) : (W.setCell ⟨c, 0, none⟩ u).cell? ⟨b, 0, none⟩ = some v :=
  (World.cell?_of_block (w := W) (Below.heap_setCell W ⟨c, 0, none⟩ u b hne)).trans h
theorem KeepsS.set {Bs : Nat} {s : ByteArray} (W : World) (c : Nat) (u : Value) (h1 : Bs ≠ c) : KeepsS Bs s W (W.setCell ⟨c, 0, none⟩ u) := cell_other h1

set_option maxRecDepth 100000 in
set_option maxHeartbeats 1000000 in
theorem points1_in (n : Nat) (hn : 2 ≤ n) (l Bs : Nat) (s : ByteArray) (hs : s.size ≤ 4611686018427387904) (J Jx : List (Int × Int) → World → Prop)
    (hY : ∀ pre x W, J pre W → pre.length < s.size → YieldAt Fence.wide (n - 1) Try.prog l #[.int .i64 x.1, .int .i64 x.2] W fun e W' =>
      (e = .returned (.bool true) ∧ J (pre ++ [x]) W' ∧ KeepsS Bs s W W') ∨ (e = .returned (.bool false) ∧ Jx (pre ++ [x]) W'))
    (W : World) (hBs : W.cell? ⟨Bs, 0, none⟩ = some (.string s)) (h0 : J [] W) :
    CallsIn Fence.wide n Try.prog 51 #[.func (.yield l) #[] #[], .pointer (some ⟨Bs, 0, none⟩)] W fun e W' => (∃ v, e = .returned v) ∧
      ((∃ ys, ys = pts s ∧ J ys W') ∨ (∃ pre, (∃ more, pts s = pre ++ more) ∧ Jx pre W')) := by
  have hro : Fence.wide.round = none := rfl
  have h1n : 1 ≤ n := by omega
  obtain ⟨R, hR⟩ : ∃ R, Hid (R = pts s) := ⟨_, rfl⟩
  rw [← hR.out]
  refine callsIn_of_wp Try.func51 rfl trivial ?_ hro
  simp only [Try.ntmps51, List.size_toArray, List.length_cons, List.length_nil, Nat.reduceAdd, Nat.reduceSub, Array.replicate_succ, Array.replicate_zero, List.push_toArray, List.append_toArray, List.nil_append, List.cons_append]
  gi_wp2
  gi_loopw [3] (fun i wr => ∃ (k f : Nat) (pre : List (Int × Int)), k ≤ s.size ∧ s.size - k < f ∧ pre.length ≤ k ∧ i = .int .i64 k ∧ Hid (R = pre ++ ptf s f k) ∧ J pre wr ∧ KeepsS Bs s W wr)
    (fun i _ => s.size - (intOf i).toNat)
  case atStart => exact ⟨0, s.size + 1, [], by omega, by omega, by simp, rfl, hR, h0, KeepsS.refl _ _ _⟩
  case round =>
    obtain ⟨k, f, pre, hk, hf, hpl, rfl, hc, hJs, hnx⟩ := hrel
    obtain ⟨f, rfl⟩ : ∃ g, f = g + 1 := ⟨f - 1, by omega⟩
    have hs' := hnx hBs
    by_cases hlt : k < s.size
    · obtain ⟨x, m, e, hr⟩ := ex3 (rd s k)
      have t1 : decide ((k : Int) < s.size) = true := decide_eq_true (by omega)
      have hc' := hc.out
      rw [ptf, if_pos hlt, hr.out] at hc'
      by_cases he : e = 0
      · have hm := rd_ok s k x m e hr.out he
        subst he
        rw [if_pos rfl] at hc'
        replace hc' := Lib.hid hc'
        obtain ⟨fn, tmps, assign, body, hy, hRR⟩ := hY pre ((k : Int), x) wr hJs (by omega)
        gi_wp2
        refine ⟨trivial, ?_⟩
        refine (callsIn_wide.2 (read_to s hs k x m 0 hr.out _)).mono ?_; rintro e w' ⟨rfl, rfl⟩
        gi_wp2
        refine hRR.mono ?_
        rintro e W3 (⟨rfl, hJ3, hk3⟩ | ⟨rfl, hJx3⟩)
        · gi_wp2
          go_roundw
          case rel => exact ⟨k + m.toNat, f, pre ++ [((k : Int), x)], by omega, by omega, by simp; omega, by go_num, by show R = _; rw [hc'.out, List.append_assoc]; rfl, hJ3, hnx.trans hk3⟩
          case measure => simp [intOf]; omega
        · gi_wp2
          refine bodyPost_ret (results_none rfl _ _ _) rfl ?_
          exact ⟨⟨_, rfl⟩, .inr ⟨_, ⟨ptf s f (k + m.toNat), by rw [hc'.out, List.append_assoc]; rfl⟩, hJx3⟩⟩
      · rw [if_neg he, List.append_nil] at hc'
        subst hc'
        have t2 : (e != 0) = true := by simpa using he
        gi_wp2
        refine ⟨trivial, ?_⟩
        refine (callsIn_wide.2 (read_to s hs k x m e hr.out _)).mono ?_; rintro e w' ⟨rfl, rfl⟩
        gi_wp2
        refine ⟨(fun f h => nomatch h), ?_⟩
        gi_wp2
        refine bodyPost_ret (results_none rfl _ _ _) rfl ?_
        exact ⟨⟨_, rfl⟩, .inl ⟨_, rfl, hJs⟩⟩
    · obtain rfl : k = s.size := by omega
      have hc' := hc.out
      rw [ptf, if_neg hlt, List.append_nil] at hc'
      subst hc'
      gi_wp2
      go_end0
      exact ⟨⟨_, rfl⟩, .inl ⟨_, rfl, hJs⟩⟩

theorem points_stops (n : Nat) (hn : 2 ≤ n) (Bs : Nat) (s : ByteArray) (hs : s.size ≤ 4611686018427387904) (w : World) (hb : Bs < w.heap.size) (hBs : w.cell? ⟨Bs, 0, none⟩ = some (.string s)) :
    SeqStopsK Fence.wide n Try.prog 51 #[.pointer (some ⟨Bs, 0, none⟩)] (fun x : Int × Int => #[Value.int .i64 x.1, Value.int .i64 x.2]) (KeepsS Bs s) (fun ys => ys = pts s) (fun pre => ∃ more, pts s = pre ++ more) s.size w := fun l J Jx W hW _ _ hY h0 =>
  points1_in n hn l Bs s hs J Jx hY W ((hW.cell (p := ⟨Bs, 0, none⟩) hb).trans hBs) h0

theorem cell_mk (W : World) (v : Value) (t : TypeId) : (W.alloc (.cells #[v] t)).cell? ⟨W.heap.size, 0, none⟩ = some v ∧ (W.alloc (.cells #[v] t)).frozen? ⟨W.heap.size, 0, none⟩ = false := by
  constructor <;> simp [go_sem]
theorem cell_on {W : World} {a : Addr} {v : Value} (o : Obj) (h : W.cell? a = some v) : (W.alloc o).cell? a = some v := cell_kept h (World.grownBy_alloc W o none) (fun r e => by cases e)
theorem frozen_on {W : World} {a : Addr} {v : Value} (o : Obj) (h : W.cell? a = some v) (hf : W.frozen? a = false) : (W.alloc o).frozen? a = false := (frozen_kept h (World.grownBy_alloc W o none) (fun r e => by cases e)).trans hf

theorem points_in (n : Nat) (s : ByteArray) (w : World) :
    CallsIn Fence.wide n Try.prog 43 #[.string s] w fun e W' => e = .returned (.func (.func 51) #[] #[.pointer (some ⟨w.heap.size, 0, none⟩)]) ∧ W' = w.alloc (.cells #[.string s] 9) := by
  have hro : Fence.wide.round = none := rfl
  refine callsIn_of_wp Try.func43 rfl trivial ?_ hro
  simp only [Try.ntmps43, List.size_toArray, List.length_cons, List.length_nil, Nat.reduceAdd, Nat.reduceSub, Array.replicate_succ, Array.replicate_zero, List.push_toArray, List.append_toArray, List.nil_append, List.cons_append]
  gi_wp2
  go_ret
  exact ⟨rfl, rfl⟩
end Go.Proofs.Ytkabkkgaalimmaa
