/- The statement that puts a wrong line among the others: what its operations leave. -/
import Derived.Test.YtiapkindbbbdpaaDoorRJ
import Derived.Test.YtiapkindbbbdpaaDoorP8
namespace Go.Proofs.YtiapkindbbbdpaaDoor
open Go Go.RowKit Go.Shelf
set_option linter.unusedVariables false
theorem list_of_all2 {α : Type} (n : Nat) (P : Nat → α → Prop) (h : ∀ i, i < n → ∃ y, P i y) : ∃ l : List α, l.length = n ∧ ∀ i (hi : i < l.length), P i l[i] := by
  induction n with
  | zero => exact ⟨[], rfl, fun i hi => by simp at hi⟩
  | succ n ih =>
    obtain ⟨l, h1, h2⟩ := ih (fun i hi => h i (by omega))
    obtain ⟨y, hy⟩ := h n (by omega)
    refine ⟨l ++ [y], by simp [h1], fun i hi => ?_⟩
    rw [List.getElem_append]
    split
    · rename_i h3; exact h2 i h3
    · rename_i h3
      have : i = n := by simp at hi; omega
      subst this
      simpa using hy
theorem mrow_list {W : World} {a : Option Addr} {c : Nat} {Ls : List (List Wd)} (h : MRow W (.slice a Ls.length c) Ls) :
    ∃ A : List (List Wd × Value), A.map (·.1) = Ls ∧ Row W (.slice a Ls.length c) (A.map (·.2)) ∧ ∀ x ∈ A, WRow W x.2 x.1 := by
  rcases h with ⟨h1, h2⟩ | ⟨b, off, cap, h1, h2, h3, h4, h5⟩
  · subst h2
    obtain ⟨rfl, _, rfl⟩ := (Value.slice.injEq ..).mp h1
    exact ⟨[], rfl, .inl ⟨none, 0, fun _ => rfl, rfl, rfl⟩, fun x hx => by cases hx⟩
  · obtain ⟨rfl, _, rfl⟩ := (Value.slice.injEq ..).mp h1
    obtain ⟨l, hl, hp⟩ := list_of_all2 Ls.length (fun i (y : List Wd × Value) => W.cell? ⟨b, off + i, none⟩ = some y.2 ∧ WRow W y.2 y.1 ∧ Ls[i]? = some y.1) (fun i hi => by
      obtain ⟨vi, x, y⟩ := h5 i hi
      exact ⟨(Ls[i], vi), x, y, List.getElem?_eq_getElem hi⟩)
    refine ⟨l, ?_, ?_, fun x hx => ?_⟩
    · refine List.ext_getElem? fun i => ?_
      rcases Nat.lt_or_ge i l.length with hi | hi
      · rw [(hp i hi).2.2, List.getElem?_map, List.getElem?_eq_getElem hi]; rfl
      · rw [List.getElem?_eq_none (by simpa using hi), List.getElem?_eq_none (by omega)]
    · refine .inr ⟨b, off, c, by rw [List.length_map, hl], h2, by rw [List.length_map, hl]; exact h3, h4, fun i hi => ?_⟩
      rw [List.length_map] at hi
      rw [List.getElem_map]
      exact (hp i hi).1
    · obtain ⟨i, hi, rfl⟩ := List.mem_iff_getElem.1 hx
      exact (hp i hi).2.1
theorem mrow_own {W : World} {base : Nat} {v : Value} {A : List (List Wd × Value)} (h : W.ownsRow base 36 1 v A.length (A.map (·.2))) (hA : ∀ x ∈ A, WRow W x.2 x.1) : MRow W v (A.map (·.1)) := by
  rcases h.2 with ⟨h1, h2⟩ | ⟨g, cap, cur, h1, h2, h3, h4, h5, h6, h7⟩
  · left
    rw [List.eq_nil_of_length_eq_zero h2]
    exact ⟨h1, rfl⟩
  · right
    refine ⟨g, 0, cap, by rw [List.length_map]; exact h1, (Array.getElem?_eq_some_iff.1 h3).1, by rw [List.length_map]; exact h4, h5, fun i hi => ?_⟩
    rw [List.length_map] at hi
    refine ⟨(A[i]).2, ?_, ?_⟩
    · rw [Nat.zero_add, Lib.cell_of_heap h3]
      have h8 := congrArg (·[i]?) h7
      simp only [List.getElem?_take, List.getElem?_map] at h8
      rw [if_pos (by omega), List.getElem?_eq_getElem hi] at h8
      simpa using h8
    · rw [List.getElem_map]
      exact hA A[i] (List.getElem_mem hi)
/-- One word in a block of its own. -/
def BW (t : ByteArray) (q : Bool) (w : World) (v : Value) : Prop := ∃ b, v = .slice (some ⟨b, 0, none⟩) 1 1 ∧ WdAt w b t q
theorem BW.on {t : ByteArray} {q : Bool} {w w' : World} {v : Value} (h : BW t q w v) (hb : Below w.heap.size w w') : BW t q w' v := by
  obtain ⟨b, h1, h2⟩ := h
  exact ⟨b, h1, h2.block hb⟩
theorem BW.row {t : List UInt8} {q : Bool} {w : World} {v : Value} (h : BW ⟨t.toArray⟩ q w v) : WRow w v [(t, q)] := by
  obtain ⟨b, rfl, h2⟩ := h
  refine .inr ⟨b, 1, rfl, (Array.getElem?_eq_some_iff.1 h2).1, by simp, by unfold maxLen; omega, fun i hi => ?_⟩
  obtain rfl : i = 0 := by simpa using hi
  exact h2.cells.1
theorem BW.keep {t : ByteArray} {q : Bool} {w w' : World} {v r : Value} {base n : Nat} {xs : List Value} (h : BW t q w v) (ho : w.ownsRow base 36 1 r n xs) (hr : ∀ row, r.ownBlock ≠ some row → row < w.heap.size → w'.heap[row]? = w.heap[row]?) : BW t q w' v := by
  obtain ⟨b, h1, h2⟩ := h
  refine ⟨b, h1, (hr b (fun e => ?_) (Array.getElem?_eq_some_iff.1 h2).1).trans h2⟩
  rcases ho.2 with ⟨rfl, _⟩ | ⟨g, cap, cur, rfl, _, h3, _⟩
  · simp [Value.ownBlock] at e
  · simp [Value.ownBlock] at e
    subst e
    unfold WdAt at h2
    rw [h2] at h3
    simp at h3
theorem run_b0 (w : World) : (Instr.buildSlice 42 0 #[]).run Tryd.prog w = .ok (.slice (some ⟨w.heap.size, 0, none⟩) 0 0) (w.alloc (.cells #[] 36)) := by
  go_simp
theorem run_b1 (w : World) (t : ByteArray) (q : Bool) : (Instr.buildSlice 36 1 #[(0, .agg #[.string t, .bool q])]).run Tryd.prog w = .ok (.slice (some ⟨w.heap.size, 0, none⟩) 1 1) (w.alloc (.cells #[.string t, .bool q] 31)) := by
  go_simp
theorem run_b2 (w : World) (a : Option Addr) (n c : Nat) : (Instr.buildSlice 42 1 #[(0, .slice a n c)]).run Tryd.prog w = .ok (.slice (some ⟨w.heap.size, 0, none⟩) 1 1) (w.alloc (.cells #[.slice a n c] 36)) := by
  go_simp
theorem row_one (w : World) (x : Value) (e : TypeId) : Row (w.alloc (.cells #[x] e)) (.slice (some ⟨w.heap.size, 0, none⟩) 1 1) [x] := by
  refine .inr ⟨w.heap.size, 0, 1, rfl, by simp, by simp, by unfold maxLen; omega, fun i hi => ?_⟩
  obtain rfl : i = 0 := by simpa using hi
  simp [go_sem]
theorem run_ld (w : World) (N : Nat) (t : ByteArray) (q : Bool) (h : WdAt w N t q) (o : Oper) (x : Operand) : (execOp (fun _ => .pointer (some ⟨N, 0, none⟩)) { o with op := .load 31 x }).run Tryd.prog w = .ok (.value (.agg #[.string t, .bool q])) w := by
  obtain ⟨⟨h1, h2⟩, _⟩ := h.cells
  go_simp
theorem one_wr {W : World} {A : List (List Wd × Value)} (h : ∀ x ∈ A, WRow W x.2 x.1) : ∀ c ∈ A.map (·.2), c.oneCell' = true := by
  intro c hc
  obtain ⟨x, hx, rfl⟩ := List.mem_map.1 hc
  obtain ⟨a, c, he⟩ := (h x hx).shape
  rw [he]; rfl
/-- What the operations of the statement leave. -/
def XF (W0 : World) (t : ByteArray) (q : Bool) (k : Nat) (va v3 v11 : Value) (p1 : List Value) (L : List (List Wd)) (i : Nat) (v : Value) (w : World) : Prop :=
  match i with
  | 0 => ∃ b, v = .slice (some ⟨b, 0, none⟩) 0 0 ∧ w.ownsRow W0.heap.size 36 1 v 0 []
  | 1 => v = va | 2 => v = .int .i64 k | 3 => v = v3
  | 4 => w.ownsRow W0.heap.size 36 1 v k p1
  | 5 => v = .agg #[.string t, .bool q]
  | 6 => BW t q w v
  | 7 => ∃ u, Row w v [u] ∧ BW t q w u
  | 8 => ∃ u, w.ownsRow W0.heap.size 36 1 v (k + 1) (p1 ++ [u]) ∧ BW t q w u
  | 9 => v = va | 10 => v = .int .i64 k | 11 => v = v11
  | 12 => MRow w v L
  | 13 => v = .tuple #[.string ⟨#[]⟩, .int .i64 k, .int .i64 250] | 14 => v = .tuple #[.string ⟨#[]⟩, .int .i64 k, .int .i64 250]
  | 15 => v = .string ⟨#[]⟩ | 16 => v = .int .i64 k | 17 => v = .int .i64 250
  | 18 => v = .string ⟨#[]⟩ | 19 => v = .int .i64 k | _ => v = .int .i64 250
end Go.Proofs.YtiapkindbbbdpaaDoor
