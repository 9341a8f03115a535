/- 'append' of one element onto a slice without room: as a step of a region that draws, and in a plain list. -/
import Derived.Test.YtkabkkgaalimmaaV12
import Derived.ArgAppend
namespace Go.Proofs.Ytkabkkgaalimmaa
open Go.RowKit

/-- A slice without room that reads as a list of cells. -/
def Full (W : World) (v : Value) (n : Nat) (xs : List Value) : Prop :=
  ∃ b : Addr, v = .slice (some b) n n ∧ xs.length = n ∧ ∀ (j : Nat) u, xs[j]? = some u → W.cell? (b.add j) = some u
theorem owns_le {W : World} {B b e n : Nat} {v : Value} {xs : List Value} (h : W.ownsRow B e 1 v n xs) (hb : b ≤ B) : W.ownsRow b e 1 v n xs := by
  refine ⟨h.1, ?_⟩
  rcases h.2 with h' | ⟨g, cap, cur, h1, h2, h3⟩
  · exact .inl h'
  · exact .inr ⟨g, cap, cur, h1, Nat.le_trans hb h2, h3⟩

theorem run_append_full {P : Program} (w : World) (t ty e : TypeId) (i : TypeInfo) (z : Value) (bytes : Nat) (h1 : P.underlying t = some (.slice e)) (h2 : P.info? e = some i) (h3 : i.zero = some z) (h4 : i.size = 1) (h5 : i.bytes = bytes) (h6 : z.cells.size = 1)
    (v : Value) (n : Nat) (xs : List Value) (hf : Full w v n xs) (u : Value) (b1 : n + 1 ≤ maxLen) (b2 : (n + 1) * bytes ≤ 140737488355328) :
    ∃ v' w', (Builtin.append_ #[t, t] ty #[v, .slice (some ⟨w.heap.size, 0, none⟩) 1 1]).run P (w.alloc (.cells #[u] e)) = .ok v' w' ∧ w'.ownsRow w.heap.size e 1 v' (n + 1) (xs ++ [u]) ∧ Below w.heap.size w w' ∧ w.heap.size ≤ w'.heap.size ∧ ∃ g cap, v' = .slice (some ⟨g, 0, none⟩) (n + 1) cap := by
  obtain ⟨b, rfl, hl, hc⟩ := hf
  obtain ⟨v', w', hrun, r1, r2⟩ := run_append_arg_grows (P := P) (w.alloc (.cells #[u] e)) t ty e i z 1 bytes h1 h2 h3 h4 h5 h6 (by decide) b n n xs (by omega)
    (fun j x hj => cell_kept (hc j x hj) (World.grownBy_alloc w _ none) (fun r e => by cases e)) ⟨w.heap.size, 0, none⟩ 1 1 [u] rfl (cell_one_new _ _ _) (by omega) b1 b2
  refine ⟨v', w', hrun, owns_le r1 (by simp), ((Below.refl w.heap.size w).alloc (Nat.le_refl _) _).grown r2 (by simp) (fun k e => by cases e), by have := r2.size; simp at this; omega, ?_⟩
  rcases r1.2 with ⟨rfl, h0⟩ | ⟨g, cap, cur, rfl, _⟩
  · omega
  · exact ⟨g, cap, rfl⟩

theorem step_append_full1 {P : Program} {ops : Array Oper} {o : Oper} {a : Act} {w : World} {K : Act → World → Prop} {Q : Exit → Act → World → Prop} {E : Prop}
    (hg : o.guard = none) (s x : Operand) (t : TypeId) (hop : o.op = Op.call { callee := Callee.builtin Builtin.append, args := #[s, x], argTypes := #[t, t] })
    (e : TypeId) (i : TypeInfo) (z : Value) (bytes : Nat) (h1 : P.underlying t = some (.slice e)) (h2 : P.info? e = some i) (h3 : i.zero = some z) (h4 : i.size = 1) (h5 : i.bytes = bytes) (h6 : z.cells.size = 1)
    (v : Value) (n : Nat) (xs : List Value) (hs : a.eval s = v) (u : Value) (hown : Full w v n xs) (hx : a.eval x = .slice (some ⟨w.heap.size, 0, none⟩) 1 1)
    (b1 : n + 1 ≤ maxLen) (b2 : (n + 1) * bytes ≤ 140737488355328)
    (hK : ∀ v' w', w'.ownsRow w.heap.size e 1 v' (n + 1) (xs ++ [u]) → Below w.heap.size w w' → w.heap.size ≤ w'.heap.size → (∃ g cap, v' = .slice (some ⟨g, 0, none⟩) (n + 1) cap) → K (a.put o.dst v') w') :
    if Region.wanted o (yielded ops a.tmps) = true then Oper.wp P o a (w.alloc (.cells #[u] e)) K Q else E := by
  have hw : Region.wanted o (yielded ops a.tmps) = true := by simp [Region.wanted, hg]
  rw [if_pos hw]
  obtain ⟨v', w', hrun, r1, r2, r3, r4⟩ := run_append_full (P := P) w t o.type e i z bytes h1 h2 h3 h4 h5 h6 v n xs hown u b1 b2
  unfold Oper.wp
  simp [execOp, hop, resolve, invoke, builtin, hs, hx, hrun, Result.andThen]
  exact hK v' w' r1 r2 r3 r4

theorem app_full {P : Program} {ops : Array Oper} {rest : List Oper} {o : Oper} {a : Act} {Q : Exit → Act → World → Prop} {w : World} (hgd : o.guard = none) (s x : Operand) (t : TypeId)
    (ho : o.op = .call { callee := .builtin .append, args := #[s, x], argTypes := #[t, t] })
    {e : TypeId} {u : Value} (z : Value) (bytes : Nat) (ht : P.underlying t = some (.slice e)) (hinfo : (P.info? e).map (fun i => (i.zero, i.size, i.bytes)) = some (some z, 1, bytes)) (hzs : z.cells.size = 1)
    (v : Value) (n : Nat) (xs : List Value) (hs : a.eval s = v) (hx : a.eval x = .slice (some ⟨w.heap.size, 0, none⟩) 1 1) (hown : Full w v n xs)
    (b1 : n + 1 ≤ maxLen) (hbytes : (n + 1) * bytes ≤ 140737488355328)
    (h : ∀ v' w', w'.ownsRow w.heap.size e 1 v' (n + 1) (xs ++ [u]) → Below w.heap.size w w' → w.heap.size ≤ w'.heap.size → (∃ g cap, v' = .slice (some ⟨g, 0, none⟩) (n + 1) cap) → wpList P ops Q rest (a.put o.dst v') w') :
    wpList P ops Q (o :: rest) a (w.alloc (.cells #[u] e)) := by
  obtain ⟨i, hi, hz0, hz1, hz2⟩ := info_parts hinfo
  obtain ⟨v', w', hrun, r1, r2, r3, r4⟩ := run_append_full (P := P) w t o.type e i z bytes ht hi hz0 hz1 hz2 hzs v n xs hown u b1 hbytes
  refine wpList_plain hgd fun K hK' => ?_
  unfold Oper.wp
  simp [execOp, ho, resolve, invoke, builtin, hs, hx, hrun, Result.andThen]
  exact hK' _ _ (h v' w' r1 r2 r3 r4)
end Go.Proofs.Ytkabkkgaalimmaa
