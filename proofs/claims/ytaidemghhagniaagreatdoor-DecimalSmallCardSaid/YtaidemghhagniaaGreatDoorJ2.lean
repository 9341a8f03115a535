/- Laws on slices that read as a list of cells of one element each: the append of a whole slice. -/
import Derived.Test.YtaidemghhagniaaGreatDoorJ1
import Derived.Laws.AppendOwnNone
namespace Go.Proofs.YtaidemghhagniaaGreatDoor
open Go.RowKit

/-- A slice that reads as a list of cells. -/
def Row (W : World) (v : Value) (xs : List Value) : Prop :=
  (∃ a c, (a = none → c = 0) ∧ v = .slice a 0 c ∧ xs = []) ∨ ∃ b off cap, v = .slice (some ⟨b, off, none⟩) xs.length cap ∧ b < W.heap.size ∧ xs.length ≤ cap ∧ cap ≤ maxLen ∧ ∀ i (hi : i < xs.length), W.cell? ⟨b, off + i, none⟩ = some xs[i]
theorem Row.on {W W' : World} {v : Value} {xs : List Value} (h : Row W v xs) (hb : Below W.heap.size W W') : Row W' v xs := by
  rcases h with h | ⟨b, off, cap, rfl, hlt, h1, h2, hc⟩
  · exact .inl h
  · exact .inr ⟨b, off, cap, rfl, Nat.lt_of_lt_of_le hlt hb.size, h1, h2, fun i hi => (hb.cell (p := ⟨b, off + i, none⟩) hlt).trans (hc i hi)⟩
theorem Row.of_owned {W : World} {base e n : Nat} {v : Value} {xs : List Value} (h : W.ownsRow base e 1 v n xs) : Row W v xs := by
  have hl : xs.length = n := by have := h.1; simpa using this
  have h' := h
  rcases h.2 with ⟨rfl, rfl⟩ | ⟨g, cap, cur, rfl, _, hg, h1, h2, _⟩
  · exact .inl ⟨none, 0, fun _ => rfl, rfl, by simpa using hl⟩
  · subst hl
    refine .inr ⟨g, 0, cap, rfl, (Array.getElem?_eq_some_iff.1 hg).1, h1, h2, fun i hi => ?_⟩
    rw [Nat.zero_add, h'.cellAt i (by omega), List.getElem?_eq_getElem hi]
theorem owned_len {W : World} {base e n : Nat} {v : Value} {xs : List Value} (h : W.ownsRow base e 1 v n xs) : xs.length = n := by have := h.1; simpa using this

/-- 'append(out, xs...)': out the call's own. -/
theorem app_all {P : Program} {ops : Array Oper} {rest : List Oper} {o : Oper} {a : Act} {Q : Exit → Act → World → Prop} {w : World} (hgd : o.guard = none) (s x : Operand) (t : TypeId)
    (ho : o.op = .call { callee := .builtin .append, args := #[s, x], argTypes := #[t, t] })
    (base : Nat) (e : TypeId) (z : Value) (bytes : Nat) (ht : P.underlying t = some (.slice e)) (hinfo : (P.info? e).map (fun i => (i.zero, i.size, i.bytes)) = some (some z, 1, bytes)) (hzs : z.cells.size = 1)
    (v : Value) (n : Nat) (xs : List Value) (hs : a.eval s = v) (u : Value) (news : List Value) (hx : a.eval x = u) (hown : w.ownsRow base e 1 v n xs) (hrow : Row w u news) (hone : ∀ c ∈ news, c.oneCell' = true)
    (hb1 : 1 ≤ bytes) (hbytes : (n + news.length) * bytes ≤ 140737488355328) (hbase : base ≤ w.heap.size)
    (h : ∀ v' w', w'.ownsRow base e 1 v' (n + news.length) (xs ++ news) → Below base w w' → (∀ row, v.ownBlock ≠ some row → row < w.heap.size → w'.heap[row]? = w.heap[row]?) → (v' = .slice none 0 0 ↔ v = .slice none 0 0 ∧ news = []) → wpList P ops Q rest (a.put o.dst v') w') :
    wpList P ops Q (o :: rest) a w := by
  obtain ⟨i, hi, hz0, hz1, hz2⟩ := info_parts hinfo
  have hn : n + news.length ≤ (n + news.length) * bytes := Nat.le_mul_of_pos_right _ hb1
  rcases hrow with ⟨a', c', hac, rfl, rfl⟩ | ⟨b, off, cap, rfl, hlt, h1, h2, hc⟩
  · cases a' with
    | none =>
      rw [hac rfl] at hx
      refine wpList_append_own_none hgd s x t ho base e i 1 ht hi v n xs hs hown hx (h v w ?_ (Below.refl _ _) (fun _ _ _ => rfl) ?_)
      · simpa using hown
      · simp
    | some ad =>
      refine wpList_append_own _ hgd s x t ho base e i z 1 bytes ht hi hz0 hz1 hz2 hzs (by decide) v n xs hs hown ad 0 c' [] hx (by simp) (by intro j c hj; simp at hj) hone (by unfold maxLen; simp at hn hbytes; omega) hbytes hbase ?_
      intro v' w' hown' hg hnil
      refine h v' w' hown' ((Below.refl base w).grown hg hbase (fun k e' => (hown.lt k e').1)) (fun row hrow hlt => hg.block row hlt (fun e' => hrow e'.symm)) ?_
      rw [hnil]; simp
  · refine wpList_append_own _ hgd s x t ho base e i z 1 bytes ht hi hz0 hz1 hz2 hzs (by decide) v n xs hs hown ⟨b, off, none⟩ news.length cap news hx (by omega) ?_ hone (by unfold maxLen; omega) hbytes hbase ?_
    · intro j c hj
      obtain ⟨hj', rfl⟩ := List.getElem?_eq_some_iff.1 hj
      rw [show (⟨b, off, none⟩ : Addr).add j = ⟨b, off + j, none⟩ by simp [Addr.add]]
      exact hc j hj'
    · intro v' w' hown' hg hnil
      refine h v' w' hown' ((Below.refl base w).grown hg hbase (fun k e' => (hown.lt k e').1)) (fun row hrow hlt => hg.block row hlt (fun e' => hrow e'.symm)) ?_
      rw [hnil]; simp [List.length_eq_zero_iff]
end Go.Proofs.YtaidemghhagniaaGreatDoor
