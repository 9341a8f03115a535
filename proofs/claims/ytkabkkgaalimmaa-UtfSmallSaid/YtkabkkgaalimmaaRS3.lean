/- More steps of a region: slices, strings, tuples, appends. -/
import Derived.Test.YtkabkkgaalimmaaV32
import Derived.Test.YtkabkkgaalimmaaRI2
import Derived.Deep.RegionLawGrows
import Derived.Deep.RegionLaw
namespace Go.Proofs.Ytkabkkgaalimmaa
open Go.RowKit Go.Shelf
section
variable {P : Program} {ops : Array Oper} {Q : Exit → Act → World → Prop} {a : Act} {w : World} {K : Act → World → Prop} {i : Nat} {o : Oper}

theorem step_slice_hi {t : TypeId} {x y : Operand} {v u r : Value} {w' : World} (ho : ops[i]? = some o) (hm : Met ops a o) (hop : o.op = .slice t x none (some y) none) (hx : a.eval x = v) (hy : a.eval y = u)
    (hr : (Instr.sliceAt t v none (some u) none).run P w = .ok r w') (hk : K (a.put o.dst r) w') : wpOp P ops Q i K a w := by
  refine step_run ho hm (v := r) (w' := w') ?_ hk
  simp [execOp, hop, hx, hy, hr, Result.andThen]
theorem step_slice_lo {t : TypeId} {x y : Operand} {v u r : Value} {w' : World} (ho : ops[i]? = some o) (hm : Met ops a o) (hop : o.op = .slice t x (some y) none none) (hx : a.eval x = v) (hy : a.eval y = u)
    (hr : (Instr.sliceAt t v (some u) none none).run P w = .ok r w') (hk : K (a.put o.dst r) w') : wpOp P ops Q i K a w := by
  refine step_run ho hm (v := r) (w' := w') ?_ hk
  simp [execOp, hop, hx, hy, hr, Result.andThen]
theorem step_build0 {t : TypeId} {w' : World} {r : Value} (ho : ops[i]? = some o) (hm : Met ops a o) (hop : o.op = .buildSlice t 0 #[])
    (hr : (Instr.buildSlice t 0 #[]).run P w = .ok r w') (hk : K (a.put o.dst r) w') : wpOp P ops Q i K a w := by
  refine step_run ho hm (v := r) (w' := w') ?_ hk
  simp [execOp, hop, hr, Result.andThen]
theorem step_extract {x : Operand} {n : Nat} {v r : Value} (ho : ops[i]? = some o) (hm : Met ops a o) (hop : o.op = .extract x n) (hx : a.eval x = v) (hr : (Instr.extract v n).run P w = .ok r w)
    (hk : K (a.put o.dst r) w) : wpOp P ops Q i K a w := by
  refine step_run ho hm (v := r) (w' := w) ?_ hk
  simp [execOp, hop, hx, hr, Result.andThen]
theorem step_bin {x y : Operand} {op : BinOp} {t t2 : TypeId} {u v r : Value} {w' : World} (ho : ops[i]? = some o) (hm : Met ops a o) (hop : o.op = .binOp op t x y t2) (hx : a.eval x = u) (hy : a.eval y = v)
    (hr : (do eqGuard op t x y u v; binOp op t u v : Sem Value).run P w = .ok r w') (hk : K (a.put o.dst r) w') : wpOp P ops Q i K a w := by
  refine step_run ho hm (v := r) (w' := w') ?_ hk
  simp only [execOp, hop, hx, hy]
  rw [Sem.run_bind, hr]
  rfl
theorem owns_base {w : World} {b b' e n : Nat} {v : Value} {xs : List Value} (h : w.ownsRow b e 1 v n xs) (hb : b' ≤ b) : w.ownsRow b' e 1 v n xs := by
  refine ⟨h.1, ?_⟩
  rcases h.2 with h' | ⟨g, cap, cur, h1, h2, h3⟩
  · exact .inl h'
  · exact .inr ⟨g, cap, cur, h1, Nat.le_trans hb h2, h3⟩
theorem wpOp_of_wp (ho : ops[i]? = some o) (hm : Met ops a o) (h : Oper.wp P o a w K Q) : wpOp P ops Q i K a w := by
  unfold Met at hm
  unfold wpOp
  simp only [ho, hm, if_true]
  exact .inl h
theorem wpOp_of_step (ho : ops[i]? = some o) (hm : Met ops a o)
    (h : if Region.wanted o (yielded ops a.tmps) = true then Oper.wp P o a w K Q else False) : wpOp P ops Q i K a w := by
  have hm' := hm
  unfold Met at hm
  rw [if_pos hm] at h
  exact wpOp_of_wp ho hm' h
/-- Onto an empty row without room: what there is is left alone. -/
theorem step_app_new {x y : Operand} {t : TypeId} {e : TypeId} {z : Value} {bytes base b : Nat} (ho : ops[i]? = some o) (hg : o.guard = none) (hop : o.op = .call { callee := .builtin .append, args := #[x, y], argTypes := #[t, t] })
    (ht : P.underlying t = some (.slice e)) (hinfo : (P.info? e).map (fun i => (i.zero, i.size, i.bytes)) = some (some z, 1, bytes)) (hzs : z.cells.size = 1)
    (u : Value) (news : List Value) (hx : a.eval x = .slice (some ⟨b, 0, none⟩) 0 0) (hown : w.ownsRow base e 1 (.slice (some ⟨b, 0, none⟩) 0 0) 0 []) (hy : a.eval y = u) (hrow : Row w u news) (hone : ∀ c ∈ news, c.oneCell' = true)
    (hb1 : 1 ≤ bytes) (hbytes : news.length * bytes ≤ 140737488355328) (hbase : base ≤ w.heap.size)
    (hk : ∀ v' w', w'.ownsRow base e 1 v' news.length news → Below w.heap.size w w' → K (a.put o.dst v') w') : wpOp P ops Q i K a w := by
  obtain ⟨inf, hi, hz0, hz1, hz2⟩ := info_parts hinfo
  have hn : news.length ≤ news.length * bytes := Nat.le_mul_of_pos_right _ hb1
  by_cases h0 : news = []
  · subst h0
    obtain ⟨a', c', hac, rfl⟩ : ∃ a c, (a = none → c = 0) ∧ u = .slice a 0 c := by
      rcases hrow with ⟨a', c', h1, h2, _⟩ | ⟨b2, off, cap, h1, _⟩
      · exact ⟨a', c', h1, h2⟩
      · exact ⟨_, cap, (fun h => by cases h), h1⟩
    cases a' with
    | none =>
      rw [hac rfl] at hy
      have hrun := run_append_owned_none (P := P) (w := w) base t o.type e inf 1 ht hi _ 0 [] hown
      refine wpOp_of_wp ho (met_none hg) ?_
      unfold Oper.wp
      simp [execOp, hop, resolve, invoke, builtin, hx, hy, hrun, Result.andThen]
      exact hk _ w hown (Below.refl _ _)
    | some ad =>
      refine wpOp_of_step ho (met_none hg) ?_
      refine step_append_room hg x y t hop e inf 1 ht hi hz1 b 0 0 0 hx ad 0 c' [] hy (by simp) (by simp) (by simp) (by omega) (by simp) ?_
      rw [show w.setCells b (0 + 0 * 1) [] = w by simp [World.setCells]]
      exact hk _ w hown (Below.refl _ _)
  · obtain ⟨b2, off2, cap2, hu, hlt2, h1, h2, hc⟩ : ∃ b off cap, u = .slice (some ⟨b, off, none⟩) news.length cap ∧ b < w.heap.size ∧ news.length ≤ cap ∧ cap ≤ maxLen ∧ ∀ i (hi : i < news.length), w.cell? ⟨b, off + i, none⟩ = some news[i] := by
      rcases hrow with ⟨_, _, _, _, h⟩ | h
      · exact absurd h h0
      · exact h
    subst hu
    have hpos : 0 < news.length := List.length_pos_iff.2 h0
    refine wpOp_of_step ho (met_none hg) ?_
    refine step_append_grows hg x y t hop e inf z 1 bytes ht hi hz0 hz1 hz2 hzs (by decide) (some ⟨b, 0, none⟩) 0 0 [] hx (fun e => by cases e) (by simp) ?_ ⟨b2, off2, none⟩ news.length cap2 news hy (by omega) ?_ hone (by omega) (by unfold maxLen; omega) (by simpa using hbytes) ?_
    · intro p _ j u hj; simp at hj
    · intro j u hj
      obtain ⟨hj', rfl⟩ := List.getElem?_eq_some_iff.1 hj
      rw [show (⟨b2, off2, none⟩ : Addr).add j = ⟨b2, off2 + j, none⟩ by simp [Addr.add]]
      exact hc j hj'
    · intro v' w' hown' hgr
      exact hk v' w' (owns_base (by simpa using hown') hbase) ((Below.refl _ _).grown hgr (Nat.le_refl _) (fun k e => by cases e))
end
end Go.Proofs.Ytkabkkgaalimmaa
