/- append as an operation of a region that draws its order. -/
import Derived.Test.YtimiejahkcjcdaaDoorMG2
import Derived.Laws.AppendOwn
import Derived.Laws.OwnMore
namespace Go.Proofs.YtimiejahkcjcdaaDoor
open Go.RowKit

theorem arm_app {P : Program} {ops : Array Oper} {o : Oper} {a : Act} {w : World} {K : Act → World → Prop} {Q : Exit → Act → World → Prop} {E : Prop} (hgd : o.guard = none) (s x : Operand) (t : TypeId)
    (ho : o.op = .call { callee := .builtin .append, args := #[s, x], argTypes := #[t, t] })
    (base : Nat) (e : TypeId) (z : Value) (bytes : Nat) (ht : P.underlying t = some (.slice e)) (hinfo : (P.info? e).map (fun i => (i.zero, i.size, i.bytes)) = some (some z, 1, bytes)) (hzs : z.cells.size = 1)
    (v : Value) (n : Nat) (xs : List Value) (hs : a.eval s = v) (u : Value) (news : List Value) (hx : a.eval x = u) (hown : w.ownsRow base e 1 v n xs) (hrow : Row w u news) (hone : ∀ c ∈ news, c.oneCell' = true)
    (hb1 : 1 ≤ bytes) (hbytes : (n + news.length) * bytes ≤ 140737488355328) (hbase : base ≤ w.heap.size)
    (h : ∀ v' w', w'.ownsRow base e 1 v' (n + news.length) (xs ++ news) → Below base w w' → w.heap.size ≤ w'.heap.size → K (a.put o.dst v') w') :
    if Region.wanted o (yielded ops a.tmps) = true then Oper.wp P o a w K Q else E := by
  have hw : Region.wanted o (yielded ops a.tmps) = true := by simp [Region.wanted, hgd]
  rw [if_pos hw]
  obtain ⟨i, hi, hz0, hz1, hz2⟩ := info_parts hinfo
  have hn : n + news.length ≤ (n + news.length) * bytes := Nat.le_mul_of_pos_right _ hb1
  rcases hrow with ⟨a', c', hac, rfl, rfl⟩ | ⟨b, off, cap, rfl, hlt, h1, h2, hc⟩
  · cases a' with
    | none =>
      rw [hac rfl] at hx
      have hrun := run_append_owned_none (P := P) (w := w) base t o.type e i 1 ht hi v n xs hown
      unfold Oper.wp
      simp [execOp, ho, resolve, invoke, builtin, hs, hx, hrun, Result.andThen]
      exact h v w (by simpa using hown) (Below.refl _ _) (Nat.le_refl _)
    | some ad =>
      refine wp_append_own w s x t ho base e i z 1 bytes ht hi hz0 hz1 hz2 hzs (by decide) v n xs hs hown ad 0 c' [] hx (by simp) (by intro j c hj; simp at hj) hone (by unfold maxLen; simp at hn hbytes; omega) hbytes hbase ?_
      intro v' w' hown' hg hnil
      exact h v' w' hown' ((Below.refl base w).grown hg hbase (fun k e' => (hown.lt k e').1)) hg.size
  · refine wp_append_own w s x t ho base e i z 1 bytes ht hi hz0 hz1 hz2 hzs (by decide) v n xs hs hown ⟨b, off, none⟩ news.length cap news hx (by omega) ?_ hone (by unfold maxLen; omega) hbytes hbase ?_
    · intro j c hj
      obtain ⟨hj', rfl⟩ := List.getElem?_eq_some_iff.1 hj
      rw [show (⟨b, off, none⟩ : Addr).add j = ⟨b, off + j, none⟩ by simp [Addr.add]]
      exact hc j hj'
    · intro v' w' hown' hg hnil
      exact h v' w' hown' ((Below.refl base w).grown hg hbase (fun k e' => (hown.lt k e').1)) hg.size
end Go.Proofs.YtimiejahkcjcdaaDoor
