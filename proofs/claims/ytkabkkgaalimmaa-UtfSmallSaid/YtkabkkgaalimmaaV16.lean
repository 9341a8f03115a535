/- 'append(out, xs...)' as an operation that may be guarded. -/
import Derived.Test.YtkabkkgaalimmaaV14
namespace Go.Proofs.Ytkabkkgaalimmaa
open Go.RowKit

theorem app_all_wp {P : Program} {o : Oper} {a : Act} {Q : Exit → Act → World → Prop} {K : Act → World → Prop} {w : World} (s x : Operand) (t : TypeId)
    (ho : o.op = .call { callee := .builtin .append, args := #[s, x], argTypes := #[t, t] })
    (base : Nat) (e : TypeId) (z : Value) (bytes : Nat) (ht : P.underlying t = some (.slice e)) (hinfo : (P.info? e).map (fun i => (i.zero, i.size, i.bytes)) = some (some z, 1, bytes)) (hzs : z.cells.size = 1)
    (v : Value) (n : Nat) (xs : List Value) (hs : a.eval s = v) (u : Value) (news : List Value) (hx : a.eval x = u) (hown : w.ownsRow base e 1 v n xs) (hrow : Row w u news) (hone : ∀ c ∈ news, c.oneCell' = true)
    (hb1 : 1 ≤ bytes) (hbytes : (n + news.length) * bytes ≤ 140737488355328) (hbase : base ≤ w.heap.size)
    (h : ∀ v' w', w'.ownsRow base e 1 v' (n + news.length) (xs ++ news) → Below base w w' → w.heap.size ≤ w'.heap.size → K (a.put o.dst v') w') :
    o.wp P a w K Q := by
  obtain ⟨i, hi, hz0, hz1, hz2⟩ := info_parts hinfo
  have hn : n + news.length ≤ (n + news.length) * bytes := Nat.le_mul_of_pos_right _ hb1
  have go : ∀ (ad : Addr) (m c : Nat), u = .slice (some ad) m c → news.length = m → (∀ j y, news[j]? = some y → w.cell? (ad.add j) = some y) → o.wp P a w K Q := by
    intro ad m c hu hm hc
    subst hu
    subst hm
    obtain ⟨v', w', hrun, r1, r2, _⟩ := run_append_own (P := P) w base t o.type e i z 1 bytes ht hi hz0 hz1 hz2 hzs (by decide) v n xs hown ad news.length c news (by omega) hc hone (by unfold maxLen; omega) hbytes hbase
    unfold Oper.wp
    simp [execOp, ho, resolve, invoke, builtin, hs, hx, hrun, Result.andThen]
    exact h v' w' r1 ((Below.refl base w).grown r2 hbase (fun k e' => (hown.lt k e').1)) r2.size
  rcases hrow with ⟨a', c', hac, rfl, rfl⟩ | ⟨b, off, cap, rfl, hlt, h1, h2, hc⟩
  · cases a' with
    | none =>
      rw [hac rfl] at hx
      have hrun := run_append_owned_none (P := P) (w := w) base t o.type e i 1 ht hi v n xs hown
      unfold Oper.wp
      simp [execOp, ho, resolve, invoke, builtin, hs, hx, hrun, Result.andThen]
      exact h v w (by simpa using hown) (Below.refl _ _) (Nat.le_refl _)
    | some ad => exact go ad 0 c' rfl rfl (by intro j y hj; simp at hj)
  · refine go ⟨b, off, none⟩ news.length cap rfl rfl (fun j y hj => ?_)
    obtain ⟨hj', rfl⟩ := List.getElem?_eq_some_iff.1 hj
    rw [show (⟨b, off, none⟩ : Addr).add j = ⟨b, off + j, none⟩ by simp [Addr.add]]
    exact hc j hj'
end Go.Proofs.Ytkabkkgaalimmaa
