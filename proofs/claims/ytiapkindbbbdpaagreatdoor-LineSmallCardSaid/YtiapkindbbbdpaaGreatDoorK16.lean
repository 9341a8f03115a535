/- Laws on a map of the call's own, and its range, wherever its iterator lies. -/
import Derived.Test.YtiapkindbbbdpaaGreatDoorK15
import Derived.MapFrom
import Derived.Laws.IdiomRangeMap
namespace Go.Proofs.YtiapkindbbbdpaaGreatDoor
open Go.RowKit
variable {P : Program}

theorem mu_new (w : World) (t kt et : TypeId) (r : Nat) (es : Array MapEntry) (clock : Nat) (hm : P.underlying t = some (.map kt et)) (hd : P.underlying kt = some .string) (hb : w.heap[r]? = some (.map es clock)) (s : ByteArray) (v : Value)
    (hf : Instr.findNow .string (.string s) es.toList 0 = some none) :
    (Instr.mapUpdate t (.map (some r)) (.string s) v).run P w = .ok () (w.putObj r (.map (es.push { key := .string s, val := v, born := clock }) (clock + 1))) := by
  have hk : MapKept.IsKey .string (.string s) := trivial
  simp [Instr.mapUpdate, run_underlying hm, MapKept.run_getObj_map hb, MapKept.run_checkKey hd hk, MapKept.run_findKey hd hf, MapKept.run_setObj_map _ hb, Result.andThen]
  rfl
theorem get_at {w : World} {r : Nat} {o : Obj} (h : w.heap[r]? = some o) (hc : o.isCells = false) : (getObj r).run P w = .ok o w := by
  cases o <;> first | (cases hc; done) | simp [getObj, Sem.run, h]
theorem set_at {w : World} {r : Nat} {o : Obj} (o' : Obj) (h : w.heap[r]? = some o) (hc : o.isCells = false) : (setObj r o').run P w = .ok () (w.putObj r o') := by
  cases o <;> first | (cases hc; done) | (simp [setObj, Sem.run, h]; rfl)
/-- The choice among n: some place; the tape may have been asked. -/
theorem choose_at (w : World) (n : Nat) (hn : 0 < n) : ∃ (j : Nat) (w1 : World), j < n ∧ (w1 = w ∨ w1 = w.drew) ∧ (choose (Question.mapNext n)).run P w = .ok j w1 := by
  by_cases hf : n ≤ 1
  · exact ⟨0, w, hn, .inl rfl, by simp [choose, Sem.run, Question.forced, hf]⟩
  · exact ⟨_, w.drew, Nat.mod_lt _ hn, .inr rfl, by
      simp only [choose, Sem.run, Question.forced, decide_eq_true_eq, hf, if_false, Question.cut]
      rfl⟩
/-- 'next' of an iterator wherever it lies, over a map as it was when the loop began. -/
theorem next_at (w : World) (ty : TypeId) (r bm clock c0 : Nat) (seen : Array Nat) (es : Array MapEntry) (hr : w.heap[r]? = some (.mapIter (some bm) clock seen c0)) (hb : w.heap[bm]? = some (.map es clock)) (hold : ∀ x ∈ es.toList, x.born < clock) (hsc : clock ≤ c0) :
    ((leftOf es seen).size = 0 ∧ (Instr.next (.pointer (some ⟨r, 0, none⟩)) false ty).run P w = .ok (.tuple #[.bool false]) w) ∨
    ∃ e ∈ (leftOf es seen).toList, ∃ w1 : World, (w1 = w ∨ w1 = w.drew) ∧ (Instr.next (.pointer (some ⟨r, 0, none⟩)) false ty).run P w = .ok (.tuple #[.bool true, e.key, e.val]) (w1.putObj r (.mapIter (some bm) clock (seen.push e.born) clock)) := by
  simp only [Instr.next, Sem.run_bind, get_at hr rfl, get_at hb rfl, Result.andThen_ok, next_test_false seen es clock c0 hold hsc, Bool.false_eq_true, if_false]
  unfold leftOf
  have hmem : ∀ x ∈ (Array.filter (fun e => !seen.contains e.born) es).toList, x.born < clock := fun x hx => hold x (by simp at hx ⊢; exact hx.1)
  generalize Array.filter (fun e => !seen.contains e.born) es = L at hmem ⊢
  have e1 : L.filter (fun x => decide (x.born < clock)) = L := Array.filter_eq_self.2 (fun x hx => by simpa using hmem x (by simpa using hx))
  have e2 : L.filter (fun x => decide (x.born ≥ clock)) = #[] := by
    rw [Array.filter_eq_empty_iff]
    intro x hx
    have := hmem x (by simpa using hx)
    simp
    omega
  simp only [e1, e2, Array.append_empty]
  by_cases h0 : L.size = 0
  · left
    obtain rfl : L = #[] := Array.eq_empty_of_size_eq_zero h0
    refine ⟨rfl, ?_⟩
    simp [choose, Sem.run, Question.forced]
  · right
    have hne : L.isEmpty = false := by simp [Array.isEmpty, h0]
    simp only [hne, Bool.false_eq_true, if_false, Array.empty_append, Array.size_map]
    obtain ⟨j, w1, hj, hw, hrun⟩ := choose_at (P := P) w L.size (by omega)
    have hr1 : w1.heap[r]? = some (.mapIter (some bm) clock seen c0) := by rcases hw with rfl | rfl <;> exact hr
    refine ⟨L[j], by simp, w1, hw, ?_⟩
    simp only [hrun, Array.getElem?_map, Array.getElem?_eq_getElem hj, Option.map_some, Sem.run_bind, set_at _ hr1 rfl, Result.andThen_ok]
    rfl
theorem entry_at (w : World) (r bm clock : Nat) (seen : Array Nat) (es : Array MapEntry) (e : MapEntry) (hr : w.heap[r]? = some (.mapIter (some bm) clock (seen.push e.born) clock)) (hb : w.heap[bm]? = some (.map es clock)) (he : e ∈ es.toList) (hn : (es.toList.map (·.born)).Nodup) :
    (Instr.entry (.pointer (some ⟨r, 0, none⟩))).run P w = .ok (.tuple #[e.key, e.val]) w := by
  have hf : es.find? (·.born == e.born) = some e := by rw [← Array.find?_toList]; exact find_born e es.toList hn he
  simp only [Instr.entry, Sem.run_bind, get_at hr rfl, get_at hb rfl, Result.andThen_ok, Array.back?_push, bne_self_eq_false, Bool.false_eq_true, if_false, hf]
  rfl
end Go.Proofs.YtiapkindbbbdpaaGreatDoor
