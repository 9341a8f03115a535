/- The append of a list of strings to a new slice of one string, as a step of a region that draws. -/
import Derived.Test.YtennohgmenjaaaaM3
import Derived.Test.YtennohgmenjaaaaRS
import Derived.Deep.RegionLawGrows
namespace Go.Proofs.Ytennohgmenjaaaa
open Go.RowKit Go.Shelf

theorem wpOp_of_step {P : Program} {ops : Array Oper} {Q : Exit → Act → World → Prop} {a : Act} {w : World} {K : Act → World → Prop} {i : Nat} {o : Oper} (ho : ops[i]? = some o) (hm : Met ops a o)
    (h : if Region.wanted o (yielded ops a.tmps) = true then Oper.wp P o a w K Q else False) : wpOp P ops Q i K a w := by
  unfold Met at hm
  rw [if_pos hm] at h
  unfold wpOp
  simp only [ho, hm, if_true]
  exact .inl h

/-- A slice of strings with an array. -/
def StrsA (w : World) (v : Value) (L : List ByteArray) : Prop :=
  ∃ g cp, v = .slice (some ⟨g, 0, none⟩) L.length cp ∧ g < w.heap.size ∧ L.length ≤ cp ∧ cp ≤ maxLen ∧ ∀ i (hi : i < L.length), w.cell? ⟨g, i, none⟩ = some (.string L[i])
theorem StrsA.on {W W' : World} {v : Value} {L : List ByteArray} (h : StrsA W v L) (hb : Below W.heap.size W W') : StrsA W' v L := by
  obtain ⟨g, cp, rfl, hlt, h1, h2, hc⟩ := h
  exact ⟨g, cp, rfl, Nat.lt_of_lt_of_le hlt hb.size, h1, h2, fun i hi => (hb.cell (p := ⟨g, i, none⟩) hlt).trans (hc i hi)⟩
theorem StrsA.strs {W : World} {v : Value} {L : List ByteArray} (h : StrsA W v L) : Strs W v L := by
  obtain ⟨g, cp, rfl, hlt, h1, h2, hc⟩ := h
  exact .inr ⟨g, 0, cp, rfl, hlt, h1, h2, fun i hi => by rw [Nat.zero_add]; exact hc i hi⟩
theorem StrsA.of_owned {w : World} {base n : Nat} {v : Value} {L : List ByteArray} (h : w.ownsRow base 9 1 v n (L.map .string)) (hv : v ≠ .slice none 0 0) : StrsA w v L := by
  have hl : L.length = n := by have := h.1; simpa using this
  have h' := h
  rcases h.2 with ⟨rfl, rfl⟩ | ⟨g, cap, cur, rfl, _, hg, h1, h2, _⟩
  · exact absurd rfl hv
  · subst hl
    refine ⟨g, cap, rfl, (Array.getElem?_eq_some_iff.1 hg).1, h1, h2, fun i hi => ?_⟩
    rw [h'.cellAt i (by omega)]
    simp [List.getElem?_eq_getElem hi]

theorem step_app1 {ops : Array Oper} {Q : Exit → Act → World → Prop} {a : Act} {w : World} {K : Act → World → Prop} {i : Nat} {o : Oper} {x y : Operand} {v : Value} {s : ByteArray} {own : List ByteArray} {b : Nat}
    (ho : ops[i]? = some o) (hg : o.guard = none) (hop : o.op = .call { callee := .builtin .append, args := #[x, y], argTypes := #[42, 42] })
    (hx : a.eval x = .slice (some ⟨b, 0, none⟩) 1 1) (hb : b < w.heap.size) (hc : w.cell? ⟨b, 0, none⟩ = some (.string s)) (hy : a.eval y = v) (hv : StrsA w v own) (hl : own.length ≤ 10)
    (hk : ∀ v' w', StrsA w' v' (s :: own) → Below w.heap.size w w' → K (a.put o.dst v') w') : wpOp Try.prog ops Q i K a w := by
  obtain ⟨inf, hi, hz0, hz1, hz2⟩ := info_parts Try.info9
  obtain ⟨g, cp, rfl, hlt, h1, h2, hcells⟩ := hv
  refine wpOp_of_step ho (met_none hg) ?_
  have hnews : ∀ j u, (own.map Value.string)[j]? = some u → w.cell? ((⟨g, 0, none⟩ : Addr).add j) = some u := by
    intro j u hj
    have hj' : j < own.length := by
      have := (List.getElem?_eq_some_iff.1 hj).1
      simpa using this
    rw [show (⟨g, 0, none⟩ : Addr).add j = ⟨g, j, none⟩ by simp [Addr.add]; omega, hcells j hj']
    simp [List.getElem?_eq_getElem hj'] at hj
    rw [hj]
  have hone : ∀ u ∈ own.map Value.string, u.oneCell' = true := by
    intro u hu
    obtain ⟨z, _, rfl⟩ := List.mem_map.1 hu
    rfl
  by_cases h0 : own = []
  · subst h0
    refine step_append_room hg x y 42 hop 9 inf 1 Try.underlying42 hi hz1 b 0 1 1 hx ⟨g, 0, none⟩ 0 cp [] hy (by simp) (by simp) (by simp) (by omega) (by simp) ?_
    rw [show w.setCells b (0 + 1 * 1) [] = w by simp [World.setCells]]
    refine hk _ _ ⟨b, 1, rfl, hb, by simp, by unfold maxLen; omega, fun j hj => ?_⟩ ?_
    · obtain rfl : j = 0 := by simpa using hj
      simpa using hc
    · exact Below.refl _ _
  · have hpos : 0 < own.length := List.length_pos_iff.2 h0
    refine step_append_grows hg x y 42 hop 9 inf (.string ByteArray.empty) 1 16 Try.underlying42 hi hz0 hz1 hz2 rfl (by decide) (some ⟨b, 0, none⟩) 1 1 [.string s] hx (fun e => by cases e) (by simp) ?_ ⟨g, 0, none⟩ own.length cp (own.map .string) hy (by simp) hnews hone (by omega) (by unfold maxLen; omega) (by omega) ?_
    · intro p hp j u hj
      cases hp
      obtain rfl : j = 0 := by
        have := (List.getElem?_eq_some_iff.1 hj).1
        simpa using this
      simp at hj
      rw [show (⟨b, 0, none⟩ : Addr).add 0 = ⟨b, 0, none⟩ by simp [Addr.add], hc, hj]
    · intro v' w' hown hgr
      refine hk v' w' (StrsA.of_owned (base := w.heap.size) (n := 1 + own.length) (by simpa using hown) ?_) ((Below.refl _ _).grown hgr (Nat.le_refl _) (fun k e => by cases e))
      rintro rfl
      rcases hown.2 with ⟨_, h⟩ | ⟨g', cap', cur, h, _⟩
      · simp at h
      · cases h
end Go.Proofs.Ytennohgmenjaaaa
