/- A slice of integers that came in. -/
import Derived.Test.YtimiejahkcjcdaaDoorM28
namespace Go.Proofs.YtimiejahkcjcdaaDoor
open Go.RowKit

/-- A slice of integers that came in, as the reader of the row leaves it. -/
def IsRow (k : IntKind) (w : World) (a : Option Addr) (len cap : Nat) (zs : List Int) : Prop :=
  (a = none ∧ len = 0 ∧ cap = 0 ∧ zs = []) ∨
  ∃ x, a = some x ∧ len ≤ cap ∧ cap ≤ maxLen ∧ zs.length = cap ∧ (∀ i, i < zs.length → w.cell? (x.add i) = some (.int k (zs.getD i 0))) ∧ ∀ n ∈ zs, (Lit.int k n).wf = true
theorem IsRow.row {k : IntKind} {w : World} {a : Option Addr} {len cap : Nat} {zs : List Int} (h : IsRow k w a len cap zs) : Row w (.slice a len cap) ((zs.take len).map (Value.int k)) ∧ (zs.take len).length = len ∧ len ≤ maxLen ∧ (∀ z ∈ zs.take len, (Lit.int k z).wf = true) := by
  rcases h with ⟨rfl, rfl, rfl, rfl⟩ | ⟨⟨b, off, spot⟩, rfl, h1, h2, h3, hc, hz⟩
  · exact ⟨.inl ⟨none, 0, fun _ => rfl, rfl, rfl⟩, rfl, by decide, fun z h => by simp at h⟩
  · refine ⟨?_, by rw [List.length_take]; omega, by omega, fun z h => hz z (List.mem_of_mem_take h)⟩
    by_cases h0 : len = 0
    · subst h0
      exact .inl ⟨_, cap, (fun h => by cases h), rfl, by simp⟩
    · have hs0 := hc 0 (by omega)
      have hspot : spot = none := by simpa [Addr.add] using World.cell?_spot hs0
      subst hspot
      have hl : ((zs.take len).map (Value.int k)).length = len := by simp; omega
      refine .inr ⟨b, off, cap, by rw [hl], ?_, by omega, h2, fun i hi => ?_⟩
      · obtain ⟨o, ho, _⟩ := cells_of_cell hs0
        have := (Array.getElem?_eq_some_iff.1 ho).1
        simpa [Addr.add] using this
      · have hi' : i < zs.length := by rw [hl] at hi; omega
        have := hc i hi'
        rw [show (⟨b, off, none⟩ : Addr).add i = ⟨b, off + i, none⟩ by simp [Addr.add]] at this
        rw [this, List.getD_eq_getElem?_getD, List.getElem?_eq_getElem hi', Option.getD_some]
        simp
theorem IsRow.bytes {w : World} {a : Option Addr} {len cap : Nat} {zs : List Int} (h : IsRow .u8 w a len cap zs) : ∃ l : List UInt8, l.length = len ∧ len ≤ maxLen ∧ RowB w (.slice a len cap) l := by
  obtain ⟨h1, h2, h3, h4⟩ := h.row
  obtain ⟨l, hl⟩ := by_of (zs.take len) (fun i hi => h4 _ (List.getElem_mem hi))
  refine ⟨l, ?_, h3, ?_⟩
  · have := congrArg List.length hl
    simp only [List.length_map] at this
    omega
  · rw [hl] at h1; exact h1
/-- The first n of a slice of bytes. -/
theorem row_take {w : World} {a : Option Addr} {cap : Nat} {l : List UInt8} (h : RowB w (.slice a l.length cap) l) (n : Nat) (hn : n ≤ l.length) : RowB w (.slice a n cap) (l.take n) := by
  rcases h with ⟨a', c', hac, hv, h0⟩ | ⟨b, off, cp, hv, hlt, h1, h2, hc⟩
  · have hl : l = [] := by simpa using h0
    subst hl
    obtain rfl : n = 0 := by simpa using hn
    cases hv
    exact .inl ⟨_, _, hac, rfl, rfl⟩
  · simp only [Value.slice.injEq] at hv
    obtain ⟨rfl, _, rfl⟩ := hv
    by_cases h0 : n = 0
    · subst h0
      exact .inl ⟨_, _, (fun h => by cases h), rfl, by simp⟩
    · have hll : ((l.take n).map enc8).length = n := by simp; omega
      refine .inr ⟨b, off, cap, by rw [hll], hlt, by rw [hll]; simp at h1; omega, h2, fun i hi => ?_⟩
      rw [hll] at hi
      rw [hc i (by simp; omega)]
      simp
end Go.Proofs.YtimiejahkcjcdaaDoor
