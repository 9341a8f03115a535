/- Slices of integers that come in; the law LineBlanks at its parameters. -/
import Derived.Test.YtiapkindbbbdpaaDoorKM
import Derived.Test.YtiapkindbbbdpaaDoorT6
namespace Go.Proofs.YtiapkindbbbdpaaDoor
open Go.RowKit

/-- A slice of integers that came in, as the reader of the row leaves it. -/
def IsRow (k : IntKind) (w : World) (a : Option Addr) (len cap : Nat) (zs : List Int) : Prop :=
  (a = none ∧ len = 0 ∧ cap = 0 ∧ zs = []) ∨
  ∃ x, a = some x ∧ len ≤ cap ∧ cap ≤ maxLen ∧ zs.length = cap ∧ (∀ i, i < zs.length → w.cell? (x.add i) = some (.int k (zs.getD i 0))) ∧ ∀ n ∈ zs, (Lit.int k n).wf = true
theorem IsRow.row {k : IntKind} {w : World} {a : Option Addr} {len cap : Nat} {zs : List Int} (h : IsRow k w a len cap zs) : Row w (.slice a len cap) ((zs.take len).map (Value.int k)) ∧ (zs.take len).length = len ∧ len ≤ maxLen ∧ (∀ z ∈ zs.take len, (Lit.int k z).wf = true) := by
  rcases h with ⟨rfl, rfl, rfl, rfl⟩ | ⟨⟨b, off, spot⟩, rfl, h1, h2, h3, hc, hz⟩
  · exact ⟨.inl ⟨none, 0, fun _ => rfl, rfl, rfl⟩, rfl, by decide, fun z h => by simp at h⟩
  · refine ⟨?_, by rw [List.length_take]; omega, by omega, fun z h => hz z (List.mem_of_mem_take h)⟩
    by_cases h0 : len = 0
    · subst h0
      exact .inl ⟨_, cap, (fun h => by cases h), rfl, by simp⟩
    · have hs0 := hc 0 (by omega)
      have hspot : spot = none := by simpa [Addr.add] using World.cell?_spot hs0
      subst hspot
      have hl : ((zs.take len).map (Value.int k)).length = len := by simp; omega
      refine .inr ⟨b, off, cap, by rw [hl], ?_, by omega, h2, fun i hi => ?_⟩
      · obtain ⟨o, ho, _⟩ := cells_of_cell hs0
        have := (Array.getElem?_eq_some_iff.1 ho).1
        simpa [Addr.add] using this
      · have hi' : i < zs.length := by rw [hl] at hi; omega
        have := hc i hi'
        rw [show (⟨b, off, none⟩ : Addr).add i = ⟨b, off + i, none⟩ by simp [Addr.add]] at this
        rw [this, List.getD_eq_getElem?_getD, List.getElem?_eq_getElem hi', Option.getD_some]
        simp
theorem lineBlanks_walk (a0 : Option Addr) (len0 cap0 : Nat) (z0 : List ByteArray) (a1 : Int) (a2 : Option Addr) (len2 cap2 : Nat) (z2 : List Int) (a3 : ByteArray) (w : World)
    (w0 : StrsR w (.slice a0 len0 cap0) z0) (_w1 : (Lit.int .u16 a1).wf = true) (w2 : IsRow .u8 w a2 len2 cap2 z2) (_w3 : a3.size ≤ maxLen) (hG : Glb2 w) :
    Calls Tryd.prog 9 #[.slice a0 len0 cap0, .int .u16 a1, .slice a2 len2 cap2, .string a3] w fun e w' => e = .returned (.bool true) ∧ Below w.heap.size w w' := by
  obtain ⟨h1, h2, h3, h4⟩ := w2.row
  refine blanks_any a0 len0 cap0 z0 a1 a2 len2 cap2 (z2.take len2) a3 w w0 h1 (fun z hz => ?_) hG
  have := h4 z hz
  simp [Lit.wf, IntKind.min, IntKind.max, IntKind.signed, IntKind.bits] at this
  omega
end Go.Proofs.YtiapkindbbbdpaaDoor
