/- Rows of bytes that come in. -/
import Derived.Test.YtimiejahkcjcdaaDoorML
import Derived.Test.YtimiejahkcjcdaaDoorMU
import Derived.ChangeSlices
namespace Go.Proofs.YtimiejahkcjcdaaDoor
open Go.RowKit Go.ChangeShapes Go.WideShapes

/-- A slice of slices of bytes that came in. -/
def IsRows (w : World) (a : Option Addr) (len cap : Nat) (_ : Unit) : Prop :=
  (a = none ∧ len = 0 ∧ cap = 0) ∨
  ∃ x, a = some x ∧ len ≤ cap ∧ cap ≤ maxLen ∧ ∀ i, i < len → ∃ a' len' cap' l, l.length = len' ∧ len' ≤ maxLen ∧ w.cell? (x.add i) = some (.slice a' len' cap') ∧ RowB w (.slice a' len' cap') l
theorem cells24 : Tryd.prog.cellsOf 24 = 1 := by kernel_rfl
theorem open_rows_of {H : Type} {enc : TypeId × Value → H} {w w2 : World} {base base2 : Nat} {r : Reach} {a : Option Addr} {len cap : Nat} {d : DataW H} {p : List MemPlace}
    (_hv : Value.okWide Tryd.prog w2 r base2 51 (.slice a len cap)) (h : DataW.Trod enc Tryd.prog w base (fun _ => true) true 51 (.slice a len cap) d p) : ∃ z : Unit, IsRows w a len cap z := by
  refine ⟨(), ?_⟩
  obtain ⟨fuel, hf⟩ := h
  rcases DataW.trod_slice Tryd.underlying51 hf with ⟨hcs, _⟩ | ⟨x, l, c, elems, rest, n, _, hcs, _, _, hl, hm, hlen, hel, _, _⟩
  · simp [Value.cells] at hcs
    obtain ⟨rfl, rfl, rfl⟩ := hcs
    exact .inl ⟨rfl, rfl, rfl⟩
  · simp [Value.cells] at hcs
    obtain ⟨rfl, rfl, rfl⟩ := hcs
    refine .inr ⟨x, rfl, hl, hm, fun i hi => ?_⟩
    have h1 := hel i hi
    rw [cells24, Nat.mul_one, List.getElem?_eq_getElem (by omega), Option.bind_eq_some_iff] at h1
    obtain ⟨cs, e1, e2⟩ := h1
    rcases ChangeShapes.open_ints Tryd.underlying24 Tryd.underlying5 (by kernel_rfl) e2 with ⟨rfl, _⟩ | ⟨x', l', c', zs, rfl, _, hl', hm', hz, _, hcell, hwz⟩
    · exact ⟨none, 0, 0, [], rfl, by decide, ChangeShapes.cell_of_cells?_one e1, .inl ⟨none, 0, (fun _ => rfl), rfl, rfl⟩⟩
    · have hR : IsRow .u8 w (some x') l' c' zs := .inr ⟨x', rfl, hl', hm', by simpa using hz, hcell, hwz⟩
      obtain ⟨ls, g1, g2, g3⟩ := hR.bytes
      exact ⟨some x', l', c', ls, g1, g2, ChangeShapes.cell_of_cells?_one e1, g3⟩
end Go.Proofs.YtimiejahkcjcdaaDoor
