/- What comes in: slices of bytes, of strings, of slices of strings; the tables of UTF-8. -/
import Derived.Test.YtiapkindbbbdpaaDoorKL
import Derived.Test.YtiapkindbbbdpaaDoorT4
import Derived.ChangeSlices
import Derived.SliceStrings
import Derived.Lib.LaidU8
namespace Go.Proofs.YtiapkindbbbdpaaDoor
open Go.RowKit Go.ChangeShapes Go.WideShapes

theorem list_of_all {α : Type} (n : Nat) (P : Nat → α → Prop) (h : ∀ i, i < n → ∃ y, P i y) : ∃ l : List α, l.length = n ∧ ∀ i (hi : i < l.length), P i l[i] := by
  induction n with
  | zero => exact ⟨[], rfl, fun i hi => by simp at hi⟩
  | succ n ih =>
    obtain ⟨l, h1, h2⟩ := ih (fun i hi => h i (by omega))
    obtain ⟨y, hy⟩ := h n (by omega)
    refine ⟨l ++ [y], by simp [h1], fun i hi => ?_⟩
    rw [List.getElem_append]
    split
    · rename_i h3; exact h2 i h3
    · rename_i h3
      have : i = n := by simp at hi; omega
      subst this
      simpa using hy
theorem cells46 : Tryd.prog.cellsOf 46 = 1 := by kernel_rfl
/-- A slice of strings that came in. -/
theorem strs_in {w : World} {a : Addr} {len cap : Nat} {ss : List ByteArray} (h1 : len ≤ cap) (h2 : cap ≤ maxLen) (h3 : len ≤ ss.length) (hc : ∀ i, i < ss.length → w.cell? (a.add i) = some (.string (ss.getD i ByteArray.empty))) : StrsR w (.slice (some a) len cap) (ss.take len) := by
  obtain ⟨b, off, spot⟩ := a
  by_cases h0 : len = 0
  · subst h0
    exact .inl ⟨_, _, rfl, by simp⟩
  · have hs0 := hc 0 (by omega)
    have hspot : spot = none := by simpa [Addr.add] using World.cell?_spot hs0
    subst hspot
    have hl : (ss.take len).length = len := by rw [List.length_take]; omega
    refine .inr ⟨b, off, cap, by rw [hl], ?_, by omega, h2, fun i hi => ?_⟩
    · obtain ⟨o, ho, _⟩ := cells_of_cell hs0
      have := (Array.getElem?_eq_some_iff.1 ho).1
      simpa [Addr.add] using this
    · have hi' : i < ss.length := by rw [hl] at hi; omega
      have := hc i hi'
      rw [show (⟨b, off, none⟩ : Addr).add i = ⟨b, off + i, none⟩ by simp [Addr.add]] at this
      rw [this, List.getD_eq_getElem?_getD, List.getElem?_eq_getElem hi', Option.getD_some]
      simp
theorem open_strs_of {H : Type} {enc : TypeId × Value → H} {w : World} {base : Nat} {a : Option Addr} {len cap : Nat} {d : DataW H} {p : List MemPlace}
    (h : DataW.Trod enc Tryd.prog w base (fun _ => true) true 46 (.slice a len cap) d p) : ∃ z : List ByteArray, StrsR w (.slice a len cap) z := by
  obtain ⟨fuel, hf⟩ := h
  rcases open_strings Tryd.underlying46 Tryd.underlying9 (by kernel_rfl) hf with ⟨hcs, _⟩ | ⟨x, l, c, ss, hcs, _, hl, hm, hz, _, hcell, hws⟩
  · simp [Value.cells] at hcs
    obtain ⟨rfl, rfl, rfl⟩ := hcs
    exact ⟨[], .inl ⟨_, _, rfl, rfl⟩⟩
  · simp [Value.cells] at hcs
    obtain ⟨rfl, rfl, rfl⟩ := hcs
    exact ⟨_, strs_in hl hm (by simp at hz; omega) hcell⟩
set_option maxRecDepth 100000 in
theorem open_rows_of {H : Type} {enc : TypeId × Value → H} {w w2 : World} {base base2 : Nat} {r : Reach} {a : Option Addr} {len cap : Nat} {d : DataW H} {p : List MemPlace}
    (_hv : Value.okWide Tryd.prog w2 r base2 40 (.slice a len cap)) (h : DataW.Trod enc Tryd.prog w base (fun _ => true) true 40 (.slice a len cap) d p) : ∃ z : List (List ByteArray), SRows w (.slice a len cap) z := by
  obtain ⟨fuel, hf⟩ := h
  rcases DataW.trod_slice Tryd.underlying40 hf with ⟨hcs, _⟩ | ⟨x, l, c, elems, rest, n, _, hcs, _, _, hl, hm, hlen, hel, _, _⟩
  · simp [Value.cells] at hcs
    obtain ⟨rfl, rfl, rfl⟩ := hcs
    exact ⟨[], .inl ⟨_, _, rfl, rfl⟩⟩
  · simp [Value.cells] at hcs
    obtain ⟨rfl, rfl, rfl⟩ := hcs
    by_cases h0 : len = 0
    · subst h0
      exact ⟨[], .inl ⟨_, _, rfl, rfl⟩⟩
    · have key : ∀ i, i < len → ∃ ss : List ByteArray, ∃ vi, w.cell? (x.add i) = some vi ∧ StrsR w vi ss := by
        intro i hi
        have h1 := hel i hi
        rw [cells46, Nat.mul_one, List.getElem?_eq_getElem (by omega), Option.bind_eq_some_iff] at h1
        obtain ⟨cs, e1, e2⟩ := h1
        rcases open_strings Tryd.underlying46 Tryd.underlying9 (by kernel_rfl) e2 with ⟨rfl, _⟩ | ⟨x', l', c', ss, rfl, _, hl', hm', hz, _, hcell, _⟩
        · exact ⟨[], _, ChangeShapes.cell_of_cells?_one e1, .inl ⟨_, _, rfl, rfl⟩⟩
        · exact ⟨_, _, ChangeShapes.cell_of_cells?_one e1, strs_in hl' hm' (by simp at hz; omega) hcell⟩
      obtain ⟨v0, hs0⟩ : ∃ v0, w.cell? (x.add 0) = some v0 := by obtain ⟨_, vi, h1, _⟩ := key 0 (by omega); exact ⟨vi, h1⟩
      obtain ⟨rows, hr1, hr2⟩ := list_of_all len _ key
      obtain ⟨b, off, spot⟩ := x
      have hspot : spot = none := by simpa [Addr.add] using World.cell?_spot hs0
      subst hspot
      refine ⟨rows, .inr ⟨b, off, cap, by rw [hr1], ?_, by omega, hm, fun i hi => ?_⟩⟩
      · obtain ⟨o, ho, _⟩ := cells_of_cell hs0
        have := (Array.getElem?_eq_some_iff.1 ho).1
        simpa [Addr.add] using this
      · have := hr2 i hi
        rw [show (⟨b, off, none⟩ : Addr).add i = ⟨b, off + i, none⟩ by simp [Addr.add]] at this
        exact this
theorem glb2_of {W : World} (h : laidMetH Tryd.prog LaidL W) (hs : W.ShapedOpen Tryd.prog) : Glb2 W := by
  refine ⟨glb_of h hs, ?_⟩
  rw [MakeChecks.laidMetH_plain _ _ _ (by kernel_rfl)] at h
  have e4 : (Rows.laid_unicode_utf8_acceptRanges : DataW Unit) = Lib.acceptData := by kernel_rfl
  have e3 : Rows.laid_unicode_utf8_first = Lib.firstData := by kernel_rfl
  have h4 := Lib.laidMet.reads h (.tail _ (.tail _ (.tail _ (.head _))))
  have h3 := Lib.laidMet.reads h (.tail _ (.tail _ (.tail _ (.tail _ (.tail _ (.tail _ (.head _)))))))
  rw [e4] at h4
  rw [e3] at h3
  exact utf8Tabs_of_reads (ρ := Tryd.lays197_ren) { Tryd.lays197 with } ⟨by kernel_rfl, by kernel_rfl, by kernel_rfl, by kernel_rfl, by kernel_rfl, by kernel_rfl, by kernel_rfl⟩ h3 h4
theorem lineBack_walk (a0 : Option Addr) (len0 cap0 : Nat) (z0 : List (List ByteArray)) (a1 : Int) (w : World) (w0 : SRows w (.slice a0 len0 cap0) z0) (_w1 : (Lit.int .u16 a1).wf = true) (hG : Glb2 w) :
    Calls Tryd.prog 8 #[.slice a0 len0 cap0, .int .u16 a1] w fun e w' => e = .returned (.bool true) ∧ Below w.heap.size w w' := back_any _ a1 z0 w w0 hG
end Go.Proofs.YtiapkindbbbdpaaDoor
