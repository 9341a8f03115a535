/- The walk of the law UtfTells. -/
import Derived.Test.YtkabkkgaalimmaaV15
namespace Go.Proofs.Ytkabkkgaalimmaa
open Go.RowKit Go.Shelf

/-- What the walk is told of a slice of numbers that came in. -/
def IsRow (k : IntKind) (w : World) (a : Option Addr) (len cap : Nat) (zs : List Int) : Prop :=
  (a = none ∧ len = 0 ∧ cap = 0 ∧ zs = []) ∨
  ∃ x, a = some x ∧ len ≤ cap ∧ cap ≤ maxLen ∧ zs.length = cap ∧ (∀ i, i < zs.length → w.cell? (x.add i) = some (.int k (zs.getD i 0))) ∧ ∀ n ∈ zs, (Lit.int k n).wf = true
theorem b8_wf (n : Int) (h : (Lit.int .u8 n).wf = true) : Value.int .u8 n = enc8 (b8 n) := by
  have h' : 0 ≤ n ∧ n ≤ 255 := by simpa [Lit.wf, IntKind.min, IntKind.max, IntKind.signed, IntKind.bits] using h
  exact enc_b8 n h'.1 (by omega)
theorem IsRow.row {w : World} {a : Option Addr} {len cap : Nat} {zs : List Int} (h : IsRow .u8 w a len cap zs) : Row w (.slice a len cap) (((zs.take len).map b8).map enc8) := by
  rcases h with ⟨rfl, rfl, rfl, rfl⟩ | ⟨⟨b, off, spot⟩, rfl, h1, h2, h3, hc, hz⟩
  · exact .inl ⟨none, 0, fun _ => rfl, rfl, rfl⟩
  · by_cases h0 : len = 0
    · subst h0
      exact .inl ⟨_, cap, (fun h => by cases h), rfl, by simp⟩
    · have hs0 := hc 0 (by omega)
      have hspot : spot = none := by simpa [Addr.add] using World.cell?_spot hs0
      subst hspot
      have hl : (((zs.take len).map b8).map enc8).length = len := by simp; omega
      refine .inr ⟨b, off, cap, by rw [hl], ?_, by omega, h2, fun i hi => ?_⟩
      · obtain ⟨o, ho, _⟩ := cells_of_cell hs0
        have := (Array.getElem?_eq_some_iff.1 ho).1
        simpa [Addr.add] using this
      · have hi' : i < zs.length := by rw [hl] at hi; omega
        have := hc i hi'
        rw [show (⟨b, off, none⟩ : Addr).add i = ⟨b, off + i, none⟩ by simp [Addr.add]] at this
        rw [this, List.getD_eq_getElem?_getD, List.getElem?_eq_getElem hi', Option.getD_some, b8_wf _ (hz _ (List.getElem_mem hi'))]
        simp
theorem I_bd (n : Int) (h : (Lit.int .i64 n).wf = true) : -9223372036854775808 ≤ n ∧ n ≤ 9223372036854775807 := by
  simpa [Lit.wf, IntKind.min, IntKind.max, IntKind.signed, IntKind.bits] using h

set_option maxHeartbeats 400000 in
theorem utfTells_walk (a0 a1 : Int) (a2 : Option Addr) (len2 cap2 : Nat) (z2 : List Int) (w : World) (_w0 : (Lit.int .i64 a0).wf = true) (_w1 : (Lit.int .i64 a1).wf = true) (w2 : IsRow .u8 w a2 len2 cap2 z2) :
    Calls Try.prog 3 #[.int .i64 a0, .int .i64 a1, .slice a2 len2 cap2] w fun e w' => e = .returned (.bool true) ∧ Below w.heap.size w w' := by
  have hr := Lib.hid w2.row
  clear _w0 _w1 w2
  go_enter Try.func3, Try.ntmps3
  go_wp2_with fail
  refine (tells_any a0 a1 _ _ _ hr.out).mono ?_; rintro e w3 ⟨rfl, hb⟩
  go_wp2_with fail
  refine (awake_any _).mono ?_; rintro e w4 ⟨rfl, h3⟩; replace hb := on_trans hb h3; clear h3
  go_wp2_with fail
  go_ret
  exact ⟨rfl, hb⟩
end Go.Proofs.Ytkabkkgaalimmaa
