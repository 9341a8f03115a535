/- Numbers that come in. -/
import Derived.Test.YtaidemghhagniaaGreatDoorKL
namespace Go.Proofs.YtaidemghhagniaaGreatDoor
open Go Go.RowKit
theorem u64_of {a : Int} (h : (Lit.int .u64 a).wf = true) : ∃ n : Nat, a = (n : Int) ∧ n < 18446744073709551616 := by
  simp [Lit.wf, IntKind.min, IntKind.max, IntKind.signed, IntKind.bits] at h
  exact ⟨a.toNat, by omega, by omega⟩
theorem i64_of {a : Int} (h : (Lit.int .i64 a).wf = true) : -9223372036854775808 ≤ a ∧ a ≤ 9223372036854775807 := by
  simp [Lit.wf, IntKind.min, IntKind.max, IntKind.signed, IntKind.bits] at h
  omega
theorem u8_of {a : Int} (h : (Lit.int .u8 a).wf = true) : ∃ n : Nat, a = (n : Int) ∧ n < 256 := by
  simp [Lit.wf, IntKind.min, IntKind.max, IntKind.signed, IntKind.bits] at h
  exact ⟨a.toNat, by omega, by omega⟩
/-- A slice of integers that came in, as the reader of the row leaves it. -/
def IsRow (k : IntKind) (w : World) (a : Option Addr) (len cap : Nat) (zs : List Int) : Prop :=
  (a = none ∧ len = 0 ∧ cap = 0 ∧ zs = []) ∨
  ∃ x, a = some x ∧ len ≤ cap ∧ cap ≤ maxLen ∧ zs.length = cap ∧ (∀ i, i < zs.length → w.cell? (x.add i) = some (.int k (zs.getD i 0))) ∧ ∀ n ∈ zs, (Lit.int k n).wf = true
theorem IsRow.row {k : IntKind} {w : World} {a : Option Addr} {len cap : Nat} {zs : List Int} (h : IsRow k w a len cap zs) : Row w (.slice a len cap) ((zs.take len).map (Value.int k)) ∧ (zs.take len).length = len ∧ len ≤ maxLen ∧ (∀ z ∈ zs.take len, (Lit.int k z).wf = true) := by
  rcases h with ⟨rfl, rfl, rfl, rfl⟩ | ⟨⟨b, off, spot⟩, rfl, h1, h2, h3, hc, hz⟩
  · exact ⟨.inl ⟨none, 0, fun _ => rfl, rfl, rfl⟩, rfl, by decide, fun z h => by simp at h⟩
  · refine ⟨?_, by rw [List.length_take]; omega, by omega, fun z h => hz z (List.mem_of_mem_take h)⟩
    by_cases h0 : len = 0
    · subst h0
      exact .inl ⟨_, cap, (fun h => by cases h), rfl, by simp⟩
    · have hs0 := hc 0 (by omega)
      have hspot : spot = none := by simpa [Addr.add] using World.cell?_spot hs0
      subst hspot
      have hl : ((zs.take len).map (Value.int k)).length = len := by simp; omega
      refine .inr ⟨b, off, cap, by rw [hl], ?_, by omega, h2, fun i hi => ?_⟩
      · rcases Nat.lt_or_ge b w.heap.size with h' | h'
        · exact h'
        · unfold World.cell? at hs0
          rw [show ((⟨b, off, none⟩ : Addr).add 0).block = b from rfl, Array.getElem?_eq_none h'] at hs0
          cases hs0
      · have hi' : i < zs.length := by rw [hl] at hi; omega
        have := hc i hi'
        rw [show (⟨b, off, none⟩ : Addr).add i = ⟨b, off + i, none⟩ by simp [Addr.add]] at this
        rw [this, List.getD_eq_getElem?_getD, List.getElem?_eq_getElem hi', Option.getD_some]
        simp
/-- A slice of bytes that came in. -/
theorem IsRow.bytes {w : World} {a : Option Addr} {len cap : Nat} {zs : List Int} (h : IsRow .u8 w a len cap zs) : ∃ l : List UInt8, l.length = len ∧ Row w (.slice a l.length cap) (l.map fun c => Value.int .u8 (c.toNat : Int)) ∧ len ≤ maxLen ∧ len ≤ cap := by
  have hc : len ≤ cap := by
    rcases h with ⟨_, h1, h2, _⟩ | ⟨x, _, h1, _⟩ <;> omega
  obtain ⟨h1, h2, h3, h4⟩ := h.row
  refine ⟨(zs.take len).map fun z => UInt8.ofNat z.toNat, by simpa using h2, ?_, h3, hc⟩
  have e : (((zs.take len).map fun z => UInt8.ofNat z.toNat).map fun c => Value.int .u8 (c.toNat : Int)) = (zs.take len).map (Value.int .u8) := by
    rw [List.map_map]
    refine List.map_congr_left fun z hz => ?_
    obtain ⟨n, rfl, hn⟩ := u8_of (h4 z hz)
    show Value.int .u8 ((UInt8.ofNat (n : Int).toNat).toNat : Int) = _
    rw [Int.toNat_natCast, ofNat_to n hn]
  rw [e, List.length_map, h2]
  exact h1
end Go.Proofs.YtaidemghhagniaaGreatDoor
