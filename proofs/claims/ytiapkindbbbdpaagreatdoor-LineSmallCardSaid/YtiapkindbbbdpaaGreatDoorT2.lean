/- A slice of slices of words. -/
import Derived.Test.YtiapkindbbbdpaaGreatDoorK15
import Derived.Test.YtiapkindbbbdpaaGreatDoorP4
namespace Go.Proofs.YtiapkindbbbdpaaGreatDoor
open Go.RowKit

theorem bldF_new {B b : Nat} {p : Value} {bs : List Value} {w w' : World} (h : Lib.BuilderAtF 80 5 B b p bs w) (hb : Below w.heap.size w w') : Lib.BuilderAtF 80 5 B b p bs w' := by
  obtain ⟨hB, v, h1, hown, hne⟩ := h
  refine ⟨hB, v, (hb.block b (Array.getElem?_eq_some_iff.1 h1).1).trans h1, ⟨hown.1, ?_⟩, hne⟩
  rcases hown.2 with h2 | ⟨g, cap, cur, fz, hv, hbg, hg, rest⟩
  · exact .inl h2
  · exact .inr ⟨g, cap, cur, fz, hv, hbg, (hb.block g (Array.getElem?_eq_some_iff.1 hg).1).trans hg, rest⟩
theorem bld_below {B b : Nat} {l : List UInt8} {w w' : World} (h : BldK B b l w) (hb : Below w.heap.size w w') : BldK B b l w' := by
  rcases h with h | h
  · exact .inl (bldF_new h hb)
  · exact .inr (bldF_new h hb)
def MRow (W : World) (v : Value) (Ls : List (List Wd)) : Prop :=
  (∃ a c, (a = none → c = 0) ∧ v = .slice a 0 c ∧ Ls = []) ∨ ∃ b off cap, v = .slice (some ⟨b, off, none⟩) Ls.length cap ∧ b < W.heap.size ∧ Ls.length ≤ cap ∧ cap ≤ maxLen ∧ ∀ i (h : i < Ls.length), ∃ vi, W.cell? ⟨b, off + i, none⟩ = some vi ∧ WRow W vi Ls[i]
theorem MRow.on {W W' : World} {v : Value} {Ls : List (List Wd)} (h : MRow W v Ls) (hb : Below W.heap.size W W') : MRow W' v Ls := by
  rcases h with h | ⟨b, off, cap, h1, h2, h3, h4, h5⟩
  · exact .inl h
  · refine .inr ⟨b, off, cap, h1, Nat.lt_of_lt_of_le h2 hb.size, h3, h4, fun i hi => ?_⟩
    obtain ⟨vi, a, c⟩ := h5 i hi
    exact ⟨vi, (hb.cell (p := ⟨b, off + i, none⟩) h2).trans a, c.on hb⟩
theorem MRow.shape {W : World} {v : Value} {Ls : List (List Wd)} (h : MRow W v Ls) : ∃ a c, v = .slice a Ls.length c := by
  rcases h with ⟨_, _, _, h1, h2⟩ | ⟨b, off, cap, h1, _⟩
  · exact ⟨_, _, by rw [h1, h2]; rfl⟩
  · exact ⟨_, _, h1⟩
theorem MRow.at' {W : World} {a : Option Addr} {n c : Nat} {Ls : List (List Wd)} (h : MRow W (.slice a n c) Ls) (i : Nat) (hi : i < Ls.length) :
    ∃ b off a2 c2, a = some ⟨b, off, none⟩ ∧ W.cell? ⟨b, off + i, none⟩ = some (.slice a2 (Ls[i]).length c2) ∧ WRow W (.slice a2 (Ls[i]).length c2) Ls[i] := by
  rcases h with ⟨_, _, _, h1, h2⟩ | ⟨b, off, cap, h1, _, _, _, h5⟩
  · rw [h2] at hi; simp at hi
  · cases h1
    obtain ⟨vi, x, y⟩ := h5 i hi
    obtain ⟨a2, c2, rfl⟩ := y.shape
    exact ⟨b, off, a2, c2, rfl, x, y⟩
end Go.Proofs.YtiapkindbbbdpaaGreatDoor
