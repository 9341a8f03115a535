/- A row of its own whose cells are turned. -/
import Derived.Test.YtimiejahkcjcdaaDoorM42
namespace Go.Proofs.YtimiejahkcjcdaaDoor
open Go.RowKit

def OwnC (W : World) (G n : Nat) : Prop := ∀ k, k < n → (∃ y : UInt8, W.cell? ⟨G, k, none⟩ = some (.int .u8 (y.toNat : Int))) ∧ W.frozen? ⟨G, k, none⟩ = false
theorem OwnC.block {W W' : World} {G n : Nat} (h : OwnC W G n) (hb : W'.heap[G]? = W.heap[G]?) : OwnC W' G n := fun k hk => by
  obtain ⟨⟨y, h1⟩, h2⟩ := h k hk
  exact ⟨⟨y, (World.cell?_of_block (w := W) hb).trans h1⟩, (World.frozen?_of_block (w := W) hb).trans h2⟩
theorem OwnC.set {W : World} {G n : Nat} (h : OwnC W G n) (k : Nat) (hk : k < n) (x : UInt8) : OwnC (W.setCell ⟨G, k, none⟩ (.int .u8 (x.toNat : Int))) G n := by
  intro i hi
  obtain ⟨⟨y, h1⟩, h2⟩ := h i hi
  obtain ⟨⟨z, h3⟩, h4⟩ := h k hk
  by_cases hik : i = k
  · subst hik
    exact ⟨⟨x, by simp [go_sem, h3]⟩, by simp [go_sem, h4]⟩
  · exact ⟨⟨y, by simp [go_sem, h1]⟩, by simp [go_sem, h2]⟩
theorem ownC_of {A : World} {base n : Nat} {v : Value} {xs : List Value} {b : List UInt8} (h : A.ownsRow base 5 1 v n xs) (hr : RowB A v b) (hn : b.length = n) :
    (n = 0 ∧ ∃ a c, v = .slice a 0 c) ∨ ∃ G cap, v = .slice (some ⟨G, 0, none⟩) n cap ∧ base ≤ G ∧ G < A.heap.size ∧ OwnC A G n := by
  by_cases h0 : n = 0
  · obtain ⟨a, c, hv⟩ := rowB_len hr
    exact .inl ⟨h0, a, c, by rw [hv, hn, h0]⟩
  · obtain ⟨g', off, cap', hv, hg, _, _, hc⟩ := rowB_cells hr (fun e => by rw [e] at hn; simp at hn; omega)
    rcases h.2 with ⟨hv2, _⟩ | ⟨g, cap, cur, hv2, hb, h3, _⟩
    · rw [hv] at hv2; cases hv2
    · rw [hv] at hv2
      simp only [Value.slice.injEq, Option.some.injEq, Addr.mk.injEq] at hv2
      obtain ⟨⟨rfl, rfl, _⟩, _, rfl⟩ := hv2
      refine .inr ⟨g', cap', by rw [hv, hn], hb, hg, fun k hk => ⟨⟨b.getD k 0, ?_⟩, ?_⟩⟩
      · have := hc k (by omega)
        rw [Nat.zero_add] at this
        exact this
      · simp [World.frozen?, h3]
end Go.Proofs.YtimiejahkcjcdaaDoor
