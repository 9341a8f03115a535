/- What Md5Pieces keeps. -/
import Derived.Test.YtimiejahkcjcdaaDoorM40
import Derived.Test.YtimiejahkcjcdaaDoorM21
namespace Go.Proofs.YtimiejahkcjcdaaDoor
open Go.RowKit

/-- Write, with where the rest lies. -/
theorem writeL2 (D : Nat) (l b : List UInt8) (bv : Value) (hl : l.length + b.length ≤ 1099511627776) (w : World) (hD : D < w.heap.size) (h : DigL w D l) (hb : RowB w bv b) (hbD : b = [] ∨ blkOf bv ≠ some D) (hT : Tabs w) (hD2 : 1 < D) :
    Calls Tryd.prog 27 #[.pointer (some ⟨D, 0, none⟩), bv] w fun e w' => e = .returned (.int .i64 0) ∧ (∃ v, Dig w' D (allF S0 (l ++ b)) v (l ++ b).length ∧ RowB w' v (restF (l ++ b)) ∧ ∀ g, blkOf v = some g → w.heap.size ≤ g) ∧ Only D w w' := by
  obtain ⟨v, h1, h2, h3⟩ := h
  refine (write_reg D l.length (allF S0 l) (allF S0 (l ++ b)) v bv (restF l) b hl (by rw [restF_len]; omega) (allF_app l b S0) w hD h1 (digL_some l) h2 h3 hb hbD hT hD2).mono ?_
  rintro e w' ⟨e1, ⟨u, g1, g2, g3⟩, g4⟩
  exact ⟨e1, ⟨u, by rw [List.length_append]; exact g1, by rw [restF_app2]; exact g2, g3⟩, g4⟩
theorem owns_only {A B : World} {base D n : Nat} {v : Value} {xs : List Value} (h : A.ownsRow base 5 1 v n xs) (ho : Only D A B) (hv : blkOf v ≠ some D) : B.ownsRow base 5 1 v n xs := by
  refine ⟨h.1, ?_⟩
  rcases h.2 with h' | ⟨g, cap, cur, h1, h2, h3, h4⟩
  · exact .inl h'
  · have hg : g ≠ D := fun e => hv (by rw [h1, e]; rfl)
    exact .inr ⟨g, cap, cur, h1, h2, (ho.2 g (Array.getElem?_eq_some_iff.1 h3).1 hg).trans h3, h4⟩
theorem owns_blk {A : World} {base n D : Nat} {v : Value} {xs : List Value} (h : A.ownsRow base 5 1 v n xs) (hD : D < base) : blkOf v ≠ some D := by
  rcases h.2 with ⟨rfl, _⟩ | ⟨g, cap, cur, rfl, h2, _, _⟩
  · simp [blkOf]
  · intro e
    have : g = D := by simpa [blkOf] using e
    omega
theorem owns_blk2 {A : World} {base n G : Nat} {v : Value} {xs : List Value} (h : A.ownsRow base 5 1 v n xs) (hG : A.heap.size ≤ G) : blkOf v ≠ some G := by
  rcases h.2 with ⟨rfl, _⟩ | ⟨g, cap, cur, rfl, _, h3, _⟩
  · simp [blkOf]
  · intro e
    have : g = G := by simpa [blkOf] using e
    have := (Array.getElem?_eq_some_iff.1 h3).1
    omega
/-- The digest has l, and `all` is l too. -/
def PieI (w : World) (D : Nat) (l : List UInt8) (av : Value) (wx : World) : Prop := CutI w D l wx ∧ wx.ownsRow (D + 1) 5 1 av l.length (l.map enc8)
theorem PieI.on {w : World} {D : Nat} {l : List UInt8} {av : Value} {A B : World} (h : PieI w D l av A) (hb : Below A.heap.size A B) : PieI w D l av B := ⟨h.1.on hb, owns_on h.2 hb⟩
theorem owns_nil (w : World) (base : Nat) : w.ownsRow base 5 1 (.slice none 0 0) 0 [] := ⟨rfl, .inl ⟨rfl, rfl⟩⟩
theorem own_ok (n : Nat) (a : Option Addr) (c : Nat) : blkOf (.slice a n c) = a.map Addr.block := rfl
end Go.Proofs.YtimiejahkcjcdaaDoor
