/- A digest by what was written. -/
import Derived.Test.YtimiejahkcjcdaaDoorM35
import Derived.Test.YtimiejahkcjcdaaDoorM34
namespace Go.Proofs.YtimiejahkcjcdaaDoor
open Go.RowKit

theorem restF_app2 (l p : List UInt8) : restF (l ++ p) = restF (restF l ++ p) := by
  rw [← restF_app, restF, restF, List.drop_drop]
  congr 1
  rw [List.length_drop, List.length_append]
  omega
/-- A digest to which l was written. -/
def DigL (W : World) (D : Nat) (l : List UInt8) : Prop := ∃ v, Dig W D (allF S0 l) v l.length ∧ RowB W v (restF l) ∧ blkOf v ≠ some D
theorem DigL.on {w w' : World} {D : Nat} {l : List UInt8} (h : DigL w D l) (hD : D < w.heap.size) (hb : Below w.heap.size w w') : DigL w' D l := by
  obtain ⟨v, h1, h2, h3⟩ := h
  exact ⟨v, h1.block (hb.block D hD), h2.on hb, h3⟩
theorem S0_SZ : S0 ≠ SZ := by decide
theorem digL_some (l : List UInt8) : 0 < l.length ∨ allF S0 l ≠ SZ := by
  cases l with
  | nil => exact .inr S0_SZ
  | cons a l => exact .inl (by simp)
theorem digL_nil {w : World} {D : Nat} (h : Dig w D S0 (.slice none 0 0) 0) : DigL w D [] := ⟨_, h, .inl ⟨none, 0, (fun _ => rfl), rfl, rfl⟩, by simp [blkOf]⟩
theorem newL (w : World) : Calls Tryd.prog 25 #[] w fun e w' => ∃ D, e = .returned (.pointer (some ⟨D, 0, none⟩)) ∧ w.heap.size ≤ D ∧ D < w'.heap.size ∧ DigL w' D [] ∧ Below w.heap.size w w' :=
  (new_any w).mono fun _ _ ⟨D, h1, h2, h3, h4, h5⟩ => ⟨D, h1, h2, h3, digL_nil h4, h5⟩
theorem resetL (D : Nat) (l : List UInt8) (w : World) (hD : D < w.heap.size) (h : DigL w D l) :
    Calls Tryd.prog 26 #[.pointer (some ⟨D, 0, none⟩)] w fun e w' => e = .returned (.int .i64 0) ∧ DigL w' D [] ∧ Only D w w' := by
  obtain ⟨v, h1, _, _⟩ := h
  exact (reset_any D l.length _ v w hD h1 (digL_some l)).mono fun _ _ ⟨h1, h2, h3⟩ => ⟨h1, digL_nil h2, h3⟩
theorem lenL (D : Nat) (l : List UInt8) (w : World) (h : DigL w D l) : Calls Tryd.prog 30 #[.pointer (some ⟨D, 0, none⟩)] w fun e w' => e = .returned (.int .i64 l.length) ∧ w = w' := by
  obtain ⟨v, h1, _, _⟩ := h
  exact len_any D l.length _ v w h1 (digL_some l)
theorem sumL (D : Nat) (l : List UInt8) (hl : l.length ≤ 1099511627776) (d : Nat → UInt8) (hd : d = sumF l) (w : World) (hD : D < w.heap.size) (h : DigL w D l) (hT : Tabs w) :
    Calls Tryd.prog 28 #[.pointer (some ⟨D, 0, none⟩)] w fun e w' => e = .returned (.tuple #[.agg #[e8 d 0, e8 d 1, e8 d 2, e8 d 3, e8 d 4, e8 d 5, e8 d 6, e8 d 7, e8 d 8, e8 d 9, e8 d 10, e8 d 11, e8 d 12, e8 d 13, e8 d 14, e8 d 15], .int .i64 0]) ∧ Below w.heap.size w w' := by
  obtain ⟨v, h1, h2, _⟩ := h
  exact dsum_any D l.length _ v (restF l) hl (by rw [restF_len]; omega) d (by rw [hd, sumF, mdF, allF_app]) w hD h1 (digL_some l) h2 hT
theorem writeL (D : Nat) (l b : List UInt8) (bv : Value) (hl : l.length + b.length ≤ 1099511627776) (w : World) (hD : D < w.heap.size) (h : DigL w D l) (hb : RowB w bv b) (hbD : b = [] ∨ blkOf bv ≠ some D) (hT : Tabs w) (hD2 : 1 < D) :
    Calls Tryd.prog 27 #[.pointer (some ⟨D, 0, none⟩), bv] w fun e w' => e = .returned (.int .i64 0) ∧ DigL w' D (l ++ b) ∧ Only D w w' := by
  obtain ⟨v, h1, h2, h3⟩ := h
  refine (write_reg D l.length (allF S0 l) (allF S0 (l ++ b)) v bv (restF l) b hl (by rw [restF_len]; omega) (allF_app l b S0) w hD h1 (digL_some l) h2 h3 hb hbD hT hD2).mono ?_
  rintro e w' ⟨e1, ⟨u, g1, g2, g3⟩, g4⟩
  refine ⟨e1, ⟨u, by rw [List.length_append]; exact g1, by rw [restF_app2]; exact g2, fun e => ?_⟩, g4⟩
  have := g3 D e
  omega
/-- A slice of what was there lies nowhere in a new block. -/
theorem row_apart {w : World} {D : Nat} {v : Value} {l : List UInt8} (h : RowB w v l) (hD : w.heap.size ≤ D) : l = [] ∨ blkOf v ≠ some D := by
  by_cases hl : l = []
  · exact .inl hl
  · obtain ⟨b, off, cap, rfl, hb, _⟩ := rowB_cells h hl
    refine .inr fun e => ?_
    have : b = D := by simpa [blkOf] using e
    omega
/-- A new digest, and all else as it was. -/
def CutI (w : World) (D : Nat) (l : List UInt8) (wx : World) : Prop := DigL wx D l ∧ Below w.heap.size w wx ∧ D < wx.heap.size
theorem CutI.on {w : World} {D : Nat} {l : List UInt8} {A B : World} (h : CutI w D l A) (hb : Below A.heap.size A B) : CutI w D l B :=
  ⟨h.1.on h.2.2 hb, h.2.1.trans (hb.mono h.2.1.size), Nat.lt_of_lt_of_le h.2.2 hb.size⟩
theorem CutI.only {w : World} {D : Nat} {l m : List UInt8} {A B : World} (h : CutI w D l A) (hD : w.heap.size ≤ D) (ho : Only D A B) (hm : DigL B D m) : CutI w D m B :=
  ⟨hm, h.2.1.trans (ho.below hD h.2.1.size), Nat.lt_of_lt_of_le h.2.2 ho.1.size⟩
end Go.Proofs.YtimiejahkcjcdaaDoor
