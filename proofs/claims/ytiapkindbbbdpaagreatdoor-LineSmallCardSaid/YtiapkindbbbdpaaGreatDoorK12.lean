/- Facts for the rounds of Parse. -/
import Derived.Test.YtiapkindbbbdpaaGreatDoorK11
import Derived.RangeFuncWrites
import Derived.Outline
namespace Go.Proofs.YtiapkindbbbdpaaGreatDoor
open Go.RowKit Go.Shelf

/-- An owned row stands where its block stands. -/
theorem owns_heap {W W' : World} {base e k n : Nat} {v : Value} {xs : List Value} (h : W.ownsRow base e k v n xs) (hk : ∀ g cur, W.heap[g]? = some (.cells cur e (0, 0)) → base ≤ g → v.ownBlock = some g → W'.heap[g]? = W.heap[g]?) : W'.ownsRow base e k v n xs := by
  refine ⟨h.1, ?_⟩
  rcases h.2 with h' | ⟨g, cap, cur, rfl, h2, h3, h4⟩
  · exact .inl h'
  · exact .inr ⟨g, cap, cur, rfl, h2, (hk g cur h3 h2 rfl).trans h3, h4⟩
theorem owns_grown {W W' : World} {base e k n : Nat} {v : Value} {xs : List Value} {row : Option Nat} (h : W.ownsRow base e k v n xs) (hg : W.grownBy W' row) (hr : ∀ r, row = some r → ∃ o : Obj, W.heap[r]? = some o ∧ o.isCells = false) : W'.ownsRow base e k v n xs :=
  owns_heap h fun g cur h3 _ _ => hg.block g (Array.getElem?_eq_some_iff.1 h3).1 (fun e => by obtain ⟨o, ho, hc⟩ := hr g e.symm; rw [h3] at ho; cases ho; cases hc)
theorem owns_set {W : World} {base e k n c : Nat} {v u : Value} {xs : List Value} (h : W.ownsRow base e k v n xs) (hc : c < base) : (W.setCell ⟨c, 0, none⟩ u).ownsRow base e k v n xs :=
  owns_heap h fun g _ _ hb _ => Below.heap_setCell W ⟨c, 0, none⟩ u g (show ¬ g = c by omega)
theorem owns_mono {W : World} {base base2 e k n : Nat} {v : Value} {xs : List Value} (h : W.ownsRow base e k v n xs) (hb : base2 ≤ base) : W.ownsRow base2 e k v n xs := by
  refine ⟨h.1, ?_⟩
  rcases h.2 with h' | ⟨g, cap, cur, h1, h2, h3⟩
  · exact .inl h'
  · exact .inr ⟨g, cap, cur, h1, Nat.le_trans hb h2, h3⟩
/-- A line with words: its number, its words, their slice. -/
abbrev Ln := Nat × List Wd × Value
def lcells (A : List Ln) : List Value := A.flatMap fun x => [.int .i64 x.1, x.2.2]
theorem lcells_len : ∀ A : List Ln, (lcells A).length = A.length * 2
  | [] => rfl
  | p :: A => by
    have := lcells_len A
    simp only [lcells, List.flatMap_cons, List.length_append, List.length_cons] at this ⊢
    simp only [List.length_nil]
    omega
/-- The words of lines in memory. -/
def Lok (B : Nat) (W : World) (A : List Ln) : Prop := ∀ x ∈ A, W.ownsRow B 29 2 x.2.2 x.2.1.length (wcells x.2.1)
def ofA (A : List Ln) : List (Nat × List Wd) := A.map fun x => (x.1, x.2.1)
/-- Parse of lines: the error, where, the lines with words. -/
def parseN : List (List UInt8) → Nat → List (Nat × List Wd) → Int × Nat × List (Nat × List Wd)
  | [], _, acc => (0, 0, acc)
  | ln :: r, k, acc => if (splitF ln).1 ≠ 0 then ((splitF ln).1, k + 1, []) else parseN r (k + 1) (acc ++ (if (splitF ln).2 = [] then [] else [(k + 1, (splitF ln).2)]))
def parseF (l : List UInt8) : Int × Nat × List (Nat × List Wd) := if 65536 < l.length then (3, 0, []) else parseN (linesL l) 0 []
/-- A slice of lines. -/
def LRow (W : World) (v : Value) (ls : List (Nat × List Wd)) : Prop := ∃ (B : Nat) (A : List Ln), ofA A = ls ∧ Lok B W A ∧ W.ownsRow B 62 2 v A.length (lcells A)
/-- What the rounds of Parse keep. -/
def PrI (w : World) (R : Int × Nat × List (Nat × List Wd)) (ls : List (List UInt8)) (k : Nat) (W : World) : Prop :=
  (∃ A : List Ln, (parseN (ls.drop k) k (ofA A) = R ∧ A.length ≤ k) ∧ Lok (w.heap.size + 5) W A ∧ ∃ v, Boxed W (w.heap.size + 3) 42 v ∧ W.ownsRow (w.heap.size + 5) 62 2 v A.length (lcells A)) ∧
  (Boxed W w.heap.size 42 (.slice none 0 0) ∧ Boxed W (w.heap.size + 1) 3 (.int .i64 0) ∧ Boxed W (w.heap.size + 2) 34 (.int .i64 0)) ∧ w.heap.size + 5 ≤ W.heap.size ∧ Below w.heap.size w W
/-- What a round that returns leaves. -/
def PrX (w : World) (R : Int × Nat × List (Nat × List Wd)) (W : World) : Prop :=
  ∃ (e : Int) (n : Nat), R = (e, n, []) ∧ Boxed W w.heap.size 42 (.slice none 0 0) ∧ Boxed W (w.heap.size + 1) 3 (.int .i64 n) ∧ Boxed W (w.heap.size + 2) 34 (.int .i64 e) ∧ Below w.heap.size w W
theorem boxed_grown {W W' : World} {B : Nat} {t : TypeId} {v : Value} {row : Option Nat} (h : Boxed W B t v) (hg : W.grownBy W' row) (hr : ∀ r, row = some r → ∃ o : Obj, W.heap[r]? = some o ∧ o.isCells = false) : Boxed W' B t v :=
  h.kept hg (fun e => by obtain ⟨o, ho, hc⟩ := hr B e.symm; rw [show W.heap[B]? = _ from h] at ho; cases ho; cases hc)
theorem prI_own (w : World) (R : Int × Nat × List (Nat × List Wd)) (ls : List (List UInt8)) (B : Nat) (hB : w.heap.size ≤ B) : OwnFrom B (PrI w R ls) := by
  rintro k W W' row ⟨⟨A, h1, h2, v, h3, h4⟩, ⟨g0, g1, g2⟩, h5, h6⟩ hg hr
  have hr' : ∀ r, row = some r → ∃ o : Obj, W.heap[r]? = some o ∧ o.isCells = false := fun r e => (hr r e).2
  exact ⟨⟨A, h1, fun x hx => owns_grown (h2 x hx) hg hr', v, boxed_grown h3 hg hr', owns_grown h4 hg hr'⟩, ⟨boxed_grown g0 hg hr', boxed_grown g1 hg hr', boxed_grown g2 hg hr'⟩, Nat.le_trans h5 hg.size, h6.grown hg (by have := h6.size; omega) (fun k e => Nat.le_trans hB (hr k e).1)⟩
theorem prX_own (w : World) (R : Int × Nat × List (Nat × List Wd)) (B : Nat) (hB : w.heap.size ≤ B) : OwnFrom B (fun (_ : Unit) W => PrX w R W) := by
  rintro _ W W' row ⟨e, n, h0, g0, g1, g2, h6⟩ hg hr
  have hr' : ∀ r, row = some r → ∃ o : Obj, W.heap[r]? = some o ∧ o.isCells = false := fun r e => (hr r e).2
  exact ⟨e, n, h0, boxed_grown g0 hg hr', boxed_grown g1 hg hr', boxed_grown g2 hg hr', h6.grown hg h6.size (fun k e => Nat.le_trans hB (hr k e).1)⟩
theorem prI_set (w : World) (R : Int × Nat × List (Nat × List Wd)) (ls : List (List UInt8)) (k : Nat) (W : World) (u : Value) (h : PrI w R ls k W) : PrI w R ls k (W.setCell ⟨w.heap.size + 4, 0, none⟩ u) := by
  obtain ⟨⟨A, h1, h2, v, h3, h4⟩, ⟨g0, g1, g2⟩, h5, h6⟩ := h
  exact ⟨⟨A, h1, fun x hx => owns_set (h2 x hx) (by omega), v, h3.other (by omega) _, owns_set h4 (by omega)⟩, ⟨g0.other (by omega) _, g1.other (by omega) _, g2.other (by omega) _⟩, by simpa using h5, h6.setCell (p := ⟨w.heap.size + 4, 0, none⟩) (by show w.heap.size ≤ w.heap.size + 4; omega) _⟩
theorem maxG_below {w W : World} (h : MaxG w) (hb : Below w.heap.size w W) : MaxG W := by
  obtain ⟨m, hm⟩ := h
  refine ⟨m, ?_⟩
  have h0 : 0 < w.heap.size := by
    rcases Nat.eq_zero_or_pos w.heap.size with h | h
    · have : w.heap[0]? = none := Array.getElem?_eq_none (by omega)
      simp [World.cell?, this] at hm
    · exact h
  exact (hb.cell (p := ⟨0, 0, none⟩) h0).trans hm
end Go.Proofs.YtiapkindbbbdpaaGreatDoor
