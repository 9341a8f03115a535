/- A law for a range over an iterator that turns a cell of its own between two rounds; a round may return. -/
import Derived.RangeFuncNested
import Derived.RangeFuncBound
import Derived.RangeFuncCalls
import Derived.RangeFuncLeaves
import Derived.RangeFuncFrom
import Derived.RangeFuncBox
import Derived.Shelf.Abstract
import Derived.Shelf.RegionOpen
import Derived.OwnWalkIn
import Derived.TacticsInMore
import Derived.LoopNIn
import Derived.LoopIn
import Derived.Test.YtiapkindbbbdpaaGreatDoorK9
namespace Go.Proofs.YtiapkindbbbdpaaGreatDoor
open Go.RowKit Go.Shelf

/-- A round's word for the iterator: its variable's block lies as it lay. -/
def Same (Bs : Nat) (A B : World) : Prop := B.heap[Bs]? = A.heap[Bs]?
/-- How a round ends. -/
def roundsX (Bs : Nat) (I : Nat → World → Prop) (Ix : World → Prop) (k : Nat) (A : World) : Exit → Act → World → Prop
  | .normal, _, B => KeepsOthers A B ∧ Same Bs A B ∧ I (k + 1) B
  | .ret, _, B => KeepsOthers A B ∧ Ix B
  | .exit _, _, _ => False
  | .goto _, _, _ => False
  | .panic _, _, _ => False
  | .outgrown, _, _ => False
theorem heap_other {A : World} {b k : Nat} (v : Value) (h : k ≠ b) : (A.setCell ⟨b, 0, none⟩ v).heap[k]? = A.heap[k]? := Below.heap_setCell _ ⟨b, 0, none⟩ v k h

/-- The law: at most N rounds, by number; the caller's facts I abide what the iterator writes into its variable's block Bs. -/
theorem rangeX {F : Fence} {n : Nat} {P : Program} {g : Operand} {ps : Array Tmp} {assign body : Code} {Q : Exit → Act → World → Prop} {a : Act} {w : World}
    (hro : F.round = none) (h1 : 1 ≤ n) {gf : Nat} {lb : Array Value} (hg : a.eval g = .func (.func gf) #[] lb) (hFg : F.fn gf) (eg : ∀ args w, (callFunc gf args).run P w = .ok (.enter gf args) w)
    (encs : Nat → Array Value) (N Bs : Nat) (hBs : Bs < w.heap.size)
    (G : World → Prop) (hit : ∀ (l : Nat) (J : Nat → World → Prop) (Jx : World → Prop) (W : World), Below w.heap.size w W → (∀ k A, ∀ n, J k A → J k (A.drewN n) ∧ G A) → (∀ k A v, J k A → J k (A.setCell ⟨Bs, 0, none⟩ v)) →
      (∀ k A, k < N → J k A → YieldAt F (n - 1 - 1) P l (encs k) A fun e B => (e = .returned (.bool true) ∧ J (k + 1) B ∧ Same Bs A B) ∨ (e = .returned (.bool false) ∧ Jx B)) → J 0 W →
      CallsIn F (n - 1) P gf (#[.func (.yield l) #[] #[]] ++ lb) W fun e B => (∃ v, e = .returned v) ∧ (J N B ∨ Jx B))
    (hps : ∀ k, (encs k).size = ps.size) (I : Nat → World → Prop) (Ix : World → Prop) (hI : OwnFrom w.heap.size I) (hIx : OwnFrom w.heap.size (fun (_ : Unit) W => Ix W)) (hIG : ∀ k A, I k A → G A) (hIs : ∀ k A v, I k A → I k (A.setCell ⟨Bs, 0, none⟩ v)) (h0 : I 0 w) (a₁ : Nat → Act)
    (hassign : ∀ (l k : Nat) (W : World) (K : Act → World → Prop), K (a₁ k) W →
      assign.wpIn (F.inRound l) (n - 1 - 1) P (Exit.then K (fun _ _ _ => False)) { tmps := (ps.zip (encs k)).foldl (fun t (p, v) => t.setIfInBounds p v) a.tmps, defers := [] } W)
    (hbody : ∀ (l k : Nat) (W : World), I k W → k < N → body.wpIn (F.inRound l) (n - 1 - 1) P (roundsX Bs I Ix k W) (a₁ k) W)
    (hdone : ∀ (D : Nat) (W : World), w.heap.size ≤ D → I N W → W.heap[D]? = some (.deferred (some [])) → Q .normal { a with defers := { target := .collected D, args := #[] } :: a.defers } W)
    (hstop : ∀ (D : Nat) (W : World), w.heap.size ≤ D → Ix W → W.heap[D]? = some (.deferred (some [])) → Code.ret.wpIn F n P Q { a with defers := { target := .collected D, args := #[] } :: a.defers } W) :
    (Code.rangeFunc g ps assign body).wpIn F n P Q a w := by
  refine wpIn_rangeFunc fun fn hfn => ?_
  rw [hro]
  let rec2 : LoopState → Option Code → Loop := fun st pe => { state := st, pending := pe, fn, tmps := a.tmps, params := ps, assign, body, defers := w.heap.size }
  have hb1 : Below w.heap.size w ((w.alloc (.deferred (some []))).alloc (.loop (rec2 .ready none))) := ((Below.refl _ w).alloc (Nat.le_refl _) _).alloc (by simp) _
  have hI1 : I 0 ((w.alloc (.deferred (some []))).alloc (.loop (rec2 .ready none))) := hI.alloc _ (hI.alloc _ h0)
  have hL1 : ((w.alloc (.deferred (some []))).alloc (.loop (rec2 .ready none))).heap[w.heap.size + 1]? = some (.loop (rec2 .ready none)) := by
    have := World.alloc_heap_new (w.alloc (.deferred (some []))) (.loop (rec2 .ready none)); rwa [World.size_alloc] at this
  have hK1 : ((w.alloc (.deferred (some []))).alloc (.loop (rec2 .ready none))).heap[w.heap.size]? = some (.deferred (some [])) := (Below.heap_alloc _ _ _ (by simp)).trans (World.alloc_heap_new w _)
  refine ⟨w.heap.size + 1, [{ target := .collected w.heap.size, args := #[] }], (w.alloc (.deferred (some []))).alloc (.loop (rec2 .ready none)), { target := .fn (.func gf) lb, args := #[.func (.yield (w.heap.size + 1)) #[] #[]] }, (w.alloc (.deferred (some []))).alloc (.loop (rec2 .ready none)), gf,
    #[.func (.yield (w.heap.size + 1)) #[] #[]] ++ lb, (w.alloc (.deferred (some []))).alloc (.loop (rec2 .ready none)), run_enterLoop_outer _ _ _ _ _, ?_, ?_, ?_, fun _ => h1, ?_⟩
  · simp only [resolve, hg]
    simp [go_sem]
  · intro f' hf'; simp [Target.leads] at hf'; subst hf'; exact hFg
  · simp [invoke, go_sem, eg]
  · generalize (w.alloc (.deferred (some []))).alloc (.loop (rec2 .ready none)) = W1 at hb1 hI1 hL1 hK1
    refine (hit (w.heap.size + 1) (fun k W => I k W ∧ W.heap[w.heap.size + 1]? = some (.loop (rec2 .ready none)) ∧ W.heap[w.heap.size]? = some (.deferred (some [])))
      (fun W => Ix W ∧ W.heap[w.heap.size + 1]? = some (.loop (rec2 .done (some .ret))) ∧ W.heap[w.heap.size]? = some (.deferred (some []))) W1 hb1
      (fun k A n h => ⟨⟨hI k A (A.drewN n) none h.1 ⟨rfl, rfl, rfl, Nat.le_refl _, fun _ _ _ => rfl⟩ (fun _ e => by cases e), h.2⟩, hIG k A h.1⟩)
      (fun k A v h => ⟨hIs k A v h.1, (heap_other v (by omega)).trans h.2.1, (heap_other v (by omega)).trans h.2.2⟩) ?_ ⟨hI1, hL1, hK1⟩).mono ?_
    · rintro k A hk ⟨hi, hl, hd⟩
      have hlt : w.heap.size + 1 < A.heap.size := (Array.getElem?_eq_some_iff.1 hl).1
      refine ⟨fn, _, assign, body, run_yield (P := P) (args := encs k) hl (hps k), roundIn_of_wpIn hfn (hassign _ k A _ ⟨_, run_beginRound hl rfl, ?_⟩)⟩
      refine wpIn_mono (hbody _ k _ (hI.putObj _ hi (by omega) hl rfl) hk) ?_
      have hl2 : (A.putObj (w.heap.size + 1) (.loop { rec2 .ready none with state := .busy })).heap[w.heap.size + 1]? = some (.loop { rec2 .ready none with state := .busy }) := World.putObj_heap_same hlt
      have hd2 : (A.putObj (w.heap.size + 1) (.loop { rec2 .ready none with state := .busy })).heap[w.heap.size]? = some (.deferred (some [])) := (World.putObj_heap_other (by omega)).trans hd
      have hs2 : Same Bs A (A.putObj (w.heap.size + 1) (.loop { rec2 .ready none with state := .busy })) := World.putObj_heap_other (by omega)
      rintro e a3 B hp
      cases e with
      | normal =>
        obtain ⟨hko, hsm, hi3⟩ := hp
        have hl3 := hko.same _ _ hl2 rfl
        refine ⟨_, _, run_endRound (P := P) none hl3, .inl ⟨rfl, ⟨hI.putObj _ hi3 (by omega) hl3 rfl, World.putObj_heap_same (Array.getElem?_eq_some_iff.1 hl3).1, (World.putObj_heap_other (by omega)).trans (hko.same _ _ hd2 rfl)⟩, ?_⟩⟩
        exact ((World.putObj_heap_other (by omega)).trans hsm).trans hs2
      | ret =>
        obtain ⟨hko, hi3⟩ := hp
        have hl3 := hko.same _ _ hl2 rfl
        exact ⟨_, _, run_endRound (P := P) (some .ret) hl3, .inr ⟨rfl, hIx.putObj (s := ()) _ hi3 (by omega) hl3 rfl, World.putObj_heap_same (Array.getElem?_eq_some_iff.1 hl3).1, (World.putObj_heap_other (by omega)).trans (hko.same _ _ hd2 rfl)⟩⟩
      | exit id => exact hp.elim
      | goto t => exact hp.elim
      | panic ch => exact hp.elim
      | outgrown => exact hp.elim
    · rintro e B ⟨⟨v, rfl⟩, (⟨hi, hl, hd⟩ | ⟨hi, hl, hd⟩)⟩
      · exact ⟨none, _, run_endLoop (P := P) hl (by simp [rec2]), hdone _ _ (Nat.le_refl _) (hI.putObj _ hi (by omega) hl rfl) ((World.putObj_heap_other (by omega)).trans hd)⟩
      · exact ⟨some .ret, _, run_endLoop (P := P) hl (by simp [rec2]), hstop _ _ (Nat.le_refl _) (hIx.putObj (s := ()) _ hi (by omega) hl rfl) ((World.putObj_heap_other (by omega)).trans hd)⟩
end Go.Proofs.YtiapkindbbbdpaaGreatDoor
