/- Parts of the proof: B0 B1. -/
import Derived.Test.YtdeimnnpcfncpaaGreatDoorC08
import Derived.Test.YtdeimnnpcfncpaaGreatDoorC24
import Derived.Test.YtdeimnnpcfncpaaGreatDoorC35
section
namespace Go.Proofs.YtdeimnnpcfncpaaGreatDoor.X
open Go Go.RowKit
set_option linter.unusedVariables false
set_option linter.unusedSimpArgs false
theorem lt_tri (a b : List UInt8) : a < b ∨ a = b ∨ b < a := by
  by_cases h : a < b
  · exact .inl h
  · by_cases k : b < a
    · exact .inr (.inr k)
    · exact .inr (.inl (lt_anti h k))
def firstBad : List Lb → Int
  | [] => 0
  | x :: t => if oneL x = 0 then firstBad t else oneL x
def insN (x : Lb) : List Lb → List Lb
  | [] => [x]
  | y :: t => if y.1 < x.1 then y :: insN x t else x :: y :: t
def srt (ls : List Lb) : List Lb := ls.foldr insN []
def twiceB : List Lb → Bool
  | [] => false
  | x :: t => hasL t x.1 || twiceB t
def ofF (ls : List Lb) : Int × List Lb :=
  if firstBad ls = 0 then
    if twiceB ls = true then (43, [])
    else if 64 < ((srt ls).filter (fun x => !emp x)).length then (5, []) else (0, (srt ls).filter (fun x => !emp x))
  else (firstBad ls, [])
theorem hasL_iff (ls : List Lb) (n : List UInt8) : hasL ls n = true ↔ ∃ x ∈ ls, x.1 = n := by
  unfold hasL; rw [List.any_eq_true]; simp
theorem twice_nodup (ls : List Lb) : twiceB ls = false ↔ (ls.map Prod.fst).Nodup := by
  induction ls with
  | nil => simp [twiceB]
  | cons x t ih =>
    rw [List.map_cons, List.nodup_cons, ← ih, twiceB, Bool.or_eq_false_iff]
    have : hasL t x.1 = false ↔ x.1 ∉ t.map Prod.fst := by
      rw [← Bool.not_eq_true, hasL_iff, List.mem_map]
    rw [this]
def Inc (ls : List Lb) : Prop := ls.Pairwise (fun x y => x.1 < y.1)
theorem inc_eq : ∀ a b : List Lb, Inc a → Inc b → (∀ x, x ∈ a ↔ x ∈ b) → a = b
  | [], [], _, _, _ => rfl
  | [], y :: t, _, _, h => by have := (h y).2 (List.mem_cons_self ..); cases this
  | x :: s, [], _, _, h => by have := (h x).1 (List.mem_cons_self ..); cases this
  | x :: s, y :: t, ha, hb, h => by
    obtain ⟨a1, a2⟩ := List.pairwise_cons.1 ha
    obtain ⟨b1, b2⟩ := List.pairwise_cons.1 hb
    have e : x = y := by
      rcases List.mem_cons.1 ((h x).1 (List.mem_cons_self ..)) with e | e
      · exact e
      · rcases List.mem_cons.1 ((h y).2 (List.mem_cons_self ..)) with e2 | e2
        · exact e2.symm
        · exact absurd (lt_tr (b1 x e) (a1 y e2)) (lt_irr _)
    subst e
    refine congrArg (x :: ·) (inc_eq s t a2 b2 fun z => ⟨fun hz => ?_, fun hz => ?_⟩)
    · rcases List.mem_cons.1 ((h z).1 (List.mem_cons_of_mem _ hz)) with e | e
      · subst e; exact absurd (a1 z hz) (lt_irr _)
      · exact e
    · rcases List.mem_cons.1 ((h z).2 (List.mem_cons_of_mem _ hz)) with e | e
      · subst e; exact absurd (b1 z hz) (lt_irr _)
      · exact e
theorem ins_mem (x z : Lb) (ls : List Lb) : z ∈ insN x ls ↔ z = x ∨ z ∈ ls := by
  induction ls with
  | nil => simp [insN]
  | cons y t ih =>
    rw [insN]
    split
    · rw [List.mem_cons, ih, List.mem_cons]
      constructor
      · intro h
        rcases h with h | h | h
        · exact .inr (.inl h)
        · exact .inl h
        · exact .inr (.inr h)
      · intro h
        rcases h with h | h | h
        · exact .inr (.inl h)
        · exact .inl h
        · exact .inr (.inr h)
    · rw [List.mem_cons]
theorem srt_mem (ls : List Lb) (z : Lb) : z ∈ srt ls ↔ z ∈ ls := by
  induction ls with
  | nil => simp [srt]
  | cons x t ih =>
    show z ∈ insN x (srt t) ↔ _
    rw [ins_mem, ih, List.mem_cons]
theorem ins_inc (x : Lb) (ls : List Lb) (h : Inc ls) (hn : ∀ y ∈ ls, y.1 ≠ x.1) : Inc (insN x ls) := by
  induction ls with
  | nil => exact List.pairwise_singleton _ _
  | cons y t ih =>
    obtain ⟨h1, h2⟩ := List.pairwise_cons.1 h
    rw [insN]
    split
    · rename_i g
      refine List.pairwise_cons.2 ⟨fun z hz => ?_, ih h2 (fun z hz => hn z (List.mem_cons_of_mem _ hz))⟩
      rcases (ins_mem x z t).1 hz with rfl | hz
      · exact g
      · exact h1 z hz
    · rename_i g
      have hxy : x.1 < y.1 := by
        rcases lt_tri x.1 y.1 with g2 | g2 | g2
        · exact g2
        · exact absurd g2.symm (hn y (List.mem_cons_self ..))
        · exact absurd g2 g
      refine List.pairwise_cons.2 ⟨fun z hz => ?_, h⟩
      rcases List.mem_cons.1 hz with rfl | hz
      · exact hxy
      · exact lt_tr hxy (h1 z hz)
theorem srt_inc (ls : List Lb) (h : twiceB ls = false) : Inc (srt ls) := by
  induction ls with
  | nil => exact List.Pairwise.nil
  | cons x t ih =>
    rw [twiceB, Bool.or_eq_false_iff] at h
    refine ins_inc x _ (ih h.2) fun y hy e => ?_
    have := (hasL_iff t x.1).2 ⟨y, (srt_mem t y).1 hy, e⟩
    rw [h.1] at this; cases this
def adjF : List Lb → Bool
  | [] => false
  | [_] => false
  | x :: y :: t => (x.1 == y.1) || adjF (y :: t)
def Srt2 (ls : List Lb) : Prop := ls.Pairwise (fun x y => ¬ y.1 < x.1)
theorem srtL_pw (ls : List Lb) (h : SrtL ls) : Srt2 ls := by
  unfold Srt2
  rw [List.pairwise_iff_getElem]
  intro i j hi hj hij
  have := h i j hij hj
  rw [List.getD_eq_getElem?_getD, List.getElem?_eq_getElem hj, List.getD_eq_getElem?_getD, List.getElem?_eq_getElem hi] at this
  exact this
theorem adj_inc : ∀ ls : List Lb, Srt2 ls → adjF ls = false → Inc ls
  | [], _, _ => List.Pairwise.nil
  | [x], _, _ => List.pairwise_singleton _ _
  | x :: y :: t, h, ha => by
    rw [adjF, Bool.or_eq_false_iff] at ha
    obtain ⟨h1, h2⟩ := List.pairwise_cons.1 h
    have ih := adj_inc (y :: t) h2 ha.2
    have hxy : x.1 < y.1 := by
      rcases lt_tri x.1 y.1 with g2 | g2 | g2
      · exact g2
      · exact absurd g2 (by simpa using ha.1)
      · exact absurd g2 (h1 y (List.mem_cons_self ..))
    refine List.pairwise_cons.2 ⟨fun z hz => ?_, ih⟩
    rcases List.mem_cons.1 hz with rfl | hz
    · exact hxy
    · exact lt_tr hxy ((List.pairwise_cons.1 ih).1 z hz)
theorem inc_nodup (ls : List Lb) (h : Inc ls) : twiceB ls = false := by
  induction ls with
  | nil => rfl
  | cons x t ih =>
    obtain ⟨h1, h2⟩ := List.pairwise_cons.1 h
    rw [twiceB, ih h2, Bool.or_false, ← Bool.not_eq_true, hasL_iff]
    rintro ⟨y, hy, e⟩
    have := h1 y hy
    rw [e] at this
    exact lt_irr _ this
theorem inc_adj : ∀ ls : List Lb, Inc ls → adjF ls = false
  | [], _ => rfl
  | [x], _ => rfl
  | x :: y :: t, h => by
    obtain ⟨h1, h2⟩ := List.pairwise_cons.1 h
    rw [adjF, inc_adj (y :: t) h2, Bool.or_false, beq_eq_false_iff_ne]
    intro e
    have := h1 y (List.mem_cons_self ..)
    rw [e] at this
    exact lt_irr _ this
theorem perm_twice {a b : List Lb} (h : a.Perm b) : twiceB a = twiceB b := by
  have := (h.map Prod.fst).nodup_iff
  cases ha : twiceB a with
  | false => exact ((twice_nodup b).2 (this.1 ((twice_nodup a).1 ha))).symm
  | true =>
    cases hb : twiceB b with
    | true => rfl
    | false => rw [(twice_nodup a).2 (this.2 ((twice_nodup b).1 hb))] at ha; cases ha
theorem sorted_is {ls ls' : List Lb} (hp : ls'.Perm ls) (hs : SrtL ls') : adjF ls' = twiceB ls ∧ (adjF ls' = false → ls' = srt ls) := by
  have h2 := srtL_pw ls' hs
  have key : adjF ls' = false → twiceB ls = false ∧ ls' = srt ls := fun ha => by
    have hi := adj_inc ls' h2 ha
    have ht : twiceB ls = false := by rw [← perm_twice hp]; exact inc_nodup _ hi
    exact ⟨ht, inc_eq _ _ hi (srt_inc ls ht) (fun x => by rw [srt_mem]; exact hp.mem_iff)⟩
  refine ⟨?_, fun ha => (key ha).2⟩
  cases ha : adjF ls' with
  | false => exact (key ha).1.symm
  | true =>
    cases ht : twiceB ls with
    | true => rfl
    | false =>
      have hi : Inc ls' := by
        have h3 := (twice_nodup ls').1 (by rw [perm_twice hp]; exact ht)
        refine (List.pairwise_map.1 h3).imp₂ ?_ h2
        intro a b hne hle
        rcases lt_tri a.1 b.1 with g2 | g2 | g2
        · exact g2
        · exact absurd g2 hne
        · exact absurd g2 hle
      rw [inc_adj _ hi] at ha; cases ha
end Go.Proofs.YtdeimnnpcfncpaaGreatDoor.X
end
section
namespace Go.Proofs.YtdeimnnpcfncpaaGreatDoor.X
open Go Go.RowKit
set_option linter.unusedVariables false
set_option linter.unusedSimpArgs false
noncomputable def nearV (n : Nat) (p : Int) : Nat := Classical.choose (nx_ex n p)
theorem nearV_is {n : Nat} {p : Int} {r : Nat} (h : NearX n p r) : nearV n p = r := nx_eq (Classical.choose_spec (nx_ex n p)) h
theorem nearV_near (n : Nat) (p : Int) : NearX n p (nearV n p) := Classical.choose_spec (nx_ex n p)
noncomputable def parF (l : List UInt8) : Option Nat :=
  if 1200 < l.length then none else if isNam l = true then some (namV l) else if rightL l = true then some (sgw (ngL l) + nearV (numL l) (powL l)) else none
structure Smp where
  ls : List Lb
  bits : Nat
  st : Bool
  t : Int
def smp0 : Smp := ⟨[], 0, false, 0⟩
def readE (all : List Lb) (bits : Nat) (st : Bool) (t : Int) : Int × Smp :=
  if (ofF all).1 = 0 then (0, ⟨(ofF all).2, bits, st, t⟩) else ((ofF all).1, smp0)
def readT (all : List Lb) (bits : Nat) (d : List UInt8) : Int × Smp :=
  if d = [] then readE all bits false 0
  else match numF (wd d) with
    | none => (234, smp0)
    | some n => if tb (wr d) = [] then readE all bits true n else (235, smp0)
noncomputable def readV (all : List Lb) (c : List UInt8) : Int × Smp :=
  match parF (wd c) with
  | none => (233, smp0)
  | some bits => readT all bits (tb (wr c))
noncomputable def readF (l : List UInt8) : Int × Smp :=
  if 65536 < l.length then (3, smp0)
  else if namedL 58 (nm 58 (tb l)) = true then
    (if ((tb (nr 58 (tb l))).head? == some 123) = true then
      (if (labG (tb (nr 58 (tb l))).tail).1 = 0 then readV ((sName, nm 58 (tb l)) :: (labG (tb (nr 58 (tb l))).tail).2.1) (tb (labG (tb (nr 58 (tb l))).tail).2.2) else ((labG (tb (nr 58 (tb l))).tail).1, smp0))
     else readV [(sName, nm 58 (tb l))] (tb (tb (nr 58 (tb l)))))
  else (230, smp0)
def vword (l : List UInt8) : List UInt8 :=
  if ((tb (nr 58 (tb l))).head? == some 123) = true then wd (tb (labG (tb (nr 58 (tb l))).tail).2.2) else wd (tb (tb (nr 58 (tb l))))
def rightF (s : Smp) : Bool := rightLb s.ls && (namedL 58 (getLb s.ls sName) && ((!(Go.Proofs.YtdeimnnpcfncpaaGreatDoor.kindN s.bits == 4) || (s.bits == 9221120237041090561)) && (s.st || (s.t == 0))))
def lbT (x : Lb) : List UInt8 := x.1 ++ (61 :: (34 :: L.quL x.2 ++ [34]))
def joinC : List (List UInt8) → List UInt8
  | [] => []
  | [a] => a
  | a :: b :: t => a ++ (44 :: joinC (b :: t))
def lineT (s : Smp) : List UInt8 :=
  let o := s.ls.filter (fun x => !(x.1 == sName))
  getLb s.ls sName ++ ((if o = [] then [] else 123 :: (joinC (o.map lbT) ++ [125])) ++ (32 :: (exactL s.bits ++ (if s.st then 32 :: Lib.itoa s.t else []))))
def lineF (s : Smp) : Int × List UInt8 := if rightF s = true then (if 65536 < (lineT s).length then (3, []) else (0, lineT s)) else (239, [])
end Go.Proofs.YtdeimnnpcfncpaaGreatDoor.X
end
