/- Plain facts: the reference's quoted form. -/
import Derived.Test.YtiapkindbbbdpaaGreatDoorK12
namespace Go.Proofs.YtiapkindbbbdpaaGreatDoor

/-- Where the quote is that ends a form: the error, the offset. -/
def scq : List UInt8 → Int × Nat
  | [] => (222, 0)
  | [c] => if c = 34 then (0, 0) else if c = 10 then (223, 0) else (222, 0)
  | c :: x :: t => if c = 34 then (0, 0) else if c = 10 then (223, 0) else if c = 92 then if esc x = [] then (220, 0) else ((scq t).1, (scq t).2 + 2) else ((scq (x :: t)).1, (scq (x :: t)).2 + 1)
/-- What a value form is: the error, the text. -/
def rdR : List UInt8 → Int × List UInt8
  | [] => (0, [])
  | [c] => if c = 10 then (223, []) else if c = 34 then (221, []) else if c = 92 then (220, []) else (0, [c])
  | c :: x :: t => if c = 10 then (223, []) else if c = 34 then (221, []) else if c = 92 then if esc x = [] then (220, []) else if (rdR t).1 = 0 then (0, esc x ++ (rdR t).2) else ((rdR t).1, []) else if (rdR (x :: t)).1 = 0 then (0, c :: (rdR (x :: t)).2) else ((rdR (x :: t)).1, [])
theorem rdR_slash (x : UInt8) (t : List UInt8) (hx : esc x ≠ []) : rdR (92 :: x :: t) = if (rdR t).1 = 0 then (0, esc x ++ (rdR t).2) else ((rdR t).1, []) := by
  rw [rdR, if_neg (by decide), if_neg (by decide), if_pos rfl, if_neg hx]
theorem rdR_other (c : UInt8) (t : List UInt8) (h1 : c ≠ 10) (h2 : c ≠ 34) (h3 : c ≠ 92) : rdR (c :: t) = if (rdR t).1 = 0 then (0, c :: (rdR t).2) else ((rdR t).1, []) := by
  cases t with
  | nil => simp [rdR, h1, h2, h3]
  | cons x t => rw [rdR, if_neg h1, if_neg h2, if_neg h3]
theorem scq_rdq (l : List UInt8) : (scq l).1 = (rdq l).1 ∧ ((rdq l).1 = 0 → (scq l).2 = (rdq l).2.2 ∧ (scq l).2 < l.length ∧ rdR (l.take (scq l).2) = (0, (rdq l).2.1)) := by
  fun_induction scq l with
  | case1 => exact ⟨rfl, fun h => by simp [rdq] at h⟩
  | case2 => exact ⟨rfl, fun _ => ⟨rfl, by simp, rfl⟩⟩
  | case3 h => exact ⟨rfl, fun h => by simp [rdq] at h⟩
  | case4 c h1 h2 => rw [rdq, if_neg h2, if_neg h1]; exact ⟨rfl, fun h => by simp at h⟩
  | case5 x t => exact ⟨rfl, fun _ => ⟨rfl, by simp, rfl⟩⟩
  | case6 x t h => exact ⟨rfl, fun h => by simp [rdq] at h⟩
  | case7 x t he h1 h2 => rw [rdq, if_neg h2, if_neg h1, if_pos rfl, if_pos he]; exact ⟨rfl, fun h => by simp at h⟩
  | case8 x t he h1 h2 ih =>
    rw [rdq, if_neg h2, if_neg h1, if_pos rfl, if_neg he]
    refine ⟨?_, fun h => ?_⟩
    · unfold comb; split
      · rename_i g; rw [ih.1, g]
      · exact ih.1
    · unfold comb at h ⊢
      by_cases g : (rdq t).1 = 0
      · obtain ⟨e1, e2, e3⟩ := ih.2 g
        rw [if_pos g]
        refine ⟨by simp only; omega, by simp; omega, ?_⟩
        rw [List.take_succ_cons, List.take_succ_cons, rdR_slash x _ he, e3]
        rfl
      · rw [if_neg g] at h; exact absurd h g
  | case9 c x t h1 h2 h3 ih =>
    rw [rdq, if_neg h2, if_neg h1, if_neg h3]
    refine ⟨?_, fun h => ?_⟩
    · unfold comb; split
      · rename_i g; rw [ih.1, g]
      · exact ih.1
    · unfold comb at h ⊢
      by_cases g : (rdq (x :: t)).1 = 0
      · obtain ⟨e1, e2, e3⟩ := ih.2 g
        rw [if_pos g]
        refine ⟨by simp only; omega, by simp at e2 ⊢; omega, ?_⟩
        rw [List.take_succ_cons, rdR_other c _ h2 h1 h3, e3]
        rfl
      · rw [if_neg g] at h; exact absurd h g
end Go.Proofs.YtiapkindbbbdpaaGreatDoor
