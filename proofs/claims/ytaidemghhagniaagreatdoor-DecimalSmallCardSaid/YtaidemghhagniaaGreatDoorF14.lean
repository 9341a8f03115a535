/- Plain facts: what the scanning of a decimal's digits comes to. -/
namespace Go.Proofs.YtaidemghhagniaaGreatDoor
def isD (c : UInt8) : Bool := decide (48 ≤ c.toNat) && decide (c.toNat ≤ 57)
structure MS where
  dot : Bool
  seen : Bool
  nd : Nat
  mant : Nat
  dp : Int
  trunc : Bool
def mstep (s : MS) (c : UInt8) : MS :=
  if c = 46 then { s with dot := true, dp := s.nd }
  else if c = 48 ∧ s.nd = 0 then { s with seen := true, dp := s.dp - 1 }
  else if s.nd < 19 then { s with seen := true, nd := s.nd + 1, mant := s.mant * 10 + (c.toNat - 48) }
  else { s with seen := true, nd := s.nd + 1, trunc := s.trunc || (c != 48) }
def ms0 : MS := ⟨false, false, 0, 0, 0, false⟩
def mrun (l : List UInt8) : MS := l.foldl mstep ms0
theorem mrun_snoc (l : List UInt8) (c : UInt8) : mrun (l ++ [c]) = mstep (mrun l) c := by unfold mrun; rw [List.foldl_append]; rfl
/-- A digit, or the first point. -/
def MOk (P : List UInt8) : Prop := ∀ k (h : k < P.length), isD P[k] = true ∨ (P[k] = 46 ∧ (mrun (P.take k)).dot = false)
theorem mrun_bd (P : List UInt8) (hP : MOk P) : ∀ k, k ≤ P.length → (mrun (P.take k)).nd ≤ k ∧ (mrun (P.take k)).mant < 10 ^ min (mrun (P.take k)).nd 19 ∧ -(k : Int) ≤ (mrun (P.take k)).dp ∧ (mrun (P.take k)).dp ≤ k := by
  intro k
  induction k with
  | zero => intro _; rw [List.take_zero]; exact ⟨Nat.le_refl _, by decide, by decide, by decide⟩
  | succ k ih =>
    intro hk
    obtain ⟨a, b, c, d⟩ := ih (by omega)
    rw [List.take_add_one, List.getElem?_eq_getElem (by omega)]
    show (mrun (_ ++ [P[k]])).nd ≤ _ ∧ (mrun (_ ++ [P[k]])).mant < 10 ^ min (mrun (_ ++ [P[k]])).nd 19 ∧ _ ≤ (mrun (_ ++ [P[k]])).dp ∧ (mrun (_ ++ [P[k]])).dp ≤ _
    rw [mrun_snoc]
    have hp := hP k (by omega)
    generalize P[k] = x at *
    generalize mrun (P.take k) = s at *
    unfold mstep
    by_cases g : x = 46
    · rw [if_pos g]; exact ⟨by show s.nd ≤ k + 1; omega, b, by show -((k + 1 : Nat) : Int) ≤ (s.nd : Int); omega, by show (s.nd : Int) ≤ _; omega⟩
    · rw [if_neg g]
      have hd : isD x = true := by rcases hp with h | h; exact h; exact absurd h.1 g
      unfold isD at hd
      simp only [Bool.and_eq_true, decide_eq_true_eq] at hd
      split
      · exact ⟨by show s.nd ≤ k + 1; omega, b, by show -((k + 1 : Nat) : Int) ≤ s.dp - 1; omega, by show s.dp - 1 ≤ _; omega⟩
      · split
        · rename_i g3
          refine ⟨by show s.nd + 1 ≤ k + 1; omega, ?_, by show -((k + 1 : Nat) : Int) ≤ s.dp; omega, by show s.dp ≤ _; omega⟩
          show s.mant * 10 + (x.toNat - 48) < 10 ^ min (s.nd + 1) 19
          rw [Nat.min_eq_left (by omega)] at b ⊢
          rw [Nat.pow_succ]; omega
        · refine ⟨by show s.nd + 1 ≤ k + 1; omega, ?_, by show -((k + 1 : Nat) : Int) ≤ s.dp; omega, by show s.dp ≤ _; omega⟩
          show s.mant < 10 ^ min (s.nd + 1) 19
          rw [Nat.min_eq_right (by omega)] at b ⊢
          exact b
end Go.Proofs.YtaidemghhagniaaGreatDoor
