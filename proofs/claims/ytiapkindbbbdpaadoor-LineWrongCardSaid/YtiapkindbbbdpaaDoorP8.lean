/- Plain facts: defects are found. -/
import Derived.Test.YtiapkindbbbdpaaDoorP6
namespace Go.Proofs.YtiapkindbbbdpaaDoor

def badT (r : Nat) : List UInt8 := if r = 0 then [97, 34, 98] else if r = 1 then [34, 97] else if r = 2 then [34, 97, 92, 120, 34] else if r = 3 then [34, 97, 34, 98] else if r = 4 then [255] else [34, 255, 34]
def wantT (r : Nat) : Int := if r = 0 then 250 else if r = 1 then 251 else if r = 2 then 251 else if r = 3 then 252 else if r = 4 then 250 else 251
def wrongT (r : Nat) : Wd := if r = 0 then ([], false) else if r = 1 then ([97, 32, 98], false) else if r = 2 then ([255], false) else if r = 3 then ([255], true) else if r = 4 then ([35], false) else ([127], false)
def formS (b : List UInt8) (j : Nat) : List UInt8 := if j = 0 then b else if j = 1 then [120, 32] ++ b else [34, 121, 34, 9] ++ b ++ [32, 122]
theorem bad_split (r j : Nat) (hr : r < 6) (hj : j < 3) : splitF (formS (badT r) j) = (wantT r, []) := by
  have : ∀ r : Fin 6, ∀ j : Fin 3, splitF (formS (badT r.val) j.val) = (wantT r.val, []) := by decide +kernel
  exact this ⟨r, hr⟩ ⟨j, hj⟩
theorem bad_no10 (r j : Nat) (hr : r < 6) (hj : j < 3) : ∀ c ∈ formS (badT r) j, c ≠ 10 := by
  have : ∀ r : Fin 6, ∀ j : Fin 3, ∀ c ∈ formS (badT r.val) j.val, c ≠ 10 := by decide +kernel
  exact this ⟨r, hr⟩ ⟨j, hj⟩
theorem want_ne (r : Nat) (hr : r < 6) : wantT r ≠ 0 := by
  have : ∀ r : Fin 6, wantT r.val ≠ 0 := by decide
  exact this ⟨r, hr⟩
theorem bad_len (r : Nat) (hr : r < 6) : (badT r).length ≤ 5 := by
  have : ∀ r : Fin 6, (badT r.val).length ≤ 5 := by decide
  exact this ⟨r, hr⟩
theorem bad_comment (r : Nat) (hr : r < 6) : splitF ([120, 32, 35] ++ badT r) = (0, [([120], false)]) := by
  have : ∀ r : Fin 6, splitF ([120, 32, 35] ++ badT r.val) = (0, [([120], false)]) := by decide +kernel
  exact this ⟨r, hr⟩
theorem wrong_no (r : Nat) (hr : r < 6) : rightW (wrongT r) = false := by
  have : ∀ r : Fin 6, rightW (wrongT r.val) = false := by decide +kernel
  exact this ⟨r, hr⟩
theorem wrong_len (r : Nat) (hr : r < 6) : (wrongT r).1.length ≤ 5 := by
  have : ∀ r : Fin 6, (wrongT r.val).1.length ≤ 5 := by decide
  exact this ⟨r, hr⟩
theorem wrong_join2 (p : Wd) (h : rightW p = false) : joinF [([97], false), p] = (250, []) := by
  unfold joinF
  rw [if_pos (by simp [h])]
theorem wrong_join1 (p : Wd) (h : rightW p = false) : joinF [p] = (250, []) := by
  unfold joinF
  rw [if_pos (by simp [h])]
theorem writeN_bad (A R : List (List Wd)) (p : Wd) (hp : rightW p = false) (h : ∀ ws ∈ A, okWords ws) : ∀ (i : Nat) (acc : List UInt8), writeN (A ++ [[p]] ++ R) i acc = (250, ((i + A.length : Nat) : Int), []) := by
  induction A with
  | nil =>
    intro i acc
    rw [List.nil_append, List.singleton_append, writeN, wrong_join1 p hp, if_pos (by decide)]
    rfl
  | cons ws r ih =>
    intro i acc
    rw [List.cons_append, List.cons_append, writeN, joinF_ok ws (h ws (List.mem_cons_self ..)), if_neg (by simp), ih (fun x hx => h x (List.mem_cons_of_mem _ hx)), List.length_cons, show i + 1 + r.length = i + (r.length + 1) by omega]
theorem writeF_bad (A R : List (List Wd)) (p : Wd) (hp : rightW p = false) (h : ∀ ws ∈ A, okWords ws) : writeF (A ++ [[p]] ++ R) = (250, (A.length : Int), []) := by
  unfold writeF
  rw [writeN_bad A R p hp h 0 [], Nat.zero_add]
theorem wrong_parse (A : List (List Wd)) (h : ∀ ws ∈ A, okWords ws) (hl : A.length ≤ 70) (r j : Nat) (hr : r < 6) (hj : j < 3) : parseF (textW A ++ formS (badT r) j ++ [10, 34]) = (wantT r, A.length + 1, []) := by
  have h1 := textW_len A h
  have h2 : (formS (badT r) j).length ≤ 20 := by
    have := bad_len r hr
    unfold formS
    (repeat' split) <;> simp <;> omega
  unfold parseF
  rw [if_neg (by simp; omega), show textW A ++ formS (badT r) j ++ [10, 34] = textW A ++ (formS (badT r) j ++ (10 :: [34])) by simp, lines_text A _ (fun ws hws => (h ws hws).right), lines_line _ _ (bad_no10 r j hr hj), parseN_lines A _ h 0 [], parseN, bad_split r j hr hj, if_pos (want_ne r hr), Nat.zero_add]
theorem okTake {Ls : List (List Wd)} (h : ∀ ws ∈ Ls, okWords ws) (k : Nat) : ∀ ws ∈ Ls.take k, okWords ws := fun ws hws => h ws (List.mem_of_mem_take hws)
end Go.Proofs.YtiapkindbbbdpaaDoor
