/- Plain facts: digits doubled and halved. -/
namespace Go.Proofs.YtaidemghhagniaaGreatDoor
/-- The digits doubled from the last one on, and what is carried. -/
def dblC : List UInt8 → List UInt8 × Nat
  | [] => ([], 0)
  | c :: t => (UInt8.ofNat (48 + (2 * (c.toNat - 48) + (dblC t).2) % 10) :: (dblC t).1, (2 * (c.toNat - 48) + (dblC t).2) / 10)
def dblL (l : List UInt8) : List UInt8 := if (dblC l).2 = 0 then (dblC l).1 else UInt8.ofNat (48 + (dblC l).2) :: (dblC l).1
/-- The digits halved from the first one on, and what is left. -/
def hlvC : Nat → List UInt8 → List UInt8 × Nat
  | r, [] => ([], r)
  | r, c :: t => (UInt8.ofNat (48 + (10 * r + (c.toNat - 48)) / 2) :: (hlvC ((10 * r + (c.toNat - 48)) % 2) t).1, (hlvC ((10 * r + (c.toNat - 48)) % 2) t).2)
def hlvL (l : List UInt8) : List UInt8 := if (hlvC 0 l).2 = 0 then (hlvC 0 l).1 else (hlvC 0 l).1 ++ [53]
def hlvK (l : List UInt8) : Nat := if (hlvC 0 l).2 = 0 then 0 else 1
/-- Digits alone. -/
def DigL (l : List UInt8) : Prop := ∀ c ∈ l, 48 ≤ c.toNat ∧ c.toNat ≤ 57
theorem ofNat_to (n : Nat) (h : n < 256) : (UInt8.ofNat n).toNat = n := by
  rw [UInt8.toNat_ofNat']; exact Nat.mod_eq_of_lt h
theorem dblC_bd (l : List UInt8) (h : DigL l) : (dblC l).2 ≤ 1 ∧ DigL (dblC l).1 ∧ (dblC l).1.length = l.length := by
  induction l with
  | nil => exact ⟨Nat.zero_le _, (fun c hc => by cases hc), rfl⟩
  | cons c t ih =>
    obtain ⟨a, b, d⟩ := ih (fun x hx => h x (List.mem_cons_of_mem _ hx))
    have hc := h c (List.mem_cons_self ..)
    unfold dblC
    generalize (dblC t).2 = r at *
    refine ⟨by show (2 * (c.toNat - 48) + r) / 10 ≤ 1; omega, fun x hx => ?_, by simp [d]⟩
    cases hx with
    | head => rw [ofNat_to _ (by omega)]; omega
    | tail _ hx => exact b x hx
theorem dblL_ok (l : List UInt8) (h : DigL l) : DigL (dblL l) ∧ l.length ≤ (dblL l).length ∧ (dblL l).length ≤ l.length + 1 := by
  obtain ⟨a, b, d⟩ := dblC_bd l h
  unfold dblL
  split
  · exact ⟨b, by omega, by omega⟩
  · refine ⟨fun x hx => ?_, by simp [d], by simp [d]⟩
    cases hx with
    | head => rw [ofNat_to _ (by omega)]; omega
    | tail _ hx => exact b x hx
theorem hlvC_bd (l : List UInt8) (h : DigL l) : ∀ r, r ≤ 1 → (hlvC r l).2 ≤ 1 ∧ DigL (hlvC r l).1 ∧ (hlvC r l).1.length = l.length := by
  induction l with
  | nil => intro r hr; exact ⟨hr, (fun c hc => by cases hc), rfl⟩
  | cons c t ih =>
    intro r hr
    have hc := h c (List.mem_cons_self ..)
    obtain ⟨a, b, d⟩ := ih (fun x hx => h x (List.mem_cons_of_mem _ hx)) ((10 * r + (c.toNat - 48)) % 2) (by omega)
    unfold hlvC
    refine ⟨a, fun x hx => ?_, by simp [d]⟩
    cases hx with
    | head => rw [ofNat_to _ (by omega)]; omega
    | tail _ hx => exact b x hx
theorem hlvL_ok (l : List UInt8) (h : DigL l) : DigL (hlvL l) ∧ (hlvL l).length = l.length + hlvK l := by
  obtain ⟨a, b, d⟩ := hlvC_bd l h 0 (by omega)
  unfold hlvL hlvK
  split
  · exact ⟨b, by omega⟩
  · refine ⟨fun x hx => ?_, by simp [d]⟩
    rw [List.mem_append] at hx
    rcases hx with hx | hx
    · exact b x hx
    · rw [List.mem_singleton] at hx; subst hx; exact ⟨by decide, by decide⟩
/-- One round of doubling, at place i. -/
theorem dblC_at (l : List UInt8) (i : Nat) (h : i < l.length) : dblC (l.drop i) = (UInt8.ofNat (48 + (2 * ((l.getD i 0).toNat - 48) + (dblC (l.drop (i + 1))).2) % 10) :: (dblC (l.drop (i + 1))).1, (2 * ((l.getD i 0).toNat - 48) + (dblC (l.drop (i + 1))).2) / 10) := by
  rw [List.drop_eq_getElem_cons h, dblC, List.getD_eq_getElem?_getD, List.getElem?_eq_getElem h]; rfl
theorem hlvC_at (r : Nat) (l : List UInt8) (i : Nat) (h : i < l.length) : hlvC r (l.drop i) = (UInt8.ofNat (48 + (10 * r + ((l.getD i 0).toNat - 48)) / 2) :: (hlvC ((10 * r + ((l.getD i 0).toNat - 48)) % 2) (l.drop (i + 1))).1, (hlvC ((10 * r + ((l.getD i 0).toNat - 48)) % 2) (l.drop (i + 1))).2) := by
  rw [List.drop_eq_getElem_cons h, hlvC, List.getD_eq_getElem?_getD, List.getElem?_eq_getElem h]; rfl
/-- The text of a value. -/
def nulls (l : List UInt8) : List UInt8 := l.dropWhile (· == 48)
def dblN : Nat → List UInt8 → List UInt8 | 0, l => l | n + 1, l => dblN n (dblL l)
def hlvN : Nat → List UInt8 → Nat → List UInt8 × Nat | 0, l, k => (l, k) | n + 1, l, k => hlvN n (hlvL l) (k + hlvK l)
end Go.Proofs.YtaidemghhagniaaGreatDoor
