/- Plain facts: what is written is read back. -/
import Derived.Test.YtiapkindbbbdpaaDoorT3
import Derived.Test.YtiapkindbbbdpaaDoorR5
namespace Go.Proofs.YtiapkindbbbdpaaDoor

/-- The line of words. -/
def lineW (ws : List Wd) : List UInt8 := Lib.join (ws.map formW) [32]
theorem form40 (p : Wd) (h : p.1.length ≤ 40) : (formW p).length ≤ 82 := by
  have := quL_len p.1
  unfold formW
  split
  · simp; omega
  · omega
theorem okWords.right {ws : List Wd} (h : okWords ws) : ∀ p ∈ ws, rightW p = true := fun p hp => (h.2 p hp).1
theorem lineW_len (ws : List Wd) (h : okWords ws) : (lineW ws).length ≤ 830 := by
  have := join_len (ws.map formW) 82 (by
    intro x hx
    obtain ⟨p, hp, rfl⟩ := List.mem_map.1 hx
    exact form40 p (h.2 p hp).2)
  rw [List.length_map] at this
  have h1 := h.1
  unfold lineW
  omega
theorem joinF_ok (ws : List Wd) (h : okWords ws) : joinF ws = (0, lineW ws) := by
  have h1 : ws.all rightW = true := List.all_eq_true.2 h.right
  have h2 := lineW_len ws h
  have h3 := h.1
  unfold lineW at h2
  unfold joinF
  rw [if_neg (by rw [h1]; simp), if_neg (by omega), if_neg (by omega)]
  rfl
theorem splitF_line (ws : List Wd) (h : okWords ws) : splitF (lineW ws) = (0, ws) := splitF_join ws _ (joinF_ok ws h)
theorem quL_no10 (l : List UInt8) : ∀ c ∈ quL l, c ≠ 10 := by
  intro c hc
  unfold quL at hc
  obtain ⟨x, _, hx⟩ := List.mem_flatMap.1 hc
  unfold encq at hx
  by_cases h1 : x = 92
  · rw [if_pos h1] at hx; simp at hx; rcases hx with rfl | rfl <;> decide
  · rw [if_neg h1] at hx
    by_cases h2 : x = 10
    · rw [if_pos h2] at hx; simp at hx; rcases hx with rfl | rfl <;> decide
    · rw [if_neg h2] at hx
      by_cases h3 : x = 34
      · rw [if_pos h3] at hx; simp at hx; rcases hx with rfl | rfl <;> decide
      · rw [if_neg h3] at hx; simp at hx; subst hx; exact h2
theorem formW_no10 (p : Wd) (h : rightW p = true) : ∀ c ∈ formW p, c ≠ 10 := by
  obtain ⟨t, q⟩ := p
  intro c hc
  cases q with
  | false =>
    have hb : bareF ⟨t.toArray⟩ = true := h
    have h2 := (bareF_list hb).2 c hc
    rintro rfl
    exact absurd h2 (by decide)
  | true =>
    have hc' : c ∈ 34 :: quL t ++ [34] := hc
    rw [List.mem_append, List.mem_cons, List.mem_singleton] at hc'
    rcases hc' with (rfl | hc') | rfl
    · decide
    · exact quL_no10 t c hc'
    · decide
theorem joinTail_no10 (xs : List (List UInt8)) (h : ∀ x ∈ xs, ∀ c ∈ x, c ≠ 10) : ∀ c ∈ Lib.joinTail [32] xs, c ≠ 10 := by
  intro c hc
  unfold Lib.joinTail at hc
  obtain ⟨y, hy, hcy⟩ := List.mem_flatten.1 hc
  obtain ⟨x, hx, rfl⟩ := List.mem_map.1 hy
  rw [List.mem_append, List.mem_singleton] at hcy
  rcases hcy with rfl | hcy
  · decide
  · exact h x hx c hcy
theorem lineW_no10 (ws : List Wd) (h : ∀ p ∈ ws, rightW p = true) : ∀ c ∈ lineW ws, c ≠ 10 := by
  unfold lineW
  cases ws with
  | nil => intro c hc; cases hc
  | cons p r =>
    rw [List.map_cons, Lib.join_cons]
    intro c hc
    rw [List.mem_append] at hc
    rcases hc with hc | hc
    · exact formW_no10 p (h p (List.mem_cons_self ..)) c hc
    · refine joinTail_no10 _ ?_ c hc
      intro x hx
      obtain ⟨p', hp', rfl⟩ := List.mem_map.1 hx
      exact formW_no10 p' (h p' (List.mem_cons_of_mem _ hp'))
/-- The text of lines. -/
def textW (Ls : List (List Wd)) : List UInt8 := Ls.flatMap fun ws => lineW ws ++ [10]
theorem textW_len (Ls : List (List Wd)) (h : ∀ ws ∈ Ls, okWords ws) : (textW Ls).length ≤ Ls.length * 831 := by
  induction Ls with
  | nil => exact Nat.zero_le _
  | cons ws r ih =>
    have h1 := lineW_len ws (h ws (List.mem_cons_self ..))
    have h2 := ih (fun x hx => h x (List.mem_cons_of_mem _ hx))
    unfold textW at h2 ⊢
    rw [List.flatMap_cons, List.length_append, List.length_append, List.length_cons]
    simp only [List.length_cons, List.length_nil]
    omega
theorem writeN_ok (Ls : List (List Wd)) (h : ∀ ws ∈ Ls, okWords ws) : ∀ (i : Nat) (acc : List UInt8), acc.length + Ls.length * 831 ≤ 65536 → writeN Ls i acc = (0, -1, acc ++ textW Ls) := by
  induction Ls with
  | nil =>
    intro i acc hl
    rw [writeN, if_neg (by omega)]
    simp [textW]
  | cons ws r ih =>
    intro i acc hl
    have h0 := h ws (List.mem_cons_self ..)
    have h1 := lineW_len ws h0
    rw [List.length_cons] at hl
    rw [writeN, joinF_ok ws h0, if_neg (by simp), if_pos (by omega), ih (fun x hx => h x (List.mem_cons_of_mem _ hx)) _ _ (by simp; omega)]
    simp [textW]
theorem writeF_ok (Ls : List (List Wd)) (h : ∀ ws ∈ Ls, okWords ws) (hl : Ls.length ≤ 70) : writeF Ls = (0, -1, textW Ls) := by
  unfold writeF
  rw [writeN_ok Ls h 0 [] (by simp; omega)]
  rfl
theorem lines_line (l r : List UInt8) (h : ∀ c ∈ l, c ≠ 10) : linesL (l ++ (10 :: r)) = l :: linesL r := by
  have h1 := lines_feed (l ++ (10 :: r)) l.length (by rw [List.take_left]; exact h) (by simp) (by
    rw [List.getD_eq_getElem?_getD, List.getElem?_append_right (Nat.le_refl _), Nat.sub_self]; rfl)
  rw [h1, List.take_left]
  congr 1
  rw [show l.length + 1 = l.length + 1 from rfl, ← List.drop_drop, List.drop_left]
  rfl
theorem lines_text (Ls : List (List Wd)) (r : List UInt8) (h : ∀ ws ∈ Ls, ∀ p ∈ ws, rightW p = true) : linesL (textW Ls ++ r) = Ls.map lineW ++ linesL r := by
  induction Ls with
  | nil => rfl
  | cons ws t ih =>
    have h1 := ih (fun x hx => h x (List.mem_cons_of_mem _ hx))
    unfold textW at h1 ⊢
    rw [List.flatMap_cons, List.append_assoc, List.append_assoc]
    rw [show [10] ++ (List.flatMap (fun ws => lineW ws ++ [10]) t ++ r) = 10 :: (List.flatMap (fun ws => lineW ws ++ [10]) t ++ r) from rfl, lines_line _ _ (lineW_no10 ws (h ws (List.mem_cons_self ..))), h1]
    rfl
/-- The lines with words, numbered. -/
def numW : Nat → List (List Wd) → List (Nat × List Wd)
  | _, [] => []
  | k, ws :: r => (if ws = [] then [] else [(k + 1, ws)]) ++ numW (k + 1) r
theorem parseN_lines (Ls : List (List Wd)) (R : List (List UInt8)) (h : ∀ ws ∈ Ls, okWords ws) : ∀ (k : Nat) (acc : List (Nat × List Wd)), parseN (Ls.map lineW ++ R) k acc = parseN R (k + Ls.length) (acc ++ numW k Ls) := by
  induction Ls with
  | nil => intro k acc; simp [numW]
  | cons ws r ih =>
    intro k acc
    rw [List.map_cons, List.cons_append, parseN, splitF_line ws (h ws (List.mem_cons_self ..))]
    simp only
    rw [if_neg (by simp), ih (fun x hx => h x (List.mem_cons_of_mem _ hx))]
    rw [numW, List.append_assoc, List.length_cons, show k + 1 + r.length = k + (r.length + 1) by omega]
theorem parseF_text (Ls : List (List Wd)) (h : ∀ ws ∈ Ls, okWords ws) (hl : Ls.length ≤ 70) : parseF (textW Ls) = (0, 0, numW 0 Ls) := by
  have h1 := textW_len Ls h
  unfold parseF
  rw [if_neg (by omega)]
  have h2 := lines_text Ls [] (fun ws hws => (h ws hws).right)
  rw [List.append_nil, linesL_nil, List.append_nil] at h2
  have h3 := parseN_lines Ls [] h 0 []
  rw [List.append_nil] at h3
  rw [h2, h3, parseN, List.nil_append]
theorem numW_split (Ls : List (List Wd)) : ∀ (i k : Nat), numW k Ls = numW k (Ls.take i) ++ numW (k + i) (Ls.drop i) := by
  induction Ls with
  | nil => intro i k; simp [numW]
  | cons ws r ih =>
    intro i k
    cases i with
    | zero => simp [numW]
    | succ i =>
      rw [numW, List.take_succ_cons, List.drop_succ_cons, numW, ih i (k + 1), List.append_assoc, show k + 1 + i = k + (i + 1) by omega]
theorem numW_at (Ls : List (List Wd)) (i : Nat) (hi : i < Ls.length) (hne : Ls[i] ≠ []) : ∃ h : (numW 0 (Ls.take i)).length < (numW 0 Ls).length, (numW 0 Ls)[(numW 0 (Ls.take i)).length] = (i + 1, Ls[i]) := by
  have h1 := numW_split Ls i 0
  rw [Nat.zero_add, List.drop_eq_getElem_cons hi, numW, if_neg hne] at h1
  have h2 : (numW 0 Ls)[(numW 0 (Ls.take i)).length]? = some (i + 1, Ls[i]) := by
    rw [h1, List.getElem?_append_right (Nat.le_refl _), Nat.sub_self]
    rfl
  obtain ⟨h3, h4⟩ := List.getElem?_eq_some_iff.1 h2
  exact ⟨h3, h4⟩
theorem numW_next (Ls : List (List Wd)) (i : Nat) (hi : i < Ls.length) : (numW 0 (Ls.take (i + 1))).length = (numW 0 (Ls.take i)).length + (if Ls[i] = [] then 0 else 1) := by
  have h1 := numW_split (Ls.take (i + 1)) i 0
  rw [List.take_take, Nat.min_eq_left (by omega), Nat.zero_add] at h1
  have h2 : (Ls.take (i + 1)).drop i = [Ls[i]] := by
    rw [List.take_add_one, List.getElem?_eq_getElem hi, List.drop_append, List.drop_of_length_le (by rw [List.length_take]; omega), List.length_take, Nat.min_eq_left (by omega), Nat.sub_self]
    rfl
  rw [h1, h2, List.length_append, numW, numW]
  split <;> simp
theorem count_no (l : List UInt8) (c : UInt8) (h : ∀ x ∈ l, x ≠ c) : l.count c = 0 := List.count_eq_zero.2 (fun hc => h c hc rfl)
theorem textW_count (Ls : List (List Wd)) (h : ∀ ws ∈ Ls, ∀ p ∈ ws, rightW p = true) : (textW Ls).count 10 = Ls.length := by
  induction Ls with
  | nil => rfl
  | cons ws r ih =>
    have h1 := ih (fun x hx => h x (List.mem_cons_of_mem _ hx))
    unfold textW at h1 ⊢
    rw [List.flatMap_cons, List.count_append, List.count_append, h1, count_no _ _ (lineW_no10 ws (h ws (List.mem_cons_self ..))), List.length_cons]
    simp
    omega
theorem index_no (l : List UInt8) (c : UInt8) (h : ∀ x ∈ l, x ≠ c) : Lib.indexByte l c = -1 := by
  induction l with
  | nil => rfl
  | cons b r ih =>
    have h1 := ih (fun x hx => h x (List.mem_cons_of_mem _ hx))
    have h2 : (b == c) = false := by simpa using h b (List.mem_cons_self ..)
    rw [Lib.indexByte, h2, h1]
    rfl
end Go.Proofs.YtiapkindbbbdpaaDoor
