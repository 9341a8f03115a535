/- Plain facts: blanks and comments change no words. -/
import Derived.Test.YtiapkindbbbdpaaDoorP6
import Derived.Lib.Replace
namespace Go.Proofs.YtiapkindbbbdpaaDoor

theorem mixF_app (L M : List (List UInt8 × Wd)) (e : List UInt8) : mixF (L ++ M) e = mixF L (mixF M e) := by
  induction L with
  | nil => rfl
  | cons x r ih => obtain ⟨b, p⟩ := x; rw [List.cons_append, mixF, mixF, ih]
theorem mixF_end (L : List (List UInt8 × Wd)) (e : List UInt8) : mixF L e = mixF L [] ++ e := by
  induction L with
  | nil => rfl
  | cons x r ih => obtain ⟨b, p⟩ := x; rw [mixF, mixF, ih]; simp
theorem mixOk_snoc (L : List (List UInt8 × Wd)) (b : List UInt8) (p : Wd) (h : mixOk L) (hb : ∀ c ∈ b, c = 32 ∨ c = 9) (hne : b ≠ []) (hp : rightW p = true) : mixOk (L ++ [(b, p)]) := by
  induction L with
  | nil => exact ⟨hb, hp, (fun x hx => by cases hx), trivial⟩
  | cons x r ih =>
    obtain ⟨b', p'⟩ := x
    refine ⟨h.1, h.2.1, ?_, ih h.2.2.2⟩
    intro x hx
    replace hx : x ∈ r ++ [(b, p)] := hx
    rw [List.mem_append, List.mem_singleton] at hx
    rcases hx with hx | rfl
    · exact h.2.2.1 x hx
    · exact hne
/-- What has been put together. -/
def BlI (ws : List Wd) (b0 : List UInt8) (i : Nat) (l : List UInt8) : Prop := (i = 0 ∧ l = b0) ∨ ∃ L, mixOk L ∧ L.map (·.2) = ws.take i ∧ 0 < i ∧ l = mixF L []
theorem blI_first (ws : List Wd) (b0 : List UInt8) (h0 : 0 < ws.length) (hb : ∀ c ∈ b0, c = 32 ∨ c = 9) (hp : rightW ws[0] = true) : BlI ws b0 1 (b0 ++ formW ws[0]) := by
  refine .inr ⟨[(b0, ws[0])], ⟨hb, hp, (fun x hx => by cases hx), trivial⟩, ?_, by omega, by simp [mixF]⟩
  rw [List.take_add_one, List.getElem?_eq_getElem h0]
  rfl
theorem blI_next (ws : List Wd) (b0 : List UInt8) (i : Nat) (l b : List UInt8) (h : BlI ws b0 i l) (hi : i < ws.length) (h0 : 0 < i) (hb : ∀ c ∈ b, c = 32 ∨ c = 9) (hne : b ≠ []) (hp : rightW ws[i] = true) : BlI ws b0 (i + 1) (l ++ b ++ formW ws[i]) := by
  rcases h with ⟨h, _⟩ | ⟨L, h1, h2, _, rfl⟩
  · omega
  · refine .inr ⟨L ++ [(b, ws[i])], mixOk_snoc L b _ h1 hb hne hp, ?_, by omega, ?_⟩
    · rw [List.map_append, h2, List.take_add_one, List.getElem?_eq_getElem hi]
      rfl
    · rw [mixF_app, mixF_end L (mixF [(b, ws[i])] [])]
      simp [mixF]
theorem finR_blank (b e : List UInt8) (hb : ∀ c ∈ b, c = 32 ∨ c = 9) (he : finR e) : finR (b ++ e) := by
  unfold finR at he ⊢
  rw [trim_blank b e hb]
  exact he
theorem splitF_fin (l : List UInt8) (h : finR l) (hl : l.length ≤ 65536) : splitF l = (0, []) := by
  unfold splitF
  rw [if_neg (by omega), splitN_fin _ l [] h]
theorem blI_split (ws : List Wd) (b0 l e : List UInt8) (h : BlI ws b0 ws.length l) (hb : ∀ c ∈ b0, c = 32 ∨ c = 9) (he : finR e) (h64 : ws.length ≤ 64) (hl : (l ++ e).length ≤ 65536) : splitF (l ++ e) = (0, ws) := by
  rcases h with ⟨h, rfl⟩ | ⟨L, h1, h2, _, rfl⟩
  · rw [splitF_fin _ (finR_blank _ e hb he) hl, List.eq_nil_of_length_eq_zero h]
  · rw [← mixF_end] at hl ⊢
    rw [List.take_of_length_le (Nat.le_refl _)] at h2
    have := splitF_mix L e he h1 (by have := congrArg List.length h2; rw [List.length_map] at this; omega) hl
    rw [this, h2]
theorem mixF_no10 (L : List (List UInt8 × Wd)) (e : List UInt8) (h : mixOk L) (he : ∀ c ∈ e, c ≠ 10) : ∀ c ∈ mixF L e, c ≠ 10 := by
  induction L with
  | nil => exact he
  | cons x r ih =>
    obtain ⟨b, p⟩ := x
    intro c hc
    rw [mixF, List.mem_append, List.mem_append] at hc
    rcases hc with hc | hc | hc
    · rcases h.1 c hc with rfl | rfl <;> decide
    · exact formW_no10 p h.2.1 c hc
    · exact ih h.2.2.2 c hc
theorem blI_no10 (ws : List Wd) (b0 : List UInt8) (i : Nat) (l : List UInt8) (h : BlI ws b0 i l) (hb : ∀ c ∈ b0, c = 32 ∨ c = 9) : ∀ c ∈ l, c ≠ 10 := by
  rcases h with ⟨_, rfl⟩ | ⟨L, h1, _, _, rfl⟩
  · intro c hc
    rcases hb c hc with rfl | rfl <;> decide
  · exact mixF_no10 L [] h1 (fun c hc => by cases hc)
theorem blank_parse (ws : List Wd) (m : List UInt8) (hs : splitF m = (0, ws)) (hno : ∀ c ∈ m, c ≠ 10) (hl : m.length ≤ 65000) : parseF ([10, 35, 32, 120, 10] ++ m ++ [10, 32, 9, 10]) = (0, 0, if ws = [] then [] else [(3, ws)]) := by
  have e0 : [10, 35, 32, 120, 10] ++ m ++ [10, 32, 9, 10] = [] ++ (10 :: ([35, 32, 120] ++ (10 :: (m ++ (10 :: ([32, 9] ++ (10 :: []))))))) := by simp
  unfold parseF
  rw [if_neg (by simp; omega), e0, lines_line [] _ (fun c hc => by cases hc), lines_line [35, 32, 120] _ (by decide), lines_line m _ hno, lines_line [32, 9] _ (by decide), linesL_nil]
  rw [parseN, show splitF [] = (0, []) by decide, if_neg (by simp), parseN, show splitF [35, 32, 120] = (0, []) by decide +kernel, if_neg (by simp), parseN, hs, if_neg (by simp), parseN, show splitF [32, 9] = (0, []) by decide +kernel, if_neg (by simp), parseN]
  simp
/-- A line feed is made a blank. -/
theorem replaceK_no (k : Nat) : ∀ (s : List UInt8), s.count 10 ≤ k → (∀ c ∈ Lib.replaceK [10] [32] k s, c ≠ 10) ∧ (Lib.replaceK [10] [32] k s).length = s.length := by
  induction k with
  | zero =>
    intro s h
    refine ⟨fun c hc e => ?_, rfl⟩
    subst e
    have := List.count_pos_iff.2 hc
    unfold Lib.replaceK at this
    omega
  | succ k ih =>
    intro s h
    have hi := index_one s 10
    by_cases hm : (10 : UInt8) ∈ s
    · rw [if_pos hm] at hi
      have htw := take_take_while s (· != 10)
      have hdw := drop_take_while s (· != 10)
      rw [Lib.replaceK_hit [10] [32] k s _ hi, htw, ← List.drop_drop, hdw]
      have hsp := List.takeWhile_append_dropWhile (p := fun x : UInt8 => x != 10) (l := s)
      have hd : s.dropWhile (· != 10) = 10 :: (s.dropWhile (· != 10)).drop 1 := by
        cases hd : s.dropWhile (· != 10) with
        | nil =>
          rw [hd, List.append_nil] at hsp
          rw [← hsp] at hm
          have := List.all_takeWhile (p := fun x : UInt8 => x != 10) (l := s)
          rw [List.all_eq_true] at this
          have := this 10 hm
          simp at this
        | cons c r =>
          have hc : ¬ (c != 10) = true := by
            have h1 := List.head?_dropWhile_not (p := fun x : UInt8 => x != 10) (l := s)
            rw [hd] at h1
            simpa using h1
          simp at hc
          subst hc
          rfl
      have hcnt : s.count 10 = ((s.dropWhile (· != 10)).drop 1).count 10 + 1 := by
        conv => lhs; rw [← hsp]
        rw [List.count_append, hd, List.count_cons]
        have h0 : (s.takeWhile (· != 10)).count 10 = 0 := by
          apply List.count_eq_zero.2
          intro hc
          have := List.all_takeWhile (p := fun x : UInt8 => x != 10) (l := s)
          rw [List.all_eq_true] at this
          have := this 10 hc
          simp at this
        rw [h0]
        simp
      obtain ⟨h1, h2⟩ := ih ((s.dropWhile (· != 10)).drop 1) (by omega)
      refine ⟨fun c hc => ?_, ?_⟩
      · rw [List.mem_append, List.mem_append] at hc
        rcases hc with (hc | hc) | hc
        · have := List.all_takeWhile (p := fun x : UInt8 => x != 10) (l := s)
          rw [List.all_eq_true] at this
          have := this c hc
          simpa using this
        · rw [List.mem_singleton] at hc; subst hc; decide
        · exact h1 c hc
      · have hl := congrArg List.length hsp
        rw [hd, List.length_append, List.length_cons] at hl
        rw [List.length_append, List.length_append]
        show _ + 1 + (Lib.replaceK [10] [32] k ((s.dropWhile (· != 10)).drop 1)).length = _
        rw [h2]
        omega
    · rw [if_neg hm] at hi
      rw [Lib.replaceK, if_pos (by rw [hi]; rfl)]
      exact ⟨fun c hc e => hm (e ▸ hc), rfl⟩
theorem replace_no (s : List UInt8) : (∀ c ∈ Lib.replaceAll s [10] [32], c ≠ 10) ∧ (Lib.replaceAll s [10] [32]).length = s.length := by
  unfold Lib.replaceAll Lib.replace
  rw [if_neg (by decide)]
  unfold Lib.replaceNum
  rw [if_pos (by omega), Lib.count_one]
  exact replaceK_no _ s (Nat.le_refl _)
/-- What stands behind the words. -/
def endK (cm : List UInt8) (k : Nat) : List UInt8 := if k = 0 then [] else if k = 1 then [32] else if k = 2 then [35] else if k = 3 then 35 :: cm else [9, 35, 32] ++ cm
theorem endK_ok (cm : List UInt8) (h : ∀ c ∈ cm, c ≠ 10) (hl : cm.length ≤ 50) (k : Nat) : finR (endK cm k) ∧ (∀ c ∈ endK cm k, c ≠ 10) ∧ (endK cm k).length ≤ 53 := by
  unfold endK
  by_cases h0 : k = 0
  · rw [if_pos h0]; exact ⟨.inl rfl, (fun c hc => by cases hc), by simp⟩
  · rw [if_neg h0]
    by_cases h1 : k = 1
    · rw [if_pos h1]; exact ⟨.inl rfl, by decide, by simp⟩
    · rw [if_neg h1]
      by_cases h2 : k = 2
      · rw [if_pos h2]; exact ⟨.inr rfl, by decide, by simp⟩
      · rw [if_neg h2]
        by_cases h3 : k = 3
        · rw [if_pos h3]
          refine ⟨.inr ?_, ?_, by simp; omega⟩
          · rw [trim_none (35 :: cm) (fun c r e => by obtain ⟨rfl, rfl⟩ := List.cons.inj e; decide)]; rfl
          · intro c hc
            rw [List.mem_cons] at hc
            rcases hc with rfl | hc
            · decide
            · exact h c hc
        · rw [if_neg h3]
          refine ⟨.inr ?_, ?_, by simp; omega⟩
          · have e := trim_blank [9] ([35, 32] ++ cm) (by decide)
            rw [show [9, 35, 32] ++ cm = [9] ++ ([35, 32] ++ cm) from rfl, e, trim_none _ (fun c r e => by
              have e' : (35 : UInt8) :: (32 :: cm) = c :: r := e
              obtain ⟨rfl, rfl⟩ := List.cons.inj e'; decide)]
            rfl
          · intro c hc
            rw [List.mem_append] at hc
            rcases hc with hc | hc
            · simp at hc; rcases hc with rfl | rfl | rfl <;> decide
            · exact h c hc
theorem blI_len (i : Nat) (l b p : List UInt8) (h : l.length ≤ 3 + i * 90) (hb : b.length ≤ 3) (hp : p.length ≤ 82) : (l ++ b ++ p).length ≤ 3 + (i + 1) * 90 := by
  rw [List.length_append, List.length_append]; omega
end Go.Proofs.YtiapkindbbbdpaaDoor
