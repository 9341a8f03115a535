/- Plain facts on strings that are cut: no program in sight. -/
import Derived.Test.YtkabkkgaalimmaaUP2
namespace Go.Proofs.Ytkabkkgaalimmaa

theorem dec_prefix (y : Int) (hy : isPt y) (t r : List UInt8) (h : frm y = t ++ r) (ht : t ≠ []) (hr : r ≠ []) : dec t = (0, 0, 10) := by
  have hl := len_pos ht
  have hl2 := len_pos hr
  have hd := dec_frm y hy []
  rw [List.append_nil, h] at hd
  have hne : t ++ r ≠ [] := fun e => ht (List.append_eq_nil_iff.1 e).1
  have h0 : gi (t ++ r) 0 = gi t 0 := gi_app _ _ _ (by omega)
  by_cases hn : hdn (gi t 0) = 0
  · rw [dec_form _ hne (by rw [h0, hn])] at hd; simp at hd
  · rw [dec_cons _ hne (hdn (gi t 0)) (by rw [h0]) hn] at hd
    obtain ⟨q1, q2, q3⟩ := ok_all (t ++ r) (hdn (gi t 0)) _ 1 _ _ _ rfl (by omega) hd
    rw [List.length_append] at q1
    rw [dec_cons t ht _ rfl hn]
    exact decl_pre t _ (by omega) _ 1 _ rfl hl (fun j g1 g2 => by rw [← bad_app t r j g2]; exact q3 j g1 (by omega))
theorem dec_bad (t : List UInt8) (ht : t ≠ []) (hd : dec t = (0, 0, 10)) (b : UInt8) (hb : (b.toNat : Int) < 128 ∨ 192 ≤ (b.toNat : Int)) : dec (t ++ [b]) = (0, 0, 11) := by
  obtain ⟨h1, h2⟩ := short_of t ht hd
  have hl := len_pos ht
  have hne : t ++ [b] ≠ [] := by simp
  have h0 : gi (t ++ [b]) 0 = gi t 0 := gi_app _ _ _ (by omega)
  have hbad : bad1 (t ++ [b]) t.length = true := by
    unfold bad1
    rw [gi_last]
    rcases hb with hb | hb
    · rw [decide_eq_true hb]; simp
    · rw [decide_eq_true (show 192 ≤ (b.toNat : Int) from hb)]; simp
  have hn : hdn (gi t 0) ≠ 0 := by omega
  rw [dec_cons _ hne (hdn (gi t 0)) (by rw [h0]) hn]
  rcases err_all (t ++ [b]) (hdn (gi t 0)) _ 1 (hdx (gi (t ++ [b]) 0)) rfl (by simp) with ⟨y, e⟩ | e | ⟨_, _, e⟩
  · obtain ⟨_, _, q3⟩ := ok_all (t ++ [b]) (hdn (gi t 0)) _ 1 _ _ _ rfl (by omega) e
    have := q3 t.length hl h1
    rw [hbad] at this; cases this
  · exact e
  · have := e t.length hl (by simp)
    rw [hbad] at this; cases this
/-- A valid string that is cut anywhere. -/
theorem short_parts (L : List Int) (hL : ∀ x ∈ L, isPt x) (k : Nat) (hk : k ≤ (frms L).length) : ∃ (M : List Int) (t : List UInt8), (∀ x ∈ M, isPt x) ∧ (frms L).take k = frms M ++ t ∧ cutk k L 0 = (frms M).length ∧ (frms M).length + t.length = k ∧
    (t ≠ [] → dec t = (0, 0, 10) ∧ ∀ b : UInt8, (b.toNat : Int) < 128 ∨ 192 ≤ (b.toNat : Int) → dec (t ++ [b]) = (0, 0, 11)) := by
  obtain ⟨M, N, a, b, c, d⟩ := cutk_split k L 0
  have hM : (frms M).length ≤ k := by have := c (by omega); omega
  refine ⟨M, (frms N).take (k - (frms M).length), fun x hx => hL x (by rw [a]; simp [hx]), ?_, by rw [b, Nat.zero_add], ?_, ?_⟩
  · rw [a, frms_app, List.take_append]
    rw [List.take_of_length_le hM]
  · rw [List.length_take]
    rw [a, frms_app, List.length_append] at hk
    omega
  · intro ht
    cases N with
    | nil => simp [frms] at ht
    | cons y N =>
      have h1 := d y N rfl
      have hy : isPt y := hL y (by rw [a]; simp)
      have hlt : k - (frms M).length < (frm y).length := by omega
      have e1 : (frms (y :: N)).take (k - (frms M).length) = (frm y).take (k - (frms M).length) := by
        rw [frms_cons, List.take_append_of_le_length (by omega)]
      rw [e1] at ht ⊢
      have hd := dec_prefix y hy _ _ (List.take_append_drop (k - (frms M).length) (frm y)).symm ht (fun e => by
        have := congrArg List.length e
        rw [List.length_drop] at this
        simp at this
        omega)
      exact ⟨hd, fun b hb => dec_bad _ ht hd b hb⟩
end Go.Proofs.Ytkabkkgaalimmaa
