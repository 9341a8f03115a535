/- Plain facts on the order of strings by bytes and of their code points: no program in sight. -/
import Derived.Test.YtkabkkgaalimmaaV28
import Derived.WalkLawsBesides
namespace Go.Proofs.Ytkabkkgaalimmaa

theorem bl_step (u v : Int) (h0 : 0 ≤ u) (h1 : u < 256) (g0 : 0 ≤ v) (g1 : v < 256) (A B : List UInt8) :
    Op.bytesLess (b8 u :: A) (b8 v :: B) = (decide (u < v) || (decide (u = v) && Op.bytesLess A B)) := by
  rw [Op.bytesLess]
  have e1 : (b8 u < b8 v) ↔ u < v := by rw [UInt8.lt_iff_toNat_lt]; have := b8_nat u h0 h1; have := b8_nat v g0 g1; omega
  have e2 : (b8 u == b8 v) = decide (u = v) := by
    rw [Bool.eq_iff_iff, beq_iff_eq, decide_eq_true_iff]
    refine ⟨fun e => ?_, fun e => by rw [e]⟩
    have a := b8_nat u h0 h1
    have b := b8_nat v g0 g1
    rw [e] at a
    omega
  rw [e2]
  congr 1
  simp [e1]
theorem bl_app (C A B : List UInt8) : Op.bytesLess (C ++ A) (C ++ B) = Op.bytesLess A B := by
  induction C with
  | nil => rfl
  | cons c C ih =>
    show Op.bytesLess (c :: (C ++ A)) (c :: (C ++ B)) = _
    rw [Op.bytesLess, ih]
    simp
set_option maxRecDepth 10000 in
theorem bl_lt (x y : Int) (hx : isPt x) (hy : isPt y) (h : x < y) (A B : List UInt8) : Op.bytesLess (frm x ++ A) (frm y ++ B) = true := by
  obtain ⟨x0, x1, _⟩ := hx
  obtain ⟨y0, y1, _⟩ := hy
  have fx : frm x = if x < 128 then [b8 x] else if x < 2048 then [b8 (192 + x / 64), b8 (128 + x % 64)] else if x < 65536 then [b8 (224 + x / 4096), b8 (128 + x / 64 % 64), b8 (128 + x % 64)] else [b8 (240 + x / 262144), b8 (128 + x / 4096 % 64), b8 (128 + x / 64 % 64), b8 (128 + x % 64)] := rfl
  have fy : frm y = if y < 128 then [b8 y] else if y < 2048 then [b8 (192 + y / 64), b8 (128 + y % 64)] else if y < 65536 then [b8 (224 + y / 4096), b8 (128 + y / 64 % 64), b8 (128 + y % 64)] else [b8 (240 + y / 262144), b8 (128 + y / 4096 % 64), b8 (128 + y / 64 % 64), b8 (128 + y % 64)] := rfl
  rw [fx, fy]
  clear fx fy
  by_cases cx1 : x < 128
  · rw [if_pos cx1]
    by_cases cy1 : y < 128
    · rw [if_pos cy1]
      show Op.bytesLess (_ :: _) (_ :: _) = true
      rw [bl_step _ _ (by omega) (by omega) (by omega) (by omega), decide_eq_true (by omega)]; rfl
    · rw [if_neg cy1]
      by_cases cy2 : y < 2048
      · rw [if_pos cy2]
        show Op.bytesLess (_ :: _) (_ :: _) = true
        rw [bl_step _ _ (by omega) (by omega) (by omega) (by omega), decide_eq_true (by omega)]; rfl
      · rw [if_neg cy2]
        by_cases cy3 : y < 65536
        · rw [if_pos cy3]
          show Op.bytesLess (_ :: _) (_ :: _) = true
          rw [bl_step _ _ (by omega) (by omega) (by omega) (by omega), decide_eq_true (by omega)]; rfl
        · rw [if_neg cy3]
          show Op.bytesLess (_ :: _) (_ :: _) = true
          rw [bl_step _ _ (by omega) (by omega) (by omega) (by omega), decide_eq_true (by omega)]; rfl
  · rw [if_neg cx1, if_neg (show ¬ y < 128 by omega)]
    by_cases cx2 : x < 2048
    · rw [if_pos cx2]
      by_cases cy2 : y < 2048
      · rw [if_pos cy2]
        show Op.bytesLess (_ :: _ :: _) (_ :: _ :: _) = true
        rw [bl_step _ _ (by omega) (by omega) (by omega) (by omega), bl_step _ _ (by omega) (by omega) (by omega) (by omega)]
        cases Op.bytesLess ([] ++ A) ([] ++ B) <;> simp <;> omega
      · rw [if_neg cy2]
        by_cases cy3 : y < 65536
        · rw [if_pos cy3]
          show Op.bytesLess (_ :: _) (_ :: _) = true
          rw [bl_step _ _ (by omega) (by omega) (by omega) (by omega), decide_eq_true (by omega)]; rfl
        · rw [if_neg cy3]
          show Op.bytesLess (_ :: _) (_ :: _) = true
          rw [bl_step _ _ (by omega) (by omega) (by omega) (by omega), decide_eq_true (by omega)]; rfl
    · rw [if_neg cx2, if_neg (show ¬ y < 2048 by omega)]
      by_cases cx3 : x < 65536
      · rw [if_pos cx3]
        by_cases cy3 : y < 65536
        · rw [if_pos cy3]
          show Op.bytesLess (_ :: _ :: _ :: _) (_ :: _ :: _ :: _) = true
          rw [bl_step _ _ (by omega) (by omega) (by omega) (by omega), bl_step _ _ (by omega) (by omega) (by omega) (by omega), bl_step _ _ (by omega) (by omega) (by omega) (by omega)]
          cases Op.bytesLess ([] ++ A) ([] ++ B) <;> simp <;> omega
        · rw [if_neg cy3]
          show Op.bytesLess (_ :: _) (_ :: _) = true
          rw [bl_step _ _ (by omega) (by omega) (by omega) (by omega), decide_eq_true (by omega)]; rfl
      · rw [if_neg cx3, if_neg (show ¬ y < 65536 by omega)]
        show Op.bytesLess (_ :: _ :: _ :: _ :: _) (_ :: _ :: _ :: _ :: _) = true
        rw [bl_step _ _ (by omega) (by omega) (by omega) (by omega), bl_step _ _ (by omega) (by omega) (by omega) (by omega), bl_step _ _ (by omega) (by omega) (by omega) (by omega), bl_step _ _ (by omega) (by omega) (by omega) (by omega)]
        cases Op.bytesLess ([] ++ A) ([] ++ B) <;> simp <;> omega
theorem bl_asym : ∀ (A B : List UInt8), Op.bytesLess A B = true → Op.bytesLess B A = false := by
  intro A
  induction A with
  | nil => intro B h; cases B <;> simp [Op.bytesLess] at h ⊢
  | cons a A ih =>
    intro B h
    cases B with
    | nil => simp [Op.bytesLess] at h
    | cons b B =>
      rw [Op.bytesLess] at h ⊢
      simp only [Bool.or_eq_true, Bool.and_eq_true, decide_eq_true_iff, beq_iff_eq, UInt8.lt_iff_toNat_lt] at h
      simp only [Bool.or_eq_false_iff, Bool.and_eq_false_iff, decide_eq_false_iff_not, beq_eq_false_iff_ne, UInt8.lt_iff_toNat_lt]
      rcases h with h | ⟨rfl, h⟩
      · exact ⟨by omega, .inl (fun e => by subst e; omega)⟩
      · exact ⟨by omega, .inr (ih B h)⟩
/-- The order of lists. -/
def lessL : List Int → List Int → Bool
  | _, [] => false
  | [], _ :: _ => true
  | x :: p, y :: q => decide (x < y) || (decide (x = y) && lessL p q)
theorem bl_frms : ∀ (p q : List Int), (∀ x ∈ p, isPt x) → (∀ x ∈ q, isPt x) → Op.bytesLess (frms p) (frms q) = lessL p q := by
  intro p
  induction p with
  | nil =>
    intro q _ _
    cases q with
    | nil => rfl
    | cons y q =>
      rw [frms_cons]
      obtain ⟨b, t, e⟩ : ∃ b t, frm y = b :: t := by
        have := frm_pos y
        cases hf : frm y with
        | nil => rw [hf] at this; simp at this
        | cons b t => exact ⟨b, t, rfl⟩
      rw [e]; rfl
  | cons x p ih =>
    intro q hp hq
    cases q with
    | nil =>
      rw [frms_cons]
      have : ∀ A : List UInt8, Op.bytesLess A [] = false := fun A => by cases A <;> rfl
      exact this _
    | cons y q =>
      have hx := hp x (by simp)
      have hy := hq y (by simp)
      rw [frms_cons, frms_cons, lessL]
      rcases (show x < y ∨ x = y ∨ y < x by omega) with h | h | h
      · rw [bl_lt x y hx hy h, decide_eq_true h]; rfl
      · subst h
        rw [bl_app, ih q (fun z hz => hp z (by simp [hz])) (fun z hz => hq z (by simp [hz]))]
        simp
      · rw [bl_asym _ _ (bl_lt y x hy hx h _ _), decide_eq_false (by omega), decide_eq_false (by omega)]; rfl
theorem lessL_drop : ∀ (k : Nat) (p q : List Int), k ≤ p.length → k ≤ q.length → p.take k = q.take k → lessL p q = lessL (p.drop k) (q.drop k) := by
  intro k
  induction k with
  | zero => intro p q _ _ _; rfl
  | succ k ih =>
    intro p q h1 h2 h
    cases p with
    | nil => simp at h1
    | cons x p =>
      cases q with
      | nil => simp at h2
      | cons y q =>
        simp only [List.take_succ_cons, List.cons.injEq] at h
        obtain ⟨rfl, h⟩ := h
        rw [lessL, List.drop_succ_cons, List.drop_succ_cons, ← ih p q (by simpa using h1) (by simpa using h2) h]
        simp
theorem lessL_end1 (p q : List Int) (k : Nat) (h : p.take k = q.take k) (h1 : k = p.length) (h2 : k ≤ q.length) : lessL p q = decide (k < q.length) := by
  rw [lessL_drop k p q (by omega) h2 h, h1, List.drop_length]
  rcases hd : q.drop p.length with _ | ⟨y, t⟩
  · have := congrArg List.length hd
    rw [List.length_drop] at this
    rw [decide_eq_false (by simp at this; omega)]; rfl
  · have := congrArg List.length hd
    rw [List.length_drop] at this
    rw [decide_eq_true (by simp at this; omega)]; rfl
theorem lessL_end2 (p q : List Int) (k : Nat) (h : p.take k = q.take k) (h1 : k = q.length) (h2 : k ≤ p.length) : lessL p q = false := by
  rw [lessL_drop k p q h2 (by omega) h, h1, List.drop_length]
  cases p.drop q.length <;> rfl
theorem lessL_mid (p q : List Int) (k : Nat) (h : p.take k = q.take k) (h1 : k < p.length) (h2 : k < q.length) (hne : p[k] ≠ q[k]) : lessL p q = decide (p[k] < q[k]) := by
  rw [lessL_drop k p q (by omega) (by omega) h, List.drop_eq_getElem_cons h1, List.drop_eq_getElem_cons h2, lessL, decide_eq_false hne]
  simp
theorem frms_inj (p q : List Int) (hp : ∀ x ∈ p, isPt x) (hq : ∀ x ∈ q, isPt x) (lp : p.length ≤ 200) (lq : q.length ≤ 200) (h : frms p = frms q) : p = q := by
  have a := (ptR_of (strOf p) p hp (strOf_list p) (by rw [strOf_size]; have := frms_hi p; omega)).1
  have b := (ptR_of (strOf q) q hq (strOf_list q) (by rw [strOf_size]; have := frms_hi q; omega)).1
  rw [← a, ← b]
  unfold strOf
  rw [h]
theorem str_eq (p q : List Int) (hp : ∀ x ∈ p, isPt x) (hq : ∀ x ∈ q, isPt x) (lp : p.length ≤ 200) (lq : q.length ≤ 200) : ((strOf p).toList == (strOf q).toList) = decide (p = q) := by
  rw [toList_data, toList_data, strOf_list, strOf_list, Bool.eq_iff_iff, beq_iff_eq, decide_eq_true_iff]
  exact ⟨frms_inj p q hp hq lp lq, fun h => by rw [h]⟩
theorem str_less (p q : List Int) (hp : ∀ x ∈ p, isPt x) (hq : ∀ x ∈ q, isPt x) : Op.bytesLess (strOf p).toList (strOf q).toList = lessL p q := by
  rw [toList_data, toList_data, strOf_list, strOf_list]
  exact bl_frms p q hp hq
end Go.Proofs.Ytkabkkgaalimmaa
