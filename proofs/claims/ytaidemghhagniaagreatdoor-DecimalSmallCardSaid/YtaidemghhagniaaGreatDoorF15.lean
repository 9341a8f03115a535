/- Plain facts: positions of a decimal's text. -/
import Derived.Test.YtaidemghhagniaaGreatDoorF14
import Derived.Lib.Hide
namespace Go.Proofs.YtaidemghhagniaaGreatDoor
open Go Go.RowKit
def bt (s : ByteArray) (i : Nat) : UInt8 := s.data.toList.getD i 0
theorem bt_eq (s : ByteArray) (i : Nat) (h : i < s.size) : ((s[i]'h).toNat : Int) = ((bt s i).toNat : Int) := by
  have : i < s.data.toList.length := by simpa using h
  unfold bt
  rw [List.getD_eq_getElem?_getD, List.getElem?_eq_getElem this]
  rfl
theorem bt_u (s : ByteArray) (i : Nat) (h : i < s.size) : ∃ c : UInt8, Hid (bt s i = c) ∧ (((s[i]'h).toNat : Int) = (c.toNat : Int)) := ⟨_, Lib.hid rfl, bt_eq s i h⟩
theorem ne_bt (c d : UInt8) (n : Int) (hn : (d.toNat : Int) = n) (h : c ≠ d) : ((c.toNat : Int) == n) = false := by
  subst hn
  simp only [beq_eq_false_iff_ne, ne_eq]
  intro e
  exact h (UInt8.toNat_inj.1 (by omega))
/-- The scanning from a up to i. -/
def mat (s : ByteArray) (a i : Nat) : MS := mrun ((s.data.toList.take i).drop a)
theorem mat_step (s : ByteArray) (a i : Nat) (ha : a ≤ i) (hi : i < s.size) : mat s a (i + 1) = mstep (mat s a i) (bt s i) := by
  have hl : i < s.data.toList.length := by simpa using hi
  unfold mat
  rw [List.take_add_one, List.drop_append_of_le_length (by rw [List.length_take]; omega), List.getElem?_eq_getElem hl]
  show mrun (_ ++ [s.data.toList[i]]) = _
  rw [mrun_snoc]
  unfold bt
  rw [List.getD_eq_getElem?_getD, List.getElem?_eq_getElem hl]; rfl
theorem mat_at (s : ByteArray) (a : Nat) : mat s a a = ms0 := by
  unfold mat
  rw [List.drop_of_length_le (by rw [List.length_take]; omega)]; rfl
/-- The bytes from a to e are a decimal's digits and at most one point. -/
structure Scan (s : ByteArray) (a e : Nat) : Prop where
  sz : s.size ≤ 2000
  lt : a < e
  le : e ≤ s.size
  ch : ∀ i, a ≤ i → i < e → isD (bt s i) = true ∨ (bt s i = 46 ∧ (mat s a i).dot = false)
  seen : (mat s a e).seen = true
theorem mat_bd {s : ByteArray} {a e : Nat} (H : Scan s a e) : ∀ k, a + k ≤ e → (mat s a (a + k)).nd ≤ k ∧ (mat s a (a + k)).mant < 10 ^ min (mat s a (a + k)).nd 19 ∧ -(k : Int) ≤ (mat s a (a + k)).dp ∧ (mat s a (a + k)).dp ≤ k := by
  have hle := H.le
  intro k
  induction k with
  | zero => intro _; rw [Nat.add_zero, mat_at]; exact ⟨Nat.le_refl _, by decide, by decide, by decide⟩
  | succ k ih =>
    intro hk
    obtain ⟨a1, b, c, d⟩ := ih (by omega)
    rw [show a + (k + 1) = (a + k) + 1 by omega, mat_step s a (a + k) (by omega) (by omega)]
    have hp := H.ch (a + k) (by omega) (by omega)
    generalize bt s (a + k) = x at *
    generalize mat s a (a + k) = st at *
    unfold mstep
    by_cases g : x = 46
    · rw [if_pos g]; exact ⟨by show st.nd ≤ k + 1; omega, b, by show -((k + 1 : Nat) : Int) ≤ (st.nd : Int); omega, by show (st.nd : Int) ≤ _; omega⟩
    · rw [if_neg g]
      have hd : isD x = true := by rcases hp with h | h; exact h; exact absurd h.1 g
      unfold isD at hd
      simp only [Bool.and_eq_true, decide_eq_true_eq] at hd
      split
      · exact ⟨by show st.nd ≤ k + 1; omega, b, by show -((k + 1 : Nat) : Int) ≤ st.dp - 1; omega, by show st.dp - 1 ≤ _; omega⟩
      · split
        · rename_i g3
          refine ⟨by show st.nd + 1 ≤ k + 1; omega, ?_, by show -((k + 1 : Nat) : Int) ≤ st.dp; omega, by show st.dp ≤ _; omega⟩
          show st.mant * 10 + (x.toNat - 48) < 10 ^ min (st.nd + 1) 19
          rw [Nat.min_eq_left (by omega)] at b ⊢
          rw [Nat.pow_succ]; omega
        · refine ⟨by show st.nd + 1 ≤ k + 1; omega, ?_, by show -((k + 1 : Nat) : Int) ≤ st.dp; omega, by show st.dp ≤ _; omega⟩
          show st.mant < 10 ^ min (st.nd + 1) 19
          rw [Nat.min_eq_right (by omega)] at b ⊢
          exact b
/-- The digits from q up to i as a number. -/
def est (s : ByteArray) (q i : Nat) : Nat := ((s.data.toList.take i).drop q).foldl (fun e c => e * 10 + (c.toNat - 48)) 0
theorem est_step (s : ByteArray) (a i : Nat) (ha : a ≤ i) (hi : i < s.size) : est s a (i + 1) = est s a i * 10 + ((bt s i).toNat - 48) := by
  have hl : i < s.data.toList.length := by simpa using hi
  unfold est
  rw [List.take_add_one, List.drop_append_of_le_length (by rw [List.length_take]; omega), List.getElem?_eq_getElem hl]
  show (_ ++ [s.data.toList[i]]).foldl _ _ = _
  rw [List.foldl_append]
  unfold bt
  rw [List.getD_eq_getElem?_getD, List.getElem?_eq_getElem hl]; rfl
theorem est_at (s : ByteArray) (a : Nat) : est s a a = 0 := by
  unfold est
  rw [List.drop_of_length_le (by rw [List.length_take]; omega)]; rfl
theorem isD_iff (c : UInt8) : isD c = true ↔ 48 ≤ c.toNat ∧ c.toNat ≤ 57 := by unfold isD; simp only [Bool.and_eq_true, decide_eq_true_eq]
/-- What is behind the digits: nothing, or an exponent. -/
inductive Tail (s : ByteArray) (e : Nat) : Int → Prop
  | none (h : e = s.size) : Tail s e 0
  | exp (b : Nat) (ne : Bool) (hc : bt s e = 101 ∨ bt s e = 69) (hb : (b = 0 ∧ ne = false ∧ bt s (e + 1) ≠ 43 ∧ bt s (e + 1) ≠ 45) ∨ (b = 1 ∧ ((ne = false ∧ bt s (e + 1) = 43) ∨ (ne = true ∧ bt s (e + 1) = 45))))
      (hq : e + 1 + b < s.size) (h5 : s.size ≤ e + 1 + b + 5) (hd : ∀ i, e + 1 + b ≤ i → i < s.size → isD (bt s i) = true) : Tail s e (if ne then -(est s (e + 1 + b) s.size : Int) else (est s (e + 1 + b) s.size : Int))
theorem est_bd (s : ByteArray) (q : Nat) (hd : ∀ i, q ≤ i → i < s.size → isD (bt s i) = true) : ∀ k, q + k ≤ s.size → est s q (q + k) < 10 ^ k := by
  intro k
  induction k with
  | zero => intro _; rw [Nat.add_zero, est_at]; decide
  | succ k ih =>
    intro hk
    have a := ih (by omega)
    have := (isD_iff _).1 (hd (q + k) (by omega) (by omega))
    rw [show q + (k + 1) = (q + k) + 1 by omega, est_step s q (q + k) (by omega) (by omega), Nat.pow_succ]
    omega
theorem low_x (c : UInt8) (h : c ≠ 88 ∧ c ≠ 120) : (((c.toNat ||| 32 : Nat) : Int) == 120) = false := by
  have : ∀ n : Fin 256, n.val ≠ 88 → n.val ≠ 120 → n.val ||| 32 ≠ 120 := by decide +kernel
  have := this ⟨c.toNat, c.toNat_lt⟩ (fun e => h.1 (UInt8.toNat_inj.1 e)) (fun e => h.2 (UInt8.toNat_inj.1 e))
  simp only [beq_eq_false_iff_ne, ne_eq]; simp at this; omega
end Go.Proofs.YtaidemghhagniaaGreatDoor
