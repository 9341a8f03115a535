/- The iterator lines. -/
import Derived.Test.YtiapkindbbbdpaaGreatDoorK10
namespace Go.Proofs.YtiapkindbbbdpaaGreatDoor
open Go.RowKit Go.Shelf
attribute [local go_sem] Oper.semAt_some

theorem index_one (l : List UInt8) (c : UInt8) : Lib.index l [c] = if c ∈ l then ((l.takeWhile (· != c)).length : Int) else -1 := by
  induction l with
  | nil => rfl
  | cons b l ih =>
    rw [Lib.index]
    by_cases h : b = c
    · subst h
      simp [List.isPrefixOf]
    · have h1 : ([c] : List UInt8).isPrefixOf (b :: l) = false := by
        simp [List.isPrefixOf]
        exact fun e => h e.symm
      have h2 : (b != c) = true := by simpa using h
      by_cases hm : c ∈ l
      · have e2 : c ∈ b :: l := List.mem_cons_of_mem _ hm
        simp only [h1, ih, if_pos hm, if_pos e2, Bool.false_eq_true, if_false, List.takeWhile_cons, h2, if_true, List.length_cons]
        rw [if_neg (by simp)]
        omega
      · have e2 : ¬ c ∈ b :: l := by rw [List.mem_cons]; rintro (e | e); exact h e.symm; exact hm e
        simp only [h1, ih, if_neg hm, if_neg e2, Bool.false_eq_true, if_false]
        rfl
theorem tw_all (l : List UInt8) (p : UInt8 → Bool) (h : ∀ x ∈ l, p x = true) : l.takeWhile p = l := by
  induction l with
  | nil => rfl
  | cons b l ih =>
    rw [List.takeWhile_cons, h b (List.mem_cons_self ..), ih (fun x hx => h x (List.mem_cons_of_mem _ hx))]
    rfl
theorem dw_all (l : List UInt8) (p : UInt8 → Bool) (h : ∀ x ∈ l, p x = true) : l.dropWhile p = [] := by
  induction l with
  | nil => rfl
  | cons b l ih =>
    rw [List.dropWhile_cons, if_pos (h b (List.mem_cons_self ..))]
    exact ih (fun x hx => h x (List.mem_cons_of_mem _ hx))
theorem drop_take_while (l : List UInt8) (p : UInt8 → Bool) : l.drop (l.takeWhile p).length = l.dropWhile p := by
  induction l with
  | nil => rfl
  | cons b l ih =>
    simp only [List.takeWhile_cons, List.dropWhile_cons]
    split
    · simpa using ih
    · rfl
theorem take_take_while (l : List UInt8) (p : UInt8 → Bool) : l.take (l.takeWhile p).length = l.takeWhile p := by
  induction l with
  | nil => rfl
  | cons b l ih =>
    simp only [List.takeWhile_cons]
    split
    · simpa using ih
    · rfl
theorem cut_one (l : List UInt8) (c : UInt8) : Lib.cut l [c] = (l.takeWhile (· != c), (l.dropWhile (· != c)).drop 1, decide (c ∈ l)) := by
  unfold Lib.cut
  rw [index_one]
  by_cases h : c ∈ l
  · rw [if_pos h, if_pos (by omega), decide_eq_true h]
    simp only [Int.toNat_natCast, List.length_cons, List.length_nil]
    rw [take_take_while, ← List.drop_drop, drop_take_while]
  · have h1 : ∀ x ∈ l, (x != c) = true := fun x hx => by simpa using (fun e => h (e ▸ hx) : x ≠ c)
    rw [if_neg h, if_neg (by omega), decide_eq_false h, tw_all l _ h1, dw_all l _ h1]
    rfl
/-- The lines of a text. -/
def linesL (l : List UInt8) : List (List UInt8) :=
  if h : l = [] then [] else l.takeWhile (· != 10) :: linesL ((l.dropWhile (· != 10)).drop 1)
termination_by l.length
decreasing_by
  have := List.length_pos_iff.2 h
  have h2 := (List.dropWhile_sublist (p := fun x => x != (10 : UInt8)) (l := l)).length_le
  rw [List.length_drop]
  omega
theorem linesL_nil : linesL [] = [] := by rw [linesL]; rfl
theorem linesL_cons (l : List UInt8) (h : l ≠ []) : linesL l = l.takeWhile (· != 10) :: linesL ((l.dropWhile (· != 10)).drop 1) := by
  rw [linesL, dif_neg h]
theorem rest_lt (l : List UInt8) (h : l ≠ []) : ((l.dropWhile (· != (10 : UInt8))).drop 1).length < l.length := by
  have := List.length_pos_iff.2 h
  have h2 := (List.dropWhile_sublist (p := fun x => x != (10 : UInt8)) (l := l)).length_le
  rw [List.length_drop]
  omega
theorem linesL_len (l : List UInt8) : (linesL l).length ≤ l.length := by
  fun_induction linesL l with
  | case1 => exact Nat.le_refl _
  | case2 l h ih =>
    have := rest_lt l h
    rw [List.length_cons]
    omega
def leftS (W : World) (b : Nat) : Nat := match W.cell? ⟨b, 0, none⟩ with | some (.string s) => s.size | _ => 0
theorem leftS_eq {W : World} {b : Nat} {t : TypeId} {s : ByteArray} (h : Boxed W b t (.string s)) : leftS W b = s.size := by unfold leftS; rw [h.cell]
/-- The library's variable that is asked for. -/
def MaxG (W : World) : Prop := ∃ m : Int, W.cell? ⟨0, 0, none⟩ = some (.int .i64 m)
set_option maxRecDepth 100000 in
set_option maxHeartbeats 1000000 in
theorem lines1_in (m : Nat) (hm : 2 ≤ m) (y Bs : Nat) (l : List UInt8) (hl : l.length ≤ 65536) (J : Nat → World → Prop) (Jx : World → Prop) (hJd : ∀ k A n, J k A → J k (A.drewN n) ∧ MaxG A) (hJs : ∀ k A v, J k A → J k (A.setCell ⟨Bs, 0, none⟩ v))
    (hY : ∀ k A, k < (linesL l).length → J k A → YieldAt Fence.wide (m - 1) Tryz.prog y #[.int .i64 ((k : Int) + 1), .string ⟨((linesL l).getD k []).toArray⟩] A fun e B => (e = .returned (.bool true) ∧ J (k + 1) B ∧ Same Bs A B) ∨ (e = .returned (.bool false) ∧ Jx B))
    (W : World) (hBx : Boxed W Bs 9 (.string ⟨l.toArray⟩)) (h0 : J 0 W) :
    CallsIn Fence.wide m Tryz.prog 64 #[.func (.yield y) #[] #[], .pointer (some ⟨Bs, 0, none⟩)] W fun e B => (∃ v, e = .returned v) ∧ (J (linesL l).length B ∨ Jx B) := by
  have hro : Fence.wide.round = none := rfl
  have h1n : 1 ≤ m := by omega
  refine callsIn_of_wp Tryz.func64 rfl trivial ?_ hro
  simp only [Tryz.ntmps64, List.size_toArray, List.length_cons, List.length_nil, Nat.reduceAdd, Nat.reduceSub, Array.replicate_succ, Array.replicate_zero, List.push_toArray, List.append_toArray, List.nil_append, List.cons_append]
  gi_wp2
  gi_loopw [3] (fun v wr => ∃ (k : Nat) (t : List UInt8), v = .int .i64 ((k : Int) + 1) ∧ k ≤ (linesL l).length ∧ Boxed wr Bs 9 (.string ⟨t.toArray⟩) ∧ t.length ≤ 65536 ∧ Hid (linesL t = (linesL l).drop k) ∧ J k wr)
    (fun _ wr => leftS wr Bs)
  case atStart => exact ⟨0, l, rfl, by omega, hBx, hl, rfl, h0⟩
  case round =>
    obtain ⟨k, t, rfl, hk, hb, ht, hL, hj⟩ := hrel
    have hcell := hb.cell
    have hfr := hb.frozen
    by_cases he : t = []
    · subst he
      rw [linesL_nil] at hL
      obtain rfl : k = (linesL l).length := by
        have := congrArg List.length hL.out
        rw [List.length_drop] at this
        simp at this
        omega
      clear hL
      gi_wp2
      go_end0
      exact ⟨⟨_, rfl⟩, .inl hj⟩
    · have hLo := hL.out
      rw [linesL_cons t he] at hLo
      have hklt : k < (linesL l).length := by
        rcases Nat.lt_or_ge k (linesL l).length with h | h
        · exact h
        · rw [List.drop_of_length_le h] at hLo
          cases hLo
      rw [List.drop_eq_getElem_cons hklt] at hLo
      have h1 := (List.cons.inj hLo).1
      have h2 := Lib.hid (List.cons.inj hLo).2
      have hgk : (linesL l).getD k [] = t.takeWhile (· != 10) := by rw [List.getD_eq_getElem?_getD, List.getElem?_eq_getElem hklt, Option.getD_some, h1]
      obtain ⟨mx, hmx⟩ := (hJd k wr 0 hj).2
      have hcut := Tryz.strings_Cut ⟨t.toArray⟩ ⟨#[10]⟩ mx wr (by rw [ba_size]; omega) hmx
      rw [show (⟨t.toArray⟩ : ByteArray).data.toList = t by simp, show (⟨#[10]⟩ : ByteArray).data.toList = [10] from rfl, cut_one] at hcut
      have hrl := rest_lt t he
      simp only at hcut
      rw [← hgk] at hcut
      obtain ⟨a1, ha1⟩ : ∃ a, Hid ((linesL l).getD k [] = a) := ⟨_, rfl⟩
      obtain ⟨a2, ha2⟩ : ∃ a, Hid ((t.dropWhile (· != 10)).drop 1 = a) := ⟨_, rfl⟩
      rw [ha1.out, ha2.out] at hcut
      rw [ha2.out] at h2 hrl
      have hYk := hY k
      rw [ha1.out] at hYk
      replace hYk := Lib.hid hYk
      replace hcut := Lib.hid hcut
      have t1 : t.isEmpty = false := by simpa using he
      clear hLo h1 hgk hY hL hmx ha1 ha2
      gi_wp2_with (refine ⟨trivial, ?_⟩; gi_at_call 65; refine (callsIn_wide.2 hcut.out).mono ?_; rintro e w1 ⟨rfl, ⟨dn, rfl⟩⟩)
      obtain ⟨fn, tmps, assign, body, hy, hRR⟩ := hYk.out (wr.drewN dn) hklt (hJd k wr dn hj).1
      rw [hy]
      gi_wp2
      refine hRR.mono ?_
      rintro e W3 (⟨rfl, hj3, hs3⟩ | ⟨rfl, hx⟩)
      · have hb3 : Boxed W3 Bs 9 (.string ⟨t.toArray⟩) := Eq.trans hs3 hb
        have hcell3 := hb3.cell
        have hfr3 := hb3.frozen
        have hlen : (linesL l).length ≤ l.length := linesL_len l
        have q1 : wrap64 ((k : Int) + 1 + 1) = ((k + 1 : Nat) : Int) + 1 := (IntWalk.wrap64_in _ ⟨by omega, by omega⟩).trans (by omega)
        clear hcell hfr hRR hs3 hj hYk hcut
        gi_wp2
        go_roundw
        case rel => exact ⟨k + 1, a2, by rw [show ((k + 1 : Nat) : Int) = (k : Int) + 1 by omega], by omega, hb3.set _, by omega, h2, hJs _ _ _ hj3⟩
        case measure =>
          rw [leftS_eq hb, leftS_eq (hb3.set _), ba_size, ba_size]
          exact hrl
      · clear hRR hj hYk hcut
        gi_wp2
        exact bodyPost_ret (v := .tuple #[]) (by simp [results, Tryz.results64]) rfl ⟨⟨_, rfl⟩, .inr hx⟩
theorem lines_hit (m Bs : Nat) (hm : 3 ≤ m) (l : List UInt8) (hl : l.length ≤ 65536) (w : World) (hb : Bs < w.heap.size) (hBx : Boxed w Bs 9 (.string ⟨l.toArray⟩)) :
    ∀ (y : Nat) (J : Nat → World → Prop) (Jx : World → Prop) (W : World), Below w.heap.size w W → (∀ k A n, J k A → J k (A.drewN n) ∧ MaxG A) → (∀ k A v, J k A → J k (A.setCell ⟨Bs, 0, none⟩ v)) →
      (∀ k A, k < (linesL l).length → J k A → YieldAt Fence.wide (m - 1 - 1) Tryz.prog y #[.int .i64 ((k : Int) + 1), .string ⟨((linesL l).getD k []).toArray⟩] A fun e B => (e = .returned (.bool true) ∧ J (k + 1) B ∧ Same Bs A B) ∨ (e = .returned (.bool false) ∧ Jx B)) → J 0 W →
      CallsIn Fence.wide (m - 1) Tryz.prog 64 (#[.func (.yield y) #[] #[]] ++ #[.pointer (some ⟨Bs, 0, none⟩)]) W fun e B => (∃ v, e = .returned v) ∧ (J (linesL l).length B ∨ Jx B) :=
  fun y J Jx W hW hJd hJs hY h0 => lines1_in (m - 1) (by omega) y Bs l hl J Jx hJd hJs hY W ((hW.block Bs hb).trans hBx) h0
theorem lines_in (m : Nat) (s : ByteArray) (w : World) :
    CallsIn Fence.wide m Tryz.prog 43 #[.string s] w fun e W' => e = .returned (.func (.func 64) #[] #[.pointer (some ⟨w.heap.size, 0, none⟩)]) ∧ W' = w.alloc (.cells #[.string s] 9) := by
  have hro : Fence.wide.round = none := rfl
  refine callsIn_of_wp Tryz.func43 rfl trivial ?_ hro
  simp only [Tryz.ntmps43, List.size_toArray, List.length_cons, List.length_nil, Nat.reduceAdd, Nat.reduceSub, Array.replicate_succ, Array.replicate_zero, List.push_toArray, List.append_toArray, List.nil_append, List.cons_append]
  gi_wp2
  go_ret
  exact ⟨rfl, rfl⟩
end Go.Proofs.YtiapkindbbbdpaaGreatDoor
