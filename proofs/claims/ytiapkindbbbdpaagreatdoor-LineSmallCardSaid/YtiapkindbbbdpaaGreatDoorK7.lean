/- The contracts of escape.ReadQuote and of line.next over the translation. -/
import Derived.Test.YtiapkindbbbdpaaGreatDoorK6
import Derived.Deep.CutRange
import Derived.Deep.DeepCutAuto
namespace Go.Proofs.YtiapkindbbbdpaaGreatDoor
open Go.RowKit

theorem ex_drop (s : ByteArray) (i : Nat) : (s.extract i s.size).data.toList = s.data.toList.drop i := by
  rw [ByteArray.data_extract, Array.toList_extract, List.extract_eq_take_drop, List.take_of_length_le]
  rw [List.length_drop, Array.length_toList]
  exact Nat.le_refl _
theorem ex_take (s : ByteArray) (i : Nat) : (s.extract 0 i).data.toList = s.data.toList.take i := by
  simp
theorem rdq_le (l : List UInt8) : (rdq l).1 = 0 → (rdq l).2.2 < l.length ∧ (rdq l).2.1.length ≤ (rdq l).2.2 := by
  fun_induction rdq l with
  | case1 => intro h; simp at h
  | case2 => intro h; simp at h
  | case3 h1 => intro _; simp
  | case4 c h1 h2 => intro h; simp at h
  | case5 x t => intro h; simp at h
  | case6 x t h1 => intro _; simp
  | case7 x t h1 h2 h3 => intro h; simp at h
  | case8 x t h3 h4 h5 ih =>
    intro h
    unfold comb at h ⊢
    by_cases g : (rdq t).1 = 0
    · have := ih g
      have hel : (esc x).length ≤ 1 := by unfold esc; (repeat' split) <;> simp
      simp [g]
      omega
    · simp [g] at h
  | case9 c x t h1 h2 h3 ih =>
    intro h
    unfold comb at h ⊢
    by_cases g : (rdq (x :: t)).1 = 0
    · have := ih g
      simp at this
      simp [g]
      omega
    · simp [g] at h
/-- ReadQuote at a quote: the error, the text, the offset behind. -/
def quF (l : List UInt8) : Int × List UInt8 × Nat := if (comb [] 0 (rdq (l.drop 1))).1 = 0 then (0, (comb [] 0 (rdq (l.drop 1))).2.1, (comb [] 0 (rdq (l.drop 1))).2.2 + 2) else ((comb [] 0 (rdq (l.drop 1))).1, [], 0)
theorem readq_to (s : ByteArray) (hs : s.size < 900000) (e : Int) (t : List UInt8) (n : Nat) (h : comb [] 0 (rdq s.data.toList) = (e, t, n)) (w : World) :
    Calls Tryz.prog 77 #[.string s, .int .i64 3, .bool true] w fun x w' => x = .returned (.tuple #[.string ⟨t.toArray⟩, .int .i64 n, .int .i64 e]) ∧ Below w.heap.size w w' := by
  have := readq_any s hs w
  rw [h] at this
  exact this
set_option maxRecDepth 100000 in
set_option maxHeartbeats 1000000 in
theorem quote_any (s : ByteArray) (hs : s.size ≤ 65536) (h0 : 0 < s.size) (hq : s.data.toList.getD 0 0 = 34) (w : World) : Calls Tryz.prog 60 #[.string s, .int .i64 0] w fun e w' => e = .returned (.tuple #[.string ⟨(quF s.data.toList).2.1.toArray⟩, .int .i64 (quF s.data.toList).2.2, .int .i64 (quF s.data.toList).1]) ∧ Below w.heap.size w w' := by
  obtain ⟨e, t, n, hr⟩ : ∃ e t n, Hid (comb [] 0 (rdq (s.data.toList.drop 1)) = (e, t, n)) := ⟨_, _, _, rfl⟩
  have t1 : decide (65536 < (s.size : Int)) = false := decide_eq_false (by omega)
  have t2 : decide ((s.size : Int) < 0) = false := decide_eq_false (by omega)
  have t3 : ((0 : Int) == (s.size : Int)) = false := by simp; omega
  have t4 : decide (1 ≤ s.size) = true := decide_eq_true (by omega)
  have hB := byt_eq s 0 h0
  rw [show byt s 0 = 34 by unfold byt; rw [hq]; rfl] at hB
  have hrd : ∀ W, Calls Tryz.prog 77 #[.string (s.extract 1 s.size), .int .i64 3, .bool true] W fun x w' => x = .returned (.tuple #[.string ⟨t.toArray⟩, .int .i64 n, .int .i64 e]) ∧ Below W.heap.size W w' := fun W => readq_to _ (by rw [ByteArray.size_extract]; omega) e t n (by rw [ex_drop]; exact hr.out) W
  replace hrd := Lib.hid hrd
  have hF : quF s.data.toList = if e = 0 then (0, t, n + 2) else (e, [], 0) := by unfold quF; rw [hr.out]
  rw [hF]
  by_cases he : e = 0
  · subst he
    rw [if_pos rfl]
    have hn : n < s.size := by
      have h1 := hr.out
      have h2 := rdq_le (s.data.toList.drop 1)
      unfold comb at h1
      by_cases g : (rdq (s.data.toList.drop 1)).1 = 0
      · rw [if_pos g] at h1
        have h3 := (h2 g).1
        simp only [Prod.mk.injEq] at h1
        rw [List.length_drop, show s.data.toList.length = s.size by simp] at h3
        omega
      · rw [if_neg g] at h1
        simp only [Prod.mk.injEq] at h1
        omega
    have q1 : wrap64 (1 + (n : Int)) = 1 + n := IntWalk.wrap64_in _ ⟨by omega, by omega⟩
    have q2 : wrap64 (1 + (n : Int) + 1) = 1 + n + 1 := IntWalk.wrap64_in _ ⟨by omega, by omega⟩
    clear hF hr
    go_enter Tryz.func60, Tryz.ntmps60
    go_wp2_with fail
    refine (hrd.out _).mono ?_; rintro x w1 ⟨rfl, hb⟩
    go_wp2_with fail
    go_ret3
    refine ⟨?_, hb⟩
    show Ending.returned (.tuple #[.string ⟨t.toArray⟩, .int .i64 (1 + (n : Int) + 1), .int .i64 0]) = _
    rw [show 1 + (n : Int) + 1 = ((n + 2 : Nat) : Int) by omega]
  · rw [if_neg he]
    have t5 : (e != 0) = true := by simpa using he
    clear hF hr
    go_enter Tryz.func60, Tryz.ntmps60
    go_wp2_with fail
    refine (hrd.out _).mono ?_; rintro x w1 ⟨rfl, hb⟩
    go_wp2_with fail
    go_ret3
    exact ⟨rfl, hb⟩
/-- A byte that ends a word. -/
def endc (c : UInt8) : Bool := c == 32 || c == 9 || c == 35
def endsF (l : List UInt8) (i : Nat) : Bool := decide (l.length ≤ i) || endc (l.getD i 0)
theorem endc_byt (s : ByteArray) (i : Nat) : endc (s.data.toList.getD i 0) = (decide (byt s i = 32) || decide (byt s i = 9) || decide (byt s i = 35)) := by
  unfold endc byt
  generalize s.data.toList.getD i 0 = c
  have h2 : ∀ k : UInt8, (c == k) = decide ((c.toNat : Int) = (k.toNat : Int)) := fun k => by
    rw [Bool.eq_iff_iff]
    simp [← UInt8.toNat_inj]
    omega
  rw [h2, h2, h2]
  rfl
set_option maxHeartbeats 1000000 in
theorem ends_any (s : ByteArray) (i b : Nat) (w : World) (hc : w.cell? ⟨b, 0, none⟩ = some (.string s)) : Calls Tryz.prog 59 #[.int .i64 i, .pointer (some ⟨b, 0, none⟩)] w fun e w' => e = .returned (.bool (endsF s.data.toList i)) ∧ w = w' := by
  obtain ⟨R, hR⟩ : ∃ R, Hid (endsF s.data.toList i = R) := ⟨_, rfl⟩
  rw [hR.out]
  have hz : s.data.toList.length = s.size := by simp
  by_cases hi : s.size ≤ i
  · have t1 : decide ((s.size : Int) ≤ i) = true := decide_eq_true (by omega)
    have e := hR.out
    rw [endsF, hz, decide_eq_true hi, Bool.true_or] at e
    subst e
    go_enter Tryz.func59, Tryz.ntmps59
    go_wp2_with fail
    go_ret
    exact ⟨rfl, rfl⟩
  · have t1 : decide ((s.size : Int) ≤ i) = false := decide_eq_false (by omega)
    have hB := byt_eq s i (by omega)
    have e := hR.out
    rw [endsF, hz, decide_eq_false hi, Bool.false_or, endc_byt] at e
    generalize byt s i = c at hB e
    have hlt : i < s.size := by omega
    by_cases g : c = 32 ∨ c = 9 ∨ c = 35
    · rcases g with rfl | rfl | rfl
      · subst e
        go_enter Tryz.func59, Tryz.ntmps59
        go_wp2_with fail
        go_ret
        exact ⟨rfl, rfl⟩
      · subst e
        go_enter Tryz.func59, Tryz.ntmps59
        go_wp2_with fail
        go_ret
        exact ⟨rfl, rfl⟩
      · subst e
        go_enter Tryz.func59, Tryz.ntmps59
        go_wp2_with fail
        go_ret
        exact ⟨rfl, rfl⟩
    · have s1 : (c == 32) = false := by simp; omega
      have s2 : (c == 9) = false := by simp; omega
      have s3 : (c == 35) = false := by simp; omega
      rw [decide_eq_false (p := c = 32) (by omega), decide_eq_false (p := c = 9) (by omega), decide_eq_false (p := c = 35) (by omega)] at e
      subst e
      go_enter Tryz.func59, Tryz.ntmps59
      go_wp2_with fail
      go_ret
      exact ⟨rfl, rfl⟩
end Go.Proofs.YtiapkindbbbdpaaGreatDoor
