/- Facts for the closed law of utf. -/
import Derived.Test.YtkabkkgaalimmaaV34
namespace Go.Proofs.Ytkabkkgaalimmaa
open Go.RowKit Go.Shelf

set_option maxHeartbeats 400000 in
theorem text_long (a : Option Addr) (n c : Nat) (h : 1048576 < n) (w : World) : Calls Try.prog 20 #[.slice a n c] w fun e w' => e = .returned (.tuple #[.string ⟨#[]⟩, .int .i64 3]) ∧ w = w' := by
  have t1 : decide ((1048576 : Int) < n) = true := decide_eq_true (by omega)
  go_enter Try.func20, Try.ntmps20
  go_wp2_with fail
  go_ret2
  exact ⟨rfl, rfl⟩
theorem frm_0 : frm 0 = [0] := by decide
theorem frms_zeros : ∀ n : Nat, frms (List.replicate n 0) = List.replicate n 0
  | 0 => rfl
  | n + 1 => by rw [List.replicate_succ, frms_cons, frms_zeros n, frm_0]; rfl
theorem pts_zeros (n : Nat) : ∀ x ∈ List.replicate n (0 : Int), isPt x := by
  intro x hx
  rw [List.eq_of_mem_replicate hx]; unfold isPt; omega
theorem cutk_zeros (m : Nat) : ∀ (j k : Nat), k ≤ m → m ≤ k + j → cutk m (List.replicate j 0) k = m := by
  intro j
  induction j with
  | zero => intro k h1 h2; show k = m; omega
  | succ j ih =>
    intro k h1 h2
    rw [List.replicate_succ, cutk, frm_0]
    show (if ((k + 1 : Nat) : Int) ≤ m then cutk m (List.replicate j 0) (k + 1) else k) = m
    by_cases h : k + 1 ≤ m
    · rw [if_pos (by omega)]; exact ih (k + 1) h (by omega)
    · rw [if_neg (by omega)]; omega
/-- Strings of at most one byte. -/
def Somes (b : Nat) (w : World) : Prop := b < w.heap.size ∧ ∀ j, j < 12 → ∃ t : ByteArray, w.cell? ⟨b, j, none⟩ = some (.string t) ∧ t.size ≤ 1
theorem Somes.on {b : Nat} {w w' : World} (h : Somes b w) (hb : Below w.heap.size w w') : Somes b w' :=
  ⟨Nat.lt_of_lt_of_le h.1 hb.size, fun j hj => by obtain ⟨t, h1, h2⟩ := h.2 j hj; exact ⟨t, (hb.cell (p := ⟨b, j, none⟩) h.1).trans h1, h2⟩⟩
theorem somes_mk (w : World) (t0 t1 t2 t3 t4 t5 t6 t7 t8 t9 t10 t11 : ByteArray) (h : ∀ t ∈ [t0, t1, t2, t3, t4, t5, t6, t7, t8, t9, t10, t11], t.size ≤ 1) :
    Somes w.heap.size (w.alloc (.cells #[.string t0, .string t1, .string t2, .string t3, .string t4, .string t5, .string t6, .string t7, .string t8, .string t9, .string t10, .string t11] 9)) := by
  refine ⟨by simp, fun j hj => ?_⟩
  refine ⟨[t0, t1, t2, t3, t4, t5, t6, t7, t8, t9, t10, t11].getD j ⟨#[]⟩, ?_, ?_⟩
  · rcases (show j = 0 ∨ j = 1 ∨ j = 2 ∨ j = 3 ∨ j = 4 ∨ j = 5 ∨ j = 6 ∨ j = 7 ∨ j = 8 ∨ j = 9 ∨ j = 10 ∨ j = 11 by omega) with rfl | rfl | rfl | rfl | rfl | rfl | rfl | rfl | rfl | rfl | rfl | rfl <;> simp [go_sem]
  · refine h _ ?_
    rw [List.getD_eq_getElem?_getD, List.getElem?_eq_getElem (show j < [t0, t1, t2, t3, t4, t5, t6, t7, t8, t9, t10, t11].length from hj)]
    exact List.getElem_mem _
/-- Numbers. -/
def Brd (b n : Nat) (w : World) : Prop := b < w.heap.size ∧ ∀ j, j < n → ∃ x : Int, w.cell? ⟨b, j, none⟩ = some (.int .i64 x)
theorem Brd.on {b n : Nat} {w w' : World} (h : Brd b n w) (hb : Below w.heap.size w w') : Brd b n w' :=
  ⟨Nat.lt_of_lt_of_le h.1 hb.size, fun j hj => by obtain ⟨t, h1⟩ := h.2 j hj; exact ⟨t, (hb.cell (p := ⟨b, j, none⟩) h.1).trans h1⟩⟩
theorem brd_mk (w : World) (L : List Int) : Brd w.heap.size L.length (w.alloc (.cells (L.map (Value.int .i64)).toArray 3)) := by
  refine ⟨by simp, fun j hj => ⟨L[j], ?_⟩⟩
  simp [World.cell?, World.alloc, -World.alloc_eq, hj]
end Go.Proofs.Ytkabkkgaalimmaa
