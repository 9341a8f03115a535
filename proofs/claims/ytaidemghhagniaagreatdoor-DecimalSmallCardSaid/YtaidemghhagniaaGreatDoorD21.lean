/- Where Exact's number begins. -/
import Derived.Test.YtaidemghhagniaaGreatDoorD18
import Derived.Lib.AtoiErrMem
namespace Go.Proofs.YtaidemghhagniaaGreatDoor
open Go Go.RowKit
theorem bytes_row (w1 : World) (B : Nat) (S : ByteArray) (l : List UInt8) (hS : S.data.toList = l) (hB : B ≤ w1.heap.size) (hl : l.length ≤ 2000) : RowT (Lib.bytesWorld w1 5 S) B 5 w1.heap.size l.length (grownCap w1 S.size 0 5) (l.map enc8) := by
  have hz : S.size = l.length := by rw [← hS]; simp
  have hge := grownCap_ge w1 S.size 0 5
  have hcm := grownCap_le_maxLen w1 S.size 0 5 (by unfold maxLen; omega)
  have hsz : (Lib.bytesCells w1 5 S).size = grownCap w1 S.size 0 5 := by
    unfold Lib.bytesCells; simp; omega
  refine ⟨by simp, hB, by omega, hcm, Lib.bytesCells w1 5 S, _, Lib.bytesWorld_at_new w1 5 S, .inr ?_, hsz, ?_⟩
  · show grownCap w1 S.size 0 5 ≤ (Lib.bytesCells w1 5 S).size; omega
  · unfold Lib.bytesCells
    rw [Array.toList_append, Array.toList_map, hS, List.take_append_of_le_length (by simp), List.take_of_length_le (by simp)]
    rfl
theorem num_start (w1 : World) (B : Nat) (S : ByteArray) (l : List UInt8) (hS : S.data.toList = l) (hB : B ≤ w1.heap.size) (hl : l.length ≤ 2000) (W2 : World) (hW : W2 = Lib.bytesWorld w1 5 S) :
    NumAt ((W2.alloc (.cells #[.slice (some ⟨w1.heap.size, 0, none⟩) S.size (grownCap w1 S.size 0 5)] 37)).alloc (.cells #[.int .i64 0] 3)) B W2.heap.size (W2.heap.size + 1) l 0 ∧ Below B w1 ((W2.alloc (.cells #[.slice (some ⟨w1.heap.size, 0, none⟩) S.size (grownCap w1 S.size 0 5)] 37)).alloc (.cells #[.int .i64 0] 3)) := by
  have hz : S.size = l.length := by rw [← hS]; simp
  have hr := bytes_row w1 B S l hS hB hl
  rw [← hW] at hr
  have h1 : W2.heap.size = w1.heap.size + 1 := by rw [hW]; exact Lib.bytesWorld_size w1 5 S
  have hb : Below B w1 W2 := by rw [hW]; exact (Lib.bytesWorld_below w1 5 S).mono hB
  refine ⟨⟨⟨w1.heap.size, grownCap w1 S.size 0 5, ?_, ?_⟩, ?_⟩, (hb.alloc (by omega) _).alloc (by simp; omega) _⟩
  · refine hr.oth ?_
    rw [Below.heap_alloc _ _ _ (by simp; omega), Below.heap_alloc _ _ _ (by omega)]
  · rw [Below.heap_alloc _ _ _ (by simp), hz]
    show (W2.heap.push _)[W2.heap.size]? = _
    exact Array.getElem?_push_size
  · show ((W2.alloc _).heap.push _)[W2.heap.size + 1]? = _
    have : W2.heap.size + 1 = (W2.alloc (.cells #[.slice (some ⟨w1.heap.size, 0, none⟩) S.size (grownCap w1 S.size 0 5)] 37)).heap.size := by simp
    rw [this]
    exact Array.getElem?_push_size
end Go.Proofs.YtaidemghhagniaaGreatDoor
