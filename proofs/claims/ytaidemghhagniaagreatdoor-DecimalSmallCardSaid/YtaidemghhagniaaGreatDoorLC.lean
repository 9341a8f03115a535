/- Plain facts: the tables that ParseFloat's decimal is shifted by. -/
import Derived.Test.YtaidemghhagniaaGreatDoorGA
import Derived.Test.YtaidemghhagniaaGreatDoorF15
import GoSem.PinnedTables
import Derived.WalkKit
import Derived.Below
namespace Go.Proofs.YtaidemghhagniaaGreatDoor
open Go Go.RowKit
def sb (s : ByteArray) (i : Nat) : Nat := (bt s i).toNat
def ldl (k : Nat) : Nat := (Pinned.cheatRows.getD k (0, [])).1
def lcl (k : Nat) : List UInt8 := (Pinned.cheatRows.getD k (0, [])).2
def lcs (k : Nat) : ByteArray := ⟨(lcl k).toArray⟩
def pbL : List Nat := [1, 3, 6, 9, 13, 16, 19, 23, 26]
def ptb (k : Nat) : Nat := pbL.getD k 0
def chOk (k : Nat) : Bool :=
  (List.range (lcl k).length).all (fun i => decide (48 ≤ ((lcl k).getD i 0).toNat) && decide (((lcl k).getD i 0).toNat ≤ 57)) &&
  decide (num (fun i => ((lcl k).getD i 0).toNat) (lcl k).length = 5 ^ k) && decide ((lcl k).length + ldl k = k + 1) && decide (1 ≤ ldl k) && decide (10 ^ (ldl k - 1) ≤ 2 ^ k) && decide (2 ^ k < 10 ^ ldl k) &&
  decide (48 < ((lcl k).getD ((lcl k).length - 1) 0).toNat) && decide ((lcl k).length ≤ 100)
theorem ch_all : ((List.range 61).drop 1).all chOk = true := by decide +kernel
theorem lcs_size (k : Nat) : (lcs k).size = (lcl k).length := by unfold lcs ByteArray.size; simp
theorem sb_lcs (k i : Nat) : sb (lcs k) i = ((lcl k).getD i 0).toNat := rfl
theorem ch_ok (k : Nat) (h1 : 1 ≤ k) (h2 : k ≤ 60) : Digs (sb (lcs k)) (lcs k).size ∧ num (sb (lcs k)) (lcs k).size = 5 ^ k ∧ (lcs k).size + ldl k = k + 1 ∧ 1 ≤ ldl k ∧ 10 ^ (ldl k - 1) ≤ 2 ^ k ∧ 2 ^ k < 10 ^ ldl k ∧ 48 < sb (lcs k) ((lcs k).size - 1) ∧ (lcs k).size ≤ 100 := by
  have h := List.all_eq_true.1 ch_all k (by
    rw [List.mem_iff_getElem?]
    exact ⟨k - 1, by rw [List.getElem?_drop, List.getElem?_range (by omega)]; congr 1; omega⟩)
  unfold chOk at h
  simp only [Bool.and_eq_true, decide_eq_true_eq, List.all_eq_true, List.mem_range] at h
  obtain ⟨⟨⟨⟨⟨⟨⟨a, b⟩, c⟩, d⟩, e⟩, f⟩, g⟩, i⟩ := h
  rw [lcs_size]
  exact ⟨fun j hj => a j hj, b, c, d, e, f, g, i⟩
/-- The two tables, where they lie. -/
def PtP (w : World) : Prop := ∃ b off cap, w.cell? ⟨13, 0, none⟩ = some (.slice (some ⟨b, off, none⟩) 9 cap) ∧ b < w.heap.size ∧ ∀ k, k < 9 → w.cell? ⟨b, off + k, none⟩ = some (.int .i64 (ptb k : Int))
def LcP (w : World) : Prop := ∃ b off cap, w.cell? ⟨16, 0, none⟩ = some (.slice (some ⟨b, off, none⟩) 61 cap) ∧ b < w.heap.size ∧ ∀ k, k < 61 → w.cell? ⟨b, off + k * 2, none⟩ = some (.int .i64 (ldl k : Int)) ∧ w.cell? ⟨b, off + k * 2 + 1, none⟩ = some (.string (lcs k))
theorem cell_lt {w : World} {p : Addr} {v : Value} (h : w.cell? p = some v) : p.block < w.heap.size := by
  rcases Nat.lt_or_ge p.block w.heap.size with h' | h'
  · exact h'
  · unfold World.cell? at h
    rw [Array.getElem?_eq_none h'] at h
    cases h
theorem PtP.on {w W : World} {B : Nat} (h : PtP w) (hB : w.heap.size ≤ B) (hb : Below B w W) : PtP W := by
  obtain ⟨b, off, cap, q1, q2, q3⟩ := h
  have h13 : 13 < w.heap.size := cell_lt q1
  exact ⟨b, off, cap, by rw [hb.cell (p := ⟨13, 0, none⟩) (Nat.lt_of_lt_of_le h13 hB)]; exact q1, Nat.lt_of_lt_of_le q2 hb.size, fun k hk => by rw [hb.cell (p := ⟨b, off + k, none⟩) (Nat.lt_of_lt_of_le q2 hB)]; exact q3 k hk⟩
theorem LcP.on {w W : World} {B : Nat} (h : LcP w) (hB : w.heap.size ≤ B) (hb : Below B w W) : LcP W := by
  obtain ⟨b, off, cap, q1, q2, q3⟩ := h
  have h16 : 16 < w.heap.size := cell_lt q1
  exact ⟨b, off, cap, by rw [hb.cell (p := ⟨16, 0, none⟩) (Nat.lt_of_lt_of_le h16 hB)]; exact q1, Nat.lt_of_lt_of_le q2 hb.size, fun k hk => by rw [hb.cell (p := ⟨b, off + k * 2, none⟩) (Nat.lt_of_lt_of_le q2 hB), hb.cell (p := ⟨b, off + k * 2 + 1, none⟩) (Nat.lt_of_lt_of_le q2 hB)]; exact q3 k hk⟩
end Go.Proofs.YtaidemghhagniaaGreatDoor
