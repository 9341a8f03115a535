/- Laws on rows of bytes that a call makes: append, and the conversion to a string. -/
import Derived.WalkKit
import Derived.WalkSpells
namespace Go.Proofs.YtaidemghhagniaaGreatDoor
open Go.RowKit

/-- A byte as a cell. -/
def enc8 (c : UInt8) : Value := .int .u8 (c.toNat : Int)
theorem enc8_one (c : UInt8) : (enc8 c).oneCell' = true := rfl

/-- What a row of bytes holds, as a list. -/
theorem owned_cells {w : World} {base : Nat} {e g n cap : Nat} {l : List UInt8} (h : w.ownsRow base e 1 (.slice (some ⟨g, 0, none⟩) n cap) n (l.map enc8)) (j : Nat) (hj : j < l.length) :
    w.cell? ⟨g, j, none⟩ = some (.int .u8 (l[j].toNat : Int)) := by
  have hl : l.length = n := by have := h.1; simpa using this
  rw [h.cellAt j (by omega)]
  simp [enc8, List.getElem?_eq_getElem hj]

/-- 'string(out)' of a row of bytes of the call's own, the nil one too. -/
theorem conv_owned {P : Program} {w : World} {src dst e base : Nat} {v : Value} {n : Nat} {l : List UInt8} (hs : P.underlying src = some (.slice e)) (he : P.underlying e = some (.int .u8)) (hd : P.underlying dst = some .string)
    (h : w.ownsRow base e 1 v n (l.map enc8)) : (convert src dst v).run P w = .ok (.string ⟨l.toArray⟩) w := by
  have hl : l.length = n := by have := h.1; simpa using this
  have h' := h
  rcases h.2 with ⟨rfl, rfl⟩ | ⟨g, cap, cur, rfl, _⟩
  · obtain rfl : l = [] := by simpa using hl
    exact run_convert_bytes_nil w src e hs he 0 0 dst hd
  · subst hl
    refine run_convert_bytes_back w src dst e ⟨g, 0, none⟩ cap l hs he hd (fun j hj => ?_)
    rw [show (⟨g, 0, none⟩ : Addr).add j = ⟨g, j, none⟩ by simp [Addr.add]; omega]
    exact owned_cells h' j hj

/-- 'append(out, x)': one more element of one cell, out of the call's own. -/
theorem app_one {P : Program} {ops : Array Oper} {rest : List Oper} {o : Oper} {a : Act} {Q : Exit → Act → World → Prop} {w : World} (hgd : o.guard = none) (s x : Operand) (t : TypeId)
    (ho : o.op = .call { callee := .builtin .append, args := #[s, x], argTypes := #[t, t] })
    {e : TypeId} {u : Value} (base : Nat) (z : Value) (bytes : Nat) (ht : P.underlying t = some (.slice e)) (hinfo : (P.info? e).map (fun i => (i.zero, i.size, i.bytes)) = some (some z, 1, bytes)) (hzs : z.cells.size = 1)
    (v : Value) (n : Nat) (xs : List Value) (hs : a.eval s = v) (hx : a.eval x = .slice (some ⟨w.heap.size, 0, none⟩) 1 1) (hown : w.ownsRow base e 1 v n xs) (hu : u.oneCell' = true)
    (hb1 : 1 ≤ bytes) (hbytes : (n + 1) * bytes ≤ 140737488355328) (hbase : base ≤ w.heap.size)
    (h : ∀ v' w', w'.ownsRow base e 1 v' (n + 1) (xs ++ [u]) → Below base w w' → w.heap.size ≤ w'.heap.size → (∀ row, v.ownBlock ≠ some row → row < w.heap.size → w'.heap[row]? = w.heap[row]?) → (∃ g cap, v' = .slice (some ⟨g, 0, none⟩) (n + 1) cap) → wpList P ops Q rest (a.put o.dst v') w') :
    wpList P ops Q (o :: rest) a (w.alloc (.cells #[u] e)) := by
  obtain ⟨i, hi, hz0, hz1, hz2⟩ := info_parts hinfo
  have hn : n + 1 ≤ (n + 1) * bytes := Nat.le_mul_of_pos_right _ hb1
  refine wpList_append_own _ hgd s x t ho base e i z 1 bytes ht hi hz0 hz1 hz2 hzs (by decide) v n xs hs (hown.alloc _) ⟨w.heap.size, 0, none⟩ 1 1 [u] hx rfl (cell_one_new _ _ _) (by intro u' hu'; simp at hu'; subst hu'; exact hu) (by unfold maxLen; omega) (by omega) (by simp; omega) ?_
  intro v' w' hown' hg hnil
  have hsz : w.heap.size + 1 ≤ w'.heap.size := by have := hg.size; simpa using this
  refine h v' w' hown' ?_ (by omega) ?_ ?_
  · refine ((Below.refl base w).alloc hbase _).grown hg (by simp; omega) (fun k e' => ?_)
    exact ((hown.alloc (.cells #[u] e)).lt k e').1
  · intro row hrow hlt
    rw [hg.block row (by simp; omega) (fun e' => hrow e'.symm)]
    exact Below.heap_alloc _ _ _ hlt
  · rcases hown'.2 with ⟨rfl, h0⟩ | ⟨g, cap, cur, rfl, _⟩
    · omega
    · exact ⟨g, cap, rfl⟩
end Go.Proofs.YtaidemghhagniaaGreatDoor
