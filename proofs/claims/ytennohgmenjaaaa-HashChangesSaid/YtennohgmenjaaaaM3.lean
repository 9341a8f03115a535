/- Plain laws for HashChanges: one byte that is changed changes the hash. No program in sight. -/
import Derived.Test.YtennohgmenjaaaaL4
import Derived.Lib.ConvBytes
import Derived.Test.YtennohgmenjaaaaRI
namespace Go.Proofs.Ytennohgmenjaaaa
open Go.RowKit Go.Shelf

theorem hadd_set_ne (h : BitVec 64) (l : List UInt8) (k : Nat) (hk : k < l.length) (d : UInt8) (hd : d ≠ l[k]) : hadd h (l.set k d) ≠ hadd h l := by
  intro e
  have e1 : l.set k d = l.take k ++ ([d] ++ l.drop (k + 1)) := by
    rw [List.set_eq_take_append_cons_drop, if_pos hk]; rfl
  have e2 : l = l.take k ++ ([l[k]] ++ l.drop (k + 1)) := by simp
  rw [e1] at e
  have e' : hadd h (l.take k ++ ([d] ++ l.drop (k + 1))) = hadd h (l.take k ++ ([l[k]] ++ l.drop (k + 1))) := e.trans (congrArg (hadd h) e2)
  rw [hadd_append, hadd_append, hadd_append, hadd_append, hadd_inj] at e'
  exact hd (hstep_byte e')

theorem hpart_inj (s : ByteArray) {g h : BitVec 64} : hpart g s = hpart h s ↔ g = h := by
  unfold hpart; rw [hadd_inj, hadd_inj]
theorem foldl_hpart_inj (L : List ByteArray) : ∀ {g h : BitVec 64}, L.foldl hpart g = L.foldl hpart h ↔ g = h := by
  induction L with
  | nil => intro g h; rfl
  | cons s L ih => intro g h; rw [List.foldl_cons, List.foldl_cons, ih, hpart_inj]
theorem hparts_ne (s t : ByteArray) (L : List ByteArray) (hst : t.size = s.size) (h : ∀ g, hadd g t.data.toList ≠ hadd g s.data.toList) : hparts (t :: L) ≠ hparts (s :: L) := by
  intro e
  unfold hparts at e
  rw [List.foldl_cons, List.foldl_cons, foldl_hpart_inj] at e
  unfold hpart at e
  rw [hst] at e
  exact h _ e

theorem xor_byte (c : UInt8) (m : Nat) (h0 : 1 ≤ m) (h1 : m ≤ 255) : ∃ d : UInt8, d ≠ c ∧ bits .xor .u8 (c.toNat : Int) (m : Int) = (d.toNat : Int) := by
  refine ⟨c ^^^ UInt8.ofNat m, ?_, ?_⟩
  · intro e
    have e2 : c ^^^ (c ^^^ UInt8.ofNat m) = c ^^^ c := by rw [e]
    rw [← UInt8.xor_assoc, UInt8.xor_self, UInt8.zero_xor] at e2
    have := congrArg UInt8.toNat e2
    rw [UInt8.toNat_ofNat'] at this
    simp at this
    omega
  · have hc := c.toNat_lt
    rw [u8_xor_nat _ _ (by omega) (by omega), UInt8.toNat_xor, UInt8.toNat_ofNat', Nat.mod_eq_of_lt (show m < 2 ^ 8 by omega)]

/-- '[]byte(s)': the world behind it, and what is in the row. -/
theorem to_bytes (s : ByteArray) (w : World) : ∃ w1 cap, (convert 9 34 (.string s)).run Try.prog w = .ok (.slice (some ⟨w.heap.size, 0, none⟩) s.size cap) w1 ∧ Below w.heap.size w w1 ∧ w.heap.size < w1.heap.size ∧
    Hid (∀ j (hj : j < s.data.toList.length), w1.cell? ⟨w.heap.size, j, none⟩ = some (.int .u8 (s.data.toList[j].toNat : Int))) ∧ Hid (∀ j, j < s.size → w1.frozen? ⟨w.heap.size, j, none⟩ = false) := by
  refine ⟨_, _, Lib.run_convert_string_bytes w 9 34 5 s Try.underlying9 Try.underlying34 Try.underlying5, ?_, ?_, ?_, ?_⟩
  · refine ⟨rfl, rfl, rfl, ?_, fun k hk => Lib.bytesWorld_at_old w 5 s k hk⟩
    rw [Lib.bytesWorld_size]; omega
  · rw [Lib.bytesWorld_size]; omega
  · intro j hj
    rw [Lib.bytesWorld_cell w 5 s j (by simpa using hj)]
    simp [List.getD, List.getElem?_eq_getElem hj]
  · intro j hj
    have : (Lib.bytesCells w 5 s).size ≥ s.size := by
      show _ ≤ _
      rw [Lib.bytesCells, Array.size_append, Array.size_map]; exact Nat.le_add_right _ _
    simp [World.frozen?, Lib.bytesWorld_at_new]
    omega

/-- The row with one byte changed reads as the other text. -/
theorem conv_set (w1 : World) (n : Nat) (l : List UInt8) (k : Nat) (d : UInt8) (hk : k < l.length) (cap : Nat)
    (hc : ∀ j (hj : j < l.length), w1.cell? ⟨n, j, none⟩ = some (.int .u8 (l[j].toNat : Int))) (W : World) (hn : n < w1.heap.size) (hb : Below w1.heap.size (w1.setCell ⟨n, k, none⟩ (.int .u8 (d.toNat : Int))) W) :
    (convert 34 9 (.slice (some ⟨n, 0, none⟩) l.length cap)).run Try.prog W = .ok (.string ⟨(l.set k d).toArray⟩) W := by
  have := run_convert_bytes_back (P := Try.prog) W 34 9 5 ⟨n, 0, none⟩ cap (l.set k d) Try.underlying34 Try.underlying5 Try.underlying9 (fun j hj => by
    rw [show (⟨n, 0, none⟩ : Addr).add j = ⟨n, j, none⟩ by simp [Addr.add]; omega]
    have hj' : j < l.length := by simpa using hj
    rw [hb.cell (p := ⟨n, j, none⟩) hn]
    by_cases hjk : j = k
    · subst hjk
      rw [World.cell?_setCell_same (h := hc j hj')]
      simp
    · rw [World.cell?_setCell_other (h := by intro e; exact hjk (by simpa using (congrArg Addr.off e).symm)), hc j hj', List.getElem_set_ne (Ne.symm hjk)])
  rw [List.length_set] at this
  exact this
end Go.Proofs.Ytennohgmenjaaaa
