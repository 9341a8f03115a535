/- Digests that are none: Write, Reset, Len; the texts of the standard. -/
import Derived.Test.YtimiejahkcjcdaaDoorM34
import Derived.Test.YtimiejahkcjcdaaDoorM26
import Derived.Lib.ConvBytes
import Derived.Laws.AppendOwn
namespace Go.Proofs.YtimiejahkcjcdaaDoor
open Go.RowKit

theorem write_no (w : World) (p : Option Addr) (v : Value) (hs : Calls Tryd.prog 43 #[.pointer p] w fun e w' => e = .returned (.bool false) ∧ w = w') :
    Calls Tryd.prog 27 #[.pointer p, v] w fun e w' => e = .returned (.int .i64 1) ∧ w = w' := by
  replace hs := Lib.hid hs
  go_enter Tryd.func27, Tryd.ntmps27
  go_wp2_with fail
  refine hs.out.mono ?_; rintro e w1 ⟨rfl, rfl⟩
  go_wp2_with fail
  go_ret
  exact ⟨rfl, rfl⟩
theorem reset_no (w : World) (p : Option Addr) (hs : Calls Tryd.prog 43 #[.pointer p] w fun e w' => e = .returned (.bool false) ∧ w = w') :
    Calls Tryd.prog 26 #[.pointer p] w fun e w' => e = .returned (.int .i64 1) ∧ w = w' := by
  replace hs := Lib.hid hs
  go_enter Tryd.func26, Tryd.ntmps26
  go_wp2_with fail
  refine hs.out.mono ?_; rintro e w1 ⟨rfl, rfl⟩
  go_wp2_with fail
  go_ret
  exact ⟨rfl, rfl⟩
theorem len_no (w : World) (p : Option Addr) (hs : Calls Tryd.prog 43 #[.pointer p] w fun e w' => e = .returned (.bool false) ∧ w = w') :
    Calls Tryd.prog 30 #[.pointer p] w fun e w' => e = .returned (.int .i64 0) ∧ w = w' := by
  replace hs := Lib.hid hs
  go_enter Tryd.func30, Tryd.ntmps30
  go_wp2_with fail
  refine hs.out.mono ?_; rintro e w1 ⟨rfl, rfl⟩
  go_wp2_with fail
  go_ret
  exact ⟨rfl, rfl⟩
/-- The texts of the standard, and those of their digests. -/
def std : List (List UInt8 × List UInt8) := [
  ([109, 101, 115, 115, 97, 103, 101, 32, 100, 105, 103, 101, 115, 116], [102, 57, 54, 98, 54, 57, 55, 100, 55, 99, 98, 55, 57, 51, 56, 100, 53, 50, 53, 97, 50, 102, 51, 49, 97, 97, 102, 49, 54, 49, 100, 48]),
  ([97, 98, 99, 100, 101, 102, 103, 104, 105, 106, 107, 108, 109, 110, 111, 112, 113, 114, 115, 116, 117, 118, 119, 120, 121, 122], [99, 51, 102, 99, 100, 51, 100, 55, 54, 49, 57, 50, 101, 52, 48, 48, 55, 100, 102, 98, 52, 57, 54, 99, 99, 97, 54, 55, 101, 49, 51, 98]),
  ([65, 66, 67, 68, 69, 70, 71, 72, 73, 74, 75, 76, 77, 78, 79, 80, 81, 82, 83, 84, 85, 86, 87, 88, 89, 90, 97, 98, 99, 100, 101, 102, 103, 104, 105, 106, 107, 108, 109, 110, 111, 112, 113, 114, 115, 116, 117, 118, 119, 120, 121, 122, 48, 49, 50, 51, 52, 53, 54, 55, 56, 57], [100, 49, 55, 52, 97, 98, 57, 56, 100, 50, 55, 55, 100, 57, 102, 53, 97, 53, 54, 49, 49, 99, 50, 99, 57, 102, 52, 49, 57, 100, 57, 102]),
  ([49, 50, 51, 52, 53, 54, 55, 56, 57, 48, 49, 50, 51, 52, 53, 54, 55, 56, 57, 48, 49, 50, 51, 52, 53, 54, 55, 56, 57, 48, 49, 50, 51, 52, 53, 54, 55, 56, 57, 48].append [49, 50, 51, 52, 53, 54, 55, 56, 57, 48, 49, 50, 51, 52, 53, 54, 55, 56, 57, 48, 49, 50, 51, 52, 53, 54, 55, 56, 57, 48, 49, 50, 51, 52, 53, 54, 55, 56, 57, 48], [53, 55, 101, 100, 102, 52, 97, 50, 50, 98, 101, 51, 99, 57, 53, 53, 97, 99, 52, 57, 100, 97, 50, 101, 50, 49, 48, 55, 98, 54, 55, 97])]
theorem std_ok : ∀ p ∈ std, txt (sumF p.1) 16 = p.2 ∧ p.1.length ≤ 100 := by decide +kernel
/-- The table of the standard's texts in memory. -/
def Std (b : Nat) (W : World) : Prop := b < W.heap.size ∧ ∀ i, i < 4 → ∃ m x : List UInt8, W.cell? ⟨b, i * 2, none⟩ = some (.string ⟨m.toArray⟩) ∧ W.cell? ⟨b, i * 2 + 1, none⟩ = some (.string ⟨x.toArray⟩) ∧ txt (sumF m) 16 = x ∧ m.length ≤ 100
theorem Std.on {b : Nat} {W W' : World} (h : Std b W) (hb : Below W.heap.size W W') : Std b W' := by
  refine ⟨Nat.lt_of_lt_of_le h.1 hb.size, fun i hi => ?_⟩
  obtain ⟨m, x, h1, h2, h3⟩ := h.2 i hi
  exact ⟨m, x, (World.cell?_of_block (w := W) (hb.block b h.1)).trans h1, (World.cell?_of_block (w := W) (hb.block b h.1)).trans h2, h3⟩
theorem std_cells (W : World) (C : Array Value) (t : TypeId) (fr : Nat × Nat) (hC : C = (std.flatMap fun p => [Value.string ⟨p.1.toArray⟩, Value.string ⟨p.2.toArray⟩]).toArray) : Std W.heap.size (W.alloc (.cells C t fr)) := by
  subst hC
  refine ⟨by simp, fun i hi => ?_⟩
  have hm : i < std.length := hi
  obtain ⟨h1, h2⟩ := std_ok std[i] (List.getElem_mem hm)
  refine ⟨std[i].1, std[i].2, ?_, ?_, h1, h2⟩
  · rw [cell_heap (heap_at W _ _ rfl)]
    rcases (by omega : i = 0 ∨ i = 1 ∨ i = 2 ∨ i = 3) with rfl | rfl | rfl | rfl <;> rfl
  · rw [cell_heap (heap_at W _ _ rfl)]
    rcases (by omega : i = 0 ∨ i = 1 ∨ i = 2 ∨ i = 3) with rfl | rfl | rfl | rfl <;> rfl
/-- '[]byte(s)'. -/
theorem conv_str (w : World) (m : List UInt8) (hm : m.length ≤ 100) : ∃ v w', (convert 9 24 (.string ⟨m.toArray⟩)).run Tryd.prog w = .ok v w' ∧ Below w.heap.size w w' ∧ RowB w' v m := by
  refine ⟨_, _, Lib.run_convert_string_bytes w 9 24 5 ⟨m.toArray⟩ Tryd.underlying9 Tryd.underlying24 Tryd.underlying5, ⟨rfl, rfl, rfl, by rw [Lib.bytesWorld_size]; omega, fun k hk => Lib.bytesWorld_at_old w 5 _ k hk⟩, .inr ⟨w.heap.size, 0, grownCap w m.length 0 5, by rw [List.length_map]; rfl, by rw [Lib.bytesWorld_size]; omega, ?_, ?_, fun i hi => ?_⟩⟩
  · have := grownCap_ge w m.length 0 5
    simpa using this
  · exact grownCap_le_maxLen w m.length 0 5 (by unfold maxLen; omega)
  · have hi' : i < m.length := by simpa using hi
    rw [Nat.zero_add, Lib.bytesWorld_cell w 5 ⟨m.toArray⟩ i (show i < m.toArray.size by simpa using hi')]
    simp [hi', enc8]
theorem owns_nil0 (w : World) (base : Nat) : w.ownsRow base 5 1 (.slice none 0 0) 0 (([] : List UInt8).map enc8) := ⟨rfl, .inl ⟨rfl, rfl⟩⟩
theorem args3 {a : Act} {x y z : Operand} {v u t : Value} (h : a.eval x = v) (g : a.eval y = u) (k : a.eval z = t) : #[] ++ #[x, y, z].map a.eval ++ #[] = #[v, u, t] := by simp [h, g, k]
/-- A table of n integers in memory. -/
def Ints (b n : Nat) (W : World) : Prop := b < W.heap.size ∧ ∀ j, j < n → ∃ x : Int, W.cell? ⟨b, j, none⟩ = some (.int .i64 x)
theorem Ints.on {b n : Nat} {W W' : World} (h : Ints b n W) (hb : Below W.heap.size W W') : Ints b n W' :=
  ⟨Nat.lt_of_lt_of_le h.1 hb.size, fun j hj => by obtain ⟨x, h1⟩ := h.2 j hj; exact ⟨x, (World.cell?_of_block (w := W) (hb.block b h.1)).trans h1⟩⟩
theorem ints_cells (W : World) (l : List Int) (n : Nat) (hn : l.length = n) (t : TypeId) (fr : Nat × Nat) : Ints W.heap.size n (W.alloc (.cells (l.map (Value.int .i64)).toArray t fr)) := by
  refine ⟨by simp, fun j hj => ⟨l[j]'(by omega), ?_⟩⟩
  rw [cell_heap (heap_at W _ _ rfl)]
  simp [hn, hj]
/-- A short string. -/
def IsS (v : Value) (n : Nat) : Prop := ∃ s : ByteArray, v = .string s ∧ s.size ≤ n
/-- A table of seven short strings. -/
def Strs (b : Nat) (W : World) : Prop := b < W.heap.size ∧ ∀ j, j < 7 → ∃ s : ByteArray, W.cell? ⟨b, j, none⟩ = some (.string s) ∧ s.size ≤ 100
theorem Strs.on {b : Nat} {W W' : World} (h : Strs b W) (hb : Below W.heap.size W W') : Strs b W' :=
  ⟨Nat.lt_of_lt_of_le h.1 hb.size, fun j hj => by obtain ⟨x, h1, h2⟩ := h.2 j hj; exact ⟨x, (World.cell?_of_block (w := W) (hb.block b h.1)).trans h1, h2⟩⟩
theorem strs_cells (W : World) (s0 s1 s2 s3 s4 s5 s6 : ByteArray) (h0 : s0.size ≤ 100) (h1 : s1.size ≤ 100) (h2 : s2.size ≤ 100) (h3 : s3.size ≤ 100) (h4 : s4.size ≤ 100) (h5 : s5.size ≤ 100) (h6 : s6.size ≤ 100) (t : TypeId) (fr : Nat × Nat) : Strs W.heap.size (W.alloc (.cells #[.string s0, .string s1, .string s2, .string s3, .string s4, .string s5, .string s6] t fr)) := by
  refine ⟨by simp, fun j hj => ?_⟩
  rw [cell_heap (heap_at W _ _ rfl)]
  rcases (by omega : j = 0 ∨ j = 1 ∨ j = 2 ∨ j = 3 ∨ j = 4 ∨ j = 5 ∨ j = 6) with rfl | rfl | rfl | rfl | rfl | rfl | rfl
  · exact ⟨s0, rfl, h0⟩
  · exact ⟨s1, rfl, h1⟩
  · exact ⟨s2, rfl, h2⟩
  · exact ⟨s3, rfl, h3⟩
  · exact ⟨s4, rfl, h4⟩
  · exact ⟨s5, rfl, h5⟩
  · exact ⟨s6, rfl, h6⟩
theorem str_hi (s : ByteArray) (k : Nat) (h : k ≤ s.size) (w : World) : (Instr.sliceAt 9 (.string s) none (some (.int .i64 k)) none).run Tryd.prog w = .ok (.string (s.extract 0 k)) w := by
  simp [go_sem, h]
theorem str_lo (s : ByteArray) (k : Nat) (h : k ≤ s.size) (w : World) : (Instr.sliceAt 9 (.string s) (some (.int .i64 k)) none none).run Tryd.prog w = .ok (.string (s.extract k s.size)) w := by
  simp [go_sem, h]
theorem ex_size (s : ByteArray) (i j : Nat) : (s.extract i j).size ≤ s.size := by
  rw [ByteArray.size_extract]; omega
theorem cat_size (s t : ByteArray) (m n : Nat) (h : s.size ≤ m) (k : t.size ≤ n) : (s ++ t).size ≤ m + n := by
  rw [ByteArray.size_append]; omega
theorem add_str (x y : Operand) (a b : ByteArray) (h1 : a.size + b.size ≤ 4611686018427387904) (w : World) : (do eqGuard .add 9 x y (.string a) (.string b); binOp .add 9 (.string a) (.string b) : Sem Value).run Tryd.prog w = .ok (.string (a ++ b)) w := by
  simp [go_sem]
  omega
/-- A digest that is zero. -/
def digZ : Obj := .cells #[.int .u32 0, .int .u32 0, .int .u32 0, .int .u32 0, .slice none 0 0, .int .i64 0] 67
/-- The table of two digests that are none. -/
def Digs (b0 b : Nat) (W : World) : Prop := (b0 < b ∧ b < W.heap.size) ∧ ∀ j, j < 2 → ∃ p : Option Addr, W.cell? ⟨b, j, none⟩ = some (.pointer p) ∧ (p = none ∨ p = some ⟨b0, 0, none⟩ ∧ Dig W b0 SZ (.slice none 0 0) 0)
theorem Digs.on {b0 b : Nat} {W W' : World} (h : Digs b0 b W) (hb : Below W.heap.size W W') : Digs b0 b W' := by
  refine ⟨⟨h.1.1, Nat.lt_of_lt_of_le h.1.2 hb.size⟩, fun j hj => ?_⟩
  obtain ⟨p, h1, h2⟩ := h.2 j hj
  refine ⟨p, (World.cell?_of_block (w := W) (hb.block b h.1.2)).trans h1, ?_⟩
  rcases h2 with h2 | ⟨h2, h3⟩
  · exact .inl h2
  · exact .inr ⟨h2, h3.block (hb.block b0 (by have := h.1; omega))⟩
theorem digs_cells (W : World) : Digs W.heap.size (W.heap.size + 1) ((W.alloc digZ).alloc (.cells #[.pointer none, .pointer (some ⟨W.heap.size, 0, none⟩)] 52)) := by
  have hs : (W.alloc digZ).heap.size = W.heap.size + 1 := by simp
  have hd : Dig (W.alloc digZ) W.heap.size SZ (.slice none 0 0) 0 := dig_new W SZ (.slice none 0 0) 0 67
  refine ⟨⟨by omega, by simp⟩, fun j hj => ?_⟩
  rw [← hs, cell_heap (heap_at _ _ _ rfl)]
  rcases (by omega : j = 0 ∨ j = 1) with rfl | rfl
  · exact ⟨none, rfl, .inl rfl⟩
  · exact ⟨some ⟨W.heap.size, 0, none⟩, rfl, .inr ⟨rfl, hd.block (((Below.refl _ (W.alloc digZ)).alloc (Nat.le_refl _) _).block _ (by omega))⟩⟩
theorem dig_no {w W : World} {p : Option Addr} {b0 : Nat} (hlt : b0 < w.heap.size) (h : p = none ∨ p = some ⟨b0, 0, none⟩ ∧ Dig w b0 SZ (.slice none 0 0) 0) (hb : Below w.heap.size w W) : Calls Tryd.prog 43 #[.pointer p] W fun e w' => e = .returned (.bool false) ∧ W = w' := by
  rcases h with rfl | ⟨rfl, h⟩
  · exact some_nil W
  · exact some_zero b0 _ W (h.block (hb.block b0 hlt))
end Go.Proofs.YtimiejahkcjcdaaDoor
