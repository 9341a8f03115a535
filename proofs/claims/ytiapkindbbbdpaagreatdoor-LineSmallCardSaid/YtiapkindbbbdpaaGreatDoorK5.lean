/- The builder's walks. -/
import Derived.Test.YtiapkindbbbdpaaGreatDoorK4
import Derived.Test.YtiapkindbbbdpaaGreatDoorJ2
import Derived.Laws.NewBlocks
import Derived.RangeFuncRecord
import Derived.Shelf.Strings.BuilderK
import Derived.Lib.OthersKept
import Derived.Lib.FrozenHead2
import Derived.Test.YtiapkindbbbdpaaGreatDoorShelf
namespace Go.Proofs.YtiapkindbbbdpaaGreatDoor
open Go.RowKit

theorem info5 : (Tryz.prog.info? 5).map (fun i => (i.zero, i.size, i.bytes)) = some (some (.int .u8 0), 1, 1) := by kernel_rfl
theorem bsize : (Tryz.prog.info? 80).map (·.size) = some 2 := by kernel_rfl
set_option maxRecDepth 100000 in
set_option maxHeartbeats 1000000 in
theorem cc_used (b : Nat) (w : World) (hc : w.cell? ⟨b, 0, none⟩ = some (.pointer (some ⟨b, 0, none⟩))) :
    Calls Tryz.prog 53 #[.pointer (some ⟨b, 0, none⟩)] w fun e w' => e = .returned (.tuple #[]) ∧ w' = w := by
  obtain ⟨j, hj, _⟩ := Option.map_eq_some_iff.1 bsize
  go_enter Tryz.func53, Tryz.ntmps53
  go_wp2
  rw [Lib.run_neq_ptr_same w _ Tryz.underlying78 hj]
  go_wp2
  go_end0
  exact ⟨rfl, rfl⟩
set_option maxRecDepth 100000 in
set_option maxHeartbeats 1000000 in
theorem cc_fresh (b : Nat) (w : World) (hc : w.cell? ⟨b, 0, none⟩ = some (.pointer none)) (hs : w.shape? b = some (80, 2)) (hf : w.frozen? ⟨b, 0, none⟩ = false) :
    Calls Tryz.prog 53 #[.pointer (some ⟨b, 0, none⟩)] w fun e w' => e = .returned (.tuple #[]) ∧ w' = w.setCell ⟨b, 0, none⟩ (.pointer (some ⟨b, 0, none⟩)) := by
  obtain ⟨j, hj, hjs⟩ := Option.map_eq_some_iff.1 bsize
  go_enter Tryz.func53, Tryz.ntmps53
  go_wp2
  rw [Lib.run_to_unsafe w ⟨b, 0, none⟩ Tryz.underlying78 Tryz.underlying123 hj (by rw [hjs]; decide) hs (Nat.zero_lt_succ 1)]
  simp only [Result.andThen]
  rw [Oper.upon_value]
  go_wp2
  rw [run_callFunc_extern Tryz.func72 (by kernel_rfl) (by kernel_rfl) (by kernel_rfl) (e := Extern.AbiNoEscape.same) (by kernel_rfl)]
  rw [Lib.run_noEscape]
  simp only [Result.andThen]
  rw [Oper.upon_value]
  go_wp2
  rw [Lib.run_from_unsafe w ⟨b, 0, none⟩ Tryz.underlying123 Tryz.underlying78 hj hs (by kernel_rfl)]
  simp only [Result.andThen]
  rw [Oper.upon_value]
  go_wp2
  go_end0
  exact ⟨rfl, rfl⟩
/-- A builder of this call's own: B is where the call began. -/
abbrev BldK (B b : Nat) (l : List UInt8) (w : World) : Prop := Lib.IsBuilderF 80 5 B b (Lib.byteCells l) w
theorem info5p : ∃ i, Tryz.prog.info? 5 = some i ∧ i.zero = some (.int .u8 0) ∧ i.size = 1 ∧ i.bytes = 1 := info_parts info5
theorem cc_k (B b : Nat) (l : List UInt8) (w : World) (h : BldK B b l w) :
    Calls Tryz.prog 53 #[.pointer (some ⟨b, 0, none⟩)] w fun e w' => e = .returned (.tuple #[]) ∧ Lib.BuilderAtF 80 5 B b (.pointer (some ⟨b, 0, none⟩)) (Lib.byteCells l) w' ∧ Below B w w' ∧ Lib.OthersKept 5 (some b) w w' := by
  rcases h with h | h
  · refine (cc_fresh b w h.cell0 h.shape h.frozen0).mono ?_
    rintro e w' ⟨rfl, rfl⟩
    exact ⟨rfl, h.used _, (Below.refl B w).setCell (p := ⟨b, 0, none⟩) h.1 _, (Lib.OthersKept.refl _ _ w).setCell ⟨b, 0, none⟩ rfl _⟩
  · refine (cc_used b w h.cell0).mono ?_
    rintro e w' ⟨rfl, rfl⟩
    exact ⟨rfl, h, Below.refl _ _, Lib.OthersKept.refl _ _ _⟩
/-- What stands behind an append to the builder's row. -/
theorem bld_grown {B b m : Nat} {l p : List UInt8} {v v2 : Value} {w w0 w1 w2 : World} (hB : B ≤ b) (h0 : w0.heap[b]? = some (.cells #[.pointer (some ⟨b, 0, none⟩), v] 80 (0, 0))) (hne : v.ownBlock ≠ some b)
    (h1 : ∀ k, k < w0.heap.size → w1.heap[k]? = w0.heap[k]?) (hs1 : w0.heap.size ≤ w1.heap.size) (hg : w1.grownBy w2 v.ownBlock) (hb1 : Below B w w1) (hk1 : Lib.OthersKept 5 (some b) w w1)
    (hown1 : w1.ownsRowF B 5 1 v (Lib.byteCells l).length (Lib.byteCells l)) (hm : m = (l ++ p).length) (hown2 : w2.ownsRowF B 5 1 v2 m (Lib.byteCells l ++ Lib.byteCells p)) (hBs : B ≤ w1.heap.size) :
    (∃ a n cap, v2 = .slice a n cap) ∧ w2.heap[b]? = some (.cells #[.pointer (some ⟨b, 0, none⟩), v] 80 (0, 0)) ∧ BldK B b (l ++ p) (w2.setCell ⟨b, 1, none⟩ v2) ∧ Below B w (w2.setCell ⟨b, 1, none⟩ v2) ∧ Lib.OthersKept 5 (some b) w (w2.setCell ⟨b, 1, none⟩ v2) := by
  have hlt : b < w0.heap.size := (Array.getElem?_eq_some_iff.1 h0).1
  have hb2 : w2.heap[b]? = some (.cells #[.pointer (some ⟨b, 0, none⟩), v] 80 (0, 0)) := by
    rw [hg.block b (by omega) (fun e => hne e.symm), h1 b hlt]
    exact h0
  have hl : Lib.byteCells (l ++ p) = Lib.byteCells l ++ Lib.byteCells p := by simp [Lib.byteCells]
  subst hm
  refine ⟨?_, hb2, .inr ?_, (hb1.grown hg hBs (fun k hk => (hown1.lt k hk).1)).setCell (p := ⟨b, 1, none⟩) hB _, (hk1.grown hg (Lib.ownsRowF_kind hown1)).setCell ⟨b, 1, none⟩ rfl _⟩
  · rcases hown2.2 with ⟨h0, _⟩ | ⟨g, cap, cur, fz, hv, _⟩
    · exact ⟨_, _, _, h0⟩
    · exact ⟨_, _, _, hv⟩
  · refine Lib.BuilderAtF.put (T := 80) (e := 5) hB hb2 (bs' := Lib.byteCells (l ++ p)) ?_ (by decide)
    rw [Lib.byteCells_length, hl]
    exact hown2
set_option maxRecDepth 100000 in
set_option maxHeartbeats 1000000 in
theorem wb_k (B b : Nat) (l : List UInt8) (c : UInt8) (hl : l.length < 1000000) (w : World) (h : BldK B b l w) (hBw : B ≤ w.heap.size) :
    Calls Tryz.prog 91 #[.pointer (some ⟨b, 0, none⟩), .int .u8 (c.toNat : Int)] w fun e w' => e = .returned .nilIface ∧ BldK B b (l ++ [c]) w' ∧ Below B w w' ∧ Lib.OthersKept 5 (some b) w w' := by
  obtain ⟨i0, hi, hz0, hz1, hz2⟩ := info5p
  have hcall := Lib.hid (cc_k B b l w h)
  clear h
  go_enter Tryz.func91, Tryz.ntmps91
  go_wp2_with fail
  refine hcall.out.mono ?_; rintro e w1 ⟨rfl, h1, hb1, hk1⟩
  clear hcall
  obtain ⟨hB, v, hbk, hown0, hne⟩ := h1
  have hown := Lib.hid hown0
  have c0 : w1.cell? ⟨b, 0, none⟩ = some (.pointer (some ⟨b, 0, none⟩)) := by rw [Lib.cell_of_heap hbk]; rfl
  have c1 : w1.cell? ⟨b, 1, none⟩ = some v := by rw [Lib.cell_of_heap hbk]; rfl
  have hsz := hb1.size
  have HBK := Lib.hid hbk
  have HB1 := Lib.hid hb1
  have HK1 := Lib.hid hk1
  have hlen : Hid ((Lib.byteCells l).length = l.length) := Lib.byteCells_length l
  clear hown0 hbk hb1 hk1
  go_wp2_with (at_builtin; go_must (refine wpList_append_ownF _ rfl (.tmp 11) (.tmp 13) 27 rfl B 5 i0 (.int .u8 0) 1 1 Tryz.underlying27 hi hz0 hz1 hz2 rfl (by decide) v _ _ rfl (World.ownsRowF.alloc hown.out _) ⟨w1.heap.size, 0, none⟩ 1 1 [.int .u8 (c.toNat : Int)] rfl rfl ?c1 ?c2 ?c3 ?c4 ?c5 ?_))
  case c1 =>
    intro j u hj
    match j, hj with
    | 0, hj => simp at hj; subst hj; simp [Addr.add]
  case c2 => intro u hu; simp at hu; subst hu; rfl
  case c3 => rw [hlen.out]; unfold maxLen; omega
  case c4 => rw [hlen.out]; omega
  case c5 => simp; omega
  intro v2 w2 hown2 hgrow _
  obtain ⟨⟨ad, n2, cap, rfl⟩, hb2, R1, R2, R3⟩ := bld_grown (p := [c]) (w := w) hB HBK.out hne (fun k hk => Lib.alloc_old w1 _ k hk) (by simp) hgrow (HB1.out.alloc (by omega) _) (HK1.out.alloc _) (World.ownsRowF.alloc hown.out _) (by rw [hlen.out]; simp) hown2 (by simp; omega)
  have d0 : w2.cell? ⟨b, 0, none⟩ = some (.pointer (some ⟨b, 0, none⟩)) := by rw [Lib.cell_of_heap hb2]; rfl
  have d1 : w2.cell? ⟨b, 1, none⟩ = some v := by rw [Lib.cell_of_heap hb2]; rfl
  have f1 : w2.frozen? ⟨b, 1, none⟩ = false := Lib.frozen_of_heap hb2 1
  have R := Lib.hid (And.intro R1 (And.intro R2 R3))
  clear R1 R2 R3 hown2 hgrow hb2
  go_wp2_with fail
  go_ret
  exact ⟨rfl, R.out⟩
set_option maxRecDepth 100000 in
set_option maxHeartbeats 1000000 in
theorem ws_k (B b : Nat) (l : List UInt8) (s : ByteArray) (hl : l.length + s.size < 1000000) (w : World) (h : BldK B b l w) (hBw : B ≤ w.heap.size) :
    Calls Tryz.prog 34 #[.pointer (some ⟨b, 0, none⟩), .string s] w fun e w' => e = .returned (.tuple #[.int .i64 s.size, .nilIface]) ∧ BldK B b (l ++ s.data.toList) w' ∧ Below B w w' ∧ Lib.OthersKept 5 (some b) w w' := by
  obtain ⟨i0, hi, hz0, hz1, hz2⟩ := info5p
  have hcall := Lib.hid (cc_k B b l w h)
  clear h
  go_enter Tryz.func34, Tryz.ntmps34
  go_wp2_with fail
  refine hcall.out.mono ?_; rintro e w1 ⟨rfl, h1, hb1, hk1⟩
  clear hcall
  obtain ⟨hB, v, hbk, hown0, hne⟩ := h1
  have hown := Lib.hid hown0
  have c0 : w1.cell? ⟨b, 0, none⟩ = some (.pointer (some ⟨b, 0, none⟩)) := by rw [Lib.cell_of_heap hbk]; rfl
  have c1 : w1.cell? ⟨b, 1, none⟩ = some v := by rw [Lib.cell_of_heap hbk]; rfl
  have hsz := hb1.size
  have HBK := Lib.hid hbk
  have HB1 := Lib.hid hb1
  have HK1 := Lib.hid hk1
  have hlen : Hid ((Lib.byteCells l).length = l.length) := Lib.byteCells_length l
  clear hown0 hbk hb1 hk1
  go_wp2_with (at_builtin; go_must (refine Lib.wpList_append_own_stringF _ rfl (.tmp 12) (.tmp 13) 27 9 rfl B 5 i0 Tryz.underlying27 Tryz.underlying9 hi hz0 hz1 hz2 v _ _ rfl hown.out s rfl ?c3 ?c4 ?c5 ?_))
  case c3 => rw [hlen.out]; unfold maxLen; omega
  case c4 => rw [hlen.out]; omega
  case c5 => omega
  intro v2 w2 hown2 hgrow _
  obtain ⟨⟨ad, n2, cap, rfl⟩, hb2, R1, R2, R3⟩ := bld_grown (p := s.data.toList) (w := w) hB HBK.out hne (fun _ _ => rfl) (Nat.le_refl _) hgrow HB1.out HK1.out hown.out (by rw [hlen.out]; simp) hown2 (by omega)
  have d0 : w2.cell? ⟨b, 0, none⟩ = some (.pointer (some ⟨b, 0, none⟩)) := by rw [Lib.cell_of_heap hb2]; rfl
  have d1 : w2.cell? ⟨b, 1, none⟩ = some v := by rw [Lib.cell_of_heap hb2]; rfl
  have f1 : w2.frozen? ⟨b, 1, none⟩ = false := Lib.frozen_of_heap hb2 1
  have R := Lib.hid (And.intro R1 (And.intro R2 R3))
  clear R1 R2 R3 hown2 hgrow hb2
  go_wp2_with fail
  go_ret2
  exact ⟨rfl, R.out⟩
theorem str_k (B b : Nat) (l : List UInt8) (s : ByteArray) (hs : s = ⟨l.toArray⟩) (w : World) (h : BldK B b l w) (hBw : B ≤ w.heap.size) :
    Calls Tryz.prog 36 #[.pointer (some ⟨b, 0, none⟩)] w fun e w' => e = .returned (.string s) ∧ BldK B b l w' ∧ Below B w w' ∧ Lib.OthersKept 5 (some b) w w' := by
  subst hs
  exact Tryz.Builder_String_any_k B b l w h hBw
theorem bld_new (w : World) (B : Nat) (h : B ≤ w.heap.size) : BldK B w.heap.size [] (w.alloc (.cells #[.pointer none, .slice none 0 0] 80)) :=
  .of (.inl ⟨h, .slice none 0 0, World.alloc_heap_new _ _, World.ownsRow_nil _ _ 5 1, by simp [Value.ownBlock]⟩)
end Go.Proofs.YtiapkindbbbdpaaGreatDoor
