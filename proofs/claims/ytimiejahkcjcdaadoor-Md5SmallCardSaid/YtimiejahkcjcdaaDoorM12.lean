/- The builder's walks. -/
import Derived.Test.YtimiejahkcjcdaaDoorM11
import Derived.Shelf.Strings.Builder1
import Derived.Test.YtimiejahkcjcdaaDoorShelf
namespace Go.Proofs.YtimiejahkcjcdaaDoor
open Go.RowKit

theorem bsize : (Tryd.prog.info? 81).map (·.size) = some 2 := by kernel_rfl
set_option maxRecDepth 100000 in
set_option maxHeartbeats 1000000 in
theorem cc_used (b : Nat) (w : World) (hc : w.cell? ⟨b, 0, none⟩ = some (.pointer (some ⟨b, 0, none⟩))) :
    Calls Tryd.prog 48 #[.pointer (some ⟨b, 0, none⟩)] w fun e w' => e = .returned (.tuple #[]) ∧ w' = w := by
  obtain ⟨j, hj, _⟩ := Option.map_eq_some_iff.1 bsize
  go_enter Tryd.func48, Tryd.ntmps48
  go_wp2
  rw [Lib.run_neq_ptr_same w _ Tryd.underlying79 hj]
  go_wp2
  go_end0
  exact ⟨rfl, rfl⟩
set_option maxRecDepth 100000 in
set_option maxHeartbeats 1000000 in
theorem cc_fresh (b : Nat) (w : World) (hc : w.cell? ⟨b, 0, none⟩ = some (.pointer none)) (hs : w.shape? b = some (81, 2)) (hf : w.frozen? ⟨b, 0, none⟩ = false) :
    Calls Tryd.prog 48 #[.pointer (some ⟨b, 0, none⟩)] w fun e w' => e = .returned (.tuple #[]) ∧ w' = w.setCell ⟨b, 0, none⟩ (.pointer (some ⟨b, 0, none⟩)) := by
  obtain ⟨j, hj, hjs⟩ := Option.map_eq_some_iff.1 bsize
  go_enter Tryd.func48, Tryd.ntmps48
  go_wp2
  rw [Lib.run_to_unsafe w ⟨b, 0, none⟩ Tryd.underlying79 Tryd.underlying100 hj (by rw [hjs]; decide) hs (Nat.zero_lt_succ 1)]
  simp only [Result.andThen]
  rw [Oper.upon_value]
  go_wp2
  rw [run_callFunc_extern Tryd.func51 (by kernel_rfl) (by kernel_rfl) (by kernel_rfl) (e := Extern.AbiNoEscape.same) (by kernel_rfl)]
  rw [Lib.run_noEscape]
  simp only [Result.andThen]
  rw [Oper.upon_value]
  go_wp2
  rw [Lib.run_from_unsafe w ⟨b, 0, none⟩ Tryd.underlying100 Tryd.underlying79 hj hs (by kernel_rfl)]
  simp only [Result.andThen]
  rw [Oper.upon_value]
  go_wp2
  go_end0
  exact ⟨rfl, rfl⟩
/-- A builder of this call's own: B is where the call began. -/
abbrev Bld (B b : Nat) (l : List UInt8) (w : World) : Prop := Lib.IsBuilder 81 5 B b (l.map enc8) w
theorem cc_any (B b : Nat) (l : List UInt8) (w : World) (h : Bld B b l w) :
    Calls Tryd.prog 48 #[.pointer (some ⟨b, 0, none⟩)] w fun e w' => e = .returned (.tuple #[]) ∧ Lib.BuilderAt 81 5 B b (.pointer (some ⟨b, 0, none⟩)) (l.map enc8) w' ∧ Below B w w' := by
  rcases h with h | h
  · refine (cc_fresh b w h.cell0 h.shape h.frozen0).mono ?_
    rintro e w' ⟨rfl, rfl⟩
    exact ⟨rfl, h.used _, (Below.refl B w).setCell (p := ⟨b, 0, none⟩) h.1 _⟩
  · refine (cc_used b w h.cell0).mono ?_
    rintro e w' ⟨rfl, rfl⟩
    exact ⟨rfl, h, Below.refl _ _⟩
set_option maxRecDepth 100000 in
set_option maxHeartbeats 1000000 in
theorem wb_any (B b : Nat) (l : List UInt8) (c : UInt8) (hl : l.length < 1000000) (w : World) (h : Bld B b l w) (hBw : B ≤ w.heap.size) :
    Calls Tryd.prog 40 #[.pointer (some ⟨b, 0, none⟩), .int .u8 (c.toNat : Int)] w fun e w' => e = .returned .nilIface ∧ Bld B b (l ++ [c]) w' ∧ Below B w w' := by
  have hcall := Lib.hid (cc_any B b l w h)
  clear h
  go_enter Tryd.func40, Tryd.ntmps40
  go_wp2_with fail
  refine hcall.out.mono ?_; rintro e w1 ⟨rfl, h1, hb1⟩
  clear hcall
  obtain ⟨hB, v, hbk, hown0, hne⟩ := h1
  have hown := Lib.hid hown0
  have c0 : w1.cell? ⟨b, 0, none⟩ = some (.pointer (some ⟨b, 0, none⟩)) := by rw [Lib.cell_of_heap hbk]; rfl
  have c1 : w1.cell? ⟨b, 1, none⟩ = some v := by rw [Lib.cell_of_heap hbk]; rfl
  have hlt : b < w1.heap.size := (Array.getElem?_eq_some_iff.1 hbk).1
  have hsz := hb1.size
  have HBK := Lib.hid hbk
  have HB1 := Lib.hid hb1
  clear hown0 hbk hb1
  go_wp2_with (at_builtin; go_must (refine app_one rfl (.tmp 11) (.tmp 13) 24 rfl (u := .int .u8 (c.toNat : Int)) B (.int .u8 0) 1 Tryd.underlying24 info5 rfl v _ _ rfl rfl hown.out rfl (by omega) ?_ (by omega) ?_; (simp; omega); rintro v2 w2 hown2' hb2 hs2 hrw ⟨g, cap, rfl⟩; have hown2 := Lib.hid hown2'; clear hown2'; have hk2 := (hrw b (fun e => hne e) hlt).trans HBK.out; have d0 : w2.cell? ⟨b, 0, none⟩ = some (.pointer (some ⟨b, 0, none⟩)) := by { rw [Lib.cell_of_heap hk2]; rfl }; have d1 : w2.cell? ⟨b, 1, none⟩ = some v := by { rw [Lib.cell_of_heap hk2]; rfl }; have f1 : w2.frozen? ⟨b, 1, none⟩ = false := Lib.frozen_of_heap hk2 1; have HK2 := Lib.hid hk2; have HB2 := Lib.hid (HB1.out.trans hb2); clear hk2 hb2 hrw))
  go_ret
  refine ⟨rfl, .inr ?_, HB2.out.setCell (p := ⟨b, 1, none⟩) hB _⟩
  refine Lib.BuilderAt.put (T := 81) (e := 5) hB HK2.out (bs' := (l ++ [c]).map enc8) ?_ (by decide)
  have := hown2.out
  rw [show ((l ++ [c]).map enc8).length = l.length + 1 by simp, List.map_append]
  rw [show (l.map enc8).length = l.length by simp] at this
  exact this
theorem str_any (B b : Nat) (l : List UInt8) (s : ByteArray) (hs : s = ⟨l.toArray⟩) (w : World) (h : Bld B b l w) (hBw : B ≤ w.heap.size) :
    Calls Tryd.prog 41 #[.pointer (some ⟨b, 0, none⟩)] w fun e w' => e = .returned (.string s) ∧ Below B w w' := by
  subst hs
  exact Tryd.Builder_String_any B b l w h hBw
theorem bld_new (w : World) (B : Nat) (h : B ≤ w.heap.size) : Bld B w.heap.size [] (w.alloc (.cells #[.pointer none, .slice none 0 0] 81)) :=
  .inl ⟨h, .slice none 0 0, World.alloc_heap_new _ _, World.ownsRow_nil _ _ 5 1, by simp [Value.ownBlock]⟩
end Go.Proofs.YtimiejahkcjcdaaDoor
