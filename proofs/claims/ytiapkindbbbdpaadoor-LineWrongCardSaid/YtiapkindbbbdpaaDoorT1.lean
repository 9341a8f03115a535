/- The contract of strings.ToValidUTF8 over the translation. -/
import Derived.Test.YtiapkindbbbdpaaDoorP5
import Derived.Test.YtiapkindbbbdpaaDoorR3
import Derived.Shelf.Strings.MapAny
import Derived.Shelf.Strings.Builder2Cap
import Derived.Lib.RuneCountTail
namespace Go.Proofs.YtiapkindbbbdpaaDoor
open Go.RowKit Go.Shelf

abbrev U8 (w : World) : Prop := Lib.Utf8Tabs 3 4 w
theorem U8.on {w w' : World} (h : U8 w) (h4 : 4 < w.heap.size) (hb : Below w.heap.size w w') : U8 w' :=
  ⟨fun c hc => (hb.cell (p := ⟨3, c, none⟩) (by show 3 < _; omega)).trans (h.1 c hc), fun i hi => ⟨(hb.cell (p := ⟨4, 2 * i, none⟩) h4).trans (h.2 i hi).1, (hb.cell (p := ⟨4, 2 * i + 1, none⟩) h4).trans (h.2 i hi).2⟩⟩
theorem U8.lt {w : World} (h : U8 w) : 4 < w.heap.size := by
  have := (h.2 0 (by omega)).1
  rcases Nat.lt_or_ge 4 w.heap.size with h' | h'
  · exact h'
  · unfold World.cell? at this
    rw [Array.getElem?_eq_none h'] at this
    cases this
theorem dec_to (s : ByteArray) (pos : Nat) (hlt : pos < s.size) (R K : Nat) (h : Utf8.decode s pos = (R, K)) (w : World) (hT : U8 w) :
    Calls Tryd.prog 71 #[.string (s.extract pos s.size)] w fun e w' => e = .returned (.tuple #[.int .i32 R, .int .i64 K]) ∧ Below w.heap.size w w' := by
  have h1 := Tryd.utf8_DecodeRuneInString (s.extract pos s.size) w hT
  have h2 : Lib.decodeGo (s.extract pos s.size) = (R, K) := by
    unfold Lib.decodeGo
    rw [if_neg (by rw [ByteArray.size_extract]; omega), Lib.tail_decode, Nat.add_zero]
    exact h
  rw [h2] at h1
  exact h1
theorem cap_cell (b : Nat) (p : Option Addr) (n cap : Nat) (w : World) (c1 : w.cell? ⟨b, 1, none⟩ = some (.slice p n cap)) :
    Calls Tryd.prog 88 #[.pointer (some ⟨b, 0, none⟩)] w fun e w' => e = .returned (.int .i64 cap) ∧ w = w' := by
  go_enter Tryd.func88, Tryd.ntmps88
  go_wp2_with fail
  go_ret
  exact ⟨rfl, rfl⟩
set_option maxRecDepth 100000 in
set_option maxHeartbeats 1000000 in
theorem wsc_k (B b : Nat) (s : ByteArray) (hl : s.size < 1000000) (w : World) (h : Lib.BuilderAt 86 5 B b (.pointer (some ⟨b, 0, none⟩)) [] w) (hBw : B ≤ w.heap.size) (v0 : Value) (hv0 : w.cell? ⟨b, 1, none⟩ = some v0) (hcap : 1 ≤ v0.capOf) :
    Calls Tryd.prog 44 #[.pointer (some ⟨b, 0, none⟩), .string s] w fun e w' => e = .returned (.tuple #[.int .i64 s.size, .nilIface]) ∧ BldK B b s.data.toList w' ∧ Below B w w' ∧ ∃ p n cap, w'.cell? ⟨b, 1, none⟩ = some (.slice p n cap) ∧ 1 ≤ cap := by
  obtain ⟨i0, hi, hz0, hz1, hz2⟩ := info5p
  have hF : Lib.IsBuilderF 86 5 B b (Lib.byteCells []) w := .of (.inr h)
  have hc0 := h.cell0
  have hcall := Lib.hid (cc_used b w hc0)
  obtain ⟨hB, v, hbk, hown1, hne⟩ := h
  obtain rfl : v = v0 := by
    rw [Lib.cell_of_heap hbk] at hv0
    exact Option.some.inj hv0
  have hown0 : w.ownsRowF B 5 1 v (Lib.byteCells []).length (Lib.byteCells []) := by
    rcases hF with hF | hF
    · obtain ⟨_, v', hb', _⟩ := hF
      rw [hbk] at hb'
      simp at hb'
    · obtain ⟨_, v', hb', ho', _⟩ := hF
      rw [hbk] at hb'
      simp at hb'
      rw [hb']
      exact ho'
  have hown := Lib.hid hown0
  have hlt : b < w.heap.size := (Array.getElem?_eq_some_iff.1 hbk).1
  have hlen : Hid ((Lib.byteCells ([] : List UInt8)).length = 0) := Lib.hid rfl
  have HBK := Lib.hid hbk
  have f1 : w.frozen? ⟨b, 1, none⟩ = false := Lib.frozen_of_heap hbk 1
  replace hcap := Lib.hid hcap
  clear hown0 hown1 hF hbk
  go_enter Tryd.func44, Tryd.ntmps44
  go_wp2_with fail
  refine hcall.out.mono ?_; rintro e w1 ⟨rfl, rfl⟩
  clear hcall
  go_wp2_with (at_builtin; go_must (refine Lib.wpList_append_own_stringF_cap _ rfl (.tmp 12) (.tmp 13) 57 9 rfl B 5 i0 Tryd.underlying57 Tryd.underlying9 hi hz0 hz1 hz2 v _ _ rfl hown.out s rfl ?c3 ?c4 ?c5 ?_))
  case c3 => rw [hlen.out]; unfold maxLen; omega
  case c4 => rw [hlen.out]; omega
  case c5 => omega
  intro v2 w2 hown2 hgrow _ hcap2
  obtain ⟨⟨ad, n2, cap, rfl⟩, hb2, R1, R2, R3⟩ := bld_grown (p := s.data.toList) (l := []) (w := w1) hB HBK.out hne (fun _ _ => rfl) (Nat.le_refl _) hgrow (Below.refl _ _) (Lib.OthersKept.refl _ _ _) hown.out (by rw [hlen.out]; simp) hown2 (by omega)
  have d0 : w2.cell? ⟨b, 0, none⟩ = some (.pointer (some ⟨b, 0, none⟩)) := by rw [Lib.cell_of_heap hb2]; rfl
  have d1 : w2.cell? ⟨b, 1, none⟩ = some v := by rw [Lib.cell_of_heap hb2]; rfl
  have f1 : w2.frozen? ⟨b, 1, none⟩ = false := Lib.frozen_of_heap hb2 1
  have hbn : (w2.setCell ⟨b, 1, none⟩ (.slice ad n2 cap)).heap[b]? = some (.cells #[.pointer (some ⟨b, 0, none⟩), .slice ad n2 cap] 86 (0, 0)) := by
    unfold World.setCell
    simp [Array.getElem?_modify, hb2]
  have hce : (w2.setCell ⟨b, 1, none⟩ (.slice ad n2 cap)).cell? ⟨b, 1, none⟩ = some (.slice ad n2 cap) := by rw [Lib.cell_of_heap hbn]; rfl
  have hc1 : 1 ≤ cap := Nat.le_trans hcap.out hcap2
  have R := Lib.hid (show _ ∧ _ ∧ ∃ p n c, (w2.setCell ⟨b, 1, none⟩ (.slice ad n2 cap)).cell? ⟨b, 1, none⟩ = some (.slice p n c) ∧ 1 ≤ c from ⟨R1, R2, _, _, _, hce, hc1⟩)
  clear R1 R2 R3 hown2 hgrow hb2 hcap2 hce hbn
  go_wp2_with fail
  go_ret2
  exact ⟨rfl, R.out⟩
/-- What ToValidUTF8 returns. -/
def TRet (s : ByteArray) (w : World) (e : Ending) (w' : World) : Prop := (∃ u : ByteArray, e = .returned (.string u) ∧ good u.data.toList ∧ u.size ≤ 2 * s.size) ∧ Below w.heap.size w w'
theorem bldF_new {B b : Nat} {p : Value} {bs : List Value} {w w' : World} (h : Lib.BuilderAtF 86 5 B b p bs w) (hb : Below w.heap.size w w') : Lib.BuilderAtF 86 5 B b p bs w' := by
  obtain ⟨hB, v, h1, hown, hne⟩ := h
  refine ⟨hB, v, (hb.block b (Array.getElem?_eq_some_iff.1 h1).1).trans h1, ⟨hown.1, ?_⟩, hne⟩
  rcases hown.2 with h2 | ⟨g, cap, cur, fz, hv, hbg, hg, rest⟩
  · exact .inl h2
  · exact .inr ⟨g, cap, cur, fz, hv, hbg, (hb.block g (Array.getElem?_eq_some_iff.1 hg).1).trans hg, rest⟩
theorem bld_below {B b : Nat} {l : List UInt8} {w w' : World} (h : BldK B b l w) (hb : Below w.heap.size w w') : BldK B b l w' := by
  rcases h with h | h
  · exact .inl (bldF_new h hb)
  · exact .inr (bldF_new h hb)
/-- What the first loop keeps. -/
def TvI (w : World) (s : ByteArray) (pos : Nat) (W : World) : Prop :=
  W.heap[w.heap.size]? = some (.cells #[.pointer none, .slice none 0 0] 86 (0, 0)) ∧ W.heap[w.heap.size + 1]? = some (.stringIter s pos) ∧ Below w.heap.size w W ∧ good (s.data.toList.take pos)
theorem TvI.next {w : World} {s : ByteArray} {pos p2 : Nat} {W : World} (h : TvI w s pos W) (hg : good (s.data.toList.take p2)) : TvI w s p2 (W.iterAt (w.heap.size + 1) s p2) := by
  obtain ⟨h1, h2, h3, _⟩ := h
  exact ⟨(Lib.iterAt_other W _ _ s p2 (by omega)).trans h1, Lib.iterAt_heap W _ s pos p2 h2, Lib.below_iterAt h3 (by omega) s p2, hg⟩
theorem TvI.on {w : World} {s : ByteArray} {pos : Nat} {W W' : World} (h : TvI w s pos W) (hb : Below W.heap.size W W') : TvI w s pos W' := by
  obtain ⟨h1, h2, h3, h4⟩ := h
  exact ⟨(hb.block _ (Array.getElem?_eq_some_iff.1 h1).1).trans h1, (hb.block _ (Array.getElem?_eq_some_iff.1 h2).1).trans h2, h3.trans (hb.mono h3.size), h4⟩
theorem good_next (s : ByteArray) (pos : Nat) (hlt : pos < s.size) (R K : Nat) (hd : Utf8.decode s pos = (R, K)) (hv : ¬ (R = 65533 ∧ K = 1)) (hg : good (s.data.toList.take pos)) : good (s.data.toList.take (pos + K)) := by
  have hne : s.data.toList.drop pos ≠ [] := by
    intro h
    have := congrArg List.length h
    rw [List.length_drop] at this
    simp at this
    omega
  have h := good_take _ hne (by rw [Lib.decodeL_drop, hd]; exact hv)
  rw [Lib.decodeL_drop, hd] at h
  rw [List.take_add]
  exact good_app hg h
theorem dec_wid (s : ByteArray) (pos : Nat) (hlt : pos < s.size) (R K : Nat) (hd : Utf8.decode s pos = (R, K)) : 1 ≤ K ∧ pos + K ≤ s.size := by
  have hne : s.data.toList.drop pos ≠ [] := by
    intro h
    have := congrArg List.length h
    rw [List.length_drop] at this
    simp at this
    omega
  have h1 := Lib.decode_width_pos s pos hlt
  have h2 := Lib.decodeL_le _ hne
  rw [Lib.decodeL_drop, hd, List.length_drop] at h2
  rw [hd] at h1
  simp at h1 h2
  omega
set_option maxRecDepth 100000 in
set_option maxHeartbeats 2000000 in
theorem tov_any (s : ByteArray) (hs : s.size ≤ 1000) (w : World) (hT : U8 w) : Calls Tryd.prog 66 #[.string s, .string ⟨#[195, 169]⟩] w (TRet s w) := by
  have I0 : Hid (TvI w s 0 ((w.alloc (.cells #[.pointer none, .slice none 0 0] 86)).iter s 0)) := by
    have h2 := World.iter_heap (w.alloc (.cells #[.pointer none, .slice none 0 0] 86)) s 0
    rw [World.size_alloc] at h2
    exact ⟨(Lib.alloc_old _ _ _ (by simp)).trans (World.alloc_heap_new _ _), h2, ((Below.refl _ _).alloc (Nat.le_refl _) _).alloc (by simp) _, by rw [List.take_zero]; exact good_nil⟩
  replace hT := Lib.hid (fun (W : World) (h : Below w.heap.size w W) => hT.on hT.lt h)
  have hz : Hid (s.data.toList.length = s.size) := by show _ = _; simp
  go_enter Tryd.func66, Tryd.ntmps66
  go_wp2_with fail
  generalize (w.alloc (.cells #[.pointer none, .slice none 0 0] 86)).iter s 0 = W0 at I0 ⊢
  go_loopg [0] (s.size + 1) (fun g s0 wx => ∃ pos : Nat, pos ≤ s.size ∧ s.size - pos < g ∧ s0 = .string s ∧ Hid (TvI w s pos wx))
  case atStart => exact ⟨0, by omega, by omega, rfl, I0⟩
  case round =>
    clear I0
    obtain ⟨pos, hp, hg, rfl, I⟩ := hrel
    have hit := I.out.2.1
    by_cases hlt : pos < s.size
    · have hnx : ∀ ty, (Instr.next (.pointer (some ⟨w.heap.size + 1, 0, none⟩)) true ty).run Tryd.prog wr = _ := fun ty => Lib.run_next_any_at wr (w.heap.size + 1) s pos ty hit hlt
      obtain ⟨R, K, hd⟩ : ∃ R K, Hid (Utf8.decode s pos = (R, K)) := ⟨_, _, Lib.hid rfl⟩
      rw [hd.out] at hnx
      simp only at hnx
      obtain ⟨hw1, hw2⟩ := dec_wid s pos hlt R K hd.out
      by_cases hv : R = 65533 ∧ K = 1
      · obtain ⟨rfl, rfl⟩ := hv
        have I2 : Hid (TvI w s (pos + 1) (wr.iterAt (w.heap.size + 1) s (pos + 1)) ∨ True) := Lib.hid (.inr trivial)
        clear I2
        obtain ⟨J1, J2, J3, J4⟩ := I.out
        have JB := Lib.hid (Lib.below_iterAt J3 (show w.heap.size ≤ w.heap.size + 1 by omega) s (pos + 1))
        have JF := Lib.hid ((Lib.iterAt_other wr (w.heap.size + 1) w.heap.size s (pos + 1) (by omega)).trans J1)
        have JG := Lib.hid J4
        have hdc := Lib.hid (dec_to s pos hlt _ 1 hd.out (wr.iterAt (w.heap.size + 1) s (pos + 1)) (hT.out _ JB.out))
        have hlt0 : Hid (w.heap.size < (wr.iterAt (w.heap.size + 1) s (pos + 1)).heap.size) := Lib.hid (Array.getElem?_eq_some_iff.1 JF.out).1
        have t2 : decide (pos ≤ s.size) = true := decide_eq_true (by omega)
        clear hit hd I J1 J2 J3 J4
        go_wp2_with fail
        refine hdc.out.mono ?_; rintro e w2 ⟨rfl, hb⟩
        replace JF := Lib.hid ((hb.block w.heap.size hlt0.out).trans JF.out)
        replace JB := Lib.hid (JB.out.trans (hb.mono JB.out.size))
        have hgr := Any.Builder_Grow_fresh_cap Tryd.lays165 Tryd.Builder_Extra_165 w.heap.size w.heap.size (s.size + 2) w2 (Nat.le_refl _) JF.out JB.out.size (by omega)
        rw [show ((s.size + 2 : Nat) : Int) = (s.size : Int) + 2 from rfl] at hgr
        replace hgr := Lib.hid hgr
        clear hdc hb hlt0 hnx
        go_wp2_with fail
        refine (hgr.out).mono ?_; rintro e w3 ⟨rfl, ⟨hbl, hb⟩, p, cap, hc1, hcap⟩
        replace JB := Lib.hid (JB.out.trans hb)
        have hws := Lib.hid (wsc_k w.heap.size w.heap.size (s.extract 0 pos) (by rw [ByteArray.size_extract]; omega) w3 hbl JB.out.size _ hc1 (show 1 ≤ cap by omega))
        clear hgr hb hbl hc1 hcap JF
        go_wp2_with fail
        refine (hws.out).mono ?_; rintro e w4 ⟨rfl, hbl, hb, p2, n2, cap2, hc2, hcap2⟩
        replace JB := Lib.hid (JB.out.trans hb)
        have hcp := Lib.hid (cap_cell w.heap.size p2 n2 cap2 w4 hc2)
        have t5 : ((cap2 : Int) == 0) = false := by simp; omega
        rw [ex_take] at hbl
        replace hbl := Lib.hid hbl
        clear hws hb hc2
        go_wp2_with fail
        refine (hcp.out).mono ?_; rintro e w5 ⟨rfl, rfl⟩
        clear hcp
        obtain ⟨s2, hs2⟩ : ∃ s2, Hid (s.extract pos s.size = s2) := ⟨_, Lib.hid rfl⟩
        have hz2 : s2.size + pos ≤ s.size := by rw [← hs2.out, ByteArray.size_extract]; omega
        have hs2' := hs2.out
        go_wp2_with fail
        clear hs2' t5 hw1 hw2 t2
        go_loopg [10, 11] (s2.size + 1) (fun g s10 s11 wx => ∃ (i : Nat) (b : Bool) (acc : List UInt8), i ≤ s2.size ∧ s2.size - i < g ∧ s10 = .bool b ∧ s11 = .int .i64 i ∧ acc.length ≤ pos + 2 * i ∧ Hid (BldK w.heap.size w.heap.size acc wx) ∧ Hid (Below w.heap.size w wx) ∧ Hid (good acc))
        case atStart => exact ⟨0, false, s.data.toList.take pos, by omega, by omega, rfl, rfl, by rw [List.length_take]; omega, hbl, JB, JG⟩
        case round =>
          clear hbl JB JG
          obtain ⟨i, b, acc, hi, hg2, rfl, rfl, hal, hbl, JB, JG⟩ := hrel
          by_cases hlt2 : i < s2.size
          · have t3 : decide (i < s2.size) = true := decide_eq_true hlt2
            obtain ⟨c, hc, hB⟩ := byt_u s2 i hlt2
            by_cases h128 : c.toNat < 128
            · have t4 : decide ((c.toNat : Int) < 128) = true := decide_eq_true (by omega)
              have hwb := Lib.hid (wb_k w.heap.size w.heap.size acc c (by omega) wr hbl.out JB.out.size)
              have hg3 := Lib.hid (good_app JG.out (good_byte c h128))
              clear hc hbl JG
              go_wp2_with fail
              refine (hwb.out).mono ?_; rintro e w6 ⟨rfl, hbl, hb, _⟩
              replace hbl := Lib.hid hbl
              replace JB := Lib.hid (JB.out.trans hb)
              clear hwb hb
              go_wp2_with fail
              go_roundg (gk - 1)
              case measure => omega
              case rel => exact ⟨i + 1, false, _, by omega, by omega, rfl, by go_num, by simp; omega, hbl, JB, hg3⟩
            · have t4 : decide ((c.toNat : Int) < 128) = false := decide_eq_false (by omega)
              obtain ⟨R, K, hd⟩ : ∃ R K, Hid (Utf8.decode s2 i = (R, K)) := ⟨_, _, Lib.hid rfl⟩
              obtain ⟨hw1, hw2⟩ := dec_wid s2 i hlt2 R K hd.out
              have hdc := Lib.hid (dec_to s2 i hlt2 R K hd.out wr (hT.out _ JB.out))
              have t5 : decide (i ≤ s2.size) = true := decide_eq_true (by omega)
              by_cases hK : K = 1
              · subst hK
                clear hd hc
                cases b with
                | true =>
                  go_wp2_with fail
                  refine (hdc.out).mono ?_; rintro e w6 ⟨rfl, hb⟩
                  replace hbl := Lib.hid (bld_below hbl.out hb)
                  replace JB := Lib.hid (JB.out.trans (hb.mono JB.out.size))
                  clear hdc hb
                  go_wp2_with fail
                  go_roundg (gk - 1)
                  case measure => omega
                  case rel => exact ⟨i + 1, true, _, by omega, by omega, rfl, by go_num, by omega, hbl, JB, JG⟩
                | false =>
                  go_wp2_with fail
                  refine (hdc.out).mono ?_; rintro e w6 ⟨rfl, hb⟩
                  replace hbl := Lib.hid (bld_below hbl.out hb)
                  replace JB := Lib.hid (JB.out.trans (hb.mono JB.out.size))
                  have hws := Lib.hid (ws_k w.heap.size w.heap.size acc ⟨#[195, 169]⟩ (by show acc.length + 2 < _; omega) w6 hbl.out JB.out.size)
                  have hg3 := Lib.hid (good_app JG.out good_e)
                  clear hdc hb hbl JG
                  go_wp2_with fail
                  refine (hws.out).mono ?_; rintro e w7 ⟨rfl, hbl, hb, _⟩
                  replace hbl := Lib.hid hbl
                  replace JB := Lib.hid (JB.out.trans hb)
                  clear hws hb
                  go_wp2_with fail
                  go_roundg (gk - 1)
                  case measure => omega
                  case rel => exact ⟨i + 1, true, _, by omega, by omega, rfl, by go_num, by simp; omega, hbl, JB, hg3⟩
              · have hne : s2.data.toList.drop i ≠ [] := by
                  intro h
                  have := congrArg List.length h
                  rw [List.length_drop] at this
                  simp at this
                  omega
                have hgt := good_take _ hne (by rw [Lib.decodeL_drop, hd.out]; exact fun h => hK h.2)
                rw [Lib.decodeL_drop, hd.out] at hgt
                have t6 : ((K : Int) == 1) = false := by simp; omega
                have hxd : (s2.extract i (i + K)).data.toList = (s2.data.toList.drop i).take K := by rw [ba_drop_take, Nat.add_sub_cancel_left]
                have hg3 := Lib.hid (good_app JG.out hgt)
                obtain ⟨u, hu⟩ : ∃ u, Hid (s2.extract i (i + K) = u) := ⟨_, Lib.hid rfl⟩
                rw [← hxd, hu.out] at hg3
                have huz : u.size = K := by rw [← hu.out, ByteArray.size_extract]; omega
                have hu' : s2.extract i (i + K) = u := hu.out
                have u1 : decide ((i : Int) ≤ (i : Int) + (K : Int)) = true := decide_eq_true (by omega)
                have u2 : decide (i ≤ i + K) = true := decide_eq_true (by omega)
                have u3 : decide (i + K ≤ s2.size) = true := decide_eq_true (by omega)
                have u4 : decide ((i : Int) + (K : Int) ≤ (s2.size : Int)) = true := decide_eq_true (by omega)
                have u5 : ((i : Int) + (K : Int)).toNat = i + K := by omega
                clear hd hc hgt hne hxd
                go_wp2_with fail
                refine (hdc.out).mono ?_; rintro e w6 ⟨rfl, hb⟩
                replace hbl := Lib.hid (bld_below hbl.out hb)
                replace JB := Lib.hid (JB.out.trans (hb.mono JB.out.size))
                have hws := Lib.hid (ws_k w.heap.size w.heap.size acc u (by omega) w6 hbl.out JB.out.size)
                clear hdc hb hbl JG
                go_wp2_with fail
                refine (hws.out).mono ?_; rintro e w7 ⟨rfl, hbl, hb, _⟩
                replace hbl := Lib.hid hbl
                replace JB := Lib.hid (JB.out.trans hb)
                clear hws hb hu'
                go_wp2_with fail
                go_roundg (gk - 1)
                case measure => omega
                case rel => exact ⟨i + K, false, _, by omega, by omega, rfl, by go_num, by rw [List.length_append, show u.data.toList.length = u.size by simp, huz]; omega, hbl, JB, hg3⟩
          · obtain rfl : i = s2.size := by omega
            have t3 : decide (s2.size < s2.size) = false := decide_eq_false (by omega)
            have hst := Lib.hid (str_k w.heap.size w.heap.size acc ⟨acc.toArray⟩ rfl wr hbl.out JB.out.size)
            clear hbl
            go_wp2_with fail
            refine (hst.out).mono ?_; rintro e w7 ⟨rfl, _, hb, _⟩
            replace JB := Lib.hid (JB.out.trans hb)
            go_wp2_with fail
            go_ret
            exact ⟨⟨_, rfl, JG.out, by rw [ba_size]; omega⟩, JB.out⟩
      · have hg2 := good_next s pos hlt R K hd.out hv I.out.2.2.2
        have I2 := Lib.hid (I.out.next hg2)
        by_cases hR : R = 65533
        · subst hR
          have hK : K ≠ 1 := fun e => hv ⟨rfl, e⟩
          have hdc := Lib.hid (dec_to s pos hlt _ K hd.out (wr.iterAt (w.heap.size + 1) s (pos + K)) (hT.out _ I2.out.2.2.1))
          have t1 : ((K : Int) == 1) = false := by simp; omega
          have t2 : decide (pos ≤ s.size) = true := decide_eq_true (by omega)
          clear hit hg2 hd I
          go_wp2_with fail
          refine hdc.out.mono ?_; rintro e w2 ⟨rfl, hb⟩
          replace I2 := Lib.hid (I2.out.on hb)
          clear hdc hb
          go_wp2_with fail
          go_roundg (gk - 1)
          case measure => omega
          case rel => exact ⟨pos + K, by omega, by omega, rfl, I2⟩
        · have t1 : ((R : Int) != 65533) = true := by simp; omega
          clear hit hg2 hd I
          go_wp2_with fail
          go_roundg (gk - 1)
          case measure => omega
          case rel => exact ⟨pos + K, by omega, by omega, rfl, I2⟩
    · obtain rfl : pos = s.size := by omega
      have hnx : ∀ ty, (Instr.next (.pointer (some ⟨w.heap.size + 1, 0, none⟩)) true ty).run Tryd.prog wr = _ := fun ty => Lib.run_next_end_at wr (w.heap.size + 1) s s.size ty hit hlt
      have hfr := I.out.1
      have hc1 : wr.cell? ⟨w.heap.size, 1, none⟩ = some (.slice none 0 0) := by rw [Lib.cell_of_heap hfr]; rfl
      have hcp := Lib.hid (cap_cell w.heap.size none 0 0 wr hc1)
      have hgood := I.out.2.2.2
      rw [List.take_of_length_le (by rw [hz.out]; exact Nat.le_refl _)] at hgood
      have hgd := Lib.hid hgood
      have hB := Lib.hid I.out.2.2.1
      clear hit hfr hc1 hgood I
      go_wp2_with fail
      refine hcp.out.mono ?_; rintro e w2 ⟨rfl, rfl⟩
      go_wp2_with fail
      go_ret
      exact ⟨⟨s, rfl, hgd.out, by omega⟩, hB.out⟩
/-- What text returns. -/
def XRet (w : World) (e : Ending) (w' : World) : Prop := (∃ u : ByteArray, e = .returned (.string u) ∧ vld u = true ∧ u.size ≤ 40) ∧ Below w.heap.size w w'
theorem text_any (s : ByteArray) (w : World) (hT : U8 w) : Calls Tryd.prog 42 #[.string s] w (XRet w) := by
  obtain ⟨u, hu⟩ : ∃ u, Hid (s.extract 0 (min (s.size : Int) 20).toNat = u) := ⟨_, Lib.hid rfl⟩
  have huz : u.size ≤ 20 := by rw [← hu.out, ByteArray.size_extract]; omega
  have hc := Lib.hid (tov_any u (by omega) w hT)
  have hu' := hu.out
  clear hu hT
  go_enter Tryd.func42, Tryd.ntmps42
  go_wp2_with fail
  refine (hc.out).mono ?_; rintro e w1 ⟨⟨v, rfl, hv, hvz⟩, hb⟩
  replace hv := Lib.hid hv
  clear hc
  go_wp2_with fail
  go_ret
  exact ⟨⟨v, rfl, vld_good v hv.out, by omega⟩, hb⟩
end Go.Proofs.YtiapkindbbbdpaaDoor
