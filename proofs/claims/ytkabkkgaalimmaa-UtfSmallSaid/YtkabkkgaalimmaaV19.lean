/- The contracts of gaugerkit.LentInts, KeptInts and mark, and of texts. -/
import Derived.Test.YtkabkkgaalimmaaV18
import Derived.Deep.QuietTactic
import Derived.BigQuiet
namespace Go.Proofs.Ytkabkkgaalimmaa
open Go.RowKit Go.Shelf

theorem info3 : (Try.prog.info? 3).map (fun i => (i.zero, i.size, i.bytes)) = some (some (.int .i64 0), 1, 8) := by kernel_rfl
set_option maxHeartbeats 400000 in
theorem mark_any (i : Int) (h0 : 0 ≤ i) (h1 : i < 4611686018427387904) (w : World) : Calls Try.prog 50 #[.int .i64 1, .int .i64 i] w fun e w' => e = .returned (.int .i64 (8000024 + i)) ∧ w = w' := by
  go_enter Try.func50, Try.ntmps50
  go_wp2_with fail
  go_ret
  exact ⟨rfl, rfl⟩

/-- What LentInts makes. -/
def lentL (L : List Int) (n : Nat) : List Int := L ++ (List.range n).map (fun (i : Nat) => (8000024 + (i : Int)))
theorem lentL_0 (L : List Int) : lentL L 0 = L := by simp [lentL]
theorem lentL_succ (L : List Int) (n : Nat) : lentL L (n + 1) = lentL L n ++ [8000024 + (n : Int)] := by simp [lentL, List.range_succ]
theorem lentL_len (L : List Int) (n : Nat) : (lentL L n).length = L.length + n := by simp [lentL]
theorem lentL_lo (L : List Int) (n i : Nat) (h : i < L.length) : (lentL L n)[i]? = some L[i] := by
  unfold lentL; rw [List.getElem?_append_left h, List.getElem?_eq_getElem h]
theorem lentL_hi (L : List Int) (n i : Nat) (h : i < n) : (lentL L n)[L.length + i]? = some (8000024 + (i : Int)) := by
  unfold lentL; rw [List.getElem?_append_right (by omega)]; simp [h]
theorem one_of_ints (l : List Int) : ∀ c ∈ l.map (Value.int .i64), c.oneCell' = true := by
  intro c h
  obtain ⟨z, _, rfl⟩ := List.mem_map.1 h
  rfl

/-- A slice that LentInts returned. -/
def Lent (W : World) (v : Value) (L : List Int) : Prop :=
  ∃ b cap, v = .slice (some ⟨b, 0, none⟩) L.length cap ∧ b < W.heap.size ∧ L.length + 12 ≤ cap ∧ cap ≤ maxLen ∧ ∀ i, i < L.length + 12 → W.cell? ⟨b, i, none⟩ = (lentL L 12)[i]?.map (Value.int .i64)
theorem Lent.on {W W' : World} {v : Value} {L : List Int} (h : Lent W v L) (hb : Below W.heap.size W W') : Lent W' v L := by
  obtain ⟨b, cap, hv, hlt, h1, h2, hc⟩ := h
  exact ⟨b, cap, hv, Nat.lt_of_lt_of_le hlt hb.size, h1, h2, fun i hi => (hb.cell (p := ⟨b, i, none⟩) hlt).trans (hc i hi)⟩
theorem Lent.row {W : World} {v : Value} {L : List Int} (h : Lent W v L) : Row W v (L.map (Value.int .i64)) := by
  obtain ⟨b, cap, hv, hlt, h1, h2, hc⟩ := h
  refine .inr ⟨b, 0, cap, by rw [hv]; simp, hlt, by simp; omega, h2, fun i hi => ?_⟩
  have hi' : i < L.length := by simpa using hi
  rw [Nat.zero_add, hc i (by omega), lentL_lo L 12 i hi']
  simp

set_option maxRecDepth 100000 in
set_option maxHeartbeats 1000000 in
theorem lent_any (v : Value) (L : List Int) (w : World) (hL : Row w v (L.map (Value.int .i64))) (hlen : L.length ≤ 1000) (n c : Nat) (ad : Option Addr) (hv : v = .slice ad n c) (hn : n = L.length) :
    Calls Try.prog 39 #[v] w fun e w' => (∃ v', e = .returned v' ∧ Lent w' v' L) ∧ Below w.heap.size w w' := by
  subst hn
  subst hv
  have HL := Lib.hid hL
  clear hL
  obtain ⟨inf, hi, hz0, hz1, hz2⟩ := info_parts info3
  have hlm : (L.map (Value.int .i64)).length ≤ 1000 := by simpa using hlen
  go_enter Try.func39, Try.ntmps39
  go_wp2_with (first
    | (at_make; go_must (refine wpList_make_own _ rfl _ _ 34 rfl w.heap.size 3 inf (.int .i64 0) 1 Try.underlying34 hi hz0 hz1 _ _ _ (L.length + 12) rfl rfl (by omega) (by rw [hz2]; omega) (by unfold maxLen; omega) (Nat.le_refl _) ?_); intro w1 hown hg; have HO := Lib.hid hown; have hb1 : Below w.heap.size w w1 := (Below.refl _ w).grown hg (Nat.le_refl _) (fun k e => by cases e); clear hown hg; have HL1 := Lib.hid (HL.out.on hb1))
    | (at_builtin; go_must (refine app_all rfl (.tmp 9) (.tmp 10) 34 rfl w.heap.size 3 (.int .i64 0) 8 Try.underlying34 info3 rfl _ 0 [] rfl _ (L.map (Value.int .i64)) rfl HO.out HL1.out (one_of_ints _) (by omega) (by omega) hb1.size ?_); rintro v2 w2 hown2 hb2 _ _; have HO2 := Lib.hid hown2; clear hown2))
  clear HL HL1 HO
  replace hb1 := hb1.trans hb2
  clear hb2
  have hl0 : Hid (lentL L 0 = L) := lentL_0 L
  go_loopw [3, 4] (fun s3 i wr => ∃ k : Nat, k ≤ 12 ∧ i = .int .i64 k ∧ wr.ownsRow w.heap.size 3 1 s3 (L.length + k) ((lentL L k).map (Value.int .i64)) ∧ Below w.heap.size w wr) (fun _ i _ => 12 - (intOf i).toNat)
  case atStart => exact ⟨0, by omega, rfl, by rw [hl0.out]; simpa using HO2.out, hb1⟩
  case round =>
    obtain ⟨k, hk, rfl, hown, hb⟩ := hrel
    have hH := Lib.hid hown
    clear hown HO2 hb1
    by_cases hlk : k < 12
    · have hsu := Lib.hid (lentL_succ L k)
      have t1 : decide ((k : Int) < 12) = true := decide_eq_true (by omega)
      go_wp2_with fail
      refine (mark_any (k : Int) (by omega) (by omega) _).mono ?_; rintro e w2 ⟨rfl, rfl⟩
      go_wp2_with (at_builtin; go_must (refine app_one rfl (.tmp 16) (.tmp 19) 34 rfl (u := .int .i64 (8000024 + (k : Int))) w.heap.size (.int .i64 0) 8 Try.underlying34 info3 rfl _ (L.length + k) _ rfl rfl hH.out rfl (by omega) (by omega) hb.size ?_); rintro v2 w2 hown2' hb2 hs2 _ hv2; have hown2 := Lib.hid hown2'; clear hown2')
      go_roundw
      case rel => exact ⟨k + 1, by omega, by go_num, by rw [hsu.out, List.map_append]; exact hown2.out, hb.trans hb2⟩
      case measure => simp [intOf]; omega
    · obtain rfl : k = 12 := by omega
      have ho := hH.out
      have hx : ∃ g cap, u3 = Value.slice (some ⟨g, 0, none⟩) (L.length + 12) cap ∧ g < wr.heap.size ∧ L.length + 12 ≤ cap ∧ cap ≤ maxLen := by
        rcases ho.2 with ⟨_, h0⟩ | ⟨g, cap, cur, rfl, _, hg, h1, h2, _⟩
        · omega
        · exact ⟨g, cap, rfl, (Array.getElem?_eq_some_iff.1 hg).1, h1, h2⟩
      obtain ⟨g, cap, rfl, hgl, h1, h2⟩ := hx
      have h2' := h2
      unfold maxLen at h2
      have hcell := Lib.hid (show ∀ i, i < L.length + 12 → wr.cell? ⟨g, i, none⟩ = (lentL L 12)[i]?.map (Value.int .i64) from fun i hi => by rw [ho.cellAt i (by omega), List.getElem?_map])
      clear ho hH
      go_wp2_with fail
      go_ret
      exact ⟨⟨_, rfl, g, cap, rfl, hgl, h1, h2', hcell.out⟩, hb⟩
end Go.Proofs.Ytkabkkgaalimmaa
