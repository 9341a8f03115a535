/- ParseFloat's decimal: in memory, trimmed, shifted, rounded (HA HB HC HD HE HF HG HH GB). -/
import Derived.Test.YtaidemghhagniaaGreatDoorGA
import Derived.Test.YtaidemghhagniaaGreatDoorProg
import Derived.WalkKit
import Derived.IntWalk
import Derived.Below
import Derived.OwnWalk
import Derived.Deep.DeepMust
import Derived.Laws.BitsAllLaws
import Derived.Lib.Hide
import Derived.Outline
import Derived.Deep.QuietTactic
import Derived.BigQuiet
import Derived.Deep.Cut
import Derived.WalkMore
import Derived.RegionTactic
import Derived.ChangeAlike
import Derived.Carry
import Derived.OneCell
import Derived.Test.YtaidemghhagniaaGreatDoorLC
import Derived.Deep.CutBlock
import Derived.Deep.CutRange
import Derived.Deep.DeepCutAuto
section
namespace Go.Proofs.YtaidemghhagniaaGreatDoor
open Go Go.RowKit
structure DecB (w : World) (D : Nat) (g : Nat → Nat) (nd dp : Int) (ng tr : Bool) : Prop where
  ex : ∃ cur : Array Value, w.heap[D]? = some (.cells cur 174 (0, 0)) ∧ (∀ i, i < 800 → cur[i]? = some (.int .u8 (g i : Int))) ∧ cur[800]? = some (.int .i64 nd) ∧ cur[801]? = some (.int .i64 dp) ∧ cur[802]? = some (.bool ng) ∧ cur[803]? = some (.bool tr)
def upd (g : Nat → Nat) (i x : Nat) : Nat → Nat := fun j => if j = i then x else g j
theorem upd_at (g : Nat → Nat) (i x : Nat) : upd g i x i = x := if_pos rfl
theorem upd_ne (g : Nat → Nat) {i j : Nat} (x : Nat) (h : j ≠ i) : upd g i x j = g j := if_neg h
theorem DecB.lt {w : World} {D : Nat} {g : Nat → Nat} {nd dp : Int} {ng tr : Bool} (h : DecB w D g nd dp ng tr) : D < w.heap.size := by
  obtain ⟨cur, h, _⟩ := h.ex
  rcases Nat.lt_or_ge D w.heap.size with h1 | h1
  · exact h1
  · rw [Array.getElem?_eq_none h1] at h; cases h
theorem cell_cur {w : World} {D : Nat} {cur : Array Value} {t : TypeId} (h : w.heap[D]? = some (.cells cur t (0, 0))) (i : Nat) : w.cell? ⟨D, i, none⟩ = cur[i]? := by
  unfold World.cell?; rw [h]; rfl
theorem DecB.cell {w : World} {D : Nat} {g : Nat → Nat} {nd dp : Int} {ng tr : Bool} (h : DecB w D g nd dp ng tr) (i : Nat) (hi : i < 800) : w.cell? ⟨D, i, none⟩ = some (.int .u8 (g i : Int)) := by
  obtain ⟨cur, h, h1, _⟩ := h.ex; rw [cell_cur h]; exact h1 i hi
theorem DecB.nd {w : World} {D : Nat} {g : Nat → Nat} {nd dp : Int} {ng tr : Bool} (h : DecB w D g nd dp ng tr) : w.cell? ⟨D, 800, none⟩ = some (.int .i64 nd) := by
  obtain ⟨cur, h, _, h1, _⟩ := h.ex; rw [cell_cur h]; exact h1
theorem DecB.dp {w : World} {D : Nat} {g : Nat → Nat} {nd dp : Int} {ng tr : Bool} (h : DecB w D g nd dp ng tr) : w.cell? ⟨D, 801, none⟩ = some (.int .i64 dp) := by
  obtain ⟨cur, h, _, _, h1, _⟩ := h.ex; rw [cell_cur h]; exact h1
theorem DecB.ng {w : World} {D : Nat} {g : Nat → Nat} {nd dp : Int} {ng tr : Bool} (h : DecB w D g nd dp ng tr) : w.cell? ⟨D, 802, none⟩ = some (.bool ng) := by
  obtain ⟨cur, h, _, _, _, h1, _⟩ := h.ex; rw [cell_cur h]; exact h1
theorem DecB.tr {w : World} {D : Nat} {g : Nat → Nat} {nd dp : Int} {ng tr : Bool} (h : DecB w D g nd dp ng tr) : w.cell? ⟨D, 803, none⟩ = some (.bool tr) := by
  obtain ⟨cur, h, _, _, _, _, h1⟩ := h.ex; rw [cell_cur h]; exact h1
theorem DecB.fz {w : World} {D : Nat} {g : Nat → Nat} {nd dp : Int} {ng tr : Bool} (h : DecB w D g nd dp ng tr) (i : Nat) : w.frozen? ⟨D, i, none⟩ = false := by
  obtain ⟨cur, h, _⟩ := h.ex
  unfold World.frozen?; simp only [h]; simp
theorem DecB.oth {w w' : World} {D : Nat} {g : Nat → Nat} {nd dp : Int} {ng tr : Bool} (h : DecB w D g nd dp ng tr) (e : w'.heap[D]? = w.heap[D]?) : DecB w' D g nd dp ng tr := by
  obtain ⟨cur, h, h1⟩ := h.ex; exact ⟨cur, e.trans h, h1⟩
theorem DecB.drew {w : World} {D : Nat} {g : Nat → Nat} {nd dp : Int} {ng tr : Bool} (h : DecB w D g nd dp ng tr) (n : Nat) : DecB (w.drewN n) D g nd dp ng tr := h.oth rfl
theorem set_cur {w : World} {D : Nat} {cur : Array Value} {t : TypeId} (h : w.heap[D]? = some (.cells cur t (0, 0))) (i : Nat) (u : Value) : (w.setCell ⟨D, i, none⟩ u).heap[D]? = some (.cells (cur.setIfInBounds i u) t (0, 0)) := by
  simp [World.setCell, Array.getElem?_modify, h]
theorem cur_ne {cur : Array Value} {i j : Nat} (u : Value) (h : i ≠ j) : (cur.setIfInBounds i u)[j]? = cur[j]? := Array.getElem?_setIfInBounds_ne h
theorem cur_eq {cur : Array Value} {i : Nat} {v : Value} (u : Value) (h : cur[i]? = some v) : (cur.setIfInBounds i u)[i]? = some u := by
  have : i < cur.size := by
    rcases Nat.lt_or_ge i cur.size with h1 | h1
    · exact h1
    · rw [Array.getElem?_eq_none h1] at h; cases h
  exact Array.getElem?_setIfInBounds_self_of_lt this
theorem DecB.setD {w : World} {D : Nat} {g : Nat → Nat} {nd dp : Int} {ng tr : Bool} (h : DecB w D g nd dp ng tr) (i x : Nat) (hi : i < 800) : DecB (w.setCell ⟨D, i, none⟩ (.int .u8 (x : Int))) D (upd g i x) nd dp ng tr := by
  obtain ⟨cur, h, h1, h2, h3, h4, h5⟩ := h.ex
  refine ⟨_, set_cur h i _, fun j hj => ?_, ?_, ?_, ?_, ?_⟩
  · by_cases e : j = i
    · subst e; rw [upd_at, cur_eq _ (h1 j hj)]
    · rw [upd_ne g x e, cur_ne _ (Ne.symm e)]; exact h1 j hj
  · rw [cur_ne _ (by omega)]; exact h2
  · rw [cur_ne _ (by omega)]; exact h3
  · rw [cur_ne _ (by omega)]; exact h4
  · rw [cur_ne _ (by omega)]; exact h5
theorem DecB.setN {w : World} {D : Nat} {g : Nat → Nat} {nd dp : Int} {ng tr : Bool} (h : DecB w D g nd dp ng tr) (x : Int) : DecB (w.setCell ⟨D, 800, none⟩ (.int .i64 x)) D g x dp ng tr := by
  obtain ⟨cur, h, h1, h2, h3, h4, h5⟩ := h.ex
  refine ⟨_, set_cur h 800 _, fun j hj => ?_, cur_eq _ h2, ?_, ?_, ?_⟩
  · rw [cur_ne _ (by omega)]; exact h1 j hj
  · rw [cur_ne _ (by omega)]; exact h3
  · rw [cur_ne _ (by omega)]; exact h4
  · rw [cur_ne _ (by omega)]; exact h5
theorem DecB.setP {w : World} {D : Nat} {g : Nat → Nat} {nd dp : Int} {ng tr : Bool} (h : DecB w D g nd dp ng tr) (x : Int) : DecB (w.setCell ⟨D, 801, none⟩ (.int .i64 x)) D g nd x ng tr := by
  obtain ⟨cur, h, h1, h2, h3, h4, h5⟩ := h.ex
  refine ⟨_, set_cur h 801 _, fun j hj => ?_, ?_, cur_eq _ h3, ?_, ?_⟩
  · rw [cur_ne _ (by omega)]; exact h1 j hj
  · rw [cur_ne _ (by omega)]; exact h2
  · rw [cur_ne _ (by omega)]; exact h4
  · rw [cur_ne _ (by omega)]; exact h5
theorem DecB.setG {w : World} {D : Nat} {g : Nat → Nat} {nd dp : Int} {ng tr : Bool} (h : DecB w D g nd dp ng tr) (x : Bool) : DecB (w.setCell ⟨D, 802, none⟩ (.bool x)) D g nd dp x tr := by
  obtain ⟨cur, h, h1, h2, h3, h4, h5⟩ := h.ex
  refine ⟨_, set_cur h 802 _, fun j hj => ?_, ?_, ?_, cur_eq _ h4, ?_⟩
  · rw [cur_ne _ (by omega)]; exact h1 j hj
  · rw [cur_ne _ (by omega)]; exact h2
  · rw [cur_ne _ (by omega)]; exact h3
  · rw [cur_ne _ (by omega)]; exact h5
theorem DecB.setT {w : World} {D : Nat} {g : Nat → Nat} {nd dp : Int} {ng tr : Bool} (h : DecB w D g nd dp ng tr) (x : Bool) : DecB (w.setCell ⟨D, 803, none⟩ (.bool x)) D g nd dp ng x := by
  obtain ⟨cur, h, h1, h2, h3, h4, h5⟩ := h.ex
  refine ⟨_, set_cur h 803 _, fun j hj => ?_, ?_, ?_, ?_, cur_eq _ h5⟩
  · rw [cur_ne _ (by omega)]; exact h1 j hj
  · rw [cur_ne _ (by omega)]; exact h2
  · rw [cur_ne _ (by omega)]; exact h3
  · rw [cur_ne _ (by omega)]; exact h4
theorem DecB.congr {w : World} {D : Nat} {g h : Nat → Nat} {nd dp : Int} {ng tr : Bool} (H : DecB w D g nd dp ng tr) (e : ∀ i, i < 800 → g i = h i) : DecB w D h nd dp ng tr := by
  obtain ⟨cur, a, h1, h2⟩ := H.ex
  exact ⟨cur, a, fun i hi => by rw [← e i hi]; exact h1 i hi, h2⟩
theorem bel_drew {B : Nat} {a w : World} (h : Below B a w) (n : Nat) : Below B a (w.drewN n) := h.trans ⟨rfl, rfl, rfl, Nat.le_refl _, fun _ _ => rfl⟩
end Go.Proofs.YtaidemghhagniaaGreatDoor
end
section
namespace Go.Proofs.YtaidemghhagniaaGreatDoor
open Go Go.RowKit
set_option maxRecDepth 100000 in
set_option maxHeartbeats 2000000 in
theorem dtrim_any (B D : Nat) (g : Nat → Nat) (nd : Nat) (dp : Int) (ng tr : Bool) (w : World) (h : DecB w D g nd dp ng tr) (hn : nd ≤ 800) (hB : B ≤ D) :
    Calls Tryz.prog 164 #[.pointer (some ⟨D, 0, none⟩)] w fun e w' => e = .returned (.tuple #[]) ∧ (∃ n : Nat, n ≤ nd ∧ (∀ i, n ≤ i → i < nd → g i = 48) ∧ (n = 0 ∨ g (n - 1) ≠ 48) ∧ DecB w' D g n (if n = 0 then 0 else dp) ng tr) ∧ Below B w w' := by
  have H0 := Lib.hid h
  clear h
  go_enter Tryz.func164, Tryz.ntmps164
  go_wp2_with fail
  go_loopg [] (nd + 1) (fun gk wx => ∃ n : Nat, n < gk ∧ n ≤ nd ∧ Hid (∀ i, n ≤ i → i < nd → g i = 48) ∧ Hid (DecB wx D g n dp ng tr) ∧ Hid (Below B w wx))
  case atStart => exact ⟨nd, by omega, by omega, Lib.hid (fun i h1 h2 => by omega), H0, Lib.hid (Below.refl _ _)⟩
  case round =>
    obtain ⟨n, hng, hnn, hz, hD, hb⟩ := hrel
    have c1 := hD.out.nd
    have p1 := hD.out.dp
    have f1 := hD.out.fz 800
    have f2 := hD.out.fz 801
    by_cases h0 : n = 0
    · subst h0
      have i1 : decide ((0 : Int) < ((0 : Nat) : Int)) = false := rfl
      go_upto_region 0 with (fail)
      go_quiet (fail)
      go_wp2_with fail
      go_end0
      refine ⟨rfl, ⟨0, by omega, hz.out, .inl rfl, ?_⟩, ?_⟩
      · rw [if_pos rfl]; exact (hD.out.drew _).setP 0
      · exact (bel_drew hb.out _).setCell hB _
    · obtain ⟨m, rfl⟩ : ∃ m, n = m + 1 := ⟨n - 1, by omega⟩
      have i1 : decide ((0 : Int) < ((m + 1 : Nat) : Int)) = true := decide_eq_true (by omega)
      have c2 := hD.out.cell m (by omega)
      have e1 : ((m + 1 : Nat) : Int) - 1 = (m : Int) := by omega
      by_cases h8 : g m = 48
      · have i2 : (((g m : Nat) : Int) == 48) = true := by rw [h8]; rfl
        go_upto_region 0 with (fail)
        go_quiet (fail)
        go_wp2_with fail
        go_roundg (gk - 1)
        case measure => omega
        case rel =>
          refine ⟨m, by omega, by omega, Lib.hid (fun i h1 h2 => ?_), Lib.hid ((hD.out.drew _).setN _), Lib.hid ((bel_drew hb.out _).setCell hB _)⟩
          by_cases e : i = m
          · rw [e]; exact h8
          · exact hz.out i (by omega) h2
      · have i2 : (((g m : Nat) : Int) == 48) = false := by
          rw [beq_eq_false_iff_ne]; omega
        go_upto_region 0 with (fail)
        go_quiet (fail)
        have i3 : (((m + 1 : Nat) : Int) == 0) = false := by rw [beq_eq_false_iff_ne]; omega
        go_wp2_with fail
        go_end0
        refine ⟨rfl, ⟨m + 1, hnn, hz.out, .inr h8, ?_⟩, bel_drew hb.out _⟩
        rw [if_neg (by omega)]; exact hD.out.drew _
end Go.Proofs.YtaidemghhagniaaGreatDoor
end
section
namespace Go.Proofs.YtaidemghhagniaaGreatDoor
open Go Go.RowKit

set_option maxRecDepth 100000 in
set_option maxHeartbeats 2000000 in
theorem dpfx_any (D : Nat) (g : Nat → Nat) (nd : Nat) (dn dp : Int) (ng tr : Bool) (s : ByteArray) (w : World) (h : DecB w D g dn dp ng tr) (hn : nd ≤ 800) (hs : s.size ≤ 1000) :
    Calls Tryz.prog 163 #[.slice (some ⟨D, 0, none⟩) nd 800, .string s] w fun e w' => (∃ b, e = .returned (.bool b) ∧ (b = true → Pfx g nd (sb s) s.size) ∧ (b = false → Nfx g nd (sb s) s.size)) ∧ ∃ n, w' = w.drewN n := by
  have H0 := Lib.hid h
  clear h
  go_enter Tryz.func163, Tryz.ntmps163
  go_wp2_with fail
  go_loopg [5] (s.size + 1) (fun gk s5 wx => ∃ (i m : Nat), s.size - i < gk ∧ i ≤ s.size ∧ s5 = .int .i64 (i : Int) ∧ Hid (∀ j, j < i → j < nd ∧ g j = sb s j) ∧ wx = w.drewN m)
  case atStart => exact ⟨0, 0, by omega, by omega, rfl, Lib.hid (fun j hj => by omega), rfl⟩
  case round =>
    obtain ⟨i, m, hig, hin, rfl, hz, rfl⟩ := hrel
    have hD := H0
    by_cases h0 : i < s.size
    · have i1 : decide ((i : Int) < (s.size : Int)) = true := decide_eq_true (by omega)
      have i1' : decide (i < s.size) = true := decide_eq_true h0
      by_cases h1 : nd ≤ i
      · have i2 : decide ((nd : Int) ≤ (i : Int)) = true := decide_eq_true (by omega)
        have i2' : decide (nd ≤ i) = true := decide_eq_true h1
        go_wp2_with fail
        go_ret
        exact ⟨⟨true, rfl, fun _ => ⟨i, h0, hz.out, .inl h1⟩, fun h => by cases h⟩, m, rfl⟩
      · have i2 : decide ((nd : Int) ≤ (i : Int)) = false := decide_eq_false (by omega)
        have i2' : decide (nd ≤ i) = false := decide_eq_false h1
        have i3' : decide (i < nd) = true := decide_eq_true (by omega)
        have c2 := hD.out.cell i (by omega)
        obtain ⟨c, hc, hB⟩ := bt_u s i h0
        by_cases h2 : g i = c.toNat
        · have i4 : ((g i : Int) == (c.toNat : Int)) = true := by rw [h2]; simp
          go_upto_region 6 with (fail)
          go_quiet (fail)
          go_wp2_with fail
          have hz2 : ∀ j, j < i + 1 → j < nd ∧ g j = sb s j := fun j hj => by
            by_cases e : j = i
            · subst e; exact ⟨by omega, by rw [h2]; unfold sb; rw [hc.out]⟩
            · exact hz.out j (by omega)
          go_roundg (gk - 1)
          case measure => omega
          case rel => exact ⟨i + 1, _, by omega, by omega, by go_num, Lib.hid hz2, rfl⟩
        · have i4 : ((g i : Int) == (c.toNat : Int)) = false := by rw [beq_eq_false_iff_ne]; omega
          go_upto_region 6 with (fail)
          go_quiet (fail)
          go_upto_region 7 with (fail)
          go_quiet (fail)
          have hsb : sb s i = c.toNat := by unfold sb; rw [hc.out]
          go_wp2_with fail
          go_ret
          refine ⟨⟨_, rfl, fun h => ?_, fun h => ?_⟩, _, by rw [World.drewN_drewN, World.drewN_drewN]⟩
          · have := of_decide_eq_true h
            exact ⟨i, h0, hz.out, .inr (by rw [hsb]; omega)⟩
          · have := of_decide_eq_false h
            exact .inr ⟨i, h0, by omega, fun j hj => (hz.out j hj).2, by rw [hsb]; omega⟩
    · obtain rfl : i = s.size := by omega
      have i1 : decide ((s.size : Int) < (s.size : Int)) = false := decide_eq_false (by omega)
      have i1' : decide (s.size < s.size) = false := decide_eq_false (by omega)
      go_wp2_with fail
      go_ret
      exact ⟨⟨false, rfl, (fun h => by cases h), fun _ => .inl hz.out⟩, m, rfl⟩
theorem dpfx_q (D : Nat) (g : Nat → Nat) (nd : Nat) (dn dp : Int) (ng tr : Bool) (s : ByteArray) (w : World) (h : DecB w D g dn dp ng tr) (hn : nd ≤ 800) (hs : s.size ≤ 1000) (hg : Digs g nd) (hd : Digs (sb s) s.size) (h5 : s.size = 0 ∨ 48 < sb s (s.size - 1)) :
    Calls Tryz.prog 163 #[.slice (some ⟨D, 0, none⟩) nd 800, .string s] w fun e w' => e = .returned (.bool (decide (num (ext g nd) s.size < num (sb s) s.size))) ∧ ∃ n, w' = w.drewN n := by
  refine (dpfx_any D g nd dn dp ng tr s w h hn hs).mono ?_
  rintro e w' ⟨⟨b, rfl, h1, h2⟩, h3⟩
  refine ⟨?_, h3⟩
  cases b with
  | true => rw [decide_eq_true (pfx_num hg hd h5 (h1 rfl))]
  | false => rw [decide_eq_false (Nat.not_lt.2 (nfx_num hg hd (h2 rfl)))]
end Go.Proofs.YtaidemghhagniaaGreatDoor
end
section
namespace Go.Proofs.YtaidemghhagniaaGreatDoor
open Go Go.RowKit
/-- The digits, when those from p on are put down. -/
def wl (g : Nat → Nat) (T W p i : Nat) : Nat := if p ≤ i ∧ i < W then lb T W i else g i
theorem wl_end (g : Nat → Nat) (T W i : Nat) : wl g T W W i = g i := by unfold wl; rw [if_neg (by omega)]
theorem wl_lt (g : Nat → Nat) (T W p i : Nat) (h : i < p) : wl g T W p i = g i := by unfold wl; rw [if_neg (by omega)]
theorem wl_step (g : Nat → Nat) (T W p : Nat) (h : p < W) (i : Nat) : upd (wl g T W (p + 1)) p (lb T W p) i = wl g T W p i := by
  by_cases e : i = p
  · subst e; rw [upd_at]; unfold wl; rw [if_pos (by omega)]
  · rw [upd_ne _ _ e]; unfold wl
    by_cases c : p + 1 ≤ i ∧ i < W
    · rw [if_pos c, if_pos (by omega)]
    · rw [if_neg c, if_neg (by omega)]
theorem wl_out (g : Nat → Nat) (T W p i : Nat) (h : 800 ≤ p) (hi : i < 800) : wl g T W (p + 1) i = wl g T W p i := by
  rw [wl_lt g T W _ i (by omega), wl_lt g T W _ i (by omega)]
theorem u64w (n : Int) (h0 : 0 ≤ n) (h1 : n < 18446744073709551616) : IntKind.u64.wrap n = n := by
  rw [IntKind.wrap_u64]; omega
set_option maxRecDepth 100000 in
set_option maxHeartbeats 4000000 in
theorem dshl_raw (B D : Nat) (g : Nat → Nat) (nd k : Nat) (dp : Int) (ng tr : Bool) (w : World) (h : DecB w D g nd dp ng tr) (hn0 : 1 ≤ nd) (hn : nd ≤ 800) (hg : Digs g nd) (h0 : 48 < g 0) (hk : 1 ≤ k) (hk2 : k ≤ 60) (hL : LcP w) (hB : B ≤ D) (hp1 : -100000 ≤ dp) (hp2 : dp ≤ 100000) :
    Calls Tryz.prog 160 #[.pointer (some ⟨D, 0, none⟩), .int .u64 k] w fun e w' => e = .returned (.tuple #[]) ∧ (∃ (dw n : Nat) (q : Nat → Nat), dw ≤ 61 ∧ 10 ^ (nd + dw - 1) ≤ num g nd * 2 ^ k ∧ num g nd * 2 ^ k < 10 ^ (nd + dw) ∧ (∀ i, i < min (nd + dw) 800 → q i = lb (num g nd * 2 ^ k) (nd + dw) i) ∧ n ≤ min (nd + dw) 800 ∧ (∀ i, n ≤ i → i < min (nd + dw) 800 → q i = 48) ∧ (n = 0 ∨ q (n - 1) ≠ 48) ∧ DecB w' D q n (if n = 0 then 0 else dp + dw) ng (tr || lt8 (num g nd * 2 ^ k) (nd + dw) (nd + dw))) ∧ Below B w w' := by
  obtain ⟨b, off, cap, l1, l2, l3⟩ := hL
  obtain ⟨l4, l5⟩ := l3 k (by omega)
  obtain ⟨q1, q2, q3, q4, q5, q6, q7, q8⟩ := ch_ok k hk hk2
  have hlen := shl_len hg hn0 h0 q2 q3 q4 q5 q6
  have hd20 : ldl k ≤ 61 := by omega
  obtain ⟨L, hLL⟩ : ∃ L, L = (lcs k).size := ⟨_, rfl⟩
  have hpf := fun n => dpfx_q D g nd nd dp ng tr (lcs k) (w.drewN n) (h.drew n) hn (by omega) hg q1 (.inr q7)
  obtain ⟨bb, hbb⟩ : ∃ bb, bb = decide (num (ext g nd) (lcs k).size < num (sb (lcs k)) (lcs k).size) := ⟨_, rfl⟩
  rw [← hbb] at hpf
  obtain ⟨dw, hdw⟩ : ∃ dw, dw = if bb = true then ldl k - 1 else ldl k := ⟨_, rfl⟩
  obtain ⟨T, hT⟩ : ∃ T, T = num g nd * 2 ^ k := ⟨_, rfl⟩
  rw [← hT] at hlen
  have hW : 10 ^ (nd + dw - 1) ≤ T ∧ T < 10 ^ (nd + dw) := by
    cases bb with
    | true =>
      rw [if_pos rfl] at hdw
      have := hlen.2 (of_decide_eq_true hbb.symm)
      rw [show nd + ldl k - 1 = nd + dw by omega] at this
      exact this
    | false =>
      rw [if_neg (by decide)] at hdw
      have := hlen.1 (Nat.not_lt.1 (of_decide_eq_false hbb.symm))
      rw [← hdw] at this
      exact this
  have hdw20 : dw ≤ 61 := by split at hdw <;> omega
  have hdt : bb = true → (ldl k : Int) - 1 = (dw : Int) := fun e => by rw [if_pos e] at hdw; omega
  have hdf : bb = false → ldl k = dw := fun e => by rw [e, if_neg (by decide)] at hdw; exact hdw.symm
  obtain ⟨dl, hdl⟩ : ∃ dl, dl = ldl k := ⟨_, rfl⟩
  rw [← hdl] at l4 hdt hdf
  replace hW := Lib.hid hW
  replace hT := Lib.hid hT
  have c1 := h.nd
  have hpf' := Lib.hid hpf
  have H0 := Lib.hid h
  have k1 : decide ((k : Int) < 61) = true := decide_eq_true (by omega)
  have k1' : decide (k < 61) = true := decide_eq_true (by omega)
  have n1 : decide ((nd : Int) ≤ 800) = true := decide_eq_true (by omega)
  have n1' : decide (nd ≤ 800) = true := decide_eq_true (by omega)
  have hal : Tryz.prog.arrayLen 172 = 800 := by kernel_rfl
  have hsl : ∀ W, (Instr.sliceAt 172 (.pointer (some ⟨D, 0, none⟩)) (some (.int .i64 0)) (some (.int .i64 (nd : Int))) none).run Tryz.prog W = .ok (.slice (some ⟨D, 0, none⟩) nd 800) W := fun W => by
    rw [run_sliceAt_array_lh W 172 ⟨D, 0, none⟩ (by simp [Program.arrayLen, Program.elem, Tryz.underlying172]) .i64 .i64 0 (nd : Int) (by omega) (by omega) (by rw [hal]; omega)]
    go_simp
  clear hal
  clear h hpf hlen q1 q2 q3 q4 q5 q6 q7 q8 l3 hLL hdl hbb hdw hd20
  go_enter Tryz.func160, Tryz.ntmps160
  go_upto_region 1 with (fail)
  go_quiet ((go_at_call 163; exact Calls.quiet_of (hpf'.out _)))
  obtain ⟨W, hWd⟩ : ∃ W, W = nd + dw := ⟨_, rfl⟩
  rw [← hWd] at hW
  replace hWd := Lib.hid hWd
  have hD1 : Hid (DecB (w.drewN nq) D (wl g T W (nd + dw)) nd dp ng (tr || lt8 T W (nd - nd))) := Lib.hid (by
    rw [Nat.sub_self, lt8_zero, Bool.or_false, ← hWd.out]
    exact (H0.out.drew nq).congr fun i _ => (wl_end g T W i).symm)
  have hb1 : Hid (Below B w (w.drewN nq)) := Lib.hid (bel_drew (Below.refl _ _) _)
  cases bb
  all_goals
    try (have hdf' := hdf rfl; subst dl)
    try have hdt' := hdt rfl
    clear hdt hdf
    go_upto_block 0 with (fail)
    clear l1 l4 l5 hsl hpf'
    obtain ⟨wq, hwq⟩ : ∃ wq, wq = w.drewN nq := ⟨_, rfl⟩
    rw [← hwq] at hD1 hb1 ⊢
    clear hwq c1
    go_cut [5, 6, 7] (fun s5 s6 s7 wx => ∃ n : Nat, s6 = .int .i64 (dw : Int) ∧ s7 = .int .u64 (n : Int) ∧ Hid (n = T / 10 ^ nd) ∧ n < 2 ^ k ∧ Hid (DecB wx D (wl g T W dw) nd dp ng (tr || lt8 T W nd)) ∧ Hid (Below B w wx))
    case first =>
      go_wp2_with fail
      go_loopg [5, 6, 7] (nd + 1) (fun gk s5 s6 s7 wx => ∃ q p n : Nat, q < gk ∧ q ≤ nd ∧ s5 = .int .i64 ((q : Int) - 1) ∧ s6 = .int .i64 (p : Int) ∧ Hid (p = q + dw) ∧ s7 = .int .u64 (n : Int) ∧ Hid (n + num g q * 2 ^ k = T / 10 ^ (nd - q)) ∧ Hid (n < 2 ^ k) ∧ Hid (DecB wx D (wl g T W p) nd dp ng (tr || lt8 T W (nd - q))) ∧ Hid (Below B w wx))
      case atStart => exact ⟨nd, nd + dw, 0, by omega, by omega, by go_num, by go_num, Lib.hid rfl, rfl, Lib.hid (by rw [← hT.out, Nat.sub_self, Nat.pow_zero, Nat.div_one, Nat.zero_add]), Lib.hid (Nat.two_pow_pos k), hD1, hb1⟩
      case round =>
        obtain ⟨q, p, n, hqg, hqn, rfl, rfl, hp, rfl, hI, hnk, hD, hb⟩ := hrel
        by_cases hq : q = 0
        · subst hq
          have hfin : Hid (p = dw ∧ n = T / 10 ^ nd) := Lib.hid (by
            have := hI.out
            have := hp.out
            rw [show num g 0 = 0 from rfl, Nat.zero_mul, Nat.add_zero, Nat.sub_zero] at hI
            exact ⟨by omega, hI.out⟩)
          clear hI
          rw [show ((0 : Nat) : Int) - 1 = -1 from rfl]
          go_wp2_with fail
          go_meet
          case rel => exact ⟨n, by rw [hfin.out.1], rfl, Lib.hid hfin.out.2, hnk, by rw [← hfin.out.1]; exact hD, hb⟩
        · obtain ⟨m, rfl⟩ : ∃ m, q = m + 1 := ⟨q - 1, by omega⟩
          have hp' := hp.out
          obtain ⟨v, rfl⟩ : ∃ v, p = v + 1 := ⟨p - 1, by omega⟩
          have hv : v = m + dw := by omega
          have hvb : v ≤ 870 := by omega
          have c2 := hD.out.cell m (by omega)
          rw [wl_lt g T W _ m (by omega)] at c2
          have f2 := hD.out.fz v
          have f3 := hD.out.fz 803
          have c3 := hD.out.tr
          obtain ⟨x1, x2⟩ := hg m (by omega)
          obtain ⟨x, hx⟩ : ∃ x, g m = x + 48 := ⟨g m - 48, by omega⟩
          have hx9 : x ≤ 9 := by omega
          rw [hx, Int.natCast_add] at c2
          obtain ⟨y, hy⟩ : ∃ y, y = x * 2 ^ k := ⟨_, rfl⟩
          have hk60 : 2 ^ k ≤ 1152921504606846976 := Nat.pow_le_pow_right (n := 2) (by decide) hk2
          have hyb : y ≤ 10376293541461622784 := by rw [hy]; exact Nat.mul_le_mul hx9 hk60
          have hnb : n < 1152921504606846976 := Nat.lt_of_lt_of_le hnk.out hk60
          have hy1 : IntKind.u64.wrap ((x : Int) * 2 ^ k) = (y : Int) := by
            have e : (x : Int) * 2 ^ k = (y : Int) := by rw [hy, Int.natCast_mul, Int.natCast_pow]; rfl
            rw [e, u64w _ (by omega) (by omega)]
          obtain ⟨N, hN⟩ : ∃ N, N = n + y := ⟨_, rfl⟩
          have hN1 : IntKind.u64.wrap ((n : Int) + (y : Int)) = (N : Int) := by rw [u64w _ (by omega) (by omega)]; omega
          obtain ⟨Q, hQ⟩ : ∃ Q, Q = N / 10 := ⟨_, rfl⟩
          have hQ1 : IntKind.u64.wrap ((N : Int) / 10) = (Q : Int) := by
            rw [u64w _ (by omega) (by omega)]; omega
          have hQ2 : IntKind.u64.wrap (10 * (Q : Int)) = ((10 * Q : Nat) : Int) := by rw [u64w _ (by omega) (by omega)]; omega
          obtain ⟨R, hR⟩ : ∃ R, R = N % 10 := ⟨_, rfl⟩
          have hR1 : IntKind.u64.wrap ((N : Int) - 10 * (Q : Int)) = (R : Int) := by rw [u64w _ (by omega) (by omega)]; omega
          have hR2 : IntKind.u64.wrap ((R : Int) + 48) = (R : Int) + 48 := u64w _ (by omega) (by omega)
          have hR3 : ((R : Int) + 48) % 256 = ((48 + R : Nat) : Int) := by omega
          have hR9 : R ≤ 9 := by omega
          have hst := shl_step g T (2 ^ k) k m (nd - (m + 1)) n hI.out rfl
          rw [hx, Nat.add_sub_cancel, ← hy, ← hN, ← hQ, ← hR, show nd - (m + 1) + 1 = nd - m by omega] at hst
          have hQk : Q < 2 ^ k := by
            have : N < 10 * 2 ^ k := by rw [hN, hy]; have := Nat.mul_le_mul_right (2 ^ k) hx9; have := hnk.out; omega
            omega
          have hjW : W - 1 - v = nd - (m + 1) := by rw [hWd.out]; omega
          have hlb : Hid (lb T W v = 48 + R) := Lib.hid (by unfold lb; rw [hjW, ← hst.1])
          replace hst := Lib.hid hst
          replace hQk := Lib.hid hQk
          have e1 : ((m + 1 : Nat) : Int) - 1 = (m : Int) := by omega
          rw [e1]
          replace hjW := Lib.hid hjW
          clear hI hN hQ hR hx hy x1 x2 hp' hyb hk60 hnb
          by_cases h8 : v < 800
          · have t1 : decide ((v : Int) < 800) = true := decide_eq_true (by omega)
            have t1' : decide (v < 800) = true := decide_eq_true h8
            have c4 := hD.out.cell v h8
            have hv' := Lib.hid hv
            clear hv
            have hD2 : ∀ z : Int, z = ((48 + R : Nat) : Int) → Hid (DecB (wr.setCell ⟨D, v, none⟩ (.int .u8 z)) D (wl g T W v) nd dp ng (tr || lt8 T W (nd - m))) := fun z hz => Lib.hid (by
              subst hz
              have h := hD.out.setD v (48 + R) h8
              rw [← hlb.out] at h ⊢
              have e : lt8 T W (nd - m) = lt8 T W (nd - (m + 1)) := by
                have := hWd.out
                have := hv'.out
                rw [show nd - m = (nd - (m + 1)) + 1 by omega]; exact lt8_in T W _ (by omega)
              rw [e]
              exact h.congr fun i _ => wl_step g T W v (by have := hWd.out; have := hv'.out; omega) i)
            go_wp2_with fail
            go_roundg (gk - 1)
            case measure => omega
            case rel => exact ⟨m, v, Q, by omega, by omega, by go_num, by go_num, hv', by go_num, Lib.hid hst.out.2, hQk, hD2 _ (by omega), Lib.hid (hb.out.setCell hB _)⟩
          · have t1 : decide ((v : Int) < 800) = false := decide_eq_false (by omega)
            have t1' : decide (v < 800) = false := decide_eq_false h8
            have hv' := Lib.hid hv
            clear hv
            have e9 : lt8 T W (nd - m) = (lt8 T W (nd - (m + 1)) || decide (R ≠ 0)) := by
              have := hWd.out
              have := hv'.out
              rw [show nd - m = (nd - (m + 1)) + 1 by omega, lt8_out T W _ (by omega), hst.out.1]
            by_cases hR0 : R = 0
            · subst hR0
              have r1 : (((0 : Nat) : Int) == 0) = true := rfl
              rw [decide_eq_false (fun h => h rfl), Bool.or_false] at e9
              have hD2 : Hid (DecB wr D (wl g T W v) nd dp ng (tr || lt8 T W (nd - m))) := Lib.hid (by
                rw [e9]; exact hD.out.congr fun i hi => wl_out g T W v i (by omega) hi)
              clear e9
              go_wp2_with fail
              go_roundg (gk - 1)
              case measure => omega
              case rel => exact ⟨m, v, Q, by omega, by omega, by go_num, by go_num, hv', by go_num, Lib.hid hst.out.2, hQk, hD2, hb⟩
            · have r1 : ((R : Int) == 0) = false := by rw [beq_eq_false_iff_ne]; omega
              rw [decide_eq_true hR0, Bool.or_true] at e9
              have hD2 : Hid (DecB (wr.setCell ⟨D, 803, none⟩ (.bool true)) D (wl g T W v) nd dp ng (tr || lt8 T W (nd - m))) := Lib.hid (by
                rw [e9, Bool.or_true]; exact (hD.out.setT true).congr fun i hi => wl_out g T W v i (by omega) hi)
              clear e9
              go_wp2_with fail
              go_roundg (gk - 1)
              case measure => omega
              case rel => exact ⟨m, v, Q, by omega, by omega, by go_num, by go_num, hv', by go_num, Lib.hid hst.out.2, hQk, hD2, Lib.hid (hb.out.setCell hB _)⟩
    case rest =>
      obtain ⟨n, rfl, rfl, hI, hnk, hD, hb⟩ := hcut
      clear hD1 hb1
      go_upto_block 2 with (fail)
      go_cut [6, 7] (fun s6 s7 wx => Hid (DecB wx D (wl g T W 0) nd dp ng (tr || lt8 T W W)) ∧ Hid (Below B w wx))
      case first =>
        go_wp2_with fail
        go_loopg [6, 7] (W + 1) (fun gk s6 s7 wx => ∃ p n : Nat, p < gk ∧ Hid (p ≤ dw) ∧ s6 = .int .i64 (p : Int) ∧ s7 = .int .u64 (n : Int) ∧ Hid (n = T / 10 ^ (W - p)) ∧ Hid (n < 2 ^ k) ∧ Hid (DecB wx D (wl g T W p) nd dp ng (tr || lt8 T W (W - p))) ∧ Hid (Below B w wx))
        case atStart => exact ⟨dw, n, by have := hWd.out; omega, Lib.hid (Nat.le_refl _), rfl, rfl, Lib.hid (by rw [hI.out, hWd.out, Nat.add_sub_cancel]), Lib.hid hnk, by rw [hWd.out, Nat.add_sub_cancel, ← hWd.out]; exact hD, hb⟩
        case round =>
          clear hI hnk hD hb
          obtain ⟨p, n, hqg, hpd, rfl, rfl, hI, hnk, hD, hb⟩ := hrel
          by_cases hn0 : n = 0
          · subst hn0
            have hp0 : p = 0 := by
              have h1 := hI.out
              have h2 := hW.out.1
              rcases Nat.eq_zero_or_pos p with h | h
              · exact h
              · have : 0 < T / 10 ^ (W - p) := Nat.div_pos (Nat.le_trans (Nat.pow_le_pow_right (by decide) (by omega)) h2) (p10 _)
                omega
            subst hp0
            rw [Nat.sub_zero] at hD
            have r1 : decide ((0 : Int) < ((0 : Nat) : Int)) = false := rfl
            clear hI
            go_wp2_with fail
            go_meet
            case rel => exact ⟨hD, hb⟩
          · have hp0 : p ≠ 0 := by
              intro h
              have h1 := hI.out
              rw [h, Nat.sub_zero, Nat.div_eq_of_lt hW.out.2] at h1
              exact hn0 h1
            obtain ⟨v, rfl⟩ : ∃ v, p = v + 1 := ⟨p - 1, by omega⟩
            have hvb : v ≤ 60 := by have := hpd.out; omega
            have hk60 : 2 ^ k ≤ 1152921504606846976 := Nat.pow_le_pow_right (n := 2) (by decide) hk2
            have hnb : n < 1152921504606846976 := Nat.lt_of_lt_of_le hnk.out hk60
            have f2 := hD.out.fz v
            have c4 := hD.out.cell v (by omega)
            obtain ⟨Q, hQ⟩ : ∃ Q, Q = n / 10 := ⟨_, rfl⟩
            have hQ1 : IntKind.u64.wrap ((n : Int) / 10) = (Q : Int) := by
              rw [u64w _ (by omega) (by omega)]; omega
            obtain ⟨R, hR⟩ : ∃ R, R = n % 10 := ⟨_, rfl⟩
            have hQ2 : IntKind.u64.wrap (10 * (Q : Int)) = ((10 * Q : Nat) : Int) := by rw [u64w _ (by omega) (by omega)]; omega
            have hR1 : IntKind.u64.wrap ((n : Int) - 10 * (Q : Int)) = (R : Int) := by rw [u64w _ (by omega) (by omega)]; omega
            have hR2 : IntKind.u64.wrap ((R : Int) + 48) = (R : Int) + 48 := u64w _ (by omega) (by omega)
            have hR3 : ((R : Int) + 48) % 256 = ((48 + R : Nat) : Int) := by omega
            have hR9 : R ≤ 9 := by omega
            have hp1 : W - (v + 1) + 1 = W - v := by have := hWd.out; have := hpd.out; omega
            have hst : Q = T / 10 ^ (W - v) ∧ lb T W v = 48 + R := by
              constructor
              · rw [hQ, hI.out, Nat.div_div_eq_div_mul, ← Nat.pow_succ, ← hp1]
              · unfold lb; rw [hR, hI.out, show W - 1 - v = W - (v + 1) by omega]
            have hQk : Hid (Q < 2 ^ k) := Lib.hid (by have := hnk.out; omega)
            have hD2 : ∀ z : Int, z = ((48 + R : Nat) : Int) → Hid (DecB (wr.setCell ⟨D, v, none⟩ (.int .u8 z)) D (wl g T W v) nd dp ng (tr || lt8 T W (W - v))) := fun z hz => Lib.hid (by
              subst hz
              have h := hD.out.setD v (48 + R) (by omega)
              rw [← hst.2] at h ⊢
              have e : lt8 T W (W - v) = lt8 T W (W - (v + 1)) := by
                rw [← hp1]; exact lt8_in T W _ (by have := hWd.out; have := hpd.out; omega)
              rw [e]
              exact h.congr fun i _ => wl_step g T W v (by have := hWd.out; have := hpd.out; omega) i)
            have hvd : Hid (v ≤ dw) := Lib.hid (by have := hpd.out; omega)
            replace hst := Lib.hid hst
            have r1 : decide ((0 : Int) < (n : Int)) = true := decide_eq_true (by omega)
            have r1' : decide (0 < n) = true := decide_eq_true (by omega)
            have t1 : decide ((v : Int) < 800) = true := decide_eq_true (by omega)
            have t1' : decide (v < 800) = true := decide_eq_true (by omega)
            clear hI hQ hR hk60 hnb hp1
            go_wp2_with fail
            go_roundg (gk - 1)
            case measure => omega
            case rel => exact ⟨v, Q, by omega, hvd, by go_num, by go_num, Lib.hid hst.out.1, hQk, hD2 _ (by omega), Lib.hid (hb.out.setCell hB _)⟩
      case rest =>
        obtain ⟨hD, hb⟩ := hcut
        clear hI hnk
        have c1 := hD.out.nd
        have c2 := hD.out.dp
        have f1 := hD.out.fz 800
        have f2 := hD.out.fz 801
        have hfin : ∀ (w' : World), Below B w w' → (∃ n : Nat, n ≤ min W 800 ∧ (∀ i, n ≤ i → i < min W 800 → wl g T W 0 i = 48) ∧ (n = 0 ∨ wl g T W 0 (n - 1) ≠ 48) ∧ DecB w' D (wl g T W 0) n (if n = 0 then 0 else dp + dw) ng (tr || lt8 T W W)) → (∃ (dw n : Nat) (q : Nat → Nat), dw ≤ 61 ∧ 10 ^ (nd + dw - 1) ≤ num g nd * 2 ^ k ∧ num g nd * 2 ^ k < 10 ^ (nd + dw) ∧ (∀ i, i < min (nd + dw) 800 → q i = lb (num g nd * 2 ^ k) (nd + dw) i) ∧ n ≤ min (nd + dw) 800 ∧ (∀ i, n ≤ i → i < min (nd + dw) 800 → q i = 48) ∧ (n = 0 ∨ q (n - 1) ≠ 48) ∧ DecB w' D q n (if n = 0 then 0 else dp + dw) ng (tr || lt8 (num g nd * 2 ^ k) (nd + dw) (nd + dw))) ∧ Below B w w' := by
          intro w' h1 ⟨n, h2, h3, h4, h5⟩
          rw [← hT.out]
          refine ⟨⟨dw, n, wl g T W 0, hdw20, ?_⟩, h1⟩
          rw [← hWd.out]
          exact ⟨hW.out.1, hW.out.2, fun i hi => by unfold wl; rw [if_pos (by omega)], h2, h3, h4, h5⟩
        replace hfin := Lib.hid hfin
        have hWI : (nd : Int) + (dw : Int) = (W : Int) := by have := hWd.out; omega
        have hWb : W ≤ 861 := by have := hWd.out; omega
        by_cases h8 : 800 ≤ W
        · have t1 : decide ((800 : Int) ≤ (W : Int)) = true := decide_eq_true (by omega)
          have t1' : decide (800 ≤ W) = true := decide_eq_true h8
          have hD2 := Lib.hid (((hD.out.setN (W : Int)).setN 800).setP (dp + dw))
          have hb2 := Lib.hid (((hb.out.setCell (p := ⟨D, 800, none⟩) hB (.int .i64 (W : Int))).setCell (p := ⟨D, 800, none⟩) hB (.int .i64 800)).setCell (p := ⟨D, 801, none⟩) hB (.int .i64 (dp + dw)))
          go_wp2_with fail
          refine (dtrim_any B D _ 800 _ _ _ _ hD2.out (Nat.le_refl _) hB).mono ?_
          rintro e w' ⟨rfl, h, hb3⟩
          have hfin2 := Lib.hid (hfin.out w' (hb2.out.trans hb3) (by rw [Nat.min_eq_right h8]; exact h))
          clear h hb3 hfin hD2 hb2
          go_wp2_with fail
          go_end0
          exact ⟨rfl, hfin2.out⟩
        · have t1 : decide ((800 : Int) ≤ (W : Int)) = false := decide_eq_false (by omega)
          have t1' : decide (800 ≤ W) = false := decide_eq_false h8
          have hD2 := Lib.hid ((hD.out.setN (W : Int)).setP (dp + dw))
          have hb2 := Lib.hid ((hb.out.setCell (p := ⟨D, 800, none⟩) hB (.int .i64 (W : Int))).setCell (p := ⟨D, 801, none⟩) hB (.int .i64 (dp + dw)))
          go_wp2_with fail
          refine (dtrim_any B D _ W _ _ _ _ hD2.out (by omega) hB).mono ?_
          rintro e w' ⟨rfl, h, hb3⟩
          have hfin2 := Lib.hid (hfin.out w' (hb2.out.trans hb3) (by rw [Nat.min_eq_left (by omega)]; exact h))
          clear h hb3 hfin hD2 hb2
          go_wp2_with fail
          go_end0
          exact ⟨rfl, hfin2.out⟩
/-- A decimal that is not nought: its value times 10^2000 is X; its point stands behind E - 2000 digits. -/
structure DecN (w : World) (D X E : Nat) (ng tr : Bool) : Prop where
  ex : ∃ (g : Nat → Nat) (nd : Nat), DecB w D g nd ((E : Int) - 2000) ng tr ∧ 1 ≤ nd ∧ nd ≤ 800 ∧ Digs g nd ∧ 48 < g 0 ∧ nd ≤ E ∧ X = dec g nd E
/-- .. without zeros at the end. -/
structure DecT (w : World) (D X E : Nat) (ng tr : Bool) : Prop where
  ex : ∃ (g : Nat → Nat) (nd : Nat), DecB w D g nd ((E : Int) - 2000) ng tr ∧ 1 ≤ nd ∧ nd ≤ 800 ∧ Digs g nd ∧ 48 < g 0 ∧ nd ≤ E ∧ X = dec g nd E ∧ g (nd - 1) ≠ 48
theorem DecT.toN {w : World} {D X E : Nat} {ng tr : Bool} (h : DecT w D X E ng tr) : DecN w D X E ng tr := by
  obtain ⟨g, nd, h1, h2, h3, h4, h5, h6, h7, _⟩ := h.ex
  exact ⟨g, nd, h1, h2, h3, h4, h5, h6, h7⟩
theorem DecN.lt {w : World} {D X E : Nat} {ng tr : Bool} (h : DecN w D X E ng tr) : D < w.heap.size := by
  obtain ⟨g, nd, h, _⟩ := h.ex; exact h.lt
theorem DecN.oth {w w' : World} {D X E : Nat} {ng tr : Bool} (h : DecN w D X E ng tr) (e : w'.heap[D]? = w.heap[D]?) : DecN w' D X E ng tr := by
  obtain ⟨g, nd, h, h2⟩ := h.ex; exact ⟨g, nd, h.oth e, h2⟩
theorem DecN.bd {w : World} {D X E : Nat} {ng tr : Bool} (h : DecN w D X E ng tr) : 10 ^ (E - 1) ≤ X ∧ X < 10 ^ E := by
  obtain ⟨g, nd, _, h1, _, h3, h4, h6, rfl⟩ := h.ex
  unfold dec
  constructor
  · rw [show E - 1 = (nd - 1) + (E - nd) by omega, Nat.pow_add]
    exact Nat.mul_le_mul_right _ (num_pos h1 h4)
  · rw [p10_sub h6]
    exact Nat.mul_lt_mul_of_pos_right (num_lt nd h3) (p10 _)
theorem dshl_any (B D X E k : Nat) (ng tr : Bool) (w : World) (h : DecN w D X E ng tr) (hE : E ≤ 2500) (hk : 1 ≤ k) (hk2 : k ≤ 60) (hL : LcP w) (hB : B ≤ D) :
    Calls Tryz.prog 160 #[.pointer (some ⟨D, 0, none⟩), .int .u64 k] w fun e w' => e = .returned (.tuple #[]) ∧ (∃ X' E' tr', DecT w' D X' E' ng tr' ∧ Cut (X * 2 ^ k) X' tr tr') ∧ Below B w w' := by
  obtain ⟨g, nd, h1, h2, h3, h4, h5, h7, rfl⟩ := h.ex
  refine (dshl_raw B D g nd k _ ng tr w h1 h2 h3 h4 h5 hk hk2 hL hB (by omega) (by omega)).mono ?_
  rintro e w' ⟨rfl, ⟨dw, n, q, a1, a2, a3, a4, a5, a6, a7, a8⟩, hb⟩
  refine ⟨rfl, ?_, hb⟩
  have q0 : 48 < q 0 := by
    rw [a4 0 (by omega)]
    unfold lb
    rw [Nat.sub_zero]
    have b1 : 1 ≤ num g nd * 2 ^ k / 10 ^ (nd + dw - 1) := (Nat.le_div_iff_mul_le (p10 _)).2 (by omega)
    have b2 : num g nd * 2 ^ k / 10 ^ (nd + dw - 1) < 10 := by
      have e : 10 ^ (nd + dw) = 10 ^ (nd + dw - 1) * 10 := by rw [← Nat.pow_succ]; congr 1; omega
      rw [Nat.div_lt_iff_lt_mul (p10 _)]
      omega
    omega
  have n0 : n ≠ 0 := fun e => by have := a6 0 (by omega) (by omega); omega
  rw [if_neg n0] at a8
  have hc := shl_cut g q nd E k (nd + dw) tr a2 a3 (by omega) (by omega) h7 a4
  rw [show E + (nd + dw) - nd = E + dw by omega, dec_zero q n (min (nd + dw) 800) (E + dw) a5 (by omega) a6] at hc
  refine ⟨_, E + dw, _, ⟨q, n, ?_, by omega, by omega, ?_, q0, by omega, rfl, a7.resolve_left n0⟩, hc⟩
  · rw [show ((E + dw : Nat) : Int) - 2000 = (E : Int) - 2000 + (dw : Int) by omega]; exact a8
  · intro i hi
    rw [a4 i (by omega)]; exact lb_digs _ _ (i + 1) i (by omega)
end Go.Proofs.YtaidemghhagniaaGreatDoor
end
section
namespace Go.Proofs.YtaidemghhagniaaGreatDoor
open Go Go.RowKit
/-- The digits, when the first i of the quotient are put down. -/
def wr' (g : Nat → Nat) (nd r k p i : Nat) : Nat := if i < p then qb (ext g nd) r k i else g i
theorem wr_zero (g : Nat → Nat) (nd r k i : Nat) : wr' g nd r k 0 i = g i := if_neg (by omega)
theorem wr_ge (g : Nat → Nat) (nd r k p i : Nat) (h : p ≤ i) : wr' g nd r k p i = g i := if_neg (by omega)
theorem wr_step (g : Nat → Nat) (nd r k p i : Nat) : upd (wr' g nd r k p) p (qb (ext g nd) r k p) i = wr' g nd r k (p + 1) i := by
  by_cases e : i = p
  · subst e; rw [upd_at]; unfold wr'; rw [if_pos (by omega)]
  · rw [upd_ne _ _ e]; unfold wr'
    by_cases c : i < p
    · rw [if_pos c, if_pos (by omega)]
    · rw [if_neg c, if_neg (by omega)]
set_option maxRecDepth 100000 in
set_option maxHeartbeats 4000000 in
theorem dshr_raw (B D : Nat) (g : Nat → Nat) (nd k : Nat) (dp : Int) (ng tr : Bool) (w : World) (h : DecB w D g nd dp ng tr) (hn0 : 1 ≤ nd) (hn : nd ≤ 800) (hg : Digs g nd) (h0 : 48 < g 0) (hk : 1 ≤ k) (hk2 : k ≤ 60) (hB : B ≤ D) (hp1 : -100000 ≤ dp) (hp2 : dp ≤ 100000) :
    Calls Tryz.prog 161 #[.pointer (some ⟨D, 0, none⟩), .int .u64 k] w fun e w' => e = .returned (.tuple #[]) ∧ (∃ (r R n : Nat) (q : Nat → Nat), 1 ≤ r ∧ r ≤ 20 ∧ 1 ≤ R ∧ R ≤ (nd - r) + k + 1 ∧ 2 ^ k ≤ num (ext g nd) r ∧ num (ext g nd) r < 10 * 2 ^ k ∧ nd ≤ r + R ∧ num (ext g nd) (r + R) % (10 * 2 ^ k) = 0 ∧ (∀ i, i < min R 800 → q i = qb (ext g nd) r k i) ∧ n ≤ min R 800 ∧ (∀ i, n ≤ i → i < min R 800 → q i = 48) ∧ (n = 0 ∨ q (n - 1) ≠ 48) ∧ DecB w' D q n (if n = 0 then 0 else dp - ((r : Int) - 1)) ng (tr || qt (ext g nd) r k R)) ∧ Below B w w' := by
  have c1 := h.nd
  have cp := h.dp
  have fp := h.fz 801
  obtain ⟨c, hcd⟩ : ∃ c, c = ext g nd := ⟨_, rfl⟩
  have hc9 : ∀ i, 48 ≤ c i ∧ c i ≤ 57 := fun i => by rw [hcd]; exact digs_ext hg (i + 1) i (by omega)
  have hcz : ∀ i, nd ≤ i → c i = 48 := fun i hi => by rw [hcd]; unfold ext; rw [if_neg (by omega)]
  have hcg : ∀ i, i < nd → c i = g i := fun i hi => by rw [hcd]; unfold ext; rw [if_pos hi]
  have hcp : ∀ i, 1 ≤ i → 10 ^ (i - 1) ≤ num c i := fun i hi => num_pos hi (by rw [hcg 0 (by omega)]; exact h0)
  obtain ⟨P, hP⟩ : ∃ P, P = 2 ^ k := ⟨_, rfl⟩
  have hP1 : 2 ≤ P := by rw [hP]; have := Nat.pow_le_pow_right (n := 2) (by decide) hk; omega
  have hP2 : P ≤ 1152921504606846976 := by rw [hP]; exact Nat.pow_le_pow_right (n := 2) (by decide) hk2
  have hPI := Lib.hid (show (2 : Int) ^ k = (P : Int) by rw [hP, Int.natCast_pow]; rfl)
  replace hP := Lib.hid hP
  have H0 := Lib.hid h
  replace hcd := Lib.hid hcd
  replace hcz := Lib.hid hcz
  replace hcg := Lib.hid hcg
  replace hcp := Lib.hid hcp
  replace hc9 := Lib.hid hc9
  clear h
  go_enter Tryz.func161, Tryz.ntmps161
  go_upto_block 0 with (fail)
  go_cut [4, 6] (fun s4 s6 wx => ∃ r : Nat, s4 = .int .i64 (r : Int) ∧ s6 = .int .u64 (num c r : Int) ∧ P ≤ num c r ∧ num c r < 10 * P ∧ wx = w)
  case first =>
    go_wp2_with fail
    go_loopg [4, 6] (nd + 1) (fun gk s4 s6 wx => ∃ r n : Nat, nd - r < gk ∧ r ≤ nd ∧ s4 = .int .i64 (r : Int) ∧ s6 = .int .u64 (n : Int) ∧ Hid (n = num c r) ∧ n < 10 * P ∧ wx = w)
    case atStart => exact ⟨0, 0, by omega, by omega, rfl, rfl, Lib.hid rfl, by omega, rfl⟩
    case round =>
      obtain ⟨r, n, hrg, hrn, rfl, rfl, hN, hn10, rfl⟩ := hrel
      by_cases hnP : P ≤ n
      · obtain ⟨y, hy⟩ : ∃ y, y = n / P := ⟨_, rfl⟩
        have hy0 : 1 ≤ y := by rw [hy]; exact Nat.div_pos hnP (by omega)
        have hsh : (n : Int) / 2 ^ k = (y : Int) := by rw [hPI.out, hy, Int.natCast_ediv]
        have hsh2 : ((y : Int) == 0) = false := by rw [beq_eq_false_iff_ne]; omega
        replace hy := Lib.hid hy
        have hfin : Hid (P ≤ num c r ∧ num c r < 10 * P) := Lib.hid (by rw [← hN.out]; exact ⟨hnP, hn10⟩)
        go_wp2_with fail
        go_meet
        case rel => exact ⟨r, rfl, by rw [hN.out], hfin.out.1, hfin.out.2, rfl⟩
      · have hnP' : n < P := Nat.lt_of_not_le hnP
        have hsh : (n : Int) / 2 ^ k = 0 := by rw [hPI.out, ← Int.natCast_ediv, Nat.div_eq_of_lt hnP']; rfl
        have hm10 : IntKind.u64.wrap ((n : Int) * 10) = (n : Int) * 10 := u64w _ (by omega) (by omega)
        by_cases hr : r < nd
        · have r1 : decide ((nd : Int) ≤ (r : Int)) = false := decide_eq_false (by omega)
          have r1' : decide (nd ≤ r) = false := decide_eq_false (by omega)
          have c2 := H0.out.cell r (by omega)
          obtain ⟨x1, x2⟩ := hg r hr
          obtain ⟨x, hx⟩ : ∃ x, x = g r := ⟨_, rfl⟩
          rw [← hx] at c2 x1 x2
          have hN2 : Hid (n * 10 + x - 48 = num c (r + 1)) := Lib.hid (by
            show _ = 10 * num c r + (c r - 48)
            rw [hcg.out r hr, ← hN.out, ← hx]; omega)
          obtain ⟨z, hz⟩ : ∃ z, z = n * 10 + x - 48 := ⟨_, rfl⟩
          rw [← hz] at hN2
          have hs1 : IntKind.u64.wrap ((n : Int) * 10 + (x : Int)) = (n : Int) * 10 + (x : Int) := u64w _ (by omega) (by omega)
          have hs2 : IntKind.u64.wrap ((n : Int) * 10 + (x : Int) - 48) = (z : Int) := by rw [u64w _ (by omega) (by omega)]; omega
          have hz10 : z < 10 * P := by omega
          replace hz := Lib.hid hz
          replace hx := Lib.hid hx
          go_wp2_with fail
          go_roundg (gk - 1)
          case measure => omega
          case rel => exact ⟨r + 1, z, by omega, by omega, by go_num, by go_num, hN2, hz10, rfl⟩
        · obtain rfl : r = nd := by omega
          have r1 : decide ((r : Int) ≤ (r : Int)) = true := decide_eq_true (by omega)
          have r1' : decide (r ≤ r) = true := decide_eq_true (by omega)
          have hn1 : 1 ≤ n := by
            rw [hN.out]
            exact Nat.le_trans (p10 _) (hcp.out r hn0)
          have n1 : ((n : Int) == 0) = false := by rw [beq_eq_false_iff_ne]; omega
          go_wp2_with fail
          clear hcg hg hrg hrn hr r1 r1' c1
          go_loopg [4, 6] (10 * P + 1) (fun gk s4 s6 wx => ∃ r' n : Nat, 10 * P - n < gk ∧ Hid (r ≤ r') ∧ r' ≤ 900 ∧ s4 = .int .i64 (r' : Int) ∧ s6 = .int .u64 (n : Int) ∧ Hid (n = num c r') ∧ 1 ≤ n ∧ n < 10 * P ∧ Hid (10 ^ (r' - r) ≤ n) ∧ wx = wr)
          case atStart => exact ⟨r, n, by omega, Lib.hid (Nat.le_refl _), by omega, rfl, rfl, hN, hn1, hn10, Lib.hid (by rw [Nat.sub_self]; exact hn1), rfl⟩
          case round =>
            clear hN hn10 hnP hnP' hsh hm10 hn1 n1
            obtain ⟨r', n, hng, hrr, hr9, rfl, rfl, hN, hn1, hn10, hpw, rfl⟩ := hrel
            by_cases hnP : P ≤ n
            · obtain ⟨y, hy⟩ : ∃ y, y = n / P := ⟨_, rfl⟩
              have hy0 : 1 ≤ y := by rw [hy]; exact Nat.div_pos hnP (by omega)
              have hsh : (n : Int) / 2 ^ k = (y : Int) := by rw [hPI.out, hy, Int.natCast_ediv]
              have hsh2 : ((y : Int) == 0) = false := by rw [beq_eq_false_iff_ne]; omega
              replace hy := Lib.hid hy
              have hfin : Hid (P ≤ num c r' ∧ num c r' < 10 * P) := Lib.hid (by rw [← hN.out]; exact ⟨hnP, hn10⟩)
              go_wp2_with fail
              go_meet
              case rel => exact ⟨r', rfl, by rw [hN.out], hfin.out.1, hfin.out.2, rfl⟩
            · have hnP' : n < P := Nat.lt_of_not_le hnP
              have hsh : (n : Int) / 2 ^ k = 0 := by rw [hPI.out, ← Int.natCast_ediv, Nat.div_eq_of_lt hnP']; rfl
              have hm10 : IntKind.u64.wrap ((n : Int) * 10) = ((n * 10 : Nat) : Int) := by rw [u64w _ (by omega) (by omega)]; omega
              have hN2 : Hid (n * 10 = num c (r' + 1)) := Lib.hid (by
                show _ = 10 * num c r' + (c r' - 48)
                rw [hcz.out r' hrr.out, ← hN.out]; omega)
              have hpw2 : Hid (10 ^ (r' + 1 - r) ≤ n * 10) := Lib.hid (by
                rw [show r' + 1 - r = (r' - r) + 1 by have := hrr.out; omega, Nat.pow_succ]
                exact Nat.mul_le_mul_right _ hpw.out)
              have hb20 : r' ≤ 820 := by
                apply Nat.le_of_not_lt; intro hlt
                have h1 : 10 ^ 20 ≤ 10 ^ (r' - r) := Nat.pow_le_pow_right (by decide) (by omega)
                have h2 := hpw.out
                omega
              have hrr2 : Hid (r ≤ r' + 1) := Lib.hid (by have := hrr.out; omega)
              go_wp2_with fail
              go_roundg (gk - 1)
              case measure => omega
              case rel => exact ⟨r' + 1, n * 10, by omega, hrr2, by omega, by go_num, by go_num, hN2, by omega, by omega, hpw2, rfl⟩
  case rest =>
    obtain ⟨r, rfl, rfl, hPr, hPr2, hwc⟩ := hcut
    have hwc' := hwc.symm
    clear hwc
    subst hwc'
    obtain ⟨N, hNd⟩ : ∃ N, N = num c r := ⟨_, rfl⟩
    rw [← hNd] at hPr hPr2 ⊢
    have hr1 : 1 ≤ r := by
      rcases Nat.eq_zero_or_pos r with h | h
      · rw [h, show num c 0 = 0 from rfl] at hNd; omega
      · exact h
    have hr20 : r ≤ 20 := by
      apply Nat.le_of_not_lt; intro hlt
      have h1 := hcp.out r hr1
      have h2 : 10 ^ 20 ≤ 10 ^ (r - 1) := Nat.pow_le_pow_right (by decide) (by omega)
      omega
    obtain ⟨M, hM⟩ : ∃ M, M = P - 1 := ⟨_, rfl⟩
    have hm1 : IntKind.u64.wrap (2 ^ k) = (P : Int) := by rw [hPI.out]; exact u64w _ (by omega) (by omega)
    have hm2 : IntKind.u64.wrap ((P : Int) - 1) = (M : Int) := by rw [u64w _ (by omega) (by omega)]; omega
    have hMI : ∀ x : Nat, x < 18446744073709551616 → bits .and .u64 (x : Int) (M : Int) = ((x % P : Nat) : Int) := fun x hx => by
      rw [u64_and_nat x M hx (by omega), hM, hP.out, Nat.and_two_pow_sub_one_eq_mod]
    have hdp1 : (r : Int) - 1 ≤ 20 := by omega
    have hD1 := Lib.hid (H0.out.setP (dp - ((r : Int) - 1)))
    have hb1 := Lib.hid ((Below.refl B w).setCell (p := ⟨D, 801, none⟩) hB (.int .i64 (dp - ((r : Int) - 1))))
    obtain ⟨dq, hdq⟩ : ∃ dq, dq = dp - ((r : Int) - 1) := ⟨_, rfl⟩
    replace hMI := Lib.hid hMI
    replace hM := Lib.hid hM
    obtain ⟨i0, hi0⟩ : ∃ i0, i0 = nd - r := ⟨_, rfl⟩
    have hi0' : i0 ≤ 800 := by omega
    replace hi0 := Lib.hid hi0
    go_upto_block 4 with (fail)
    rw [← hdq] at hD1 hb1 ⊢
    obtain ⟨wq, hwq⟩ : ∃ wq, wq = w.setCell ⟨D, 801, none⟩ (.int .i64 dq) := ⟨_, rfl⟩
    rw [← hwq] at hD1 hb1 ⊢
    clear c1 cp fp hwq hm1 hm2 H0
    go_cut [5, 6] (fun s5 s6 wx => s5 = .int .i64 (i0 : Int) ∧ s6 = .int .u64 ((num c (r + i0) % (10 * P) : Nat) : Int) ∧ Hid (DecB wx D (wr' g nd r k i0) nd dq ng tr) ∧ Hid (Below B w wx))
    case first =>
      go_wp2_with fail
      go_loopg [4, 5, 6] (i0 + 1) (fun gk s4 s5 s6 wx => ∃ t i n : Nat, i0 - i < gk ∧ i ≤ i0 ∧ s4 = .int .i64 (t : Int) ∧ Hid (t = r + i) ∧ s5 = .int .i64 (i : Int) ∧ s6 = .int .u64 (n : Int) ∧ Hid (n = num c (r + i) % (10 * P)) ∧ Hid (DecB wx D (wr' g nd r k i) nd dq ng tr) ∧ Hid (Below B w wx))
      case atStart => exact ⟨r, 0, N, by omega, by omega, rfl, Lib.hid rfl, rfl, rfl, Lib.hid (by rw [Nat.add_zero, ← hNd, Nat.mod_eq_of_lt hPr2]), Lib.hid (hD1.out.congr fun i _ => (wr_zero g nd r k i).symm), hb1⟩
      case round =>
        clear hNd hPr hPr2 hD1 hb1 hdq
        obtain ⟨t, i, n, hig, hii, rfl, ht, rfl, rfl, hN, hD, hb⟩ := hrel
        have c1 := hD.out.nd
        have ht' := ht.out
        have hi0o := hi0.out
        by_cases hr : t < nd
        · have r1 : decide ((t : Int) < (nd : Int)) = true := decide_eq_true (by omega)
          have r1' : decide (t < nd) = true := decide_eq_true hr
          have c2 := hD.out.cell t (by omega)
          rw [wr_ge g nd r k i t (by omega)] at c2
          have f2 := hD.out.fz i
          have c4 := hD.out.cell i (by omega)
          obtain ⟨x1, x2⟩ := hg t hr
          obtain ⟨x, hx⟩ : ∃ x, x = g t := ⟨_, rfl⟩
          rw [← hx] at c2 x1 x2
          have hn10 : n < 10 * P := by rw [hN.out]; exact Nat.mod_lt _ (by omega)
          obtain ⟨y, hy⟩ : ∃ y, y = n / P := ⟨_, rfl⟩
          obtain ⟨m, hm⟩ : ∃ m, m = n % P := ⟨_, rfl⟩
          have hy10 : y < 10 := by rw [hy]; exact (Nat.div_lt_iff_lt_mul (by omega)).2 hn10
          have hmP : m < P := by rw [hm]; exact Nat.mod_lt _ (by omega)
          have hsh : (n : Int) / 2 ^ k = (y : Int) := by rw [hPI.out, hy, Int.natCast_ediv]
          have hand : bits .and .u64 (n : Int) (M : Int) = (m : Int) := by rw [hMI.out n (by omega), hm]
          have hw1 : IntKind.u64.wrap ((y : Int) + 48) = (y : Int) + 48 := u64w _ (by omega) (by omega)
          have hw2 : ((y : Int) + 48) % 256 = ((48 + y : Nat) : Int) := by omega
          have hw3 : IntKind.u64.wrap ((m : Int) * 10) = (m : Int) * 10 := u64w _ (by omega) (by omega)
          have hw4 : IntKind.u64.wrap ((m : Int) * 10 + (x : Int)) = (m : Int) * 10 + (x : Int) := u64w _ (by omega) (by omega)
          obtain ⟨z, hz⟩ : ∃ z, z = 10 * m + (x - 48) := ⟨_, rfl⟩
          have hw5 : IntKind.u64.wrap ((m : Int) * 10 + (x : Int) - 48) = (z : Int) := by rw [u64w _ (by omega) (by omega)]; omega
          have hc9' : c (r + i) - 48 < 10 := by have := hc9.out (r + i); omega
          have hst : Hid (z = num c (r + (i + 1)) % (10 * P)) := Lib.hid (by
            have h := rem_step c r k i hc9'
            rw [← hP.out] at h
            rw [h, ← hN.out, ← hm, hz, ← ht', hcg.out t hr, hx])
          have hqb : Hid (qb (ext g nd) r k i = 48 + y) := Lib.hid (by
            unfold qb qd
            rw [← hcd.out, ← hP.out, ← hN.out, hy])
          have hD2 : ∀ z : Int, z = ((48 + y : Nat) : Int) → Hid (DecB (wr.setCell ⟨D, i, none⟩ (.int .u8 z)) D (wr' g nd r k (i + 1)) nd dq ng tr) := fun z hz => Lib.hid (by
            subst hz
            have h := hD.out.setD i (48 + y) (by omega)
            rw [← hqb.out] at h ⊢
            exact h.congr fun j _ => wr_step g nd r k i j)
          have hti : i + 1 ≤ i0 := by omega
          have htb : t ≤ 800 := by omega
          have ht2 : Hid (t + 1 = r + (i + 1)) := Lib.hid (by omega)
          clear hi0o ht' hx hy hm hz hc9' hN
          go_wp2_with fail
          go_roundg (gk - 1)
          case measure => omega
          case rel => exact ⟨t + 1, i + 1, z, by omega, hti, by go_num, ht2, by go_num, by go_num, hst, hD2 _ (by omega), Lib.hid (hb.out.setCell hB _)⟩
        · have r1 : decide ((t : Int) < (nd : Int)) = false := decide_eq_false (by omega)
          have r1' : decide (t < nd) = false := decide_eq_false hr
          have hie : i = i0 := by omega
          subst hie
          clear hi0o ht'
          go_wp2_with fail
          go_meet
          case rel => exact ⟨rfl, by rw [hN.out], hD, hb⟩
    case rest =>
      obtain ⟨rfl, rfl, hD, hb⟩ := hcut
      clear hD1 hb1
      obtain ⟨n0, hn00⟩ : ∃ n, n = num c (r + i0) % (10 * P) := ⟨_, rfl⟩
      rw [← hn00]
      replace hn00 := Lib.hid hn00
      go_upto_block 6 with (fail)
      go_cut [5, 6] (fun s5 s6 wx => ∃ R v : Nat, s5 = .int .i64 (v : Int) ∧ v ≤ 800 ∧ Hid (v = min R 800) ∧ Hid (num c (r + R) % (10 * P) = 0) ∧ Hid (i0 ≤ R ∧ R ≤ i0 + k + 1) ∧ Hid (DecB wx D (wr' g nd r k v) nd dq ng (tr || qt c r k R)) ∧ Hid (Below B w wx))
      case first =>
        go_wp2_with fail
        go_loopg [5, 6] (i0 + k + 3) (fun gk s5 s6 wx => ∃ i v n : Nat, i0 + k + 2 - i < gk ∧ i0 ≤ i ∧ s5 = .int .i64 (v : Int) ∧ Hid (v = min i 800) ∧ s6 = .int .u64 (n : Int) ∧ Hid (n = num c (r + i) % (10 * P)) ∧ i ≤ i0 + k + 1 ∧ Hid (DecB wx D (wr' g nd r k v) nd dq ng (tr || qt c r k i)) ∧ Hid (Below B w wx))
        case atStart => exact ⟨i0, i0, n0, by omega, by omega, rfl, Lib.hid (by omega), rfl, hn00, by omega, by rw [qt_le c r k i0 hi0', Bool.or_false]; exact hD, hb⟩
        case round =>
          clear hD hb hn00
          obtain ⟨i, v, n, hig, hii, rfl, hv, rfl, hN, hik, hD, hb⟩ := hrel
          have hv' := hv.out
          have hv8 : v ≤ 800 := by omega
          by_cases hn : n = 0
          · subst hn
            have r1 : decide ((0 : Int) < ((0 : Nat) : Int)) = false := rfl
            have hR : Hid (i0 ≤ i ∧ i ≤ i0 + k + 1) := Lib.hid ⟨hii, hik⟩
            clear hv'
            go_wp2_with fail
            go_meet
            case rel => exact ⟨i, v, rfl, hv8, hv, Lib.hid hN.out.symm, hR, hD, hb⟩
          · have hik2 : i ≤ i0 + k := by
              apply Nat.le_of_not_lt; intro hlt
              have h := rem_end c r k nd hcz.out i0 (by have := hi0.out; omega) (i - i0) (by omega)
              rw [show i0 + (i - i0) = i by omega, ← hP.out, ← hN.out] at h
              exact hn h
            have r1 : decide ((0 : Int) < (n : Int)) = true := decide_eq_true (by omega)
            have r1' : decide (0 < n) = true := decide_eq_true (by omega)
            have hn10 : n < 10 * P := by rw [hN.out]; exact Nat.mod_lt _ (by omega)
            obtain ⟨y, hy⟩ : ∃ y, y = n / P := ⟨_, rfl⟩
            obtain ⟨m, hm⟩ : ∃ m, m = n % P := ⟨_, rfl⟩
            have hy10 : y < 10 := by rw [hy]; exact (Nat.div_lt_iff_lt_mul (by omega)).2 hn10
            have hmP : m < P := by rw [hm]; exact Nat.mod_lt _ (by omega)
            have hsh : (n : Int) / 2 ^ k = (y : Int) := by rw [hPI.out, hy, Int.natCast_ediv]
            have hand : bits .and .u64 (n : Int) (M : Int) = (m : Int) := by rw [hMI.out n (by omega), hm]
            have hw1 : IntKind.u64.wrap ((y : Int) + 48) = (y : Int) + 48 := u64w _ (by omega) (by omega)
            have hw2 : ((y : Int) + 48) % 256 = ((48 + y : Nat) : Int) := by omega
            obtain ⟨z, hz⟩ : ∃ z, z = 10 * m := ⟨_, rfl⟩
            have hw3 : IntKind.u64.wrap ((m : Int) * 10) = (z : Int) := by rw [u64w _ (by omega) (by omega)]; omega
            have hcz' : c (r + i) = 48 := hcz.out (r + i) (by have := hi0.out; omega)
            have hst : Hid (z = num c (r + (i + 1)) % (10 * P)) := Lib.hid (by
              have h := rem_step c r k i (by rw [hcz']; decide)
              rw [← hP.out, hcz', ← hN.out, ← hm] at h
              rw [h, hz]; omega)
            have hqd : qd c r k i = y := by
              unfold qd
              rw [← hP.out, ← hN.out, hy]
            have hqb : Hid (qb (ext g nd) r k i = 48 + y) := Lib.hid (by
              rw [← hcd.out]; unfold qb; rw [hqd])
            have hb2 : i ≤ 870 := by omega
            by_cases h8 : v < 800
            · have t1 : decide ((v : Int) < 800) = true := decide_eq_true (by omega)
              have t1' : decide (v < 800) = true := decide_eq_true h8
              have hvi : v = i := by omega
              subst hvi
              have f2 := hD.out.fz v
              have c4 := hD.out.cell v h8
              have hD2 : ∀ z : Int, z = ((48 + y : Nat) : Int) → Hid (DecB (wr.setCell ⟨D, v, none⟩ (.int .u8 z)) D (wr' g nd r k (v + 1)) nd dq ng (tr || qt c r k (v + 1))) := fun z hz => Lib.hid (by
                subst hz
                have h := hD.out.setD v (48 + y) h8
                rw [← hqb.out] at h ⊢
                rw [qt_le c r k (v + 1) (by omega), ← qt_le c r k v (by omega)]
                exact h.congr fun j _ => wr_step g nd r k v j)
              have hv2 : Hid (v + 1 = min (v + 1) 800) := Lib.hid (by omega)
              clear hv' hy hm hz hcz' hN hqd hv
              go_wp2_with fail
              go_roundg (gk - 1)
              case measure => omega
              case rel => exact ⟨v + 1, v + 1, z, by omega, by omega, by go_num, hv2, by go_num, hst, by omega, hD2 _ (by omega), Lib.hid (hb.out.setCell hB _)⟩
            · have t1 : decide ((v : Int) < 800) = false := decide_eq_false (by omega)
              have t1' : decide (v < 800) = false := decide_eq_false h8
              have hv9 : v = 800 := by omega
              subst hv9
              have hv2 : Hid (800 = min (i + 1) 800) := Lib.hid (by omega)
              have f3 := hD.out.fz 803
              have c3 := hD.out.tr
              by_cases hy0 : y = 0
              · have hD2 : Hid (DecB wr D (wr' g nd r k 800) nd dq ng (tr || qt c r k (i + 1))) := Lib.hid (by
                  rw [qt_zero c r k i (by omega) (by rw [hqd]; exact hy0)]; exact hD.out)
                have r2 : decide ((0 : Int) < (y : Int)) = false := decide_eq_false (by omega)
                have r2' : decide (0 < y) = false := decide_eq_false (by omega)
                clear hv' hy hm hz hcz' hN hqd hv hy0
                go_wp2_with fail
                go_roundg (gk - 1)
                case measure => omega
                case rel => exact ⟨i + 1, 800, z, by omega, by omega, rfl, hv2, by go_num, hst, by omega, hD2, hb⟩
              · have hD2 : Hid (DecB (wr.setCell ⟨D, 803, none⟩ (.bool true)) D (wr' g nd r k 800) nd dq ng (tr || qt c r k (i + 1))) := Lib.hid (by
                  rw [qt_one c r k i (by omega) (by rw [hqd]; omega), Bool.or_true]; exact hD.out.setT true)
                have r2 : decide ((0 : Int) < (y : Int)) = true := decide_eq_true (by omega)
                have r2' : decide (0 < y) = true := decide_eq_true (by omega)
                clear hv' hy hm hz hcz' hN hqd hv hy0
                go_wp2_with fail
                go_roundg (gk - 1)
                case measure => omega
                case rel => exact ⟨i + 1, 800, z, by omega, by omega, rfl, hv2, by go_num, hst, by omega, hD2, Lib.hid (hb.out.setCell hB _)⟩
      case rest =>
        obtain ⟨R, v, rfl, hv8, hv, hz, hR, hD, hb⟩ := hcut
        clear hn00
        have c1 := hD.out.nd
        have f1 := hD.out.fz 800
        have hD2 := Lib.hid (hD.out.setN (v : Int))
        have hb2 := Lib.hid (hb.out.setCell (p := ⟨D, 800, none⟩) hB (.int .i64 (v : Int)))
        go_wp2_with fail
        refine (dtrim_any B D _ v _ _ _ _ hD2.out hv8 hB).mono ?_
        rintro e w' ⟨rfl, ⟨n, h1, h2, h3, h4⟩, hb3⟩
        have hfin := Lib.hid (show (∃ (r R n : Nat) (q : Nat → Nat), 1 ≤ r ∧ r ≤ 20 ∧ 1 ≤ R ∧ R ≤ (nd - r) + k + 1 ∧ 2 ^ k ≤ num (ext g nd) r ∧ num (ext g nd) r < 10 * 2 ^ k ∧ nd ≤ r + R ∧ num (ext g nd) (r + R) % (10 * 2 ^ k) = 0 ∧ (∀ i, i < min R 800 → q i = qb (ext g nd) r k i) ∧ n ≤ min R 800 ∧ (∀ i, n ≤ i → i < min R 800 → q i = 48) ∧ (n = 0 ∨ q (n - 1) ≠ 48) ∧ DecB w' D q n (if n = 0 then 0 else dp - ((r : Int) - 1)) ng (tr || qt (ext g nd) r k R)) ∧ Below B w w' by
          refine ⟨⟨r, R, n, wr' g nd r k v, hr1, hr20, ?_, ?_, ?_, ?_, ?_, ?_, ?_, ?_, ?_, h3, ?_⟩, hb2.out.trans hb3⟩
          · rcases Nat.eq_zero_or_pos R with h | h
            · have h5 := hz.out
              rw [h, Nat.add_zero, ← hNd, Nat.mod_eq_of_lt hPr2] at h5
              omega
            · exact h
          · have := hR.out.2; have := hi0.out; omega
          · rw [← hcd.out, ← hP.out, ← hNd]; exact hPr
          · rw [← hcd.out, ← hP.out, ← hNd]; exact hPr2
          · have := hR.out.1; have := hi0.out; omega
          · rw [← hcd.out, ← hP.out]; exact hz.out
          · intro i hi
            rw [← hv.out] at hi
            unfold wr'; rw [if_pos hi]
          · rw [← hv.out]; exact h1
          · rw [← hv.out]; exact h2
          · rw [← hcd.out, ← hdq]; exact h4)
        clear h1 h2 h3 h4 hb3 hD2 hb2 c1 f1
        go_wp2_with fail
        go_end0
        exact ⟨rfl, hfin.out⟩
theorem dshr_any (B D X E k : Nat) (ng tr : Bool) (w : World) (h : DecN w D X E ng tr) (hE0 : 1600 ≤ E) (hE : E ≤ 2500) (hk : 1 ≤ k) (hk2 : k ≤ 60) (hB : B ≤ D) :
    Calls Tryz.prog 161 #[.pointer (some ⟨D, 0, none⟩), .int .u64 k] w fun e w' => e = .returned (.tuple #[]) ∧ (∃ X' E' tr' Z, DecN w' D X' E' ng tr' ∧ X = Z * 2 ^ k ∧ Cut Z X' tr tr') ∧ Below B w w' := by
  obtain ⟨g, nd, h1, h2, h3, h4, h5, h7, rfl⟩ := h.ex
  refine (dshr_raw B D g nd k _ ng tr w h1 h2 h3 h4 h5 hk hk2 hB (by omega) (by omega)).mono ?_
  rintro e w' ⟨rfl, ⟨r, R, n, q, a1, a2, a3, a4, b1, b2, b3, b4, a5, a6, a7, _, a9⟩, hb⟩
  refine ⟨rfl, ?_, hb⟩
  have q0 : 48 < q 0 := by
    rw [a5 0 (by omega)]
    unfold qb qd
    rw [Nat.add_zero, Nat.mod_eq_of_lt b2]
    have := Nat.div_pos b1 (Nat.two_pow_pos k)
    omega
  have n0 : n ≠ 0 := fun e => by have := a7 0 (by omega) (by omega); omega
  rw [if_neg n0] at a9
  obtain ⟨Z, c1, c2⟩ := shr_cut g q nd E k r R tr h4 b1 b2 b3 b4 (by omega) a3 a5
  rw [dec_zero q n (min R 800) (E + 1 - r) a6 (by omega) a7] at c2
  refine ⟨_, E + 1 - r, _, Z, ⟨q, n, ?_, by omega, by omega, ?_, q0, by omega, rfl⟩, c1, c2⟩
  · rw [show ((E + 1 - r : Nat) : Int) - 2000 = (E : Int) - 2000 - ((r : Int) - 1) by omega]; exact a9
  · intro i hi
    rw [a5 i (by omega)]; exact qb_digs _ _ _ (i + 1) i (by omega)
end Go.Proofs.YtaidemghhagniaaGreatDoor
end
section
namespace Go.Proofs.YtaidemghhagniaaGreatDoor
open Go Go.RowKit
theorem DecN.head {w : World} {D X E : Nat} {ng tr : Bool} (h : DecN w D X E ng tr) : ∃ nd : Nat, w.cell? ⟨D, 800, none⟩ = some (.int .i64 (nd : Int)) ∧ 1 ≤ nd ∧ nd ≤ 800 := by
  obtain ⟨g, nd, h, h1, h2, _⟩ := h.ex
  exact ⟨nd, h.nd, h1, h2⟩
def ShR (X k : Nat) (tr : Bool) (X' : Nat) (tr' : Bool) : Prop := ∃ Z, X = Z * 2 ^ k ∧ Cut Z X' tr tr'
set_option maxRecDepth 100000 in
set_option maxHeartbeats 4000000 in
theorem shift_left (B D X E k : Nat) (ng tr : Bool) (w : World) (h : DecN w D X E ng tr) (hE : E ≤ 2500) (hk : 1 ≤ k) (hk2 : k ≤ 60) (hL : LcP w) (hB : B ≤ D) :
    Calls Tryz.prog 156 #[.pointer (some ⟨D, 0, none⟩), .int .i64 k] w fun e w' => e = .returned (.tuple #[]) ∧ (∃ X' E' tr', DecT w' D X' E' ng tr' ∧ Cut (X * 2 ^ k) X' tr tr') ∧ Below B w w' := by
  obtain ⟨nd, c1, n1, n2⟩ := h.head
  have hc := Lib.hid (dshl_any B D X E k ng tr w h hE hk hk2 hL hB)
  have u1 : ((nd : Int) == 0) = false := by rw [beq_eq_false_iff_ne]; omega
  have u2 : decide ((0 : Int) < (k : Int)) = true := decide_eq_true (by omega)
  have u2' : decide (0 < k) = true := decide_eq_true (by omega)
  have u3 : decide ((60 : Int) < (k : Int)) = false := decide_eq_false (by omega)
  have u3' : decide (60 < k) = false := decide_eq_false (by omega)
  clear h hL hE
  go_enter Tryz.func156, Tryz.ntmps156
  go_wp2_with fail
  go_loopg [1] 1 (fun gk s1 wx => 0 < gk ∧ s1 = .int .i64 (k : Int) ∧ wx = w)
  case atStart => exact ⟨by omega, rfl, rfl⟩
  case round =>
    obtain ⟨_, rfl, hw⟩ := hrel
    have hw' := hw.symm
    clear hw
    subst hw'
    go_wp2_with fail
    refine hc.out.mono ?_
    rintro e w' ⟨rfl, h⟩
    have hh := Lib.hid h
    clear h hc
    go_wp2_with fail
    go_end0
    exact ⟨rfl, hh.out⟩
set_option maxRecDepth 100000 in
set_option maxHeartbeats 4000000 in
theorem shift_right (B D X E k : Nat) (ng tr : Bool) (w : World) (h : DecN w D X E ng tr) (hE0 : 1600 ≤ E) (hE : E ≤ 2500) (hk : 1 ≤ k) (hk2 : k ≤ 60) (hB : B ≤ D) :
    Calls Tryz.prog 156 #[.pointer (some ⟨D, 0, none⟩), .int .i64 (-(k : Int))] w fun e w' => e = .returned (.tuple #[]) ∧ (∃ X' E' tr', DecN w' D X' E' ng tr' ∧ ShR X k tr X' tr') ∧ Below B w w' := by
  obtain ⟨nd, c1, n1, n2⟩ := h.head
  have hc := Lib.hid (dshr_any B D X E k ng tr w h hE0 hE hk hk2 hB)
  have u1 : ((nd : Int) == 0) = false := by rw [beq_eq_false_iff_ne]; omega
  obtain ⟨m, hm⟩ : ∃ m : Int, m = -(k : Int) := ⟨_, rfl⟩
  have u2 : decide ((0 : Int) < m) = false := decide_eq_false (by omega)
  have u4 : decide (m < 0) = true := decide_eq_true (by omega)
  have u3 : decide (m < -60) = false := decide_eq_false (by omega)
  have u5 : -m = (k : Int) := by omega
  have hm1 : -60 ≤ m := by omega
  have hm2 : m ≤ -1 := by omega
  rw [← hm]
  clear h hE hE0 hm
  go_enter Tryz.func156, Tryz.ntmps156
  go_wp2_with fail
  go_loopg [1] 1 (fun gk s1 wx => 0 < gk ∧ s1 = .int .i64 m ∧ wx = w)
  case atStart => exact ⟨by omega, rfl, rfl⟩
  case round =>
    obtain ⟨_, rfl, hw⟩ := hrel
    have hw' := hw.symm
    clear hw
    subst hw'
    go_wp2_with fail
    refine hc.out.mono ?_
    rintro e w' ⟨rfl, ⟨X', E', tr', Z, h1, h2, h3⟩, h4⟩
    have hh := Lib.hid (show (∃ X' E' tr', DecN w' D X' E' ng tr' ∧ ShR X k tr X' tr') ∧ Below B w w' from ⟨⟨X', E', tr', h1, Z, h2, h3⟩, h4⟩)
    clear h1 h2 h3 h4 hc
    go_wp2_with fail
    go_end0
    exact ⟨rfl, hh.out⟩
set_option maxRecDepth 100000 in
set_option maxHeartbeats 4000000 in
theorem shift_right2 (B D X E k : Nat) (ng tr : Bool) (w : World) (h : DecN w D X E ng tr) (hE0 : 1650 ≤ E) (hE : E ≤ 2500) (hk : 60 < k) (hk2 : k ≤ 120) (hB : B ≤ D) :
    Calls Tryz.prog 156 #[.pointer (some ⟨D, 0, none⟩), .int .i64 (-(k : Int))] w fun e w' => e = .returned (.tuple #[]) ∧ (∃ X1 tr1 X' E' tr', DecN w' D X' E' ng tr' ∧ ShR X 60 tr X1 tr1 ∧ ShR X1 (k - 60) tr1 X' tr') ∧ Below B w w' := by
  obtain ⟨nd, c1, n1, n2⟩ := h.head
  have hc := Lib.hid (dshr_any B D X E 60 ng tr w h (by omega) hE (by decide) (by decide) hB)
  have u1 : ((nd : Int) == 0) = false := by rw [beq_eq_false_iff_ne]; omega
  obtain ⟨j, hj⟩ : ∃ j : Nat, j = k - 60 := ⟨_, rfl⟩
  obtain ⟨m, hm⟩ : ∃ m : Int, m = -(k : Int) := ⟨_, rfl⟩
  obtain ⟨m2, hm2⟩ : ∃ m2 : Int, m2 = -(j : Int) := ⟨_, rfl⟩
  have u2 : decide ((0 : Int) < m) = false := decide_eq_false (by omega)
  have u4 : decide (m < 0) = true := decide_eq_true (by omega)
  have u3 : decide (m < -60) = true := decide_eq_true (by omega)
  have u6 : m + 60 = m2 := by omega
  have u7 : decide (m2 < -60) = false := decide_eq_false (by omega)
  have u5 : -m2 = (j : Int) := by omega
  have hm1 : -120 ≤ m := by omega
  have hm3 : m ≤ -61 := by omega
  have hm4 : -60 ≤ m2 := by omega
  have hm5 : m2 ≤ -1 := by omega
  have hj1 : 1 ≤ j := by omega
  have hj2 : j ≤ 60 := by omega
  have hXE := h.bd
  rw [← hm]
  have hEh := Lib.hid (show 1650 ≤ E ∧ E ≤ 2500 from ⟨hE0, hE⟩)
  have hjh := Lib.hid hj
  clear h hE hE0 hm hm2 hj
  replace hXE := Lib.hid hXE
  go_enter Tryz.func156, Tryz.ntmps156
  go_wp2_with fail
  go_loopg [1] 3 (fun gk s1 wx => (2 ≤ gk ∧ s1 = .int .i64 m ∧ wx = w) ∨ (1 ≤ gk ∧ s1 = .int .i64 m2 ∧ Hid (Below B w wx) ∧ ∃ X1 E1 tr1, Hid (DecN wx D X1 E1 ng tr1 ∧ ShR X 60 tr X1 tr1)))
  case atStart => exact .inl ⟨by omega, rfl, rfl⟩
  case round =>
    rcases hrel with ⟨hg, rfl, hw⟩ | ⟨hg, rfl, hb, X1, E1, tr1, h1⟩
    · have hw' := hw.symm
      clear hw
      subst hw'
      go_wp2_with fail
      refine hc.out.mono ?_
      rintro e w' ⟨rfl, ⟨X', E', tr', Z, h1, h2, h3⟩, h4⟩
      have hh := Lib.hid (show DecN w' D X' E' ng tr' ∧ ShR X 60 tr X' tr' from ⟨h1, Z, h2, h3⟩)
      have hb := Lib.hid h4
      clear h1 h2 h3 h4 hc
      go_wp2_with fail
      go_roundg 1
      case measure => omega
      case rel => exact .inr ⟨by omega, by go_num, hb, X', E', tr', hh⟩
    · have hE1 : 1600 ≤ E1 ∧ E1 ≤ 2500 := by
        obtain ⟨Z, e1, e2⟩ := h1.out.2
        have b1 := h1.out.1.bd
        have b2 := hXE.out
        have b3 := hEh.out
        have hle := cut_le e2
        constructor
        · -- X1 is at least a 2^61th of X
          apply Nat.le_of_not_lt; intro hlt
          have k1 : X < 10 ^ E1 * 2 ^ 60 * 2 := by
            rcases e2 with ⟨e3, _⟩ | ⟨_, _, Q, f, e3, e4, e5⟩
            · rw [e1, ← e3]
              have := Nat.mul_lt_mul_of_pos_right b1.2 (Nat.two_pow_pos 60)
              omega
            · have q1 : 1 ≤ Q := Nat.le_trans (U10_p 799) e4
              have q2 : (Q + 1) * 10 ^ f ≤ 2 * (Q * 10 ^ f) := by
                rw [← Nat.mul_assoc]; exact Nat.mul_le_mul_right _ (by omega)
              rw [← e3] at q2
              have q3 : Z < 2 * 10 ^ E1 := by have := b1.2; omega
              rw [e1]
              have := Nat.mul_lt_mul_of_pos_right q3 (Nat.two_pow_pos 60)
              omega
          have k2 : 10 ^ E1 * 10 ^ 20 ≤ 10 ^ (E - 1) := by
            rw [← Nat.pow_add]; exact Nat.pow_le_pow_right (by decide) (by omega)
          have := b2.1
          omega
        · apply Nat.le_of_not_lt; intro hlt
          have k1 : X1 ≤ X := by rw [e1]; exact Nat.le_trans hle (Nat.le_mul_of_pos_right _ (Nat.two_pow_pos 60))
          have k2 : 10 ^ E ≤ 10 ^ (E1 - 1) := Nat.pow_le_pow_right (by decide) (by omega)
          have := b2.2
          have := b1.1
          omega
      have hc2 := Lib.hid (dshr_any B D X1 E1 j ng tr1 wr h1.out.1 hE1.1 hE1.2 hj1 hj2 hB)
      clear hE1 hc
      go_wp2_with fail
      refine hc2.out.mono ?_
      rintro e w' ⟨rfl, ⟨X', E', tr', Z, h5, h2, h3⟩, h4⟩
      have hh := Lib.hid (show (∃ X1 tr1 X' E' tr', DecN w' D X' E' ng tr' ∧ ShR X 60 tr X1 tr1 ∧ ShR X1 (k - 60) tr1 X' tr') ∧ Below B w w' from ⟨⟨X1, tr1, X', E', tr', h5, h1.out.2, by rw [← hjh.out]; exact ⟨Z, h2, h3⟩⟩, hb.out.trans h4⟩)
      clear h5 h2 h3 h4 hc2
      go_wp2_with fail
      go_end0
      exact ⟨rfl, hh.out⟩
end Go.Proofs.YtaidemghhagniaaGreatDoor
end
section
namespace Go.Proofs.YtaidemghhagniaaGreatDoor
open Go Go.RowKit
/-- Whether it is rounded up behind p digits. -/
def upB (g : Nat → Nat) (nd p : Nat) (tr : Bool) : Bool :=
  if nd ≤ p then false else if g p = 53 ∧ p + 1 = nd then (tr || (decide (0 < p) && decide ((g (p - 1) - 48) % 2 = 1))) else decide (53 ≤ g p)
theorem ext_at (g : Nat → Nat) (nd i : Nat) (h : i < nd) : ext g nd i = g i := if_pos h
theorem ext_out (g : Nat → Nat) (nd i : Nat) (h : nd ≤ i) : ext g nd i = 48 := if_neg (by omega)
theorem U10_is10 (a b : Nat) (h : a = b + 1) : U10 a = 10 * U10 b := by subst h; unfold U10; rw [Nat.pow_succ, Nat.mul_comm]
theorem p10_u (j m : Nat) (h : j ≤ m) : 10 ^ j * 10 ^ (m - j) = U10 m := by
  rw [U10_is, U10_is, U10_add]; congr 1; omega
/-- The number of digits before the point, and what is behind it. -/
theorem dec_split (g : Nat → Nat) (nd p : Nat) (hnd : nd ≤ p + 2000) (hg : Digs g nd) : ∃ f, dec g nd (p + 2000) = num (ext g nd) p * U10 2000 + ((ext g nd p - 48) * U10 1999 + f) ∧ f < U10 1999 ∧ (nd ≤ p + 1 → f = 0) ∧ (p + 1 < nd → g (nd - 1) ≠ 48 → 0 < f) := by
  obtain ⟨j, hj⟩ : ∃ j, j = max nd (p + 1) - (p + 1) := ⟨_, rfl⟩
  obtain ⟨F, hF⟩ : ∃ F, F = num (fun i => ext g nd (p + 1 + i)) j := ⟨_, rfl⟩
  have e1 : num (ext g nd) (p + 1 + j) = num (ext g nd) (p + 1) * 10 ^ j + F := by rw [hF]; exact num_add _ _ _
  have hFl : F < 10 ^ j := by rw [hF]; exact num_lt j fun i _ => digs_ext hg (p + 1 + i + 1) _ (by omega)
  have e2 : num (ext g nd) (p + 1 + j) = num g nd * 10 ^ (p + 1 + j - nd) := by rw [← num_ext]; congr 1; omega
  have hj2 : j ≤ 1999 := by omega
  have e3 : dec g nd (p + 2000) = num (ext g nd) (p + 1 + j) * 10 ^ (1999 - j) := by
    rw [e2]; unfold dec
    rw [Nat.mul_assoc, ← Nat.pow_add]
    generalize hq : p + 2000 - nd = q
    rw [show p + 1 + j - nd + (1999 - j) = q by omega]
  have e4 : 10 ^ j * 10 ^ (1999 - j) = U10 1999 := p10_u j 1999 hj2
  have e5 : num (ext g nd) (p + 1) = 10 * num (ext g nd) p + (ext g nd p - 48) := rfl
  have e6 : U10 2000 = 10 * U10 1999 := U10_is10 2000 1999 rfl
  have hy := p10 (1999 - j)
  generalize 10 ^ (1999 - j) = y at *
  generalize U10 1999 = u at *
  generalize U10 2000 = v at *
  refine ⟨F * y, ?_, ?_, ?_, ?_⟩
  · rw [e3, e1, e5, Nat.add_mul, Nat.mul_assoc _ (10 ^ j), e4, e6, Nat.add_mul, Nat.add_assoc]
    congr 1
    rw [Nat.mul_assoc, Nat.mul_left_comm]
  · rw [← e4]; exact Nat.mul_lt_mul_of_pos_right hFl hy
  · intro h
    have : j = 0 := by omega
    rw [hF, this]
    show 0 * _ = 0
    exact Nat.zero_mul _
  · intro h h2
    refine Nat.mul_pos ?_ hy
    rw [hF]
    obtain ⟨i, rfl⟩ : ∃ i, j = i + 1 := ⟨j - 1, by omega⟩
    show 0 < 10 * _ + (ext g nd (p + 1 + i) - 48)
    have h3 : p + 1 + i = nd - 1 := by omega
    rw [h3, ext_at _ _ _ (by omega)]
    have := hg (nd - 1) (by omega)
    omega
theorem rnd_up (g : Nat → Nat) (nd p : Nat) (tr : Bool) (h1 : nd ≤ p + 2000) (hg : Digs g nd) (hl : g (nd - 1) ≠ 48) :
    rndI (dec g nd (p + 2000)) tr = num (ext g nd) p + (if upB g nd p tr then 1 else 0) := by
  obtain ⟨f, e1, e2, e3, e4⟩ := dec_split g nd p h1 hg
  have e6 : U10 2000 = 10 * U10 1999 := U10_is10 2000 1999 rfl
  obtain ⟨x, hx⟩ : ∃ x, x = ext g nd p - 48 := ⟨_, rfl⟩
  have hx9 : x ≤ 9 := by have := digs_ext hg (p + 1) p (by omega); omega
  rw [← hx] at e1
  obtain ⟨N, hN⟩ : ∃ N, N = num (ext g nd) p := ⟨_, rfl⟩
  rw [← hN] at e1 ⊢
  obtain ⟨T, hT⟩ : ∃ T, T = U10 1999 := ⟨_, rfl⟩
  have hTp : 0 < T := by rw [hT]; exact U10_p _
  rw [← hT] at e1 e2 e6
  have hxT : x * T ≤ 9 * T := Nat.mul_le_mul_right _ hx9
  have hq : dec g nd (p + 2000) / U10 2000 = N := by
    rw [e1, e6, Nat.mul_comm, Nat.mul_add_div (by omega), Nat.div_eq_of_lt (by omega), Nat.add_zero]
  have hr : dec g nd (p + 2000) % U10 2000 = x * T + f := by
    rw [e1, e6, Nat.mul_comm, Nat.mul_add_mod, Nat.mod_eq_of_lt (by omega)]
  unfold rndI
  rw [hq, hr, e6]
  unfold upB
  by_cases c1 : nd ≤ p
  · have : x = 0 := by rw [hx, ext_out _ _ _ c1]
    subst this
    have := e3 (by omega)
    rw [if_pos c1, if_neg (by omega)]
    simp
  · rw [if_neg c1]
    have hgp : ext g nd p = g p := ext_at _ _ _ (by omega)
    rw [hgp] at hx
    have hgb := hg p (by omega)
    by_cases c2 : g p = 53 ∧ p + 1 = nd
    · have hx5 : x = 5 := by omega
      have hf0 := e3 (by omega)
      subst hx5
      rw [if_pos c2]
      have hpar : (N % 2 = 1) ↔ (0 < p ∧ (g (p - 1) - 48) % 2 = 1) := by
        rcases Nat.eq_zero_or_pos p with h | h
        · subst h
          have : N = 0 := hN
          omega
        · obtain ⟨i, rfl⟩ : ∃ i, p = i + 1 := ⟨p - 1, by omega⟩
          have : N = 10 * num (ext g nd) i + (ext g nd i - 48) := hN
          rw [ext_at _ _ _ (by omega)] at this
          rw [Nat.add_sub_cancel]
          omega
      cases tr with
      | true => rw [if_pos (.inr ⟨by omega, .inl rfl⟩)]; simp
      | false =>
        by_cases c3 : N % 2 = 1
        · rw [if_pos (.inr ⟨by omega, .inr c3⟩)]
          obtain ⟨a, b⟩ := hpar.1 c3
          rw [decide_eq_true a, decide_eq_true b]; rfl
        · rw [if_neg (by rintro (h | ⟨_, h | h⟩); omega; cases h; exact c3 h)]
          have : (decide (0 < p) && decide ((g (p - 1) - 48) % 2 = 1)) = false := by
            rw [Bool.eq_false_iff]; intro h
            rw [Bool.and_eq_true, decide_eq_true_eq, decide_eq_true_eq] at h
            exact c3 (hpar.2 h)
          rw [this]; rfl
    · rw [if_neg c2]
      by_cases c4 : 53 ≤ g p
      · rw [decide_eq_true c4]
        have h5 : 5 * T ≤ x * T := Nat.mul_le_mul_right _ (by omega)
        by_cases c5 : g p = 53
        · have := e4 (by omega) hl
          rw [if_pos (.inl (by omega))]; rfl
        · have h6 : 6 * T ≤ x * T := Nat.mul_le_mul_right _ (by omega)
          rw [if_pos (.inl (by omega))]; rfl
      · rw [decide_eq_false c4]
        have h4 : x * T ≤ 4 * T := Nat.mul_le_mul_right _ (by omega)
        rw [if_neg (by omega)]; rfl
theorem rnd_low (X : Nat) (tr : Bool) (h : X < U10 1999) : rndI X tr = 0 := by
  have e6 : U10 2000 = 10 * U10 1999 := U10_is10 2000 1999 rfl
  unfold rndI
  rw [Nat.mod_eq_of_lt (by omega), Nat.div_eq_of_lt (by omega), if_neg (by omega)]
set_option maxRecDepth 100000 in
set_option maxHeartbeats 4000000 in
theorem sru_neg (D : Nat) (g : Nat → Nat) (nd : Nat) (dp : Int) (ng tr : Bool) (m : Int) (w : World) (h : DecB w D g nd dp ng tr) (hm : m < 0) :
    Calls Tryz.prog 162 #[.pointer (some ⟨D, 0, none⟩), .int .i64 m] w fun e w' => e = .returned (.bool false) ∧ w' = w := by
  have c1 := h.nd
  have u1 : decide (m < 0) = true := decide_eq_true hm
  clear h
  go_enter Tryz.func162, Tryz.ntmps162
  go_wp2_with fail
  go_ret
  exact ⟨rfl, rfl⟩
set_option maxRecDepth 100000 in
set_option maxHeartbeats 4000000 in
theorem sru_any (D : Nat) (g : Nat → Nat) (nd p : Nat) (dp : Int) (ng tr : Bool) (w : World) (h : DecB w D g nd dp ng tr) (hn : nd ≤ 800) (hg : Digs g nd) (hp : p ≤ 100) :
    Calls Tryz.prog 162 #[.pointer (some ⟨D, 0, none⟩), .int .i64 p] w fun e w' => e = .returned (.bool (upB g nd p tr)) ∧ w' = w := by
  have c1 := h.nd
  have c3 := h.tr
  have hc := Lib.hid h.cell
  obtain ⟨b, hb⟩ : ∃ b, b = upB g nd p tr := ⟨_, rfl⟩
  rw [← hb]
  unfold upB at hb
  by_cases k1 : nd ≤ p
  · rw [if_pos k1] at hb
    subst hb
    have u1 : decide ((nd : Int) ≤ (p : Int)) = true := decide_eq_true (by omega)
    have u1' : decide (nd ≤ p) = true := decide_eq_true k1
    clear h
    go_enter Tryz.func162, Tryz.ntmps162
    go_wp2_with fail
    go_ret
    exact ⟨rfl, rfl⟩
  · rw [if_neg k1] at hb
    have u1 : decide ((nd : Int) ≤ (p : Int)) = false := decide_eq_false (by omega)
    have u1' : decide (nd ≤ p) = false := decide_eq_false k1
    have c2 := hc.out p (by omega)
    have hg1 := hg p (by omega)
    by_cases k2 : g p = 53
    · by_cases k3 : p + 1 = nd
      · rw [if_pos ⟨k2, k3⟩] at hb
        rw [k2] at c2
        have u2 : (((p : Int) + 1) == (nd : Int)) = true := by rw [beq_iff_eq]; omega
        have u2' : (((p + 1 : Nat) : Int) == (nd : Int)) = true := by rw [beq_iff_eq]; omega
        cases tr with
        | true =>
          rw [Bool.true_or] at hb
          subst hb
          clear h hg1 k3
          go_enter Tryz.func162, Tryz.ntmps162
          go_wp2_with fail
          go_ret
          exact ⟨rfl, rfl⟩
        | false =>
          rw [Bool.false_or] at hb
          by_cases k4 : p = 0
          · subst k4
            rw [decide_eq_false (by decide), Bool.false_and] at hb
            subst hb
            clear h hg1 k3
            go_enter Tryz.func162, Tryz.ntmps162
            go_wp2_with fail
            go_ret
            exact ⟨rfl, rfl⟩
          · obtain ⟨q, rfl⟩ : ∃ q, p = q + 1 := ⟨p - 1, by omega⟩
            rw [decide_eq_true (by omega), Bool.true_and, Nat.add_sub_cancel] at hb
            have c4 := hc.out q (by omega)
            have hg2 := hg q (by omega)
            obtain ⟨x, hx⟩ : ∃ x, g q = x + 48 := ⟨g q - 48, by omega⟩
            rw [hx, Int.natCast_add] at c4
            rw [hx, Nat.add_sub_cancel] at hb
            have hx9 : x ≤ 9 := by omega
            obtain ⟨y, hy⟩ : ∃ y, y = x % 2 := ⟨_, rfl⟩
            rw [← hy] at hb
            have e1 : (x : Int) % 2 = (y : Int) := by omega
            have e2 : ((x : Int)).tmod 2 = (y : Int) := by rw [Int.tmod_eq_emod_of_nonneg (by omega)]; exact e1
            have u3 : decide ((0 : Int) < ((q + 1 : Nat) : Int)) = true := decide_eq_true (by omega)
            clear h hg1 hg2 k3 hx k4
            rcases (show y = 0 ∨ y = 1 by omega) with rfl | rfl
            · rw [decide_eq_false (by decide)] at hb
              subst hb
              replace hy := Lib.hid hy
              go_enter Tryz.func162, Tryz.ntmps162
              go_wp2_with fail
              go_ret
              exact ⟨rfl, rfl⟩
            · rw [decide_eq_true rfl] at hb
              subst hb
              replace hy := Lib.hid hy
              go_enter Tryz.func162, Tryz.ntmps162
              go_wp2_with fail
              go_ret
              exact ⟨rfl, rfl⟩
      · rw [if_neg (fun h => k3 h.2), decide_eq_true (by omega)] at hb
        rw [k2] at c2
        subst hb
        have u2 : (((p : Int) + 1) == (nd : Int)) = false := by rw [beq_eq_false_iff_ne]; omega
        have u2' : (((p + 1 : Nat) : Int) == (nd : Int)) = false := by rw [beq_eq_false_iff_ne]; omega
        clear h hg1 k3
        go_enter Tryz.func162, Tryz.ntmps162
        go_wp2_with fail
        go_ret
        exact ⟨rfl, rfl⟩
    · rw [if_neg (fun h => k2 h.1)] at hb
      obtain ⟨x, hx⟩ : ∃ x, x = g p := ⟨_, rfl⟩
      rw [← hx] at c2 hb k2
      have u2 : ((x : Int) == 53) = false := by rw [beq_eq_false_iff_ne]; omega
      have u3 : decide ((53 : Int) ≤ (x : Int)) = b := by rw [hb]; exact decide_eq_decide.2 (by omega)
      replace hb := Lib.hid hb
      clear h hg1 k2 hx
      go_enter Tryz.func162, Tryz.ntmps162
      go_wp2_with fail
      go_ret
      exact ⟨rfl, rfl⟩
end Go.Proofs.YtaidemghhagniaaGreatDoor
end
section
namespace Go.Proofs.YtaidemghhagniaaGreatDoor
open Go Go.RowKit
theorem num_mono (g : Nat → Nat) (m k : Nat) : num g m ≤ num g (m + k) := Nat.le_trans (Nat.le_mul_of_pos_right _ (p10 k)) (num_le_add g m k)
set_option maxRecDepth 100000 in
set_option maxHeartbeats 4000000 in
theorem ri_neg (D : Nat) (g : Nat → Nat) (nd : Nat) (m : Int) (ng tr : Bool) (w : World) (h : DecB w D g nd m ng tr) (hm : m < 0) (hm2 : -100000 ≤ m) :
    Calls Tryz.prog 157 #[.pointer (some ⟨D, 0, none⟩)] w fun e w' => e = .returned (.int .u64 0) ∧ w' = w := by
  have c1 := h.nd
  have c2 := h.dp
  have hs := Lib.hid (sru_neg D g nd m ng tr m w h hm)
  have u1 : decide ((20 : Int) < m) = false := decide_eq_false (by omega)
  have u2 : decide ((0 : Int) < m) = false := decide_eq_false (by omega)
  clear h
  go_enter Tryz.func157, Tryz.ntmps157
  go_upto_block 0 with (fail)
  go_wp2_with fail
  go_loopg [3, 4] 1 (fun gk s3 s4 wx => 0 < gk ∧ s3 = .int .i64 0 ∧ s4 = .int .u64 0 ∧ wx = w)
  case atStart => exact ⟨by omega, rfl, rfl, rfl⟩
  case round =>
    obtain ⟨_, rfl, rfl, hw⟩ := hrel
    have hw' := hw.symm
    clear hw
    subst hw'
    go_wp2_with fail
    go_loopg [3, 4] 1 (fun gk s3 s4 wx => 0 < gk ∧ s3 = .int .i64 0 ∧ s4 = .int .u64 0 ∧ wx = w)
    case atStart => exact ⟨by omega, rfl, rfl, rfl⟩
    case round =>
      obtain ⟨_, rfl, rfl, hw⟩ := hrel
      have hw' := hw.symm
      clear hw
      subst hw'
      go_wp2_with fail
      refine hs.out.mono ?_
      rintro e w' ⟨rfl, rfl⟩
      go_wp2_with fail
      go_ret
      exact ⟨rfl, rfl⟩
set_option maxRecDepth 100000 in
set_option maxHeartbeats 4000000 in
theorem ri_pos (D : Nat) (g : Nat → Nat) (nd p : Nat) (ng tr : Bool) (w : World) (h : DecB w D g nd p ng tr) (hn8 : nd ≤ 800) (hg : Digs g nd) (hp : p ≤ 20) (hX : num (ext g nd) p < 9007199254740993) :
    Calls Tryz.prog 157 #[.pointer (some ⟨D, 0, none⟩)] w fun e w' => e = .returned (.int .u64 ((num (ext g nd) p + (if upB g nd p tr then 1 else 0) : Nat) : Int)) ∧ w' = w := by
  have c1 := h.nd
  have c2 := h.dp
  have hc := Lib.hid h.cell
  have hs' := sru_any D g nd p p ng tr w h hn8 hg (by omega)
  obtain ⟨b, hbb⟩ : ∃ b, b = upB g nd p tr := ⟨_, rfl⟩
  rw [← hbb] at hs' ⊢
  have hs := Lib.hid hs'
  clear hbb hs'
  have u1 : decide ((20 : Int) < (p : Int)) = false := decide_eq_false (by omega)
  have u1' : decide (20 < p) = false := decide_eq_false (by omega)
  obtain ⟨c, hcd⟩ : ∃ c, c = ext g nd := ⟨_, rfl⟩
  rw [← hcd] at hX ⊢
  have hm := Lib.hid (fun i (hi : i ≤ p) => show num c i < 9007199254740993 by
    have := num_mono c i (p - i)
    rw [show i + (p - i) = p by omega] at this
    omega)
  replace hcd := Lib.hid hcd
  replace hX := Lib.hid hX
  clear h
  go_enter Tryz.func157, Tryz.ntmps157
  go_upto_block 0 with (fail)
  go_wp2_with fail
  go_loopg [3, 4] (p + 1) (fun gk s3 s4 wx => ∃ i n : Nat, p - i < gk ∧ i ≤ p ∧ i ≤ nd ∧ s3 = .int .i64 (i : Int) ∧ s4 = .int .u64 (n : Int) ∧ Hid (n = num c i) ∧ wx = w)
  case atStart => exact ⟨0, 0, by omega, by omega, by omega, rfl, rfl, Lib.hid rfl, rfl⟩
  case round =>
    obtain ⟨i, n, hig, hip, hin, rfl, rfl, hN, hw⟩ := hrel
    have hw' := hw.symm
    clear hw
    subst hw'
    have hnb : n < 9007199254740993 := by rw [hN.out]; exact hm.out i hip
    by_cases hr : i < p ∧ i < nd
    · have v1 : decide ((i : Int) < (p : Int)) = true := decide_eq_true (by omega)
      have v1' : decide (i < p) = true := decide_eq_true hr.1
      have v2 : decide ((i : Int) < (nd : Int)) = true := decide_eq_true (by omega)
      have v2' : decide (i < nd) = true := decide_eq_true hr.2
      have c4 := hc.out i (by omega)
      have hg2 := hg i hr.2
      obtain ⟨x, hx⟩ : ∃ x, g i = x + 48 := ⟨g i - 48, by omega⟩
      rw [hx, Int.natCast_add] at c4
      have hx9 : x ≤ 9 := by omega
      have hN2 : Hid (n * 10 + x = num c (i + 1)) := Lib.hid (by
        show _ = 10 * num c i + (c i - 48)
        rw [hcd.out, ext_at _ _ _ hr.2, hx, ← hcd.out, ← hN.out]; omega)
      have hw1 : IntKind.u64.wrap ((n : Int) * 10) = (n : Int) * 10 := u64w _ (by omega) (by omega)
      have hw2 : IntKind.u64.wrap ((n : Int) * 10 + (x : Int)) = (n : Int) * 10 + (x : Int) := u64w _ (by omega) (by omega)
      have hrp := hr.1
      have hrn := hr.2
      clear hg2 hx hr
      go_wp2_with fail
      go_roundg (gk - 1)
      case measure => omega
      case rel => exact ⟨i + 1, n * 10 + x, by omega, by omega, by omega, by go_num, by go_num, hN2, rfl⟩
    · have hif : (decide ((i : Int) < (p : Int)) = false ∧ decide (i < p) = false) ∨ (decide ((i : Int) < (p : Int)) = true ∧ decide (i < p) = true ∧ decide ((i : Int) < (nd : Int)) = false ∧ decide (i < nd) = false) := by
        by_cases h : i < p
        · exact .inr ⟨decide_eq_true (by omega), decide_eq_true h, decide_eq_false (by omega), decide_eq_false (by omega)⟩
        · exact .inl ⟨decide_eq_false (by omega), decide_eq_false h⟩
      have hpn : Hid (i = p ∨ nd ≤ i) := Lib.hid (by omega)
      clear hr
      rcases hif with ⟨v1, v2⟩ | ⟨v1, v2, v3, v4⟩
      all_goals
        go_wp2_with fail
        clear v1 v2
        try clear v3 v4
        go_loopg [3, 4] (p + 1) (fun gk s3 s4 wx => ∃ j n : Nat, p - j < gk ∧ j ≤ p ∧ Hid (i ≤ j) ∧ s3 = .int .i64 (j : Int) ∧ s4 = .int .u64 (n : Int) ∧ Hid (n = num c j) ∧ wx = w)
        case atStart => exact ⟨i, n, by omega, by omega, Lib.hid (Nat.le_refl _), rfl, rfl, hN, rfl⟩
        case round =>
          clear hN hig hin hnb
          obtain ⟨j, n, hjg, hjp, hij, rfl, rfl, hN, hw⟩ := hrel
          have hw' := hw.symm
          clear hw
          subst hw'
          have hnb : n < 9007199254740993 := by rw [hN.out]; exact hm.out j hjp
          by_cases hr : j < p
          · have v1 : decide ((j : Int) < (p : Int)) = true := decide_eq_true (by omega)
            have v1' : decide (j < p) = true := decide_eq_true hr
            have hN2 : Hid (n * 10 = num c (j + 1)) := Lib.hid (by
              show _ = 10 * num c j + (c j - 48)
              rw [hcd.out, ext_out _ _ _ (by have := hpn.out; have := hij.out; omega), ← hcd.out, ← hN.out]; omega)
            have hw1 : IntKind.u64.wrap ((n : Int) * 10) = (n : Int) * 10 := u64w _ (by omega) (by omega)
            have hij2 : Hid (i ≤ j + 1) := Lib.hid (by have := hij.out; omega)
            go_wp2_with fail
            go_roundg (gk - 1)
            case measure => omega
            case rel => exact ⟨j + 1, n * 10, by omega, by omega, hij2, by go_num, by go_num, hN2, rfl⟩
          · obtain rfl : j = p := by omega
            have v1 : decide ((j : Int) < (j : Int)) = false := decide_eq_false (by omega)
            have v1' : decide (j < j) = false := decide_eq_false (by omega)
            clear hr
            go_wp2_with fail
            refine hs.out.mono ?_
            rintro e w' ⟨rfl, rfl⟩
            cases b
            · go_wp2_with fail
              go_ret
              exact ⟨by rw [← hN.out]; simp, rfl⟩
            · have hw3 : IntKind.u64.wrap ((n : Int) + 1) = (n : Int) + 1 := u64w _ (by omega) (by omega)
              go_wp2_with fail
              go_ret
              exact ⟨by rw [← hN.out]; simp, rfl⟩
theorem ri_any (D X E : Nat) (ng tr : Bool) (w : World) (h : DecT w D X E ng tr) (hE : E ≤ 2020) (hX : X < 9007199254740992 * U10 2000) :
    Calls Tryz.prog 157 #[.pointer (some ⟨D, 0, none⟩)] w fun e w' => e = .returned (.int .u64 (rndI X tr : Int)) ∧ w' = w := by
  have hb := h.toN.bd
  obtain ⟨g, nd, h1, h2, h3, h4, h5, h7, rfl, h6⟩ := h.ex
  by_cases hE2 : 2000 ≤ E
  · obtain ⟨p, rfl⟩ : ∃ p, E = p + 2000 := ⟨E - 2000, by omega⟩
    rw [show ((p + 2000 : Nat) : Int) - 2000 = (p : Int) by omega] at h1
    rw [rnd_up g nd p tr h7 h4 h6]
    refine ri_pos D g nd p ng tr w h1 h3 h4 (by omega) ?_
    obtain ⟨f, e1, _, _, _⟩ := dec_split g nd p h7 h4
    rw [e1] at hX
    have : num (ext g nd) p * U10 2000 < 9007199254740992 * U10 2000 := by omega
    have := Nat.lt_of_mul_lt_mul_right this
    omega
  · have hb2 := hb.2
    rw [U10_is] at hb2
    rw [rnd_low _ tr (Nat.lt_of_lt_of_le hb2 (U10_mono (by omega)))]
    exact ri_neg D g nd _ ng tr w h1 (by omega) (by omega)
end Go.Proofs.YtaidemghhagniaaGreatDoor
end
section
namespace Go.Proofs.YtaidemghhagniaaGreatDoor
open Go
/-- By how much it is shifted when the point is d digits off. -/
def nsh (d : Nat) : Nat := if 9 ≤ d then 27 else ptb d
theorem nsh_ok (d : Nat) : 1 ≤ nsh d ∧ nsh d ≤ 27 ∧ (1 ≤ d → 2 ^ nsh d ≤ 10 ^ d) := by
  unfold nsh
  by_cases h : 9 ≤ d
  · rw [if_pos h]
    refine ⟨by decide, by decide, fun _ => ?_⟩
    have : 10 ^ 9 ≤ 10 ^ d := Nat.pow_le_pow_right (by decide) h
    exact Nat.le_trans (by decide) this
  · rw [if_neg h]
    have : d = 0 ∨ d = 1 ∨ d = 2 ∨ d = 3 ∨ d = 4 ∨ d = 5 ∨ d = 6 ∨ d = 7 ∨ d = 8 := by omega
    rcases this with rfl | rfl | rfl | rfl | rfl | rfl | rfl | rfl | rfl <;> decide
theorem nsh_zero : nsh 0 = 1 := rfl
theorem U10_dbl (n d : Nat) : U10 (n + d) = U10 n * 10 ^ d := by rw [← U10_add]; rfl
theorem U10_suc (a b : Nat) (h : a = b + 1) : U10 a = 10 * U10 b := by subst h; unfold U10; rw [Nat.pow_succ, Nat.mul_comm]
theorem ph1_step {X Z X' d n : Nat} {tr tr' : Bool} (hX : U10 (1999 + d) ≤ X) (hn : 2 ^ n ≤ 10 ^ d) (hn1 : 1 ≤ n) (hZ : X = Z * 2 ^ n) (hc : Cut Z X' tr tr') : U10 1999 ≤ X' ∧ X' < X := by
  have h1 : U10 1999 * 2 ^ n ≤ Z * 2 ^ n := by
    rw [← hZ]
    refine Nat.le_trans (Nat.mul_le_mul_left _ hn) ?_
    rw [← U10_dbl]; exact hX
  have h2 := Nat.le_of_mul_le_mul_right h1 (Nat.two_pow_pos n)
  have hp := U10_p 1999
  constructor
  · have h3 : (1 : Nat) < U10 800 := by
      refine Nat.lt_of_lt_of_le (by decide : 1 < U10 1) (U10_mono (by decide))
    obtain ⟨e, he⟩ : ∃ e, e = 1999 := ⟨_, rfl⟩
    rw [← he] at h2 ⊢
    have := cut_rep (A := 1) (e := e) hc h3 (by rw [Nat.one_mul, U10_is]; exact h2)
    rw [Nat.one_mul, U10_is] at this
    exact this
  · have h4 := cut_le hc
    have h5 : 2 ≤ 2 ^ n := Nat.pow_le_pow_right (n := 2) (by decide) hn1
    have h6 : Z * 2 ≤ Z * 2 ^ n := Nat.mul_le_mul_left _ h5
    omega
theorem u311 : U10 311 ≤ U2 1034 := by unfold U10 U2; decide +kernel
theorem u331 : U10 331 < U2 1100 := by unfold U10 U2; decide +kernel
theorem q_bound {X X0 q : Nat} (h1 : X * U2 q ≤ X0 * U2 0) (h2 : U10 1999 ≤ X) (h3 : X0 < U10 2310) : q ≤ 1034 := by
  apply Nat.le_of_not_lt; intro hlt
  have e0 : X0 * U2 0 = X0 := Nat.mul_one _
  have h4 : U10 1999 * U2 q ≤ X * U2 q := Nat.mul_le_mul_right _ h2
  have h5 : U2 1034 ≤ U2 q := U2_mono (by omega)
  have h6 : U10 1999 * U10 311 ≤ U10 1999 * U2 q := Nat.mul_le_mul_left _ (Nat.le_trans u311 h5)
  have h7 : U10 1999 * U10 311 = U10 2310 := U10_add 1999 311
  omega
theorem ph2_step {X X' n : Nat} {tr tr' : Bool} (hX : 0 < X) (hn1 : 1 ≤ n) (hc : Cut (X * 2 ^ n) X' tr tr') : X < X' := by
  have h5 : 2 ≤ 2 ^ n := Nat.pow_le_pow_right (n := 2) (by decide) hn1
  have h6 : X * 2 ≤ X * 2 ^ n := Nat.mul_le_mul_left _ h5
  rcases hc with ⟨rfl, _⟩ | ⟨_, _, Q, e, rfl, hQ, hZ⟩
  · omega
  · have h7 : 1 ≤ Q := Nat.le_trans (U10_p 799) hQ
    have h8 : 1 * 10 ^ e ≤ Q * 10 ^ e := Nat.mul_le_mul_right _ h7
    rw [Nat.add_mul] at hZ
    omega
theorem gg_small : GG < U10 1669 := by
  have h1 : GG * U10 331 < U10 1669 * U10 331 := by
    rw [U10_add 1669 331, show 1669 + 331 = 2000 from rfl, ← GG_eq, Nat.mul_comm]
    exact Nat.mul_lt_mul_of_pos_right u331 GG_p
  exact Nat.lt_of_mul_lt_mul_right h1
theorem p_bound {X0 p q X n : Nat} {tr : Bool} (H : Inv X0 p q X tr p) (hp : p ≤ 1099) (hq : q ≤ 1034) (hn : X * 2 ^ n < U10 2000) (h0 : (q = 0 ∧ U10 1669 ≤ X0) ∨ U10 2000 ≤ X0) : p + n ≤ 1099 := by
  apply Nat.le_of_not_lt; intro hlt
  have hm := H.mid 1 p (by rw [t55]; decide) (Nat.le_refl _) (by omega)
  rw [Nat.one_mul] at hm
  have h1 : ¬ U2 p * GG ≤ X := by
    intro h
    have h2 : U2 p * GG * 2 ^ n ≤ X * 2 ^ n := Nat.mul_le_mul_right _ h
    have h3 : U2 p * GG * 2 ^ n = U2 (p + n) * GG := by rw [U2_is, Nat.mul_right_comm, U2_add]
    have h4 : U2 1100 * GG ≤ U2 (p + n) * GG := Nat.mul_le_mul_right _ (U2_mono (by omega))
    rw [GG_eq] at h4
    omega
  have h2 : X0 * U2 p < U2 p * GG * U2 q := Nat.lt_of_not_le fun h => h1 (hm h)
  have h3 : X0 < GG * U2 q := by
    rw [Nat.mul_comm (U2 p), Nat.mul_right_comm] at h2
    exact Nat.lt_of_mul_lt_mul_right h2
  rcases h0 with ⟨rfl, h⟩ | h
  · rw [show U2 0 = 1 from rfl, Nat.mul_one] at h3
    have := gg_small
    omega
  · have h4 : GG * U2 q ≤ GG * U2 1100 := Nat.mul_le_mul_left _ (U2_mono (by omega))
    rw [Nat.mul_comm GG (U2 1100), GG_eq] at h4
    omega
/-- .. and how much it was shifted to the left is less than how much to the right, if it was from 1 on. -/
theorem p_lt_q {X0 p q X : Nat} {tr : Bool} (H : Inv X0 p q X tr p) (hp : p ≤ 1099) (hq : q ≤ 1034) (hX : X < U10 2000) (h0 : U10 2000 ≤ X0) : p < q := by
  apply Nat.lt_of_not_le; intro hlt
  have hm := H.mid 1 1100 (by rw [t55]; decide) (by omega) (by omega)
  rw [Nat.one_mul, GG_eq] at hm
  have h1 : U10 2000 * U2 q ≤ X0 * U2 p := Nat.mul_le_mul h0 (U2_mono hlt)
  have := hm h1
  omega
theorem half_up {X X' : Nat} {tr tr' : Bool} (hX : 5 * U10 1999 ≤ X) (hc : Cut (X * 2 ^ 53) X' tr tr') : 4503599627370496 * U10 2000 ≤ X' := by
  have e6 : U10 2000 = 10 * U10 1999 := U10_suc 2000 1999 rfl
  have h1 : 4503599627370496 * U10 2000 ≤ X * 2 ^ 53 := by
    have h2 : 5 * U10 1999 * 2 ^ 53 ≤ X * 2 ^ 53 := Nat.mul_le_mul_right _ hX
    rw [show (2 : Nat) ^ 53 = 9007199254740992 from rfl] at h2 ⊢
    rw [e6]
    clear hc e6 hX
    generalize U10 1999 = u at *
    omega
  have h3 : (4503599627370496 : Nat) < U10 800 := by
    refine Nat.lt_of_lt_of_le (by decide : 4503599627370496 < U10 16) (U10_mono (by decide))
  obtain ⟨n, hn⟩ : ∃ n, n = 2000 := ⟨_, rfl⟩
  rw [← hn] at h1 ⊢
  exact cut_rep (e := n) hc h3 h1
theorem fb_inf {X0 p q X : Nat} (h1 : X * U2 q ≤ X0 * U2 p) (hX : 5 * U10 1999 ≤ X) (he : p + 1025 ≤ q) : Near (X0 * U2 1075) (U10 2000) INF := by
  refine near_inf ?_
  have e6 : U10 2000 = 10 * U10 1999 := U10_suc 2000 1999 rfl
  have h2 : 5 * U10 1999 * U2 (1025 + p) ≤ X * U2 q := Nat.mul_le_mul hX (U2_mono (by omega))
  have h3 : 5 * U10 1999 * U2 1025 ≤ X0 := by
    refine Nat.le_of_mul_le_mul_right ?_ (U2_p p)
    rw [Nat.mul_assoc, U2_add]
    exact Nat.le_trans h2 h1
  have h4 : 5 * U10 1999 * U2 1025 * U2 1075 ≤ X0 * U2 1075 := Nat.mul_le_mul_right _ h3
  rw [Nat.mul_assoc, U2_add, show 1025 + 1075 = 55 + 2045 from rfl, ← U2_add, t55] at h4
  refine Nat.le_trans ?_ h4
  rw [e6]
  generalize U2 2045 = a
  generalize U10 1999 = b
  have e1 : 18014398509481983 * a * (10 * b) = 180143985094819830 * (a * b) := by
    rw [Nat.mul_comm 10 b, ← Nat.mul_assoc, Nat.mul_assoc _ a b]; omega
  have e2 : 5 * b * (36028797018963968 * a) = 180143985094819840 * (a * b) := by
    rw [Nat.mul_comm a b]
    rw [Nat.mul_comm 36028797018963968 a, ← Nat.mul_assoc, Nat.mul_assoc 5 b a]; omega
  rw [e1, e2]
  exact Nat.mul_le_mul_right _ (by decide)
end Go.Proofs.YtaidemghhagniaaGreatDoor
end
