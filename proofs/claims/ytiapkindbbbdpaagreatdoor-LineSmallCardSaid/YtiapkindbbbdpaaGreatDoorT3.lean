/- The contract of line.Write over the translation. -/
import Derived.Test.YtiapkindbbbdpaaGreatDoorT2
import Derived.Test.YtiapkindbbbdpaaGreatDoorP4
namespace Go.Proofs.YtiapkindbbbdpaaGreatDoor
open Go.RowKit

/-- Write: the error, where, the text. -/
def writeN : List (List Wd) → Nat → List UInt8 → Int × Int × List UInt8
  | [], _, acc => if 65536 < acc.length then (3, -1, []) else (0, -1, acc)
  | ws :: r, i, acc => if (joinF ws).1 ≠ 0 then ((joinF ws).1, i, []) else writeN r (i + 1) (if acc.length ≤ 65536 then acc ++ ((joinF ws).2 ++ [10]) else acc)
def writeF (Ls : List (List Wd)) : Int × Int × List UInt8 := writeN Ls 0 []
theorem joinF_len (ws : List Wd) : (joinF ws).2.length ≤ 65536 := by
  unfold joinF
  split
  · simp
  · split
    · simp
    · split
      · simp
      · simp only; omega
/-- What Write returns. -/
def WRet (e n : Int) (t : List UInt8) (w : World) (x : Ending) (w' : World) : Prop := x = .returned (.tuple #[.string ⟨t.toArray⟩, .int .i64 n, .int .i64 e]) ∧ Below w.heap.size w w'
set_option maxRecDepth 100000 in
set_option maxHeartbeats 2000000 in
theorem write_to (v : Value) (Ls : List (List Wd)) (hl : ∀ ws ∈ Ls, ws.length ≤ 1000 ∧ ∀ p ∈ ws, p.1.length ≤ 100000) (hL : Ls.length ≤ 1000000) (e n : Int) (t : List UInt8) (hW : writeF Ls = (e, n, t)) (w : World) (hv : MRow w v Ls) :
    Calls Tryz.prog 17 #[v] w (WRet e n t w) := by
  obtain ⟨a, c, rfl⟩ := hv.shape
  replace hv := Lib.hid hv
  replace hl := Lib.hid hl
  have hW0 : Hid (writeN (Ls.drop 0) 0 [] = (e, n, t)) := hW
  have I0 := Lib.hid (bld_new w w.heap.size (Nat.le_refl _))
  have B0 := Lib.hid ((Below.refl w.heap.size w).alloc (Nat.le_refl _) (.cells #[.pointer none, .slice none 0 0] 80))
  clear hW
  go_enter Tryz.func17, Tryz.ntmps17
  go_wp2_with fail
  generalize w.alloc (.cells #[.pointer none, .slice none 0 0] 80) = W0 at I0 B0 ⊢
  go_loopg [12] (Ls.length + 1) (fun g s12 wx => ∃ (i : Nat) (acc : List UInt8), i + g = Ls.length + 1 ∧ s12 = .int .i64 i ∧ i ≤ Ls.length ∧ acc.length ≤ 131073 ∧ Hid (BldK w.heap.size w.heap.size acc wx) ∧ Hid (Below w.heap.size w wx) ∧ Hid (writeN (Ls.drop i) i acc = (e, n, t)))
  case atStart => exact ⟨0, [], by omega, rfl, by omega, by simp, I0, B0, hW0⟩
  case round =>
    clear I0 B0 hW0
    obtain ⟨i, acc, hg, rfl, hi, hal, I, B, hW⟩ := hrel
    have hcl := Lib.byteCells_length acc
    by_cases hlt : i < Ls.length
    · have t1 : decide (i < Ls.length) = true := decide_eq_true hlt
      have t1' : decide ((i : Int) < (Ls.length : Int)) = true := decide_eq_true (by omega)
      obtain ⟨b, off, a2, c2, rfl, x0, hw⟩ := (hv.out.on B.out).at' i hlt
      obtain ⟨ws, hws⟩ : ∃ ws, Hid (Ls[i] = ws) := ⟨_, Lib.hid rfl⟩
      have hwl := hl.out _ (List.getElem_mem hlt)
      have hW' := hW.out
      rw [List.drop_eq_getElem_cons hlt, writeN] at hW'
      rw [hws.out] at x0 hw hwl hW'
      obtain ⟨e2, s, hj⟩ : ∃ e2 s, Hid (joinF ws = (e2, s)) := ⟨_, _, Lib.hid rfl⟩
      have hsl := joinF_len ws
      rw [hj.out] at hW' hsl
      simp only at hW' hsl
      have hjc := Lib.hid (join_any _ ws hwl.1 e2 s hwl.2 hj.out wr hw)
      replace hW' := Lib.hid hW'
      clear hW hws hw hwl hj
      go_wp2_with fail
      refine (hjc.out).mono ?_; rintro x w2 ⟨rfl, hb⟩
      have I2 := bld_below I.out hb
      replace B := Lib.hid (B.out.trans (hb.mono B.out.size))
      clear hjc hb I x0
      by_cases he : e2 = 0
      · subst he
        have h1 := hW'.out
        rw [if_neg (by simp)] at h1
        replace h1 := Lib.hid h1
        have hlen := Tryz.Builder_Len_f w.heap.size w.heap.size _ w2 I2
        rw [hcl] at hlen
        replace hlen := Lib.hid hlen
        replace I2 := Lib.hid I2
        obtain ⟨u, hu⟩ : ∃ u : ByteArray, Hid (⟨s.toArray⟩ = u) := ⟨_, Lib.hid rfl⟩
        have huz : u.size = s.length := by rw [← hu.out, ba_size]
        rw [hu.out]
        clear hW' hcl
        go_wp2_with fail
        refine (hlen.out).mono ?_; rintro x w3 ⟨rfl, rfl⟩
        clear hlen
        by_cases h65 : acc.length ≤ 65536
        · have t2 : decide (acc.length ≤ 65536) = true := decide_eq_true h65
          have t2' : decide ((acc.length : Int) ≤ 65536) = true := decide_eq_true (by omega)
          have h2 := h1.out
          rw [if_pos h65] at h2
          have hud : (u ++ ⟨#[10]⟩ : ByteArray).data.toList = s ++ [10] := by rw [← hu.out]; simp
          rw [← hud] at h2
          replace h2 := Lib.hid h2
          have huz2 : (u ++ ⟨#[10]⟩ : ByteArray).size ≤ 65537 := by rw [ByteArray.size_append, huz]; show s.length + 1 ≤ _; omega
          have hwl2 : (u ++ ⟨#[10]⟩ : ByteArray).data.toList.length ≤ 65537 := by rw [Array.length_toList]; exact huz2
          have hws := Lib.hid (ws_k w.heap.size w.heap.size acc (u ++ ⟨#[10]⟩) (by omega) w3 I2.out B.out.size)
          obtain ⟨u2, hu2⟩ : ∃ u2, u ++ ⟨#[10]⟩ = u2 := ⟨_, rfl⟩
          rw [hu2] at hws h2 hwl2
          have huzb : u.size ≤ 65536 := by omega
          clear h1 huz2 hud I2 hu huz
          go_wp2_with fail
          refine (hws.out).mono ?_; rintro x w4 ⟨rfl, I3, hb, _⟩
          replace I3 := Lib.hid I3
          replace B := Lib.hid (B.out.trans hb)
          clear hws hb hu2
          go_wp2_with fail
          go_roundg (gk - 1)
          case measure => omega
          case rel => exact ⟨i + 1, _, by omega, by go_num, by omega, by rw [List.length_append]; omega, I3, B, h2⟩
        · have t2 : decide (acc.length ≤ 65536) = false := decide_eq_false h65
          have t2' : decide ((acc.length : Int) ≤ 65536) = false := decide_eq_false (by omega)
          have h2 := h1.out
          rw [if_neg h65] at h2
          replace h2 := Lib.hid h2
          clear h1
          go_wp2_with fail
          go_roundg (gk - 1)
          case measure => omega
          case rel => exact ⟨i + 1, _, by omega, by go_num, by omega, hal, I2, B, h2⟩
      · have h1 := hW'.out
        rw [if_pos he] at h1
        simp only [Prod.mk.injEq] at h1
        obtain ⟨rfl, rfl, rfl⟩ := h1
        have t2 : (e2 != 0) = true := by simpa using he
        clear hW' I2 hcl he
        go_wp2_with fail
        go_ret3
        exact ⟨rfl, B.out⟩
    · obtain rfl : i = Ls.length := by omega
      have t1 : decide (Ls.length < Ls.length) = false := decide_eq_false (by omega)
      have hW' := hW.out
      rw [List.drop_of_length_le (Nat.le_refl _), writeN] at hW'
      have hlen := Tryz.Builder_Len_f w.heap.size w.heap.size _ wr I.out
      rw [hcl] at hlen
      replace hlen := Lib.hid hlen
      clear hW hcl
      by_cases h65 : 65536 < acc.length
      · have t2 : decide (65536 < (acc.length : Int)) = true := decide_eq_true (by omega)
        have t2' : decide (65536 < acc.length) = true := decide_eq_true h65
        rw [if_pos h65] at hW'
        simp only [Prod.mk.injEq] at hW'
        obtain ⟨rfl, rfl, rfl⟩ := hW'
        go_wp2_with fail
        refine (hlen.out).mono ?_; rintro x w3 ⟨rfl, rfl⟩
        go_wp2_with fail
        go_ret3
        exact ⟨rfl, B.out⟩
      · have t2 : decide (65536 < (acc.length : Int)) = false := decide_eq_false (by omega)
        have t2' : decide (65536 < acc.length) = false := decide_eq_false h65
        rw [if_neg h65] at hW'
        simp only [Prod.mk.injEq] at hW'
        obtain ⟨rfl, rfl, rfl⟩ := hW'
        have hst := Lib.hid (str_k w.heap.size w.heap.size acc ⟨acc.toArray⟩ rfl wr I.out B.out.size)
        go_wp2_with fail
        refine (hlen.out).mono ?_; rintro x w3 ⟨rfl, rfl⟩
        clear hlen
        go_wp2_with fail
        refine (hst.out).mono ?_; rintro x w4 ⟨rfl, _, hb, _⟩
        go_wp2_with fail
        go_ret3
        exact ⟨rfl, B.out.trans hb⟩
end Go.Proofs.YtiapkindbbbdpaaGreatDoor
