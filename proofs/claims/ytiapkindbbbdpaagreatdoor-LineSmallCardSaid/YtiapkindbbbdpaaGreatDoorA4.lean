/- The contract of the reference's Write. -/
import Derived.Test.YtiapkindbbbdpaaGreatDoorA3
namespace Go.Proofs.YtiapkindbbbdpaaGreatDoor
open Go.RowKit
set_option linter.unusedVariables false

def rwriteN : List (List Wd) → Nat → List UInt8 → Int × Int × List UInt8
  | [], _, acc => if 65536 < acc.length then (3, -1, []) else (0, -1, acc)
  | ws :: r, i, acc => if (joinF ws).1 ≠ 0 then ((joinF ws).1, i, []) else rwriteN r (i + 1) (acc ++ (joinF ws).2 ++ [10])
theorem rwriteN_eq : ∀ (Ls : List (List Wd)) (i : Nat) (acc acc2 : List UInt8), (acc = acc2 ∨ (65536 < acc.length ∧ 65536 < acc2.length)) → rwriteN Ls i acc2 = writeN Ls i acc
  | [], i, acc, acc2, h => by
    unfold rwriteN writeN
    rcases h with rfl | ⟨h1, h2⟩
    · rfl
    · rw [if_pos h1, if_pos h2]
  | ws :: r, i, acc, acc2, h => by
    unfold rwriteN writeN
    split
    · rfl
    · refine rwriteN_eq r (i + 1) _ _ ?_
      rcases h with rfl | ⟨h1, h2⟩
      · by_cases g : acc.length ≤ 65536
        · rw [if_pos g]; left; rw [List.append_assoc]
        · rw [if_neg g]; right; simp; omega
      · rw [if_neg (by omega)]; right; simp; omega
set_option maxRecDepth 100000 in
set_option maxHeartbeats 4000000 in
theorem rwriteL_to (v : Value) (Ls : List (List Wd)) (hl : ∀ ws ∈ Ls, ws.length ≤ 1000 ∧ ∀ p ∈ ws, p.1.length ≤ 100000) (hL : Ls.length ≤ 1000000) (e n : Int) (t : List UInt8) (hW : writeF Ls = (e, n, t)) (w : World) (hv : MRow w v Ls) :
    Calls Tryz.prog 22 #[v] w (WRet e n t w) := by
  obtain ⟨a, c, rfl⟩ := hv.shape
  replace hv := Lib.hid hv
  replace hl := Lib.hid hl
  have hW0 : Hid (rwriteN (Ls.drop 0) 0 [] = (e, n, t)) := by
    show _ = _
    rw [rwriteN_eq _ _ [] [] (.inl rfl)]; exact hW
  have I0 : Hid (w.ownsRow w.heap.size 5 1 (.slice none 0 0) 0 (([] : List UInt8).map enc8)) := ⟨rfl, .inl ⟨rfl, rfl⟩⟩
  clear hW
  go_enter Tryz.func22, Tryz.ntmps22
  go_wp2_with fail
  go_loopg [5, 6] (Ls.length + 1) (fun g s5 s6 wx => ∃ (i : Nat) (acc : List UInt8), i + g = Ls.length + 1 ∧ s6 = .int .i64 i ∧ i ≤ Ls.length ∧ acc.length ≤ i * 65537 ∧ Hid (wx.ownsRow w.heap.size 5 1 s5 acc.length (acc.map enc8)) ∧ Hid (Below w.heap.size w wx) ∧ Hid (rwriteN (Ls.drop i) i acc = (e, n, t)))
  case atStart => exact ⟨0, [], by omega, rfl, by omega, by simp, I0, Lib.hid (Below.refl _ _), hW0⟩
  case round =>
    clear I0 hW0
    obtain ⟨i, acc, hg, rfl, hi, hal, I, B, hW⟩ := hrel
    obtain ⟨a4, c4, rfl⟩ := own_shape I.out
    by_cases hlt : i < Ls.length
    · have t1 : decide (i < Ls.length) = true := decide_eq_true hlt
      have t1' : decide ((i : Int) < (Ls.length : Int)) = true := decide_eq_true (by omega)
      obtain ⟨b, off, a2, c2, rfl, x0, hw⟩ := (hv.out.on B.out).at' i hlt
      obtain ⟨ws, hws⟩ : ∃ ws, Hid (Ls[i] = ws) := ⟨_, Lib.hid rfl⟩
      have hwl := hl.out _ (List.getElem_mem hlt)
      have hW' := hW.out
      rw [List.drop_eq_getElem_cons hlt, rwriteN] at hW'
      rw [hws.out] at x0 hw hwl hW'
      obtain ⟨e2, s, hj⟩ : ∃ e2 s, Hid (joinF ws = (e2, s)) := ⟨_, _, Lib.hid rfl⟩
      have hsl := joinF_len ws
      rw [hj.out] at hW' hsl
      simp only at hW' hsl
      have hjc := Lib.hid (rjoin_any _ ws hwl.1 e2 s hwl.2 hj.out wr hw)
      replace hW' := Lib.hid hW'
      clear hW hws hw hwl hj
      go_wp2_with fail
      refine (hjc.out).mono ?_; rintro x w2 ⟨rfl, hb⟩
      replace I := Lib.hid (owns_on I.out hb)
      replace B := Lib.hid (B.out.trans (hb.mono B.out.size))
      clear x0 hjc hb
      by_cases he : e2 = 0
      · subst he
        have h1 := hW'.out
        rw [if_neg (by simp)] at h1
        replace h1 := Lib.hid h1
        clear hW'
        obtain ⟨u, hu⟩ : ∃ u : ByteArray, Hid (⟨s.toArray⟩ = u) := ⟨_, Lib.hid rfl⟩
        have hus : u.size ≤ 65536 := by rw [← hu.out, ba_size]; exact hsl
        have hul : Hid (s = u.data.toList) := by show _ = _; rw [← hu.out]
        rw [hu.out]
        rw [hul.out] at h1
        have hBs := B.out.size
        clear hu hul hsl
        go_wp2_with (first | (at_builtin; refine app_str rfl (.tmp 27) (.tmp 28) 27 9 rfl w.heap.size 5 Tryz.underlying27 Tryz.underlying9 info5r _ acc.length acc rfl I.out u rfl (by omega) hBs ?_; rintro v5 w5 hown5' hb5 hv5; have hown5 := Lib.hid hown5'; clear hown5') | (at_builtin; refine app_one rfl (.tmp 29) (.tmp 30) 27 rfl (u := .int .u8 10) w.heap.size (.int .u8 0) 1 Tryz.underlying27 info5r rfl _ (acc.length + u.size) _ rfl rfl hown5.out rfl (by omega) (by omega) (Nat.le_trans hBs hb5.size) ?_; rintro v6 w6 hown6' hb6 hs6 _ hv6; have hown6 := Lib.hid hown6'; clear hown6'))
        go_roundg (gk - 1)
        case measure => omega
        case rel => exact ⟨i + 1, acc ++ u.data.toList ++ [10], by omega, by go_num, by omega, by rw [List.length_append, List.length_append, size_of_list2]; show _ + 1 ≤ _; omega, by have := hown6.out; rw [List.length_append, List.length_append, size_of_list2, List.map_append]; exact Lib.hid this, Lib.hid (B.out.trans (hb5.trans hb6)), h1⟩
      · have t3 : (e2 != 0) = true := by simpa using he
        have h1 := hW'.out
        rw [if_pos he] at h1
        simp only [Prod.mk.injEq] at h1
        obtain ⟨rfl, rfl, rfl⟩ := h1
        clear hW'
        replace he := Lib.hid he
        go_wp2_with fail
        go_ret3
        exact ⟨rfl, B.out⟩
    · obtain rfl : i = Ls.length := by omega
      have t1 : decide (Ls.length < Ls.length) = false := decide_eq_false (by omega)
      have t1' : decide ((Ls.length : Int) < (Ls.length : Int)) = false := decide_eq_false (by omega)
      have h1 := hW.out
      rw [List.drop_eq_nil_of_le (Nat.le_refl _)] at h1
      unfold rwriteN at h1
      clear hW
      by_cases h65 : 65536 < acc.length
      · have t4 : decide (65536 < (acc.length : Int)) = true := decide_eq_true (by omega)
        rw [if_pos h65] at h1
        simp only [Prod.mk.injEq] at h1
        obtain ⟨rfl, rfl, rfl⟩ := h1
        go_wp2_with fail
        go_ret3
        exact ⟨rfl, B.out⟩
      · have t4 : decide (65536 < (acc.length : Int)) = false := decide_eq_false (by omega)
        rw [if_neg h65] at h1
        simp only [Prod.mk.injEq] at h1
        obtain ⟨rfl, rfl, rfl⟩ := h1
        have hcv : Hid ((convert 27 9 (.slice a4 acc.length c4)).run Tryz.prog wr = .ok (.string ⟨acc.toArray⟩) wr) := conv_owned Tryz.underlying27 Tryz.underlying5 Tryz.underlying9 I.out
        have hcv' := hcv.out
        go_wp2_with fail
        go_ret3
        exact ⟨rfl, B.out⟩
end Go.Proofs.YtiapkindbbbdpaaGreatDoor
