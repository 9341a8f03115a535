/- The contracts of the reference's Right and Join. -/
import Derived.Test.YtiapkindbbbdpaaGreatDoorA1
import Derived.Test.YtiapkindbbbdpaaGreatDoorR3
import Derived.Test.YtiapkindbbbdpaaGreatDoorP4
namespace Go.Proofs.YtiapkindbbbdpaaGreatDoor
open Go.RowKit
set_option linter.unusedVariables false

theorem size_of_list2 (a : ByteArray) : a.data.toList.length = a.size := by rw [Array.length_toList]; rfl
theorem rright_to (s : ByteArray) (q : Bool) (hs : s.size ≤ 4611686018427387904) (b : Bool) (h : rightF s q = b) (w : World) : Calls Tryz.prog 21 #[.agg #[.string s, .bool q]] w fun e w' => e = .returned (.bool b) ∧ Below w.heap.size w w' := by
  cases q with
  | true =>
    have hc := Lib.hid (fun W => rvalid_to s hs b h W)
    go_enter Tryz.func21, Tryz.ntmps21
    go_wp2_with fail
    refine (hc.out _).mono ?_; rintro e w1 ⟨rfl, hb⟩
    go_wp2_with fail
    go_ret
    exact ⟨rfl, ((Below.refl _ _).alloc (Nat.le_refl _) _).trans (hb.mono (by simp))⟩
  | false =>
    have hc := Lib.hid (fun W => rbare_to s hs b h W)
    go_enter Tryz.func21, Tryz.ntmps21
    go_wp2_with fail
    refine (hc.out _).mono ?_; rintro e w1 ⟨rfl, hb⟩
    go_wp2_with fail
    go_ret
    exact ⟨rfl, ((Below.refl _ _).alloc (Nat.le_refl _) _).trans (hb.mono (by simp))⟩
/-- What the loop has written. -/
def jacc (ws : List Wd) (i : Nat) : List UInt8 := Lib.join ((ws.take i).map formW) [32]
theorem join_snoc (xs : List (List UInt8)) (x : List UInt8) (h : 0 < xs.length) : Lib.join (xs ++ [x]) [32] = Lib.join xs [32] ++ [32] ++ x := by
  cases xs with
  | nil => simp at h
  | cons y r => rw [List.cons_append, Lib.join_cons, Lib.join_cons]; simp [Lib.joinTail]
theorem jacc_next (ws : List Wd) (i : Nat) (h : i < ws.length) : jacc ws (i + 1) = (if 0 < i then jacc ws i ++ [32] else jacc ws i) ++ formW ws[i] := by
  unfold jacc
  rw [List.take_add_one, List.getElem?_eq_getElem h, List.map_append]
  show Lib.join (_ ++ [formW ws[i]]) [32] = _
  by_cases h0 : 0 < i
  · rw [if_pos h0, join_snoc _ _ (by simp; omega)]
  · obtain rfl : i = 0 := by omega
    rw [if_neg h0]
    simp [Lib.join_one, Lib.join_nil]
theorem jacc_len (ws : List Wd) (K i : Nat) (h : ∀ p ∈ ws, (formW p).length ≤ K) : (jacc ws i).length ≤ i * (K + 1) := by
  refine Nat.le_trans (join_len _ K ?_) ?_
  · intro x hx
    obtain ⟨p, hp, rfl⟩ := List.mem_map.1 hx
    exact h p (List.mem_of_mem_take hp)
  · rw [List.length_map, List.length_take]
    exact Nat.mul_le_mul_right _ (by omega)
theorem formW_len2 (p : Wd) (h : p.1.length ≤ 100000) : (formW p).length ≤ 200002 := by
  have : ∀ l : List UInt8, (quL l).length ≤ 2 * l.length := by
    intro l
    induction l with
    | nil => simp [quL]
    | cons c r ih => have := encq_le c; unfold quL at ih ⊢; simp only [List.flatMap_cons, List.length_append, List.length_cons]; omega
  have := this p.1
  unfold formW
  split
  · simp; omega
  · omega
def RJRet (e : Int) (t : List UInt8) (w : World) (x : Ending) (w' : World) : Prop := x = .returned (.tuple #[.string ⟨t.toArray⟩, .int .i64 e]) ∧ Below w.heap.size w w'
set_option maxRecDepth 100000 in
set_option maxHeartbeats 16000000 in
theorem rjoin_any (v : Value) (ws : List Wd) (hl : ws.length ≤ 1000) (e : Int) (t : List UInt8) (hsz0 : ∀ p ∈ ws, p.1.length ≤ 100000) (hJ : joinF ws = (e, t)) (w : World) (hv : WRow w v ws) :
    Calls Tryz.prog 19 #[v] w (RJRet e t w) := by
  replace hJ := Lib.hid hJ
  obtain ⟨av, cv, rfl⟩ := hv.shape
  replace hv := Lib.hid hv
  have hjl := Lib.hid (fun i => jacc_len ws 200002 i (fun p hp => formW_len2 p (hsz0 p hp)))
  replace hsz0 := Lib.hid hsz0
  have I0 : Hid (w.ownsRow w.heap.size 5 1 (.slice none 0 0) 0 (([] : List UInt8).map enc8)) := ⟨rfl, .inl ⟨rfl, rfl⟩⟩
  go_enter Tryz.func19, Tryz.ntmps19
  go_wp2_with fail
  go_loopg [4, 5] (ws.length + 1) (fun g s4 s5 wx => ∃ (i : Nat) (acc : List UInt8), i + g = ws.length + 1 ∧ s5 = .int .i64 i ∧ i ≤ ws.length ∧ acc.length ≤ i * 200003 ∧ Hid (acc = jacc ws i) ∧ Hid (∀ p ∈ ws.take i, rightW p = true) ∧ Hid (wx.ownsRow w.heap.size 5 1 s4 acc.length (acc.map enc8)) ∧ Hid (Below w.heap.size w wx))
  case atStart => exact ⟨0, [], by omega, rfl, by omega, by simp, Lib.hid rfl, Lib.hid (by simp), I0, Lib.hid (Below.refl _ _)⟩
  case round =>
    clear I0
    obtain ⟨i, acc, hg, rfl, hi, hal, hA, hR, I, B⟩ := hrel
    obtain ⟨a4, c4, rfl⟩ := own_shape I.out
    have hBs := B.out.size
    by_cases hlt : i < ws.length
    · have t1 : decide (i < ws.length) = true := decide_eq_true hlt
      have t2 : decide ((i : Int) < (ws.length : Int)) = true := decide_eq_true (by omega)
      obtain ⟨b, off, rfl, x0, x1⟩ := hv.out.at' i hlt
      obtain ⟨p, hp⟩ : ∃ p, Hid (ws[i] = p) := ⟨_, Lib.hid rfl⟩
      rw [hp.out] at x0 x1
      obtain ⟨s, hs⟩ : ∃ s : ByteArray, Hid (⟨p.1.toArray⟩ = s) := ⟨_, Lib.hid rfl⟩
      rw [hs.out] at x0
      obtain ⟨q, hq⟩ : ∃ q, Hid (p.2 = q) := ⟨_, Lib.hid rfl⟩
      rw [hq.out] at x1
      obtain ⟨r, hr⟩ : ∃ r, Hid (rightF s q = r) := ⟨_, Lib.hid rfl⟩
      have hrw : Hid (rightW p = r) := by show _ = _; unfold rightW; rw [hs.out, hq.out]; exact hr.out
      have hpl : p.1.length ≤ 100000 := hsz0.out p (by rw [← hp.out]; exact List.getElem_mem hlt)
      have hsz : s.size ≤ 100000 := by rw [← hs.out, ba_size]; exact hpl
      have hbl : b < w.heap.size := by obtain ⟨o, ho, _⟩ := cells_of_cell x0; exact (Array.getElem?_eq_some_iff.1 ho).1
      have hx : Hid (∀ W, Below w.heap.size w W → W.cell? ⟨b, off + i * 2, none⟩ = some (.string s) ∧ W.cell? ⟨b, off + i * 2 + 1, none⟩ = some (.bool q)) := Lib.hid (fun W h => ⟨(h.cell (p := ⟨b, off + i * 2, none⟩) hbl).trans x0, (h.cell (p := ⟨b, off + i * 2 + 1, none⟩) hbl).trans x1⟩)
      clear x0 x1
      obtain ⟨x0, x1⟩ := hx.out _ B.out
      have htk : Hid (ws.take (i + 1) = ws.take i ++ [p]) := by show _ = _; rw [List.take_add_one, List.getElem?_eq_getElem hlt, hp.out]; rfl
      have hmem : Hid (p ∈ ws) := Lib.hid (by rw [← hp.out]; exact List.getElem_mem hlt)
      have hnx := jacc_next ws i hlt
      rw [hp.out, ← hA.out] at hnx
      have hfw : Hid (formW p = if q then 34 :: quL s.data.toList ++ [34] else s.data.toList) := by
        show _ = _
        unfold formW
        rw [hq.out, ← hs.out]
      have hs16 : Hid (r = true → s.size ≤ 16384) := Lib.hid (fun e => right_size s q (hr.out.trans e))
      have hrc := Lib.hid (fun W => rright_to s q (by omega) r hr.out W)
      replace hnx := Lib.hid hnx
      have hn1 := hjl.out (i + 1)
      clear hp hs hq hr hv
      cases r with
      | false =>
        have h1 := hJ.out
        unfold joinF at h1
        rw [if_pos (List.all_eq_false.2 ⟨p, hmem.out, by rw [hrw.out]; simp⟩)] at h1
        simp only [Prod.mk.injEq] at h1
        obtain ⟨rfl, rfl⟩ := h1
        clear hJ hA hR hrw hfw hnx
        go_wp2_with fail
        refine (hrc.out _).mono ?_; rintro x w2 ⟨rfl, hb⟩
        go_wp2_with fail
        go_ret2
        exact ⟨rfl, B.out.trans (hb.mono B.out.size)⟩
      | true =>
        have hR2 : Hid (∀ p ∈ ws.take (i + 1), rightW p = true) := by
          intro p' hp'
          rw [htk.out, List.mem_append, List.mem_singleton] at hp'
          rcases hp' with h | rfl
          · exact hR.out _ h
          · exact hrw.out
        have hs64 : s.size ≤ 65536 := by have := hs16.out rfl; omega
        have hwc := Lib.hid (fun W => rwrite_any s hs64 W)
        obtain ⟨u, hu⟩ : ∃ u : ByteArray, Hid (⟨(34 :: quL s.data.toList ++ [34]).toArray⟩ = u) := ⟨_, Lib.hid rfl⟩
        rw [hu.out] at hwc
        obtain ⟨f, hf⟩ : ∃ f : ByteArray, Hid (f = if q then u else s) := ⟨_, Lib.hid rfl⟩
        have hff : Hid (formW p = f.data.toList) := by
          show _ = _
          rw [hfw.out, hf.out]
          cases q
          · rfl
          · rw [if_pos rfl, if_pos rfl, ← hu.out]
        rw [hff.out] at hnx
        have hfz : f.size ≤ 200002 := by
          rw [← size_of_list2 f, ← hff.out]
          exact formW_len2 p hpl
        clear hR hrw htk hmem hfw hs16 hff hu
        go_upto_region 7 with (refine (hrc.out _).mono ?_; rintro x w2 ⟨rfl, hb⟩)
        have I2 := Lib.hid (owns_on I.out hb)
        replace B := Lib.hid (B.out.trans (hb.mono B.out.size))
        clear x0 x1 I hb hrc
        obtain ⟨x0, x1⟩ := hx.out _ B.out
        have hBs2 := B.out.size
        by_cases h0 : 0 < i
        · have t3 : decide (0 < (i : Int)) = true := decide_eq_true (by omega)
          have t3' : decide (0 < i) = true := decide_eq_true h0
          have hnx2 := hnx.out
          rw [if_pos h0] at hnx2
          replace hnx2 := Lib.hid hnx2
          clear hnx
          go_upto_region 9 with (at_builtin; go_must (refine app_one rfl (.tmp 21) (.tmp 22) 27 rfl (u := .int .u8 32) w.heap.size (.int .u8 0) 1 Tryz.underlying27 info5r rfl _ acc.length _ rfl rfl I2.out rfl (by omega) (by omega) hBs2 ?_); rintro v2 w3 hown2' hb2 hs2 _ hv3; have hown2 := Lib.hid hown2'; clear hown2')
          have B3 := Lib.hid (B.out.trans hb2)
          have J : Hid (w3.ownsRow w.heap.size 5 1 v2 (acc ++ [32]).length ((acc ++ [32]).map enc8)) := by
            have := hown2.out
            rw [List.map_append, List.length_append]
            exact Lib.hid this
          obtain ⟨g, c, rfl⟩ := hv3
          clear x0 x1 hown2 hb2 I2
          obtain ⟨x0, x1⟩ := hx.out _ B3.out
          have hBs3 := B3.out.size
          have hal3 : (acc ++ [32]).length ≤ i * 200003 + 1 := by rw [List.length_append]; show acc.length + 1 ≤ _; omega
          rw [show acc.length + 1 = (acc ++ [32]).length by simp] at J ⊢
          generalize acc ++ [32] = acc2 at J hnx2 hal3 ⊢
          cases q with
          | true =>
            obtain rfl : f = u := by rw [hf.out]; rfl
            go_wp2_with fail
            refine (hwc.out _).mono ?_; rintro x w4 ⟨rfl, hb4⟩
            have J4 := Lib.hid (owns_on J.out hb4)
            have B4 := Lib.hid (B3.out.trans (hb4.mono B3.out.size))
            have hBs4 := B4.out.size
            clear x0 x1 J hb4
            go_wp2_with (at_builtin; go_must (refine app_str rfl (.tmp 39) (.tmp 40) 27 9 rfl w.heap.size 5 Tryz.underlying27 Tryz.underlying9 info5r _ acc2.length acc2 rfl J4.out f rfl (by omega) hBs4 ?_); rintro v5 w5 hown5' hb5 hv5; have hown5 := Lib.hid hown5'; clear hown5')
            go_roundg (gk - 1)
            case measure => omega
            case rel => exact ⟨i + 1, acc2 ++ f.data.toList, by omega, by go_num, by omega, by rw [List.length_append, size_of_list2]; omega, Lib.hid hnx2.out.symm, hR2, by have := hown5.out; rw [List.length_append, size_of_list2]; exact Lib.hid this, Lib.hid (B4.out.trans hb5)⟩
          | false =>
            obtain rfl : f = s := by rw [hf.out]; rfl
            go_wp2_with (at_builtin; go_must (refine app_str rfl (.tmp 39) (.tmp 40) 27 9 rfl w.heap.size 5 Tryz.underlying27 Tryz.underlying9 info5r _ acc2.length acc2 rfl J.out f rfl (by omega) hBs3 ?_); rintro v5 w5 hown5' hb5 hv5; have hown5 := Lib.hid hown5'; clear hown5')
            go_roundg (gk - 1)
            case measure => omega
            case rel => exact ⟨i + 1, acc2 ++ f.data.toList, by omega, by go_num, by omega, by rw [List.length_append, size_of_list2]; omega, Lib.hid hnx2.out.symm, hR2, by have := hown5.out; rw [List.length_append, size_of_list2]; exact Lib.hid this, Lib.hid (B3.out.trans hb5)⟩
        · have hnx2 := hnx.out
          rw [if_neg h0] at hnx2
          replace hnx2 := Lib.hid hnx2
          clear hnx
          obtain rfl : i = 0 := by omega
          obtain rfl : acc = [] := List.eq_nil_of_length_eq_zero (by omega)
          simp only [Nat.zero_mul, Nat.add_zero] at x0 x1
          rw [show ((0 : Nat) : Int) = 0 from rfl, show ([] : List UInt8).length = 0 from rfl]
          rw [show ([] : List UInt8).length = 0 from rfl] at I2
          clear hal h0 hx
          cases q with
          | true =>
            obtain rfl : f = u := by rw [hf.out]; rfl
            go_wp2_with fail
            refine (hwc.out _).mono ?_; rintro x w4 ⟨rfl, hb4⟩
            have J4 := Lib.hid (owns_on I2.out hb4)
            have B4 := Lib.hid (B.out.trans (hb4.mono B.out.size))
            have hBs4 := B4.out.size
            clear x0 x1 I2 hb4
            go_wp2_with (at_builtin; go_must (refine app_str rfl (.tmp 39) (.tmp 40) 27 9 rfl w.heap.size 5 Tryz.underlying27 Tryz.underlying9 info5r _ 0 [] rfl J4.out f rfl (by omega) hBs4 ?_); rintro v5 w5 hown5' hb5 hv5; have hown5 := Lib.hid hown5'; clear hown5')
            go_roundg (gk - 1)
            case measure => omega
            case rel => exact ⟨1, f.data.toList, by omega, by go_num, by omega, by rw [size_of_list2]; omega, Lib.hid hnx2.out.symm, hR2, by have := hown5.out; rw [size_of_list2]; rw [Nat.zero_add, List.nil_append] at this; exact Lib.hid this, Lib.hid (B4.out.trans hb5)⟩
          | false =>
            obtain rfl : f = s := by rw [hf.out]; rfl
            go_wp2_with (at_builtin; go_must (refine app_str rfl (.tmp 39) (.tmp 40) 27 9 rfl w.heap.size 5 Tryz.underlying27 Tryz.underlying9 info5r _ 0 [] rfl I2.out f rfl (by omega) hBs2 ?_); rintro v5 w5 hown5' hb5 hv5; have hown5 := Lib.hid hown5'; clear hown5')
            go_roundg (gk - 1)
            case measure => omega
            case rel => exact ⟨1, f.data.toList, by omega, by go_num, by omega, by rw [size_of_list2]; omega, Lib.hid hnx2.out.symm, hR2, by have := hown5.out; rw [size_of_list2]; rw [Nat.zero_add, List.nil_append] at this; exact Lib.hid this, Lib.hid (B.out.trans hb5)⟩
    · obtain rfl : i = ws.length := by omega
      have t1 : decide (ws.length < ws.length) = false := decide_eq_false (by omega)
      have t2 : decide ((ws.length : Int) < (ws.length : Int)) = false := decide_eq_false (by omega)
      have h1 := hJ.out
      have hall : ws.all rightW = true := by
        rw [List.all_eq_true]
        have := hR.out
        rw [List.take_of_length_le (Nat.le_refl _)] at this
        exact this
      have hA1 := hA.out
      unfold jacc at hA1
      rw [List.take_of_length_le (Nat.le_refl _)] at hA1
      unfold joinF at h1
      rw [hall, if_neg (by simp), ← hA1] at h1
      clear hJ hA hA1 hR hall
      by_cases h64 : 64 < ws.length
      · have t3 : decide (64 < (ws.length : Int)) = true := decide_eq_true (by omega)
        have t3' : decide (64 < ws.length) = true := decide_eq_true h64
        rw [if_pos h64] at h1
        simp only [Prod.mk.injEq] at h1
        obtain ⟨rfl, rfl⟩ := h1
        go_wp2_with fail
        go_ret2
        exact ⟨rfl, B.out⟩
      · have t3 : decide (64 < (ws.length : Int)) = false := decide_eq_false (by omega)
        have t3' : decide (64 < ws.length) = false := decide_eq_false h64
        rw [if_neg h64] at h1
        by_cases h65 : 65536 < acc.length
        · have t4 : decide (65536 < (acc.length : Int)) = true := decide_eq_true (by omega)
          rw [if_pos h65] at h1
          simp only [Prod.mk.injEq] at h1
          obtain ⟨rfl, rfl⟩ := h1
          go_wp2_with fail
          go_ret2
          exact ⟨rfl, B.out⟩
        · have t4 : decide (65536 < (acc.length : Int)) = false := decide_eq_false (by omega)
          rw [if_neg h65] at h1
          simp only [Prod.mk.injEq] at h1
          obtain ⟨rfl, rfl⟩ := h1
          have hcv : Hid ((convert 27 9 (.slice a4 acc.length c4)).run Tryz.prog wr = .ok (.string ⟨acc.toArray⟩) wr) := conv_owned Tryz.underlying27 Tryz.underlying5 Tryz.underlying9 I.out
          have hcv' := hcv.out
          go_wp2_with fail
          go_ret2
          exact ⟨rfl, B.out⟩
end Go.Proofs.YtiapkindbbbdpaaGreatDoor
