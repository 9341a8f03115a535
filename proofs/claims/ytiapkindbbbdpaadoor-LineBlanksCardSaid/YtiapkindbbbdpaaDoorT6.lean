/- The walk of the law LineBlanks. -/
import Derived.Test.YtiapkindbbbdpaaDoorT5
import Derived.Test.YtiapkindbbbdpaaDoorP7
import Derived.Test.YtiapkindbbbdpaaDoorQ3
import Derived.Deep.QuietTactic
import Derived.BigQuiet
namespace Go.Proofs.YtiapkindbbbdpaaDoor
open Go.RowKit
set_option linter.unusedVariables false

set_option maxRecDepth 100000 in
set_option maxHeartbeats 1000000 in
theorem same_q (va vb : Value) (wa wb : List Wd) (w : World) (ha : WRow w va wa) (hb : WRow w vb wb) : Calls Tryd.prog 21 #[va, vb] w fun e w' => e = .returned (.bool (decide (wa = wb))) ∧ ∃ n, w' = w.drewN n := by
  obtain ⟨R, hR⟩ : ∃ R, Hid (decide (wa = wb) = R) := ⟨_, rfl⟩
  rw [hR.out]
  obtain ⟨aa, ca, rfl⟩ := ha.shape
  obtain ⟨ab, cb, rfl⟩ := hb.shape
  have E31 := eq31
  by_cases hl : wa.length = wb.length
  · have t1 : ((wa.length : Int) != (wb.length : Int)) = false := by simp; omega
    replace ha := Lib.hid ha
    replace hb := Lib.hid hb
    go_enter Tryd.func21, Tryd.ntmps21
    go_wp2_with fail
    go_loopg [13] (wa.length + 1) (fun g s13 wx => ∃ i : Nat, i + g = wa.length + 1 ∧ s13 = .int .i64 i ∧ i ≤ wa.length ∧ Hid (wa.take i = wb.take i) ∧ Hid (Below w.heap.size w wx) ∧ Hid (∃ n, wx = w.drewN n))
    case atStart => exact ⟨0, by omega, rfl, by omega, rfl, Below.refl _ _, Lib.hid ⟨0, rfl⟩⟩
    case round =>
      obtain ⟨i, hi, rfl, hil, hT, hB, hD⟩ := hrel
      by_cases hlt : i < wa.length
      · have t2 : decide (i < wa.length) = true := decide_eq_true hlt
        have t3 : decide (i < wb.length) = true := decide_eq_true (by omega)
        have hlb : i < wb.length := by omega
        have hlm := ha.out.len_le
        have qw : wrap64 ((i : Int) + 1) = ((i + 1 : Nat) : Int) := (IntWalk.wrap64_in _ ⟨by omega, by omega⟩).trans (by omega)
        obtain ⟨ba, rfl, x0, x1⟩ := (ha.out.on hB.out).at' i hlt
        obtain ⟨bb, rfl, y0, y1⟩ := (hb.out.on hB.out).at' i hlb
        obtain ⟨si, hsi⟩ : ∃ s : ByteArray, Hid ((⟨(wa[i]).1.toArray⟩ : ByteArray) = s) := ⟨⟨(wa[i]).1.toArray⟩, Lib.hid rfl⟩
        obtain ⟨ti, hti⟩ : ∃ s : ByteArray, Hid ((⟨(wb[i]).1.toArray⟩ : ByteArray) = s) := ⟨⟨(wb[i]).1.toArray⟩, Lib.hid rfl⟩
        obtain ⟨p, hp⟩ : ∃ p : Bool, Hid ((wa[i]).2 = p) := ⟨(wa[i]).2, Lib.hid rfl⟩
        obtain ⟨q, hq⟩ : ∃ q : Bool, Hid ((wb[i]).2 = q) := ⟨(wb[i]).2, Lib.hid rfl⟩
        rw [hsi.out] at x0
        rw [hti.out] at y0
        rw [hp.out] at x1
        rw [hq.out] at y1
        have hst : Hid ((si.toList == ti.toList) = ((wa[i]).1 == (wb[i]).1)) := by show _ = _; rw [← hsi.out, ← hti.out, ByteArray.toList_eq, ByteArray.toList_eq]
        by_cases he : wa[i] = wb[i]
        · have q1 : (si.toList == ti.toList) = true := by rw [hst.out, he]; simp
          have q2 : (p == q) = true := by rw [← hp.out, ← hq.out, he]; simp
          have hT2 := Lib.hid (take_eq_next wa wb i hT.out hlt hlb he)
          go_upto_region 6 with (fail)
          go_region
          go_wp2_with fail
          go_roundg (gk - 1)
          case measure => omega
          case rel => exact ⟨i + 1, by omega, rfl, by omega, hT2, hB.out.drew, Lib.hid (drew_next hD.out)⟩
        · have q0 : ((si.toList == ti.toList) && (p == q)) = false := by
            rw [hst.out, ← hp.out, ← hq.out, Bool.eq_false_iff]
            intro h
            rw [Bool.and_eq_true] at h
            exact he (Prod.ext (by simpa using h.1) (by simpa using h.2))
          obtain rfl : R = false := by rw [← hR.out]; exact decide_eq_false (fun e => he (by subst e; rfl))
          go_upto_region 6 with (fail)
          go_region
          go_wp2_with fail
          go_ret
          exact ⟨rfl, drew_next hD.out⟩
      · obtain rfl : i = wa.length := by omega
        have t2 : decide (wa.length < wa.length) = false := decide_eq_false (by omega)
        obtain rfl : R = true := by
          rw [← hR.out]
          have := hT.out
          rw [List.take_of_length_le (Nat.le_refl _), List.take_of_length_le (by omega)] at this
          exact decide_eq_true this
        go_wp2_with fail
        go_ret
        exact ⟨rfl, hD.out⟩
  · have t1 : ((wa.length : Int) != (wb.length : Int)) = true := by simp; omega
    obtain rfl : R = false := by rw [← hR.out]; exact decide_eq_false (fun e => hl (by rw [e]))
    go_enter Tryd.func21, Tryd.ntmps21
    go_wp2_with fail
    go_ret
    exact ⟨rfl, 0, rfl⟩
theorem srows_one (W : World) (v : Value) (ss : List ByteArray) (h : StrsR W v ss) : SRows (W.alloc (.cells #[v] 46)) (.slice (some ⟨W.heap.size, 0, none⟩) 1 1) [ss] := by
  refine .inr ⟨W.heap.size, 0, 1, rfl, by simp, Nat.le_refl _, by unfold maxLen; omega, fun i hi => ?_⟩
  obtain rfl : i = 0 := by simpa using hi
  refine ⟨v, ?_, h.on ((Below.refl _ _).alloc (Nat.le_refl _) _)⟩
  rw [Lib.cell_of_heap (World.alloc_heap_new _ _)]
  rfl
theorem strs5 (W : World) (e0 e1 e2 e3 e4 : ByteArray) (k : Nat) (hk : k < 5) : (W.alloc (.cells #[.string e0, .string e1, .string e2, .string e3, .string e4] 9)).cell? ⟨W.heap.size, k, none⟩ = some (.string (if k = 0 then e0 else if k = 1 then e1 else if k = 2 then e2 else if k = 3 then e3 else e4)) := by
  rw [Lib.cell_of_heap (World.alloc_heap_new _ _)]
  rcases (by omega : k = 0 ∨ k = 1 ∨ k = 2 ∨ k = 3 ∨ k = 4) with rfl | rfl | rfl | rfl | rfl <;> rfl
theorem endK_ba (cm : ByteArray) (k : Nat) : (if k = 0 then (⟨#[]⟩ : ByteArray) else if k = 1 then ⟨#[32]⟩ else if k = 2 then ⟨#[35]⟩ else if k = 3 then ⟨#[35]⟩ ++ cm else ⟨#[9, 35, 32]⟩ ++ cm).data.toList = endK cm.data.toList k := by
  unfold endK
  (repeat' split) <;> simp
theorem cat_list (a b : ByteArray) : (a ++ b).data.toList = a.data.toList ++ b.data.toList := by simp
theorem len_size (a : ByteArray) : a.data.toList.length = a.size := by rw [Array.length_toList]; rfl
set_option maxRecDepth 100000 in
set_option maxHeartbeats 8000000 in
theorem blanks_any (aw : Option Addr) (lw cw : Nat) (ss : List ByteArray) (q : Int) (a : Option Addr) (n c : Nat) (zs : List Int) (cm : ByteArray) (w : World) (hv : StrsR w (.slice aw lw cw) ss) (hr : Row w (.slice a n c) (zs.map (Value.int .u8))) (hz : ∀ z ∈ zs, 0 ≤ z ∧ z < 256) (hG : Glb2 w) :
    Calls Tryd.prog 9 #[.slice aw lw cw, .int .u16 q, .slice a n c, .string cm] w fun e w' => e = .returned (.bool true) ∧ Below w.heap.size w w' := by
  replace hG := Lib.hid (fun (W : World) (h : Below w.heap.size w W) => hG.on h)
  have hal : Below w.heap.size w (w.alloc (.cells #[.slice a n c] 57)) := (Below.refl _ _).alloc (Nat.le_refl _) _
  have hM : Hid (∀ W : World, Below (w.alloc (.cells #[.slice a n c] 57)).heap.size (w.alloc (.cells #[.slice a n c] 57)) W → W.cell? ⟨w.heap.size, 0, none⟩ = some (.slice a n c) ∧ Row W (.slice a n c) (zs.map (Value.int .u8)) ∧ StrsR W (.slice aw lw cw) ss ∧ Below w.heap.size w W) := by
    intro W hb
    refine ⟨(hb.cell (p := ⟨w.heap.size, 0, none⟩) (by simp)).trans ?_, (hr.on hal).on hb, (hv.on hal).on hb, hal.trans (hb.mono hal.size)⟩
    rw [Lib.cell_of_heap (World.alloc_heap_new _ _)]
    rfl
  replace hz := Lib.hid hz
  clear hr hv hal
  go_enter Tryd.func9, Tryd.ntmps9
  go_wp2_with fail
  generalize w.alloc (.cells #[.slice a n c] 57) = w0 at hM ⊢
  have hM0 := Lib.hid (hM.out w0 (Below.refl _ _))
  refine (awake_any w0 (hG.out _ hM0.out.2.2.2).1).mono ?_; rintro y w1 ⟨rfl, hb⟩
  have hB := Lib.hid hb
  have hM1 := Lib.hid (hM.out w1 hb)
  have hrow := srows_one w1 (.slice aw lw cw) ss hM1.out.2.2.1
  have hal := (Below.refl w1.heap.size w1).alloc (Nat.le_refl _) (.cells #[.slice aw lw cw] 46)
  have hmd := Lib.hid (made_any _ q [ss] _ hrow (hG.out _ (hM1.out.2.2.2.trans (hal.mono hM1.out.2.2.2.size))).2)
  replace hal := Lib.hid hal
  clear hb hrow hM0
  go_wp2_with fail
  refine (hmd.out).mono ?_; rintro y w2 ⟨⟨v9, Ls, rfl, hRow, hLn, hok⟩, hb⟩
  obtain ⟨ws, rfl⟩ : ∃ ws, Ls = [ws] := by
    match Ls, hLn with
    | [ws], _ => exact ⟨ws, rfl⟩
  replace hB := Lib.hid (hB.out.trans ((hal.out.trans (hb.mono hal.out.size)).mono hB.out.size))
  have hokw := hok ws (List.mem_cons_self ..)
  obtain ⟨a9, c9, rfl⟩ := hRow.shape
  obtain ⟨b9, o9, a2, c2, rfl, x0, hw⟩ := hRow.at' 0 (by simp)
  simp only [List.getElem_cons_zero] at x0 hw
  have hRc : Hid (∀ W : World, Below w2.heap.size w2 W → W.cell? ⟨b9, o9, none⟩ = some (.slice a2 ws.length c2) ∧ WRow W (.slice a2 ws.length c2) ws) := by
    show ∀ W : World, Below w2.heap.size w2 W → W.cell? ⟨b9, o9 + 0, none⟩ = some (.slice a2 ws.length c2) ∧ WRow W (.slice a2 ws.length c2) ws
    intro W hbW
    obtain ⟨bx, ox, ax, cx, e1, e2, e3⟩ := (hRow.on hbW).at' 0 (by simp)
    cases e1
    simp only [List.getElem_cons_zero] at e2 e3
    have e4 : W.cell? ⟨b9, o9 + 0, none⟩ = some (.slice a2 ws.length c2) := by
      rw [hbW.cell (p := ⟨b9, o9 + 0, none⟩) ?_]
      · exact x0
      · rcases hRow with ⟨h1, h2⟩ | ⟨b, off, cap, h1, h2, _⟩
        · cases h2
        · cases h1; exact h2
    rw [e4] at e2
    cases e2
    exact ⟨e4, e3⟩
  have hM2 := Lib.hid (hM.out w2 hB.out)
  have hbl0 := bl_any w.heap.size 0 a n c zs (by omega) w2 hM2.out.1 hM2.out.2.1 hz.out
  rw [show ((0 : Nat) : Int) = 0 from rfl] at hbl0
  replace hbl0 := Lib.hid hbl0
  have hwl : ws.length ≤ 10 := hokw.1
  replace hokw := Lib.hid hokw
  clear hmd hb hal hLn hok hRow x0 hw hM1 hM2
  simp only [List.length_cons, List.length_nil]
  go_wp2_with fail
  refine (hbl0.out).mono ?_; rintro y w3 ⟨⟨b, rfl, hb1, hb2, hb3⟩, hb⟩
  have hB3 := Lib.hid hb
  have hx3 := (hRc.out w3 hb).1
  have t1 : decide (1 ≤ b.size) = true := decide_eq_true hb1
  obtain ⟨s0, hs0⟩ : ∃ s0, Hid (b.extract 1 b.size = s0) := ⟨_, Lib.hid rfl⟩
  have hs0z : s0.size ≤ 2 := by rw [← hs0.out, ByteArray.size_extract]; omega
  have hs0b : Hid (∀ c ∈ s0.data.toList, c = 32 ∨ c = 9) := by
    intro c hc
    rw [← hs0.out, ex_drop] at hc
    exact hb3 c (List.mem_of_mem_drop hc)
  have hs0' := hs0.out
  replace hb3 := Lib.hid hb3
  clear hbl0 hb hs0
  go_wp2_with fail
  clear hs0' t1 hx3
  have hB2 := Lib.hid (hB.out.trans (hB3.out.mono hB.out.size))
  have I0 : Hid (BlI ws s0.data.toList 0 s0.data.toList) := Lib.hid (.inl ⟨rfl, rfl⟩)
  go_loopg [11, 40] (ws.length + 1) (fun g s11 s40 wx => ∃ (i : Nat) (s : ByteArray), i + g = ws.length + 1 ∧ s40 = .int .i64 i ∧ i ≤ ws.length ∧ s11 = .string s ∧ s.size ≤ 3 + i * 90 ∧ Hid (BlI ws s0.data.toList i s.data.toList) ∧ Hid (Below w2.heap.size w2 wx))
  case atStart => exact ⟨0, s0, by omega, rfl, by omega, rfl, by omega, I0, hB3⟩
  case round =>
    clear I0 hB2 hB3
    obtain ⟨i, s, hg, rfl, hi, rfl, hsz, I, B⟩ := hrel
    by_cases hlt : i < ws.length
    · have t1 : decide (i < ws.length) = true := decide_eq_true hlt
      have t1' : decide ((i : Int) < (ws.length : Int)) = true := decide_eq_true (by omega)
      obtain ⟨bw, rfl, x0, x1⟩ := (hRc.out _ B.out).2.at' i hlt
      obtain ⟨p, hp⟩ : ∃ p, Hid (ws[i] = p) := ⟨_, Lib.hid rfl⟩
      have hpw := hokw.out.2 _ (List.getElem_mem hlt)
      rw [hp.out] at x0 x1 hpw
      obtain ⟨u, hu⟩ : ∃ u : ByteArray, Hid (⟨p.1.toArray⟩ = u) := ⟨_, Lib.hid rfl⟩
      obtain ⟨qb, hqb⟩ : ∃ qb, Hid (p.2 = qb) := ⟨_, Lib.hid rfl⟩
      rw [hu.out] at x0
      rw [hqb.out] at x1
      have hf82 := form40 p hpw.2
      obtain ⟨f, hf⟩ : ∃ f : ByteArray, Hid (⟨(formW p).toArray⟩ = f) := ⟨_, Lib.hid rfl⟩
      have hfd : Hid (f.data.toList = formW p) := by show _ = _; rw [← hf.out]
      have hfz : f.size ≤ 82 := by rw [← hf.out, ba_size]; exact hf82
      have hM3 := Lib.hid (hM.out wr (hB.out.trans (B.out.mono hB.out.size)))
      have hjn := joinF_one p hpw.1 (by omega)
      have hpq : Hid (p = (p.1, qb)) := by show _ = _; rw [← hqb.out]
      have hrow := row_one u p.1 qb hu.out.symm (wr.alloc (.cells #[.string u, .bool qb] 31))
      rw [← hpq.out] at hrow
      have hjc := join_any _ [p] (by simp) _ _ (by intro p' hp'; simp at hp'; subst hp'; omega) hjn _ hrow
      have hal1 := (Below.refl wr.heap.size wr).alloc (Nat.le_refl _) (.cells #[.string u, .bool qb] 31)
      have hal2 := hal1.alloc hal1.size (.cells #[.string u, .bool qb] 31)
      rw [World.size_alloc] at hjc
      replace hjc := Lib.hid hjc
      replace hal2 := Lib.hid hal2
      clear hrow hal1 hjn hu hpq hqb
      go_wp2_with fail
      refine (hjc.out).mono ?_; rintro y w4 ⟨rfl, hb⟩
      rw [hf.out]
      replace B := Lib.hid (B.out.trans ((hal2.out.trans (hb.mono hal2.out.size)).mono B.out.size))
      clear hjc hb hal2 x0 x1 hM3
      by_cases hi0 : i = 0
      · subst hi0
        have hnx : Hid (BlI ws s0.data.toList 1 (s ++ f).data.toList) := by
          have h1 := I.out
          rcases h1 with ⟨_, h1⟩ | ⟨_, _, _, h1, _⟩
          · rw [cat_list, h1, hfd.out, ← hp.out]
            exact Lib.hid (blI_first ws _ hlt hs0b.out (by rw [hp.out]; exact hpw.1))
          · omega
        have hz2 : (s ++ f).size ≤ 3 + 1 * 90 := by rw [ByteArray.size_append]; omega
        clear I hp hpw hfd hf hf82
        go_wp2_with fail
        go_roundg (gk - 1)
        case measure => omega
        case rel => exact ⟨1, s ++ f, by omega, rfl, by omega, rfl, hz2, hnx, B⟩
      · have t2 : decide (0 < (i : Int)) = true := decide_eq_true (by omega)
        have hM3 := Lib.hid (hM.out w4 (hB.out.trans (B.out.mono hB.out.size)))
        have hbl := Lib.hid (bl_any w.heap.size i a n c zs (by omega) w4 hM3.out.1 hM3.out.2.1 hz.out)
        clear hM3
        go_wp2_with fail
        refine (hbl.out).mono ?_; rintro y w5 ⟨⟨bb, rfl, k1, k2, k3⟩, hb⟩
        replace B := Lib.hid (B.out.trans (hb.mono B.out.size))
        have hnx : Hid (BlI ws s0.data.toList (i + 1) (s ++ bb ++ f).data.toList) := by
          have h2 := blI_next ws _ i _ bb.data.toList I.out hlt (by omega) k3 (by intro h; have := congrArg List.length h; rw [len_size, List.length_nil] at this; omega) (by rw [hp.out]; exact hpw.1)
          rw [cat_list, cat_list, hfd.out, ← hp.out]
          exact Lib.hid h2
        have hz2 : (s ++ bb ++ f).size ≤ 3 + (i + 1) * 90 := by rw [ByteArray.size_append, ByteArray.size_append]; omega
        have hz3 : (s ++ bb).size ≤ 3000 := by rw [ByteArray.size_append]; omega
        clear I hp hpw hfd hf hf82 k3 hb hbl
        go_wp2_with fail
        go_roundg (gk - 1)
        case measure => omega
        case rel => exact ⟨i + 1, s ++ bb ++ f, by omega, by go_num, by omega, rfl, hz2, hnx, B⟩
    · obtain rfl : i = ws.length := by omega
      have t1 : decide (ws.length < ws.length) = false := decide_eq_false (by omega)
      replace hB := Lib.hid (hB.out.trans (B.out.mono hB.out.size))
      have hBw := Lib.hid ((hM.out wr hB.out).2.2.2)
      obtain ⟨u, hu⟩ : ∃ u, Hid (cm.extract 0 (min (cm.size : Int) 50).toNat = u) := ⟨_, Lib.hid rfl⟩
      have huz : u.size ≤ 50 := by rw [← hu.out, ByteArray.size_extract]; omega
      obtain ⟨mg, hmg⟩ := (hG.out wr hBw.out).1.1
      obtain ⟨r1, r2⟩ := replace_no u.data.toList
      have hrp := Tryd.strings_ReplaceAll u ⟨#[10]⟩ ⟨#[32]⟩ mg wr (by omega) hmg (by decide) (by
        show u.size + Lib.count u.data.toList [10] * 1 ≤ _
        rw [Lib.count_one]
        have := List.count_le_length (a := (10 : UInt8)) (l := u.data.toList)
        rw [len_size] at this
        omega)
      obtain ⟨cm2, hcm⟩ : ∃ cm2 : ByteArray, Hid (⟨(Lib.replaceAll u.data.toList [10] [32]).toArray⟩ = cm2) := ⟨_, Lib.hid rfl⟩
      have hcd : cm2.data.toList = Lib.replaceAll u.data.toList [10] [32] := by rw [← hcm.out]
      rw [show (⟨#[10]⟩ : ByteArray).data.toList = [10] from rfl, show (⟨#[32]⟩ : ByteArray).data.toList = [32] from rfl, hcm.out] at hrp
      replace hrp := Lib.hid hrp
      have hcz : cm2.size ≤ 50 := by rw [← len_size, hcd, r2, len_size]; exact huz
      have hek := Lib.hid (endK_ok cm2.data.toList (by rw [hcd]; exact r1) (by rw [len_size]; exact hcz))
      have hu' := hu.out
      clear hcm hmg r1 r2 hcd hM hz
      go_wp2_with fail
      refine (hrp.out).mono ?_; rintro y w4 ⟨rfl, hb⟩
      replace B := Lib.hid (B.out.trans (hb.mono B.out.size))
      replace hBw := Lib.hid (hBw.out.trans (hb.mono hBw.out.size))
      clear hrp hb hu' hu
      go_upto_region 20 with (fail)
      have h5 := Lib.hid (strs5 w4 ⟨#[]⟩ ⟨#[32]⟩ ⟨#[35]⟩ (⟨#[35]⟩ ++ cm2) (⟨#[9, 35, 32]⟩ ++ cm2))
      have hal5 := (Below.refl w4.heap.size w4).alloc (Nat.le_refl _) (.cells #[.string ⟨#[]⟩, .string ⟨#[32]⟩, .string ⟨#[35]⟩, .string (⟨#[35]⟩ ++ cm2), .string (⟨#[9, 35, 32]⟩ ++ cm2)] 9)
      have hN5 : Hid (w4.heap.size < (w4.alloc (.cells #[.string ⟨#[]⟩, .string ⟨#[32]⟩, .string ⟨#[35]⟩, .string (⟨#[35]⟩ ++ cm2), .string (⟨#[9, 35, 32]⟩ ++ cm2)] 9)).heap.size) := by show _ < _; simp
      replace B := Lib.hid (B.out.trans (hal5.mono B.out.size))
      replace hBw := Lib.hid (hBw.out.trans (hal5.mono hBw.out.size))
      replace hal5 := Lib.hid hal5
      clear hal5
      generalize w4.alloc (.cells #[.string ⟨#[]⟩, .string ⟨#[32]⟩, .string ⟨#[35]⟩, .string (⟨#[35]⟩ ++ cm2), .string (⟨#[9, 35, 32]⟩ ++ cm2)] 9) = W5 at h5 hN5 B hBw ⊢
      obtain ⟨E, hE, hEd⟩ : ∃ E : Nat → ByteArray, Hid (∀ k, k < 5 → W5.cell? ⟨w4.heap.size, k, none⟩ = some (.string (E k))) ∧ Hid (∀ k, (E k).data.toList = endK cm2.data.toList k) := ⟨_, h5, Lib.hid (endK_ba cm2)⟩
      generalize w4.heap.size = N5 at hE hN5 ⊢
      have hsz9 : s.size ≤ 903 := by omega
      clear h5 hsz huz hcz hi
      go_loopg [76] 6 (fun g s76 wx => ∃ k : Nat, k + g = 6 ∧ 1 ≤ g ∧ s76 = .int .i64 k ∧ Hid (Below W5.heap.size W5 wx))
      case atStart => exact ⟨0, by omega, by omega, rfl, Lib.hid (Below.refl _ _)⟩
      case round =>
        obtain ⟨k, hk, hg1, rfl, B5⟩ := hrel
        by_cases hk5 : k < 5
        · have t2 : decide ((k : Int) < 5) = true := decide_eq_true (by omega)
          have y0 := (B5.out.cell (p := ⟨N5, k, none⟩) hN5.out).trans (hE.out k hk5)
          obtain ⟨f1, f2, f3⟩ := hek.out k
          rw [← hEd.out k] at f1 f2 f3
          generalize E k = e at y0 f1 f2 f3
          have hez : e.size ≤ 53 := by rw [← len_size]; exact f3
          have hlz : (s.data.toList ++ e.data.toList).length ≤ 1000 := by rw [List.length_append, len_size, len_size]; omega
          have hsp := blI_split ws s0.data.toList s.data.toList e.data.toList I.out hs0b.out f1 (by omega) (by omega)
          have hno : ∀ c ∈ s.data.toList ++ e.data.toList, c ≠ 10 := by
            intro c hc
            rw [List.mem_append] at hc
            rcases hc with hc | hc
            · exact blI_no10 ws _ _ _ I.out hs0b.out c hc
            · exact f2 c hc
          have hpp := blank_parse ws _ hsp hno (by omega)
          have hSz : (s ++ e).size ≤ 1000 := by rw [ByteArray.size_append]; omega
          have hsc := split_any (s ++ e) wr
          rw [cat_list, hsp] at hsc
          replace hsc := Lib.hid hsc
          have p1 : ((⟨#[10, 35, 32, 120, 10]⟩ : ByteArray) ++ s).size ≤ 2000 := by rw [ByteArray.size_append]; show 5 + s.size ≤ _; omega
          have p2 : ((⟨#[10, 35, 32, 120, 10]⟩ : ByteArray) ++ s ++ e).size ≤ 2000 := by rw [ByteArray.size_append, ByteArray.size_append]; show 5 + s.size + e.size ≤ _; omega
          have hpl : ((⟨#[10, 35, 32, 120, 10]⟩ : ByteArray) ++ s ++ e ++ ⟨#[10, 32, 9, 10]⟩).data.toList = [10, 35, 32, 120, 10] ++ (s.data.toList ++ e.data.toList) ++ [10, 32, 9, 10] := by
            rw [cat_list, cat_list, cat_list]
            show [10, 35, 32, 120, 10] ++ s.data.toList ++ e.data.toList ++ [10, 32, 9, 10] = _
            simp
          obtain ⟨R, hR⟩ : ∃ R, Hid ((if ws = [] then [] else [(3, ws)]) = R) := ⟨_, Lib.hid rfl⟩
          rw [← hpl, hR.out] at hpp
          replace hpp := Lib.hid hpp
          clear f1 f2 f3 hlz hsp hno hpl
          go_wp2_with fail
          refine (hsc.out).mono ?_; rintro y w6 ⟨⟨v6, rfl, hv6⟩, hb⟩
          obtain ⟨a6, c6, rfl⟩ := own_shape hv6
          have hV6 := Lib.hid (WRow.of_owned hv6)
          replace B5 := Lib.hid (B5.out.trans (hb.mono B5.out.size))
          have hAll := hRc.out w6 (B.out.trans (B5.out.mono B.out.size))
          have hx6 := hAll.1
          have hsm := same_any _ _ ws ws w6 hV6.out hAll.2
          rw [decide_eq_true rfl] at hsm
          replace hsm := Lib.hid hsm
          clear hsc hb hv6 hV6 hAll y0
          go_wp2_with fail
          refine (hsm.out).mono ?_; rintro y w7 ⟨rfl, hb⟩
          replace B5 := Lib.hid (B5.out.trans (hb.mono B5.out.size))
          have hpc := Lib.hid (parse_to _ 0 0 R hpp.out w7 (hG.out _ (hBw.out.trans (B5.out.mono hBw.out.size))).1.1)
          clear hsm hb hx6 hpp
          go_wp2_with fail
          refine (hpc.out).mono ?_; rintro y w8 ⟨⟨v8, rfl, hL⟩, hb⟩
          replace B5 := Lib.hid (B5.out.trans (hb.mono B5.out.size))
          have hAll := hRc.out w8 (B.out.trans (B5.out.mono B.out.size))
          have hx8 := hAll.1
          obtain ⟨a8, c8, rfl⟩ := hL.shape
          clear hpc hb p1 p2
          by_cases hws : ws = []
          · subst hws
            have hR' := hR.out
            rw [if_pos rfl] at hR'
            subst hR'
            have hx9 : w8.cell? ⟨b9, o9, none⟩ = some (.slice a2 0 c2) := hx8
            simp only [List.length_nil]
            have hm0 : min (0 : Int) 1 = 0 := by decide
            have hm1 : ((0 : Int) == 1) = false := by decide
            clear hL hR hx8 hAll
            go_upto_region 26 with (fail)
            go_quiet (fail)
            go_wp2_with fail
            go_roundg (6 - (k + 1))
            case measure => omega
            case rel => exact ⟨k + 1, by omega, by omega, by go_num, Lib.hid (below_drewN B5.out _)⟩
          · have hR' := hR.out
            rw [if_neg hws] at hR'
            subst hR'
            have hwl0 : 0 < ws.length := List.length_pos_iff.2 hws
            have hmin : min (ws.length : Int) 1 = 1 := by omega
            obtain ⟨g8, y8, rfl, z0, z1, hw8, a3, c3, rfl⟩ := hL.at' 0 (by simp)
            simp only [List.getElem_cons_zero] at z0 z1 hw8
            have z0' : w8.cell? ⟨g8, 0, none⟩ = some (.int .i64 3) := z0
            have z1' : w8.cell? ⟨g8, 1, none⟩ = some (.slice a3 ws.length c3) := z1
            have hq : Hid (∀ m, Calls Tryd.prog 21 #[.slice a3 ws.length c3, .slice a2 ws.length c2] (w8.drewN m) fun e w' => e = .returned (.bool true) ∧ ∃ k, w' = (w8.drewN m).drewN k) := by
              intro m
              have hb := below_drewN (Below.refl w8.heap.size w8) m
              have h := same_q _ _ ws ws (w8.drewN m) (hw8.on hb) (hAll.2.on hb)
              rw [decide_eq_true rfl] at h
              exact h
            simp only [List.length_cons, List.length_nil, Nat.zero_add]
            clear hL hR z0 z1 hw8 hAll hws
            go_upto_region 26 with (fail)
            go_quiet ((go_at_call 21; exact Calls.quiet_of (hq.out _)))
            go_wp2_with fail
            go_roundg (6 - (k + 1))
            case measure => omega
            case rel => exact ⟨k + 1, by omega, by omega, by go_num, Lib.hid (below_drewN B5.out _)⟩
        · obtain rfl : k = 5 := by omega
          have hfin := Lib.hid (hBw.out.trans (B5.out.mono hBw.out.size))
          go_wp2_with fail
          go_ret
          exact ⟨rfl, hfin.out⟩
end Go.Proofs.YtiapkindbbbdpaaDoor
