/- The walk of the law LineNumbered. -/
import Derived.Test.YtiapkindbbbdpaaDoorK17
import Derived.Test.YtiapkindbbbdpaaDoorP1
namespace Go.Proofs.YtiapkindbbbdpaaDoor
open Go.RowKit

set_option maxRecDepth 100000 in
set_option maxHeartbeats 2000000 in
theorem numbered_any (n least most : Int) (h0 : -9223372036854775808 ≤ n) (h1 : n ≤ 9223372036854775807) (s : ByteArray) (w : World) (hG : Glb w) :
    Calls Tryd.prog 5 #[.int .i64 n, .int .i64 least, .int .i64 most, .string s] w fun e w' => e = .returned (.bool true) ∧ Below w.heap.size w w' := by
  replace hG := Lib.hid (fun (W : World) (h : Below w.heap.size w W) => hG.on h)
  obtain ⟨t, ht⟩ : ∃ t : ByteArray, Hid (t = ⟨(Lib.itoa n).toArray⟩) := ⟨_, Lib.hid rfl⟩
  have htd : t.data.toList = Lib.itoa n := by rw [ht.out]
  have htz : t.size ≤ 281474976710656 := by
    rw [ht.out, ba_size]
    have := itoa_len n h0 h1
    omega
  obtain ⟨x, e, hnum⟩ : ∃ x e, Hid (numF t.data.toList least most = (x, e)) := ⟨_, _, Lib.hid rfl⟩
  have hnum2 : Hid (numF t.data.toList (-9223372036854775808) 9223372036854775807 = (n, 0)) := by show _ = _; rw [htd, num_itoa n _ _ h0 h1, if_neg (by omega)]
  have hx : Hid ((if n < least ∨ most < n then ((0 : Int), (6 : Int)) else (n, 0)) = (x, e)) := by show _ = _; rw [← hnum.out, htd, num_itoa n _ _ h0 h1]
  clear htd
  go_enter Tryd.func5, Tryd.ntmps5
  go_wp2_with fail
  refine (awake_any w (hG.out _ (Below.refl _ _))).mono ?_; rintro y w1 ⟨rfl, hb⟩
  have hB1 := Lib.hid hb
  clear hb
  go_wp2_with fail
  refine (decimal_any n h0 h1 t ht.out w1 (hG.out _ hB1.out)).mono ?_; rintro y w2 ⟨rfl, hb⟩
  have hB2 := Lib.hid (hB1.out.trans (hb.mono hB1.out.size))
  clear hb hB1
  go_wp2_with fail
  refine (number_to t htz least most x e hnum.out w2 (hG.out _ hB2.out)).mono ?_; rintro y w3 ⟨rfl, hb⟩
  have hB3 := Lib.hid (hB2.out.trans (hb.mono hB2.out.size))
  clear hb hB2 hnum
  go_upto_region 4 with (fail)
  obtain ⟨bw, hbw⟩ : ∃ b : Bool, Hid ((decide (least ≤ n) && decide (n ≤ most)) = b) := ⟨_, Lib.hid rfl⟩
  go_cut [11] (fun s11 wx => s11 = .bool bw ∧ w3 = wx)
  case first =>
    by_cases g1 : least ≤ n
    · have t1 : decide (least ≤ n) = true := decide_eq_true g1
      have e1 := hbw.out
      rw [t1, Bool.true_and] at e1
      replace e1 := Lib.hid e1
      go_wp2_with fail
      go_meet
      exact ⟨by rw [← e1.out], rfl⟩
    · have t1 : decide (least ≤ n) = false := decide_eq_false g1
      have e1 := hbw.out
      rw [t1, Bool.false_and] at e1
      replace e1 := Lib.hid e1
      go_wp2_with fail
      go_meet
      exact ⟨by rw [← e1.out], rfl⟩
  case rest =>
    obtain ⟨rfl, rfl⟩ := hcut
    go_upto_region 5 with (fail)
    go_cut [55] (fun s55 wx => s55 = .bool false ∧ w3 = wx)
    case first =>
      cases bw with
      | true =>
        have e1 := hx.out
        have e2 := hbw.out
        rw [Bool.and_eq_true] at e2
        rw [if_neg (by simp only [decide_eq_true_eq] at e2; omega)] at e1
        simp only [Prod.mk.injEq] at e1
        obtain ⟨rfl, rfl⟩ := e1
        clear e2
        go_wp2_with fail
        go_meet
        exact ⟨rfl, rfl⟩
      | false =>
        have e1 := hx.out
        have e2 := hbw.out
        rw [Bool.and_eq_false_iff] at e2
        rw [if_pos (by simp only [decide_eq_false_iff_not] at e2; omega)] at e1
        simp only [Prod.mk.injEq] at e1
        obtain ⟨rfl, rfl⟩ := e1
        clear e2
        go_wp2_with fail
        go_meet
        exact ⟨rfl, rfl⟩
    case rest =>
      obtain ⟨rfl, rfl⟩ := hcut
      clear hx hbw
      go_wp2_with fail
      refine (decimal_any n h0 h1 t ht.out w3 (hG.out _ hB3.out)).mono ?_; rintro y w4 ⟨rfl, hb⟩
      have hB4 := Lib.hid (hB3.out.trans (hb.mono hB3.out.size))
      clear hb hB3
      go_wp2_with fail
      refine (number_to t htz _ _ n 0 hnum2.out w4 (hG.out _ hB4.out)).mono ?_; rintro y w5 ⟨rfl, hb⟩
      have hB5 := Lib.hid (hB4.out.trans (hb.mono hB4.out.size))
      clear hb hB4 hnum2
      by_cases h60 : 60 < s.size
      · have t1 : decide (60 < (s.size : Int)) = true := decide_eq_true (by omega)
        go_wp2_with fail
        go_ret
        exact ⟨rfl, hB5.out⟩
      · have t1 : decide (60 < (s.size : Int)) = false := decide_eq_false (by omega)
        rcases num_all s.data.toList with ⟨v, hv, hvl, hv0, hv1⟩ | hv
        · obtain ⟨u, hu⟩ : ∃ u : ByteArray, Hid (u = ⟨(Lib.itoa v).toArray⟩) := ⟨_, Lib.hid rfl⟩
          have hus : Hid (u = s) := by show _ = _; rw [hu.out, hvl]
          replace hv := Lib.hid hv
          clear hvl
          go_wp2_with fail
          refine (number_to s (by omega) _ _ v 0 hv.out w5 (hG.out _ hB5.out)).mono ?_; rintro y w6 ⟨rfl, hb⟩
          have hB6 := Lib.hid (hB5.out.trans (hb.mono hB5.out.size))
          clear hb hB5 hv
          go_wp2_with fail
          refine (decimal_any v hv0 hv1 u hu.out w6 (hG.out _ hB6.out)).mono ?_; rintro y w7 ⟨rfl, hb⟩
          have hB7 := Lib.hid (hB6.out.trans (hb.mono hB6.out.size))
          clear hb hB6
          have q1 : (u.toList == s.toList) = true := by rw [hus.out]; simp
          go_wp2_with fail
          go_ret
          exact ⟨rfl, hB7.out⟩
        · replace hv := Lib.hid hv
          go_wp2_with fail
          refine (number_to s (by omega) _ _ 0 2 hv.out w5 (hG.out _ hB5.out)).mono ?_; rintro y w6 ⟨rfl, hb⟩
          have hB6 := Lib.hid (hB5.out.trans (hb.mono hB5.out.size))
          clear hb hB5 hv
          go_wp2_with fail
          go_ret
          exact ⟨rfl, hB6.out⟩
theorem i64_bd {a : Int} (w : (Lit.int .i64 a).wf = true) : -9223372036854775808 ≤ a ∧ a ≤ 9223372036854775807 := by
  have := w
  simp [Lit.wf, IntKind.min, IntKind.max, IntKind.signed, IntKind.bits] at this
  omega
theorem lineNumbered_walk (a0 a1 a2 : Int) (a3 : ByteArray) (w : World) (w0 : (Lit.int .i64 a0).wf = true) (_w1 : (Lit.int .i64 a1).wf = true) (_w2 : (Lit.int .i64 a2).wf = true) (_w3 : a3.size ≤ maxLen) (hG : Glb w) :
    Calls Tryd.prog 5 #[.int .i64 a0, .int .i64 a1, .int .i64 a2, .string a3] w fun e w' => e = .returned (.bool true) ∧ Below w.heap.size w w' :=
  numbered_any a0 a1 a2 (i64_bd w0).1 (i64_bd w0).2 a3 w hG
end Go.Proofs.YtiapkindbbbdpaaDoor
