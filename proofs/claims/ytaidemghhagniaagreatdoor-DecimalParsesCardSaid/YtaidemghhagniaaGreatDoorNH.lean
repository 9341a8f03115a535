/- Parse against the reference; DecimalParses' walk. -/
import Derived.Test.YtaidemghhagniaaGreatDoorRB
import Derived.Test.YtaidemghhagniaaGreatDoorKM
namespace Go.Proofs.YtaidemghhagniaaGreatDoor
open Go Go.RowKit
set_option linter.unusedVariables false
set_option linter.unusedSimpArgs false
set_option maxRecDepth 100000 in
set_option maxHeartbeats 4000000 in
theorem parse_nam (s : ByteArray) (hs : s.size ≤ 1200) (hn : isNam s.data.toList = true) (w : World) : Calls Tryz.prog 16 #[.string s] w (PsRet (namV s.data.toList : Int) 0 w) := by
  have u1 : decide ((1200 : Int) < (s.size : Int)) = false := decide_eq_false (by omega)
  have u2 : decide (1200 < s.size) = false := decide_eq_false (by omega)
  have hc := nam_len _ hn
  clear hn
  obtain ⟨l, hlE⟩ : ∃ l, l = s.data.toList := ⟨_, rfl⟩
  rw [← hlE] at hc ⊢
  have hst : s.toList = l := by rw [hlE]; exact ByteArray.toList_eq s
  clear hlE
  rcases hc with rfl | rfl | rfl | rfl
  · have e1 : (s.toList == [73, 110, 102]) = true := by rw [hst]; rfl
    clear hst
    go_enter Tryz.func16, Tryz.ntmps16
    go_wp2_with fail
    go_ret2
    exact ⟨rfl, Below.refl _ _⟩
  · have e1 : (s.toList == [73, 110, 102]) = false := by rw [hst]; rfl
    have e2 : (s.toList == [43, 73, 110, 102]) = true := by rw [hst]; rfl
    clear hst
    go_enter Tryz.func16, Tryz.ntmps16
    go_wp2_with fail
    go_ret2
    exact ⟨rfl, Below.refl _ _⟩
  · have e1 : (s.toList == [73, 110, 102]) = false := by rw [hst]; rfl
    have e2 : (s.toList == [43, 73, 110, 102]) = false := by rw [hst]; rfl
    have e3 : (s.toList == [45, 73, 110, 102]) = true := by rw [hst]; rfl
    clear hst
    go_enter Tryz.func16, Tryz.ntmps16
    go_wp2_with fail
    go_ret2
    exact ⟨rfl, Below.refl _ _⟩
  · have e1 : (s.toList == [73, 110, 102]) = false := by rw [hst]; rfl
    have e2 : (s.toList == [43, 73, 110, 102]) = false := by rw [hst]; rfl
    have e3 : (s.toList == [45, 73, 110, 102]) = false := by rw [hst]; rfl
    have e4 : (s.toList == [78, 97, 78]) = true := by rw [hst]; rfl
    clear hst
    go_enter Tryz.func16, Tryz.ntmps16
    go_wp2_with fail
    go_ret2
    exact ⟨rfl, Below.refl _ _⟩
/-- Parse, at whatever string but a decimal of more than 780 bytes. -/
theorem parse_pr (s : ByteArray) (hs : s.size ≤ 780 ∨ 1200 < s.size) (w : World) (hG : PGlb w) : Calls Tryz.prog 16 #[.string s] w (PrRet s.data.toList w) := by
  have hlen := len_size s
  have fin : ∀ v e, PrVal s.data.toList v e → Calls Tryz.prog 16 #[.string s] w (PsRet v e w) → Calls Tryz.prog 16 #[.string s] w (PrRet s.data.toList w) := fun v e h c => c.mono fun x w' ⟨h1, h2⟩ => ⟨h2, v, e, h, h1⟩
  by_cases hb : 1200 < s.size
  · exact fin _ _ (.inl ⟨by omega, rfl, rfl⟩) (parse_big s hb w)
  · have h7 : s.size ≤ 780 := by omega
    cases hn : isNam s.data.toList with
    | true => exact fin _ _ (.inr (.inl ⟨by omega, hn, rfl, rfl⟩)) (parse_nam s (by omega) hn w)
    | false =>
      cases hr : rightL s.data.toList with
      | false => exact fin _ _ (.inr (.inr (.inl ⟨by omega, hn, hr, rfl, rfl⟩))) (parse_no s (by omega) hn hr w)
      | true =>
        obtain ⟨r, h⟩ := nx_ex (numL s.data.toList) (powL s.data.toList)
        exact fin _ _ (.inr (.inr (.inr ⟨by omega, hn, hr, rfl, r, h, rfl⟩))) (parse_near s h7 hn hr r h w hG)
set_option maxRecDepth 100000 in
set_option maxHeartbeats 4000000 in
theorem parses_any (s : ByteArray) (hs : s.size ≤ 1300) (hd : s.size ≤ 1200 → dn (digsL s.data.toList) < T10 420) (w : World) (hP : Calls Tryz.prog 16 #[.string s] w (PrRet s.data.toList w)) :
    Calls Tryz.prog 13 #[.string s] w fun e w' => e = .returned (.bool true) ∧ Below w.heap.size w w' := by
  have cR := Lib.hid (fun W => rparse_any s hs hd W)
  have cP := Lib.hid hP
  have hu : Hid (∀ v e v' e', PrVal s.data.toList v e → PrVal s.data.toList v' e' → v = v' ∧ e = e') := Lib.hid (fun v e v' e' h h' => prVal_one h h')
  clear hd hP
  go_enter Tryz.func13, Tryz.ntmps13
  go_wp2_with fail
  refine cP.out.mono ?_; rintro x w1 ⟨hb, v, e, hv, rfl⟩
  have B := Lib.hid hb
  replace hv := Lib.hid hv
  clear hb cP
  go_wp2_with fail
  refine (cR.out _).mono ?_; rintro x w2 ⟨hb, v', e', hv', rfl⟩
  replace B := Lib.hid (B.out.trans (hb.mono B.out.size))
  obtain ⟨h1, h2⟩ := hu.out v e v' e' hv.out hv'
  clear hb cR hv' hv hu
  obtain rfl := h1
  obtain rfl := h2
  go_wp2_with fail
  go_ret
  exact ⟨rfl, B.out⟩
theorem digs420 (l : List UInt8) (h : l.length ≤ 420) : dn (digsL l) < T10 420 :=
  Nat.lt_of_lt_of_le (dn_lt _ (msc_nine false _)) (T10_mono (Nat.le_trans (digsL_len l).1 h))
set_option maxRecDepth 100000 in
set_option maxHeartbeats 4000000 in
theorem parses_law (s : ByteArray) (w : World) (hG : AGlb w) : Calls Tryz.prog 3 #[.string s] w fun e w' => e = .returned (.bool true) ∧ Below w.heap.size w w' := by
  have hlen := len_size s
  have cA := Lib.hid (fun W (hB : Below w.heap.size w W) => awake_any W (hG.on hB))
  by_cases h1 : 1300 < s.size
  · have u1 : decide ((1300 : Int) < (s.size : Int)) = true := decide_eq_true (by omega)
    have u1' : decide (1300 < s.size) = true := decide_eq_true h1
    clear hG hlen
    go_enter Tryz.func3, Tryz.ntmps3
    go_wp2_with fail
    refine (cA.out _ (Below.refl _ _)).mono ?_; rintro x w1 ⟨rfl, hb⟩
    go_wp2_with fail
    go_ret
    exact ⟨rfl, hb⟩
  · have u1 : decide ((1300 : Int) < (s.size : Int)) = false := decide_eq_false (by omega)
    have u1' : decide (1300 < s.size) = false := decide_eq_false h1
    by_cases h2 : 420 < s.size ∧ s.size ≤ 1200
    · have u2 : decide ((420 : Int) < (s.size : Int)) = true := decide_eq_true (by omega)
      have u2' : decide (420 < s.size) = true := decide_eq_true h2.1
      have u3 : decide ((s.size : Int) ≤ 1200) = true := decide_eq_true (by omega)
      have u3' : decide (s.size ≤ 1200) = true := decide_eq_true h2.2
      clear hG hlen
      go_enter Tryz.func3, Tryz.ntmps3
      go_wp2_with fail
      refine (cA.out _ (Below.refl _ _)).mono ?_; rintro x w1 ⟨rfl, hb⟩
      go_wp2_with fail
      go_ret
      exact ⟨rfl, hb⟩
    · have cP : Hid (Calls Tryz.prog 13 #[.string s] w fun e w' => e = .returned (.bool true) ∧ Below w.heap.size w w') :=
        Lib.hid (parses_any s (by omega) (fun h => digs420 _ (by omega)) w (parse_pr s (by omega) w hG.p))
      have u2 : ∃ a b, decide ((420 : Int) < (s.size : Int)) = a ∧ decide ((s.size : Int) ≤ 1200) = b ∧ decide (420 < s.size) = a ∧ decide (s.size ≤ 1200) = b ∧ (a && b) = false := by
        refine ⟨_, _, rfl, rfl, ?_, ?_, ?_⟩
        · rw [decide_eq_decide]; omega
        · rw [decide_eq_decide]; omega
        · cases h3 : decide ((420 : Int) < (s.size : Int)) with
          | false => rfl
          | true =>
            have := of_decide_eq_true h3
            rw [Bool.true_and]; exact decide_eq_false (by omega)
      obtain ⟨a, b, u2, u3, u2', u3', hab⟩ := u2
      clear hG hlen h1 h2
      cases a with
      | true =>
        have hb : b = false := hab
        subst hb
        go_enter Tryz.func3, Tryz.ntmps3
        go_wp2_with fail
        refine cP.out.mono ?_; rintro x w1 ⟨rfl, hb⟩
        have B := Lib.hid hb
        clear hb
        go_wp2_with fail
        refine (cA.out _ B.out).mono ?_; rintro x w2 ⟨rfl, hb⟩
        replace B := Lib.hid (B.out.trans (hb.mono B.out.size))
        clear hb
        go_wp2_with fail
        go_ret
        exact ⟨rfl, B.out⟩
      | false =>
        clear hab
        go_enter Tryz.func3, Tryz.ntmps3
        go_wp2_with fail
        refine cP.out.mono ?_; rintro x w1 ⟨rfl, hb⟩
        have B := Lib.hid hb
        clear hb
        go_wp2_with fail
        refine (cA.out _ B.out).mono ?_; rintro x w2 ⟨rfl, hb⟩
        replace B := Lib.hid (B.out.trans (hb.mono B.out.size))
        clear hb
        go_wp2_with fail
        go_ret
        exact ⟨rfl, B.out⟩
theorem decimalParses_walk (a0 : ByteArray) (w : World) (_w0 : a0.size ≤ maxLen) (hG : AGlb w) :
    Calls Tryz.prog 3 #[.string a0] w fun e w' => e = .returned (.bool true) ∧ Below w.heap.size w w' := parses_law a0 w hG
end Go.Proofs.YtaidemghhagniaaGreatDoor
