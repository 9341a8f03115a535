/- The walk of DecimalWhole. -/
import Derived.Test.YtaidemghhagniaaGreatDoorXC
import Derived.Test.YtaidemghhagniaaGreatDoorKM
namespace Go.Proofs.YtaidemghhagniaaGreatDoor
open Go Go.RowKit
/-- strconv.Itoa, with what it leaves alone. -/
theorem itoa_b (n : Int) (h : n.natAbs ≤ 9223372036854775807) (w : World) (htab : Lib.TabIs Tryz.prog w "internal/strconv.uint64pow10" .u64 Lib.pow10Tab) :
    Calls Tryz.prog 17 #[.int .i64 n] w fun e w' => e = .returned (.string (BS (Lib.itoa n))) ∧ Below w.heap.size w w' :=
  (Tryz.strconv_Itoa n (by omega) (by omega) w htab).mono fun e w' ⟨h1, k, os, h2⟩ => ⟨h1, h2 ▸ Lib.below_grow _ w (Nat.le_refl _) k os⟩
/-- What is read of a whole number's text, and told. -/
theorem whole_facts (n : Int) (hn : n.natAbs ≤ 9007199254740992) : ∃ v : Nat, v < 18446744073709551616 ∧ (∀ W, PGlb W → Calls Tryz.prog 16 #[.string (BS (Lib.itoa n))] W (PsRet (v : Int) 0 W)) ∧ wholeN v = (n, true) ∧ exactL v = Lib.itoa n ∧ v = valL (Lib.itoa n) ∧ (Lib.itoa n).length ≤ 30 := by
  obtain ⟨r1, r2, r3, r4, r5⟩ := itoa_read n
  obtain ⟨r, h1, h2, h3, h4⟩ := itoa_val n hn
  have h53 : W53 = 4845873199050653696 := rfl
  have hI : INF = 9218868437227405312 := rfl
  have hl : (Lib.itoa n).length ≤ 30 := by
    rw [itoa_sg, List.length_append]
    have := dig_len 20 n.natAbs (by decide) (by omega)
    have : (sg n).length ≤ 1 := by unfold sg; split <;> simp
    omega
  refine ⟨valL (Lib.itoa n), ?_, fun W hW => ?_, ?_, ?_, rfl, hl⟩
  · rw [h3]
    cases decide (n < 0) <;> simp only [sgw, Bool.false_eq_true, if_false, if_true] <;> omega
  · exact parse_dec (BS (Lib.itoa n)) (by rw [BS_size]; omega) r2 r1 h4 W hW
  · rw [h3, whole_word _ r n.natAbs h1 h2]
    by_cases g : n < 0
    · rw [decide_eq_true g, if_pos rfl]
      exact congrArg (·, true) (by omega)
    · rw [decide_eq_false g, if_neg (by decide)]
      exact congrArg (·, true) (by omega)
  · rw [h3, exact_word _ r n.natAbs (by omega) h2, itoa_sg]
    unfold sg
    by_cases g : n < 0
    · rw [decide_eq_true g, if_pos rfl, if_pos g]
    · rw [decide_eq_false g, if_neg (by decide), if_neg g]
theorem half_facts (n : Int) (hn : n.natAbs ≤ 4503599627370496) : ∃ v : Nat, v < 18446744073709551616 ∧ (∀ W, PGlb W → Calls Tryz.prog 16 #[.string (BS (Lib.itoa n ++ [46, 53]))] W (PsRet (v : Int) 0 W)) ∧ (n.natAbs < 4503599627370496 → (wholeN v).2 = false) := by
  obtain ⟨r1, r2, r3, r4, r5⟩ := half_read n
  obtain ⟨h1, h2, h3⟩ := half_val n hn
  have hl : (Lib.itoa n ++ [46, 53]).length ≤ 40 := by
    rw [itoa_sg, List.length_append, List.length_append]
    have := dig_len 20 n.natAbs (by decide) (by omega)
    have : (sg n).length ≤ 1 := by unfold sg; split <;> simp
    simp only [List.length_cons, List.length_nil]
    omega
  exact ⟨_, h1, fun W hW => parse_dec (BS (Lib.itoa n ++ [46, 53])) (by rw [BS_size]; omega) r2 r1 h2 W hW, h3⟩
theorem n_abs (n : Int) : (n.tmod 9007199254740993).natAbs ≤ 9007199254740992 := by
  have := Int.natAbs_tmod n 9007199254740993
  rw [this]
  have := Nat.mod_lt n.natAbs (show 0 < (9007199254740993 : Int).natAbs by decide)
  have e : (9007199254740993 : Int).natAbs = 9007199254740993 := rfl
  omega
set_option maxRecDepth 100000 in
set_option maxHeartbeats 8000000 in
theorem whole_law (n0 : Int) (v : Nat) (hv : v < 18446744073709551616) (_ : -9223372036854775808 ≤ n0) (_ : n0 ≤ 9223372036854775807) (w : World) (hG : AGlb w) :
    Calls Tryz.prog 5 #[.int .i64 n0, .int .u64 v] w fun e w' => e = .returned (.bool true) ∧ Below w.heap.size w w' := by
  have hGG := Lib.hid hG
  obtain ⟨n, hn⟩ : ∃ n, n0.tmod 9007199254740993 = n := ⟨_, rfl⟩
  have hna : n.natAbs ≤ 9007199254740992 := by rw [← hn]; exact n_abs n0
  obtain ⟨m, hm⟩ : ∃ m, n.tdiv 2 = m := ⟨_, rfl⟩
  have hma : m.natAbs ≤ 4503599627370496 := by rw [← hm, Int.natAbs_tdiv]; show n.natAbs / 2 ≤ _; omega
  obtain ⟨u, hu1, hu2, hu3, hu4, hu5, hu6⟩ := whole_facts n hna
  clear hu5
  obtain ⟨h, hh1, hh2, hh3⟩ := half_facts m hma
  have ci := Lib.hid (itoa_b n (by omega) w hG.tab)
  have hml : (Lib.itoa m).length ≤ 30 := by
    rw [itoa_sg, List.length_append]
    have := dig_len 20 m.natAbs (by decide) (by omega)
    have : (sg m).length ≤ 1 := by unfold sg; split <;> simp
    omega
  obtain ⟨L, hL⟩ : ∃ L, L = Lib.itoa n := ⟨_, rfl⟩
  obtain ⟨M, hM⟩ : ∃ M, M = Lib.itoa m := ⟨_, rfl⟩
  rw [← hL] at hu2 hu4 hu6 ci
  rw [← hM] at hh2 hml
  replace hu2 := Lib.hid hu2
  have cw : ∀ W, Calls Tryz.prog 18 #[.int .u64 u] W fun e w' => e = .returned (.tuple #[.int .i64 n, .bool true]) ∧ W = w' := fun W => by
    have := whole_any u hu1 W
    rw [hu3] at this; exact this
  have cx : ∀ W, AGlb W → Calls Tryz.prog 14 #[.int .u64 u] W fun e w' => e = .returned (.string (BS L)) ∧ Below W.heap.size W w' := fun W hW => by
    have := exact_any u hu1 W hW.tab
    rw [hu4] at this; exact this
  replace cw := Lib.hid cw
  replace cx := Lib.hid cx
  replace hh2 := Lib.hid hh2
  have hcat : BS M ++ (⟨#[46, 53]⟩ : ByteArray) = BS (M ++ [46, 53]) := BS_app M [46, 53]
  have hMs := BS_size M
  have cj : ∀ W, AGlb W → Calls Tryz.prog 17 #[.int .i64 m] W fun e w' => e = .returned (.string (BS M)) ∧ Below W.heap.size W w' := fun W hW => by
    rw [hM]; exact itoa_b m (by omega) W hW.tab
  replace cj := Lib.hid cj
  have chw := Lib.hid (fun W => whole_any h hh1 W)
  obtain ⟨y, hy⟩ : ∃ y, y = wholeN h := ⟨_, rfl⟩
  rw [← hy] at chw hh3
  obtain ⟨y1, y2⟩ := y
  have cv := Lib.hid (fun W => whole_any v hv W)
  obtain ⟨z, hz⟩ : ∃ z, z = wholeN v := ⟨_, rfl⟩
  rw [← hz] at cv
  replace hz := Lib.hid hz
  obtain ⟨z1, z2⟩ := z
  have hB0 := Lib.hid (Below.refl w.heap.size w)
  have hms : Hid (¬ (y2 = true ∧ m < 4503599627370496 ∧ -4503599627370496 < m)) := Lib.hid (by
    rintro ⟨e1, e2, e3⟩
    have := hh3 (by omega)
    rw [e1] at this; cases this)
  have hw64 : wrap64 m = m := by unfold wrap64; omega
  replace hma := Lib.hid hma
  have hmh := Lib.hid hm
  clear hG hy hh3 hu3 hu4 hL hM hna hm
  go_enter Tryz.func5, Tryz.ntmps5
  go_wp2_with fail
  refine ci.out.mono ?_; rintro e w1 ⟨rfl, hb⟩
  clear hn
  have B := Lib.hid hb
  clear ci hb
  go_wp2_with fail
  refine (hu2.out w1 (hGG.out.on B.out).p).mono ?_; rintro e w2 ⟨rfl, hb⟩
  replace B := Lib.hid (B.out.trans (hb.mono B.out.size))
  clear hu2 hb
  go_wp2_with fail
  refine (cw.out _).mono ?_; rintro e w3 ⟨rfl, rfl⟩
  go_wp2_with fail
  refine (cx.out _ (hGG.out.on B.out)).mono ?_; rintro e w3 ⟨rfl, hb⟩
  replace B := Lib.hid (B.out.trans (hb.mono B.out.size))
  clear cw cx hb
  go_upto_region 7 with (fail)
  have hm := hmh.out
  go_wp2_with fail
  clear hm
  refine (cj.out _ (hGG.out.on B.out)).mono ?_; rintro e w4 ⟨rfl, hb⟩
  replace B := Lib.hid (B.out.trans (hb.mono B.out.size))
  clear hb cj
  go_wp2_with fail
  refine (hh2.out _ (hGG.out.on B.out).p).mono ?_; rintro e w5 ⟨rfl, hb⟩
  replace B := Lib.hid (B.out.trans (hb.mono B.out.size))
  clear hb hh2
  go_wp2_with fail
  refine (chw.out _).mono ?_; rintro e w6 ⟨rfl, rfl⟩
  clear chw
  go_upto_region 9 with (fail)
  go_cut [78] (fun s78 wx => s78 = .bool false ∧ w5 = wx)
  case first =>
    have hm := hmh.out
    have hc : y2 = false ∨ (y2 = true ∧ ¬ m < 4503599627370496) ∨ (y2 = true ∧ m < 4503599627370496 ∧ ¬ -4503599627370496 < m) := by
      have := hms.out
      cases y2
      · exact .inl rfl
      · right
        by_cases g : m < 4503599627370496
        · exact .inr ⟨rfl, g, fun g2 => this ⟨rfl, g, g2⟩⟩
        · exact .inl ⟨rfl, g⟩
    clear hms hma hmh
    rcases hc with rfl | ⟨rfl, g⟩ | ⟨rfl, g, g2⟩
    · go_wp2_with fail
      go_meet
      exact ⟨rfl, rfl⟩
    · have t1 : decide (m < 4503599627370496) = false := decide_eq_false g
      clear g
      go_wp2_with fail
      go_meet
      exact ⟨rfl, rfl⟩
    · have t1 : decide (m < 4503599627370496) = true := decide_eq_true g
      have t2 : decide (-4503599627370496 < m) = false := decide_eq_false g2
      clear g g2
      go_wp2_with fail
      go_meet
      exact ⟨rfl, rfl⟩
  case rest =>
    obtain ⟨rfl, rfl⟩ := hcut
    clear hms hma hmh hw64
    go_wp2_with fail
    refine (cv.out _).mono ?_; rintro e w6 ⟨rfl, rfl⟩
    clear cv
    cases z2
    · have haw := Lib.hid (awake_any _ (hGG.out.on B.out))
      go_wp2_with fail
      refine haw.out.mono ?_; rintro e w5 ⟨rfl, hb⟩
      replace B := Lib.hid (B.out.trans (hb.mono B.out.size))
      clear hb haw
      go_wp2_with fail
      go_ret
      exact ⟨rfl, B.out⟩
    · obtain ⟨hx1, hx2⟩ := whole_same v hv z1 hz.out.symm
      obtain ⟨b, hb1, hb2, _, _, hb5, _⟩ := whole_facts z1 hx1
      rw [← hb5] at hx2
      clear hb5
      have cz := Lib.hid (itoa_b z1 (by omega) _ (hGG.out.on B.out).tab)
      obtain ⟨Z, hZ⟩ : ∃ Z, Z = Lib.itoa z1 := ⟨_, rfl⟩
      rw [← hZ] at hb2 cz
      have cc : ∀ W, Calls Tryz.prog 19 #[.int .u64 b, .int .u64 v] W fun e w' => e = .returned (.tuple #[.int .i64 0, .int .i64 0]) ∧ W = w' := fun W => by
        have := compare_any b v hb1 hv W
        rw [hx2] at this; exact this
      replace cc := Lib.hid cc
      replace hb2 := Lib.hid hb2
      clear hZ hx1 hx2 hz
      go_wp2_with fail
      refine cz.out.mono ?_; rintro e w5 ⟨rfl, hb⟩
      replace B := Lib.hid (B.out.trans (hb.mono B.out.size))
      clear hb cz
      go_wp2_with fail
      refine (hb2.out _ (hGG.out.on B.out).p).mono ?_; rintro e w6 ⟨rfl, hb⟩
      replace B := Lib.hid (B.out.trans (hb.mono B.out.size))
      clear hb hb2
      go_wp2_with fail
      refine (cc.out _).mono ?_; rintro e w7 ⟨rfl, rfl⟩
      have haw := Lib.hid (awake_any _ (hGG.out.on B.out))
      go_wp2_with fail
      refine haw.out.mono ?_; rintro e w8 ⟨rfl, hb⟩
      replace B := Lib.hid (B.out.trans (hb.mono B.out.size))
      clear hb haw
      go_wp2_with fail
      go_ret
      exact ⟨rfl, B.out⟩
theorem decimalWhole_walk (a0 a1 : Int) (w : World) (w0 : (Lit.int .i64 a0).wf = true) (w1 : (Lit.int .u64 a1).wf = true) (hG : AGlb w) :
    Calls Tryz.prog 5 #[.int .i64 a0, .int .u64 a1] w fun e w' => e = .returned (.bool true) ∧ Below w.heap.size w w' := by
  obtain ⟨b, rfl, hb⟩ := u64_of w1
  obtain ⟨h1, h2⟩ := i64_of w0
  exact whole_law a0 b hb h1 h2 w hG
end Go.Proofs.YtaidemghhagniaaGreatDoor
