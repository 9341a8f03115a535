/- decimal.Exact. -/
import Derived.Test.YtaidemghhagniaaGreatDoorFG
import Derived.Test.YtaidemghhagniaaGreatDoorD21
import Derived.Test.YtaidemghhagniaaGreatDoorD22
namespace Go.Proofs.YtaidemghhagniaaGreatDoor
open Go Go.RowKit
/-- The exponent and the fraction that Exact starts from. -/
def exE (v : Nat) : Nat := if v / 4503599627370496 % 2048 = 0 then 1 else v / 4503599627370496 % 2048
def exF (v : Nat) : Nat := if v / 4503599627370496 % 2048 = 0 then v % 4503599627370496 else 4503599627370496 + v % 4503599627370496
def exD (v : Nat) : List UInt8 × Nat := if 0 < exF v then hlvN (1075 - exE v) (dblN (exE v - 1075) (Lib.decDigits (exF v))) 0 else (dblN (exE v - 1075) (Lib.decDigits (exF v)), 0)
def exW (v : Nat) : List UInt8 := Lib.trimLeftB ((exD v).1.take ((exD v).1.length - (exD v).2)) 48
def exT (v : Nat) : List UInt8 := Lib.trimRightB ((exD v).1.drop ((exD v).1.length - (exD v).2)) 48
def exactL (v : Nat) : List UInt8 :=
  if kindN v = 4 then [78, 97, 78] else if kindN v = 3 then (if 9223372036854775808 ≤ v then [45, 73, 110, 102] else [43, 73, 110, 102])
  else (if 9223372036854775808 ≤ v then [45] else []) ++ ((if exW v = [] then [48] else exW v) ++ (if exT v = [] then [] else 46 :: exT v))
set_option maxRecDepth 100000 in
set_option maxHeartbeats 4000000 in
theorem exact_any (v : Nat) (hv : v < 18446744073709551616) (w : World) (htab : Lib.TabIs Tryz.prog w "internal/strconv.uint64pow10" .u64 Lib.pow10Tab) :
    Calls Tryz.prog 14 #[.int .u64 v] w fun e w' => e = .returned (.string ⟨(exactL v).toArray⟩) ∧ Below w.heap.size w w' := by
  have c := Lib.hid (kind_any v hv w)
  have hmf : ∀ (fn : Fn) (first cap : Array Value) (w : World), (Instr.makeFunc fn first cap).run Tryz.prog w = .ok (.func fn first cap) w := fun _ _ _ _ => rfl
  have cp := Lib.hid (parts_any v hv w)
  have hx2 : v / 4503599627370496 % 2048 < 2048 := Nat.mod_lt _ (by decide)
  have hy2 : v % 4503599627370496 < 4503599627370496 := Nat.mod_lt _ (by decide)
  have tb := top_bit v hv
  by_cases g1 : kindN v = 4
  · have hfin : exactL v = [78, 97, 78] := by unfold exactL; rw [if_pos g1]
    rw [hfin]
    rw [g1] at c
    clear g1 hfin cp tb
    go_enter Tryz.func14, Tryz.ntmps14
    go_wp2_with fail
    refine c.out.mono ?_; rintro z w1 ⟨rfl, rfl⟩
    go_wp2_with fail
    go_ret
    exact ⟨rfl, Below.refl _ _⟩
  · by_cases g2 : kindN v = 3
    · have hfin : exactL v = if 9223372036854775808 ≤ v then [45, 73, 110, 102] else [43, 73, 110, 102] := by unfold exactL; rw [if_neg g1, if_pos g2]
      rw [hfin]
      rw [g2] at c
      clear g1 g2 hfin cp
      by_cases gs : 9223372036854775808 ≤ v
      · rw [if_pos gs] at tb ⊢
        clear gs
        go_enter Tryz.func14, Tryz.ntmps14
        go_wp2_with fail
        refine c.out.mono ?_; rintro z w1 ⟨rfl, rfl⟩
        go_wp2_with fail
        go_ret
        exact ⟨rfl, Below.refl _ _⟩
      · rw [if_neg gs] at tb ⊢
        clear gs
        go_enter Tryz.func14, Tryz.ntmps14
        go_wp2_with fail
        refine c.out.mono ?_; rintro z w1 ⟨rfl, rfl⟩
        go_wp2_with fail
        go_ret
        exact ⟨rfl, Below.refl _ _⟩
    · have hfin := Lib.hid (show exactL v = (if 9223372036854775808 ≤ v then [45] else []) ++ ((if exW v = [] then [48] else exW v) ++ (if exT v = [] then [] else 46 :: exT v)) by unfold exactL; rw [if_neg g1, if_neg g2])
      replace tb := Lib.hid tb
      have u1 : ((kindN v : Int) == 4) = false := by simp; omega
      have u2 : ((kindN v : Int) == 3) = false := by simp; omega
      obtain ⟨k, hk⟩ : ∃ k, k = kindN v := ⟨_, rfl⟩
      rw [← hk] at c u1 u2
      clear g1 g2 hk
      obtain ⟨x, hx⟩ : ∃ x, x = v / 4503599627370496 % 2048 := ⟨_, rfl⟩
      obtain ⟨y, hy⟩ : ∃ y, y = v % 4503599627370496 := ⟨_, rfl⟩
      obtain ⟨E, hE⟩ : ∃ E, E = exE v := ⟨_, rfl⟩
      obtain ⟨F, hF⟩ : ∃ F, F = exF v := ⟨_, rfl⟩
      have hEF : Hid (E = (if x = 0 then 1 else x) ∧ F = (if x = 0 then y else 4503599627370496 + y)) := Lib.hid ⟨by rw [hE, hx]; rfl, by rw [hF, hx, hy]; rfl⟩
      rw [← hx, ← hy] at cp
      rw [← hx] at hx2
      rw [← hy] at hy2
      replace hE := Lib.hid hE
      replace hF := Lib.hid hF
      clear hx hy
      go_enter Tryz.func14, Tryz.ntmps14
      go_wp2_with fail
      refine c.out.mono ?_; rintro z w1 ⟨rfl, rfl⟩
      go_wp2_with fail
      refine cp.out.mono ?_; rintro z w1 ⟨rfl, rfl⟩
      go_upto_if 26 with (fail)
      go_cut [3, 4] (fun s3 s4 wx => s3 = .int .i64 (E : Int) ∧ s4 = .int .u64 (F : Int) ∧ w = wx)
      case first =>
        by_cases g : x = 0
        · have hh := hEF.out
          rw [if_pos g, if_pos g] at hh
          obtain ⟨rfl, rfl⟩ := hh
          have u3 : ((x : Int) == 0) = true := by simp [g]
          clear g hEF hE hF
          go_wp2_with fail
          go_meet
          exact ⟨rfl, rfl, rfl⟩
        · have hh := hEF.out
          rw [if_neg g, if_neg g] at hh
          obtain ⟨h1, h2⟩ := hh
          have u3 : ((x : Int) == 0) = false := by simp; exact g
          have b1 : bits .or .u64 (y : Int) 4503599627370496 = (F : Int) := by
            rw [h2]
            refine Eq.trans (u64_or_nat y 4503599627370496 (by omega) (by decide)) ?_
            have := Nat.two_pow_add_eq_or_of_lt (i := 52) hy2 1
            rw [Nat.mul_one, Nat.or_comm] at this
            exact congrArg _ this.symm
          have H1 := Lib.hid h1
          clear g hEF hE hF h2 h1
          go_wp2_with fail
          go_meet
          exact ⟨by rw [H1.out], rfl, rfl⟩
      case rest =>
        obtain ⟨rfl, rfl, rfl⟩ := hcut
        have hF1 : F < 18446744073709551616 := by have := hEF.out.2; split at this <;> omega
        have hE1 : 1 ≤ E ∧ E ≤ 2047 := by have := hEF.out.1; split at this <;> omega
        obtain ⟨hE1, hE2⟩ := hE1
        have cf := Lib.hid (fmt_u F hF1 w htab)
        clear hEF hx2 hy2 c cp u1 u2
        go_wp2_with fail
        refine cf.out.mono ?_; rintro z w1 ⟨rfl, hB⟩
        obtain ⟨S, hS⟩ : ∃ S : ByteArray, Hid (S = ⟨(Lib.decDigits F).toArray⟩) := ⟨_, Lib.hid rfl⟩
        rw [← hS.out]
        have hcv := Lib.run_convert_string_bytes (P := Tryz.prog) w1 9 37 5 S Tryz.underlying9 Tryz.underlying37 Tryz.underlying5
        obtain ⟨W2, hW2⟩ : ∃ W2, W2 = Lib.bytesWorld w1 5 S := ⟨_, rfl⟩
        obtain ⟨cp0, hcp0⟩ : ∃ cp0, cp0 = grownCap w1 S.size 0 5 := ⟨_, rfl⟩
        obtain ⟨g0, hg0⟩ : ∃ g0, g0 = w1.heap.size := ⟨_, rfl⟩
        rw [← hW2, ← hcp0, ← hg0] at hcv
        have hdl : (Lib.decDigits F).length ≤ 20 := digs_len F hF1
        have hdg : DigL (Lib.decDigits F) := digs_dig F
        obtain ⟨hN, hB3⟩ := num_start w1 w.heap.size S (Lib.decDigits F) (by rw [hS.out]) hB.size (by omega) W2 hW2
        rw [← hcp0, ← hg0] at hN hB3
        obtain ⟨nb, hnb⟩ : ∃ nb, nb = W2.heap.size := ⟨_, rfl⟩
        have hnbB : w.heap.size ≤ nb := by rw [hnb, hW2, Lib.bytesWorld_size]; have := hB.size; omega
        rw [← hnb] at hN
        obtain ⟨W3, hW3⟩ : ∃ W3, W3 = (W2.alloc (.cells #[.slice (some ⟨g0, 0, none⟩) S.size cp0] 37)).alloc (.cells #[.int .i64 0] 3) := ⟨_, rfl⟩
        rw [← hW3] at hN hB3
        replace hnb := Lib.hid hnb
        replace hW3 := Lib.hid hW3
        replace hN := Lib.hid hN
        replace hB3 := Lib.hid (hB.trans (hB3.mono (Nat.le_refl _)))
        replace hB := Lib.hid hB
        replace hW2 := Lib.hid hW2
        replace hcp0 := Lib.hid hcp0
        replace hg0 := Lib.hid hg0
        go_wp2_with fail
        rw [← hW3.out, ← hnb.out]
        obtain ⟨L0, hL0⟩ : ∃ L0, Hid (L0 = dblN (E - 1075) (Lib.decDigits F)) := ⟨_, Lib.hid rfl⟩
        go_loopg [3] (E + 1) (fun gk s3 wx => ∃ (e : Nat) (l : List UInt8), e < gk ∧ s3 = .int .i64 (e : Int) ∧ e ≤ E ∧ min E 1075 ≤ e ∧ l.length ≤ 20 + (E - e) ∧ Hid (DigL l) ∧ Hid (dblN (e - 1075) l = L0) ∧ Hid (NumAt wx w.heap.size nb (nb + 1) l 0) ∧ Hid (Below w.heap.size w wx))
        case atStart => exact ⟨E, _, by omega, rfl, by omega, by omega, by omega, Lib.hid hdg, Lib.hid hL0.out.symm, hN, hB3⟩
        case round =>
          obtain ⟨e, l, heg, rfl, heE, hem, hll, hDg, hDb, hNA, hBB⟩ := hrel
          by_cases h75 : 1075 < e
          · have u5 : decide ((1075 : Int) < (e : Int)) = true := decide_eq_true (by omega)
            have u5' : decide (1075 < e) = true := decide_eq_true h75
            have hdc := Lib.hid (double_any w.heap.size nb (nb + 1) l 0 wr (by omega) hDg.out hNA.out hnbB (by omega))
            go_wp2_with fail
            refine hdc.out.mono ?_; rintro z w4 ⟨rfl, hN2, hb2⟩
            have hNn := Lib.hid hN2
            have hBn := Lib.hid (hBB.out.trans hb2)
            have hl2 := dblL_ok l hDg.out
            have hs2 : Hid (dblN (e - 1 - 1075) (dblL l) = L0) := Lib.hid (by
              have := hDb.out
              rw [show e - 1075 = (e - 1 - 1075) + 1 by omega] at this
              exact this)
            obtain ⟨hl3, hl4, hl5⟩ := hl2
            replace hl3 := Lib.hid hl3
            clear hN2 hb2 hdc
            go_wp2_with fail
            go_roundg (gk - 1)
            case measure => omega
            case rel => exact ⟨e - 1, dblL l, by omega, by go_num, by omega, by omega, by omega, hl3, hs2, hNn, hBn⟩
          · have u5 : decide ((1075 : Int) < (e : Int)) = false := decide_eq_false (by omega)
            have u5' : decide (1075 < e) = false := decide_eq_false h75
            have hlL : l = L0 := by
              have := hDb.out
              rw [show e - 1075 = 0 by omega] at this
              exact this
            subst hlL
            go_upto_block 3 with (fail)
            obtain ⟨R, hR⟩ : ∃ R : List UInt8 × Nat, Hid (R = if 0 < F then hlvN (1075 - e) l 0 else (l, 0)) := ⟨_, Lib.hid rfl⟩
            go_cut [3] (fun _ wx => Hid (∃ (l2 : List UInt8) (q : Nat), R = (l2, q) ∧ q ≤ l2.length ∧ l2.length ≤ 2000 ∧ DigL l2 ∧ NumAt wx w.heap.size nb (nb + 1) l2 q ∧ Below w.heap.size w wx))
            case first =>
              go_wp2_with fail
              go_loopg [3] 1076 (fun gk s3 wx => ∃ (f q : Nat) (l2 : List UInt8), 1075 - f < gk ∧ s3 = .int .i64 (f : Int) ∧ e ≤ f ∧ f ≤ 1075 ∧ q ≤ f - e ∧ q ≤ l2.length ∧ l2.length ≤ 20 + (E - e) + (f - e) ∧ Hid (DigL l2) ∧ Hid ((if 0 < F then hlvN (1075 - f) l2 q else (l2, q)) = R) ∧ Hid (NumAt wx w.heap.size nb (nb + 1) l2 q) ∧ Hid (Below w.heap.size w wx))
              case atStart => exact ⟨e, 0, l, by omega, rfl, by omega, by omega, by omega, by omega, by omega, hDg, Lib.hid hR.out.symm, hNA, hBB⟩
              case round =>
                obtain ⟨f, q, l2, hfg, rfl, hef, hf75, hqf, hql0, hl2, hDg2, hR2, hNA2, hBB2⟩ := hrel
                by_cases hgo : f < 1075 ∧ 0 < F
                · obtain ⟨h75f, hF0⟩ := hgo
                  have u6 : decide ((f : Int) < 1075) = true := decide_eq_true (by omega)
                  have u6' : decide (f < 1075) = true := decide_eq_true h75f
                  have u7 : decide ((0 : Int) < (F : Int)) = true := decide_eq_true (by omega)
                  have u7' : decide (0 < F) = true := decide_eq_true hF0
                  have hhc := Lib.hid (halve_any w.heap.size nb (nb + 1) l2 q wr (by omega) (by omega) hDg2.out hNA2.out hnbB (by omega) (by omega))
                  go_wp2_with fail
                  refine hhc.out.mono ?_; rintro z w4 ⟨rfl, hN2, hb2⟩
                  have hNn := Lib.hid hN2
                  have hBn := Lib.hid (hBB2.out.trans hb2)
                  obtain ⟨hl3, hl4⟩ := hlvL_ok l2 hDg2.out
                  have hk1 : hlvK l2 ≤ 1 := by unfold hlvK; split <;> omega
                  have hs2 : Hid ((if 0 < F then hlvN (1075 - (f + 1)) (hlvL l2) (q + hlvK l2) else (hlvL l2, q + hlvK l2)) = R) := Lib.hid (by
                    have := hR2.out
                    rw [if_pos hF0, show 1075 - f = (1075 - (f + 1)) + 1 by omega] at this
                    rw [if_pos hF0]; exact this)
                  replace hl3 := Lib.hid hl3
                  replace hl4 : (hlvL l2).length ≤ l2.length + 1 ∧ q + hlvK l2 ≤ (hlvL l2).length := ⟨by omega, by omega⟩
                  obtain ⟨hl4, hl5⟩ := hl4
                  clear hN2 hb2 hhc
                  go_wp2_with fail
                  go_roundg (gk - 1)
                  case measure => omega
                  case rel => exact ⟨f + 1, q + hlvK l2, hlvL l2, by omega, by go_num, by omega, by omega, by omega, by omega, by omega, hl3, hs2, hNn, hBn⟩
                · have hRl : R = (l2, q) := by
                    have := hR2.out
                    by_cases h0 : 0 < F
                    · rw [if_pos h0, show 1075 - f = 0 by omega] at this
                      exact this.symm
                    · rw [if_neg h0] at this; exact this.symm
                  have hfin : Hid (∃ (l2 : List UInt8) (q : Nat), R = (l2, q) ∧ q ≤ l2.length ∧ l2.length ≤ 2000 ∧ DigL l2 ∧ NumAt wr w.heap.size nb (nb + 1) l2 q ∧ Below w.heap.size w wr) := Lib.hid ⟨l2, q, hRl, hql0, by omega, hDg2.out, hNA2.out, hBB2.out⟩
                  clear hRl hR2
                  by_cases h75f : f < 1075
                  · have u6 : decide ((f : Int) < 1075) = true := decide_eq_true (by omega)
                    have u6' : decide (f < 1075) = true := decide_eq_true h75f
                    have u7 : decide ((0 : Int) < (F : Int)) = false := decide_eq_false (by omega)
                    have u7' : decide (0 < F) = false := decide_eq_false (by omega)
                    clear hgo
                    go_wp2_with fail
                    go_meet
                    exact hfin
                  · have u6 : decide ((f : Int) < 1075) = false := decide_eq_false (by omega)
                    have u6' : decide (f < 1075) = false := decide_eq_false h75f
                    clear hgo
                    go_wp2_with fail
                    go_meet
                    exact hfin
            case rest =>
              obtain ⟨l2, q, hRq, hql, hl2k, hDg2, hNA2, hBB2⟩ := hcut.out
              obtain ⟨⟨g, cap, hrow, hnbc⟩, hbeh⟩ := hNA2
              have hcap := hrow.cap1
              have hcapm := hrow.cap2
              have c5 := cell_of_heap hnbc
              have c6 := cell_of_heap hbeh
              have p1 := hrow.piece rfl 0 (l2.length - q) (by omega) 0 cap (.inl rfl)
              have hRh := Lib.hid hRq
              have hBh := Lib.hid hBB2
              have hRowh := Lib.hid hrow
              clear hRq hBB2 hrow hNA hBB hcut hnbc hbeh hDg2
              have t1 := Lib.hid (fun W => trimL (List.take (l2.length - q) (List.drop 0 l2)) W)
              go_wp2_with fail
              refine (t1.out _).mono ?_; rintro z w4 ⟨rfl, rfl⟩
              obtain ⟨A, hA⟩ : ∃ A, Hid (A = Lib.trimLeftB (List.take (l2.length - q) (List.drop 0 l2)) 48) := ⟨_, Lib.hid rfl⟩
              rw [← hA.out]
              clear t1 p1
              go_upto_if 59 with (fail)
              obtain ⟨X, hX⟩ : ∃ X : List UInt8, Hid (X = if A = [] then [48] else A) := ⟨_, Lib.hid rfl⟩
              obtain ⟨bA, hbA⟩ : ∃ b, Hid (A.isEmpty = b) := ⟨_, Lib.hid rfl⟩
              rw [hbA.out]
              go_cut [9] (fun s9 wx => s9 = .string ⟨X.toArray⟩ ∧ wc = wx)
              case first =>
                cases bA
                · have hX3 : Hid (X = A) := Lib.hid (by rw [hX.out, if_neg (fun e => by have := hbA.out; rw [e] at this; cases this)])
                  clear hX hbA hA
                  go_wp2_with fail
                  go_meet
                  exact ⟨by rw [hX3.out], rfl⟩
                · have hX3 : Hid (X = [48]) := Lib.hid (by rw [hX.out, if_pos (List.isEmpty_iff.1 hbA.out)])
                  clear hX hbA hA
                  go_wp2_with fail
                  go_meet
                  exact ⟨by rw [hX3.out], rfl⟩
              case rest =>
                obtain ⟨rfl, rfl⟩ := hcut
                obtain ⟨T, hT⟩ : ∃ T, Hid (T = Lib.trimRightB (List.drop (l2.length - q) l2) 48) := ⟨_, Lib.hid rfl⟩
                have t2 := Lib.hid (fun W => trimR (List.drop (l2.length - q) l2) (by rw [List.length_drop]; omega) W)
                rw [← hT.out] at t2
                go_upto_region 25 with (fail)
                go_cut [10] (fun s10 wx => s10 = .string ⟨T.toArray⟩ ∧ wc = wx)
                case first =>
                  by_cases hcq : cap = l2.length - q
                  · have p2 := hRowh.out.piece rfl (l2.length - q) (l2.length - (l2.length - q)) (by omega) 0 0 (.inr (by omega))
                    rw [List.take_of_length_le (by rw [List.length_drop]; omega)] at p2
                    clear hRowh hA hX hT
                    go_wp2_with fail
                    refine (t2.out _).mono ?_; rintro z w4 ⟨rfl, rfl⟩
                    go_wp2_with fail
                    go_meet
                    exact ⟨rfl, rfl⟩
                  · have p2 := hRowh.out.piece rfl (l2.length - q) (l2.length - (l2.length - q)) (by omega) (l2.length - q) (cap - (l2.length - q)) (.inl rfl)
                    rw [List.take_of_length_le (by rw [List.length_drop]; omega)] at p2
                    clear hRowh hA hX hT
                    go_wp2_with fail
                    refine (t2.out _).mono ?_; rintro z w4 ⟨rfl, rfl⟩
                    go_wp2_with fail
                    go_meet
                    exact ⟨rfl, rfl⟩
                case rest =>
                  obtain ⟨rfl, rfl⟩ := hcut
                  clear t2 hRowh c5 c6 hcap hcapm
                  obtain ⟨Y, hY⟩ : ∃ Y : List UInt8, Hid (Y = X ++ if T = [] then [] else 46 :: T) := ⟨_, Lib.hid rfl⟩
                  have hXl : X.length ≤ 2001 := by
                    have := trimL_le (List.take (l2.length - q) (List.drop 0 l2))
                    rw [← hA.out, List.length_take, List.drop_zero] at this
                    rw [hX.out]; split
                    · simp
                    · omega
                  have hTl : T.length ≤ 2000 := by
                    have := trimR_le (List.drop (l2.length - q) l2)
                    rw [← hT.out, List.length_drop] at this
                    omega
                  have hYl : Y.length ≤ 4002 := by
                    rw [hY.out, List.length_append]; split
                    · simp; omega
                    · simp; omega
                  obtain ⟨bT, hbT⟩ : ∃ b, Hid (T.isEmpty = b) := ⟨_, Lib.hid rfl⟩
                  go_upto_if 69 with (fail)
                  rw [hbT.out]
                  go_cut [9] (fun s9 wx => s9 = .string ⟨Y.toArray⟩ ∧ wc = wx)
                  case first =>
                    cases bT
                    · have hY3 : Hid ((⟨X.toArray⟩ : ByteArray) ++ ((⟨#[46]⟩ : ByteArray) ++ ⟨T.toArray⟩) = ⟨Y.toArray⟩) := Lib.hid (by rw [hY.out, if_neg (fun e => by have := hbT.out; rw [e] at this; cases this)]; apply ba_ext'; simp)
                      clear hX hbA hA hbT hT hY
                      go_wp2_with fail
                      go_meet
                      exact ⟨by rw [← hY3.out], rfl⟩
                    · have hY3 : Hid (Y = X) := Lib.hid (by rw [hY.out, if_pos (List.isEmpty_iff.1 hbT.out), List.append_nil])
                      clear hX hbA hA hbT hT hY
                      go_wp2_with fail
                      go_meet
                      exact ⟨by rw [hY3.out], rfl⟩
                  case rest =>
                    obtain ⟨rfl, rfl⟩ := hcut
                    have hall : Hid (exactL v = (if 9223372036854775808 ≤ v then [45] else []) ++ Y) := Lib.hid (by
                      have eF := hF.out
                      have eE := hE.out
                      have eR : exD v = (l2, q) := by
                        rw [← hRh.out, hR.out]
                        unfold exD
                        rw [← eF, ← eE, hL0.out, show 1075 - E = 1075 - e by omega]
                      have eW : exW v = A := by unfold exW; rw [eR, hA.out]; rfl
                      have eT : exT v = T := by unfold exT; rw [eR, hT.out]
                      rw [hfin.out, eW, eT, hY.out, hX.out])
                    clear hX hbA hA hbT hT hY hR hRh hE hF hL0 hDb hfin
                    by_cases gs : 9223372036854775808 ≤ v
                    · have hx : Hid ((⟨#[45]⟩ : ByteArray) ++ ⟨Y.toArray⟩ = ⟨(exactL v).toArray⟩) := Lib.hid (by rw [hall.out, if_pos gs]; apply ba_ext'; simp)
                      replace tb : bits .and .u64 (v : Int) 9223372036854775808 = 9223372036854775808 := by rw [tb.out, if_pos gs]
                      clear gs hall
                      go_wp2_with fail
                      go_ret
                      exact ⟨Eq.trans (b := Ending.returned (.string ((⟨#[45]⟩ : ByteArray) ++ ⟨Y.toArray⟩))) rfl (by rw [hx.out]), hBh.out⟩
                    · have hx : Hid ((⟨Y.toArray⟩ : ByteArray) = ⟨(exactL v).toArray⟩) := Lib.hid (by rw [hall.out, if_neg gs]; rfl)
                      replace tb : bits .and .u64 (v : Int) 9223372036854775808 = 0 := by rw [tb.out, if_neg gs]
                      clear gs hall
                      go_wp2_with fail
                      go_ret
                      exact ⟨Eq.trans (b := Ending.returned (.string (⟨Y.toArray⟩ : ByteArray))) rfl (by rw [hx.out]), hBh.out⟩
end Go.Proofs.YtaidemghhagniaaGreatDoor
