/- decimal's Next and Whole. -/
import Derived.Test.YtaidemghhagniaaGreatDoorD16
import Derived.Test.YtaidemghhagniaaGreatDoorF18
import Derived.Laws.FloatArith
namespace Go.Proofs.YtaidemghhagniaaGreatDoor
open Go Go.RowKit Ieee
def nextN (v : Nat) : Nat × Int := if kindN v = 4 then (0, 2) else if v = INF then (0, 6) else if v = 9223372036854775808 then (1, 0) else if v = 9223372036854775809 then (0, 0) else if 9223372036854775808 ≤ v then (v - 1, 0) else (v + 1, 0)
theorem top_bit (v : Nat) (hv : v < 18446744073709551616) : bits .and .u64 (v : Int) 9223372036854775808 = if 9223372036854775808 ≤ v then 9223372036854775808 else 0 := by
  refine Eq.trans (u64_and_nat v 9223372036854775808 hv (by decide)) ?_
  have := and_pow v 63
  rw [show (2 : Nat) ^ 63 = 9223372036854775808 from rfl] at this
  rw [this]
  split
  · rw [show v / 9223372036854775808 = 1 by omega]; rfl
  · rw [show v / 9223372036854775808 = 0 by omega]; rfl
theorem next_any (v : Nat) (hv : v < 18446744073709551616) (w : World) : Calls Tryz.prog 23 #[.int .u64 v] w fun e w' => e = .returned (.tuple #[.int .u64 ((nextN v).1 : Int), .int .i64 (nextN v).2]) ∧ w = w' := by
  have c := Lib.hid (kind_any v hv w)
  have b1 := top_bit v hv
  unfold nextN
  by_cases g1 : kindN v = 4
  · rw [if_pos g1]
    rw [g1] at c
    clear g1 b1
    go_enter Tryz.func23, Tryz.ntmps23
    go_wp2_with fail
    refine c.out.mono ?_; rintro z w1 ⟨rfl, rfl⟩
    go_wp2_with fail
    go_ret2
    exact ⟨rfl, rfl⟩
  · rw [if_neg g1]
    have u1 : ((kindN v : Int) == 4) = false := by simp; omega
    obtain ⟨k, hk⟩ : ∃ k, k = kindN v := ⟨_, rfl⟩
    rw [← hk] at c u1
    clear g1 hk
    by_cases g2 : v = INF
    · rw [if_pos g2]
      have u2 : ((v : Int) == 9218868437227405312) = true := by rw [g2]; rfl
      clear g2 b1
      go_enter Tryz.func23, Tryz.ntmps23
      go_wp2_with fail
      refine c.out.mono ?_; rintro z w1 ⟨rfl, rfl⟩
      go_wp2_with fail
      go_ret2
      exact ⟨rfl, rfl⟩
    · rw [if_neg g2]
      have u2 : ((v : Int) == 9218868437227405312) = false := by
        simp only [beq_eq_false_iff_ne, ne_eq]
        exact fun e => g2 (by show v = 9218868437227405312; omega)
      clear g2
      by_cases g3 : v = 9223372036854775808
      · rw [if_pos g3]
        have u3 : ((v : Int) == 9223372036854775808) = true := by rw [g3]; rfl
        clear g3 b1
        go_enter Tryz.func23, Tryz.ntmps23
        go_wp2_with fail
        refine c.out.mono ?_; rintro z w1 ⟨rfl, rfl⟩
        go_wp2_with fail
        go_ret2
        exact ⟨rfl, rfl⟩
      · rw [if_neg g3]
        have u3 : ((v : Int) == 9223372036854775808) = false := by simp only [beq_eq_false_iff_ne, ne_eq]; omega
        by_cases g4 : v = 9223372036854775809
        · rw [if_pos g4]
          have u4 : ((v : Int) == 9223372036854775809) = true := by rw [g4]; rfl
          clear g3 g4 b1
          go_enter Tryz.func23, Tryz.ntmps23
          go_wp2_with fail
          refine c.out.mono ?_; rintro z w1 ⟨rfl, rfl⟩
          go_wp2_with fail
          go_ret2
          exact ⟨rfl, rfl⟩
        · rw [if_neg g4]
          have u4 : ((v : Int) == 9223372036854775809) = false := by simp only [beq_eq_false_iff_ne, ne_eq]; omega
          clear g4
          by_cases g5 : 9223372036854775808 ≤ v
          · rw [if_pos g5] at b1 ⊢
            have l1 : (1 : Int) ≤ (v : Int) := by omega
            obtain ⟨u, hu⟩ : ∃ u : Nat, Hid ((v : Int) - 1 = (u : Int) ∧ v - 1 = u) := ⟨v - 1, Lib.hid ⟨by omega, rfl⟩⟩
            rw [hu.out.2]
            have hu1 := hu.out.1
            clear g3 g5
            go_enter Tryz.func23, Tryz.ntmps23
            go_wp2_with fail
            refine c.out.mono ?_; rintro z w1 ⟨rfl, rfl⟩
            go_wp2_with fail
            go_ret2
            exact ⟨rfl, rfl⟩
          · rw [if_neg g5] at b1 ⊢
            have l1 : (v : Int) < 9223372036854775808 := by omega
            clear g3 g5
            go_enter Tryz.func23, Tryz.ntmps23
            go_wp2_with fail
            refine c.out.mono ?_; rintro z w1 ⟨rfl, rfl⟩
            go_wp2_with fail
            go_ret2
            exact ⟨by go_num, rfl⟩
theorem ti_num (name : String) (way : Toward) (x : Nat) (s : Bool) (m : Nat) (i : Int) (h : FloatKind.f64.decode x = .number s m i) : Extern.MathFloor.toIntegral name way #[.float .f64 x] = pure (.float .f64 (FloatKind.f64.encode ((Datum.number s m i).integral way))) := by
  show (match FloatKind.f64.decode x with
    | .nan s t => (if FloatKind.f64.format.quiet t = t then (pure (Value.float .f64 x) : Sem Value) else do
      let kept ← choose (.extern "math.Floor,Ceil,Trunc,RoundToEven.signallingNaN kept" 2)
      pure (Value.float .f64 (if kept == 1 then x else FloatKind.f64.encode (.nan s (FloatKind.f64.format.quiet t)))))
    | d => pure (Value.float .f64 (FloatKind.f64.encode (d.integral way)))) = _
  rw [h]
theorem tr71 (s : Bool) (a r : Nat) (ha : a < INF) (hr : double.write (.number s (V a / 2 ^ 1074) 0) = sgw s + r) (w : World) : (callFunc 71 #[.float .f64 (sgw s + a)]).run Tryz.prog w = .ok (.value (.float .f64 (sgw s + r))) w := by
  rw [run_callFunc_extern (e := Extern.MathFloor.toIntegral "math.archTrunc" .zero) Tryz.func71 (by kernel_rfl) (by kernel_rfl) (by kernel_rfl) (by kernel_rfl)]
  have h : FloatKind.f64.decode (sgw s + a) = .number s (fr a) (-1074 + ((ex a - 1 : Nat) : Int)) := read_ok s a ha
  have h2 := int_part s a ha
  rw [read_ok s a ha] at h2
  rw [ti_num _ _ _ _ _ _ h, h2]
  show (Sem.run Tryz.prog (pure (Value.float .f64 (double.write (.number s (V a / 2 ^ 1074) 0)))) w).andThen _ = _
  rw [hr]; rfl
set_option maxRecDepth 100000 in
theorem trunc_any (s : Bool) (a r : Nat) (ha : a < INF) (hr : double.write (.number s (V a / 2 ^ 1074) 0) = sgw s + r) (w : World) : Calls Tryz.prog 39 #[.float .f64 (sgw s + a)] w fun e w' => e = .returned (.float .f64 (sgw s + r)) ∧ w = w' := by
  have f := tr71 s a r ha hr w
  obtain ⟨x, hx⟩ : ∃ x, x = sgw s + a := ⟨_, rfl⟩
  obtain ⟨y, hy⟩ : ∃ y, y = sgw s + r := ⟨_, rfl⟩
  rw [← hx, ← hy] at f
  rw [← hx, ← hy]
  clear hx hy hr ha
  go_enter Tryz.func39, Tryz.ntmps39
  go_wp2_with fail
  go_ret
  exact ⟨rfl, rfl⟩
theorem int_val (s : Bool) (a : Nat) (ha : a < INF) (hN : V a / 2 ^ 1074 ≤ 9007199254740992) : floatToIntVal .f64 (sgw s + a) .i64 = some (if s then -((V a / 2 ^ 1074 : Nat) : Int) else ((V a / 2 ^ 1074 : Nat) : Int)) := by
  unfold floatToIntVal Datum.toInt
  have h2 : (FloatKind.f64.decode (sgw s + a)).integral .zero = _ := int_part s a ha
  rw [h2]
  generalize V a / 2 ^ 1074 = N at *
  dsimp only
  have hs : signed s N 0 = if s then -(N : Int) else (N : Int) := by unfold signed; rw [Nat.shiftLeft_zero]
  rw [hs]
  have h3 : IntKind.i64.min ≤ (if s then -(N : Int) else (N : Int)) ∧ (if s then -(N : Int) else (N : Int)) ≤ IntKind.i64.max := by
    show (-9223372036854775808 : Int) ≤ _ ∧ _ ≤ (9223372036854775807 : Int)
    cases s <;> simp only [Bool.false_eq_true, if_false, if_true] <;> omega
  rw [if_pos h3]
theorem sgn_if (s : Bool) (a : Nat) (ha : a < 9223372036854775808) (X Y : Int) : (if sgw s + a < 9223372036854775808 then X else Y) = if s then Y else X := by
  cases s
  · rw [if_pos (by simp only [sgw, Bool.false_eq_true, if_false]; omega)]; simp
  · rw [if_neg (by simp only [sgw, if_true]; omega)]; simp
theorem whole_at (s : Bool) (a : Nat) (ha : a < 9223372036854775808) : wholeN (sgw s + a) = if a ≤ W53 ∧ V a % 2 ^ 1074 = 0 then (if s then -((V a / 2 ^ 1074 : Nat) : Int) else ((V a / 2 ^ 1074 : Nat) : Int), true) else (0, false) := by
  have h1 : (sgw s + a) % 9223372036854775808 = a := by cases s <;> simp only [sgw, Bool.false_eq_true, if_false, if_true] <;> omega
  unfold wholeN
  rw [h1, sgn_if s a ha]
theorem ge_fact (v c : Nat) (hv : v < 18446744073709551616) (hc : c < 18446744073709551616) (hn : nanN c = false) : (FloatKind.f64.format.order v c == some .gt || FloatKind.f64.format.order v c == some .eq) = (!nanN v && decide (ordN c ≤ ordN v)) := by
  have : FloatKind.f64.format.order v c = _ := order_all v c hv hc
  rw [this, hn, Bool.or_false]
  cases nanN v
  · rw [if_neg (by decide)]
    rcases Int.lt_trichotomy (ordN v) (ordN c) with l | l | l
    · rw [cmp_lt l, decide_eq_false (by omega)]; rfl
    · rw [cmp_eq l, decide_eq_true (by omega)]; rfl
    · rw [cmp_gt l, decide_eq_true (by omega)]; rfl
  · rw [if_pos rfl]; rfl
theorem le_fact (v c : Nat) (hv : v < 18446744073709551616) (hc : c < 18446744073709551616) (hn : nanN c = false) : (FloatKind.f64.format.order v c == some .lt || FloatKind.f64.format.order v c == some .eq) = (!nanN v && decide (ordN v ≤ ordN c)) := by
  have : FloatKind.f64.format.order v c = _ := order_all v c hv hc
  rw [this, hn, Bool.or_false]
  cases nanN v
  · rw [if_neg (by decide)]
    rcases Int.lt_trichotomy (ordN v) (ordN c) with l | l | l
    · rw [cmp_lt l, decide_eq_true (by omega)]; rfl
    · rw [cmp_eq l, decide_eq_true (by omega)]; rfl
    · rw [cmp_gt l, decide_eq_false (by omega)]; rfl
  · rw [if_pos rfl]; rfl
theorem bounds_iff (s : Bool) (a : Nat) (ha : a < 9223372036854775808) (o : Int) (n : Bool) (ho : o = (if s then -(a : Int) else a)) (hn : n = decide (INF < a)) : ((!n && decide (-4845873199050653696 ≤ o)) = true ∧ (!n && decide (o ≤ 4845873199050653696)) = true) ↔ a ≤ W53 := by
  have hI : (INF : Nat) = 9218868437227405312 := rfl
  have hW : (W53 : Nat) = 4845873199050653696 := rfl
  rw [hI] at hn
  rw [hW]
  subst hn
  simp only [Bool.and_eq_true, Bool.not_eq_true', decide_eq_false_iff_not, decide_eq_true_eq]
  cases s
  · simp only [Bool.false_eq_true, if_false] at ho; omega
  · simp only [if_true] at ho; omega
set_option maxRecDepth 100000 in
theorem whole_any (v : Nat) (hv : v < 18446744073709551616) (w : World) : Calls Tryz.prog 18 #[.int .u64 v] w fun e w' => e = .returned (.tuple #[.int .i64 (wholeN v).1, .bool (wholeN v).2]) ∧ w = w' := by
  obtain ⟨s, a, hva, ha, ho, hn⟩ := word_split v hv
  have f1 := fb38 v w
  have g1 := ge_fact v 14069245235905429504 hv (by decide) (by decide)
  have g2 := le_fact v 4845873199050653696 hv (by decide) (by decide)
  rw [show ordN 14069245235905429504 = -4845873199050653696 by decide] at g1
  rw [show ordN 4845873199050653696 = 4845873199050653696 by decide] at g2
  have hb := bounds_iff s a ha (ordN v) (nanN v) ho hn
  obtain ⟨b1, hb1⟩ : ∃ b1, b1 = (!nanN v && decide (-4845873199050653696 ≤ ordN v)) := ⟨_, rfl⟩
  obtain ⟨b2, hb2⟩ : ∃ b2, b2 = (!nanN v && decide (ordN v ≤ 4845873199050653696)) := ⟨_, rfl⟩
  rw [← hb1] at g1 hb
  rw [← hb2] at g2 hb
  have hw := whole_at s a ha
  rw [← hva] at hw
  obtain ⟨wa, wb, hwv⟩ : ∃ wa wb, wholeN v = (wa, wb) := ⟨_, _, rfl⟩
  rw [hwv] at hw ⊢
  dsimp only
  clear hb1 hb2 ho hn
  by_cases hW : a ≤ W53
  · obtain ⟨rfl, rfl⟩ := hb.2 hW
    have haI : a < INF := Nat.lt_of_le_of_lt hW (by decide)
    have hN := int_le a hW
    obtain ⟨r, hr1, hr2, hr3⟩ := int_word s (V a / 2 ^ 1074) hN
    have ht := trunc_any s a r haI hr3 w
    have hte := trunc_eq s a r haI hr1 hr2
    have hiv := int_val s a haI hN
    rw [← hva] at ht hte hiv
    have hcv := fun w => run_convert_float_int (P := Tryz.prog) w 57 3 .f64 .i64 v _ (by kernel_rfl) (by kernel_rfl) hiv
    obtain ⟨x, hx⟩ : ∃ x, x = sgw s + r := ⟨_, rfl⟩
    rw [← hx] at ht hte
    replace hte : (FloatKind.f64.format.order v x != some .eq) = _ := hte
    replace ht := Lib.hid ht
    by_cases hz : V a % 2 ^ 1074 = 0
    · rw [if_pos ⟨hW, hz⟩] at hw
      simp only [Prod.mk.injEq] at hw
      obtain ⟨h1, rfl⟩ := hw
      rw [← h1] at hcv
      rw [decide_eq_false (fun g => g hz)] at hte
      clear hiv hz hr1 hr2 hr3 haI hN hW hwv h1 hva hx hb
      go_enter Tryz.func18, Tryz.ntmps18
      go_wp2_with fail
      refine ht.out.mono ?_; rintro z w1 ⟨rfl, rfl⟩
      go_wp2_with fail
      go_ret2
      exact ⟨rfl, rfl⟩
    · rw [if_neg (fun g => hz g.2)] at hw
      simp only [Prod.mk.injEq] at hw
      obtain ⟨rfl, rfl⟩ := hw
      rw [decide_eq_true hz] at hte
      clear hcv hiv hz hr1 hr2 hr3 haI hN hW hwv hva hx hb
      go_enter Tryz.func18, Tryz.ntmps18
      go_wp2_with fail
      refine ht.out.mono ?_; rintro z w1 ⟨rfl, rfl⟩
      go_wp2_with fail
      go_ret2
      exact ⟨rfl, rfl⟩
  · rw [if_neg (fun g => hW g.1)] at hw
    simp only [Prod.mk.injEq] at hw
    obtain ⟨rfl, rfl⟩ := hw
    cases b1
    · clear hb hwv hva hW g2
      go_enter Tryz.func18, Tryz.ntmps18
      go_wp2_with fail
      go_ret2
      exact ⟨rfl, rfl⟩
    · cases b2
      · clear hb hwv hva hW
        go_enter Tryz.func18, Tryz.ntmps18
        go_wp2_with fail
        go_ret2
        exact ⟨rfl, rfl⟩
      · exact absurd (hb.1 ⟨rfl, rfl⟩) hW
end Go.Proofs.YtaidemghhagniaaGreatDoor
