/- Parts of the proof: R0 R1 R2. -/
import Derived.Test.YtdeimnnpcfncpaaGreatDoorC10
import Derived.Test.YtdeimnnpcfncpaaGreatDoorC25
import Derived.Test.YtdeimnnpcfncpaaGreatDoorC33
import Derived.Test.YtdeimnnpcfncpaaGreatDoorC37
import Derived.Test.YtdeimnnpcfncpaaGreatDoorC39
import Derived.Test.YtdeimnnpcfncpaaGreatDoorC48
section
namespace Go.Proofs.YtdeimnnpcfncpaaGreatDoor.X
open Go Go.RowKit
theorem pcon_exact (a : Nat) (ha : a < 18446744073709551616) (hn : Go.Proofs.YtdeimnnpcfncpaaGreatDoor.kindN a ≠ 4 ∨ a = 9221120237041090561) : PCon (exactL a) := by
  rcases Bool.eq_false_or_eq_true (nanN a) with h | h
  · have e : a = 9221120237041090561 := by
      rcases hn with h' | h'
      · exact absurd ((kind4 a ha).2 h) h'
      · exact h'
    subst e
    exact pcon_of (.inl (by decide +kernel))
  · intro w hG
    refine (back_any a ha h w hG.b).mono ?_
    rintro x w' ⟨rfl, hB⟩
    exact ⟨a, 0, rfl, .inl ⟨rfl, parF_exact a ha (.inl h)⟩, hB⟩
theorem vword_line (s : Smp) (hb : s.bits < 18446744073709551616) (hr : rightF s = true) : vword (lineT s) = exactL s.bits := by
  obtain ⟨r1, r2, r3, r4⟩ := right_parts4 hr
  obtain ⟨q1, q2, q3⟩ := (right_iff _).1 r1
  obtain ⟨n1, n2, n3⟩ := named_ch r2
  obtain ⟨⟨e1, e2, e3⟩, e4⟩ := exact_nb s.bits hb
  have hnb : ∀ c ∈ getLb s.ls sName, nb c = true := fun c hc => nch_nb (by decide) (n2 c hc)
  have htx : ∀ u, tb (32 :: (exactL s.bits ++ u)) = exactL s.bits ++ u := fun u => by
    rw [tb_blank 32 _ (by decide), tb_app _ _ e1 e2]
  have hx123 : ∀ u, ¬ ((exactL s.bits ++ u).head? == some 123) = true := fun u => by
    cases hx : exactL s.bits with
    | nil => exact absurd hx e1
    | cons c t =>
      have := e3 c (by rw [hx]; exact List.mem_cons_self ..)
      simpa using this
  have hw : wd (exactL s.bits ++ (if s.st then 32 :: Lib.itoa s.t else [])) = exactL s.bits := by
    refine (wd_app _ _ e2 fun c hc => ?_).1
    cases hs : s.st with
    | false => rw [hs] at hc; cases hc
    | true => rw [hs] at hc; cases hc; decide
  by_cases ho : s.ls.filter (fun x => !(x.1 == sName)) = []
  · have hT : lineT s = getLb s.ls sName ++ (32 :: (exactL s.bits ++ (if s.st then 32 :: Lib.itoa s.t else []))) := by
      unfold lineT; dsimp only; rw [ho]; rfl
    obtain ⟨m1, m2⟩ := nm_app 58 (getLb s.ls sName) (32 :: (exactL s.bits ++ (if s.st then 32 :: Lib.itoa s.t else []))) n2 (fun c hc => by cases hc; decide)
    rw [← hT] at m1 m2
    have ht : tb (lineT s) = lineT s := by rw [hT]; exact tb_app _ _ n1 hnb
    unfold vword
    rw [ht, m2, htx, if_neg (hx123 _), tb_app _ _ e1 e2, hw]
  · have hT : lineT s = getLb s.ls sName ++ (123 :: (joinC ((s.ls.filter (fun x => !(x.1 == sName))).map lbT) ++ 125 :: (32 :: (exactL s.bits ++ (if s.st then 32 :: Lib.itoa s.t else []))))) := by
      unfold lineT; dsimp only; rw [if_neg ho]; simp
    obtain ⟨m1, m2⟩ := nm_app 58 (getLb s.ls sName) (123 :: (joinC ((s.ls.filter (fun x => !(x.1 == sName))).map lbT) ++ 125 :: (32 :: (exactL s.bits ++ (if s.st then 32 :: Lib.itoa s.t else []))))) n2 (fun c hc => by cases hc; decide)
    rw [← hT] at m1 m2
    have ht : tb (lineT s) = lineT s := by rw [hT]; exact tb_app _ _ n1 hnb
    have hg := labG_join (s.ls.filter (fun x => !(x.1 == sName))) (32 :: (exactL s.bits ++ (if s.st then 32 :: Lib.itoa s.t else []))) ho
      (fun x hx => one_ok (q2 x (List.mem_filter.1 hx).1).1) (fun x hx => by have := (List.mem_filter.1 hx).2; simpa using this) (inc_nodup _ (q3.filter _))
    unfold vword
    rw [ht, m2, tb_cons 123 _ (by decide), if_pos (by rfl), List.tail_cons, hg]
    show wd (tb (32 :: _)) = _
    rw [htx, hw]
theorem labF_rest : ∀ (f : Nat) (l : List UInt8) (out : List Lb), (labF f l out).2.2.length ≤ l.length
  | 0, l, out => Nat.zero_le _
  | f + 1, l, out => by
    rw [labF]
    split
    · show l.tail.length ≤ _
      rw [List.length_tail]; omega
    · split
      · have h1 := nr_le 95 l
        have h2 := tb_le (nr 95 l)
        have h3 := tb_le (tb (nr 95 l)).tail
        rw [List.length_tail] at h3
        cases hq : quo (tb (tb (nr 95 l)).tail) with
        | none => exact Nat.zero_le _
        | some vr =>
          obtain ⟨v, u⟩ := vr
          obtain ⟨q1, q2⟩ := quo_len hq
          have h4 := tb_le u
          dsimp only
          split
          · exact Nat.zero_le _
          · split
            · have h5 := tb_le (tb u).tail
              rw [List.length_tail] at h5
              have := labF_rest f (tb (tb u).tail) (out ++ [(nm 95 l, v)])
              omega
            · split
              · have := labF_rest f (tb u) (out ++ [(nm 95 l, v)])
                omega
              · exact Nat.zero_le _
      · exact Nat.zero_le _
theorem wdl_le (l : List UInt8) : (wd l).length ≤ l.length := (List.takeWhile_prefix _).length_le
theorem vword_le (l : List UInt8) : (vword l).length ≤ l.length := by
  have a1 := tb_le l
  have a2 := nr_le 58 (tb l)
  have a3 := tb_le (nr 58 (tb l))
  unfold vword
  split
  · have b1 := labF_rest ((tb (nr 58 (tb l))).tail.length + 1) (tb (tb (nr 58 (tb l))).tail) []
    have b2 := tb_le (tb (nr 58 (tb l))).tail
    rw [List.length_tail] at b2
    have b3 := tb_le (labG (tb (nr 58 (tb l))).tail).2.2
    have b4 := wdl_le (tb (labG (tb (nr 58 (tb l))).tail).2.2)
    change (labG (tb (nr 58 (tb l))).tail).2.2.length ≤ _ at b1
    omega
  · have b2 := tb_le (tb (nr 58 (tb l)))
    have b4 := wdl_le (tb (tb (nr 58 (tb l))))
    omega
end Go.Proofs.YtdeimnnpcfncpaaGreatDoor.X
end
section
namespace Go.Proofs.YtdeimnnpcfncpaaGreatDoor.X
open Go Go.RowKit
set_option linter.unusedVariables false
set_option linter.unusedSimpArgs false
theorem readE_zero {all : List Lb} {b : Nat} {st : Bool} {t : Int} (h : (readE all b st t).1 ≠ 0) : (readE all b st t).2 = smp0 := by
  unfold readE at h ⊢
  split
  · rename_i g; rw [if_pos g] at h; exact absurd rfl h
  · rfl
theorem readT_zero {all : List Lb} {b : Nat} {d : List UInt8} (h : (readT all b d).1 ≠ 0) : (readT all b d).2 = smp0 := by
  unfold readT at h ⊢
  split
  · rename_i g; rw [if_pos g] at h; exact readE_zero h
  · rename_i g
    rw [if_neg g] at h
    cases hn : numF (wd d) with
    | none => rfl
    | some n =>
      rw [hn] at h
      dsimp only at h ⊢
      split
      · rename_i g2; rw [if_pos g2] at h; exact readE_zero h
      · rfl
theorem readV_zero {all : List Lb} {c : List UInt8} (h : (readV all c).1 ≠ 0) : (readV all c).2 = smp0 := by
  unfold readV at h ⊢
  cases hp : parF (wd c) with
  | none => rfl
  | some b =>
    rw [hp] at h
    exact readT_zero h
theorem read_zero {l : List UInt8} (h : (readF l).1 ≠ 0) : (readF l).2 = smp0 := by
  unfold readF at h ⊢
  split
  · rfl
  · rename_i g
    rw [if_neg g] at h
    split
    · rename_i g2
      rw [if_pos g2] at h
      split
      · rename_i g3
        rw [if_pos g3] at h
        split
        · rename_i g4
          rw [if_pos g4] at h
          exact readV_zero h
        · rfl
      · rename_i g3
        rw [if_neg g3] at h
        exact readV_zero h
    · rfl
theorem reread_to (s : Smp) (hb : s.bits < 18446744073709551616) (h0 : -9223372036854775808 ≤ s.t) (h1 : s.t ≤ 9223372036854775807) (hr : rightF s = true) (w : World) (hG : EGlb w) (hl : (lineT s).length ≤ 65536) :
    Calls Tryz.prog 27 #[.string (BS (lineT s))] w fun r w' =>
    (∃ a c, r = .returned (.tuple #[.agg #[.slice a s.ls.length c, .int .u64 (s.bits : Int), .bool s.st, .int .i64 s.t], .int .i64 0]) ∧ LRow w' (.slice a s.ls.length c) s.ls) ∧ Below w.heap.size w w' := by
  obtain ⟨r1, r2, r3, r4⟩ := right_parts4 hr
  have hh := read_line s hb h0 h1 hr hl
  refine (read_to (lineT s) (by omega) (fun _ => by rw [vword_line s hb hr]; exact pcon_exact _ hb r3) w hG).mono ?_
  rintro r w' ⟨v, rfl, ⟨lv, hv, ho⟩, hb⟩
  rw [hh] at hv ho ⊢
  obtain ⟨a, c, rfl⟩ := own_shape ho
  exact ⟨⟨a, c, by rw [hv], LRow.of_owned ho⟩, hb⟩
theorem rd_to (x : List UInt8) (hl : x.length ≤ 780) (ev : Int) (s : Smp) (hrd : readF x = (ev, s)) (W : World) (hG : EGlb W) : Calls Tryz.prog 27 #[.string (BS x)] W fun r w' =>
    (∃ a c, r = .returned (.tuple #[.agg #[.slice a s.ls.length c, .int .u64 (s.bits : Int), .bool s.st, .int .i64 s.t], .int .i64 ev]) ∧ LRow w' (.slice a s.ls.length c) s.ls) ∧ Below W.heap.size W w' := by
  have hvl := vword_le x
  refine (read_to x (by omega) (fun _ => pcon_of (.inl (by omega))) W hG).mono ?_
  rintro r w' ⟨v, rfl, ⟨lv, hv, ho⟩, hb⟩
  rw [hrd] at hv ho ⊢
  obtain ⟨a, c, rfl⟩ := own_shape ho
  exact ⟨⟨a, c, by rw [hv], LRow.of_owned ho⟩, hb⟩
set_option maxRecDepth 100000 in
set_option maxHeartbeats 16000000 in
theorem expoRight_any (l : List UInt8) (w : World) (hG : EGlb w) : Calls Tryz.prog 6 #[.string (BS l)] w fun e w' => e = .returned (.bool true) ∧ Below w.heap.size w w' := by
  have GG := Lib.hid (fun W (hb : Below w.heap.size w W) => hG.on hb)
  have hz := BS_size l
  have hA := Lib.hid (awake_any w hG)
  clear hG
  go_enter Tryz.func6, Tryz.ntmps6
  go_wp2_with fail
  refine hA.out.mono ?_; rintro e w1 ⟨rfl, B1⟩
  replace B1 := Lib.hid B1
  by_cases h1 : 300 < l.length
  · have u1 : decide ((300 : Int) < ((BS l).size : Int)) = true := decide_eq_true (by omega)
    have u1' : decide (300 < (BS l).size) = true := decide_eq_true (by omega)
    go_wp2_with fail
    go_ret
    exact ⟨rfl, B1.out⟩
  have u1 : decide ((300 : Int) < ((BS l).size : Int)) = false := decide_eq_false (by omega)
  have u1' : decide (300 < (BS l).size) = false := decide_eq_false (by omega)
  obtain ⟨ev, s, hrd⟩ : ∃ ev s, readF l = (ev, s) := ⟨_, _, rfl⟩
  have hX := Lib.hid (fun W => rd_to l (by omega) ev s hrd W)
  have hro : Hid (ev = 0 → rightF s = true ∧ s.bits < 18446744073709551616 ∧ -9223372036854775808 ≤ s.t ∧ s.t ≤ 9223372036854775807 ∧ ∀ x ∈ s.ls, x.2.length ≤ 300) := Lib.hid fun h => by
    subst h
    obtain ⟨q1, q2, q3, q4⟩ := read_right hrd
    refine ⟨q1, q2, q3, q4, fun x hx => ?_⟩
    have := read_vals hrd x hx
    omega
  have hrz : Hid (ev ≠ 0 → s = smp0) := Lib.hid fun h => by
    have := read_zero (l := l) (by rw [hrd]; exact h)
    rw [hrd] at this
    exact this
  clear hrd
  go_wp2_with fail
  refine (hX.out _ (GG.out _ B1.out)).mono ?_; rintro e w2 ⟨⟨a2, c2, rfl, L2⟩, Bx⟩
  clear hX
  have By : Below w2.heap.size w2 (w2.alloc (.cells #[.slice a2 s.ls.length c2, .int .u64 (s.bits : Int), .bool s.st, .int .i64 s.t] 34)) := (Below.refl _ _).alloc (Nat.le_refl _) _
  have Bz := Bx.trans (By.mono Bx.size)
  have B2 := Lib.hid (B1.out.trans (Bz.mono B1.out.size))
  have N2 : SB w2.heap.size (.slice a2 s.ls.length c2) (s.bits : Int) s.st s.t (w2.alloc (.cells #[.slice a2 s.ls.length c2, .int .u64 (s.bits : Int), .bool s.st, .int .i64 s.t] 34)) := World.alloc_heap_new w2 _
  replace L2 := L2.on By
  clear Bx By Bz
  by_cases he : ev = 0
  · subst he
    obtain ⟨r1, r2, r3, r4, r5⟩ := hro.out rfl
    clear hro hrz
    replace r1 := Lib.hid r1
    replace r2 := Lib.hid r2
    replace r3 := Lib.hid r3
    replace r4 := Lib.hid r4
    replace r5 := Lib.hid r5
    have hrs := Lib.hid (right_parts4 r1.out)
    go_wp2_with fail
    have Q1 := N2
    generalize w2.alloc (.cells #[.slice a2 s.ls.length c2, .int .u64 (s.bits : Int), .bool s.st, .int .i64 s.t] 34) = wA at *
    generalize w2.heap.size = PA at *
    clear Q1
    have hbd : SBd s := by
      obtain ⟨g1, g2, g3, g4⟩ := hrs.out
      obtain ⟨e1, e2, e3⟩ := (right_iff _).1 g1
      exact ⟨by omega, fun x hx => ⟨by have := (named_ch (one_ok (e2 x hx).1).1).2.2; omega, by have := r5.out x hx; omega⟩, r2.out⟩
    have hlen : (lineT s).length ≤ 65536 := by
      have e1 := ((right_iff _).1 hrs.out.1).1
      have := lineT_len s r2.out r3.out r4.out r1.out 300 r5.out
      have := Nat.mul_le_mul_right (132 + 2 * 300) e1
      omega
    have hlF : lineF s = (0, lineT s) := by
      unfold lineF
      rw [if_pos r1.out, if_neg (by omega)]
    have kL := Lib.hid (line_to (.agg #[.slice a2 s.ls.length c2, .int .u64 (s.bits : Int), .bool s.st, .int .i64 s.t]) s hbd r3.out r4.out _ (GG.out _ B2.out) ⟨_, rfl, L2⟩)
    rw [hlF] at kL
    refine kL.out.mono ?_; rintro e w3 ⟨rfl, Bx⟩
    have NA := Lib.hid (N2.on Bx)
    have LA := Lib.hid (L2.on Bx)
    have B3 := Lib.hid (B2.out.trans (Bx.mono B2.out.size))
    clear N2 L2 kL Bx
    have kR := Lib.hid (fun W hG => reread_to s r2.out r3.out r4.out r1.out W hG hlen)
    clear hlF
    generalize lineT s = tl at *
    go_wp2_with fail
    refine (kR.out _ (GG.out _ B3.out)).mono ?_; rintro e w4 ⟨⟨a4, c4, rfl, L4⟩, Bx⟩
    have By : Below w4.heap.size w4 (w4.alloc (.cells #[.slice a4 s.ls.length c4, .int .u64 (s.bits : Int), .bool s.st, .int .i64 s.t] 34)) := (Below.refl _ _).alloc (Nat.le_refl _) _
    have Bz := Bx.trans (By.mono Bx.size)
    have B4 := Lib.hid (B3.out.trans (Bz.mono B3.out.size))
    have N4 : SB w4.heap.size (.slice a4 s.ls.length c4) (s.bits : Int) s.st s.t (w4.alloc (.cells #[.slice a4 s.ls.length c4, .int .u64 (s.bits : Int), .bool s.st, .int .i64 s.t] 34)) := World.alloc_heap_new w4 _
    replace L4 := L4.on By
    have NB := NA.out.on Bz
    have LB := LA.out.on Bz
    clear NA LA Bx By Bz kR
    have kT := Lib.hid (right_to (.agg #[.slice a2 s.ls.length c2, .int .u64 (s.bits : Int), .bool s.st, .int .i64 s.t]) s hbd)
    rw [r1.out] at kT
    have hn : s.ls.length ≤ 1000000000 := by have := hbd.n; omega
    have kS := Lib.hid (fun W => same_to (.agg #[.slice a2 s.ls.length c2, .int .u64 (s.bits : Int), .bool s.st, .int .i64 s.t]) (.agg #[.slice a4 s.ls.length c4, .int .u64 (s.bits : Int), .bool s.st, .int .i64 s.t]) s s hn hn W)
    rw [(smpE_iff s s).2 rfl] at kS
    replace LB := Lib.hid LB
    replace L4 := Lib.hid L4
    have c0 := NB.c0
    have c1 := NB.c1
    have c2' := NB.c2
    have c3 := NB.c3
    go_wp2_with fail
    clear c0 c1 c2' c3
    have Q1 := N4
    generalize w4.alloc (.cells #[.slice a4 s.ls.length c4, .int .u64 (s.bits : Int), .bool s.st, .int .i64 s.t] 34) = wB at *
    generalize w4.heap.size = PB at *
    clear Q1
    refine (kT.out _ ⟨_, rfl, LB.out⟩).mono ?_; rintro e w5 ⟨rfl, Bx⟩
    have NA := NB.on Bx
    have LA := Lib.hid (LB.out.on Bx)
    have NC := N4.on Bx
    have LC := Lib.hid (L4.out.on Bx)
    have B5 := Lib.hid (B4.out.trans (Bx.mono B4.out.size))
    clear NB LB N4 L4 Bx kT
    have c0 := NA.c0
    have c1 := NA.c1
    have c2' := NA.c2
    have c3 := NA.c3
    have d0 := NC.c0
    have d1 := NC.c1
    have d2 := NC.c2
    have d3 := NC.c3
    clear NA NC
    go_wp2_with fail
    refine (kS.out _ ⟨_, rfl, LA.out⟩ ⟨_, rfl, LC.out⟩).mono ?_; rintro e w6 ⟨rfl, Bx⟩
    have B6 := Lib.hid (B5.out.trans (Bx.mono B5.out.size))
    clear Bx
    go_wp2_with fail
    go_ret
    exact ⟨rfl, B6.out⟩
  · have hs := hrz.out he
    subst hs
    have u2 : decide (ev = 0) = false := decide_eq_false he
    have ez : smp0.ls.length = 0 := rfl
    have ez1 : smp0.bits = 0 := rfl
    have ez2 : smp0.st = false := rfl
    have ez3 : smp0.t = 0 := rfl
    simp only [ez, ez1, ez2, ez3] at B2 ⊢
    clear L2 N2 ez ez1 ez2 ez3 hro hrz
    go_wp2_with fail
    go_ret
    exact ⟨rfl, B2.out⟩
end Go.Proofs.YtdeimnnpcfncpaaGreatDoor.X
end
section
namespace Go.Proofs.YtdeimnnpcfncpaaGreatDoor
open Go Go.RowKit
theorem bs_self (a : ByteArray) : BS a.data.toList = a := by
  simp [BS]
theorem expoRight_walk (a0 : ByteArray) (w : World) (_w0 : a0.size ≤ maxLen) (hG : X.EGlb w) :
    Calls Tryz.prog 6 #[.string a0] w fun e w' => e = .returned (.bool true) ∧ Below w.heap.size w w' := by
  have := X.expoRight_any a0.data.toList w hG
  rwa [bs_self] at this
end Go.Proofs.YtdeimnnpcfncpaaGreatDoor
end
