/- The contract of line.Parse over the translation. -/
import Derived.Test.YtiapkindbbbdpaaGreatDoorK12
namespace Go.Proofs.YtiapkindbbbdpaaGreatDoor
open Go.RowKit Go.Shelf
attribute [local go_sem] Oper.semAt_some

theorem info54 : (Tryz.prog.info? 62).map (fun i => (i.zero, i.size, i.bytes)) = some (some (.agg #[.int .i64 0, .slice none 0 0]), 2, 32) := by kernel_rfl
theorem keeps_below {W W' : World} (h : Below W.heap.size W W') : KeepsOthers W W' := ⟨h.size, fun k _ hk _ => (h.block k (Array.getElem?_eq_some_iff.1 hk).1).trans hk⟩
theorem boxed_below {W W' : World} {B : Nat} {t : TypeId} {v : Value} (h : Boxed W B t v) (hb : Below W.heap.size W W') : Boxed W' B t v := Eq.trans (hb.block B h.lt) h
theorem grown_keep {w1 w2 : World} {base n b : Nat} {v : Value} {xs : List Value} {o o2 : Obj} (hown : w1.ownsRow base 62 2 v n xs) (hg : (w1.alloc o).grownBy w2 v.ownBlock) (hb : w1.heap[b]? = some o2) (ho : ∀ cur, o2 ≠ .cells cur 62 (0, 0)) : w2.heap[b]? = some o2 := by
  have hlt : b < w1.heap.size := (Array.getElem?_eq_some_iff.1 hb).1
  rw [hg.block b (by simp; omega) ?_, Lib.alloc_old w1 o b hlt]
  · exact hb
  · intro e
    rcases hown.2 with ⟨rfl, _⟩ | ⟨g, cap, cur, rfl, _, h3, _⟩
    · cases e
    · cases e
      rw [hb] at h3
      exact ho cur (Option.some.inj h3)
/-- A line with words is taken up. -/
theorem prI_app {w W w1 w2 : World} {R : Int × Nat × List (Nat × List Wd)} {ls : List (List UInt8)} {k : Nat} {A : List Ln} {v vv v2 : Value} {ws : List Wd} (hk : A.length ≤ k)
    (hP : parseN (ls.drop (k + 1)) (k + 1) (ofA (A ++ [(k + 1, ws, vv)])) = R) (hLok : Lok (w.heap.size + 5) W A) (hO : Boxed W (w.heap.size + 3) 42 v) (hown : W.ownsRow (w.heap.size + 5) 62 2 v A.length (lcells A))
    (g0 : Boxed W w.heap.size 42 (.slice none 0 0)) (g1 : Boxed W (w.heap.size + 1) 3 (.int .i64 0)) (g2 : Boxed W (w.heap.size + 2) 34 (.int .i64 0)) (hsz : w.heap.size + 5 ≤ W.heap.size) (hB : Below w.heap.size w W)
    (hb1 : Below W.heap.size W w1) (hvv : w1.ownsRow W.heap.size 29 2 vv ws.length (wcells ws)) (hown2 : w2.ownsRow (w.heap.size + 5) 62 2 v2 (A.length + 1) (lcells A ++ [.int .i64 ((k : Int) + 1), vv])) (hg : (w1.alloc (.cells #[.int .i64 ((k : Int) + 1), vv] 62)).grownBy w2 v.ownBlock) :
    KeepsOthers W (w2.setCell ⟨w.heap.size + 3, 0, none⟩ v2) ∧ Same (w.heap.size + 4) W (w2.setCell ⟨w.heap.size + 3, 0, none⟩ v2) ∧ PrI w R ls (k + 1) (w2.setCell ⟨w.heap.size + 3, 0, none⟩ v2) := by
  have hs1 := hb1.size
  have hown1 := owns_on hown hb1
  have key : ∀ {b : Nat} {o2 : Obj}, W.heap[b]? = some o2 → (∀ cur, o2 ≠ .cells cur 62 (0, 0)) → w2.heap[b]? = some o2 := fun h ho => grown_keep hown1 hg ((hb1.block _ (Array.getElem?_eq_some_iff.1 h).1).trans h) ho
  have kb : ∀ {B : Nat} {t : TypeId} {u : Value}, t ≠ 62 → Boxed W B t u → Boxed w2 B t u := fun ht h => key h (fun cur e => by cases e; exact ht rfl)
  have hs2 : w1.heap.size ≤ w2.heap.size := by have := hg.size; simp at this; omega
  have hw12 : ∀ b, b < w.heap.size + 5 → w2.heap[b]? = w1.heap[b]? := fun b hb => by
    rw [hg.block b (by simp; omega) (fun e => by have := (hown1.lt b e.symm).1; omega), Lib.alloc_old w1 _ b (by omega)]
  refine ⟨KeepsOthers.trans ⟨by omega, fun j o hj ho => key hj (fun cur e => by rw [e] at ho; cases ho)⟩ (KeepsOthers.setCell _ _ _), ?_, ⟨A ++ [(k + 1, ws, vv)], ⟨hP, by simp; omega⟩, ?_, v2, (kb (by decide) hO).set _, ?_⟩, ⟨(kb (by decide) g0).other (by omega) _, (kb (by decide) g1).other (by omega) _, (kb (by decide) g2).other (by omega) _⟩, by simp; omega, ?_⟩
  · exact (heap_other _ (by omega)).trans ((hw12 _ (by omega)).trans (hb1.block _ (by omega)))
  · intro x hx
    rcases List.mem_append.1 hx with hx | hx
    · exact owns_set (owns_heap (hLok x hx) fun g cur h3 _ _ => (key h3 (fun c e => by cases e)).trans h3.symm) (by omega)
    · obtain rfl : x = (k + 1, ws, vv) := by simpa using hx
      refine owns_set (owns_mono (owns_heap hvv fun g cur h3 _ _ => ?_) (by omega)) (by omega)
      exact (grown_keep hown1 hg h3 (fun c e => by cases e)).trans h3.symm
  · refine owns_set ?_ (by omega)
    rw [List.length_append, lcells, List.flatMap_append]
    simpa [lcells] using hown2
  · refine Below.setCell (p := ⟨w.heap.size + 3, 0, none⟩) ?_ (by show w.heap.size ≤ w.heap.size + 3; omega) _
    exact (((hB.trans (hb1.mono (by omega))).alloc (by have := hB.size; omega) _).grown hg (by simp; omega) (fun b e => by have := (hown1.lt b e).1; omega))
theorem split_to (l : List UInt8) (e : Int) (ws : List Wd) (h : splitF l = (e, ws)) (w : World) : Calls Tryz.prog 10 #[.string ⟨l.toArray⟩] w fun x w' => (∃ v, x = .returned (.tuple #[v, .int .i64 e]) ∧ w'.ownsRow w.heap.size 29 2 v ws.length (wcells ws)) ∧ Below w.heap.size w w' := by
  have := split_any ⟨l.toArray⟩ w
  rw [show (⟨l.toArray⟩ : ByteArray).data.toList = l by simp, h] at this
  exact this
theorem prI_new (w : World) (s : ByteArray) (R : Int × Nat × List (Nat × List Wd)) (ls : List (List UInt8)) (hR : parseN ls 0 [] = R) :
    (∃ W0, W0 = (((((w.alloc (.cells #[.slice none 0 0] 42)).alloc (.cells #[.int .i64 0] 3)).alloc (.cells #[.int .i64 0] 34)).alloc (.cells #[.slice none 0 0] 42)).alloc (.cells #[.string s] 9)) ∧ PrI w R ls 0 W0 ∧ Boxed W0 (w.heap.size + 4) 9 (.string s) ∧ W0.heap.size = w.heap.size + 5) := by
  have b0 := Boxed.new w 42 (.slice none 0 0)
  have b1 := Boxed.new (w.alloc (.cells #[.slice none 0 0] 42)) 3 (.int .i64 0)
  have b2 := Boxed.new ((w.alloc (.cells #[.slice none 0 0] 42)).alloc (.cells #[.int .i64 0] 3)) 34 (.int .i64 0)
  have b3 := Boxed.new (((w.alloc (.cells #[.slice none 0 0] 42)).alloc (.cells #[.int .i64 0] 3)).alloc (.cells #[.int .i64 0] 34)) 42 (.slice none 0 0)
  have b4 := Boxed.new ((((w.alloc (.cells #[.slice none 0 0] 42)).alloc (.cells #[.int .i64 0] 3)).alloc (.cells #[.int .i64 0] 34)).alloc (.cells #[.slice none 0 0] 42)) 9 (.string s)
  simp only [World.size_alloc] at b1 b2 b3 b4
  refine ⟨_, rfl, ⟨⟨[], ⟨hR, Nat.le_refl _⟩, (fun x hx => by cases hx), _, b3.alloc _, ⟨rfl, .inl ⟨rfl, rfl⟩⟩⟩, ⟨(((b0.alloc _).alloc _).alloc _).alloc _, ((b1.alloc _).alloc _).alloc _, (b2.alloc _).alloc _⟩, by simp, ?_⟩, b4, by simp⟩
  exact (((((Below.refl _ w).alloc (Nat.le_refl _) _).alloc (by simp) _).alloc (by simp; omega) _).alloc (by simp; omega) _).alloc (by simp; omega) _
set_option maxRecDepth 100000 in
set_option maxHeartbeats 2000000 in
theorem parse_in (s : ByteArray) (hs : s.size ≤ 65536) (w : World) (hm : MaxG w) (e : Int) (n : Nat) (ls : List (Nat × List Wd)) (hP : parseN (linesL s.data.toList) 0 [] = (e, n, ls)) :
    CallsIn Fence.wide 9 Tryz.prog 16 #[.string s] w fun x W' => (∃ v, x = .returned (.tuple #[v, .int .i64 n, .int .i64 e]) ∧ LRow W' v ls) ∧ Below w.heap.size w W' := by
  have hro : Fence.wide.round = none := rfl
  have h1 : 1 ≤ 9 := by omega
  obtain ⟨inf, hi, hz0, hz1, hz2⟩ := info_parts info54
  have t1 : decide (65536 < (s.size : Int)) = false := decide_eq_false (by omega)
  refine callsIn_of_wp_marks Tryz.func16 rfl trivial ?_ hro
  simp only [Tryz.ntmps16, List.size_toArray, List.length_cons, List.length_nil, Nat.reduceAdd, Nat.reduceSub, Array.replicate_succ, Array.replicate_zero, List.push_toArray, List.append_toArray, List.nil_append, List.cons_append]
  gi_wp2_with (refine ⟨trivial, ?_⟩; gi_at_call 43; refine (lines_in 8 _ _).mono ?_; rintro e w' ⟨rfl, rfl⟩)
  obtain ⟨l, hl⟩ : ∃ l, Hid (s.data.toList = l) := ⟨_, rfl⟩
  have hsl := Lib.hid (ba_ext hl.out)
  have hll : l.length ≤ 65536 := by rw [← hl.out]; simpa using hs
  rw [hl.out] at hP
  obtain ⟨W0, hW0, hI0, hBx, hz0'⟩ := prI_new w s (e, n, ls) (linesL l) hP
  rw [← hW0]
  clear hW0
  have hBx' := hBx
  rw [hsl.out] at hBx'
  refine rangeX hro h1 (gf := 64) (lb := #[.pointer (some ⟨w.heap.size + 4, 0, none⟩)]) rfl trivial (enters_of Tryz.func64 (by kernel_rfl) rfl)
    (fun k => #[.int .i64 ((k : Int) + 1), .string ⟨((linesL l).getD k []).toArray⟩]) (linesL l).length (w.heap.size + 4) (by omega) MaxG (lines_hit 9 (w.heap.size + 4) (by omega) l hll W0 (by omega) hBx') (fun _ => rfl)
    (PrI w (e, n, ls) (linesL l)) (PrX w (e, n, ls)) (prI_own w _ _ _ (by omega)) (prX_own w _ _ (by omega)) (fun k A h => maxG_below hm h.2.2.2) (fun k A v h => prI_set w _ _ k A v h) hI0
    (fun k => { tmps := List.toArray (Value.string s :: undef :: Value.pointer (some ⟨w.heap.size, 0, none⟩) :: Value.pointer (some ⟨w.heap.size + 1, 0, none⟩) :: Value.pointer (some ⟨w.heap.size + 2, 0, none⟩) :: Value.pointer (some ⟨w.heap.size + 3, 0, none⟩) :: Value.int .i64 ((k : Int) + 1) :: Value.string ⟨((linesL l).getD k []).toArray⟩ :: undef :: undef :: Value.string s :: Value.int .i64 s.size :: Value.bool false :: Value.string s :: Value.func (.func 64) #[] #[.pointer (some ⟨w.heap.size + 4, 0, none⟩)] :: Value.int .i64 ((k : Int) + 1) :: Value.string ⟨((linesL l).getD k []).toArray⟩ :: undef :: undef :: undef :: undef :: undef :: undef :: undef :: undef :: undef :: undef :: undef :: undef :: undef :: undef :: undef :: undef :: undef :: undef :: undef :: []), defers := [] }) ?assign ?body ?done ?stop
  case assign =>
    intro y k W K hK
    gi_wp2
    exact hK
  case body =>
    rintro y k W ⟨⟨A, ⟨hPk, hAk⟩, hLok, v, hO, hown⟩, ⟨g0, g1, g2⟩, hsz, hB⟩ hk
    have hDr : (linesL l).drop k = (linesL l).getD k [] :: (linesL l).drop (k + 1) := by
      rw [List.drop_eq_getElem_cons hk, List.getD_eq_getElem?_getD, List.getElem?_eq_getElem hk]
      rfl
    obtain ⟨ln, hln⟩ : ∃ ln, Hid ((linesL l).getD k [] = ln) := ⟨_, rfl⟩
    obtain ⟨e2, ws, hsp⟩ : ∃ e2 ws, Hid (splitF ln = (e2, ws)) := ⟨_, _, rfl⟩
    rw [hDr, hln.out, parseN, hsp.out] at hPk
    rw [hln.out]
    simp only at hPk
    have hcall := Lib.hid (split_to ln e2 ws hsp.out W)
    have hq : Hid ((k : Int) + 1 = ((k + 1 : Nat) : Int)) := by show _ = _; omega
    by_cases he : e2 = 0
    · subst he
      rw [if_neg (by simp)] at hPk
      clear hDr hI0 hBx hBx' hP
      by_cases hws : ws = []
      · subst hws
        rw [if_pos rfl, List.append_nil] at hPk
        gi_wp2_with (refine ⟨trivial, ?_⟩; gi_at_call 10; fail)
        refine ⟨trivial, ?_⟩
        refine (CallsIn.inRound y (callsIn_wide.2 hcall.out)).mono ?_
        rintro x w1 ⟨⟨vv, rfl, hvv⟩, hb1⟩
        obtain ⟨av, cv, rfl⟩ := own_shape hvv
        clear hvv
        dsimp only
        gi_wp2
        have hs1 := hb1.size
        exact ⟨keeps_below hb1, hb1.block _ (by omega), ⟨A, ⟨hPk, by omega⟩, fun x hx => owns_on (hLok x hx) hb1, v, boxed_below hO hb1, owns_on hown hb1⟩, ⟨boxed_below g0 hb1, boxed_below g1 hb1, boxed_below g2 hb1⟩, by omega, hB.trans (hb1.mono hB.size)⟩
      · rw [if_neg hws] at hPk
        have hwl : 0 < ws.length := List.length_pos_iff.2 hws
        have t3 : decide (0 < (ws.length : Int)) = true := decide_eq_true (by omega)
        have hPk2 := Lib.hid (show parseN ((linesL l).drop (k + 1)) (k + 1) (ofA A ++ [(k + 1, ws)]) = (e, n, ls) from hPk)
        have hkl : (linesL l).length ≤ l.length := linesL_len l
        clear hPk
        gi_wp2_with (refine ⟨trivial, ?_⟩; gi_at_call 10; fail)
        refine ⟨trivial, ?_⟩
        refine (CallsIn.inRound y (callsIn_wide.2 hcall.out)).mono ?_
        rintro x w1 ⟨⟨vv, rfl, hvv⟩, hb1⟩
        have hown1 := Lib.hid (owns_on hown hb1)
        have f3 := (boxed_below hO hb1).cell
        have z3 := (boxed_below hO hb1).frozen
        have hs1 := hb1.size
        obtain ⟨av, cv, rfl⟩ := own_shape hvv
        dsimp only
        gi_wp2_with (gi_at_builtin; refine wpListIn_append_own _ rfl (.tmp 29) (.tmp 33) 42 rfl (w.heap.size + 5) 62 inf (.agg #[.int .i64 0, .slice none 0 0]) 2 32 Tryz.underlying42 hi hz0 hz1 hz2 rfl (by decide) v A.length (lcells A) rfl (hown1.out.alloc _) ⟨w1.heap.size, 0, none⟩ 1 1 [.int .i64 ((k : Int) + 1), .slice av ws.length cv] rfl rfl ?c1 ?c2 ?c3 ?c4 ?c5 ?_)
        case c1 =>
          intro j u hj
          match j, hj with
          | 0, hj => simp at hj; subst hj; simp [Addr.add, go_sem]
          | 1, hj => simp at hj; subst hj; simp [Addr.add, go_sem]
        case c2 => intro u hu; simp at hu; rcases hu with rfl | rfl <;> rfl
        case c3 => unfold maxLen; omega
        case c4 => omega
        case c5 => simp; omega
        intro v2 w2 hown2 hg _
        have hP2 : parseN ((linesL l).drop (k + 1)) (k + 1) (ofA (A ++ [(k + 1, ws, .slice av ws.length cv)])) = (e, n, ls) := by
          rw [show ofA (A ++ [(k + 1, ws, .slice av ws.length cv)]) = ofA A ++ [(k + 1, ws)] by simp [ofA]]
          exact hPk2.out
        have hfin := Lib.hid (prI_app hAk hP2 hLok hO hown g0 g1 g2 hsz hB hb1 hvv hown2 hg)
        have hO2 : Boxed w2 (w.heap.size + 3) 42 v := grown_keep hown1.out hg (boxed_below hO hb1) (fun cur e => by cases e)
        have f3 := hO2.cell
        have z3 := hO2.frozen
        obtain ⟨a2, c2, rfl⟩ := own_shape hown2
        clear hown2 hg hP2
        gi_wp2
        exact hfin.out
    · rw [if_pos he] at hPk
      have t2 : (e2 != 0) = true := by simpa using he
      have hR := Lib.hid hPk.symm
      clear hPk hDr hLok hown hO hI0 hBx hBx' hP
      gi_wp2_with (refine ⟨trivial, ?_⟩; gi_at_call 10; fail)
      refine ⟨trivial, ?_⟩
      refine (CallsIn.inRound y (callsIn_wide.2 hcall.out)).mono ?_
      rintro x w1 ⟨⟨vv, rfl, hvv⟩, hb1⟩
      have G0 := boxed_below g0 hb1
      have G1 := boxed_below g1 hb1
      have G2 := boxed_below g2 hb1
      have F1 := G1.other (B' := w.heap.size) (by omega) (.slice none 0 0)
      have F2 := (G2.other (B' := w.heap.size) (by omega) (.slice none 0 0)).other (B' := w.heap.size + 1) (by omega) (.int .i64 ((k : Int) + 1))
      have f0 := G0.cell
      have z0 := G0.frozen
      have q1 := G1.cell
      have q2 := G1.frozen
      have q3 := G2.cell
      have q4 := G2.frozen
      have E0 := Lib.hid (((G0.set (.slice none 0 0)).other (B' := w.heap.size + 1) (by omega) (.int .i64 ((k : Int) + 1))).other (B' := w.heap.size + 2) (by omega) (.int .i64 e2))
      have E1 := Lib.hid ((F1.set (.int .i64 ((k : Int) + 1))).other (B' := w.heap.size + 2) (by omega) (.int .i64 e2))
      have E2 := Lib.hid (F2.set (.int .i64 e2))
      have EB := Lib.hid ((((hB.trans (hb1.mono hB.size)).setCell (p := ⟨w.heap.size, 0, none⟩) (Nat.le_refl _) (.slice none 0 0)).setCell (p := ⟨w.heap.size + 1, 0, none⟩) (Nat.le_succ _) (.int .i64 ((k : Int) + 1))).setCell (p := ⟨w.heap.size + 2, 0, none⟩) (by show w.heap.size ≤ w.heap.size + 2; omega) (.int .i64 e2))
      have EK := Lib.hid ((((keeps_below hb1).trans (KeepsOthers.setCell w1 ⟨w.heap.size, 0, none⟩ (.slice none 0 0))).trans (KeepsOthers.setCell _ ⟨w.heap.size + 1, 0, none⟩ (.int .i64 ((k : Int) + 1)))).trans (KeepsOthers.setCell _ ⟨w.heap.size + 2, 0, none⟩ (.int .i64 e2)))
      clear F1 F2 G0 G1 G2 g0 g1 g2
      dsimp only
      gi_wp2
      exact ⟨EK.out, e2, k + 1, hR.out, E0.out, by rw [← hq.out]; exact E1.out, E2.out, EB.out⟩
  case done =>
    rintro D W hD ⟨⟨A, ⟨hPk, hAk⟩, hLok, v, hO, hown⟩, ⟨g0, g1, g2⟩, hsz, hB⟩ hK
    rw [List.drop_of_length_le (Nat.le_refl _), parseN] at hPk
    simp only [Prod.mk.injEq] at hPk
    obtain ⟨rfl, rfl, rfl⟩ := hPk
    obtain ⟨av, cv, rfl⟩ := own_shape hown
    have F1 := g1.other (B' := w.heap.size) (by omega) (.slice av A.length cv)
    have F2 := (g2.other (B' := w.heap.size) (by omega) (.slice av A.length cv)).other (B' := w.heap.size + 1) (by omega) (.int .i64 0)
    have E0 := ((g0.set (.slice av A.length cv)).other (B' := w.heap.size + 1) (by omega) (.int .i64 0)).other (B' := w.heap.size + 2) (by omega) (.int .i64 0)
    have E1 := (F1.set (.int .i64 0)).other (B' := w.heap.size + 2) (by omega) (.int .i64 0)
    have E2 := F2.set (.int .i64 0)
    have EB := ((hB.setCell (p := ⟨w.heap.size, 0, none⟩) (Nat.le_refl _) (.slice av A.length cv)).setCell (p := ⟨w.heap.size + 1, 0, none⟩) (Nat.le_succ _) (.int .i64 0)).setCell (p := ⟨w.heap.size + 2, 0, none⟩) (by show w.heap.size ≤ w.heap.size + 2; omega) (.int .i64 0)
    have EL : ∀ x ∈ A, (((W.setCell ⟨w.heap.size, 0, none⟩ (.slice av A.length cv)).setCell ⟨w.heap.size + 1, 0, none⟩ (.int .i64 0)).setCell ⟨w.heap.size + 2, 0, none⟩ (.int .i64 0)).ownsRow (w.heap.size + 5) 29 2 x.2.2 x.2.1.length (wcells x.2.1) := fun x hx => owns_set (owns_set (owns_set (hLok x hx) (by omega)) (by omega)) (by omega)
    have EO := owns_set (u := .int .i64 0) (c := w.heap.size + 2) (owns_set (u := .int .i64 0) (c := w.heap.size + 1) (owns_set (u := .slice av A.length cv) (c := w.heap.size) hown (by omega)) (by omega)) (by omega)
    have EK : (((W.setCell ⟨w.heap.size, 0, none⟩ (.slice av A.length cv)).setCell ⟨w.heap.size + 1, 0, none⟩ (.int .i64 0)).setCell ⟨w.heap.size + 2, 0, none⟩ (.int .i64 0)).heap[D]? = some (.deferred (some [])) := (heap_other _ (by omega)).trans ((heap_other _ (by omega)).trans ((heap_other _ (by omega)).trans hK))
    have f3 := hO.cell
    have f0 := g0.cell
    have z0 := g0.frozen
    have f1 := g1.cell
    have z1 := g1.frozen
    have f2 := g2.cell
    have z2 := g2.frozen
    replace E0 := Lib.hid E0
    replace E1 := Lib.hid E1
    replace E2 := Lib.hid E2
    replace EB := Lib.hid EB
    replace EL := Lib.hid EL
    replace EO := Lib.hid EO
    replace EK := Lib.hid EK
    clear F1 F2 hown hLok hP
    gi_wp2
    generalize (((W.setCell ⟨w.heap.size, 0, none⟩ (.slice av A.length cv)).setCell ⟨w.heap.size + 1, 0, none⟩ (.int .i64 0)).setCell ⟨w.heap.size + 2, 0, none⟩ (.int .i64 0)) = W3 at E0 E1 E2 EB EL EO EK ⊢
    clear f0 z0 f1 z1 f2 z2 f3
    have hpr : ∀ r, (some D : Option Nat) = some r → ∃ o : Obj, W3.heap[r]? = some o ∧ o.isCells = false := fun r e => by cases e; exact ⟨_, EK.out, rfl⟩
    have f0 := (boxed_grown E0.out (grownBy_putObj' W3 D (.deferred none)) hpr).cell
    have f1 := (boxed_grown E1.out (grownBy_putObj' W3 D (.deferred none)) hpr).cell
    have f2 := (boxed_grown E2.out (grownBy_putObj' W3 D (.deferred none)) hpr).cell
    refine ⟨by simp, .inl ⟨_, _, rfl, run_takeDeferred EK.out, ?_⟩⟩
    exact ⟨.tuple #[.slice av A.length cv, .int .i64 0, .int .i64 0], by simp [results, Tryz.results16, go_sem, f0, f1, f2], ⟨_, rfl, w.heap.size + 5, A, rfl, fun x hx => owns_grown (EL.out x hx) (grownBy_putObj' W3 D (.deferred none)) hpr, owns_grown EO.out (grownBy_putObj' W3 D (.deferred none)) hpr⟩, EB.out.trans (belowK_b (w := w) (Nat.le_refl _) W3 D _ (.deferred none) (by omega) EK.out rfl rfl)⟩
  case stop =>
    rintro D W hD ⟨e', n', hR, g0, g1, g2, hB⟩ hK
    have hdr := belowK_b (w := w) (Nat.le_refl _) W D _ (.deferred none) (by omega) hK rfl rfl
    have f0 := (boxed_grown g0 (grownBy_putObj' W D (.deferred none)) (fun r e => by cases e; exact ⟨_, hK, rfl⟩)).cell
    have f1 := (boxed_grown g1 (grownBy_putObj' W D (.deferred none)) (fun r e => by cases e; exact ⟨_, hK, rfl⟩)).cell
    have f2 := (boxed_grown g2 (grownBy_putObj' W D (.deferred none)) (fun r e => by cases e; exact ⟨_, hK, rfl⟩)).cell
    have hdr2 := Lib.hid (hB.trans hdr)
    clear hdr
    gi_wp2
    refine ⟨by simp, .inl ⟨_, _, rfl, run_takeDeferred hK, ?_⟩⟩
    have hR' := hR
    simp only [Prod.mk.injEq] at hR'
    obtain ⟨rfl, rfl, rfl⟩ := hR'
    exact ⟨.tuple #[.slice none 0 0, .int .i64 n, .int .i64 e], by simp [results, Tryz.results16, go_sem, f0, f1, f2], ⟨_, rfl, w.heap.size, [], rfl, (fun x hx => by cases hx), ⟨rfl, .inl ⟨rfl, rfl⟩⟩⟩, hdr2.out⟩
set_option maxRecDepth 100000 in
set_option maxHeartbeats 1000000 in
theorem parse_to (s : ByteArray) (e : Int) (n : Nat) (ls : List (Nat × List Wd)) (h : parseF s.data.toList = (e, n, ls)) (w : World) (hm : MaxG w) :
    Calls Tryz.prog 16 #[.string s] w fun x W' => (∃ v, x = .returned (.tuple #[v, .int .i64 n, .int .i64 e]) ∧ LRow W' v ls) ∧ Below w.heap.size w W' := by
  unfold parseF at h
  by_cases hl : 65536 < s.data.toList.length
  · rw [if_pos hl] at h
    simp only [Prod.mk.injEq] at h
    obtain ⟨rfl, rfl, rfl⟩ := h
    have t1 : decide (65536 < (s.size : Int)) = true := decide_eq_true (by rw [show s.data.toList.length = s.size by simp] at hl; omega)
    clear hm hl
    go_enter Tryz.func16, Tryz.ntmps16
    go_wp2_with fail
    exact bodyPost_ret (v := .tuple #[.slice none 0 0, .int .i64 0, .int .i64 3]) (by simp [results, Tryz.results16, go_sem]) rfl ⟨⟨_, rfl, w.heap.size, [], rfl, (fun x hx => by cases hx), ⟨rfl, .inl ⟨rfl, rfl⟩⟩⟩, (((Below.refl _ w).alloc (Nat.le_refl _) _).alloc (by simp) _).alloc (by simp; omega) _⟩
  · rw [if_neg hl] at h
    exact callsIn_wide.1 (parse_in s (by rw [show s.data.toList.length = s.size by simp] at hl; omega) w hm e n ls h)
end Go.Proofs.YtiapkindbbbdpaaGreatDoor
