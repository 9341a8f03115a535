/- The contracts of utf.Points, Count, and Cut in all cases. -/
import Derived.Test.YtkabkkgaalimmaaV21
import Derived.Test.YtkabkkgaalimmaaUP1
import Derived.RangeFuncWrites
import Derived.Outline
namespace Go.Proofs.Ytkabkkgaalimmaa
open Go.RowKit Go.Shelf
attribute [local go_sem] Oper.semAt_some

theorem owns_grown {W W' : World} {base e n : Nat} {v : Value} {xs : List Value} {row : Option Nat} (h : W.ownsRow base e 1 v n xs) (hg : W.grownBy W' row) (hr : ∀ r, row = some r → r < base ∨ ∃ o : Obj, W.heap[r]? = some o ∧ o.isCells = false) : W'.ownsRow base e 1 v n xs := by
  refine ⟨h.1, ?_⟩
  rcases h.2 with h' | ⟨g, cap, cur, h1, h2, h3, h4⟩
  · exact .inl h'
  · refine .inr ⟨g, cap, cur, h1, h2, (hg.block g (Array.getElem?_eq_some_iff.1 h3).1 (fun e => ?_)).trans h3, h4⟩
    rcases hr g e.symm with h | ⟨o, ho, hc⟩
    · omega
    · rw [h3] at ho; cases ho; cases hc

theorem owns_set {W : World} {base e n c : Nat} {v u : Value} {xs : List Value} (h : W.ownsRow base e 1 v n xs) (hc : c < base) : (W.setCell ⟨c, 0, none⟩ u).ownsRow base e 1 v n xs := by
  refine ⟨h.1, ?_⟩
  rcases h.2 with h' | ⟨g, cap, cur, h1, h2, h3, h4⟩
  · exact .inl h'
  · exact .inr ⟨g, cap, cur, h1, h2, (Below.heap_setCell W ⟨c, 0, none⟩ u g (show ¬ g = c by omega)).trans h3, h4⟩
theorem app_in_keeps {W w' : World} {base e k : Nat} {v : Value} {xs : List Value} {u : Value} (h : W.ownsRow base e 1 v k xs) (hg : (W.alloc (.cells #[u] e)).grownBy w' v.ownBlock) (hN : base ≤ W.heap.size) :
    KeepsOthers W w' ∧ Below base W w' := by
  refine ⟨(KeepsOthers.alloc W _).trans (KeepsOthers.of_grownBy hg ?_), ((Below.refl base W).alloc hN _).grown hg (by simp; omega) (fun k e' => ((h.alloc (.cells #[u] e)).lt k e').1)⟩
  intro j o hj ho
  rcases (h.alloc (.cells #[u] e)).2 with ⟨rfl, _⟩ | ⟨g, cap, cur, rfl, _, h3, _⟩
  · cases hj
  · cases hj
    rw [h3] at ho
    cases ho
    rfl
theorem owned_some {W : World} {base e n : Nat} {v : Value} {xs : List Value} (h : W.ownsRow base e 1 v n xs) (hp : 0 < n) : ∃ g cap, v = .slice (some ⟨g, 0, none⟩) n cap := by
  rcases h.2 with ⟨_, h0⟩ | ⟨g, cap, cur, hv, _⟩
  · omega
  · exact ⟨g, cap, hv⟩
/-- What the rounds of Points keep. -/
def PtsI (N : Nat) (w : World) (pre : List (Int × Int)) (W : World) : Prop :=
  (∃ v, W.cell? ⟨N, 0, none⟩ = some v ∧ W.frozen? ⟨N, 0, none⟩ = false ∧ W.ownsRow (N + 2) 3 1 v pre.length ((pre.map (·.2)).map (Value.int .i64))) ∧ N + 2 ≤ W.heap.size ∧ Below w.heap.size w W
theorem ptsI_own (N : Nat) (w : World) (B : Nat) (h : w.heap.size ≤ B) : OwnFrom B (PtsI N w) :=
  OwnFrom.and (fun _ _ _ _ hs hg hr => by
    obtain ⟨v, a, b, c⟩ := hs
    exact ⟨v, cell_kept a hg (fun r e => (hr r e).2), (frozen_kept a hg (fun r e => (hr r e).2)).trans b, owns_grown c hg (fun r e => .inr (hr r e).2)⟩) (OwnFrom.and (fun _ _ _ _ hs hg _ => Nat.le_trans hs hg.size) (ownFrom_below (Nat.le_refl _) h))

set_option maxRecDepth 100000 in
set_option maxHeartbeats 1000000 in
theorem points_lib (s : ByteArray) (hs : s.size ≤ 1048576) (hck : rgt s = 0) (w : World) :
    CallsIn Fence.wide 9 Try.prog 31 #[.string s] w fun e W' => (∃ v, e = .returned (.tuple #[v, .int .i64 0]) ∧ Row W' v (((pts s).map (·.2)).map (Value.int .i64))) ∧ Below w.heap.size w W' := by
  have hro : Fence.wide.round = none := rfl
  have h1 : 1 ≤ 9 := by omega
  obtain ⟨inf, hi, hz0, hz1, hz2⟩ := info_parts info3
  refine callsIn_of_wp_marks Try.func31 rfl trivial ?_ hro
  simp only [Try.ntmps31, List.size_toArray, List.length_cons, List.length_nil, Nat.reduceAdd, Nat.reduceSub, Array.replicate_succ, Array.replicate_zero, List.push_toArray, List.append_toArray, List.nil_append, List.cons_append]
  gi_wp2_with (first | (refine ⟨trivial, ?_⟩; gi_at_call 42; refine (callsIn_wide.2 (right_to s (by omega) 0 hck _)).mono ?_; rintro e w' ⟨rfl, rfl⟩) | (refine ⟨trivial, ?_⟩; gi_at_call 43; refine (points_in 8 _ _).mono ?_; rintro e w' ⟨rfl, rfl⟩))
  have c0 := cell_mk w (.slice none 0 0) 34
  have c1 := cell_mk (w.alloc (.cells #[.slice none 0 0] 34)) (.string s) 9
  simp only [World.size_alloc] at c1
  have hB0 : Below w.heap.size w ((w.alloc (.cells #[.slice none 0 0] 34)).alloc (.cells #[.string s] 9)) := ((Below.refl _ w).alloc (Nat.le_refl _) _).alloc (by simp) _
  refine wpIn_rangeFunc_ownF hro h1 (gf := 51) (lb := #[.pointer (some ⟨w.heap.size + 1, 0, none⟩)]) rfl trivial (enters_of Try.func51 (by kernel_rfl) rfl)
    (points_stops 8 (by omega) (w.heap.size + 1) s (by omega) _ (by simp) c1.1) (fun h k => h.trans k) (fun W l o o' _ h1 h2 _ => KeepsS.turn W l o o' h1 h2) (Below.refl _ _) (fun _ => rfl)
    (PtsI w.heap.size w)
    (fun _ _ _ => False)
    (ptsI_own _ w _ (by simp; omega))
    (fun _ _ _ _ _ hs _ _ => hs)
    ⟨⟨_, cell_on _ c0.1, frozen_on _ c0.1 c0.2, World.ownsRow_nil _ _ 3 1⟩, by simp, hB0⟩
    (fun x => { tmps := #[.string s, undef, .slice none 0 0, .int .i64 0, .int .i64 0, .pointer (some ⟨w.heap.size, 0, none⟩), undef, .int .i64 x.2, .string s, .int .i64 0, .int .i64 0, .bool false, undef, .string s, .func (.func 51) #[] #[.pointer (some ⟨w.heap.size + 1, 0, none⟩)], .int .i64 x.1, .int .i64 x.2, undef, undef, undef, undef, undef], defers := [] }) ?assign ?body ?done ?stop
  case assign =>
    intro l x W K hK
    gi_wp2
    exact hK
  case body =>
    rintro l pre x W ⟨⟨v, hc, hf, hown⟩, hN, hB⟩ hlen
    have HO := Lib.hid hown
    clear hown
    gi_wp2_with (gi_at_builtin; refine wpListIn_append_own _ rfl (.tmp 17) (.tmp 19) 34 rfl (w.heap.size + 2) 3 inf (.int .i64 0) 1 8 Try.underlying34 hi hz0 hz1 hz2 rfl (by decide) v pre.length _ rfl (HO.out.alloc _) ⟨W.heap.size, 0, none⟩ 1 1 [.int .i64 x.2] rfl rfl (cell_one_new _ _ _) (by intro u hu; simp at hu; subst hu; rfl) (by unfold maxLen; omega) (by omega) (by simp; omega) ?_; intro v' w' hown' hg hnn; obtain ⟨hko, hbw⟩ := app_in_keeps HO.out hg (by omega); have hx := owned_some hown' (by omega); have hO := Lib.hid hown'; clear hown' hnn hg; obtain ⟨g, cap, rfl⟩ := hx; have hc' := (hbw.cell (p := ⟨w.heap.size, 0, none⟩) (by simp)).trans hc; have hf' := (hbw.frozen (p := ⟨w.heap.size, 0, none⟩) (by simp)).trans hf)
    refine ⟨hko.trans (KeepsOthers.setCell _ _ _), fun h => cell_other (by omega) ((hbw.cell (p := ⟨w.heap.size + 1, 0, none⟩) (by simp)).trans h), ⟨_, World.cell?_setCell_same' _ _ _ (by rw [hc']; rfl), by rw [World.frozen?_setCell]; exact hf', ?_⟩, ?_, ?_⟩
    · have := owns_set (c := w.heap.size) (u := .slice (some ⟨g, 0, none⟩) (pre.length + 1) cap) hO.out (by omega)
      simpa using this
    · have := hbw.size; simp; omega
    · exact (hB.trans (hbw.mono (by omega))).setCell (p := ⟨w.heap.size, 0, none⟩) (Nat.le_refl _) _
  case done =>
    rintro D ys W hD rfl ⟨⟨v, hc, _, hown⟩, hN, hB⟩ hK
    have hO := Lib.hid hown
    clear hown
    gi_wp2
    refine ⟨by simp, .inl ⟨_, _, rfl, run_takeDeferred hK, ?_⟩⟩
    exact ⟨_, results_tmp2 rfl _ _ _, ⟨_, rfl, Row.of_owned (owns_grown hO.out (grownBy_putObj' W D _) (fun r e => by cases e; exact .inr ⟨_, hK, rfl⟩))⟩, hB.trans (belowK_b (w := w) (Nat.le_refl _) W D _ _ (by simp at hD; omega) hK rfl rfl)⟩
  case stop =>
    rintro D c pre W _ _ h _
    exact h.elim

theorem rgt_hi (s : ByteArray) (h : rgt s = 0) : s.size ≤ 1048576 := by
  unfold rgt at h
  split at h
  · cases h
  · omega
/-- What Points returns. -/
def ptR (s : ByteArray) : List Int := if rgt s = 0 then (pts s).map (·.2) else []
def PtsRet (r : ByteArray) (w : World) (e : Ending) (W' : World) : Prop := (∃ v, e = .returned (.tuple #[v, .int .i64 (rgt r)]) ∧ Row W' v ((ptR r).map (Value.int .i64))) ∧ Below w.heap.size w W'
set_option maxHeartbeats 400000 in
theorem points_any (s : ByteArray) (hs : s.size ≤ 4611686018427387904) (w : World) :
    Calls Try.prog 31 #[.string s] w (PtsRet s w) := by
  by_cases h0 : rgt s = 0
  · refine (callsIn_wide.1 (points_lib s (rgt_hi s h0) h0 w)).mono fun e W' ⟨⟨v, h1, h2⟩, hb⟩ => ⟨⟨v, by rw [h0]; exact h1, ?_⟩, hb⟩
    rw [ptR, if_pos h0]; exact h2
  · obtain ⟨e0, he⟩ : ∃ e, Hid (rgt s = e) := ⟨rgt s, rfl⟩
    have t1 : (e0 != 0) = true := by have := he.out; simp; omega
    replace h0 := Lib.hid h0
    go_enter Try.func31, Try.ntmps31
    go_wp2_with fail
    refine (right_to s hs e0 he.out _).mono ?_; rintro e w1 ⟨rfl, rfl⟩
    go_wp2_with fail
    go_ret2
    exact ⟨⟨.slice none 0 0, by rw [he.out]; rfl, .inl ⟨none, 0, fun _ => rfl, rfl, by rw [ptR, if_neg h0.out]; rfl⟩⟩, Below.refl _ _⟩

def CntI (N : Nat) (w : World) (pre : List (Int × Int)) (W : World) : Prop :=
  (W.cell? ⟨N, 0, none⟩ = some (.int .i64 (pre.length : Nat)) ∧ W.frozen? ⟨N, 0, none⟩ = false) ∧ Below w.heap.size w W
theorem cntI_own (N : Nat) (w : World) (B : Nat) (h : w.heap.size ≤ B) : OwnFrom B (CntI N w) :=
  OwnFrom.and (fun _ _ _ _ hs hg hr => ⟨cell_kept hs.1 hg (fun r e => (hr r e).2), (frozen_kept hs.1 hg (fun r e => (hr r e).2)).trans hs.2⟩) (ownFrom_below (Nat.le_refl _) h)
set_option maxRecDepth 100000 in
set_option maxHeartbeats 1000000 in
theorem count_lib (s : ByteArray) (hs : s.size ≤ 1048576) (hck : rgt s = 0) (w : World) :
    CallsIn Fence.wide 9 Try.prog 32 #[.string s] w fun e W' => e = .returned (.tuple #[.int .i64 ((pts s).length : Nat), .int .i64 0]) ∧ Below w.heap.size w W' := by
  have hro : Fence.wide.round = none := rfl
  have h1 : 1 ≤ 9 := by omega
  refine callsIn_of_wp_marks Try.func32 rfl trivial ?_ hro
  simp only [Try.ntmps32, List.size_toArray, List.length_cons, List.length_nil, Nat.reduceAdd, Nat.reduceSub, Array.replicate_succ, Array.replicate_zero, List.push_toArray, List.append_toArray, List.nil_append, List.cons_append]
  gi_wp2_with (first | (refine ⟨trivial, ?_⟩; gi_at_call 42; refine (callsIn_wide.2 (right_to s (by omega) 0 hck _)).mono ?_; rintro e w' ⟨rfl, rfl⟩) | (refine ⟨trivial, ?_⟩; gi_at_call 43; refine (points_in 8 _ _).mono ?_; rintro e w' ⟨rfl, rfl⟩))
  have c0 := cell_mk w (.int .i64 0) 3
  have c1 := cell_mk (w.alloc (.cells #[.int .i64 0] 3)) (.string s) 9
  simp only [World.size_alloc] at c1
  have hB0 : Below w.heap.size w ((w.alloc (.cells #[.int .i64 0] 3)).alloc (.cells #[.string s] 9)) := ((Below.refl _ w).alloc (Nat.le_refl _) _).alloc (by simp) _
  refine wpIn_rangeFunc_ownF hro h1 (gf := 51) (lb := #[.pointer (some ⟨w.heap.size + 1, 0, none⟩)]) rfl trivial (enters_of Try.func51 (by kernel_rfl) rfl)
    (points_stops 8 (by omega) (w.heap.size + 1) s (by omega) _ (by simp) c1.1) (fun h k => h.trans k) (fun W l o o' _ h1 h2 _ => KeepsS.turn W l o o' h1 h2) (Below.refl _ _) (fun _ => rfl)
    (CntI w.heap.size w)
    (fun _ _ _ => False)
    (cntI_own _ w _ (by simp; omega))
    (fun _ _ _ _ _ hs _ _ => hs)
    ⟨⟨cell_on _ c0.1, frozen_on _ c0.1 c0.2⟩, hB0⟩
    (fun x => { tmps := #[.string s, undef, .int .i64 0, .int .i64 0, .int .i64 0, .pointer (some ⟨w.heap.size, 0, none⟩), .string s, .int .i64 0, .int .i64 0, .bool false, undef, .string s, .func (.func 51) #[] #[.pointer (some ⟨w.heap.size + 1, 0, none⟩)], .int .i64 x.1, .int .i64 x.2, undef, undef, undef], defers := [] }) ?assign ?body ?done ?stop
  case assign =>
    intro l x W K hK
    gi_wp2
    simpa using hK
  case body =>
    rintro l pre x W ⟨⟨hc, hf⟩, hB⟩ hlen
    gi_wp2
    exact ⟨KeepsOthers.setCell _ _ _, KeepsS.set _ _ _ (by omega), ⟨by rw [World.cell?_setCell_same' _ _ _ (by rw [hc]; rfl)]; simp, by rw [World.frozen?_setCell]; exact hf⟩, hB.setCell (p := ⟨w.heap.size, 0, none⟩) (Nat.le_refl _) _⟩
  case done =>
    rintro D ys W hD rfl ⟨⟨hc, _⟩, hB⟩ hK
    gi_wp2
    refine ⟨by simp, .inl ⟨_, _, rfl, run_takeDeferred hK, ?_⟩⟩
    exact ⟨_, results_tmp2 rfl _ _ _, rfl, hB.trans (belowK_b (w := w) (Nat.le_refl _) W D _ _ (by simp at hD; omega) hK rfl rfl)⟩
  case stop =>
    rintro D c pre W _ _ h _
    exact h.elim
def CntRet (r : ByteArray) (w : World) (e : Ending) (W' : World) : Prop := e = .returned (.tuple #[.int .i64 ((ptR r).length : Nat), .int .i64 (rgt r)]) ∧ Below w.heap.size w W'
set_option maxHeartbeats 400000 in
theorem count_any (s : ByteArray) (hs : s.size ≤ 4611686018427387904) (w : World) :
    Calls Try.prog 32 #[.string s] w (CntRet s w) := by
  by_cases h0 : rgt s = 0
  · refine (callsIn_wide.1 (count_lib s (rgt_hi s h0) h0 w)).mono fun e W' ⟨h1, hb⟩ => ⟨by rw [h0, ptR, if_pos h0, List.length_map]; exact h1, hb⟩
  · obtain ⟨e0, he⟩ : ∃ e, Hid (rgt s = e) := ⟨rgt s, rfl⟩
    have t1 : (e0 != 0) = true := by have := he.out; simp; omega
    replace h0 := Lib.hid h0
    go_enter Try.func32, Try.ntmps32
    go_wp2_with fail
    refine (right_to s hs e0 he.out _).mono ?_; rintro e w1 ⟨rfl, rfl⟩
    go_wp2_with fail
    go_ret2
    exact ⟨by rw [he.out, ptR, if_neg h0.out]; rfl, Below.refl _ _⟩

/-- What Cut returns. -/
def ctR (s : ByteArray) (n : Int) : ByteArray × Int :=
  if 1048576 < s.size then (⟨#[]⟩, 3) else if n < 0 then (⟨#[]⟩, 2) else if rgt s ≠ 0 then (⟨#[]⟩, rgt s) else if (s.size : Int) ≤ n then (s, 0) else (s.extract 0 (cutE s n).toNat, 0)
def CutRet (r : ByteArray) (n : Int) (w : World) (e : Ending) (W' : World) : Prop := e = .returned (.tuple #[.string (ctR r n).1, .int .i64 (ctR r n).2]) ∧ Below w.heap.size w W'
theorem cutRet_of {r : ByteArray} {n : Int} {w W' : World} {e : Ending} {t : ByteArray} {k : Int} (h : ctR r n = (t, k)) (he : e = .returned (.tuple #[.string t, .int .i64 k])) (hb : Below w.heap.size w W') : CutRet r n w e W' := by
  unfold CutRet; rw [h]; exact ⟨he, hb⟩
set_option maxHeartbeats 1000000 in
theorem cut_any (s : ByteArray) (hs : s.size ≤ 4611686018427387904) (n : Int) (w : World) :
    Calls Try.prog 22 #[.string s, .int .i64 n] w (CutRet s n w) := by
  obtain ⟨e0, he⟩ : ∃ e, Hid (rgt s = e) := ⟨rgt s, rfl⟩
  have hr : ctR s n = if 1048576 < s.size then (⟨#[]⟩, 3) else if n < 0 then (⟨#[]⟩, 2) else if e0 ≠ 0 then (⟨#[]⟩, e0) else if (s.size : Int) ≤ n then (s, 0) else (s.extract 0 (cutE s n).toNat, 0) := by
    unfold ctR; rw [he.out]
  have hcall := Lib.hid (fun w => right_to s hs e0 he.out w)
  by_cases c1 : 1048576 < s.size
  · rw [if_pos c1] at hr
    replace hr := Lib.hid hr
    have t1 : decide ((1048576 : Int) < s.size) = true := decide_eq_true (by omega)
    go_enter Try.func22, Try.ntmps22
    go_wp2_with fail
    refine (hcall.out _).mono ?_; rintro e w1 ⟨rfl, rfl⟩
    go_wp2_with fail
    go_ret2
    exact cutRet_of hr.out rfl ((Below.refl _ _).alloc (Nat.le_refl _) _)
  · rw [if_neg c1] at hr
    have t1 : decide ((1048576 : Int) < s.size) = false := decide_eq_false (by omega)
    by_cases c2 : n < 0
    · rw [if_pos c2] at hr
      replace hr := Lib.hid hr
      have t2 : decide (n < 0) = true := decide_eq_true c2
      go_enter Try.func22, Try.ntmps22
      go_wp2_with fail
      refine (hcall.out _).mono ?_; rintro e w1 ⟨rfl, rfl⟩
      go_wp2_with fail
      go_ret2
      exact cutRet_of hr.out rfl ((Below.refl _ _).alloc (Nat.le_refl _) _)
    · rw [if_neg c2] at hr
      have t2 : decide (n < 0) = false := decide_eq_false c2
      by_cases c3 : e0 = 0
      · rw [if_neg (by omega)] at hr
        by_cases c4 : (s.size : Int) ≤ n
        · rw [if_pos c4] at hr
          replace hr := Lib.hid hr
          subst c3
          have t4 : decide ((s.size : Int) ≤ n) = true := decide_eq_true c4
          go_enter Try.func22, Try.ntmps22
          go_wp2_with fail
          refine (hcall.out _).mono ?_; rintro e w1 ⟨rfl, rfl⟩
          go_wp2_with fail
          go_ret2
          exact cutRet_of hr.out rfl ((Below.refl _ _).alloc (Nat.le_refl _) _)
        · rw [if_neg c4] at hr
          have h0 : rgt s = 0 := by rw [he.out, c3]
          exact (cut_mid s (by omega) h0 n (by omega) (by omega) w).mono fun e W' ⟨a, b⟩ => cutRet_of hr a b
      · rw [if_pos c3] at hr
        replace hr := Lib.hid hr
        have t3 : (e0 != 0) = true := by simp; omega
        clear c3
        go_enter Try.func22, Try.ntmps22
        go_wp2_with fail
        refine (hcall.out _).mono ?_; rintro e w1 ⟨rfl, rfl⟩
        go_wp2_with fail
        go_ret2
        exact cutRet_of hr.out rfl ((Below.refl _ _).alloc (Nat.le_refl _) _)
end Go.Proofs.Ytkabkkgaalimmaa
