/- all. -/
import Derived.RegionTactic
import Derived.BigRegion
import Derived.Deep.QuietTactic
import Derived.BigQuiet
import Derived.Test.YtimiejahkcjcdaaDoorM7
namespace Go.Proofs.YtimiejahkcjcdaaDoor
open Go.RowKit Go.Shelf
attribute [local go_sem] Oper.semAt_some

/-- The state after the first k blocks. -/
def allK (l : List UInt8) (s : S4) : Nat → S4
  | 0 => s
  | k + 1 => stepF (allK l s k) ((l.drop (64 * k)).take 64)
def allF (s : S4) (l : List UInt8) : S4 := allK l s (l.length / 64)
def restF (l : List UInt8) : List UInt8 := l.drop (l.length / 64 * 64)

def St4 (W : World) (N : Nat) (s : S4) : Prop :=
  (W.cell? ⟨N, 0, none⟩ = some (.int .u32 (U s.a)) ∧ W.cell? ⟨N, 1, none⟩ = some (.int .u32 (U s.b)) ∧ W.cell? ⟨N, 2, none⟩ = some (.int .u32 (U s.c)) ∧ W.cell? ⟨N, 3, none⟩ = some (.int .u32 (U s.d))) ∧
  (W.frozen? ⟨N, 0, none⟩ = false ∧ W.frozen? ⟨N, 1, none⟩ = false ∧ W.frozen? ⟨N, 2, none⟩ = false ∧ W.frozen? ⟨N, 3, none⟩ = false)
theorem St4.grown {W W' : World} {N : Nat} {s : S4} {row : Option Nat} (h : St4 W N s) (hg : W.grownBy W' row) (hr : ∀ r, row = some r → ∃ o : Obj, W.heap[r]? = some o ∧ o.isCells = false) : St4 W' N s := by
  obtain ⟨⟨a, b, c, d⟩, ⟨e, f, g, i⟩⟩ := h
  exact ⟨⟨cell_kept a hg hr, cell_kept b hg hr, cell_kept c hg hr, cell_kept d hg hr⟩, ⟨(frozen_kept a hg hr).trans e, (frozen_kept b hg hr).trans f, (frozen_kept c hg hr).trans g, (frozen_kept d hg hr).trans i⟩⟩
theorem St4.block {W W' : World} {N : Nat} {s : S4} (h : St4 W N s) (hb : W'.heap[N]? = W.heap[N]?) : St4 W' N s := by
  have hc : ∀ j, W'.cell? ⟨N, j, none⟩ = W.cell? ⟨N, j, none⟩ := fun j => World.cell?_of_block (w := W) hb
  have hf : ∀ j, W'.frozen? ⟨N, j, none⟩ = W.frozen? ⟨N, j, none⟩ := fun j => by simp [World.frozen?, hb]
  simpa only [St4, hc, hf] using h
def St4.setAll (W : World) (N : Nat) (s : S4) : World := (((W.setCell ⟨N, 0, none⟩ (.int .u32 (U s.a))).setCell ⟨N, 1, none⟩ (.int .u32 (U s.b))).setCell ⟨N, 2, none⟩ (.int .u32 (U s.c))).setCell ⟨N, 3, none⟩ (.int .u32 (U s.d))
theorem St4.set {W : World} {N : Nat} {s : S4} (h : St4 W N s) (r : S4) : St4 (St4.setAll W N r) N r := by
  obtain ⟨⟨a, b, c, d⟩, ⟨e, f, g, i⟩⟩ := h
  refine ⟨⟨?_, ?_, ?_, ?_⟩, ?_⟩ <;> simp [St4.setAll, go_sem, a, b, c, d, e, f, g, i]
theorem St4.new (w : World) (s : S4) (t : TypeId) : St4 (w.alloc (.cells #[.int .u32 (U s.a), .int .u32 (U s.b), .int .u32 (U s.c), .int .u32 (U s.d)] t)) w.heap.size s := by
  refine ⟨⟨?_, ?_, ?_, ?_⟩, ⟨?_, ?_, ?_, ?_⟩⟩ <;> simp [go_sem]

/-- What the rounds keep. -/
def AllI (w : World) (l : List UInt8) (s : S4) (k : Nat) (W : World) : Prop :=
  St4 W w.heap.size (allK l s k) ∧ (∃ r, St4 W (w.heap.size + 1) r) ∧ w.heap.size + 3 ≤ W.heap.size ∧ Below w.heap.size w W
theorem allI_own (w : World) (l : List UInt8) (s : S4) (B : Nat) (hB : w.heap.size ≤ B) : OwnFrom B (AllI w l s) := by
  rintro k A A' row ⟨h1, ⟨r, h2⟩, h3, h4⟩ hg hr
  exact ⟨h1.grown hg (fun r e => (hr r e).2), ⟨r, h2.grown hg (fun r e => (hr r e).2)⟩, Nat.le_trans h3 hg.size, h4.grown hg (by omega) (fun k e => Nat.le_trans hB (hr k e).1)⟩
theorem allI_set (w : World) (l : List UInt8) (s : S4) (k : Nat) (A : World) (v : Value) (h : AllI w l s k A) : AllI w l s k (A.setCell ⟨w.heap.size + 2, 0, none⟩ v) := by
  obtain ⟨h1, ⟨r, h2⟩, h3, h4⟩ := h
  exact ⟨h1.block (heap_other v (by omega)), ⟨r, h2.block (heap_other v (by omega))⟩, by simpa using h3, h4.setCell (p := ⟨w.heap.size + 2, 0, none⟩) (by show w.heap.size ≤ w.heap.size + 2; omega) v⟩
theorem chunk_row {w : World} {bb off c k : Nat} {l : List UInt8} (h : RowB w (.slice (some ⟨bb, off, none⟩) l.length c) l) (hk : k < l.length / 64) : RowB w (.slice (some ⟨bb, off + 64 * k, none⟩) 64 64) ((l.drop (64 * k)).take 64) := by
  obtain ⟨b, o, cap, e, hb, _, _, hc⟩ := rowB_cells h (fun e => by rw [e] at hk; simp at hk)
  cases e
  have hl : (((l.drop (64 * k)).take 64).map enc8).length = 64 := by simp; omega
  refine .inr ⟨bb, off + 64 * k, 64, by rw [hl], hb, by omega, by unfold maxLen; omega, fun i hi => ?_⟩
  rw [hl] at hi
  have := hc (64 * k + i) (by omega)
  rw [show off + 64 * k + i = off + (64 * k + i) by omega, this]
  have hx : 64 * k + i < l.length := by omega
  simp [enc8, List.getD_eq_getElem?_getD, List.getElem?_eq_getElem hx]
theorem chunk_len {k : Nat} {l : List UInt8} (hk : k < l.length / 64) : ((l.drop (64 * k)).take 64).length = 64 := by simp; omega

theorem keeps_below {W W' : World} (h : Below W.heap.size W W') : KeepsOthers W W' := ⟨h.size, fun k _ hk _ => (h.block k (Array.getElem?_eq_some_iff.1 hk).1).trans hk⟩
theorem setAll_other {A : World} {N k : Nat} (s : S4) (h : k ≠ N) : (St4.setAll A N s).heap[k]? = A.heap[k]? := by
  unfold St4.setAll
  exact (((Below.heap_setCell _ ⟨N, 3, none⟩ _ k h).trans (Below.heap_setCell _ ⟨N, 2, none⟩ _ k h)).trans (Below.heap_setCell _ ⟨N, 1, none⟩ _ k h)).trans (Below.heap_setCell _ ⟨N, 0, none⟩ _ k h)
theorem setAll_below {n N : Nat} {A B : World} (s : S4) (h : Below n A B) (hn : n ≤ N) : Below n A (St4.setAll B N s) :=
  (((h.setCell (p := ⟨N, 0, none⟩) hn _).setCell (p := ⟨N, 1, none⟩) hn _).setCell (p := ⟨N, 2, none⟩) hn _).setCell (p := ⟨N, 3, none⟩) hn _
theorem setAll_keeps (A : World) (N : Nat) (s : S4) : KeepsOthers A (St4.setAll A N s) :=
  (((KeepsOthers.setCell _ _ _).trans (KeepsOthers.setCell _ _ _)).trans (KeepsOthers.setCell _ _ _)).trans (KeepsOthers.setCell _ _ _)
theorem allI_step {w W w1 : World} {l : List UInt8} {s s2 s3 r : S4} {k : Nat} (e2 : s2 = allK l s k) (e3 : s3 = stepF s2 ((l.drop (64 * k)).take 64)) (hr : St4 W (w.heap.size + 1) r) (hsz : w.heap.size + 3 ≤ W.heap.size) (hB : Below w.heap.size w W) (hb : Below W.heap.size W w1)
    (hg : St4 w1 w.heap.size s2) : KeepsOthers W (St4.setAll w1 w.heap.size s3) ∧ Same (w.heap.size + 2) W (St4.setAll w1 w.heap.size s3) ∧ AllI w l s (k + 1) (St4.setAll w1 w.heap.size s3) := by
  subst e2 e3
  have hBB : Below w.heap.size w w1 := hB.trans (hb.mono (by omega))
  refine ⟨(keeps_below hb).trans (setAll_keeps _ _ _), (setAll_other _ (by omega)).trans (hb.block _ (by omega)), hg.set _, ⟨r, (hr.block (hb.block _ (by omega))).block (setAll_other _ (by omega))⟩, ?_, setAll_below _ hBB (Nat.le_refl _)⟩
  have h1 := hb.size
  simp [St4.setAll]
  omega
theorem rest_row {w : World} {b off c : Nat} {l : List UInt8} (h : RowB w (.slice (some ⟨b, off, none⟩) l.length c) l) (hc0 : l.length ≤ c) (hcm : c ≤ maxLen) :
    RowB w (.slice (if c = l.length / 64 * 64 then some ⟨b, off, none⟩ else some ⟨b, off + l.length / 64 * 64, none⟩) (l.length - l.length / 64 * 64) (c - l.length / 64 * 64)) (restF l) := by
  by_cases h0 : restF l = []
  · have hl : l.length - l.length / 64 * 64 = 0 := by have := congrArg List.length h0; simpa [restF] using this
    refine .inl ⟨_, _, fun e => ?_, by rw [hl], by rw [h0]; rfl⟩
    split at e <;> cases e
  · have hl : l.length - l.length / 64 * 64 ≠ 0 := by
      intro e; exact h0 (List.length_eq_zero_iff.1 (by simpa [restF] using e))
    have hle : l.length / 64 * 64 ≤ l.length := by omega
    rw [if_neg (by omega)]
    obtain ⟨b', o', cap, e, hb, _, _, hc⟩ := rowB_cells h (fun e => by rw [e] at hl; simp at hl)
    cases e
    have hll : ((restF l).map enc8).length = l.length - l.length / 64 * 64 := by simp [restF]
    refine .inr ⟨b, off + l.length / 64 * 64, c - l.length / 64 * 64, by rw [hll], hb, by omega, by omega, fun i hi => ?_⟩
    rw [hll] at hi
    generalize hq : l.length / 64 * 64 = q at hi hle ⊢
    have := hc (q + i) (by omega)
    rw [show off + q + i = off + (q + i) by omega, this]
    have hx : q + i < l.length := by omega
    simp [restF, hq, enc8, List.getD_eq_getElem?_getD, List.getElem?_eq_getElem hx]
theorem setAll_drew {w W : World} {D : Nat} {r : S4} (sF : S4) (h : St4 W (w.heap.size + 1) r) (hK : W.heap[D]? = some (.deferred (some []))) (hD : D ≠ w.heap.size + 1) (hD2 : w.heap.size ≤ D) (hB : Below w.heap.size w W) :
    (St4.setAll W (w.heap.size + 1) sF).drew.heap[D]? = some (.deferred (some [])) ∧ St4 ((St4.setAll W (w.heap.size + 1) sF).drew.putObj D (.deferred none)) (w.heap.size + 1) sF ∧ Below w.heap.size w ((St4.setAll W (w.heap.size + 1) sF).drew.putObj D (.deferred none)) := by
  have h1 : (St4.setAll W (w.heap.size + 1) sF).drew.heap[D]? = some (.deferred (some [])) := (setAll_other sF hD).trans hK
  have h2 : St4 (St4.setAll W (w.heap.size + 1) sF).drew (w.heap.size + 1) sF := (h.set sF).block rfl
  have h3 : Below w.heap.size w (St4.setAll W (w.heap.size + 1) sF).drew := (setAll_below sF hB (by omega)).drew
  refine ⟨h1, h2.block (World.putObj_heap_other (by omega)), h3.grown (grownBy_putObj' _ D _) h3.size (fun k e => by cases e; exact hD2)⟩
set_option maxRecDepth 100000 in
set_option maxHeartbeats 1000000 in
theorem all_in (s : S4) (a : Option Addr) (l : List UInt8) (c : Nat) (hlc : l.length ≤ c) (ha : 64 ≤ l.length → ∃ bb off, a = some ⟨bb, off, none⟩) (w : World) (hT : Tabs w) (hr : RowB w (.slice a l.length c) l) :
    CallsIn Fence.wide 9 Tryd.prog 33 #[.agg #[.int .u32 (U s.a), .int .u32 (U s.b), .int .u32 (U s.c), .int .u32 (U s.d)], .slice a l.length c] w fun e W' => (∃ u, e = .returned (.tuple #[sv (allF s l), u]) ∧ RowB W' u (restF l)) ∧ Below w.heap.size w W' := by
  have hro : Fence.wide.round = none := rfl
  have h1 : 1 ≤ 9 := by omega
  refine callsIn_of_wp_marks Tryd.func33 rfl trivial ?_ hro
  simp only [Tryd.ntmps33, List.size_toArray, List.length_cons, List.length_nil, Nat.reduceAdd, Nat.reduceSub, Array.replicate_succ, Array.replicate_zero, List.push_toArray, List.append_toArray, List.nil_append, List.cons_append]
  gi_wp2_with (refine ⟨trivial, ?_⟩; gi_at_call 45; refine (blocks_in 8 _ _ _ _).mono ?_; rintro e w' ⟨rfl, rfl⟩)
  have c2 := Boxed.new ((w.alloc (.cells #[.int .u32 (U s.a), .int .u32 (U s.b), .int .u32 (U s.c), .int .u32 (U s.d)] 30)).alloc (.cells #[.int .u32 0, .int .u32 0, .int .u32 0, .int .u32 0] 30)) 24 (.slice a l.length c)
  have c1 := St4.new (w.alloc (.cells #[.int .u32 (U s.a), .int .u32 (U s.b), .int .u32 (U s.c), .int .u32 (U s.d)] 30)) ⟨0, 0, 0, 0⟩ 30
  have c0 := St4.new w s 30
  simp only [World.size_alloc] at c1 c2
  have hI0 : AllI w l s 0 (((w.alloc (.cells #[.int .u32 (U s.a), .int .u32 (U s.b), .int .u32 (U s.c), .int .u32 (U s.d)] 30)).alloc (.cells #[.int .u32 0, .int .u32 0, .int .u32 0, .int .u32 0] 30)).alloc (.cells #[.slice a l.length c] 24)) := by
    refine ⟨(c0.block (Below.heap_alloc _ _ _ (by simp))).block (Below.heap_alloc _ _ _ (by simp; omega)), ⟨_, c1.block (Below.heap_alloc _ _ _ (by simp))⟩, by simp, (((Below.refl _ w).alloc (Nat.le_refl _) _).alloc (by simp) _).alloc (by simp; omega) _⟩
  have hz : (((w.alloc (.cells #[.int .u32 (U s.a), .int .u32 (U s.b), .int .u32 (U s.c), .int .u32 (U s.d)] 30)).alloc (.cells #[.int .u32 0, .int .u32 0, .int .u32 0, .int .u32 0] 30)).alloc (.cells #[.slice a l.length c] 24)).heap.size = w.heap.size + 3 := by simp
  generalize ((w.alloc (.cells #[.int .u32 (U s.a), .int .u32 (U s.b), .int .u32 (U s.c), .int .u32 (U s.d)] 30)).alloc (.cells #[.int .u32 0, .int .u32 0, .int .u32 0, .int .u32 0] 30)).alloc (.cells #[.slice a l.length c] 24) = W0 at c2 hI0 hz ⊢
  clear c0 c1
  refine rangeN hro h1 (gf := 50) (lb := #[.pointer (some ⟨w.heap.size + 2, 0, none⟩)]) rfl trivial (enters_of Tryd.func50 (by kernel_rfl) rfl)
    (fun k => #[.slice (at64 a k) 64 64]) (l.length / 64) (w.heap.size + 2) (by omega) (blocks_hit 9 (w.heap.size + 2) l.length c (by omega) a hlc ha W0 (by omega) c2) (fun _ => rfl)
    (AllI w l s) (allI_own w l s _ (by omega)) (allI_set w l s) hI0
    (fun k => { tmps := #[.agg #[.int .u32 (U s.a), .int .u32 (U s.b), .int .u32 (U s.c), .int .u32 (U s.d)], .slice a l.length c, .pointer (some ⟨w.heap.size, 0, none⟩), undef, .pointer (some ⟨w.heap.size + 1, 0, none⟩), .slice none 0 0, .slice (at64 a k) 64 64, .slice a l.length c, .func (.func 50) #[] #[.pointer (some ⟨w.heap.size + 1 + 1, 0, none⟩)], .slice (at64 a k) 64 64, undef, undef, undef, undef, undef, undef, undef, undef, undef, undef], defers := [] }) ?assign ?body ?done
  case assign =>
    intro l x W K hK
    gi_wp2
    exact hK
  case body =>
    rintro lp k W ⟨⟨⟨e0, e1, e2, e3⟩, ⟨f0, f1, f2, f3⟩⟩, ⟨r, hr1⟩, hsz, hB⟩ hk
    obtain ⟨bb, off, rfl⟩ := ha (by omega)
    obtain ⟨s2, hs2⟩ : ∃ s2, Hid (s2 = allK l s k) := ⟨_, rfl⟩
    obtain ⟨s3, hs3⟩ : ∃ s3, Hid (s3 = stepF s2 ((l.drop (64 * k)).take 64)) := ⟨_, rfl⟩
    rw [← hs2.out] at e0 e1 e2 e3
    have HS := Lib.hid (show St4 W w.heap.size s2 from ⟨⟨e0, e1, e2, e3⟩, ⟨f0, f1, f2, f3⟩⟩)
    have hcall := Lib.hid (step_to s2 s3 _ _ (chunk_len hk) hs3.out W (hT.on hB) (chunk_row (hr.on hB) hk))
    clear hr hT
    show Code.wpIn _ _ _ _ _ { tmps := #[_, _, _, _, _, _, .slice (some ⟨bb, off + 64 * k, none⟩) 64 64, _, _, .slice (some ⟨bb, off + 64 * k, none⟩) 64 64, _, _, _, _, _, _, _, _, _, _], defers := [] } _
    gi_wp2_with (refine ⟨trivial, ?_⟩; gi_at_call 32; refine (CallsIn.inRound lp (callsIn_wide.2 hcall.out)).mono ?_; rintro e w1 ⟨rfl, hb1⟩; have g4 := HS.out.block (hb1.block w.heap.size (by omega)); have HG := Lib.hid g4; obtain ⟨⟨e0, e1, e2, e3⟩, ⟨f0, f1, f2, f3⟩⟩ := g4)
    exact allI_step hs2.out hs3.out hr1 hsz hB hb1 HG.out
  case done =>
    rintro D W hD ⟨h4, ⟨r, hr1⟩, hsz, hB⟩ hK
    obtain ⟨sF, hsF⟩ : ∃ x, Hid (x = allF s l) := ⟨_, rfl⟩
    replace h4 : St4 W w.heap.size sF := by rw [hsF.out]; exact h4
    obtain ⟨⟨e0, e1, e2, e3⟩, ⟨f0, f1, f2, f3⟩⟩ := h4
    obtain ⟨⟨e4, e5, e6, e7⟩, ⟨f4, f5, f6, f7⟩⟩ := hr1
    clear hT ha hI0
    have hr' := hr
    rcases hr' with ⟨a', c', hac, hv, hl⟩ | ⟨b, off, cap, hv, hlt, h1, h2, hc⟩
    · simp only [Value.slice.injEq] at hv; obtain ⟨rfl, hl0, rfl⟩ := hv
      have hR := Lib.hid (show RowB w (.slice a 0 c) (restF l) from .inl ⟨a, c, hac, rfl, by rw [restF, List.length_eq_zero_iff.1 hl0]; rfl⟩)
      clear hr
      rw [hl0] at hlc ⊢
      gi_wp2
      refine wpIn_wide.2 ?_
      go_region
      have hx := setAll_drew sF ⟨⟨e4, e5, e6, e7⟩, ⟨f4, f5, f6, f7⟩⟩ (D := D) hK (by omega) (by omega) hB
      show Exit.then _ _ _ _ (St4.setAll W (w.heap.size + 1) sF).drew
      generalize (St4.setAll W (w.heap.size + 1) sF).drew = W5 at hx ⊢
      clear e0 e1 e2 e3 f0 f1 f2 f3 e4 e5 e6 e7 f4 f5 f6 f7
      obtain ⟨hK5, ⟨⟨e0, e1, e2, e3⟩, _⟩, hB5⟩ := hx
      replace hB5 := Lib.hid hB5
      gi_wp2
      refine ⟨by simp, .inl ⟨_, _, rfl, run_takeDeferred hK5, ?_⟩⟩
      exact ⟨.tuple #[.agg #[.int .u32 (U sF.a), .int .u32 (U sF.b), .int .u32 (U sF.c), .int .u32 (U sF.d)], .slice a 0 c], by simp [results, Tryd.results33, go_sem, e0, e1, e2, e3], ⟨_, by rw [← hsF.out]; rfl, hR.out.on hB5.out⟩, hB5.out⟩
    · simp only [Value.slice.injEq] at hv; obtain ⟨rfl, _, rfl⟩ := hv
      have hR := Lib.hid (rest_row hr hlc h2)
      clear hr hc
      replace hB := Lib.hid hB
      clear c2 h1
      obtain ⟨n, hn⟩ : ∃ n, Hid (l.length = n) := ⟨_, rfl⟩
      rw [hn.out] at hlc hR ⊢
      obtain ⟨q, hq⟩ : ∃ q, Hid (n / 64 * 64 = q) := ⟨_, rfl⟩
      rw [hq.out] at hR
      have hqn : q ≤ n := by have := hq.out; omega
      have hn63 : n ≤ 9223372036854775807 := by unfold maxLen at h2; omega
      have d1 : (n : Int) / 64 * 64 = q := by have := hq.out; omega
      gi_wp2
      refine wpIn_wide.2 ?_
      go_region
      generalize (if c = q then some (⟨b, off, none⟩ : Addr) else some ⟨b, off + q, none⟩) = aR at hR ⊢
      have hx := setAll_drew sF ⟨⟨e4, e5, e6, e7⟩, ⟨f4, f5, f6, f7⟩⟩ (D := D) hK (by omega) (by omega) hB.out
      show Exit.then _ _ _ _ (St4.setAll W (w.heap.size + 1) sF).drew
      generalize (St4.setAll W (w.heap.size + 1) sF).drew = W5 at hx ⊢
      clear e0 e1 e2 e3 f0 f1 f2 f3 e4 e5 e6 e7 f4 f5 f6 f7
      obtain ⟨hK5, ⟨⟨e0, e1, e2, e3⟩, _⟩, hB5⟩ := hx
      replace hB5 := Lib.hid hB5
      gi_wp2
      refine ⟨by simp, .inl ⟨_, _, rfl, run_takeDeferred hK5, ?_⟩⟩
      exact ⟨.tuple #[.agg #[.int .u32 (U sF.a), .int .u32 (U sF.b), .int .u32 (U sF.c), .int .u32 (U sF.d)], .slice aR (n - q) (c - q)], by simp [results, Tryd.results33, go_sem, e0, e1, e2, e3], ⟨_, by rw [← hsF.out]; rfl, hR.out.on hB5.out⟩, hB5.out⟩
theorem rowB_parts {w : World} {v : Value} {l : List UInt8} (h : RowB w v l) : ∃ a c, v = .slice a l.length c ∧ l.length ≤ c ∧ (0 < l.length → ∃ bb off, a = some ⟨bb, off, none⟩) := by
  rcases h with ⟨a, c, _, hv, h0⟩ | ⟨b, off, cap, hv, _, h2, h3, _⟩
  · have : l = [] := by simpa using h0
    subst this
    exact ⟨a, c, hv, Nat.zero_le _, fun h => absurd h (Nat.lt_irrefl 0)⟩
  · have hl : (l.map enc8).length = l.length := by simp
    rw [hl] at hv h2
    exact ⟨_, cap, hv, h2, fun _ => ⟨b, off, rfl⟩⟩
theorem all_row (s r : S4) (v : Value) (l rest : List UInt8) (h : r = allF s l) (hrest : rest = restF l) (w : World) (hT : Tabs w) (hr : RowB w v l) :
    Calls Tryd.prog 33 #[.agg #[.int .u32 (U s.a), .int .u32 (U s.b), .int .u32 (U s.c), .int .u32 (U s.d)], v] w fun e W' => (∃ u, e = .returned (.tuple #[.agg #[.int .u32 (U r.a), .int .u32 (U r.b), .int .u32 (U r.c), .int .u32 (U r.d)], u]) ∧ RowB W' u rest) ∧ Below w.heap.size w W' := by
  subst h hrest
  obtain ⟨a, c, rfl, hlc, ha⟩ := rowB_parts hr
  exact callsIn_wide.1 (all_in s a l c hlc (fun h => ha (by omega)) w hT hr)
end Go.Proofs.YtimiejahkcjcdaaDoor
