/- all, with the block of what is left. -/
import Derived.RegionTactic
import Derived.BigRegion
import Derived.Deep.QuietTactic
import Derived.BigQuiet
import Derived.Test.YtimiejahkcjcdaaDoorM8
namespace Go.Proofs.YtimiejahkcjcdaaDoor
open Go.RowKit Go.Shelf
attribute [local go_sem] Oper.semAt_some

/-- The block in which a slice lies. -/
def blkOf : Value → Option Nat
  | .slice a _ _ => a.map Addr.block
  | _ => none
set_option maxRecDepth 100000 in
set_option maxHeartbeats 1000000 in
theorem all_in2 (s : S4) (a : Option Addr) (l : List UInt8) (c : Nat) (hlc : l.length ≤ c) (ha : 64 ≤ l.length → ∃ bb off, a = some ⟨bb, off, none⟩) (w : World) (hT : Tabs w) (hr : RowB w (.slice a l.length c) l) :
    CallsIn Fence.wide 9 Tryd.prog 33 #[.agg #[.int .u32 (U s.a), .int .u32 (U s.b), .int .u32 (U s.c), .int .u32 (U s.d)], .slice a l.length c] w fun e W' => (∃ u, e = .returned (.tuple #[sv (allF s l), u]) ∧ RowB W' u (restF l) ∧ blkOf u = a.map Addr.block) ∧ Below w.heap.size w W' := by
  have hro : Fence.wide.round = none := rfl
  have h1 : 1 ≤ 9 := by omega
  refine callsIn_of_wp_marks Tryd.func33 rfl trivial ?_ hro
  simp only [Tryd.ntmps33, List.size_toArray, List.length_cons, List.length_nil, Nat.reduceAdd, Nat.reduceSub, Array.replicate_succ, Array.replicate_zero, List.push_toArray, List.append_toArray, List.nil_append, List.cons_append]
  gi_wp2_with (refine ⟨trivial, ?_⟩; gi_at_call 45; refine (blocks_in 8 _ _ _ _).mono ?_; rintro e w' ⟨rfl, rfl⟩)
  have c2 := Boxed.new ((w.alloc (.cells #[.int .u32 (U s.a), .int .u32 (U s.b), .int .u32 (U s.c), .int .u32 (U s.d)] 30)).alloc (.cells #[.int .u32 0, .int .u32 0, .int .u32 0, .int .u32 0] 30)) 24 (.slice a l.length c)
  have c1 := St4.new (w.alloc (.cells #[.int .u32 (U s.a), .int .u32 (U s.b), .int .u32 (U s.c), .int .u32 (U s.d)] 30)) ⟨0, 0, 0, 0⟩ 30
  have c0 := St4.new w s 30
  simp only [World.size_alloc] at c1 c2
  have hI0 : AllI w l s 0 (((w.alloc (.cells #[.int .u32 (U s.a), .int .u32 (U s.b), .int .u32 (U s.c), .int .u32 (U s.d)] 30)).alloc (.cells #[.int .u32 0, .int .u32 0, .int .u32 0, .int .u32 0] 30)).alloc (.cells #[.slice a l.length c] 24)) := by
    refine ⟨(c0.block (Below.heap_alloc _ _ _ (by simp))).block (Below.heap_alloc _ _ _ (by simp; omega)), ⟨_, c1.block (Below.heap_alloc _ _ _ (by simp))⟩, by simp, (((Below.refl _ w).alloc (Nat.le_refl _) _).alloc (by simp) _).alloc (by simp; omega) _⟩
  have hz : (((w.alloc (.cells #[.int .u32 (U s.a), .int .u32 (U s.b), .int .u32 (U s.c), .int .u32 (U s.d)] 30)).alloc (.cells #[.int .u32 0, .int .u32 0, .int .u32 0, .int .u32 0] 30)).alloc (.cells #[.slice a l.length c] 24)).heap.size = w.heap.size + 3 := by simp
  generalize ((w.alloc (.cells #[.int .u32 (U s.a), .int .u32 (U s.b), .int .u32 (U s.c), .int .u32 (U s.d)] 30)).alloc (.cells #[.int .u32 0, .int .u32 0, .int .u32 0, .int .u32 0] 30)).alloc (.cells #[.slice a l.length c] 24) = W0 at c2 hI0 hz ⊢
  clear c0 c1
  refine rangeN hro h1 (gf := 50) (lb := #[.pointer (some ⟨w.heap.size + 2, 0, none⟩)]) rfl trivial (enters_of Tryd.func50 (by kernel_rfl) rfl)
    (fun k => #[.slice (at64 a k) 64 64]) (l.length / 64) (w.heap.size + 2) (by omega) (blocks_hit 9 (w.heap.size + 2) l.length c (by omega) a hlc ha W0 (by omega) c2) (fun _ => rfl)
    (AllI w l s) (allI_own w l s _ (by omega)) (allI_set w l s) hI0
    (fun k => { tmps := #[.agg #[.int .u32 (U s.a), .int .u32 (U s.b), .int .u32 (U s.c), .int .u32 (U s.d)], .slice a l.length c, .pointer (some ⟨w.heap.size, 0, none⟩), undef, .pointer (some ⟨w.heap.size + 1, 0, none⟩), .slice none 0 0, .slice (at64 a k) 64 64, .slice a l.length c, .func (.func 50) #[] #[.pointer (some ⟨w.heap.size + 1 + 1, 0, none⟩)], .slice (at64 a k) 64 64, undef, undef, undef, undef, undef, undef, undef, undef, undef, undef], defers := [] }) ?assign ?body ?done
  case assign =>
    intro l x W K hK
    gi_wp2
    exact hK
  case body =>
    rintro lp k W ⟨⟨⟨e0, e1, e2, e3⟩, ⟨f0, f1, f2, f3⟩⟩, ⟨r, hr1⟩, hsz, hB⟩ hk
    obtain ⟨bb, off, rfl⟩ := ha (by omega)
    obtain ⟨s2, hs2⟩ : ∃ s2, Hid (s2 = allK l s k) := ⟨_, rfl⟩
    obtain ⟨s3, hs3⟩ : ∃ s3, Hid (s3 = stepF s2 ((l.drop (64 * k)).take 64)) := ⟨_, rfl⟩
    rw [← hs2.out] at e0 e1 e2 e3
    have HS := Lib.hid (show St4 W w.heap.size s2 from ⟨⟨e0, e1, e2, e3⟩, ⟨f0, f1, f2, f3⟩⟩)
    have hcall := Lib.hid (step_to s2 s3 _ _ (chunk_len hk) hs3.out W (hT.on hB) (chunk_row (hr.on hB) hk))
    clear hr hT
    show Code.wpIn _ _ _ _ _ { tmps := #[_, _, _, _, _, _, .slice (some ⟨bb, off + 64 * k, none⟩) 64 64, _, _, .slice (some ⟨bb, off + 64 * k, none⟩) 64 64, _, _, _, _, _, _, _, _, _, _], defers := [] } _
    gi_wp2_with (refine ⟨trivial, ?_⟩; gi_at_call 32; refine (CallsIn.inRound lp (callsIn_wide.2 hcall.out)).mono ?_; rintro e w1 ⟨rfl, hb1⟩; have g4 := HS.out.block (hb1.block w.heap.size (by omega)); have HG := Lib.hid g4; obtain ⟨⟨e0, e1, e2, e3⟩, ⟨f0, f1, f2, f3⟩⟩ := g4)
    exact allI_step hs2.out hs3.out hr1 hsz hB hb1 HG.out
  case done =>
    rintro D W hD ⟨h4, ⟨r, hr1⟩, hsz, hB⟩ hK
    obtain ⟨sF, hsF⟩ : ∃ x, Hid (x = allF s l) := ⟨_, rfl⟩
    replace h4 : St4 W w.heap.size sF := by rw [hsF.out]; exact h4
    obtain ⟨⟨e0, e1, e2, e3⟩, ⟨f0, f1, f2, f3⟩⟩ := h4
    obtain ⟨⟨e4, e5, e6, e7⟩, ⟨f4, f5, f6, f7⟩⟩ := hr1
    clear hT ha hI0
    have hr' := hr
    rcases hr' with ⟨a', c', hac, hv, hl⟩ | ⟨b, off, cap, hv, hlt, h1, h2, hc⟩
    · simp only [Value.slice.injEq] at hv; obtain ⟨rfl, hl0, rfl⟩ := hv
      have hR := Lib.hid (show RowB w (.slice a 0 c) (restF l) from .inl ⟨a, c, hac, rfl, by rw [restF, List.length_eq_zero_iff.1 hl0]; rfl⟩)
      clear hr
      rw [hl0] at hlc ⊢
      gi_wp2
      refine wpIn_wide.2 ?_
      go_region
      have hx := setAll_drew sF ⟨⟨e4, e5, e6, e7⟩, ⟨f4, f5, f6, f7⟩⟩ (D := D) hK (by omega) (by omega) hB
      show Exit.then _ _ _ _ (St4.setAll W (w.heap.size + 1) sF).drew
      generalize (St4.setAll W (w.heap.size + 1) sF).drew = W5 at hx ⊢
      clear e0 e1 e2 e3 f0 f1 f2 f3 e4 e5 e6 e7 f4 f5 f6 f7
      obtain ⟨hK5, ⟨⟨e0, e1, e2, e3⟩, _⟩, hB5⟩ := hx
      replace hB5 := Lib.hid hB5
      gi_wp2
      refine ⟨by simp, .inl ⟨_, _, rfl, run_takeDeferred hK5, ?_⟩⟩
      exact ⟨.tuple #[.agg #[.int .u32 (U sF.a), .int .u32 (U sF.b), .int .u32 (U sF.c), .int .u32 (U sF.d)], .slice a 0 c], by simp [results, Tryd.results33, go_sem, e0, e1, e2, e3], ⟨_, by rw [← hsF.out]; rfl, hR.out.on hB5.out, rfl⟩, hB5.out⟩
    · simp only [Value.slice.injEq] at hv; obtain ⟨rfl, _, rfl⟩ := hv
      have hR := Lib.hid (rest_row hr hlc h2)
      clear hr hc
      replace hB := Lib.hid hB
      clear c2 h1
      obtain ⟨n, hn⟩ : ∃ n, Hid (l.length = n) := ⟨_, rfl⟩
      rw [hn.out] at hlc hR ⊢
      obtain ⟨q, hq⟩ : ∃ q, Hid (n / 64 * 64 = q) := ⟨_, rfl⟩
      rw [hq.out] at hR
      have hqn : q ≤ n := by have := hq.out; omega
      have hn63 : n ≤ 9223372036854775807 := by unfold maxLen at h2; omega
      have d1 : (n : Int) / 64 * 64 = q := by have := hq.out; omega
      gi_wp2
      refine wpIn_wide.2 ?_
      go_region
      have haR : Hid ((if c = q then some (⟨b, off, none⟩ : Addr) else some ⟨b, off + q, none⟩).map Addr.block = (some (⟨b, off, none⟩ : Addr)).map Addr.block) := by show _ = _; split <;> rfl
      generalize (if c = q then some (⟨b, off, none⟩ : Addr) else some ⟨b, off + q, none⟩) = aR at hR haR ⊢
      have hx := setAll_drew sF ⟨⟨e4, e5, e6, e7⟩, ⟨f4, f5, f6, f7⟩⟩ (D := D) hK (by omega) (by omega) hB.out
      show Exit.then _ _ _ _ (St4.setAll W (w.heap.size + 1) sF).drew
      generalize (St4.setAll W (w.heap.size + 1) sF).drew = W5 at hx ⊢
      clear e0 e1 e2 e3 f0 f1 f2 f3 e4 e5 e6 e7 f4 f5 f6 f7
      obtain ⟨hK5, ⟨⟨e0, e1, e2, e3⟩, _⟩, hB5⟩ := hx
      replace hB5 := Lib.hid hB5
      gi_wp2
      refine ⟨by simp, .inl ⟨_, _, rfl, run_takeDeferred hK5, ?_⟩⟩
      exact ⟨.tuple #[.agg #[.int .u32 (U sF.a), .int .u32 (U sF.b), .int .u32 (U sF.c), .int .u32 (U sF.d)], .slice aR (n - q) (c - q)], by simp [results, Tryd.results33, go_sem, e0, e1, e2, e3], ⟨_, by rw [← hsF.out]; rfl, hR.out.on hB5.out, haR.out⟩, hB5.out⟩
theorem all_row2 (s r : S4) (v : Value) (l rest : List UInt8) (h : r = allF s l) (hrest : rest = restF l) (w : World) (hT : Tabs w) (hr : RowB w v l) :
    Calls Tryd.prog 33 #[.agg #[.int .u32 (U s.a), .int .u32 (U s.b), .int .u32 (U s.c), .int .u32 (U s.d)], v] w fun e W' => (∃ u, e = .returned (.tuple #[.agg #[.int .u32 (U r.a), .int .u32 (U r.b), .int .u32 (U r.c), .int .u32 (U r.d)], u]) ∧ RowB W' u rest ∧ blkOf u = blkOf v) ∧ Below w.heap.size w W' := by
  subst h hrest
  obtain ⟨a, c, rfl, hlc, ha⟩ := rowB_parts hr
  exact callsIn_wide.1 (all_in2 s a l c hlc (fun h => ha (by omega)) w hT hr)
end Go.Proofs.YtimiejahkcjcdaaDoor
