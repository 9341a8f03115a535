/- The digest's Write. -/
import Derived.Test.YtimiejahkcjcdaaDoorM33
import Derived.Test.YtimiejahkcjcdaaDoorM8b
import Derived.Test.YtimiejahkcjcdaaDoorM21
import Derived.Deep.CutRange
import Derived.Deep.DeepCutAuto
import Derived.Deep.RegionHeld3
namespace Go.Proofs.YtimiejahkcjcdaaDoor
open Go.RowKit

theorem row_only {w w' : World} {D : Nat} {v : Value} {l : List UInt8} (h : RowB w v l) (hv : blkOf v ≠ some D) (ho : Only D w w') : RowB w' v l := by
  rcases h with h | ⟨b, o, cap, rfl, hlt, h1, h2, hc⟩
  · exact .inl h
  · have hb : b ≠ D := fun e => hv (by rw [e]; rfl)
    exact .inr ⟨b, o, cap, rfl, Nat.lt_of_lt_of_le hlt ho.1.size, h1, h2, fun i hi => (World.cell?_of_block (w := w) (ho.2 b hlt hb)).trans (hc i hi)⟩
theorem row_only2 {w w' : World} {D : Nat} {v : Value} {l : List UInt8} (h : RowB w v l) (hv : l = [] ∨ blkOf v ≠ some D) (ho : Only D w w') : RowB w' v l := by
  rcases hv with rfl | hv
  · rcases h with h | ⟨b, o, cap, rfl, _⟩
    · exact .inl h
    · exact .inl ⟨some ⟨b, o, none⟩, cap, (fun e => by cases e), rfl, rfl⟩
  · exact row_only h hv ho
def ZA : Obj := .cells #[.int .u32 0, .int .u32 0, .int .u32 0, .int .u32 0] 30
def OE : Obj := .cells #[] 5
theorem own_ne {w : World} {base n NA : Nat} {v : Value} {xs : List Value} (h : w.ownsRow base 5 1 v n xs) (hA : w.heap[NA]? = some ZA) : v.ownBlock ≠ some NA := by
  rcases h.2 with ⟨rfl, _⟩ | ⟨g, cap, cur, rfl, _, hg, _⟩
  · simp [Value.ownBlock]
  · intro e
    have : g = NA := by simpa [Value.ownBlock] using e
    subst this
    rw [hg] at hA
    have := Option.some.inj hA
    simp [ZA] at this
theorem own_blk {w : World} {base n : Nat} {v : Value} {xs : List Value} (h : w.ownsRow base 5 1 v n xs) : blkOf v = v.ownBlock := by
  rcases h.2 with ⟨rfl, _⟩ | ⟨g, cap, cur, rfl, _, hg, _⟩ <;> rfl
theorem arm_app2 {P : Program} {ops : Array Oper} {o : Oper} {a : Act} {w : World} {K : Act → World → Prop} {Q : Exit → Act → World → Prop} {E : Prop} (hgd : o.guard = none) (s x : Operand) (t : TypeId)
    (ho : o.op = .call { callee := .builtin .append, args := #[s, x], argTypes := #[t, t] })
    (base : Nat) (e : TypeId) (z : Value) (bytes : Nat) (ht : P.underlying t = some (.slice e)) (hinfo : (P.info? e).map (fun i => (i.zero, i.size, i.bytes)) = some (some z, 1, bytes)) (hzs : z.cells.size = 1)
    (v : Value) (n : Nat) (xs : List Value) (hs : a.eval s = v) (u : Value) (news : List Value) (hx : a.eval x = u) (hown : w.ownsRow base e 1 v n xs) (hrow : Row w u news) (hone : ∀ c ∈ news, c.oneCell' = true)
    (hb1 : 1 ≤ bytes) (hbytes : (n + news.length) * bytes ≤ 140737488355328) (hbase : base ≤ w.heap.size)
    (h : ∀ v' w', w'.ownsRow base e 1 v' (n + news.length) (xs ++ news) → Below base w w' → w.heap.size ≤ w'.heap.size → (∀ row, v.ownBlock ≠ some row → row < w.heap.size → w'.heap[row]? = w.heap[row]?) → K (a.put o.dst v') w') :
    if Region.wanted o (yielded ops a.tmps) = true then Oper.wp P o a w K Q else E := by
  have hw : Region.wanted o (yielded ops a.tmps) = true := by simp [Region.wanted, hgd]
  rw [if_pos hw]
  obtain ⟨i, hi, hz0, hz1, hz2⟩ := info_parts hinfo
  have hn : n + news.length ≤ (n + news.length) * bytes := Nat.le_mul_of_pos_right _ hb1
  rcases hrow with ⟨a', c', hac, rfl, rfl⟩ | ⟨b, off, cap, rfl, hlt, h1, h2, hc⟩
  · cases a' with
    | none =>
      rw [hac rfl] at hx
      have hrun := run_append_owned_none (P := P) (w := w) base t o.type e i 1 ht hi v n xs hown
      unfold Oper.wp
      simp [execOp, ho, resolve, invoke, builtin, hs, hx, hrun, Result.andThen]
      exact h v w (by simpa using hown) (Below.refl _ _) (Nat.le_refl _) (fun _ _ _ => rfl)
    | some ad =>
      refine wp_append_own w s x t ho base e i z 1 bytes ht hi hz0 hz1 hz2 hzs (by decide) v n xs hs hown ad 0 c' [] hx (by simp) (by intro j c hj; simp at hj) hone (by unfold maxLen; simp at hn hbytes; omega) hbytes hbase ?_
      intro v' w' hown' hg hnil
      exact h v' w' hown' ((Below.refl base w).grown hg hbase (fun k e' => (hown.lt k e').1)) hg.size (fun row hrow hlt => hg.block row hlt (fun e' => hrow e'.symm))
  · refine wp_append_own w s x t ho base e i z 1 bytes ht hi hz0 hz1 hz2 hzs (by decide) v n xs hs hown ⟨b, off, none⟩ news.length cap news hx (by omega) ?_ hone (by unfold maxLen; omega) hbytes hbase ?_
    · intro j c hj
      obtain ⟨hj', rfl⟩ := List.getElem?_eq_some_iff.1 hj
      rw [show (⟨b, off, none⟩ : Addr).add j = ⟨b, off + j, none⟩ by simp [Addr.add]]
      exact hc j hj'
    · intro v' w' hown' hg hnil
      exact h v' w' hown' ((Below.refl base w).grown hg hbase (fun k e' => (hown.lt k e').1)) hg.size (fun row hrow hlt => hg.block row hlt (fun e' => hrow e'.symm))
theorem dig_n {W : World} {D n : Nat} {s : S4} {v : Value} (m : Nat) (h : Dig W D s v n) : Dig (W.setCell ⟨D, 5, none⟩ (.int .i64 (m : Int))) D s v m := by
  obtain ⟨⟨⟨a, b, c, d⟩, ⟨e, f, g, i⟩⟩, ⟨j, k⟩, ⟨l, m⟩⟩ := h
  refine ⟨⟨⟨?_, ?_, ?_, ?_⟩, ?_⟩, ⟨?_, ?_⟩, ?_⟩ <;> simp [go_sem, a, b, c, d, e, f, g, i, j, k, l, m]
theorem tabs_only {w w' : World} {D : Nat} (h : Tabs w) (hD : 1 < D) (ho : Only D w w') : Tabs w' := by
  have hl := h.lt
  obtain ⟨⟨t, fr, h0⟩, ⟨cs, t1, fr1, h1⟩, h2⟩ := h
  exact ⟨⟨t, fr, (ho.2 0 (by omega) (by omega)).trans h0⟩, ⟨cs, t1, fr1, (ho.2 1 hl (by omega)).trans h1⟩, fun i hi => (World.cell?_of_block (w := w) (ho.2 1 hl (by omega))).trans (h2 i hi)⟩
theorem st4_ZA {w : World} {N : Nat} (h : w.heap[N]? = some ZA) : St4 w N SZ := by
  refine ⟨⟨?_, ?_, ?_, ?_⟩, ⟨?_, ?_, ?_, ?_⟩⟩
  · exact cell_heap h
  · exact cell_heap h
  · exact cell_heap h
  · exact cell_heap h
  all_goals simp [World.frozen?, h, ZA]
theorem heap4d {A : World} {b N : Nat} {x0 x1 x2 x3 : Value} (h : b ≠ N) : ((((A.setCell ⟨N, 0, none⟩ x0).setCell ⟨N, 1, none⟩ x1).setCell ⟨N, 2, none⟩ x2).setCell ⟨N, 3, none⟩ x3).heap[b]? = A.heap[b]? :=
  (((Below.heap_setCell _ ⟨N, 3, none⟩ _ b h).trans (Below.heap_setCell _ ⟨N, 2, none⟩ _ b h)).trans (Below.heap_setCell _ ⟨N, 1, none⟩ _ b h)).trans (Below.heap_setCell _ ⟨N, 0, none⟩ _ b h)
theorem keepD {W1 W' : World} {D m : Nat} {s : S4} {v : Value} (hD : D < W1.heap.size) (h : Dig W1 D s v m) (hb : Below W1.heap.size W1 W') :
    (W'.cell? ⟨D, 0, none⟩ = some (.int .u32 (U s.a)) ∧ W'.cell? ⟨D, 1, none⟩ = some (.int .u32 (U s.b)) ∧ W'.cell? ⟨D, 2, none⟩ = some (.int .u32 (U s.c)) ∧ W'.cell? ⟨D, 3, none⟩ = some (.int .u32 (U s.d))) ∧ W'.cell? ⟨D, 4, none⟩ = some v :=
  ⟨(h.block (hb.block D hD)).1.1, (h.block (hb.block D hD)).2.1.1⟩
theorem keepDA {W1 W' : World} {D m : Nat} {s : S4} {v : Value} (hD : D < W1.heap.size) (h : Dig W1 D s v m) (hb : Below W1.heap.size W1 W') (o : Obj) :
    ((W'.alloc o).cell? ⟨D, 0, none⟩ = some (.int .u32 (U s.a)) ∧ (W'.alloc o).cell? ⟨D, 1, none⟩ = some (.int .u32 (U s.b)) ∧ (W'.alloc o).cell? ⟨D, 2, none⟩ = some (.int .u32 (U s.c)) ∧ (W'.alloc o).cell? ⟨D, 3, none⟩ = some (.int .u32 (U s.d))) ∧ (W'.alloc o).cell? ⟨D, 4, none⟩ = some v :=
  keepD hD h (hb.alloc hb.size o)
theorem keepDS {W1 W' : World} {D m N : Nat} {s : S4} {v x0 x1 x2 x3 : Value} (hD : D < W1.heap.size) (h : Dig W1 D s v m) (hb : Below W1.heap.size W1 W') (hN : D ≠ N) :
    (((((W'.setCell ⟨N, 0, none⟩ x0).setCell ⟨N, 1, none⟩ x1).setCell ⟨N, 2, none⟩ x2).setCell ⟨N, 3, none⟩ x3).cell? ⟨D, 0, none⟩ = some (.int .u32 (U s.a)) ∧ ((((W'.setCell ⟨N, 0, none⟩ x0).setCell ⟨N, 1, none⟩ x1).setCell ⟨N, 2, none⟩ x2).setCell ⟨N, 3, none⟩ x3).cell? ⟨D, 1, none⟩ = some (.int .u32 (U s.b)) ∧
      ((((W'.setCell ⟨N, 0, none⟩ x0).setCell ⟨N, 1, none⟩ x1).setCell ⟨N, 2, none⟩ x2).setCell ⟨N, 3, none⟩ x3).cell? ⟨D, 2, none⟩ = some (.int .u32 (U s.c)) ∧ ((((W'.setCell ⟨N, 0, none⟩ x0).setCell ⟨N, 1, none⟩ x1).setCell ⟨N, 2, none⟩ x2).setCell ⟨N, 3, none⟩ x3).cell? ⟨D, 3, none⟩ = some (.int .u32 (U s.d))) ∧
      ((((W'.setCell ⟨N, 0, none⟩ x0).setCell ⟨N, 1, none⟩ x1).setCell ⟨N, 2, none⟩ x2).setCell ⟨N, 3, none⟩ x3).cell? ⟨D, 4, none⟩ = some v := by
  have hh : ((((W'.setCell ⟨N, 0, none⟩ x0).setCell ⟨N, 1, none⟩ x1).setCell ⟨N, 2, none⟩ x2).setCell ⟨N, 3, none⟩ x3).heap[D]? = W1.heap[D]? := (heap4d hN).trans (hb.block D hD)
  generalize (((W'.setCell ⟨N, 0, none⟩ x0).setCell ⟨N, 1, none⟩ x1).setCell ⟨N, 2, none⟩ x2).setCell ⟨N, 3, none⟩ x3 = B at hh ⊢
  exact ⟨(h.block hh).1.1, (h.block hh).2.1.1⟩
def DigSet5 (W : World) (D : Nat) (s : S4) (v : Value) : World := (((((W.setCell ⟨D, 0, none⟩ (.int .u32 (U s.a))).setCell ⟨D, 1, none⟩ (.int .u32 (U s.b))).setCell ⟨D, 2, none⟩ (.int .u32 (U s.c))).setCell ⟨D, 3, none⟩ (.int .u32 (U s.d))).setCell ⟨D, 4, none⟩ v)
theorem DigSet5.other {W : World} {D k : Nat} {s : S4} {v : Value} (h : k ≠ D) : (DigSet5 W D s v).heap[k]? = W.heap[k]? :=
  ((((Below.heap_setCell _ ⟨D, 4, none⟩ _ k h).trans (Below.heap_setCell _ ⟨D, 3, none⟩ _ k h)).trans (Below.heap_setCell _ ⟨D, 2, none⟩ _ k h)).trans (Below.heap_setCell _ ⟨D, 1, none⟩ _ k h)).trans (Below.heap_setCell _ ⟨D, 0, none⟩ _ k h)
theorem Dig.set5 {W : World} {D : Nat} {s0 : S4} {v0 : Value} {n : Nat} (h : Dig W D s0 v0 n) (s : S4) (v : Value) : Dig (DigSet5 W D s v) D s v n := by
  obtain ⟨⟨⟨a, b, c, d⟩, ⟨e, f, g, i⟩⟩, ⟨j, k⟩, ⟨l, m⟩⟩ := h
  refine ⟨⟨⟨?_, ?_, ?_, ?_⟩, ?_⟩, ⟨?_, ?_⟩, ?_⟩ <;> simp [DigSet5, go_sem, a, b, c, d, e, f, g, i, j, k, l, m]
theorem Only.set5 {D : Nat} {a b : World} (h : Only D a b) (s : S4) (v : Value) : Only D a (DigSet5 b D s v) :=
  ⟨((((h.1.setCell (p := ⟨D, 0, none⟩) (by simp) _).setCell (p := ⟨D, 1, none⟩) (by simp) _).setCell (p := ⟨D, 2, none⟩) (by simp) _).setCell (p := ⟨D, 3, none⟩) (by simp) _).setCell (p := ⟨D, 4, none⟩) (by simp) _,
   fun k hk hn => (DigSet5.other hn).trans (h.2 k hk hn)⟩
/-- What Write leaves of the region that takes the blocks. -/
def WrtP (W1 : World) (D : Nat) (s s2 : S4) (v : Value) (n : Nat) (rl : List UInt8) (NA : Nat) (u : Value) (wx : World) : Prop :=
  St4 wx NA s2 ∧ NA ≠ D ∧ RowB wx u rl ∧ (∀ g, blkOf u = some g → W1.heap.size ≤ g) ∧ Dig wx D s v n ∧ Below W1.heap.size W1 wx
theorem wrtA {W1 W4 : World} {D m n3 : Nat} {s s2 : S4} {v v3 u : Value} {rl : List UInt8} {xs : List Value} (hD : D < W1.heap.size) (h : Dig W1 D s v m) {W3 : World} (ho : W3.ownsRow W1.heap.size 5 1 v3 n3 xs) (hu : RowB W4 u rl) (hub : blkOf u = blkOf v3) (hb : Below W1.heap.size W1 W4) :
    WrtP W1 D s s2 v m rl W4.heap.size u (W4.alloc (.cells #[.int .u32 (U s2.a), .int .u32 (U s2.b), .int .u32 (U s2.c), .int .u32 (U s2.d)] 30)) := by
  have hs := hb.size
  refine ⟨St4.new W4 s2 30, by omega, hu.on ((Below.refl _ _).alloc (Nat.le_refl _) _), fun g hg => ?_, h.block ((hb.alloc hs _).block D hD), hb.alloc hs _⟩
  rw [hub, own_blk ho] at hg
  exact (ho.lt g hg).1
theorem wrtB {W1 W4 : World} {D m n3 N : Nat} {s s2 : S4} {v v3 u : Value} {rl : List UInt8} {xs : List Value} (hD : D < W1.heap.size) (h : Dig W1 D s v m) {W3 : World} (ho : W3.ownsRow W1.heap.size 5 1 v3 n3 xs) (hA : W4.heap[N]? = some ZA) (hN : v3.ownBlock ≠ some N) (hu : RowB W4 u rl) (hub : blkOf u = blkOf v3) (hb : Below W1.heap.size W1 W4) (hN2 : W1.heap.size ≤ N) :
    WrtP W1 D s s2 v m rl N u (((((W4.setCell ⟨N, 0, none⟩ (.int .u32 (U s2.a))).setCell ⟨N, 1, none⟩ (.int .u32 (U s2.b))).setCell ⟨N, 2, none⟩ (.int .u32 (U s2.c))).setCell ⟨N, 3, none⟩ (.int .u32 (U s2.d)))) := by
  show WrtP W1 D s s2 v m rl N u (St4.setAll W4 N s2)
  have hbl : blkOf u ≠ some N := by rw [hub, own_blk ho]; exact hN
  have hO : Only N W4 (St4.setAll W4 N s2) := ⟨setAll_below s2 (Below.refl _ _) (by omega), fun k _ hk => setAll_other s2 hk⟩
  refine ⟨(st4_ZA hA).set s2, by omega, row_only hu hbl hO, fun g hg => ?_, h.block ((setAll_other s2 (by omega)).trans (hb.block D hD)), setAll_below s2 hb hN2⟩
  rw [hub, own_blk ho] at hg
  exact (ho.lt g hg).1
set_option maxRecDepth 100000 in
set_option maxHeartbeats 4000000 in
theorem write_reg (D n : Nat) (s s2 : S4) (v bv : Value) (rest b : List UInt8) (hnb : n + b.length ≤ 1099511627776) (hrl : rest.length ≤ 1099511627776) (hs2 : s2 = allF s (rest ++ b)) (w : World) (hD : D < w.heap.size) (h : Dig w D s v n) (hs : 0 < n ∨ s ≠ SZ) (hv : RowB w v rest) (hvD : blkOf v ≠ some D) (hb : RowB w bv b) (hbD : b = [] ∨ blkOf bv ≠ some D) (hT : Tabs w) (hD2 : 1 < D) :
    Calls Tryd.prog 27 #[.pointer (some ⟨D, 0, none⟩), bv] w fun e w' => e = .returned (.int .i64 0) ∧ (∃ u, Dig w' D s2 u (n + b.length) ∧ RowB w' u (restF (rest ++ b)) ∧ ∀ g, blkOf u = some g → w.heap.size ≤ g) ∧ Only D w w' := by
  obtain ⟨ba, bc, rfl⟩ := rowB_len hb
  have t1 : decide (1099511627776 - (n : Int) < (b.length : Int)) = false := decide_eq_false (by omega)
  replace hs := Lib.hid hs
  replace hs2 := Lib.hid hs2
  have H := Lib.hid h
  obtain ⟨⟨b5, f5⟩⟩ := And.intro h.2.2 trivial
  clear h
  replace hv := Lib.hid hv
  replace hb := Lib.hid hb
  replace hT := Lib.hid hT
  go_enter Tryd.func27, Tryd.ntmps27
  go_wp2_with fail
  refine (some_any D n s v _ H.out hs.out).mono ?_; rintro e w1 ⟨rfl, rfl⟩
  go_upto_region 6 with (fail)
  obtain ⟨m, hm⟩ : ∃ m : Nat, m = n + b.length := ⟨_, rfl⟩
  have hdm : (n : Int) + (b.length : Int) = (m : Int) := by omega
  rw [hdm]
  clear hdm t1 b5 f5
  replace hm := Lib.hid hm
  have hO1 : Only D w (w.setCell ⟨D, 5, none⟩ (.int .i64 (m : Int))) := ⟨(Below.refl 0 w).setCell (p := ⟨D, 5, none⟩) (by simp) _, fun k _ hn => Below.heap_setCell _ _ _ _ hn⟩
  have H1 := Lib.hid (dig_n m H.out)
  have hv1 := Lib.hid (row_only hv.out hvD hO1)
  have hb1 := Lib.hid (row_only2 hb.out hbD hO1)
  have hT1 := Lib.hid (tabs_only hT.out hD2 hO1)
  have hsz1 : (w.setCell ⟨D, 5, none⟩ (.int .i64 (m : Int))).heap.size = w.heap.size := by simp
  have hO := Lib.hid hO1
  clear H hv hb hT hO1
  generalize w.setCell ⟨D, 5, none⟩ (.int .i64 (m : Int)) = W1 at H1 hv1 hb1 hT1 hsz1 hO ⊢
  have hDW : D < W1.heap.size := by omega
  replace hsz1 := Lib.hid hsz1
  have lr : Hid ((rest.map enc8).length = rest.length) := List.length_map ..
  have lb : Hid ((b.map enc8).length = b.length) := List.length_map ..
  go_cut [5, 6] (fun s5 s6 wx => ∃ NA u, s5 = .pointer (some ⟨NA, 0, none⟩) ∧ s6 = u ∧ Hid (WrtP W1 D s s2 v m (restF (rest ++ b)) NA u wx))
  case first =>
    obtain ⟨⟨c0, c1, c2, c3⟩, _⟩ := H1.out.1
    obtain ⟨c4, _⟩ := H1.out.2.1
    have O1 : Hid ((W1.alloc OE).drew.ownsRow W1.heap.size 5 1 (.slice (some ⟨W1.heap.size, 0, none⟩) 0 0) 0 []) := own0 W1 W1.heap.size (Nat.le_refl _)
    have O2 : Hid (((W1.alloc ZA).alloc OE).drew.ownsRow W1.heap.size 5 1 (.slice (some ⟨W1.heap.size + 1, 0, none⟩) 0 0) 0 []) := by
      have := own0 (W1.alloc ZA) W1.heap.size (by simp)
      rw [World.size_alloc] at this
      exact this
    have O3 : Hid (((W1.alloc OE).alloc ZA).drew.ownsRow W1.heap.size 5 1 (.slice (some ⟨W1.heap.size, 0, none⟩) 0 0) 0 []) := (own0 W1 W1.heap.size (Nat.le_refl _)).alloc _
    have B1 : Hid (Below W1.heap.size W1 (W1.alloc OE).drew) := ((Below.refl _ _).alloc (Nat.le_refl _) _).drew
    have B2 : Hid (Below W1.heap.size W1 ((W1.alloc ZA).alloc OE).drew) := (((Below.refl _ _).alloc (Nat.le_refl _) _).alloc (by simp) _).drew
    have B3 : Hid (Below W1.heap.size W1 ((W1.alloc OE).alloc ZA).drew) := (((Below.refl _ _).alloc (Nat.le_refl _) _).alloc (by simp) _).drew
    have A2 : Hid (((W1.alloc ZA).alloc OE).drew.heap[W1.heap.size]? = some ZA) := heap_in _ _ _ _ (heap_at _ _ _ rfl)
    have A3 : Hid (((W1.alloc OE).alloc ZA).drew.heap[W1.heap.size + 1]? = some ZA) := heap_at _ _ _ (by simp)
    go_region_held3 (fun w' => (w'.cell? ⟨D, 0, none⟩ = some (.int .u32 (U s.a)) ∧ w'.cell? ⟨D, 1, none⟩ = some (.int .u32 (U s.b)) ∧ w'.cell? ⟨D, 2, none⟩ = some (.int .u32 (U s.c)) ∧ w'.cell? ⟨D, 3, none⟩ = some (.int .u32 (U s.d))) ∧ w'.cell? ⟨D, 4, none⟩ = some v)
      (first
        | go_keep
        | with_reducible exact keepD hDW H1.out hb4
        | with_reducible exact keepDA hDW H1.out hb4 _
        | (with_reducible refine keepDS hDW H1.out hb4 ?_; omega)
        | with_reducible exact keepD hDW H1.out hb3
        | with_reducible exact keepDA hDW H1.out hb3 _
        | with_reducible exact keepD hDW H1.out hb2
        | with_reducible exact keepDA hDW H1.out hb2 _)
      (first
        | (refine arm_app2 rfl (.tmp 32) (.tmp 36) 24 rfl W1.heap.size 5 (.int .u8 0) 1 Tryd.underlying24 info5 rfl _ 0 [] rfl v (rest.map enc8) rfl O2.out (hv1.out.on B2.out) (enc8_all rest) (by omega) (by rw [lr.out]; omega) (by simp; omega) ?_; intro v2 W2 hown2' hb2' hs2' hr2'; have hown2 := Lib.hid hown2'; have hb2 := B2.out.trans hb2'; have sz2 := hb2.size; have AX : Hid (W2.heap[W1.heap.size]? = some ZA) := (hr2' W1.heap.size (own_ne O2.out A2.out) (by simp; omega)).trans A2.out; clear hown2' hb2' hr2')
        | (refine arm_app2 rfl (.tmp 32) (.tmp 36) 24 rfl W1.heap.size 5 (.int .u8 0) 1 Tryd.underlying24 info5 rfl _ 0 [] rfl v (rest.map enc8) rfl O3.out (hv1.out.on B3.out) (enc8_all rest) (by omega) (by rw [lr.out]; omega) (by simp; omega) ?_; intro v2 W2 hown2' hb2' hs2' hr2'; have hown2 := Lib.hid hown2'; have hb2 := B3.out.trans hb2'; have sz2 := hb2.size; have AX : Hid (W2.heap[W1.heap.size + 1]? = some ZA) := (hr2' (W1.heap.size + 1) (own_ne O3.out A3.out) (by first | (simp; done) | (simp; omega))).trans A3.out; clear hown2' hb2' hr2')
        | (refine arm_app2 rfl (.tmp 32) (.tmp 36) 24 rfl W1.heap.size 5 (.int .u8 0) 1 Tryd.underlying24 info5 rfl _ 0 [] rfl v (rest.map enc8) rfl O1.out (hv1.out.on B1.out) (enc8_all rest) (by omega) (by rw [lr.out]; omega) (by simp) ?_; intro v2 W2 hown2' hb2' hs2' hr2'; have hown2 := Lib.hid hown2'; have hb2 := B1.out.trans hb2'; have sz2 := hb2.size; clear hown2' hb2' hr2')
        | (refine arm_app2 rfl (.tmp 37) (.tmp 38) 24 rfl W1.heap.size 5 (.int .u8 0) 1 Tryd.underlying24 info5 rfl v2 _ _ rfl _ (b.map enc8) rfl hown2.out (hb1.out.on hb2) (enc8_all b) (by omega) (by rw [lr.out, lb.out]; omega) sz2 ?_; intro v3 W3 hown3' hb3' hs3' hr3'; have hown3 := Lib.hid hown3'; have hb3 := hb2.trans hb3'; have sz3 := hb3.size; have AY := Lib.hid ((hr3' _ (own_ne hown2.out AX.out) (Array.getElem?_eq_some_iff.1 AX.out).1).trans AX.out); clear hown3' hb3' hr3')
        | (refine arm_app2 rfl (.tmp 37) (.tmp 38) 24 rfl W1.heap.size 5 (.int .u8 0) 1 Tryd.underlying24 info5 rfl v2 _ _ rfl _ (b.map enc8) rfl (hown2.out.alloc ZA) (hb1.out.on (hb2.alloc sz2 ZA)) (enc8_all b) (by omega) (by rw [lr.out, lb.out]; omega) (by simp; omega) ?_; intro v3 W3 hown3' hb3' hs3' hr3'; have hown3 := Lib.hid hown3'; have hb3 := (hb2.alloc sz2 ZA).trans hb3'; have sz3 := hb3.size; have AY : Hid (W3.heap[W2.heap.size]? = some ZA) := (hr3' W2.heap.size (own_ne (hown2.out.alloc ZA) (heap_at W2 ZA _ rfl)) (by simp)).trans (heap_at W2 ZA _ rfl); clear hown3' hb3' hr3')
        | (refine arm_app2 rfl (.tmp 37) (.tmp 38) 24 rfl W1.heap.size 5 (.int .u8 0) 1 Tryd.underlying24 info5 rfl v2 _ _ rfl _ (b.map enc8) rfl hown2.out (hb1.out.on hb2) (enc8_all b) (by omega) (by rw [lr.out, lb.out]; omega) sz2 ?_; intro v3 W3 hown3' hb3' hs3' hr3'; have hown3 := Lib.hid hown3'; have hb3 := hb2.trans hb3'; have sz3 := hb3.size; clear hown3' hb3' hr3')
        | (go_at_call 33; refine (all_row2 s s2 v3 (rest ++ b) (restF (rest ++ b)) hs2.out rfl _ (hT1.out.on hb3) (row_of3 hown3.out)).mono ?_; rintro e W4 ⟨⟨u, rfl, hu, hub⟩, hb4'⟩; have hb4 := hb3.trans (hb4'.mono sz3); have hu4 := Lib.hid hu; have hub4 := Lib.hid hub; have AZ := Lib.hid ((hb4'.block _ (Array.getElem?_eq_some_iff.1 AY.out).1).trans AY.out); have NZ := Lib.hid (own_ne hown3.out AY.out); obtain ⟨⟨j0, j1, j2, j3⟩, ⟨g0, g1, g2, g3⟩⟩ := st4_ZA AZ.out; clear hb4' hu hub)
        | (go_at_call 33; refine (all_row2 s s2 v3 (rest ++ b) (restF (rest ++ b)) hs2.out rfl _ (hT1.out.on (hb3.alloc sz3 ZA)) (row_of3 (hown3.out.alloc ZA))).mono ?_; rintro e W4 ⟨⟨u, rfl, hu, hub⟩, hb4'⟩; have hb4 := (hb3.alloc sz3 ZA).trans (hb4'.mono (by simp; omega)); have hu4 := Lib.hid hu; have hub4 := Lib.hid hub; have AZ : Hid (W4.heap[W3.heap.size]? = some ZA) := (hb4'.block W3.heap.size (by simp)).trans (heap_at W3 ZA _ rfl); have NZ := Lib.hid (own_ne (hown3.out.alloc ZA) (heap_at W3 ZA _ rfl)); obtain ⟨⟨j0, j1, j2, j3⟩, ⟨g0, g1, g2, g3⟩⟩ := st4_ZA AZ.out; clear hb4' hu hub)
        | (go_at_call 33; refine (all_row2 s s2 v3 (rest ++ b) (restF (rest ++ b)) hs2.out rfl _ (hT1.out.on hb3) (row_of3 hown3.out)).mono ?_; rintro e W4 ⟨⟨u, rfl, hu, hub⟩, hb4'⟩; have hb4 := hb3.trans (hb4'.mono sz3); have hu4 := Lib.hid hu; have hub4 := Lib.hid hub; clear hb4' hu hub))
    all_goals go_wp2_with fail
    all_goals go_meet
    all_goals refine ⟨_, _, rfl, rfl, Lib.hid ?_⟩
    all_goals first
      | with_reducible exact wrtA hDW H1.out hown3.out hu4.out hub4.out hb4
      | (with_reducible refine wrtB hDW H1.out hown3.out AZ.out NZ.out hu4.out hub4.out hb4 ?_; omega)
  case rest =>
    obtain ⟨NA, u, rfl, rfl, hW⟩ := hcut
    obtain ⟨hA, hne, hu, hub, hDg, hB⟩ := hW.out
    obtain ⟨ua, uc, rfl⟩ := rowB_len hu
    replace hu := Lib.hid hu
    replace hub := Lib.hid hub
    have HB := Lib.hid hB
    clear hW hv1 hb1 hT1 H1
    obtain ⟨⟨a0, a1, a2, a3⟩, _⟩ := hA
    obtain ⟨rn, hrn⟩ : ∃ rn, rn = (restF (rest ++ b)).length := ⟨_, rfl⟩
    rw [← hrn] at hu hub ⊢
    replace hrn := Lib.hid hrn
    have HS := Lib.hid (hDg.set5 s2 (.slice ua rn uc))
    have HO := Lib.hid (((hO.out).trans (Only.of_below (D := D) HB.out)).set5 s2 (.slice ua rn uc))
    have hO3 : Only D wc (DigSet5 wc D s2 (.slice ua rn uc)) := (Only.of_below (Below.refl _ _)).set5 s2 _
    have hbl : blkOf (.slice ua rn uc) ≠ some D := fun e => by have := hub.out D e; omega
    have HU := Lib.hid (row_only hu.out hbl hO3)
    obtain ⟨⟨⟨b0, b1, b2, b3⟩, ⟨f0, f1, f2, f3⟩⟩, ⟨b4, f4⟩, ⟨b5, f5⟩⟩ := hDg
    replace hm := hm.out
    clear hB hO3 hu
    go_wp2_with fail
    show bodyPost _ _ _ _ _ (DigSet5 wc D s2 (.slice ua rn uc))
    generalize DigSet5 wc D s2 (.slice ua rn uc) = w2 at HS HO HU ⊢
    go_ret
    exact ⟨rfl, ⟨_, by rw [← hm]; exact HS.out, HU.out, fun g e => by have := hub.out g e; have := hsz1.out; omega⟩, HO.out⟩
end Go.Proofs.YtimiejahkcjcdaaDoor
