/- The reference: Step. -/
import Derived.Test.YtimiejahkcjcdaaDoorM18
import Derived.Deep.RegionLawGrows
import Derived.Deep.RegionHeld3
namespace Go.Proofs.YtimiejahkcjcdaaDoor
open Go.RowKit

theorem step_append_own1 {P : Program} {ops : Array Oper} {o : Oper} {a : Act} {w : World} {K : Act → World → Prop} {Q : Exit → Act → World → Prop} {E : Prop}
    (hg : o.guard = none) (s x : Operand) (t : TypeId) (hop : o.op = Op.call { callee := Callee.builtin Builtin.append, args := #[s, x], argTypes := #[t, t] })
    (e : TypeId) (i : TypeInfo) (z : Value) (bytes : Nat) (h1 : P.underlying t = some (.slice e)) (h2 : P.info? e = some i) (h3 : i.zero = some z) (h4 : i.size = 1) (h5 : i.bytes = bytes) (h6 : z.cells.size = 1)
    (base : Nat) (v : Value) (n : Nat) (xs : List Value) (hs : a.eval s = v) (u : Value) (hown : w.ownsRow base e 1 v n xs) (hx : a.eval x = .slice (some ⟨w.heap.size, 0, none⟩) 1 1) (h1c : u.oneCell' = true)
    (b1 : n + 1 ≤ maxLen) (b2 : (n + 1) * bytes ≤ 140737488355328) (hb : base ≤ w.heap.size)
    (hK : ∀ v' w', w'.ownsRow base e 1 v' (n + 1) (xs ++ [u]) → Below base w w' → w.heap.size ≤ w'.heap.size → (∃ g cap, v' = .slice (some ⟨g, 0, none⟩) (n + 1) cap) → K (a.put o.dst v') w') :
    if Region.wanted o (yielded ops a.tmps) = true then Oper.wp P o a (w.alloc (.cells #[u] e)) K Q else E := by
  have hw : Region.wanted o (yielded ops a.tmps) = true := by simp [Region.wanted, hg]
  rw [if_pos hw]
  obtain ⟨v', w', hrun, r1, r2, _⟩ := run_append_own (P := P) (w.alloc (.cells #[u] e)) base t o.type e i z 1 bytes h1 h2 h3 h4 h5 h6 (by decide) v n xs (hown.alloc _) ⟨w.heap.size, 0, none⟩ 1 1 [u] rfl (cell_one_new _ _ _) (by intro u' hu'; simp at hu'; subst hu'; exact h1c) b1 b2 (by simp; omega)
  unfold Oper.wp
  simp [execOp, hop, resolve, invoke, builtin, hs, hx, hrun, Result.andThen]
  refine hK v' w' r1 ?_ (by have := r2.size; simp at this; omega) ?_
  · refine ((Below.refl base w).alloc hb _).grown r2 (by simp; omega) (fun k e' => ?_)
    exact ((hown.alloc (.cells #[u] e)).lt k e').1
  · rcases r1.2 with ⟨rfl, h0⟩ | ⟨g, cap, cur, rfl, _⟩
    · omega
    · exact ⟨g, cap, rfl⟩
theorem ownsDrew {w : World} {base e n : Nat} {v : Value} {xs : List Value} (h : w.ownsRow base e 1 v n xs) : w.drew.ownsRow base e 1 v n xs := h
theorem info28 : (Tryd.prog.info? 28).map (fun i => (i.zero, i.size, i.bytes)) = some (some (.int .u32 0), 1, 4) := by kernel_rfl
def encU (x : BitVec 32) : Value := .int .u32 (U x)
def wl (l : List UInt8) (j : Nat) : List Value := (List.range j).map fun i => encU (m4 l i)
theorem wl_succ (l : List UInt8) (j : Nat) : wl l (j + 1) = wl l j ++ [encU (m4 l j)] := by simp [wl, List.range_succ]
theorem wl_len (l : List UInt8) (j : Nat) : (wl l j).length = j := by simp [wl]
def RW (wr : World) : World := (((((wr.alloc (.cells KsV 28)).alloc (.cells #[.int .i64 7, .int .i64 12, .int .i64 17, .int .i64 22] 3)).alloc (.cells #[.int .i64 5, .int .i64 9, .int .i64 14, .int .i64 20] 3)).alloc (.cells #[.int .i64 4, .int .i64 11, .int .i64 16, .int .i64 23] 3)).alloc (.cells #[.int .i64 6, .int .i64 10, .int .i64 15, .int .i64 21] 3)).alloc
  (.cells #[.slice (some ⟨wr.heap.size + 1, 0, none⟩) 4 4, .slice (some ⟨wr.heap.size + 1 + 1, 0, none⟩) 4 4, .slice (some ⟨wr.heap.size + 1 + 1 + 1, 0, none⟩) 4 4, .slice (some ⟨wr.heap.size + 1 + 1 + 1 + 1, 0, none⟩) 4 4] 64)
theorem RW_below (wr : World) : Below wr.heap.size wr (RW wr) :=
  (((((((Below.refl wr.heap.size wr).alloc (Nat.le_refl _) _).alloc (by simp) _).alloc (by simp; omega) _).alloc (by simp; omega) _).alloc (by simp; omega) _).alloc (by simp; omega) _)
theorem heap_in (w : World) (o o' : Obj) (k : Nat) (h : w.heap[k]? = some o') : (w.alloc o).heap[k]? = some o' :=
  (Below.heap_alloc w o k (Array.getElem?_eq_some_iff.1 h).1).trans h
theorem heap_at (w : World) (o : Obj) (k : Nat) (h : k = w.heap.size) : (w.alloc o).heap[k]? = some o := by subst h; exact World.alloc_heap_new w o
theorem cell_heap {w : World} {b i : Nat} {cs : Array Value} {t : TypeId} {fr : Nat × Nat} (h : w.heap[b]? = some (.cells cs t fr)) : w.cell? ⟨b, i, none⟩ = cs[i]? := by simp [World.cell?, h]
theorem RW_K (wr : World) (k : Nat) (h : k < 64) : (RW wr).cell? ⟨wr.heap.size, k, none⟩ = some (.int .u32 (U (Kw k))) := by
  have h0 : (RW wr).heap[wr.heap.size]? = some (.cells KsV 28) := by
    unfold RW
    exact heap_in _ _ _ _ (heap_in _ _ _ _ (heap_in _ _ _ _ (heap_in _ _ _ _ (heap_in _ _ _ _ (heap_at _ _ _ rfl)))))
  rw [cell_heap h0, KsV_eq, U_K k h]
  have : k < KsI.length := by rw [show KsI.length = 64 from rfl]; exact h
  simp [this]
theorem RW_r (wr : World) (q r : Nat) (hq : q < 4) (hr : r < 4) : (RW wr).cell? ⟨wr.heap.size + 1 + q, r, none⟩ = some (.int .i64 (TsI.getD (q * 4 + r) 0)) := by
  have h0 : (RW wr).heap[wr.heap.size + 1 + q]? = some (.cells ((match q with | 0 => #[.int .i64 7, .int .i64 12, .int .i64 17, .int .i64 22] | 1 => #[.int .i64 5, .int .i64 9, .int .i64 14, .int .i64 20] | 2 => #[.int .i64 4, .int .i64 11, .int .i64 16, .int .i64 23] | _ => #[.int .i64 6, .int .i64 10, .int .i64 15, .int .i64 21] : Array Value)) 3) := by
    unfold RW
    rcases (show q = 0 ∨ q = 1 ∨ q = 2 ∨ q = 3 by omega) with rfl | rfl | rfl | rfl
    · exact heap_in _ _ _ _ (heap_in _ _ _ _ (heap_in _ _ _ _ (heap_in _ _ _ _ (heap_at _ _ _ (by simp)))))
    · exact heap_in _ _ _ _ (heap_in _ _ _ _ (heap_in _ _ _ _ (heap_at _ _ _ (by simp))))
    · exact heap_in _ _ _ _ (heap_in _ _ _ _ (heap_at _ _ _ (by simp)))
    · exact heap_in _ _ _ _ (heap_at _ _ _ (by simp))
  rw [cell_heap h0]
  rcases (show q = 0 ∨ q = 1 ∨ q = 2 ∨ q = 3 by omega) with rfl | rfl | rfl | rfl <;> rcases (show r = 0 ∨ r = 1 ∨ r = 2 ∨ r = 3 by omega) with rfl | rfl | rfl | rfl <;> rfl
theorem RW_t (wr : World) (q : Nat) (hq : q < 4) : (RW wr).cell? ⟨wr.heap.size + 1 + 1 + 1 + 1 + 1, q, none⟩ = some (.slice (some ⟨wr.heap.size + 1 + q, 0, none⟩) 4 4) := by
  have h0 := heap_at ((((((wr.alloc (.cells KsV 28)).alloc (.cells #[.int .i64 7, .int .i64 12, .int .i64 17, .int .i64 22] 3)).alloc (.cells #[.int .i64 5, .int .i64 9, .int .i64 14, .int .i64 20] 3)).alloc (.cells #[.int .i64 4, .int .i64 11, .int .i64 16, .int .i64 23] 3)).alloc (.cells #[.int .i64 6, .int .i64 10, .int .i64 15, .int .i64 21] 3)))
    (.cells #[.slice (some ⟨wr.heap.size + 1, 0, none⟩) 4 4, .slice (some ⟨wr.heap.size + 1 + 1, 0, none⟩) 4 4, .slice (some ⟨wr.heap.size + 1 + 1 + 1, 0, none⟩) 4 4, .slice (some ⟨wr.heap.size + 1 + 1 + 1 + 1, 0, none⟩) 4 4] 64) (wr.heap.size + 1 + 1 + 1 + 1 + 1) (by simp)
  rw [RW, cell_heap h0]
  rcases (show q = 0 ∨ q = 1 ∨ q = 2 ∨ q = 3 by omega) with rfl | rfl | rfl | rfl <;> rfl
theorem rotated_to (x y : BitVec 32) (n : Nat) (hn : n < 32) (h : y = rot x n) (w : World) : Calls Tryd.prog 47 #[.int .u32 (U x), .int .i64 n] w fun e w' => e = .returned (.int .u32 (U y)) ∧ w = w' := by
  rw [h]; exact rotated_any x n hn w
set_option maxRecDepth 100000 in
set_option maxHeartbeats 2000000 in
theorem rstep_any (s : S4) (l : List UInt8) (_hl : l.length = 64) (bb off cap : Nat) (w : World) (hb' : bb < w.heap.size) (hc : ∀ i, i < 64 → w.cell? ⟨bb, off + i, none⟩ = some (.int .u8 ((l.getD i 0).toNat : Int))) :
    Calls Tryd.prog 37 #[.agg #[.int .u32 (U s.a), .int .u32 (U s.b), .int .u32 (U s.c), .int .u32 (U s.d)], .slice (some ⟨bb, off, none⟩) 64 cap] w fun e w' => e = .returned (sv (stepF s l)) ∧ Below w.heap.size w w' := by
  have HC := Lib.hid hc
  clear hc
  go_enter Tryd.func37, Tryd.ntmps37
  go_wp2_with fail
  have c0 := St4.new w s 74
  have c1 : St4 ((w.alloc (.cells #[.int .u32 (U s.a), .int .u32 (U s.b), .int .u32 (U s.c), .int .u32 (U s.d)] 74)).alloc (.cells #[.int .u32 0, .int .u32 0, .int .u32 0, .int .u32 0] 74)) (w.heap.size + 1) ⟨0, 0, 0, 0⟩ := by
    have := St4.new (w.alloc (.cells #[.int .u32 (U s.a), .int .u32 (U s.b), .int .u32 (U s.c), .int .u32 (U s.d)] 74)) ⟨0, 0, 0, 0⟩ 74
    rw [World.size_alloc] at this
    exact this
  replace c0 := c0.block (Below.heap_alloc (w.alloc (.cells #[.int .u32 (U s.a), .int .u32 (U s.b), .int .u32 (U s.c), .int .u32 (U s.d)] 74)) (.cells #[.int .u32 0, .int .u32 0, .int .u32 0, .int .u32 0] 74) w.heap.size (by simp))
  have hB : Below w.heap.size w ((w.alloc (.cells #[.int .u32 (U s.a), .int .u32 (U s.b), .int .u32 (U s.c), .int .u32 (U s.d)] 74)).alloc (.cells #[.int .u32 0, .int .u32 0, .int .u32 0, .int .u32 0] 74)) := ((Below.refl _ w).alloc (Nat.le_refl _) _).alloc (by simp) _
  have hsz : ((w.alloc (.cells #[.int .u32 (U s.a), .int .u32 (U s.b), .int .u32 (U s.c), .int .u32 (U s.d)] 74)).alloc (.cells #[.int .u32 0, .int .u32 0, .int .u32 0, .int .u32 0] 74)).heap.size = w.heap.size + 2 := by simp
  show Code.wp _ _ _ _ ((w.alloc (.cells #[.int .u32 (U s.a), .int .u32 (U s.b), .int .u32 (U s.c), .int .u32 (U s.d)] 74)).alloc (.cells #[.int .u32 0, .int .u32 0, .int .u32 0, .int .u32 0] 74))
  generalize (w.alloc (.cells #[.int .u32 (U s.a), .int .u32 (U s.b), .int .u32 (U s.c), .int .u32 (U s.d)] 74)).alloc (.cells #[.int .u32 0, .int .u32 0, .int .u32 0, .int .u32 0] 74) = W0 at c0 c1 hB hsz ⊢
  replace c0 := Lib.hid c0
  replace c1 := Lib.hid c1
  have hsz' := Lib.hid hsz
  replace hB := Lib.hid hB
  clear hsz
  have hown0 := Lib.hid (World.ownsRow_nil W0 W0.heap.size 28 1)
  obtain ⟨inf, hi, hz0, hz1, hz2⟩ := info_parts info28
  replace hz0 := Lib.hid hz0
  replace hz1 := Lib.hid hz1
  replace hz2 := Lib.hid hz2
  replace hi := Lib.hid hi
  go_loopg [5, 6] 16 (fun g s5 s6 wr => ∃ (k n : Nat), k + g = 16 ∧ n = 4 * k ∧ s6 = .int .i64 n ∧ Hid (wr.ownsRow W0.heap.size 28 1 s5 k (wl l k)) ∧ Hid (Below W0.heap.size W0 wr))
  case atStart => exact ⟨0, 0, by omega, rfl, rfl, hown0, Lib.hid (Below.refl _ _)⟩
  case round =>
    obtain ⟨k, n, hk, hn, rfl, hown, hb⟩ := hrel
    replace hn := Lib.hid hn
    by_cases hlt : k < 16
    · have hn60 : n ≤ 60 := by have := hn.out; omega
      have t1 : decide ((n : Int) < 64) = true := decide_eq_true (by omega)
      have bw : Below w.heap.size w wr := hB.out.trans (hb.out.mono (by have := hsz'.out; omega))
      have hc : ∀ i, i < 64 → wr.cell? ⟨bb, off + i, none⟩ = some (.int .u8 ((l.getD i 0).toNat : Int)) := fun i hi => (bw.cell (p := ⟨bb, off + i, none⟩) hb').trans (HC.out i hi)
      obtain ⟨x0, hx0⟩ : ∃ x, Hid (x = l.getD (4 * k) 0) := ⟨_, rfl⟩
      obtain ⟨x1, hx1⟩ : ∃ x, Hid (x = l.getD (4 * k + 1) 0) := ⟨_, rfl⟩
      obtain ⟨x2, hx2⟩ : ∃ x, Hid (x = l.getD (4 * k + 2) 0) := ⟨_, rfl⟩
      obtain ⟨x3, hx3⟩ : ∃ x, Hid (x = l.getD (4 * k + 3) 0) := ⟨_, rfl⟩
      have h0 := hc n (by omega)
      have h1 := hc (n + 1) (by omega)
      have h2 := hc (n + 2) (by omega)
      have h3 := hc (n + 3) (by omega)
      rw [hn.out, ← hx0.out, ← hn.out] at h0
      rw [show l.getD (n + 1) 0 = x1 by rw [hx1.out, hn.out]] at h1
      rw [show l.getD (n + 2) 0 = x2 by rw [hx2.out, hn.out]] at h2
      rw [show l.getD (n + 3) 0 = x3 by rw [hx3.out, hn.out]] at h3
      clear hc
      have u0 : IntKind.u32.wrap (x0.toNat : Int) = U (zx x0) := U_of_byte x0
      have u1 : IntKind.u32.wrap (x1.toNat : Int) = U (zx x1) := U_of_byte x1
      have u2 : IntKind.u32.wrap (x2.toNat : Int) = U (zx x2) := U_of_byte x2
      have u3 : IntKind.u32.wrap (x3.toNat : Int) = U (zx x3) := U_of_byte x3
      go_wp2_with fail
      have l0 : (n : Int) < 64 := by omega
      have l1 : (n : Int) + 1 < 64 := by omega
      have l2 : (n : Int) + 2 < 64 := by omega
      have l3 : (n : Int) + 3 < 64 := by omega
      have p1 : 0 ≤ (n : Int) + 1 := by omega
      have p2 : 0 ≤ (n : Int) + 2 := by omega
      have p3 : 0 ≤ (n : Int) + 3 := by omega
      have q1 : ((n : Int) + 1).toNat = n + 1 := by omega
      have q2 : ((n : Int) + 2).toNat = n + 2 := by omega
      have q3 : ((n : Int) + 3).toNat = n + 3 := by omega
      have w1 : IntKind.i64.wrap ((n : Int) + 1) = (n : Int) + 1 := IntWalk.i64_in _ (by omega)
      have w2 : IntKind.i64.wrap ((n : Int) + 2) = (n : Int) + 2 := IntWalk.i64_in _ (by omega)
      have w3 : IntKind.i64.wrap ((n : Int) + 3) = (n : Int) + 3 := IntWalk.i64_in _ (by omega)
      have hs0 : W0.heap.size ≤ wr.heap.size := hb.out.size
      have hblt : bb < W0.heap.size := by have := hsz'.out; omega
      go_region_held3 (fun w' => w'.cell? ⟨bb, off + n, none⟩ = some (.int .u8 x0.toNat) ∧ w'.cell? ⟨bb, off + (n + 1), none⟩ = some (.int .u8 x1.toNat) ∧ w'.cell? ⟨bb, off + (n + 2), none⟩ = some (.int .u8 x2.toNat) ∧ w'.cell? ⟨bb, off + (n + 3), none⟩ = some (.int .u8 x3.toNat))
        (first
          | go_keep
          | (refine ⟨?_, ?_, ?_, ?_⟩
             · exact (hb2.cell (p := ⟨bb, off + n, none⟩) hblt).trans h0
             · exact (hb2.cell (p := ⟨bb, off + (n + 1), none⟩) hblt).trans h1
             · exact (hb2.cell (p := ⟨bb, off + (n + 2), none⟩) hblt).trans h2
             · exact (hb2.cell (p := ⟨bb, off + (n + 3), none⟩) hblt).trans h3))
        ((refine step_append_own1 rfl (.tmp 21) (.tmp 51) 95 rfl 28 inf (.int .u32 0) 4 Tryd.underlying95 hi.out hz0.out hz1.out hz2.out rfl W0.heap.size u5 k (wl l k) rfl (.int .u32 (U (zx x0 + 256#32 * zx x1 + 65536#32 * zx x2 + 16777216#32 * zx x3))) (ownsDrew hown.out) rfl rfl (by unfold maxLen; omega) (by omega) (by simp; omega) ?_; intro v' w' hown' hb2 hsz2 hv'))
      clear p1 p2 p3 q1 q2 q3 w1 w2 w3 l1 l2 l3 h0 h1 h2 h3 u0 u1 u2 u3
      obtain ⟨g2, cap2, rfl⟩ := hv'
      have hown2 := Lib.hid hown'
      clear hown'
      go_wp2_with fail
      go_roundg (gk - 1)
      case measure => omega
      case rel =>
        refine ⟨k + 1, n + 4, by omega, by have := hn.out; omega, by go_num, ?_, ?_⟩
        · have h := hown2.out
          rw [wl_succ]
          rw [show m4 l k = zx x0 + 256#32 * zx x1 + 65536#32 * zx x2 + 16777216#32 * zx x3 by rw [m4, hx0.out, hx1.out, hx2.out, hx3.out]]
          exact h
        · exact Lib.hid ((hb.out.drew).trans hb2)
    · obtain rfl : k = 16 := by omega
      have hn' := hn.out
      obtain rfl : n = 64 := by omega
      clear hn hn' hlt hk
      have bw : Below w.heap.size w wr := hB.out.trans (hb.out.mono (by have := hsz'.out; omega))
      have hsw : w.heap.size + 2 ≤ wr.heap.size := by have := hsz'.out; have := hb.out.size; omega
      have d0 := Lib.hid (c0.out.block (hb.out.block w.heap.size (by have := hsz'.out; omega)))
      have d1 := Lib.hid (c1.out.block (hb.out.block (w.heap.size + 1) (by have := hsz'.out; omega)))
      obtain ⟨g, cp, hv⟩ : ∃ g cp, u5 = .slice (some ⟨g, 0, none⟩) 16 cp := by
        rcases hown.out.2 with ⟨_, h0⟩ | ⟨g, cap, cur, rfl, _⟩
        · cases h0
        · exact ⟨g, cap, rfl⟩
      have hg : Hid (∀ i, i < 16 → wr.cell? ⟨g, i, none⟩ = some (.int .u32 (U (m4 l i)))) := by
        intro i hi
        have h := hown.out
        rw [hv] at h
        rw [h.cellAt i (by omega)]
        simp [wl, hi, encU]
      clear hown hb hown0
      subst hv
      replace bw := Lib.hid bw
      clear hsz' hB c0 c1 hb' HC hz0 hz1 hz2 hi
      go_wp2_with fail
      refine (kst_any _).mono ?_; rintro e w' ⟨rfl, rfl⟩
      go_wp2_with fail
      show Code.wp _ _ _ _ (RW wr)
      have hK := Lib.hid (fun k h => RW_K wr k h)
      have hR := Lib.hid (fun q r hq hr => RW_r wr q r hq hr)
      have hT := Lib.hid (fun q hq => RW_t wr q hq)
      have hbw := RW_below wr
      replace d0 := d0.out.block (hbw.block _ (by omega))
      replace d1 := d1.out.block (hbw.block _ (by omega))
      have hglt : g < wr.heap.size := by have := hg.out 0 (by omega); exact World.block_lt_of_cell? wr _ this
      replace hg : Hid (∀ i, i < 16 → (RW wr).cell? ⟨g, i, none⟩ = some (.int .u32 (U (m4 l i)))) := fun i hi => (hbw.cell (p := ⟨g, i, none⟩) hglt).trans (hg.out i hi)
      replace bw := Lib.hid (bw.out.trans (hbw.mono (by omega)))
      clear hbw hglt
      generalize RW wr = W1 at d0 d1 hK hR hT hg bw ⊢
      generalize wr.heap.size = H at hK hR hT hsw ⊢
      have D0 := Lib.hid d0
      replace d1 := Lib.hid d1
      obtain ⟨⟨c0, c1, c2, c3⟩, _⟩ := d0
      go_quiet (fail)
      go_wp2_with fail
      clear c0 c1 c2 c3
      obtain ⟨mm, hmm⟩ : ∃ m : Nat → BitVec 32, Hid (m = mw l 64) := ⟨_, rfl⟩
      replace hg : Hid (∀ i, i < 16 → W1.cell? ⟨g, i, none⟩ = some (.int .u32 (U (mm i)))) := fun i hi => by rw [hg.out i hi, hmm.out, m4_eq l i hi]
      go_loopg [9, 10, 11, 12, 13] 64 (fun gh s9 s10 s11 s12 s13 wx => ∃ (k : Nat) (r : S4) (n : Nat), k + gh = 64 ∧ s13 = .int .i64 k ∧ Hid (r = rnds mm k s) ∧ s9 = .int .u32 (U r.a) ∧ s10 = .int .u32 (U r.b) ∧ s11 = .int .u32 (U r.c) ∧ s12 = .int .u32 (U r.d) ∧ wx = W1.drewN n)
      case atStart => exact ⟨0, s, nq, by omega, rfl, rfl, rfl, rfl, rfl, rfl, rfl⟩
      case round =>
        obtain ⟨k, r, n, hk, rfl, hr, rfl, rfl, rfl, rfl, rfl⟩ := hrel
        by_cases hlt : k < 64
        · have t1 : decide ((k : Int) < 64) = true := decide_eq_true (by omega)
          obtain ⟨gi, hgi⟩ : ∃ g, Hid (g = mixg k) := ⟨_, rfl⟩
          obtain ⟨f, hf⟩ : ∃ f, Hid (f = mixw k r.b r.c r.d) := ⟨_, rfl⟩
          have hg16 : gi < 16 := by rw [hgi.out]; exact mixg_lt k
          have hm := hg.out gi hg16
          obtain ⟨t, ht⟩ : ∃ t, Hid (t = Tn k) := ⟨_, rfl⟩
          obtain ⟨e1, e2, e3⟩ := Tn_T k hlt
          have htr := hR.out (k / 16) (k % 4) (by omega) (by omega)
          rw [← e1, ← ht.out] at htr
          rw [← ht.out] at e2 e3
          clear e1
          obtain ⟨kw, hkw⟩ : ∃ x, Hid (x = Kw k) := ⟨_, rfl⟩
          have hkc := hK.out k hlt
          rw [← hkw.out] at hkc
          obtain ⟨mg, hmg⟩ : ∃ x, Hid (x = mm gi) := ⟨_, rfl⟩
          rw [← hmg.out] at hm
          obtain ⟨y, hy⟩ : ∃ y, Hid (y = rot (r.a + f + kw + mg) t) := ⟨_, rfl⟩
          have hcall := Lib.hid (fun W => rotated_to (r.a + f + kw + mg) y t (by omega) hy.out W)
          have htc := hT.out (k / 16) (by omega)
          rcases (show k < 16 ∨ (16 ≤ k ∧ k < 32) ∨ (32 ≤ k ∧ k < 48) ∨ 48 ≤ k by omega) with h | ⟨h, h2⟩ | ⟨h, h2⟩ | h
          · have q1 : decide (16 ≤ (k : Int)) = false := decide_eq_false (by omega)
            have q2 : decide (32 ≤ (k : Int)) = false := decide_eq_false (by omega)
            have q3 : decide (48 ≤ (k : Int)) = false := decide_eq_false (by omega)
            obtain rfl : k = gi := by rw [hgi.out]; unfold mixg; rw [if_pos h]
            have hff : f = (r.b &&& r.c) ||| (~~~r.b &&& r.d) := by rw [hf.out]; unfold mixw; rw [if_pos h]
            rw [hff] at hcall
            clear hff
            go_wp2_with fail
            go_quiet (fail)
            go_wp2_with fail
            refine (hcall.out _).mono ?_; rintro e w2 ⟨rfl, rfl⟩
            go_wp2_with fail
            go_roundg (gk - 1)
            case measure => omega
            case rel => exact ⟨k + 1, rnd mm k r, _, by omega, by go_num, by show _ = rnds mm (k + 1) s; rw [rnds, hr.out], rfl, by show _ = Value.int .u32 (U (r.b + rot (r.a + mixw k r.b r.c r.d + Kw k + mm (mixg k)) (Tn k))); rw [hy.out, hf.out, hkw.out, hmg.out, ← hgi.out, ht.out], rfl, rfl, rfl⟩
          · have q1 : decide (16 ≤ (k : Int)) = true := decide_eq_true (by omega)
            have q2 : decide (32 ≤ (k : Int)) = false := decide_eq_false (by omega)
            have q3 : decide (48 ≤ (k : Int)) = false := decide_eq_false (by omega)
            have hgg : (5 * (k : Int) + 1) % 16 = (gi : Int) := by rw [hgi.out]; unfold mixg; rw [if_neg (by omega), if_pos h2]; omega
            have hff : f = (r.d &&& r.b) ||| (~~~r.d &&& r.c) := by rw [hf.out]; unfold mixw; rw [if_neg (by omega), if_pos h2]
            rw [hff] at hcall
            clear hff
            go_wp2_with fail
            go_quiet (fail)
            go_wp2_with fail
            refine (hcall.out _).mono ?_; rintro e w2 ⟨rfl, rfl⟩
            go_wp2_with fail
            go_roundg (gk - 1)
            case measure => omega
            case rel => exact ⟨k + 1, rnd mm k r, _, by omega, by go_num, by show _ = rnds mm (k + 1) s; rw [rnds, hr.out], rfl, by rw [hy.out, hf.out, hkw.out, hmg.out, hgi.out, ht.out]; rfl, rfl, rfl, rfl⟩
          · have q1 : decide (16 ≤ (k : Int)) = true := decide_eq_true (by omega)
            have q2 : decide (32 ≤ (k : Int)) = true := decide_eq_true (by omega)
            have q3 : decide (48 ≤ (k : Int)) = false := decide_eq_false (by omega)
            have hgg : (3 * (k : Int) + 5) % 16 = (gi : Int) := by rw [hgi.out]; unfold mixg; rw [if_neg (by omega), if_neg (by omega), if_pos h2]; omega
            have hff : f = r.b ^^^ r.c ^^^ r.d := by rw [hf.out]; unfold mixw; rw [if_neg (by omega), if_neg (by omega), if_pos h2]
            rw [hff] at hcall
            clear hff
            go_wp2_with fail
            go_quiet (fail)
            go_wp2_with fail
            refine (hcall.out _).mono ?_; rintro e w2 ⟨rfl, rfl⟩
            go_wp2_with fail
            go_roundg (gk - 1)
            case measure => omega
            case rel => exact ⟨k + 1, rnd mm k r, _, by omega, by go_num, by show _ = rnds mm (k + 1) s; rw [rnds, hr.out], rfl, by rw [hy.out, hf.out, hkw.out, hmg.out, hgi.out, ht.out]; rfl, rfl, rfl, rfl⟩
          · have q1 : decide (16 ≤ (k : Int)) = true := decide_eq_true (by omega)
            have q2 : decide (32 ≤ (k : Int)) = true := decide_eq_true (by omega)
            have q3 : decide (48 ≤ (k : Int)) = true := decide_eq_true (by omega)
            have hgg : 7 * (k : Int) % 16 = (gi : Int) := by rw [hgi.out]; unfold mixg; rw [if_neg (by omega), if_neg (by omega), if_neg (by omega)]; omega
            have hff : f = r.c ^^^ (r.b ||| ~~~r.d) := by rw [hf.out]; unfold mixw; rw [if_neg (by omega), if_neg (by omega), if_neg (by omega)]
            rw [hff] at hcall
            clear hff
            go_wp2_with fail
            go_quiet (fail)
            go_wp2_with fail
            refine (hcall.out _).mono ?_; rintro e w2 ⟨rfl, rfl⟩
            go_wp2_with fail
            go_roundg (gk - 1)
            case measure => omega
            case rel => exact ⟨k + 1, rnd mm k r, _, by omega, by go_num, by show _ = rnds mm (k + 1) s; rw [rnds, hr.out], rfl, by rw [hy.out, hf.out, hkw.out, hmg.out, hgi.out, ht.out]; rfl, rfl, rfl, rfl⟩
        · obtain rfl : k = 64 := by omega
          obtain ⟨⟨c0, c1, c2, c3⟩, _⟩ := D0.out
          obtain ⟨⟨v0, v1, v2, v3⟩, f0, f1, f2, f3⟩ := d1.out
          clear hK hR hT hg
          go_wp2_with fail
          have hw0 : (W1.drewN n).cell? ⟨w.heap.size + 1, 0, none⟩ = some _ := v0
          have hw1 : (W1.drewN n).cell? ⟨w.heap.size + 1, 1, none⟩ = some _ := v1
          have hw2 : (W1.drewN n).cell? ⟨w.heap.size + 1, 2, none⟩ = some _ := v2
          have hw3 : (W1.drewN n).cell? ⟨w.heap.size + 1, 3, none⟩ = some _ := v3
          refine bodyPost_ret (v := .agg #[.int .u32 (U (s.a + r.a)), .int .u32 (U (s.b + r.b)), .int .u32 (U (s.c + r.c)), .int .u32 (U (s.d + r.d))]) (by simp [results, Tryd.results37, go_sem, hw0, hw1, hw2, hw3]) rfl ⟨?_, ?_⟩
          · show _ = Ending.returned (Value.agg #[.int .u32 (U (s.a + (rnds (mw l 64) 64 s).a)), .int .u32 (U (s.b + (rnds (mw l 64) 64 s).b)), .int .u32 (U (s.c + (rnds (mw l 64) 64 s).c)), .int .u32 (U (s.d + (rnds (mw l 64) 64 s).d))])
            rw [← hmm.out, ← hr.out]
          · have hb0 := belowN bw.out n
            exact (((hb0.setCell (p := ⟨w.heap.size + 1, 0, none⟩) (by show w.heap.size ≤ w.heap.size + 1; omega) _).setCell (p := ⟨w.heap.size + 1, 1, none⟩) (by show w.heap.size ≤ w.heap.size + 1; omega) _).setCell (p := ⟨w.heap.size + 1, 2, none⟩) (by show w.heap.size ≤ w.heap.size + 1; omega) _).setCell (p := ⟨w.heap.size + 1, 3, none⟩) (by show w.heap.size ≤ w.heap.size + 1; omega) _
end Go.Proofs.YtimiejahkcjcdaaDoor
