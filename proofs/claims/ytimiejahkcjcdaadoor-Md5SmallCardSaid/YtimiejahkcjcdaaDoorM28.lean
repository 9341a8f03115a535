/- The law Md5Steps. -/
import Derived.Test.YtimiejahkcjcdaaDoorMEq
import Derived.Deep.RegionWith
import Derived.Deep.CutRange
import Derived.Deep.DeepCutAuto
namespace Go.Proofs.YtimiejahkcjcdaaDoor
open Go.RowKit

theorem u32_bd (z : Int) (h : (Lit.int .u32 z).wf = true) : 0 ≤ z ∧ z < 4294967296 := by
  have h' : 0 ≤ z ∧ z ≤ 4294967295 := by simpa [Lit.wf, IntKind.min, IntKind.max, IntKind.signed, IntKind.bits] using h
  omega
theorem st_of (z : List Int) (hl : z.length = 4) (hw : ∀ i (hi : i < z.length), (Lit.int .u32 z[i]).wf = true) : ∃ s : S4, Value.agg (z.map (Value.int .u32)).toArray = .agg #[.int .u32 (U s.a), .int .u32 (U s.b), .int .u32 (U s.c), .int .u32 (U s.d)] := by
  match z, hl with
  | [a, b, c, d], _ =>
    obtain ⟨xa, ha⟩ := U_ex a (hw 0 (by simp))
    obtain ⟨xb, hb⟩ := U_ex b (hw 1 (by simp))
    obtain ⟨xc, hc⟩ := U_ex c (hw 2 (by simp))
    obtain ⟨xd, hd⟩ := U_ex d (hw 3 (by simp))
    exact ⟨⟨xa, xb, xc, xd⟩, by simp only [List.map_cons, List.map_nil]; rw [ha, hb, hc, hd]⟩
theorem by_of : ∀ (z : List Int) (_ : ∀ i (hi : i < z.length), (Lit.int .u8 z[i]).wf = true), ∃ l : List UInt8, z.map (Value.int .u8) = l.map enc8
  | [], _ => ⟨[], rfl⟩
  | x :: z, h => by
    obtain ⟨l, hl⟩ := by_of z (fun i hi => h (i + 1) (by simpa using hi))
    have hx := h 0 (by simp)
    have h' : 0 ≤ x ∧ x ≤ 255 := by simpa [Lit.wf, IntKind.min, IntKind.max, IntKind.signed, IntKind.bits] using hx
    refine ⟨UInt8.ofNat x.toNat :: l, ?_⟩
    rw [List.map_cons, List.map_cons, hl]
    congr 1
    show Value.int .u8 x = Value.int .u8 ((UInt8.ofNat x.toNat).toNat : Int)
    rw [UInt8.toNat_ofNat']
    congr 1
    omega
theorem stepE_to (s r : S4) (v : Value) (l : List UInt8) (hl : l.length = 64) (h : r = stepF s l) (w : World) (hT : Tabs w) (hr : RowB w v l) :
    Calls Tryd.prog 17 #[.agg #[.int .u32 (U s.a), .int .u32 (U s.b), .int .u32 (U s.c), .int .u32 (U s.d)], v] w fun e w' => e = .returned (.tuple #[.agg #[.int .u32 (U r.a), .int .u32 (U r.b), .int .u32 (U r.c), .int .u32 (U r.d)], .int .i64 0]) ∧ Below w.heap.size w w' := by
  subst h; exact stepE_yes s v l hl w hT hr
def StepsI (w : World) (s t : S4) (l : List UInt8) (wx : World) : Prop :=
  St4 wx w.heap.size s ∧ St4 wx (w.heap.size + 1) t ∧ RowB wx (.slice (some ⟨w.heap.size + 2, 0, none⟩) 64 64) l ∧ Tabs wx ∧ Below w.heap.size w wx ∧ w.heap.size + 3 ≤ wx.heap.size
theorem StepsI.on {w : World} {s t : S4} {l : List UInt8} {A B : World} (h : StepsI w s t l A) (hb : Below A.heap.size A B) : StepsI w s t l B := by
  obtain ⟨h1, h2, h3, h4, h5, h6⟩ := h
  exact ⟨h1.block (hb.block _ (by omega)), h2.block (hb.block _ (by omega)), h3.on hb, h4.on hb, h5.trans (hb.mono (by omega)), Nat.le_trans h6 hb.size⟩
theorem heap4 {A : World} {b N : Nat} {x0 x1 x2 x3 : Value} (h : b ≠ N) : ((((A.setCell ⟨N, 0, none⟩ x0).setCell ⟨N, 1, none⟩ x1).setCell ⟨N, 2, none⟩ x2).setCell ⟨N, 3, none⟩ x3).heap[b]? = A.heap[b]? :=
  (((Below.heap_setCell _ ⟨N, 3, none⟩ _ b h).trans (Below.heap_setCell _ ⟨N, 2, none⟩ _ b h)).trans (Below.heap_setCell _ ⟨N, 1, none⟩ _ b h)).trans (Below.heap_setCell _ ⟨N, 0, none⟩ _ b h)
theorem keep4 {A B : World} {b : Nat} {v0 v1 v2 v3 : Value} (hb : B.heap[b]? = A.heap[b]?) (k0 : A.cell? ⟨b, 0, none⟩ = some v0) (k1 : A.cell? ⟨b, 1, none⟩ = some v1) (k2 : A.cell? ⟨b, 2, none⟩ = some v2) (k3 : A.cell? ⟨b, 3, none⟩ = some v3) :
    B.cell? ⟨b, 0, none⟩ = some v0 ∧ B.cell? ⟨b, 1, none⟩ = some v1 ∧ B.cell? ⟨b, 2, none⟩ = some v2 ∧ B.cell? ⟨b, 3, none⟩ = some v3 := by
  have e : ∀ j, B.cell? ⟨b, j, none⟩ = A.cell? ⟨b, j, none⟩ := fun j => World.cell?_of_block (w := A) hb
  rw [e, e, e, e]
  exact ⟨k0, k1, k2, k3⟩
theorem StepsI.block {w : World} {s t : S4} {l : List UInt8} {A B : World} (h : StepsI w s t l A) (hs : A.heap.size ≤ B.heap.size) (hh : ∀ k, k < w.heap.size + 3 → B.heap[k]? = A.heap[k]?) (hb : Below w.heap.size w B) : StepsI w s t l B := by
  obtain ⟨h1, h2, h3, h4, h5, h6⟩ := h
  refine ⟨h1.block (hh _ (by omega)), h2.block (hh _ (by omega)), row_block h3 hs (hh _ (by omega)), ?_, hb, Nat.le_trans h6 hs⟩
  obtain ⟨⟨t0, f0, e0⟩, ⟨cs, t1, f1, e1⟩, e2⟩ := h4
  exact ⟨⟨t0, f0, (hh 0 (by omega)).trans e0⟩, ⟨cs, t1, f1, (hh 1 (by omega)).trans e1⟩, fun i hi => (World.cell?_of_block (w := A) (hh 1 (by omega))).trans (e2 i hi)⟩
/-- What a region that takes a step leaves: the state in a block of its own. -/
def StepAt (w : World) (s t r : S4) (l : List UInt8) (b : Nat) (wx : World) : Prop := St4 wx b r ∧ StepsI w s t l wx ∧ w.heap.size + 3 ≤ b ∧ b < wx.heap.size
theorem stepAt_A {w w9 : World} {s t r : S4} {l : List UInt8} (X : StepsI w s t l w9) : StepAt w s t r l w9.heap.size (w9.alloc (.cells #[.int .u32 (U r.a), .int .u32 (U r.b), .int .u32 (U r.c), .int .u32 (U r.d)] 30)) :=
  ⟨St4.new w9 r 30, X.on ((Below.refl _ _).alloc (Nat.le_refl _) _), X.2.2.2.2.2, by simp⟩
theorem stepAt_B {w w9 : World} {s t r : S4} {l : List UInt8} {N : Nat} {z : S4} (X : StepsI w s t l w9) (Z : St4 w9 N z) (hN : w.heap.size + 3 ≤ N) (hN2 : N + 1 ≤ w9.heap.size) : StepAt w s t r l N (St4.setAll w9 N r) :=
  ⟨Z.set r, X.block (by simp [St4.setAll]) (fun k hk => setAll_other r (by omega)) (setAll_below r X.2.2.2.2.1 (by omega)), hN, by simp [St4.setAll]; omega⟩
theorem stThenA {r : S4} {b : Nat} {A B : World} {o : Obj} (h : St4 A b r ∧ b < A.heap.size) (hb : Below A.heap.size A B) : St4 (B.alloc o) b r ∧ b < (B.alloc o).heap.size :=
  ⟨(h.1.block (hb.block b h.2)).block (Below.heap_alloc _ _ _ (Nat.lt_of_lt_of_le h.2 hb.size)), by have := hb.size; simp; omega⟩
theorem stThenB {r q : S4} {b : Nat} {A B : World} (h : St4 A b r ∧ b < A.heap.size) (hb : Below A.heap.size A B) : St4 (St4.setAll B A.heap.size q) b r ∧ b < (St4.setAll B A.heap.size q).heap.size :=
  ⟨(h.1.block (hb.block b h.2)).block (setAll_other q (by omega)), by have := hb.size; simp [St4.setAll]; omega⟩
theorem StepAt.on {w : World} {s t r : S4} {l : List UInt8} {b : Nat} {A B : World} (h : StepAt w s t r l b A) (hb : Below A.heap.size A B) : St4 B b r ∧ b < B.heap.size := ⟨h.1.block (hb.block b h.2.2.2), Nat.lt_of_lt_of_le h.2.2.2 hb.size⟩
def SW (w : World) (s t : S4) (va : Array Value) : World := ((w.alloc (.cells #[.int .u32 (U s.a), .int .u32 (U s.b), .int .u32 (U s.c), .int .u32 (U s.d)] 30)).alloc (.cells #[.int .u32 (U t.a), .int .u32 (U t.b), .int .u32 (U t.c), .int .u32 (U t.d)] 30)).alloc (.cells va 37)
theorem stepsI_new (w : World) (s t : S4) (l : List UInt8) (hl : l.length = 64) (va : Array Value) (hva : va = (l.map enc8).toArray) (hT : Tabs w) : StepsI w s t l (SW w s t va) := by
  have hB : Below w.heap.size w (SW w s t va) := (((Below.refl _ w).alloc (Nat.le_refl _) _).alloc (by simp) _).alloc (by simp; omega) _
  have h1 : (SW w s t va).heap[w.heap.size + 1]? = some (.cells #[.int .u32 (U t.a), .int .u32 (U t.b), .int .u32 (U t.c), .int .u32 (U t.d)] 30) := heap_in _ _ _ _ (heap_at _ _ _ (by simp))
  have h2 : (SW w s t va).heap[w.heap.size + 2]? = some (.cells va 37) := heap_at _ _ _ (by simp)
  refine ⟨((St4.new w s 30).block (Below.heap_alloc _ _ _ (by simp))).block (Below.heap_alloc _ _ _ (by simp; omega)), ?_, ?_, hT.on hB, hB, by simp [SW]⟩
  · have := St4.new (w.alloc (.cells #[.int .u32 (U s.a), .int .u32 (U s.b), .int .u32 (U s.c), .int .u32 (U s.d)] 30)) t 30
    rw [World.size_alloc] at this
    exact this.block (Below.heap_alloc _ _ _ (by simp))
  · refine .inr ⟨w.heap.size + 2, 0, 64, by rw [List.length_map, hl], (Array.getElem?_eq_some_iff.1 h2).1, by rw [List.length_map, hl]; omega, by unfold maxLen; omega, fun i hi => ?_⟩
    rw [cell_heap h2, hva]
    simp at hi
    simp [hi]
set_option maxRecDepth 100000 in
set_option maxHeartbeats 1000000 in
theorem steps_any (s t : S4) (l : List UInt8) (hl : l.length = 64) (w : World) (hT : Tabs w) :
    Calls Tryd.prog 5 #[.agg #[.int .u32 (U s.a), .int .u32 (U s.b), .int .u32 (U s.c), .int .u32 (U s.d)], .agg #[.int .u32 (U t.a), .int .u32 (U t.b), .int .u32 (U t.c), .int .u32 (U t.d)], .agg (l.map enc8).toArray] w fun e w' => e = .returned (.bool true) ∧ Below w.heap.size w w' := by
  obtain ⟨va, hva⟩ : ∃ va, va = (l.map enc8).toArray := ⟨_, rfl⟩
  rw [← hva]
  replace hva := Lib.hid hva
  replace hT := Lib.hid hT
  go_enter Tryd.func5, Tryd.ntmps5
  go_upto_region 1 with (fail)
  obtain ⟨r1, hr1⟩ : ∃ r, Hid (r = stepF s l) := ⟨_, rfl⟩
  obtain ⟨r2, hr2⟩ : ∃ r, Hid (r = stepF t l) := ⟨_, rfl⟩
  have hI0 := Lib.hid (stepsI_new w s t l hl va hva.out hT.out)
  show Code.wp _ _ _ _ (SW w s t va)
  generalize SW w s t va = w0 at hI0 ⊢
  clear hva hT
  go_cut [7, 8] (fun s7 s8 wx => ∃ b1, s7 = .pointer (some ⟨b1, 0, none⟩) ∧ s8 = .int .i64 0 ∧ Hid (StepAt w s t r1 l b1 wx))
  case first =>
    have IA : StepsI w s t l w0.drew := hI0.out.on ((Below.refl _ _).drew)
    have IB : StepsI w s t l (w0.alloc (.cells #[.int .u32 0, .int .u32 0, .int .u32 0, .int .u32 0] 30)).drew := hI0.out.on (((Below.refl _ _).alloc (Nat.le_refl _) _).drew)
    have ZB : St4 (w0.alloc (.cells #[.int .u32 0, .int .u32 0, .int .u32 0, .int .u32 0] 30)).drew w0.heap.size ⟨0, 0, 0, 0⟩ := St4.new w0 ⟨0, 0, 0, 0⟩ 30
    replace IA := Lib.hid IA
    replace IB := Lib.hid IB
    replace ZB := Lib.hid ZB
    obtain ⟨c0, c1, c2, c3⟩ := hI0.out.1.1
    have hsz := hI0.out.2.2.2.2.2
    go_region_held3 (fun w' => w'.cell? ⟨w.heap.size, 0, none⟩ = some (.int .u32 (U s.a)) ∧ w'.cell? ⟨w.heap.size, 1, none⟩ = some (.int .u32 (U s.b)) ∧ w'.cell? ⟨w.heap.size, 2, none⟩ = some (.int .u32 (U s.c)) ∧ w'.cell? ⟨w.heap.size, 3, none⟩ = some (.int .u32 (U s.d)))
      (first
        | go_keep
        | exact keep4 (heap4 (by omega)) k0 k1 k2 k3
        | exact ⟨k0, k1, k2, k3⟩)
      (first
        | (go_at_call 17; refine (stepE_to s r1 _ l hl hr1.out _ IA.out.2.2.2.1 IA.out.2.2.1).mono ?_; rintro e w9 ⟨rfl, hb9⟩; have X := Lib.hid (IA.out.on hb9); obtain ⟨k0, k1, k2, k3⟩ := X.out.1.1; have hsz9 := X.out.2.2.2.2.2; clear hb9)
        | (go_at_call 17; refine (stepE_to s r1 _ l hl hr1.out _ IB.out.2.2.2.1 IB.out.2.2.1).mono ?_; rintro e w9 ⟨rfl, hb9⟩; have X := Lib.hid (IB.out.on hb9); have hsz9 := X.out.2.2.2.2.2; have z9 := ZB.out.block (hb9.block w0.heap.size (by simp)); have Z9 := Lib.hid z9; obtain ⟨k0, k1, k2, k3⟩ := X.out.1.1; obtain ⟨⟨j0, j1, j2, j3⟩, ⟨g0, g1, g2, g3⟩⟩ := z9; have hlt9 : w0.heap.size + 1 ≤ w9.heap.size := (by have := hb9.size; simpa using this); clear hb9))
    · go_wp2_with fail
      go_meet
      exact ⟨_, rfl, rfl, stepAt_A X.out⟩
    · go_wp2_with fail
      go_meet
      exact ⟨_, rfl, rfl, stepAt_B X.out Z9.out hsz hlt9⟩
  case rest =>
    obtain ⟨b1, rfl, rfl, S1⟩ := hcut
    have hI1 := Lib.hid S1.out.2.1
    have P1 := Lib.hid (And.intro S1.out.1 S1.out.2.2.2)
    clear S1 hI0
    go_upto_region 2 with (fail)
    go_cut [9, 10] (fun s7 s8 wx => ∃ b2, s7 = .pointer (some ⟨b2, 0, none⟩) ∧ s8 = .int .i64 0 ∧ Hid (StepAt w s t r2 l b2 wx) ∧ Hid (St4 wx b1 r1 ∧ b1 < wx.heap.size))
    case first =>
      have IA : StepsI w s t l wc.drew := hI1.out.on ((Below.refl _ _).drew)
      have IB : StepsI w s t l (wc.alloc (.cells #[.int .u32 0, .int .u32 0, .int .u32 0, .int .u32 0] 30)).drew := hI1.out.on (((Below.refl _ _).alloc (Nat.le_refl _) _).drew)
      have ZB : St4 (wc.alloc (.cells #[.int .u32 0, .int .u32 0, .int .u32 0, .int .u32 0] 30)).drew wc.heap.size ⟨0, 0, 0, 0⟩ := St4.new wc ⟨0, 0, 0, 0⟩ 30
      replace IA := Lib.hid IA
      replace IB := Lib.hid IB
      replace ZB := Lib.hid ZB
      obtain ⟨c0, c1, c2, c3⟩ := hI1.out.2.1.1
      have hsz := hI1.out.2.2.2.2.2
      go_region_held3 (fun w' => w'.cell? ⟨w.heap.size + 1, 0, none⟩ = some (.int .u32 (U t.a)) ∧ w'.cell? ⟨w.heap.size + 1, 1, none⟩ = some (.int .u32 (U t.b)) ∧ w'.cell? ⟨w.heap.size + 1, 2, none⟩ = some (.int .u32 (U t.c)) ∧ w'.cell? ⟨w.heap.size + 1, 3, none⟩ = some (.int .u32 (U t.d)))
        (first
          | go_keep
          | exact keep4 (heap4 (by omega)) k0 k1 k2 k3
          | exact ⟨k0, k1, k2, k3⟩)
        (first
          | (go_at_call 17; refine (stepE_to t r2 _ l hl hr2.out _ IA.out.2.2.2.1 IA.out.2.2.1).mono ?_; rintro e w9 ⟨rfl, hb9⟩; have X := Lib.hid (IA.out.on hb9); have HB9 := Lib.hid (((Below.refl _ wc).drew).trans hb9); obtain ⟨k0, k1, k2, k3⟩ := X.out.2.1.1; have hsz9 := X.out.2.2.2.2.2; clear hb9)
          | (go_at_call 17; refine (stepE_to t r2 _ l hl hr2.out _ IB.out.2.2.2.1 IB.out.2.2.1).mono ?_; rintro e w9 ⟨rfl, hb9⟩; have X := Lib.hid (IB.out.on hb9); have HB9 := Lib.hid ((((Below.refl wc.heap.size wc).alloc (Nat.le_refl _) (.cells #[.int .u32 0, .int .u32 0, .int .u32 0, .int .u32 0] 30)).drew).trans (hb9.mono (by simp))); have hsz9 := X.out.2.2.2.2.2; have z9 := ZB.out.block (hb9.block wc.heap.size (by simp)); have Z9 := Lib.hid z9; obtain ⟨k0, k1, k2, k3⟩ := X.out.2.1.1; obtain ⟨⟨j0, j1, j2, j3⟩, ⟨g0, g1, g2, g3⟩⟩ := z9; have hlt9 : wc.heap.size + 1 ≤ w9.heap.size := (by have := hb9.size; simpa using this); clear hb9))
      · go_wp2_with fail
        go_meet
        exact ⟨_, rfl, rfl, stepAt_A X.out, stThenA P1.out HB9.out⟩
      · go_wp2_with fail
        go_meet
        exact ⟨_, rfl, rfl, stepAt_B X.out Z9.out hsz hlt9, stThenB P1.out HB9.out⟩
    case rest =>
      clear hI1 P1
      obtain ⟨b2, rfl, rfl, S2, P1⟩ := hcut
      have hI2 := Lib.hid S2.out.2.1
      have P2 := Lib.hid (And.intro S2.out.1 S2.out.2.2.2)
      clear S2
      go_upto_region 3 with (fail)
      go_cut [11, 12] (fun s7 s8 wx => ∃ b3, s7 = .pointer (some ⟨b3, 0, none⟩) ∧ s8 = .int .i64 0 ∧ Hid (StepAt w s t r1 l b3 wx) ∧ Hid (St4 wx b1 r1 ∧ b1 < wx.heap.size) ∧ Hid (St4 wx b2 r2 ∧ b2 < wx.heap.size))
      case first =>
        have IA : StepsI w s t l wc.drew := hI2.out.on ((Below.refl _ _).drew)
        have IB : StepsI w s t l (wc.alloc (.cells #[.int .u32 0, .int .u32 0, .int .u32 0, .int .u32 0] 30)).drew := hI2.out.on (((Below.refl _ _).alloc (Nat.le_refl _) _).drew)
        have ZB : St4 (wc.alloc (.cells #[.int .u32 0, .int .u32 0, .int .u32 0, .int .u32 0] 30)).drew wc.heap.size ⟨0, 0, 0, 0⟩ := St4.new wc ⟨0, 0, 0, 0⟩ 30
        replace IA := Lib.hid IA
        replace IB := Lib.hid IB
        replace ZB := Lib.hid ZB
        obtain ⟨c0, c1, c2, c3⟩ := hI2.out.1.1
        have hsz := hI2.out.2.2.2.2.2
        go_region_held3 (fun w' => w'.cell? ⟨w.heap.size, 0, none⟩ = some (.int .u32 (U s.a)) ∧ w'.cell? ⟨w.heap.size, 1, none⟩ = some (.int .u32 (U s.b)) ∧ w'.cell? ⟨w.heap.size, 2, none⟩ = some (.int .u32 (U s.c)) ∧ w'.cell? ⟨w.heap.size, 3, none⟩ = some (.int .u32 (U s.d)))
          (first
            | go_keep
            | exact keep4 (heap4 (by omega)) k0 k1 k2 k3
            | exact ⟨k0, k1, k2, k3⟩)
          (first
            | (go_at_call 17; refine (stepE_to s r1 _ l hl hr1.out _ IA.out.2.2.2.1 IA.out.2.2.1).mono ?_; rintro e w9 ⟨rfl, hb9⟩; have X := Lib.hid (IA.out.on hb9); have HB9 := Lib.hid (((Below.refl _ wc).drew).trans hb9); obtain ⟨k0, k1, k2, k3⟩ := X.out.1.1; have hsz9 := X.out.2.2.2.2.2; clear hb9)
            | (go_at_call 17; refine (stepE_to s r1 _ l hl hr1.out _ IB.out.2.2.2.1 IB.out.2.2.1).mono ?_; rintro e w9 ⟨rfl, hb9⟩; have X := Lib.hid (IB.out.on hb9); have HB9 := Lib.hid ((((Below.refl wc.heap.size wc).alloc (Nat.le_refl _) (.cells #[.int .u32 0, .int .u32 0, .int .u32 0, .int .u32 0] 30)).drew).trans (hb9.mono (by simp))); have hsz9 := X.out.2.2.2.2.2; have z9 := ZB.out.block (hb9.block wc.heap.size (by simp)); have Z9 := Lib.hid z9; obtain ⟨k0, k1, k2, k3⟩ := X.out.1.1; obtain ⟨⟨j0, j1, j2, j3⟩, ⟨g0, g1, g2, g3⟩⟩ := z9; have hlt9 : wc.heap.size + 1 ≤ w9.heap.size := (by have := hb9.size; simpa using this); clear hb9))
        · go_wp2_with fail
          go_meet
          exact ⟨_, rfl, rfl, stepAt_A X.out, stThenA P1.out HB9.out, stThenA P2.out HB9.out⟩
        · go_wp2_with fail
          go_meet
          exact ⟨_, rfl, rfl, stepAt_B X.out Z9.out hsz hlt9, stThenB P1.out HB9.out, stThenB P2.out HB9.out⟩
      case rest =>
        clear hI2 P1 P2
        obtain ⟨b3, rfl, rfl, S3, P1, P2⟩ := hcut
        obtain ⟨x0, x1, x2, x3⟩ := S3.out.1.1
        obtain ⟨y0, y1, y2, y3⟩ := P1.out.1.1
        obtain ⟨z0, z1, z2, z3⟩ := P2.out.1.1
        obtain ⟨s0, s1, s2, s3⟩ := S3.out.2.1.1.1
        obtain ⟨t0, t1, t2, t3⟩ := S3.out.2.1.2.1.1
        have hT := Lib.hid S3.out.2.1.2.2.2.1
        have hB := Lib.hid S3.out.2.1.2.2.2.2.1
        clear S3 P1 P2
        have E := eq30
        by_cases hst : s = t
        · subst hst
          have e12 : r2 = r1 := by rw [hr1.out, hr2.out]
          subst e12
          have d1 : decide (r2 = r2) = true := decide_eq_true rfl
          have d2 : decide (s = s) = true := decide_eq_true rfl
          go_wp2_with fail
          refine (awake_any _ hT.out).mono ?_; rintro e w9 ⟨rfl, hb9⟩
          have B9 := Lib.hid (hB.out.trans (hb9.mono hB.out.size))
          clear hb9
          go_wp2_with fail
          go_ret
          exact ⟨rfl, B9.out⟩
        · have d1 : decide (r1 = r1) = true := decide_eq_true rfl
          have d2 : decide (s = t) = false := decide_eq_false hst
          go_wp2_with fail
          refine (awake_any _ hT.out).mono ?_; rintro e w9 ⟨rfl, hb9⟩
          have B9 := Lib.hid (hB.out.trans (hb9.mono hB.out.size))
          clear hb9
          go_wp2_with fail
          go_ret
          exact ⟨rfl, B9.out⟩
/-- The law Md5Steps. -/
theorem md5Steps_walk (z0 z1 z2 : List Int) (w : World) (l0 : z0.length = 4) (w0 : ∀ i (hi : i < z0.length), (Lit.int .u32 z0[i]).wf = true) (l1 : z1.length = 4) (w1 : ∀ i (hi : i < z1.length), (Lit.int .u32 z1[i]).wf = true) (l2 : z2.length = 64) (w2 : ∀ i (hi : i < z2.length), (Lit.int .u8 z2[i]).wf = true) (hT : Tabs w) :
    Calls Tryd.prog 5 #[.agg (z0.map (Value.int .u32)).toArray, .agg (z1.map (Value.int .u32)).toArray, .agg (z2.map (Value.int .u8)).toArray] w fun e w' => e = .returned (.bool true) ∧ Below w.heap.size w w' := by
  obtain ⟨s, hs⟩ := st_of z0 l0 w0
  obtain ⟨t, ht⟩ := st_of z1 l1 w1
  obtain ⟨l, hl⟩ := by_of z2 w2
  rw [hs, ht, hl]
  exact steps_any s t l (by have := congrArg List.length hl; simp at this; omega) w hT
end Go.Proofs.YtimiejahkcjcdaaDoor
