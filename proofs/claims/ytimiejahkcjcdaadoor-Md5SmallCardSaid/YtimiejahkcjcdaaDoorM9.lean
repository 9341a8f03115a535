/- digest. -/
import Derived.Test.YtimiejahkcjcdaaDoorM8
import Derived.Test.YtimiejahkcjcdaaDoorMS
import Derived.Deep.LoopGhost
import Derived.Deep.RegionLaw
import Derived.Deep.CutRange
import Derived.Deep.DeepCutAuto
namespace Go.Proofs.YtimiejahkcjcdaaDoor
open Go.RowKit

def S4.wd (s : S4) (j : Nat) : BitVec 32 := if j = 0 then s.a else if j = 1 then s.b else if j = 2 then s.c else s.d
/-- The bytes of a state. -/
def dgF (s : S4) (i : Nat) : UInt8 := UInt8.ofNat (s.wd (i / 4) >>> (i % 4 * 8)).toNat
abbrev e8 (d : Nat → UInt8) (i : Nat) : Value := .int .u8 ((d i).toNat : Int)
def dgv (d : Nat → UInt8) : Value := .agg #[e8 d 0, e8 d 1, e8 d 2, e8 d 3, e8 d 4, e8 d 5, e8 d 6, e8 d 7, e8 d 8, e8 d 9, e8 d 10, e8 d 11, e8 d 12, e8 d 13, e8 d 14, e8 d 15]
theorem St4.wd {W : World} {N : Nat} {s : S4} (h : St4 W N s) (j : Nat) (hj : j < 4) : W.cell? ⟨N, j, none⟩ = some (.int .u32 (U (s.wd j))) ∧ W.frozen? ⟨N, j, none⟩ = false := by
  obtain ⟨⟨a, b, c, d⟩, ⟨e, f, g, i⟩⟩ := h
  rcases (show j = 0 ∨ j = 1 ∨ j = 2 ∨ j = 3 by omega) with rfl | rfl | rfl | rfl
  · exact ⟨a, e⟩
  · exact ⟨b, f⟩
  · exact ⟨c, g⟩
  · exact ⟨d, i⟩
theorem own0 (W : World) (base : Nat) (h : base ≤ W.heap.size) : (W.alloc (.cells #[] 5)).ownsRow base 5 1 (.slice (some ⟨W.heap.size, 0, none⟩) 0 0) 0 [] :=
  ⟨rfl, .inr ⟨W.heap.size, 0, #[], rfl, h, by simp [World.alloc, -World.alloc_eq], by omega, by unfold maxLen; omega, rfl, rfl⟩⟩
theorem pad_to (n : Nat) (hn : n ≤ 1099511627776) (p : List UInt8) (hp : p = padF n) (w : World) :
    Calls Tryd.prog 15 #[.int .i64 n] w fun e w' => (∃ v, e = .returned (.tuple #[v, .int .i64 0]) ∧ RowB w' v p) ∧ Below w.heap.size w w' := by
  subst hp
  exact (padding_any n hn w).mono fun e w' ⟨⟨v, h1, h2⟩, h3⟩ => ⟨⟨v, h1, Row.of_owned h2⟩, h3⟩

def z16 (t : TypeId) : Obj := .cells #[.int .u8 0, .int .u8 0, .int .u8 0, .int .u8 0, .int .u8 0, .int .u8 0, .int .u8 0, .int .u8 0, .int .u8 0, .int .u8 0, .int .u8 0, .int .u8 0, .int .u8 0, .int .u8 0, .int .u8 0, .int .u8 0] t
/-- Sixteen bytes at a block. -/
def B16 (W : World) (N : Nat) (d : Nat → UInt8) : Prop := ∀ i, i < 16 → W.cell? ⟨N, i, none⟩ = some (e8 d i) ∧ W.frozen? ⟨N, i, none⟩ = false
theorem B16.block {W W' : World} {N : Nat} {d : Nat → UInt8} (h : B16 W N d) (hb : W'.heap[N]? = W.heap[N]?) : B16 W' N d := fun i hi =>
  ⟨(World.cell?_of_block (w := W) hb).trans (h i hi).1, (World.frozen?_of_block (w := W) hb).trans (h i hi).2⟩
theorem B16.new (w : World) (t : TypeId) : B16 (w.alloc (z16 t)) w.heap.size (fun _ => 0) := by
  intro i hi
  rcases (show i = 0 ∨ i = 1 ∨ i = 2 ∨ i = 3 ∨ i = 4 ∨ i = 5 ∨ i = 6 ∨ i = 7 ∨ i = 8 ∨ i = 9 ∨ i = 10 ∨ i = 11 ∨ i = 12 ∨ i = 13 ∨ i = 14 ∨ i = 15 by omega) with rfl | rfl | rfl | rfl | rfl | rfl | rfl | rfl | rfl | rfl | rfl | rfl | rfl | rfl | rfl | rfl <;> simp [go_sem, z16]
theorem B16.set {W : World} {N : Nat} {d : Nat → UInt8} (h : B16 W N d) (k : Nat) (hk : k < 16) (x : UInt8) : B16 (W.setCell ⟨N, k, none⟩ (.int .u8 (x.toNat : Int))) N (fun i => if i = k then x else d i) := by
  intro i hi
  obtain ⟨hv, hf⟩ := h i hi
  refine ⟨?_, by rw [World.frozen?_setCell]; exact hf⟩
  by_cases e : i = k
  · subst e
    simp only [e8, if_true]
    exact World.cell?_setCell_same' _ _ _ (by rw [hv]; rfl)
  · simp only [e8, if_neg e]
    exact (World.cell?_setCell_other W ⟨N, k, none⟩ ⟨N, i, none⟩ _ (fun h => e (congrArg Addr.off h).symm)).trans hv
theorem dig_end {w W1 W4 : World} {s : S4} (r : S4) (hsz : w.heap.size + 2 ≤ W1.heap.size) (hc : St4 W1 w.heap.size s) (hz : B16 W1 (w.heap.size + 1) (fun _ => 0)) (hB : Below w.heap.size w W1) (hb : Below W1.heap.size W1 W4) :
    Hid (St4 (St4.setAll W4 w.heap.size r) w.heap.size r) ∧ Hid (B16 (St4.setAll W4 w.heap.size r) (w.heap.size + 1) (fun _ => 0)) ∧ Hid (Below w.heap.size w (St4.setAll W4 w.heap.size r)) ∧ w.heap.size + 2 ≤ (St4.setAll W4 w.heap.size r).heap.size := by
  refine ⟨(hc.block (hb.block _ (by omega))).set r, (hz.block (hb.block _ (by omega))).block (setAll_other r (by omega)), setAll_below r (hB.trans (hb.mono (by omega))) (Nat.le_refl _), ?_⟩
  have := hb.size
  simp [St4.setAll]
  omega
theorem cell_on {W : World} {a : Addr} {v : Value} (o : Obj) (h : W.cell? a = some v) : (W.alloc o).cell? a = some v := cell_kept h (World.grownBy_alloc W o none) (fun r e => by cases e)
theorem B16.cells {W : World} {N : Nat} {d : Nat → UInt8} (h : B16 W N d) : W.cell? ⟨N, 0, none⟩ = some (e8 d 0) ∧ W.cell? ⟨N, 1, none⟩ = some (e8 d 1) ∧ W.cell? ⟨N, 2, none⟩ = some (e8 d 2) ∧ W.cell? ⟨N, 3, none⟩ = some (e8 d 3) ∧ W.cell? ⟨N, 4, none⟩ = some (e8 d 4) ∧ W.cell? ⟨N, 5, none⟩ = some (e8 d 5) ∧ W.cell? ⟨N, 6, none⟩ = some (e8 d 6) ∧ W.cell? ⟨N, 7, none⟩ = some (e8 d 7) ∧ W.cell? ⟨N, 8, none⟩ = some (e8 d 8) ∧ W.cell? ⟨N, 9, none⟩ = some (e8 d 9) ∧ W.cell? ⟨N, 10, none⟩ = some (e8 d 10) ∧ W.cell? ⟨N, 11, none⟩ = some (e8 d 11) ∧ W.cell? ⟨N, 12, none⟩ = some (e8 d 12) ∧ W.cell? ⟨N, 13, none⟩ = some (e8 d 13) ∧ W.cell? ⟨N, 14, none⟩ = some (e8 d 14) ∧ W.cell? ⟨N, 15, none⟩ = some (e8 d 15) := ⟨(h 0 (by omega)).1, (h 1 (by omega)).1, (h 2 (by omega)).1, (h 3 (by omega)).1, (h 4 (by omega)).1, (h 5 (by omega)).1, (h 6 (by omega)).1, (h 7 (by omega)).1, (h 8 (by omega)).1, (h 9 (by omega)).1, (h 10 (by omega)).1, (h 11 (by omega)).1, (h 12 (by omega)).1, (h 13 (by omega)).1, (h 14 (by omega)).1, (h 15 (by omega)).1⟩
theorem B16.frees {W : World} {N : Nat} {d : Nat → UInt8} (h : B16 W N d) : W.frozen? ⟨N, 0, none⟩ = false ∧ W.frozen? ⟨N, 1, none⟩ = false ∧ W.frozen? ⟨N, 2, none⟩ = false ∧ W.frozen? ⟨N, 3, none⟩ = false ∧ W.frozen? ⟨N, 4, none⟩ = false ∧ W.frozen? ⟨N, 5, none⟩ = false ∧ W.frozen? ⟨N, 6, none⟩ = false ∧ W.frozen? ⟨N, 7, none⟩ = false ∧ W.frozen? ⟨N, 8, none⟩ = false ∧ W.frozen? ⟨N, 9, none⟩ = false ∧ W.frozen? ⟨N, 10, none⟩ = false ∧ W.frozen? ⟨N, 11, none⟩ = false ∧ W.frozen? ⟨N, 12, none⟩ = false ∧ W.frozen? ⟨N, 13, none⟩ = false ∧ W.frozen? ⟨N, 14, none⟩ = false ∧ W.frozen? ⟨N, 15, none⟩ = false := ⟨(h 0 (by omega)).2, (h 1 (by omega)).2, (h 2 (by omega)).2, (h 3 (by omega)).2, (h 4 (by omega)).2, (h 5 (by omega)).2, (h 6 (by omega)).2, (h 7 (by omega)).2, (h 8 (by omega)).2, (h 9 (by omega)).2, (h 10 (by omega)).2, (h 11 (by omega)).2, (h 12 (by omega)).2, (h 13 (by omega)).2, (h 14 (by omega)).2, (h 15 (by omega)).2⟩
theorem B16.congr {W : World} {N : Nat} {d d' : Nat → UInt8} (h : B16 W N d) (e : ∀ i, i < 16 → d i = d' i) : B16 W N d' := fun i hi => by
  have := h i hi
  rw [show e8 d' i = e8 d i by show Value.int _ _ = Value.int _ _; rw [e i hi]]
  exact this
theorem heap_other' {A : World} {b j k : Nat} {v : Value} (h : k ≠ b) : (A.setCell ⟨b, j, none⟩ v).heap[k]? = A.heap[k]? := Below.heap_setCell _ ⟨b, j, none⟩ v k h
theorem dgF_U (s : S4) (i : Nat) : U (s.wd (i / 4)) / 2 ^ (i % 4 * 8) % 256 = ((dgF s i).toNat : Int) := by
  unfold dgF U
  rw [UInt8.toNat_ofNat', BitVec.toNat_ushiftRight, Nat.shiftRight_eq_div_pow]
  simp
theorem dg_step (d : Nat → UInt8) (k : Nat) : ∀ i, i < 16 → (if i = k then d k else if i < k then d i else 0) = (if i < k + 1 then d i else 0) := by
  intro i _
  by_cases h : i = k
  · subst h; simp
  · by_cases h2 : i < k
    · simp [h, h2, Nat.lt_succ_of_lt h2]
    · have : ¬ i < k + 1 := by omega
      simp [h, h2, this]
def setAll16 (W : World) (N : Nat) (d : Nat → UInt8) : World := (((((((((((((((W.setCell ⟨N, 0, none⟩ (.int .u8 ((d 0).toNat : Int))).setCell ⟨N, 1, none⟩ (.int .u8 ((d 1).toNat : Int))).setCell ⟨N, 2, none⟩ (.int .u8 ((d 2).toNat : Int))).setCell ⟨N, 3, none⟩ (.int .u8 ((d 3).toNat : Int))).setCell ⟨N, 4, none⟩ (.int .u8 ((d 4).toNat : Int))).setCell ⟨N, 5, none⟩ (.int .u8 ((d 5).toNat : Int))).setCell ⟨N, 6, none⟩ (.int .u8 ((d 6).toNat : Int))).setCell ⟨N, 7, none⟩ (.int .u8 ((d 7).toNat : Int))).setCell ⟨N, 8, none⟩ (.int .u8 ((d 8).toNat : Int))).setCell ⟨N, 9, none⟩ (.int .u8 ((d 9).toNat : Int))).setCell ⟨N, 10, none⟩ (.int .u8 ((d 10).toNat : Int))).setCell ⟨N, 11, none⟩ (.int .u8 ((d 11).toNat : Int))).setCell ⟨N, 12, none⟩ (.int .u8 ((d 12).toNat : Int))).setCell ⟨N, 13, none⟩ (.int .u8 ((d 13).toNat : Int))).setCell ⟨N, 14, none⟩ (.int .u8 ((d 14).toNat : Int))).setCell ⟨N, 15, none⟩ (.int .u8 ((d 15).toNat : Int))
theorem B16.setAll {W : World} {N : Nat} {d0 : Nat → UInt8} (h : B16 W N d0) (d : Nat → UInt8) : B16 (setAll16 W N d) N d := by
  refine ((((((((((((((((h.set 0 (by omega) (d 0)).set 1 (by omega) (d 1)).set 2 (by omega) (d 2)).set 3 (by omega) (d 3)).set 4 (by omega) (d 4)).set 5 (by omega) (d 5)).set 6 (by omega) (d 6)).set 7 (by omega) (d 7)).set 8 (by omega) (d 8)).set 9 (by omega) (d 9)).set 10 (by omega) (d 10)).set 11 (by omega) (d 11)).set 12 (by omega) (d 12)).set 13 (by omega) (d 13)).set 14 (by omega) (d 14)).set 15 (by omega) (d 15)).congr (fun i hi => ?_)
  rcases (show i = 0 ∨ i = 1 ∨ i = 2 ∨ i = 3 ∨ i = 4 ∨ i = 5 ∨ i = 6 ∨ i = 7 ∨ i = 8 ∨ i = 9 ∨ i = 10 ∨ i = 11 ∨ i = 12 ∨ i = 13 ∨ i = 14 ∨ i = 15 by omega) with rfl | rfl | rfl | rfl | rfl | rfl | rfl | rfl | rfl | rfl | rfl | rfl | rfl | rfl | rfl | rfl <;> simp
theorem setAll16_below {n N : Nat} {A B : World} (d : Nat → UInt8) (h : Below n A B) (hn : n ≤ N) : Below n A (setAll16 B N d) :=
  ((((((((((((((((h.setCell (p := ⟨N, 0, none⟩) hn _).setCell (p := ⟨N, 1, none⟩) hn _).setCell (p := ⟨N, 2, none⟩) hn _).setCell (p := ⟨N, 3, none⟩) hn _).setCell (p := ⟨N, 4, none⟩) hn _).setCell (p := ⟨N, 5, none⟩) hn _).setCell (p := ⟨N, 6, none⟩) hn _).setCell (p := ⟨N, 7, none⟩) hn _).setCell (p := ⟨N, 8, none⟩) hn _).setCell (p := ⟨N, 9, none⟩) hn _).setCell (p := ⟨N, 10, none⟩) hn _).setCell (p := ⟨N, 11, none⟩) hn _).setCell (p := ⟨N, 12, none⟩) hn _).setCell (p := ⟨N, 13, none⟩) hn _).setCell (p := ⟨N, 14, none⟩) hn _).setCell (p := ⟨N, 15, none⟩) hn _)
theorem enc8_all (l : List UInt8) : ∀ c ∈ l.map enc8, c.oneCell' = true := by
  intro c hc
  obtain ⟨x, _, rfl⟩ := List.mem_map.1 hc
  rfl
theorem row_of3 {W : World} {base n : Nat} {v : Value} {l p : List UInt8} (h : W.ownsRow base 5 1 v n ([] ++ l.map enc8 ++ p.map enc8)) : RowB W v (l ++ p) := by
  rw [List.nil_append, ← List.map_append] at h
  exact Row.of_owned h
set_option maxRecDepth 100000 in
set_option maxHeartbeats 1000000 in
theorem digest_any (s r : S4) (v : Value) (l : List UInt8) (n : Nat) (hn : n ≤ 1099511627776) (hl : l.length ≤ 1099511627776) (hrr : r = allF s (l ++ padF n)) (w : World) (hT : Tabs w) (hr : RowB w v l) :
    Calls Tryd.prog 34 #[.agg #[.int .u32 (U s.a), .int .u32 (U s.b), .int .u32 (U s.c), .int .u32 (U s.d)], v, .int .i64 n] w fun e w' => e = .returned (dgv (dgF r)) ∧ Below w.heap.size w w' := by
  obtain ⟨p, hp⟩ : ∃ p, Hid (p = padF n) := ⟨_, rfl⟩
  have hpl : p.length ≤ 128 := by rw [hp.out, padF_len]; have := z0_lt n; omega
  have hcall := Lib.hid (fun W => pad_to n hn p hp.out W)
  rw [← hp.out] at hrr
  have c0 := St4.new w s 30
  replace hT := Lib.hid hT
  replace hr := Lib.hid hr
  replace c0 := Lib.hid c0
  replace hrr := Lib.hid hrr
  go_enter Tryd.func34, Tryd.ntmps34
  go_wp2_with fail
  have z0 := B16.new (w.alloc (.cells #[.int .u32 (U s.a), .int .u32 (U s.b), .int .u32 (U s.c), .int .u32 (U s.d)] 30)) 34
  have hz := z0
  simp only [World.size_alloc] at z0
  replace c0 := St4.block c0.out (Below.heap_alloc (w.alloc (.cells #[.int .u32 (U s.a), .int .u32 (U s.b), .int .u32 (U s.c), .int .u32 (U s.d)] 30)) (z16 34) w.heap.size (by simp))
  have hB0 : Below w.heap.size w ((w.alloc (.cells #[.int .u32 (U s.a), .int .u32 (U s.b), .int .u32 (U s.c), .int .u32 (U s.d)] 30)).alloc (z16 34)) := ((Below.refl _ w).alloc (Nat.le_refl _) _).alloc (by simp) _
  have hsz : ((w.alloc (.cells #[.int .u32 (U s.a), .int .u32 (U s.b), .int .u32 (U s.c), .int .u32 (U s.d)] 30)).alloc (z16 34)).heap.size = w.heap.size + 2 := by simp
  show Calls _ _ _ ((w.alloc (.cells #[.int .u32 (U s.a), .int .u32 (U s.b), .int .u32 (U s.c), .int .u32 (U s.d)] 30)).alloc (z16 34)) _
  generalize (w.alloc (.cells #[.int .u32 (U s.a), .int .u32 (U s.b), .int .u32 (U s.c), .int .u32 (U s.d)] 30)).alloc (z16 34) = W0 at c0 z0 hB0 hsz ⊢
  clear hz
  refine (hcall.out _).mono ?_; rintro e W1 ⟨⟨pv, rfl, hp1⟩, hb1⟩
  replace c0 := c0.block (hb1.block _ (by omega))
  replace z0 := z0.block (hb1.block _ (by omega))
  replace hB0 := hB0.trans (hb1.mono (by omega))
  replace hT := hT.out.on hB0
  replace hr := hr.out.on hB0
  replace hsz : w.heap.size + 2 ≤ W1.heap.size := by have := hb1.size; omega
  clear hb1 hcall
  replace hT := Lib.hid hT
  replace hr := Lib.hid hr
  replace hp1 := Lib.hid hp1
  replace z0 := Lib.hid z0
  replace hB0 := Lib.hid hB0
  have C0 := Lib.hid c0
  obtain ⟨⟨e0, e1, e2, e3⟩, ⟨f0, f1, f2, f3⟩⟩ := c0
  have q0 := fun o => cell_on o e0
  have q1 := fun o => cell_on o e1
  have q2 := fun o => cell_on o e2
  have q3 := fun o => cell_on o e3
  go_upto_region 2 with (fail)
  go_cut [24] (fun _ wx => Hid (St4 wx w.heap.size r) ∧ Hid (B16 wx (w.heap.size + 1) (fun _ => 0)) ∧ Hid (Below w.heap.size w wx) ∧ w.heap.size + 2 ≤ wx.heap.size)
  case first =>
    go_region_law
      (first
        | (refine arm_app rfl (.tmp 18) (.tmp 19) 24 rfl W1.heap.size 5 (.int .u8 0) 1 Tryd.underlying24 info5 rfl _ 0 [] rfl v (l.map enc8) rfl ?_ ?_ ?_ ?_ ?_ ?_ ?_
           · exact own0 W1 W1.heap.size (Nat.le_refl _)
           · exact hr.out.on (((Below.refl _ W1).alloc (Nat.le_refl _) _).drew)
           · exact enc8_all l
           · omega
           · simp; omega
           · simp
           intro v2 W2 hown2' hb2 hs2
           have B2 := Lib.hid ((((Below.refl W1.heap.size W1).alloc (Nat.le_refl _) (.cells #[] 5)).drew).trans hb2)
           have S2 := C0.out.block (B2.out.block w.heap.size (by omega)); obtain ⟨⟨c0, c1, c2, c3⟩, _⟩ := S2
           have hs2' := B2.out.size
           have hown2 := Lib.hid hown2'
           clear hown2' hb2 hs2)
        | (refine arm_app rfl (.tmp 20) (.tmp 21) 24 rfl W1.heap.size 5 (.int .u8 0) 1 Tryd.underlying24 info5 rfl v2 _ _ rfl pv (p.map enc8) rfl hown2.out ?_ ?_ ?_ ?_ ?_ ?_
           · exact hp1.out.on B2.out
           · exact enc8_all p
           · omega
           · simp; omega
           · exact hs2'
           intro v3 W3 hown3' hb3 hs3
           have B3 := Lib.hid (B2.out.trans hb3)
           have S3 := C0.out.block (B3.out.block w.heap.size (by omega)); obtain ⟨⟨d0, d1, d2, d3⟩, _⟩ := S3
           have hs3' := B3.out.size
           have hown3 := Lib.hid (row_of3 hown3')
           clear hown3' hb3 hs3)
        | (go_simp
           go_at_call 33
           refine (all_row s r v3 (l ++ p) (restF (l ++ p)) hrr.out rfl W3 (hT.out.on B3.out) hown3.out).mono ?_
           rintro e W4 ⟨⟨u, rfl, _⟩, hb4⟩
           have B4 := Lib.hid (B3.out.trans (hb4.mono hs3'))
           have S4' := C0.out.block (B4.out.block w.heap.size (by omega))
           obtain ⟨⟨a0, a1, a2, a3⟩, ⟨b0, b1, b2, b3⟩⟩ := S4'))

    all_goals (have HX := dig_end r hsz C0.out z0.out hB0.out B4.out)
    all_goals go_wp2_with fail
    all_goals go_meet
    case' rel => exact HX
    all_goals exact HX
  case rest =>
    obtain ⟨c4, z4, hB4, hsz4⟩ := hcut
    clear q0 q1 q2 q3 e0 e1 e2 e3 f0 f1 f2 f3 C0 hT hr hp1 z0 hB0 hsz hn hl hrr
    go_wp2_with fail
    have z5 := Lib.hid (B16.new wc 34)
    replace c4 := Lib.hid (c4.out.block (Below.heap_alloc wc (z16 34) w.heap.size (by omega)))
    replace z4 := Lib.hid (z4.out.block (Below.heap_alloc wc (z16 34) (w.heap.size + 1) (by omega)))
    replace hB4 := Lib.hid (hB4.out.alloc (by omega) (z16 34))
    go_loopg [26] 16 (fun g s26 wr => ∃ i : Nat, i + g = 16 ∧ s26 = .int .i64 i ∧ Hid (St4 wr w.heap.size r) ∧ Hid (B16 wr (w.heap.size + 1) (fun _ => 0)) ∧ Hid (B16 wr wc.heap.size (fun j => if j < i then dgF r j else 0)) ∧ Hid (Below w.heap.size w wr))
    case atStart => exact ⟨0, by omega, rfl, c4, z4, z5, hB4⟩
    case round =>
      clear c4 z4 z5 hB4
      obtain ⟨i, hi, rfl, c4, z4, z5, hB4⟩ := hrel
      by_cases hlt : i < 16
      · have t1 : decide ((i : Int) < 16) = true := decide_eq_true (by omega)
        have hc := (c4.out.wd (i / 4) (by omega)).1
        have hz5 := (z5.out i hlt).1
        have hf5 := (z5.out i hlt).2
        go_wp2_with fail
        go_roundg (gk - 1)
        case measure => omega
        case rel =>
          rw [dgF_U]
          exact ⟨i + 1, by omega, by go_num, c4.out.block (heap_other' (by omega)), z4.out.block (heap_other' (by omega)), (z5.out.set i hlt _).congr (dg_step _ _), hB4.out.setCell (p := ⟨wc.heap.size, i, none⟩) (by show w.heap.size ≤ wc.heap.size; omega) _⟩
      · obtain rfl : i = 16 := by omega
        obtain ⟨d, hd⟩ : ∃ d, Hid (d = dgF r) := ⟨_, rfl⟩
        have z6 : B16 wr wc.heap.size d := by rw [hd.out]; exact z5.out.congr (fun i hi => by simp [hi])
        obtain ⟨x0, x1, x2, x3, x4, x5, x6, x7, x8, x9, x10, x11, x12, x13, x14, x15⟩ := z6.cells
        obtain ⟨y0, y1, y2, y3, y4, y5, y6, y7, y8, y9, y10, y11, y12, y13, y14, y15⟩ := z4.out.cells
        obtain ⟨g0, g1, g2, g3, g4, g5, g6, g7, g8, g9, g10, g11, g12, g13, g14, g15⟩ := z4.out.frees
        clear z6 z5 c4
        have HE := B16.setAll z4.out d
        have HB := Lib.hid (setAll16_below d hB4.out (show w.heap.size ≤ w.heap.size + 1 by omega))
        go_wp2_with fail
        show bodyPost _ _ _ _ _ (setAll16 wr (w.heap.size + 1) d)
        generalize setAll16 wr (w.heap.size + 1) d = WE at HE HB ⊢
        obtain ⟨k0, k1, k2, k3, k4, k5, k6, k7, k8, k9, k10, k11, k12, k13, k14, k15⟩ := HE.cells
        clear HE
        refine bodyPost_ret (v := .agg #[.int .u8 ((d 0).toNat : Int), .int .u8 ((d 1).toNat : Int), .int .u8 ((d 2).toNat : Int), .int .u8 ((d 3).toNat : Int), .int .u8 ((d 4).toNat : Int), .int .u8 ((d 5).toNat : Int), .int .u8 ((d 6).toNat : Int), .int .u8 ((d 7).toNat : Int), .int .u8 ((d 8).toNat : Int), .int .u8 ((d 9).toNat : Int), .int .u8 ((d 10).toNat : Int), .int .u8 ((d 11).toNat : Int), .int .u8 ((d 12).toNat : Int), .int .u8 ((d 13).toNat : Int), .int .u8 ((d 14).toNat : Int), .int .u8 ((d 15).toNat : Int)]) (by simp [results, Tryd.results34, go_sem, k0, k1, k2, k3, k4, k5, k6, k7, k8, k9, k10, k11, k12, k13, k14, k15]) rfl ⟨?_, HB.out⟩
        rw [← hd.out]
        rfl
end Go.Proofs.YtimiejahkcjcdaaDoor
