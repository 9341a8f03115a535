/- Parts of the proof: Q5. -/
import Derived.Deep.CutBlock
import Derived.Deep.CutRange
import Derived.Deep.DeepCutAuto
import Derived.Test.YtdeimnnpcfncpaaGreatDoorC19
import Derived.Test.YtdeimnnpcfncpaaGreatDoorC45
import Derived.Test.YtdeimnnpcfncpaaGreatDoorC42
import Derived.Test.YtdeimnnpcfncpaaGreatDoorC47
section
namespace Go.Proofs.YtdeimnnpcfncpaaGreatDoor.X
open Go Go.RowKit
set_option linter.unusedVariables false
set_option linter.unusedSimpArgs false
theorem trow_new (W : World) (ts : List (List UInt8)) : TRow (W.alloc (.cells (ts.map fun t => Value.string (BS t)).toArray 9)) W.heap.size ts := by
  refine ⟨by simp, fun i hi => ?_⟩
  rw [Lib.cell_of_heap (World.alloc_heap_new W _)]
  simp [List.getD_eq_getElem?_getD, List.getElem?_eq_getElem hi]
theorem slrow3 (W : World) (s1 s2 s3 : Smp) (l1 l2 l3 : Value) (h1 : LRow W l1 s1.ls) (h2 : LRow W l2 s2.ls) (h3 : LRow W l3 s3.ls) :
    SLRow (W.alloc (.cells #[l1, .int .u64 (s1.bits : Int), .bool s1.st, .int .i64 s1.t, l2, .int .u64 (s2.bits : Int), .bool s2.st, .int .i64 s2.t, l3, .int .u64 (s3.bits : Int), .bool s3.st, .int .i64 s3.t] 34)) (.slice (some ⟨W.heap.size, 0, none⟩) 3 3) [s1, s2, s3] := by
  have hb : ∀ o, Below W.heap.size W (W.alloc o) := fun o => (Below.refl _ _).alloc (Nat.le_refl _) o
  refine .inr ⟨W.heap.size, 0, 3, rfl, by simp, Nat.le_refl _, by decide, fun i hi => ?_⟩
  have hc : ∀ o j, (W.alloc (.cells o 34)).cell? ⟨W.heap.size, j, none⟩ = o[j]? := fun o j => by rw [Lib.cell_of_heap (World.alloc_heap_new W _)]
  have hi3 : i < 3 := hi
  rcases (by omega : i = 0 ∨ i = 1 ∨ i = 2) with rfl | rfl | rfl
  · exact ⟨l1, ⟨by rw [hc]; rfl, by rw [hc]; rfl, by rw [hc]; rfl, by rw [hc]; rfl⟩, h1.on (hb _)⟩
  · exact ⟨l2, ⟨by rw [hc]; rfl, by rw [hc]; rfl, by rw [hc]; rfl, by rw [hc]; rfl⟩, h2.on (hb _)⟩
  · exact ⟨l3, ⟨by rw [hc]; rfl, by rw [hc]; rfl, by rw [hc]; rfl, by rw [hc]; rfl⟩, h3.on (hb _)⟩
theorem abcL : ∀ s ∈ [sA, sB, sC], s.ls.length ≤ 1000000000 := by decide
theorem rd_of (x : List UInt8) (e : Int) (s : Smp) (h : readF x = (e, s)) (hl : x.length ≤ 780) (hv : (vword x).length ≤ 780) (W : World) (hG : EGlb W) : Calls Tryz.prog 27 #[.string (BS x)] W fun r w' =>
    (∃ a n c, r = .returned (.tuple #[.agg #[.slice a n c, .int .u64 (s.bits : Int), .bool s.st, .int .i64 s.t], .int .i64 e]) ∧ LRow w' (.slice a n c) s.ls) ∧ Below W.heap.size W w' := by
  refine (read_to x (by omega) (fun _ => pcon_of (.inl hv)) W hG).mono ?_
  rintro r w' ⟨v, rfl, ⟨lv, hv, ho⟩, hb⟩
  rw [h] at hv ho ⊢
  obtain ⟨a, c, rfl⟩ := own_shape ho
  exact ⟨⟨a, _, c, by rw [hv], LRow.of_owned ho⟩, hb⟩
theorem ps_of (x : List UInt8) (e n : Int) (b : Bdy) (h : parseF x = (e, n, b)) (hl : x.length ≤ 780) (hv : ∀ y ∈ L.linesL x, (vword y).length ≤ 780) (W : World) (hG : EGlb W) : Calls Tryz.prog 32 #[.string (BS x)] W fun r w' =>
    (∃ a1 c1 n1 a2 c2 a3 c3, r = .returned (.tuple #[.agg #[.slice a1 n1 c1, .slice a2 b.t.length c2, .slice a3 b.h.length c3], .int .i64 n, .int .i64 e]) ∧ LRow w' (.slice a3 b.h.length c3) b.h) ∧ Below W.heap.size W w' := by
  unfold parseF at h
  rw [if_neg (by omega)] at h
  refine (callsIn_wide.1 (parse_in x (by omega) (fun y hy => pcon_of (.inl (hv y hy))) W hG e n b h)).mono ?_
  rintro r w' ⟨⟨sv, tv, hv, rfl, ⟨⟨ps, q1, q2, q3⟩, q4, q5⟩⟩, hb⟩
  have LR := LRow.of_own q5
  obtain ⟨a1, c1, rfl⟩ := own_shape q2
  obtain ⟨a2, c2, rfl⟩ := own_shape q4
  obtain ⟨a3, c3, rfl⟩ := own_shape q5
  exact ⟨⟨_, _, _, _, _, _, _, rfl, LR⟩, hb⟩
def xs8 : List (List UInt8) := [x1, x2, x3, x4, x5, x6, x7, x8]
def es8 : List Int := [230, 231, 232, 232, 233, 233, 234, 235]
theorem rd8 (i : Nat) (h : i < 8) : readF (xs8.getD i []) = (es8.getD i 0, smp0) ∧ (xs8.getD i []).length ≤ 780 ∧ (vword (xs8.getD i [])).length ≤ 780 := by
  rcases (by omega : i = 0 ∨ i = 1 ∨ i = 2 ∨ i = 3 ∨ i = 4 ∨ i = 5 ∨ i = 6 ∨ i = 7) with rfl | rfl | rfl | rfl | rfl | rfl | rfl | rfl
  · exact ⟨r1, by decide, by decide +kernel⟩
  · exact ⟨r2, by decide, by decide +kernel⟩
  · exact ⟨r3, by decide, by decide +kernel⟩
  · exact ⟨r4, by decide, by decide +kernel⟩
  · exact ⟨r5, by decide, by decide +kernel⟩
  · exact ⟨r6, by decide, by decide +kernel⟩
  · exact ⟨r7, by decide, by decide +kernel⟩
  · exact ⟨r8, by decide, by decide +kernel⟩
set_option maxRecDepth 100000 in
set_option maxHeartbeats 16000000 in
theorem awake_any (w : World) (hG : EGlb w) : Calls Tryz.prog 13 #[] w fun e w' => e = .returned (.bool true) ∧ Below w.heap.size w w' := by
  have GG := Lib.hid (fun W (hb : Below w.heap.size w W) => hG.on hb)
  have h42 : ∀ args W, (callFunc 42 args).run Tryz.prog W = .ok (.enter 42 args) W := enters_of Tryz.func42 (by kernel_rfl) rfl
  have h35 : ∀ args W, (callFunc 35 args).run Tryz.prog W = .ok (.enter 35 args) W := enters_of Tryz.func35 (by kernel_rfl) rfl
  replace h42 := Lib.hid h42
  replace h35 := Lib.hid h35
  have kA := Lib.hid (rd_of xA 0 sA rA (by decide) (by decide +kernel))
  have kB := Lib.hid (rd_of xB 0 sB rB (by decide) (by decide +kernel))
  have kC := Lib.hid (rd_of xC 0 sC rC (by decide) (by decide +kernel))
  have E90 := eq90
  clear hG
  have B0 := Lib.hid (Below.refl w.heap.size w)
  go_enter Tryz.func13, Tryz.ntmps13
  go_wp2_with fail
  refine (kA.out _ (GG.out _ B0.out)).mono ?_; rintro e w1 ⟨⟨aA, nA, cA, rfl, LA⟩, Bx⟩
  have By : Below w1.heap.size w1 (w1.alloc (.cells #[.slice aA nA cA, .int .u64 (sA.bits : Int), .bool sA.st, .int .i64 sA.t] 34)) := (Below.refl _ _).alloc (Nat.le_refl _) _
  have Bz := Bx.trans (By.mono Bx.size)
  have BA := Lib.hid (B0.out.trans (Bz.mono B0.out.size))
  have NA : SB w1.heap.size (.slice aA nA cA) (sA.bits : Int) sA.st sA.t (w1.alloc (.cells #[.slice aA nA cA, .int .u64 (sA.bits : Int), .bool sA.st, .int .i64 sA.t] 34)) := World.alloc_heap_new w1 _
  replace LA := LA.on By
  clear Bx By Bz
  go_wp2_with fail
  have Q1 := NA
  generalize w1.alloc (.cells #[.slice aA nA cA, .int .u64 (sA.bits : Int), .bool sA.st, .int .i64 sA.t] 34) = wA at *
  generalize w1.heap.size = PA at *
  clear Q1
  replace NA := Lib.hid NA
  replace LA := Lib.hid LA
  refine (kB.out _ (GG.out _ BA.out)).mono ?_; rintro e w1 ⟨⟨aB, nB, cB, rfl, LB⟩, Bx⟩
  have By : Below w1.heap.size w1 (w1.alloc (.cells #[.slice aB nB cB, .int .u64 (sB.bits : Int), .bool sB.st, .int .i64 sB.t] 34)) := (Below.refl _ _).alloc (Nat.le_refl _) _
  have Bz := Bx.trans (By.mono Bx.size)
  have BB := Lib.hid (BA.out.trans (Bz.mono BA.out.size))
  have NB : SB w1.heap.size (.slice aB nB cB) (sB.bits : Int) sB.st sB.t (w1.alloc (.cells #[.slice aB nB cB, .int .u64 (sB.bits : Int), .bool sB.st, .int .i64 sB.t] 34)) := World.alloc_heap_new w1 _
  replace LB := LB.on By
  have NA' := NA.out.on Bz
  have LA' := LA.out.on Bz
  clear NA LA
  clear Bx By Bz
  go_wp2_with fail
  have Q1 := NB
  generalize w1.alloc (.cells #[.slice aB nB cB, .int .u64 (sB.bits : Int), .bool sB.st, .int .i64 sB.t] 34) = wB at *
  generalize w1.heap.size = PB at *
  clear Q1
  replace NB := Lib.hid NB
  replace LB := Lib.hid LB
  have NA := Lib.hid NA'
  have LA := Lib.hid LA'
  clear NA' LA'
  refine (kC.out _ (GG.out _ BB.out)).mono ?_; rintro e w1 ⟨⟨aC, nC, cC, rfl, LC⟩, Bx⟩
  have By : Below w1.heap.size w1 (w1.alloc (.cells #[.slice aC nC cC, .int .u64 (sC.bits : Int), .bool sC.st, .int .i64 sC.t] 34)) := (Below.refl _ _).alloc (Nat.le_refl _) _
  have Bz := Bx.trans (By.mono Bx.size)
  have BC := Lib.hid (BB.out.trans (Bz.mono BB.out.size))
  have NC : SB w1.heap.size (.slice aC nC cC) (sC.bits : Int) sC.st sC.t (w1.alloc (.cells #[.slice aC nC cC, .int .u64 (sC.bits : Int), .bool sC.st, .int .i64 sC.t] 34)) := World.alloc_heap_new w1 _
  replace LC := LC.on By
  have NA' := NA.out.on Bz
  have LA' := LA.out.on Bz
  clear NA LA
  have NB' := NB.out.on Bz
  have LB' := LB.out.on Bz
  clear NB LB
  clear Bx By Bz
  have kb0 := NB'.c0
  have kb1 := NB'.c1
  have kb2 := NB'.c2
  have kb3 := NB'.c3
  have cl := line_to (.agg #[.slice aB nB cB, .int .u64 (sB.bits : Int), .bool sB.st, .int .i64 sB.t]) sB ⟨by decide, by decide, by decide⟩ (by decide) (by decide) (w1.alloc (.cells #[.slice aC nC cC, .int .u64 (sC.bits : Int), .bool sC.st, .int .i64 sC.t] 34)) (GG.out _ BC.out) ⟨_, rfl, LB'⟩
  rw [lB] at cl
  replace cl := Lib.hid cl
  go_wp2_with fail
  have Q1 := NC
  generalize w1.alloc (.cells #[.slice aC nC cC, .int .u64 (sC.bits : Int), .bool sC.st, .int .i64 sC.t] 34) = wC at *
  generalize w1.heap.size = PC at *
  clear Q1
  replace NC := Lib.hid NC
  replace LC := Lib.hid LC
  have NA := Lib.hid NA'
  have LA := Lib.hid LA'
  clear NA' LA'
  have NB := Lib.hid NB'
  have LB := Lib.hid LB'
  clear NB' LB'
  refine cl.out.mono ?_; rintro e w4 ⟨rfl, B4⟩
  have NA := Lib.hid (NA.out.on B4)
  have NB := Lib.hid (NB.out.on B4)
  have NC := Lib.hid (NC.out.on B4)
  have LA := Lib.hid (LA.out.on B4)
  have LB := Lib.hid (LB.out.on B4)
  have LC := Lib.hid (LC.out.on B4)
  have BD := Lib.hid (BC.out.trans (B4.mono BC.out.size))
  clear B4 cl kb0 kb1 kb2 kb3
  go_upto_region 5 with (fail)
  go_cut [66] (fun s66 wx => s66 = .bool false ∧ Hid (Below w4.heap.size w4 wx))
  case first =>
    refine wp_region_facts (fun ix v W => match ix with | 0 => v = .int .i64 0 | 1 => v = .int .i64 0 | 2 => v = .int .i64 0 | 3 => v = .int .i64 0 | 4 => v = .int .i64 0 | 5 => v = .int .i64 0 | 6 => v = .int .i64 0 | 7 => v = .bool false | 8 => v = .bool false | 9 => v = .agg #[.slice aA nA cA, .int .u64 (sA.bits : Int), .bool sA.st, .int .i64 sA.t] | 10 => v = .agg #[.slice aB nB cB, .int .u64 (sB.bits : Int), .bool sB.st, .int .i64 sB.t] | 11 => v = .agg #[.slice aC nC cC, .int .u64 (sC.bits : Int), .bool sC.st, .int .i64 sC.t] | 12 => SLRow W v [sA, sB, sC] | 13 => (∃ b : Nat, v = .slice (some ⟨b, 0, none⟩) 2 2 ∧ TRow W b [[95, 95, 110, 97, 109, 101, 95, 95], [117, 112]]) | 14 => LRow W v sA.ls | 15 => SIn W v sA | 16 => (∃ b : Nat, v = .slice (some ⟨b, 0, none⟩) 6 6 ∧ TRow W b [[95, 95, 110, 97, 109, 101, 95, 95], [104, 116, 116, 112], [99, 111, 100, 101], [50, 48, 48], [112, 97, 116, 104], [47, 97, 34, 98]]) | 17 => LRow W v sB.ls | 18 => SIn W v sB | 19 => (∃ b : Nat, v = .slice (some ⟨b, 0, none⟩) 2 2 ∧ TRow W b [[95, 95, 110, 97, 109, 101, 95, 95], [97]]) | 20 => LRow W v sC.ls | 21 => SIn W v sC | 22 => SLRow W v [sA, sB, sC] | 23 => v = .bool true | 24 => v = .bool false | 25 => v = .bool false | 26 => v = .bool false | 27 => v = .string ⟨#[104, 116, 116, 112, 123, 99, 111, 100, 101, 61, 34, 50, 48, 48, 34, 44, 112, 97, 116, 104, 61, 34, 47, 97, 92, 34, 98, 34, 125, 32, 51, 53, 48, 32, 45, 49, 55]⟩ | 28 => v = .bool false | _ => v = .bool false)
      (by kernel_rfl) (by kernel_rfl) (by decide +kernel) (by kernel_rfl) (by intro ix v A B h hb; rcases ix with _ | _ | _ | _ | _ | _ | _ | _ | _ | _ | _ | _ | _ | _ | _ | _ | _ | _ | _ | _ | _ | _ | _ | _ | _ | _ | _ | _ | _ | _ | ix <;> first | exact h | (obtain ⟨N, e, g⟩ := h; exact ⟨N, e, g.on hb⟩) | exact SLRow.on h hb | exact LRow.on h hb | exact SIn.on h hb) ?_ ?_
    · intro ix
      rcases ix with _ | _ | _ | _ | _ | _ | _ | _ | _ | _ | _ | _ | _ | _ | _ | _ | _ | _ | _ | _ | _ | _ | _ | _ | _ | _ | _ | _ | _ | _ | ix
      all_goals intro o ho a wa hba hout hsz hpre
      all_goals cases ho
      all_goals have q1 : a.tmps.getD 1 undef = .pointer (some ⟨PA, 0, none⟩) := (hout 1 (by decide +kernel)).trans rfl
      all_goals have q3 : a.tmps.getD 3 undef = .pointer (some ⟨PB, 0, none⟩) := (hout 3 (by decide +kernel)).trans rfl
      all_goals have q5 : a.tmps.getD 5 undef = .pointer (some ⟨PC, 0, none⟩) := (hout 5 (by decide +kernel)).trans rfl
      all_goals have q2 : a.tmps.getD 2 undef = .int .i64 0 := (hout 2 (by decide +kernel)).trans rfl
      all_goals have q4 : a.tmps.getD 4 undef = .int .i64 0 := (hout 4 (by decide +kernel)).trans rfl
      all_goals have q6 : a.tmps.getD 6 undef = .int .i64 0 := (hout 6 (by decide +kernel)).trans rfl
      all_goals have q8 : a.tmps.getD 8 undef = .int .i64 0 := (hout 8 (by decide +kernel)).trans rfl
      all_goals have q7 : a.tmps.getD 7 undef = .string ⟨#[104, 116, 116, 112, 123, 99, 111, 100, 101, 61, 34, 50, 48, 48, 34, 44, 112, 97, 116, 104, 61, 34, 47, 97, 92, 34, 98, 34, 125, 32, 51, 53, 48, 32, 45, 49, 55]⟩ := (hout 7 (by decide +kernel)).trans rfl
      all_goals clear hout hsz
      · exact step_move rfl (met_none rfl) (.inl rfl) ⟨_, rfl, Below.refl _ _, q2⟩
      · exact step_move rfl (met_none rfl) (.inl rfl) ⟨_, rfl, Below.refl _ _, q4⟩
      · have p37 : a.tmps.getD 37 undef = .int .i64 0 := hpre ⟨0, .data⟩ (by simp) rfl _ rfl
        have p38 : a.tmps.getD 38 undef = .int .i64 0 := hpre ⟨1, .data⟩ (by simp) rfl _ rfl
        exact step_bin rfl (met_none rfl) rfl p37 p38 (r := .int .i64 0) (w' := wa) (by simp [go_sem]; decide) ⟨_, rfl, Below.refl _ _, rfl⟩
      · exact step_move rfl (met_none rfl) (.inl rfl) ⟨_, rfl, Below.refl _ _, q6⟩
      · have p39 : a.tmps.getD 39 undef = .int .i64 0 := hpre ⟨2, .data⟩ (by simp) rfl _ rfl
        have p40 : a.tmps.getD 40 undef = .int .i64 0 := hpre ⟨3, .data⟩ (by simp) rfl _ rfl
        exact step_bin rfl (met_none rfl) rfl p39 p40 (r := .int .i64 0) (w' := wa) (by simp [go_sem]; decide) ⟨_, rfl, Below.refl _ _, rfl⟩
      · exact step_move rfl (met_none rfl) (.inl rfl) ⟨_, rfl, Below.refl _ _, q8⟩
      · have p41 : a.tmps.getD 41 undef = .int .i64 0 := hpre ⟨4, .data⟩ (by simp) rfl _ rfl
        have p42 : a.tmps.getD 42 undef = .int .i64 0 := hpre ⟨5, .data⟩ (by simp) rfl _ rfl
        exact step_bin rfl (met_none rfl) rfl p41 p42 (r := .int .i64 0) (w' := wa) (by simp [go_sem]; decide) ⟨_, rfl, Below.refl _ _, rfl⟩
      · have p43 : a.tmps.getD 43 undef = .int .i64 0 := hpre ⟨6, .data⟩ (by simp) rfl _ rfl
        exact step_bin rfl (met_none rfl) rfl p43 rfl (r := .bool false) (w' := wa) (by simp [go_sem]) ⟨_, rfl, Below.refl _ _, rfl⟩
      · have p44 : a.tmps.getD 44 undef = .bool false := hpre ⟨7, .data⟩ (by simp) rfl _ rfl
        exact step_move rfl (met_none rfl) (.inl rfl) ⟨_, rfl, Below.refl _ _, p44⟩
      · have p45 : a.tmps.getD 45 undef = .bool false := hpre ⟨8, .guard⟩ (by simp) rfl _ rfl
        have hs := NA.out.on hba
        have h0 := hs.c0
        have h1 := hs.c1
        have h2 := hs.c2
        have h3 := hs.c3
        exact step_load rfl (met_some rfl rfl rfl p45) rfl q1 (by simp [go_sem, h0, h1, h2, h3]) ⟨_, rfl, Below.refl _ _, rfl⟩
      · have p45 : a.tmps.getD 45 undef = .bool false := hpre ⟨8, .guard⟩ (by simp) rfl _ rfl
        have hs := NB.out.on hba
        have h0 := hs.c0
        have h1 := hs.c1
        have h2 := hs.c2
        have h3 := hs.c3
        exact step_load rfl (met_some rfl rfl rfl p45) rfl q3 (by simp [go_sem, h0, h1, h2, h3]) ⟨_, rfl, Below.refl _ _, rfl⟩
      · have p45 : a.tmps.getD 45 undef = .bool false := hpre ⟨8, .guard⟩ (by simp) rfl _ rfl
        have hs := NC.out.on hba
        have h0 := hs.c0
        have h1 := hs.c1
        have h2 := hs.c2
        have h3 := hs.c3
        exact step_load rfl (met_some rfl rfl rfl p45) rfl q5 (by simp [go_sem, h0, h1, h2, h3]) ⟨_, rfl, Below.refl _ _, rfl⟩
      · have p45 : a.tmps.getD 45 undef = .bool false := hpre ⟨8, .guard⟩ (by simp) rfl _ rfl
        have p46 : a.tmps.getD 46 undef = .agg #[.slice aA nA cA, .int .u64 (sA.bits : Int), .bool sA.st, .int .i64 sA.t] := hpre ⟨9, .data⟩ (by simp) rfl _ rfl
        have p47 : a.tmps.getD 47 undef = .agg #[.slice aB nB cB, .int .u64 (sB.bits : Int), .bool sB.st, .int .i64 sB.t] := hpre ⟨10, .data⟩ (by simp) rfl _ rfl
        have p48 : a.tmps.getD 48 undef = .agg #[.slice aC nC cC, .int .u64 (sC.bits : Int), .bool sC.st, .int .i64 sC.t] := hpre ⟨11, .data⟩ (by simp) rfl _ rfl
        exact step_run rfl (met_some rfl rfl rfl p45) (v := .slice (some ⟨wa.heap.size, 0, none⟩) 3 3) (w' := wa.alloc (.cells #[.slice aA nA cA, .int .u64 (sA.bits : Int), .bool sA.st, .int .i64 sA.t, .slice aB nB cB, .int .u64 (sB.bits : Int), .bool sB.st, .int .i64 sB.t, .slice aC nC cC, .int .u64 (sC.bits : Int), .bool sC.st, .int .i64 sC.t] 34)) (by simp only [Array.getD_eq_getD_getElem?] at p46 p47 p48; simp [execOp, p46, p47, p48, go_sem]) ⟨_, rfl, (Below.refl _ _).alloc (Nat.le_refl _) _, slrow3 wa sA sB sC _ _ _ (LA.out.on hba) (LB.out.on hba) (LC.out.on hba)⟩
      · have p45 : a.tmps.getD 45 undef = .bool false := hpre ⟨8, .guard⟩ (by simp) rfl _ rfl
        exact step_run rfl (met_some rfl rfl rfl p45) (v := .slice (some ⟨wa.heap.size, 0, none⟩) 2 2) (w' := wa.alloc (.cells #[.string ⟨#[95, 95, 110, 97, 109, 101, 95, 95]⟩, .string ⟨#[117, 112]⟩] 9)) (by simp [execOp, go_sem]) ⟨_, rfl, (Below.refl _ _).alloc (Nat.le_refl _) _, _, rfl, trow_new wa [[95, 95, 110, 97, 109, 101, 95, 95], [117, 112]]⟩
      · have p45 : a.tmps.getD 45 undef = .bool false := hpre ⟨8, .chain⟩ (by simp) rfl _ rfl
        have p50 : (∃ b : Nat, (a.tmps.getD 50 undef) = .slice (some ⟨b, 0, none⟩) 2 2 ∧ TRow wa b [[95, 95, 110, 97, 109, 101, 95, 95], [117, 112]]) := hpre ⟨13, .data⟩ (by simp) rfl _ rfl
        obtain ⟨b, hb1, hb2⟩ := p50
        refine step_call rfl (met_some rfl rfl rfl p45) _ (args1 hb1) (h42 _ _) ((ofs_to b 2 1 _ rfl (by decide) wa hb2).mono ?_)
        rintro e w' ⟨v, rfl, hv, hb⟩
        exact ⟨_, rfl, _, rfl, hb, LRow.of_owned hv⟩
      · have p45 : a.tmps.getD 45 undef = .bool false := hpre ⟨8, .guard⟩ (by simp) rfl _ rfl
        have p51 : LRow wa (a.tmps.getD 51 undef) sA.ls := hpre ⟨14, .data⟩ (by simp) rfl _ rfl
        obtain ⟨za, zc, hz⟩ := p51.shape
        have hz2 := p51
        rw [hz] at hz2
        exact step_run rfl (met_some rfl rfl rfl p45) (v := .agg #[.slice za _ zc, .int .u64 4607182418800017408, .bool false, .int .i64 (0)]) (w' := wa) (by simp only [Array.getD_eq_getD_getElem?] at hz; simp [execOp, hz, go_sem]) ⟨_, rfl, Below.refl _ _, _, rfl, hz2⟩
      · have p45 : a.tmps.getD 45 undef = .bool false := hpre ⟨8, .guard⟩ (by simp) rfl _ rfl
        exact step_run rfl (met_some rfl rfl rfl p45) (v := .slice (some ⟨wa.heap.size, 0, none⟩) 6 6) (w' := wa.alloc (.cells #[.string ⟨#[95, 95, 110, 97, 109, 101, 95, 95]⟩, .string ⟨#[104, 116, 116, 112]⟩, .string ⟨#[99, 111, 100, 101]⟩, .string ⟨#[50, 48, 48]⟩, .string ⟨#[112, 97, 116, 104]⟩, .string ⟨#[47, 97, 34, 98]⟩] 9)) (by simp [execOp, go_sem]) ⟨_, rfl, (Below.refl _ _).alloc (Nat.le_refl _) _, _, rfl, trow_new wa [[95, 95, 110, 97, 109, 101, 95, 95], [104, 116, 116, 112], [99, 111, 100, 101], [50, 48, 48], [112, 97, 116, 104], [47, 97, 34, 98]]⟩
      · have p45 : a.tmps.getD 45 undef = .bool false := hpre ⟨8, .guard⟩ (by simp) rfl _ rfl
        have p53 : (∃ b : Nat, (a.tmps.getD 53 undef) = .slice (some ⟨b, 0, none⟩) 6 6 ∧ TRow wa b [[95, 95, 110, 97, 109, 101, 95, 95], [104, 116, 116, 112], [99, 111, 100, 101], [50, 48, 48], [112, 97, 116, 104], [47, 97, 34, 98]]) := hpre ⟨16, .data⟩ (by simp) rfl _ rfl
        obtain ⟨b, hb1, hb2⟩ := p53
        refine step_call rfl (met_some rfl rfl rfl p45) _ (args1 hb1) (h42 _ _) ((ofs_to b 6 3 _ rfl (by decide) wa hb2).mono ?_)
        rintro e w' ⟨v, rfl, hv, hb⟩
        exact ⟨_, rfl, _, rfl, hb, LRow.of_owned hv⟩
      · have p45 : a.tmps.getD 45 undef = .bool false := hpre ⟨8, .guard⟩ (by simp) rfl _ rfl
        have p54 : LRow wa (a.tmps.getD 54 undef) sB.ls := hpre ⟨17, .data⟩ (by simp) rfl _ rfl
        obtain ⟨za, zc, hz⟩ := p54.shape
        have hz2 := p54
        rw [hz] at hz2
        exact step_run rfl (met_some rfl rfl rfl p45) (v := .agg #[.slice za _ zc, .int .u64 4644864881307156480, .bool true, .int .i64 (-17)]) (w' := wa) (by simp only [Array.getD_eq_getD_getElem?] at hz; simp [execOp, hz, go_sem]) ⟨_, rfl, Below.refl _ _, _, rfl, hz2⟩
      · have p45 : a.tmps.getD 45 undef = .bool false := hpre ⟨8, .guard⟩ (by simp) rfl _ rfl
        exact step_run rfl (met_some rfl rfl rfl p45) (v := .slice (some ⟨wa.heap.size, 0, none⟩) 2 2) (w' := wa.alloc (.cells #[.string ⟨#[95, 95, 110, 97, 109, 101, 95, 95]⟩, .string ⟨#[97]⟩] 9)) (by simp [execOp, go_sem]) ⟨_, rfl, (Below.refl _ _).alloc (Nat.le_refl _) _, _, rfl, trow_new wa [[95, 95, 110, 97, 109, 101, 95, 95], [97]]⟩
      · have p45 : a.tmps.getD 45 undef = .bool false := hpre ⟨8, .guard⟩ (by simp) rfl _ rfl
        have p56 : (∃ b : Nat, (a.tmps.getD 56 undef) = .slice (some ⟨b, 0, none⟩) 2 2 ∧ TRow wa b [[95, 95, 110, 97, 109, 101, 95, 95], [97]]) := hpre ⟨19, .data⟩ (by simp) rfl _ rfl
        obtain ⟨b, hb1, hb2⟩ := p56
        refine step_call rfl (met_some rfl rfl rfl p45) _ (args1 hb1) (h42 _ _) ((ofs_to b 2 1 _ rfl (by decide) wa hb2).mono ?_)
        rintro e w' ⟨v, rfl, hv, hb⟩
        exact ⟨_, rfl, _, rfl, hb, LRow.of_owned hv⟩
      · have p45 : a.tmps.getD 45 undef = .bool false := hpre ⟨8, .guard⟩ (by simp) rfl _ rfl
        have p57 : LRow wa (a.tmps.getD 57 undef) sC.ls := hpre ⟨20, .data⟩ (by simp) rfl _ rfl
        obtain ⟨za, zc, hz⟩ := p57.shape
        have hz2 := p57
        rw [hz] at hz2
        exact step_run rfl (met_some rfl rfl rfl p45) (v := .agg #[.slice za _ zc, .int .u64 9221120237041090561, .bool false, .int .i64 (0)]) (w' := wa) (by simp only [Array.getD_eq_getD_getElem?] at hz; simp [execOp, hz, go_sem]) ⟨_, rfl, Below.refl _ _, _, rfl, hz2⟩
      · have p45 : a.tmps.getD 45 undef = .bool false := hpre ⟨8, .guard⟩ (by simp) rfl _ rfl
        have p52 : SIn wa (a.tmps.getD 52 undef) sA := hpre ⟨15, .data⟩ (by simp) rfl _ rfl
        have p55 : SIn wa (a.tmps.getD 55 undef) sB := hpre ⟨18, .data⟩ (by simp) rfl _ rfl
        have p58 : SIn wa (a.tmps.getD 58 undef) sC := hpre ⟨21, .data⟩ (by simp) rfl _ rfl
        obtain ⟨lv1, e1, g1⟩ := p52
        obtain ⟨lv2, e2, g2⟩ := p55
        obtain ⟨lv3, e3, g3⟩ := p58
        obtain ⟨x1, y1, rfl⟩ := g1.shape
        obtain ⟨x2, y2, rfl⟩ := g2.shape
        obtain ⟨x3, y3, rfl⟩ := g3.shape
        exact step_run rfl (met_some rfl rfl rfl p45) (v := .slice (some ⟨wa.heap.size, 0, none⟩) 3 3) (w' := wa.alloc (.cells #[.slice x1 _ y1, .int .u64 (sA.bits : Int), .bool sA.st, .int .i64 sA.t, .slice x2 _ y2, .int .u64 (sB.bits : Int), .bool sB.st, .int .i64 sB.t, .slice x3 _ y3, .int .u64 (sC.bits : Int), .bool sC.st, .int .i64 sC.t] 34)) (by simp only [Array.getD_eq_getD_getElem?] at e1 e2 e3; simp [execOp, e1, e2, e3, go_sem]) ⟨_, rfl, (Below.refl _ _).alloc (Nat.le_refl _) _, slrow3 wa sA sB sC _ _ _ g1 g2 g3⟩
      · have p45 : a.tmps.getD 45 undef = .bool false := hpre ⟨8, .guard⟩ (by simp) rfl _ rfl
        have p49 : SLRow wa (a.tmps.getD 49 undef) [sA, sB, sC] := hpre ⟨12, .data⟩ (by simp) rfl _ rfl
        have p59 : SLRow wa (a.tmps.getD 59 undef) [sA, sB, sC] := hpre ⟨22, .data⟩ (by simp) rfl _ rfl
        refine step_call rfl (met_some rfl rfl rfl p45) _ (args2 rfl rfl) (h35 _ _) ((samples_to _ _ [sA, sB, sC] [sA, sB, sC] (by decide) (by decide) abcL abcL wa p49 p59).mono ?_)
        rintro e w' ⟨rfl, hb⟩
        exact ⟨_, rfl, _, rfl, hb, congrArg Value.bool ((smpsE_iff _ _).2 rfl)⟩
      · have p45 : a.tmps.getD 45 undef = .bool false := hpre ⟨8, .guard⟩ (by simp) rfl _ rfl
        have p60 : a.tmps.getD 60 undef = .bool true := hpre ⟨23, .data⟩ (by simp) rfl _ rfl
        exact step_run rfl (met_some rfl rfl rfl p45) (v := .bool false) (w' := wa) (by simp only [Array.getD_eq_getD_getElem?] at p60; simp [execOp, p60, go_sem]) ⟨_, rfl, Below.refl _ _, rfl⟩
      · have p45 : a.tmps.getD 45 undef = .bool false := hpre ⟨8, .data⟩ (by simp) rfl _ rfl
        have p61 : a.tmps.getD 61 undef = .bool false := hpre ⟨24, .data⟩ (by simp) rfl _ rfl
        exact step_pick rfl (met_none rfl) rfl p45 ⟨_, rfl, Below.refl _ _, p61⟩
      · have p62 : a.tmps.getD 62 undef = .bool false := hpre ⟨25, .data⟩ (by simp) rfl _ rfl
        exact step_move rfl (met_none rfl) (.inl rfl) ⟨_, rfl, Below.refl _ _, p62⟩
      · have p63 : a.tmps.getD 63 undef = .bool false := hpre ⟨26, .guard⟩ (by simp) rfl _ rfl
        exact step_move rfl (met_some rfl rfl rfl p63) (.inl rfl) ⟨_, rfl, Below.refl _ _, q7⟩
      · have p63 : a.tmps.getD 63 undef = .bool false := hpre ⟨26, .guard⟩ (by simp) rfl _ rfl
        have p64 : a.tmps.getD 64 undef = .string ⟨#[104, 116, 116, 112, 123, 99, 111, 100, 101, 61, 34, 50, 48, 48, 34, 44, 112, 97, 116, 104, 61, 34, 47, 97, 92, 34, 98, 34, 125, 32, 51, 53, 48, 32, 45, 49, 55]⟩ := hpre ⟨27, .data⟩ (by simp) rfl _ rfl
        exact step_bin rfl (met_some rfl rfl rfl p63) rfl p64 rfl (r := .bool false) (w' := wa) (by simp [go_sem]) ⟨_, rfl, Below.refl _ _, rfl⟩
      · have p63 : a.tmps.getD 63 undef = .bool false := hpre ⟨26, .data⟩ (by simp) rfl _ rfl
        have p65 : a.tmps.getD 65 undef = .bool false := hpre ⟨28, .data⟩ (by simp) rfl _ rfl
        exact step_pick rfl (met_none rfl) rfl p63 ⟨_, rfl, Below.refl _ _, p65⟩
    · intro a wa hba hF ha
      have f0 : a.tmps.getD 37 undef = .int .i64 0 := hF 0 _ rfl
      have f1 : a.tmps.getD 38 undef = .int .i64 0 := hF 1 _ rfl
      have f2 : a.tmps.getD 39 undef = .int .i64 0 := hF 2 _ rfl
      have f3 : a.tmps.getD 40 undef = .int .i64 0 := hF 3 _ rfl
      have f4 : a.tmps.getD 41 undef = .int .i64 0 := hF 4 _ rfl
      have f5 : a.tmps.getD 42 undef = .int .i64 0 := hF 5 _ rfl
      have f6 : a.tmps.getD 43 undef = .int .i64 0 := hF 6 _ rfl
      have f7 : a.tmps.getD 44 undef = .bool false := hF 7 _ rfl
      have f8 : a.tmps.getD 45 undef = .bool false := hF 8 _ rfl
      have f9 : a.tmps.getD 46 undef = .agg #[.slice aA nA cA, .int .u64 (sA.bits : Int), .bool sA.st, .int .i64 sA.t] := hF 9 _ rfl
      have f10 : a.tmps.getD 47 undef = .agg #[.slice aB nB cB, .int .u64 (sB.bits : Int), .bool sB.st, .int .i64 sB.t] := hF 10 _ rfl
      have f11 : a.tmps.getD 48 undef = .agg #[.slice aC nC cC, .int .u64 (sC.bits : Int), .bool sC.st, .int .i64 sC.t] := hF 11 _ rfl
      have f12 : SLRow wa (a.tmps.getD 49 undef) [sA, sB, sC] := hF 12 _ rfl
      have f13 : (∃ b : Nat, (a.tmps.getD 50 undef) = .slice (some ⟨b, 0, none⟩) 2 2 ∧ TRow wa b [[95, 95, 110, 97, 109, 101, 95, 95], [117, 112]]) := hF 13 _ rfl
      have f14 : LRow wa (a.tmps.getD 51 undef) sA.ls := hF 14 _ rfl
      have f15 : SIn wa (a.tmps.getD 52 undef) sA := hF 15 _ rfl
      have f16 : (∃ b : Nat, (a.tmps.getD 53 undef) = .slice (some ⟨b, 0, none⟩) 6 6 ∧ TRow wa b [[95, 95, 110, 97, 109, 101, 95, 95], [104, 116, 116, 112], [99, 111, 100, 101], [50, 48, 48], [112, 97, 116, 104], [47, 97, 34, 98]]) := hF 16 _ rfl
      have f17 : LRow wa (a.tmps.getD 54 undef) sB.ls := hF 17 _ rfl
      have f18 : SIn wa (a.tmps.getD 55 undef) sB := hF 18 _ rfl
      have f19 : (∃ b : Nat, (a.tmps.getD 56 undef) = .slice (some ⟨b, 0, none⟩) 2 2 ∧ TRow wa b [[95, 95, 110, 97, 109, 101, 95, 95], [97]]) := hF 19 _ rfl
      have f20 : LRow wa (a.tmps.getD 57 undef) sC.ls := hF 20 _ rfl
      have f21 : SIn wa (a.tmps.getD 58 undef) sC := hF 21 _ rfl
      have f22 : SLRow wa (a.tmps.getD 59 undef) [sA, sB, sC] := hF 22 _ rfl
      have f23 : a.tmps.getD 60 undef = .bool true := hF 23 _ rfl
      have f24 : a.tmps.getD 61 undef = .bool false := hF 24 _ rfl
      have f25 : a.tmps.getD 62 undef = .bool false := hF 25 _ rfl
      have f26 : a.tmps.getD 63 undef = .bool false := hF 26 _ rfl
      have f27 : a.tmps.getD 64 undef = .string ⟨#[104, 116, 116, 112, 123, 99, 111, 100, 101, 61, 34, 50, 48, 48, 34, 44, 112, 97, 116, 104, 61, 34, 47, 97, 92, 34, 98, 34, 125, 32, 51, 53, 48, 32, 45, 49, 55]⟩ := hF 27 _ rfl
      have f28 : a.tmps.getD 65 undef = .bool false := hF 28 _ rfl
      have f29 : a.tmps.getD 66 undef = .bool false := hF 29 _ rfl
      clear hF
      obtain ⟨fv12, hu12⟩ : ∃ u, u = a.tmps.getD 49 undef := ⟨_, rfl⟩
      rw [← hu12] at f12
      obtain ⟨fv13, hu13⟩ : ∃ u, u = a.tmps.getD 50 undef := ⟨_, rfl⟩
      rw [← hu13] at f13
      obtain ⟨fv14, hu14⟩ : ∃ u, u = a.tmps.getD 51 undef := ⟨_, rfl⟩
      rw [← hu14] at f14
      obtain ⟨fv15, hu15⟩ : ∃ u, u = a.tmps.getD 52 undef := ⟨_, rfl⟩
      rw [← hu15] at f15
      obtain ⟨fv16, hu16⟩ : ∃ u, u = a.tmps.getD 53 undef := ⟨_, rfl⟩
      rw [← hu16] at f16
      obtain ⟨fv17, hu17⟩ : ∃ u, u = a.tmps.getD 54 undef := ⟨_, rfl⟩
      rw [← hu17] at f17
      obtain ⟨fv18, hu18⟩ : ∃ u, u = a.tmps.getD 55 undef := ⟨_, rfl⟩
      rw [← hu18] at f18
      obtain ⟨fv19, hu19⟩ : ∃ u, u = a.tmps.getD 56 undef := ⟨_, rfl⟩
      rw [← hu19] at f19
      obtain ⟨fv20, hu20⟩ : ∃ u, u = a.tmps.getD 57 undef := ⟨_, rfl⟩
      rw [← hu20] at f20
      obtain ⟨fv21, hu21⟩ : ∃ u, u = a.tmps.getD 58 undef := ⟨_, rfl⟩
      rw [← hu21] at f21
      obtain ⟨fv22, hu22⟩ : ∃ u, u = a.tmps.getD 59 undef := ⟨_, rfl⟩
      rw [← hu22] at f22
      simp only [List.foldl, fillFrom, f0, f1, f2, f3, f4, f5, f6, f7, f8, f9, f10, f11, ← hu12, ← hu13, ← hu14, ← hu15, ← hu16, ← hu17, ← hu18, ← hu19, ← hu20, ← hu21, ← hu22, f23, f24, f25, f26, f27, f28, f29] at ha
      clear f0 f1 f2 f3 f4 f5 f6 f7 f8 f9 f10 f11 f23 f24 f25 f26 f27 f28 f29 hu12 hu13 hu14 hu15 hu16 hu17 hu18 hu19 hu20 hu21 hu22
      subst ha
      simp only [Act.put, List.setIfInBounds_toArray, List.set_cons_succ, List.set_cons_zero]
      go_wp2_with fail
      go_meet
      exact ⟨rfl, Lib.hid hba⟩
  case rest =>
    obtain ⟨rfl, hB5⟩ := hcut
    have BE := Lib.hid (BD.out.trans (hB5.out.mono BD.out.size))
    clear hB5 NA NB NC LA LB LC BA BB BC BD B0 kA kB kC h42 h35
    have T7 := trow_new wc xs8
    have B7 : Below wc.heap.size wc (wc.alloc (.cells (xs8.map fun t => Value.string (BS t)).toArray 9)) := (Below.refl _ _).alloc (Nat.le_refl _) _
    have BF := Lib.hid (BE.out.trans (B7.mono BE.out.size))
    replace T7 := Lib.hid T7
    clear B7 BE
    go_wp2_with fail
    change Code.wp _ _ _ _ (wc.alloc (.cells (xs8.map fun t => Value.string (BS t)).toArray 9))
    generalize wc.alloc (.cells (xs8.map fun t => Value.string (BS t)).toArray 9) = w7 at T7 BF ⊢
    generalize wc.heap.size = b7 at T7 ⊢
    go_loopg [69] 9 (fun gk s69 wx => ∃ i : Nat, i ≤ 8 ∧ 8 - i < gk ∧ s69 = .int .i64 (i : Int) ∧ Hid (Below w7.heap.size w7 wx))
    case atStart => exact ⟨0, by omega, by omega, rfl, Lib.hid (Below.refl _ _)⟩
    case round =>
      obtain ⟨i, hi, hgk, rfl, hB⟩ := hrel
      by_cases hlt : i < 8
      · have u2 : decide ((i : Int) < 8) = true := decide_eq_true (by omega)
        have u3 : decide (i < 8) = true := decide_eq_true hlt
        obtain ⟨q1, q2, q3⟩ := rd8 i hlt
        have T := T7.out.on hB.out
        have x1 := T.2 i hlt
        have hb7 := T.1
        have hE : ∀ W : World, (W.alloc (.cells #[.int .i64 230, .int .i64 231, .int .i64 232, .int .i64 232, .int .i64 233, .int .i64 233, .int .i64 234, .int .i64 235] 37)).cell? ⟨W.heap.size, i, none⟩ = some (.int .i64 (es8.getD i 0)) := fun W => by
          rw [Lib.cell_of_heap (World.alloc_heap_new W _)]
          rcases (by omega : i = 0 ∨ i = 1 ∨ i = 2 ∨ i = 3 ∨ i = 4 ∨ i = 5 ∨ i = 6 ∨ i = 7) with rfl | rfl | rfl | rfl | rfl | rfl | rfl | rfl <;> rfl
        have B1 : Below wr.heap.size wr (wr.alloc (.cells #[.int .i64 230, .int .i64 231, .int .i64 232, .int .i64 232, .int .i64 233, .int .i64 233, .int .i64 234, .int .i64 235] 37)) := (Below.refl _ _).alloc (Nat.le_refl _) _
        have hsz := hB.out.size
        have B2 := hB.out.trans (B1.mono hsz)
        have cr := rd_of (xs8.getD i []) (es8.getD i 0) smp0 q1 q2 q3 (wr.alloc (.cells #[.int .i64 230, .int .i64 231, .int .i64 232, .int .i64 232, .int .i64 233, .int .i64 233, .int .i64 234, .int .i64 235] 37)) (GG.out _ (BF.out.trans (B2.mono BF.out.size)))
        have hEw := hE wr
        replace hE := Lib.hid hE
        obtain ⟨ev, hev⟩ : ∃ ev, es8.getD i 0 = ev := ⟨_, rfl⟩
        obtain ⟨xv, hxv⟩ : ∃ xv, xs8.getD i [] = xv := ⟨_, rfl⟩
        rw [hev] at cr hEw
        rw [hxv] at cr x1
        replace cr := Lib.hid cr
        replace B2 := Lib.hid B2
        clear q1 q2 q3 hev hxv T B1
        go_wp2_with fail
        refine cr.out.mono ?_; rintro e w9 ⟨⟨za, zn, zc, rfl, -⟩, B9⟩
        have Bq : Below w9.heap.size w9 (w9.alloc (.cells #[.slice za zn zc, .int .u64 (smp0.bits : Int), .bool smp0.st, .int .i64 smp0.t] 34)) := (Below.refl _ _).alloc (Nat.le_refl _) _
        have B8 := Lib.hid (B2.out.trans ((B9.trans (Bq.mono B9.size)).mono B2.out.size))
        clear B9 Bq cr hEw hE
        go_wp2_with fail
        go_roundg (gk - 1)
        case measure => omega
        case rel => exact ⟨i + 1, by omega, by omega, by go_num, B8⟩
      · obtain rfl : i = 8 := by omega
        have BG := Lib.hid (BF.out.trans (hB.out.mono BF.out.size))
        have kT := Lib.hid (ps_of xT 238 2 bdy0 pT (by decide) (by decide +kernel) wr (GG.out _ BG.out))
        have kH : Hid (∀ W : World, EGlb W → Calls Tryz.prog 32 #[.string (BS xH)] W fun r w' => (∃ a1 c1 n1 a2 c2 a3 c3, r = .returned (.tuple #[.agg #[.slice a1 n1 c1, .slice a2 0 c2, .slice a3 1 c3], .int .i64 0, .int .i64 0]) ∧ LRow w' (.slice a3 1 c3) bH.h) ∧ Below W.heap.size W w') := Lib.hid (ps_of xH 0 0 bH pH (by decide) (by decide +kernel))
        have kK := kind_to lE (by decide)
        rw [kE] at kK
        have kK' : Hid (∀ W : World, Calls Tryz.prog 36 #[.string ⟨#[35, 32, 101, 108, 115, 101]⟩] W fun e w' => e = .returned (.string ⟨#[99, 111, 109, 109, 101, 110, 116]⟩) ∧ Below W.heap.size W w') := Lib.hid kK
        clear T7 hB BF kK
        go_wp2_with fail
        refine kT.out.mono ?_; rintro e wd ⟨⟨a1, c1, n1, a2, c2, a3, c3, rfl, -⟩, Bd⟩
        have Bd2 : Below wd.heap.size wd (wd.alloc (.cells #[.slice a1 n1 c1, .slice a2 bdy0.t.length c2, .slice a3 bdy0.h.length c3] 66)) := (Below.refl _ _).alloc (Nat.le_refl _) _
        have BH := Lib.hid (BG.out.trans ((Bd.trans (Bd2.mono Bd.size)).mono BG.out.size))
        clear Bd Bd2 kT
        go_wp2_with fail
        refine (kH.out _ (GG.out _ BH.out)).mono ?_; rintro e wf ⟨⟨a4, c4, n4, a5, c5, a6, c6, rfl, LH⟩, Bf⟩
        have Bf2 : Below wf.heap.size wf (wf.alloc (.cells #[.slice a4 n4 c4, .slice a5 0 c5, .slice a6 1 c6] 66)) := (Below.refl _ _).alloc (Nat.le_refl _) _
        have BI := Lib.hid (BH.out.trans ((Bf.trans (Bf2.mono Bf.size)).mono BH.out.size))
        obtain ⟨bb, off, rfl, hbb, y0, y1⟩ := (LH.on Bf2).at' 0 (by decide)
        have y0' : (wf.alloc (.cells #[.slice a4 n4 c4, .slice a5 0 c5, .slice (some ⟨bb, off, none⟩) 1 c6] 66)).cell? ⟨bb, off, none⟩ = some (.string ⟨#[97]⟩) := y0
        have y1' : (wf.alloc (.cells #[.slice a4 n4 c4, .slice a5 0 c5, .slice (some ⟨bb, off, none⟩) 1 c6] 66)).cell? ⟨bb, off + 1, none⟩ = some (.string ⟨#[116, 119, 111, 10, 108, 105, 110, 101, 115]⟩) := by
          have := y1
          rw [show off + 0 * 2 + 1 = off + 1 by omega] at this
          exact this
        clear y0 y1 Bf Bf2 kH LH
        go_wp2_with fail
        refine (kK'.out _).mono ?_; rintro e wg ⟨rfl, Bg⟩
        have BJ := Lib.hid (BI.out.trans (Bg.mono BI.out.size))
        clear Bg
        go_wp2_with fail
        go_ret
        exact ⟨rfl, BJ.out⟩
end Go.Proofs.YtdeimnnpcfncpaaGreatDoor.X
end
