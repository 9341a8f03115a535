/- awake: the examples of the chapter. -/
import Derived.Test.YtaidemghhagniaaGreatDoorF23
import Derived.Test.YtaidemghhagniaaGreatDoorFG
import Derived.Test.YtaidemghhagniaaGreatDoorDG
import Derived.Carry
namespace Go.Proofs.YtaidemghhagniaaGreatDoor
open Go Go.RowKit
theorem tabIs_on {P : Program} {w w' : World} {n : String} {k : IntKind} {zs : List Int} (h : Lib.TabIs P w n k zs) (hb : Below w.heap.size w w') : Lib.TabIs P w' n k zs := by
  unfold Lib.TabIs World.var? at *
  cases hg : P.globalNamed n with
  | none => rw [hg] at h; cases h
  | some g =>
    rw [hg] at h
    simp only [Option.bind_some] at h ⊢
    have hlt : g < w.heap.size := by
      rcases Nat.lt_or_ge g w.heap.size with h' | h'
      · exact h'
      · rw [Array.getElem?_eq_none h'] at h; cases h
    rw [hb.block g hlt]
    exact h
structure AGlb (w : World) : Prop where
  p : PGlb w
  tab : Lib.TabIs Tryz.prog w "internal/strconv.uint64pow10" .u64 Lib.pow10Tab
theorem AGlb.on {w W : World} (h : AGlb w) (hb : Below w.heap.size w W) : AGlb W := ⟨h.p.on hb, tabIs_on h.tab hb⟩
def aS : Nat → ByteArray
  | 0 => ⟨#[49]⟩ | 1 => ⟨#[48, 46, 49]⟩ | 2 => ⟨#[45, 48]⟩ | 3 => ⟨#[49, 101, 52, 48, 48]⟩ | 4 => ⟨#[53, 101, 45, 51, 50, 52]⟩ | 5 => ⟨#[50, 101, 45, 51, 50, 52]⟩
  | _ => ⟨#[57, 48, 48, 55, 49, 57, 57, 50, 53, 52, 55, 52, 48, 57, 57, 51]⟩
def aV : Nat → Nat
  | 0 => 0x3ff0000000000000 | 1 => 0x3fb999999999999a | 2 => 9223372036854775808 | 3 => 9218868437227405312 | 4 => 1 | 5 => 0 | _ => 0x4340000000000000
theorem aP (i : Nat) (hi : i < 7) (W : World) (hG : PGlb W) : Calls Tryz.prog 16 #[.string (aS i)] W (PsRet ((aV i : Nat) : Int) 0 W) := by
  match i, hi with
  | 0, _ => have := parse_dec (aS 0) (by decide) (by decide) (by decide +kernel) (by decide +kernel) W hG; rw [show valL (aS 0).data.toList = aV 0 from val_1] at this; exact this
  | 1, _ => have := parse_dec (aS 1) (by decide) (by decide) (by decide +kernel) (by decide +kernel) W hG; rw [show valL (aS 1).data.toList = aV 1 from val_01] at this; exact this
  | 2, _ => have := parse_dec (aS 2) (by decide) (by decide) (by decide +kernel) (by decide +kernel) W hG; rw [show valL (aS 2).data.toList = aV 2 from val_m0] at this; exact this
  | 3, _ => have := parse_dec (aS 3) (by decide) (by decide) (by decide +kernel) (by decide +kernel) W hG; rw [show valL (aS 3).data.toList = aV 3 from val_e400] at this; exact this
  | 4, _ => have := parse_dec (aS 4) (by decide) (by decide) (by decide +kernel) (by decide +kernel) W hG; rw [show valL (aS 4).data.toList = aV 4 from val_5e] at this; exact this
  | 5, _ => have := parse_dec (aS 5) (by decide) (by decide) (by decide +kernel) (by decide +kernel) W hG; rw [show valL (aS 5).data.toList = aV 5 from val_2e] at this; exact this
  | 6, _ => have := parse_dec (aS 6) (by decide) (by decide) (by decide +kernel) (by decide +kernel) W hG; rw [show valL (aS 6).data.toList = aV 6 from val_big] at this; exact this
theorem whole_m3 : wholeN 0xc008000000000000 = (-3, true) := by decide +kernel
theorem nx_0 (W : World) : Calls Tryz.prog 23 #[.int .u64 0] W fun e w' => e = .returned (.tuple #[.int .u64 1, .int .i64 0]) ∧ W = w' := by
  have h := next_any 0 (by decide) W
  rw [show nextN 0 = (1, 0) by decide +kernel] at h
  exact h
theorem nx_m0 (W : World) : Calls Tryz.prog 23 #[.int .u64 9223372036854775808] W fun e w' => e = .returned (.tuple #[.int .u64 1, .int .i64 0]) ∧ W = w' := by
  have h := next_any 9223372036854775808 (by decide) W
  rw [show nextN 9223372036854775808 = (1, 0) by decide +kernel] at h
  exact h
theorem nx_m1 (W : World) : Calls Tryz.prog 23 #[.int .u64 9223372036854775809] W fun e w' => e = .returned (.tuple #[.int .u64 0, .int .i64 0]) ∧ W = w' := by
  have h := next_any 9223372036854775809 (by decide) W
  rw [show nextN 9223372036854775809 = (0, 0) by decide +kernel] at h
  exact h
theorem wh_m3 (W : World) : Calls Tryz.prog 18 #[.int .u64 13837309855095848960] W fun e w' => e = .returned (.tuple #[.int .i64 (-3), .bool true]) ∧ W = w' := by
  have h := whole_any 13837309855095848960 (by decide) W
  rw [show wholeN 13837309855095848960 = (-3, true) from whole_m3] at h
  exact h
theorem ex_15 (W : World) (h : Lib.TabIs Tryz.prog W "internal/strconv.uint64pow10" .u64 Lib.pow10Tab) : Calls Tryz.prog 14 #[.int .u64 4609434218613702656] W fun e w' => e = .returned (.string ⟨#[49, 46, 53]⟩) ∧ Below W.heap.size W w' := by
  have h := exact_any 4609434218613702656 (by decide) W h
  rw [show exactL 4609434218613702656 = [49, 46, 53] from exact_15] at h
  exact h
theorem ex_01 (W : World) (h : Lib.TabIs Tryz.prog W "internal/strconv.uint64pow10" .u64 Lib.pow10Tab) : Calls Tryz.prog 14 #[.int .u64 4591870180066957722] W fun e w' => e = .returned (.string ⟨#[48, 46, 49, 48, 48, 48, 48, 48, 48, 48, 48, 48, 48, 48, 48, 48, 48, 48, 48, 53, 53, 53, 49, 49, 49, 53, 49, 50, 51, 49, 50, 53, 55, 56, 50, 55, 48, 50, 49, 49, 56, 49, 53, 56, 51, 52, 48, 52, 53, 52, 49, 48, 49, 53, 54, 50, 53]⟩) ∧ Below W.heap.size W w' := by
  have h := exact_any 4591870180066957722 (by decide) W h
  rw [show exactL 4591870180066957722 = [48, 46, 49, 48, 48, 48, 48, 48, 48, 48, 48, 48, 48, 48, 48, 48, 48, 48, 48, 53, 53, 53, 49, 49, 49, 53, 49, 50, 51, 49, 50, 53, 55, 56, 50, 55, 48, 50, 49, 49, 56, 49, 53, 56, 51, 52, 48, 52, 53, 52, 49, 48, 49, 53, 54, 50, 53] from exact_01] at h
  exact h
set_option maxRecDepth 100000 in
set_option maxHeartbeats 4000000 in
theorem awake_any (w : World) (hG : AGlb w) : Calls Tryz.prog 12 #[] w fun e w' => e = .returned (.bool true) ∧ Below w.heap.size w w' := by
  have hGG := Lib.hid hG
  have n0 := Lib.hid nx_0
  have n1 := Lib.hid nx_m0
  have n2 := Lib.hid nx_m1
  have wh := Lib.hid wh_m3
  have x1 := Lib.hid ex_15
  have x2 := Lib.hid ex_01
  clear hG
  go_enter Tryz.func12, Tryz.ntmps12
  go_upto_block 0 with (fail)
  obtain ⟨B, hB⟩ : ∃ B, B = w.heap.size := ⟨_, rfl⟩
  generalize hW0 : World.alloc w _ = W0
  have hcells : Hid (∀ i, i < 7 → W0.cell? ⟨B, i * 2, none⟩ = some (.string (aS i)) ∧ W0.cell? ⟨B, i * 2 + 1, none⟩ = some (.int .u64 (aV i : Nat))) := Lib.hid (by
    intro i hi
    rw [← hW0, hB, Lib.cell_of_heap (Array.getElem?_push_size), Lib.cell_of_heap (Array.getElem?_push_size)]
    match i, hi with
    | 0, _ => exact ⟨rfl, rfl⟩
    | 1, _ => exact ⟨rfl, rfl⟩
    | 2, _ => exact ⟨rfl, rfl⟩
    | 3, _ => exact ⟨rfl, rfl⟩
    | 4, _ => exact ⟨rfl, rfl⟩
    | 5, _ => exact ⟨rfl, rfl⟩
    | 6, _ => exact ⟨rfl, rfl⟩)
  have hW0B : Hid (Below w.heap.size w W0) := Lib.hid (by rw [← hW0]; exact (Below.refl _ _).alloc (Nat.le_refl _) _)
  have hBl : B < W0.heap.size := by rw [← hW0, hB]; simp
  rw [← hB]
  have hBh := Lib.hid hB
  clear hW0 hB
  go_cut [22] (fun _ wx => Hid (Below w.heap.size w wx))
  case first =>
    go_wp2_with fail
    go_loopg [22] 8 (fun gk s22 wx => ∃ i : Nat, 7 - i < gk ∧ s22 = .int .i64 (i : Int) ∧ i ≤ 7 ∧ Hid (Below W0.heap.size W0 wx))
    case atStart => exact ⟨0, by omega, rfl, by omega, Lib.hid (Below.refl _ _)⟩
    case round =>
      obtain ⟨i, hig, rfl, hi7, hbx⟩ := hrel
      by_cases hlt : i < 7
      · have u1 : decide ((i : Int) < 7) = true := decide_eq_true (by omega)
        have u1' : decide (i < 7) = true := decide_eq_true hlt
        obtain ⟨k1, k2⟩ := hcells.out i hlt
        have c1 : wr.cell? ⟨B, i * 2, none⟩ = some (.string (aS i)) := by rw [hbx.out.cell hBl]; exact k1
        have c2 : wr.cell? ⟨B, i * 2 + 1, none⟩ = some (.int .u64 (aV i : Nat)) := by rw [hbx.out.cell hBl]; exact k2
        have hp := Lib.hid (fun W hG => aP i hlt W hG)
        obtain ⟨sI, hsI⟩ : ∃ sI, Hid (sI = aS i) := ⟨_, Lib.hid rfl⟩
        obtain ⟨vI, hvI⟩ : ∃ vI, Hid (vI = aV i) := ⟨_, Lib.hid rfl⟩
        rw [← hsI.out] at c1 hp
        rw [← hvI.out] at c2 hp
        obtain ⟨o, ho⟩ : ∃ o, o = Obj.cells #[Value.string sI, Value.int .u64 (vI : Nat)] 49 := ⟨_, rfl⟩
        have hA : Below w.heap.size w (wr.alloc o) := (hW0B.out.trans (hbx.out.mono hW0B.out.size)).alloc (Nat.le_trans hW0B.out.size hbx.out.size) _
        have hPA := hGG.out.p.on hA
        have hbA : Below W0.heap.size W0 (wr.alloc o) := hbx.out.alloc hbx.out.size _
        have hcA : (wr.alloc o).cell? ⟨wr.heap.size, 1, none⟩ = some (.int .u64 (vI : Nat)) := by
          rw [ho, Lib.cell_of_heap (Array.getElem?_push_size)]; rfl
        have hsz : wr.heap.size < (wr.alloc o).heap.size := by simp
        rw [ho] at hPA hbA hcA hsz
        replace hPA := Lib.hid hPA
        replace hbA := Lib.hid hbA
        replace hcA := Lib.hid hcA
        replace hsz := Lib.hid hsz
        clear k1 k2 hA ho
        go_wp2_with fail
        refine (hp.out _ hPA.out).mono ?_; rintro z w4 ⟨rfl, hb⟩
        have c3 : w4.cell? ⟨wr.heap.size, 1, none⟩ = some (.int .u64 (vI : Nat)) := by rw [hb.cell hsz.out]; exact hcA.out
        have hn := Lib.hid (hbA.out.trans (hb.mono hbA.out.size))
        clear hb c1 c2
        go_wp2_with fail
        go_roundg (gk - 1)
        case measure => omega
        case rel => exact ⟨i + 1, by omega, by go_num, by omega, hn⟩
      · have u1 : decide ((i : Int) < 7) = false := decide_eq_false (by omega)
        have u1' : decide (i < 7) = false := decide_eq_false hlt
        go_wp2_with fail
        go_meet
        exact Lib.hid (hW0B.out.trans (hbx.out.mono hW0B.out.size))
  case rest =>
    have B1 := Lib.hid hcut.out
    clear hcells hW0B hBl hBh hcut
    go_wp2_with fail
    refine (n0.out _).mono ?_; rintro z w4 ⟨rfl, rfl⟩
    go_wp2_with fail
    refine (n1.out _).mono ?_; rintro z w4 ⟨rfl, rfl⟩
    go_wp2_with fail
    refine (n2.out _).mono ?_; rintro z w4 ⟨rfl, rfl⟩
    go_wp2_with fail
    refine (wh.out _).mono ?_; rintro z w4 ⟨rfl, rfl⟩
    go_wp2_with fail
    refine (x1.out _ (hGG.out.on B1.out).tab).mono ?_; rintro z w5 ⟨rfl, hb⟩
    have B2 := Lib.hid (B1.out.trans (hb.mono B1.out.size))
    clear hb B1
    go_wp2_with fail
    refine (x2.out _ (hGG.out.on B2.out).tab).mono ?_; rintro z w6 ⟨rfl, hb⟩
    have B3 := Lib.hid (B2.out.trans (hb.mono B2.out.size))
    clear hb B2
    go_wp2_with fail
    go_ret
    exact ⟨rfl, B3.out⟩
end Go.Proofs.YtaidemghhagniaaGreatDoor
