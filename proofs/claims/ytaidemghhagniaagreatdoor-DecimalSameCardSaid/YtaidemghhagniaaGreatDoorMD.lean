/- DecimalSame's walk. -/
import Derived.Test.YtaidemghhagniaaGreatDoorMC
import Derived.Test.YtaidemghhagniaaGreatDoorRK
namespace Go.Proofs.YtaidemghhagniaaGreatDoor
open Go Go.RowKit
set_option linter.unusedVariables false
set_option linter.unusedSimpArgs false
theorem rep_z (n : Nat) : (∀ c ∈ Lib.repeatL [48] n, c = 48) ∧ (Lib.repeatL ([48] : List UInt8) n).length = n := by
  induction n with
  | zero => exact ⟨fun c hc => (by cases hc), rfl⟩
  | succ n ih =>
    have e : Lib.repeatL ([48] : List UInt8) (n + 1) = [48] ++ Lib.repeatL [48] n := rfl
    rw [e]
    refine ⟨fun c hc => ?_, by rw [List.length_append, ih.2, List.length_singleton]; omega⟩
    rcases List.mem_append.1 hc with h | h
    · exact List.mem_singleton.1 h
    · exact ih.1 c h
def same3 (d Z : List UInt8) (k m : Nat) (ex : Int) : Nat → List UInt8
  | 0 => ((((((Z ++ d.take k) ++ [46]) ++ d.drop k) ++ Z) ++ [69]) ++ Lib.itoa ex)
  | 1 => ((((d.take m ++ [46]) ++ d.drop m) ++ [101]) ++ Lib.itoa (ex + k - m))
  | _ => (((((([43] ++ d.take m) ++ [46]) ++ d.drop m) ++ Z) ++ [101]) ++ Lib.itoa (ex + k - m))
theorem run_addI (n : Int) (q : Nat) (x y : Operand) (h1 : -1000 ≤ n ∧ n ≤ 1000) (h2 : q ≤ 1000) (w : World) : (do eqGuard .add 3 x y (.int .i64 n) (.int .i64 (q : Int)); binOp .add 3 (.int .i64 n) (.int .i64 (q : Int)) : Sem Value).run Tryz.prog w = .ok (.int .i64 (n + q)) w := by
  go_simp
  rw [IntKind.wrap_i64]
  omega
theorem run_subI (n : Int) (q : Nat) (x y : Operand) (h1 : -2000 ≤ n ∧ n ≤ 2000) (h2 : q ≤ 1000) (w : World) : (do eqGuard .sub 3 x y (.int .i64 n) (.int .i64 (q : Int)); binOp .sub 3 (.int .i64 n) (.int .i64 (q : Int)) : Sem Value).run Tryz.prog w = .ok (.int .i64 (n - q)) w := by
  go_simp
  rw [IntKind.wrap_i64]
  omega
theorem run_c8 (n : Nat) (h : n < 256) (w : World) : (convert 5 3 (.int .u8 (n : Int))).run Tryz.prog w = .ok (.int .i64 (n : Int)) w := by
  go_simp
  rw [IntKind.wrap_i64]
  omega
theorem run_rem3 (n : Nat) (x y : Operand) (h : n < 256) (w : World) : (do eqGuard .rem 3 x y (.int .i64 (n : Int)) (.int .i64 3); binOp .rem 3 (.int .i64 (n : Int)) (.int .i64 3) : Sem Value).run Tryz.prog w = .ok (.int .i64 ((n % 3 : Nat) : Int)) w := by
  go_simp
  exact Int.tmod_eq_emod_of_nonneg (by omega)
theorem run_add2 (n : Nat) (x y : Operand) (h : n < 10) (w : World) : (do eqGuard .add 3 x y (.int .i64 2) (.int .i64 (n : Int)); binOp .add 3 (.int .i64 2) (.int .i64 (n : Int)) : Sem Value).run Tryz.prog w = .ok (.int .i64 ((2 + n : Nat) : Int)) w := by
  go_simp
  rw [IntKind.wrap_i64]
  omega
theorem run_b3 (w : World) (x0 x1 x2 : ByteArray) : (Instr.buildSlice 38 3 #[(0, .string x0), (1, .string x1), (2, .string x2)]).run Tryz.prog w =
    .ok (.slice (some ⟨w.heap.size, 0, none⟩) 3 3) (w.alloc (.cells #[.string x0, .string x1, .string x2] 9)) := by
  go_simp
theorem step_b3 {ops : Array Oper} {Q : Exit → Act → World → Prop} {a : Act} {w : World} {K : Act → World → Prop} {i : Nat} {o : Oper} {X0 X1 X2 : Operand} {y0 y1 y2 : ByteArray} (ho : ops[i]? = some o) (hm : Met ops a o) (hop : o.op = .buildSlice 38 3 #[(0, X0), (1, X1), (2, X2)])
    (h0 : a.eval X0 = .string y0) (h1 : a.eval X1 = .string y1) (h2 : a.eval X2 = .string y2)
    (hk : K (a.put o.dst (.slice (some ⟨w.heap.size, 0, none⟩) 3 3)) (w.alloc (.cells #[.string y0, .string y1, .string y2] 9))) : wpOp Tryz.prog ops Q i K a w := by
  refine step_run ho hm (v := .slice (some ⟨w.heap.size, 0, none⟩) 3 3) (w' := w.alloc (.cells #[.string y0, .string y1, .string y2] 9)) ?_ hk
  simp [execOp, hop, h0, h1, h2, run_b3, Result.andThen]
set_option maxRecDepth 100000 in
set_option maxHeartbeats 8000000 in
theorem same_law (a0 : Option Addr) (c0 : Nat) (l : List UInt8) (point move zr : Nat) (ex0 : Int) (hp : point < 256) (hmo : move < 256) (hz8 : zr < 256) (hx1 : -32768 ≤ ex0) (hx2 : ex0 ≤ 32767) (w : World) (hr : Row w (.slice a0 l.length c0) (l.map enc8)) (hlm : l.length ≤ maxLen) (hc0 : l.length ≤ c0) (hG : AGlb w) :
    Calls Tryz.prog 10 #[.slice a0 l.length c0, .int .u8 point, .int .u8 move, .int .i16 ex0, .int .u8 zr] w fun e w' => e = .returned (.bool true) ∧ Below w.heap.size w w' := by
  have hGG := Lib.hid hG
  have hrr := Lib.hid hr
  clear hG hr
  go_enter Tryz.func10, Tryz.ntmps10
  go_wp2_with fail
  obtain ⟨m0, hm0⟩ : ∃ m0, m0 = min l.length 60 := ⟨_, rfl⟩
  rw [show (min (l.length : Int) 60).toNat = m0 by omega]
  obtain ⟨z, hz⟩ : ∃ z, z = l.take m0 := ⟨_, rfl⟩
  have hzl : z.length = m0 := by rw [hz, List.length_take]; omega
  have ct := text_any a0 c0 z w (by rw [hzl, hz, List.map_take]; exact row_take hrr.out (by omega)) (by omega)
  rw [hzl] at ct
  obtain ⟨d, hd⟩ : ∃ d, Hid (d = digT z) := ⟨_, Lib.hid rfl⟩
  have hdo := digT_ok z
  rw [← hd.out] at ct hdo
  obtain ⟨hdd, hd1, hd2⟩ := hdo
  replace hd2 : d.length ≤ 61 := by omega
  replace hdd := Lib.hid hdd
  refine ct.mono ?_; rintro e w1 ⟨rfl, hb⟩
  have hB := Lib.hid hb
  rw [show ({ data := d.toArray } : ByteArray) = BS d from rfl]
  have hds := BS_size d
  obtain ⟨k, hk⟩ : ∃ k : Nat, (point : Int) % ((d.length : Int) + 1) = (k : Int) := ⟨point % (d.length + 1), rfl⟩
  have hkl : k ≤ d.length := by have := Int.emod_lt_of_pos (point : Int) (show 0 < ((d.length : Int) + 1) by omega); omega
  obtain ⟨m, hm⟩ : ∃ m : Nat, (move : Int) % ((d.length : Int) + 1) = (m : Int) := ⟨move % (d.length + 1), rfl⟩
  have hml : m ≤ d.length := by have := Int.emod_lt_of_pos (move : Int) (show 0 < ((d.length : Int) + 1) by omega); omega
  obtain ⟨nz, hnz⟩ : ∃ nz : Nat, (zr : Int) % 31 = (nz : Int) := ⟨zr % 31, rfl⟩
  have hnz30 : nz ≤ 30 := by omega
  obtain ⟨ex, hex⟩ : ∃ ex : Int, ex0.tmod 401 = ex := ⟨_, rfl⟩
  have hexb : ex.natAbs ≤ 400 := by
    have h1 := Int.tmod_lt_of_pos ex0 (show (0 : Int) < 401 by decide)
    have h2 := Int.lt_tmod_of_pos ex0 (show (0 : Int) < 401 by decide)
    omega
  clear ct hb hd hz hzl hrr hlm hm0
  go_wp2_with fail
  refine (Tryz.strings_Repeat (BS [48]) nz w1 (by omega) (by show 1 * nz ≤ _; omega)).mono ?_
  rintro e w2 ⟨rfl, hb⟩
  replace hB := Lib.hid (hB.out.trans (hb.mono hB.out.size))
  rw [hk, hm]
  rw [show ({ data := (Lib.repeatL (BS [48]).data.toList nz).toArray } : ByteArray) = BS (Lib.repeatL [48] nz) from rfl]
  clear hb hk hm hnz hex
  obtain ⟨Z, hZd⟩ : ∃ Z, Hid (Z = Lib.repeatL ([48] : List UInt8) nz) := ⟨_, Lib.hid rfl⟩
  obtain ⟨hZ, hZl⟩ := rep_z nz
  rw [← hZd.out] at hZ hZl ⊢
  have hZ30 : Z.length ≤ 30 := by omega
  have hi6 := (itoa_tail 101 (.inl rfl) ex (by omega)).2.2
  have hj6 := (itoa_tail 101 (.inl rfl) (ex + k - m) (by omega)).2.2
  have hx3 : 0 ≤ ex → (Lib.itoa ex).length ≤ 3 := fun h0 => by
    rw [itoa_sg]; unfold sg; rw [if_neg (by omega)]
    exact dig_len 3 _ (by decide) (by omega)
  obtain ⟨r, hrI, hfa⟩ := same_facts d Z (fun x hx => (isD_iff x).1 (hdd.out x hx)) hd1 (by omega) hZ hZ30 k m (zr % 3) hkl hml (by omega) ex hexb
  have hW17 := fun W (h : Below w.heap.size w W) => itoa_b ex (by omega) W (hGG.out.on h).tab
  have hW17b := fun W (h : Below w.heap.size w W) => itoa_b (ex + k - m) (by omega) W (hGG.out.on h).tab
  have hW16 := fun W (h : Below w.heap.size w W) => hfa W (hGG.out.on h).p
  clear hfa hrI hZd hd1 hds hdd hnz30 hZ hZl hmo hp
  replace hW17 := Lib.hid hW17
  replace hW17b := Lib.hid hW17b
  replace hW16 := Lib.hid hW16
  replace hx3 := Lib.hid hx3
  have hc16 := Tryz.call16
  have hc17 := Tryz.call17
  go_upto_region 6 with (fail)
  go_cut [16, 17] (fun s16 s17 wx => s16 = .int .u64 (r : Int) ∧ s17 = .int .i64 0 ∧ Hid (Below w2.heap.size w2 wx))
  case first =>
    have hit := fun wa (hba : Below w2.heap.size w2 wa) => hW17.out wa (hB.out.trans (hba.mono hB.out.size))
    have hp0 := fun wa (hba : Below w2.heap.size w2 wa) => (hW16.out wa (hB.out.trans (hba.mono hB.out.size))).1
    refine wp_region_facts2 (fun kq v wq => match kq with
        | 0 => v = .string (BS d)
        | 1 => v = .int .i64 (k : Int)
        | 2 => v = .string (BS ((d : List UInt8).take k))
        | 3 => v = .string (BS (((d : List UInt8).take k) ++ [46]))
        | 4 => v = .string (BS d)
        | 5 => v = .int .i64 (k : Int)
        | 6 => v = .string (BS (d.drop k))
        | 7 => v = .string (BS ((((d : List UInt8).take k) ++ [46]) ++ (d.drop k)))
        | 8 => v = .string (BS (((((d : List UInt8).take k) ++ [46]) ++ (d.drop k)) ++ [101]))
        | 9 => v = .int .i64 ex
        | 10 => v = .string (BS (Lib.itoa ex))
        | 11 => v = .string (BS ((((((d : List UInt8).take k) ++ [46]) ++ (d.drop k)) ++ [101]) ++ (Lib.itoa ex)))
        | 12 => v = .tuple #[.int .u64 (r : Int), .int .i64 0]
        | 13 => v = .tuple #[.int .u64 (r : Int), .int .i64 0]
        | 14 => v = .int .u64 (r : Int)
        | 15 => v = .int .i64 0
        | 16 => v = .int .u64 (r : Int)
        | _ => v = .int .i64 0
        ) (by kernel_rfl) (by kernel_rfl) (by decide +kernel) (by kernel_rfl) ?_ ?_ ?_
    · intro kq v wq wq' h hb
      rcases kq with _ | _ | _ | _ | _ | _ | _ | _ | _ | _ | _ | _ | _ | _ | _ | _ | _ | _ | kq
      · exact h
      · exact h
      · exact h
      · exact h
      · exact h
      · exact h
      · exact h
      · exact h
      · exact h
      · exact h
      · exact h
      · exact h
      · exact h
      · exact h
      · exact h
      · exact h
      · exact h
      · exact h
      · exact h
    · intro kq
      rcases kq with _ | _ | _ | _ | _ | _ | _ | _ | _ | _ | _ | _ | _ | _ | _ | _ | _ | _ | kq
      all_goals intro o ho a wa hba hout hsz2 hpre
      all_goals cases ho
      all_goals have q11 : a.tmps.getD 11 undef = .string (BS d) := (hout 11 (by decide +kernel)).trans rfl
      all_goals have q12 : a.tmps.getD 12 undef = .int .i64 (k : Int) := (hout 12 (by decide +kernel)).trans rfl
      all_goals have q14 : a.tmps.getD 14 undef = .int .i64 ex := (hout 14 (by decide +kernel)).trans rfl
      all_goals clear hout hsz2
      · exact step_move rfl (met_none rfl) (.inl rfl) ⟨_, rfl, Below.refl _ _, q11⟩
      · exact step_move rfl (met_none rfl) (.inl rfl) ⟨_, rfl, Below.refl _ _, q12⟩
      · have p : a.tmps.getD 50 undef = .string (BS d) := hpre ⟨0, .data⟩ (by simp) rfl _ rfl
        have g : a.tmps.getD 51 undef = .int .i64 (k : Int) := hpre ⟨1, .data⟩ (by simp) rfl _ rfl
        exact step_slice_hi rfl (met_none rfl) rfl p g (run_hi d k hkl wa) ⟨_, rfl, Below.refl _ _, rfl⟩
      · have p : a.tmps.getD 52 undef = .string (BS ((d : List UInt8).take k)) := hpre ⟨2, .data⟩ (by simp) rfl _ rfl
        exact step_bin rfl (met_none rfl) rfl (u := .string (BS ((d : List UInt8).take k))) (v := .string (BS [46])) p rfl (run_cat ((d : List UInt8).take k) [46] _ _ (by simp only [List.length_append, List.length_take, List.length_drop, List.length_cons, List.length_nil]; omega) wa) ⟨_, rfl, Below.refl _ _, rfl⟩
      · exact step_move rfl (met_none rfl) (.inl rfl) ⟨_, rfl, Below.refl _ _, q11⟩
      · exact step_move rfl (met_none rfl) (.inl rfl) ⟨_, rfl, Below.refl _ _, q12⟩
      · have p : a.tmps.getD 54 undef = .string (BS d) := hpre ⟨4, .data⟩ (by simp) rfl _ rfl
        have g : a.tmps.getD 55 undef = .int .i64 (k : Int) := hpre ⟨5, .data⟩ (by simp) rfl _ rfl
        exact step_slice_lo rfl (met_none rfl) rfl p g (run_lo d k hkl wa) ⟨_, rfl, Below.refl _ _, rfl⟩
      · have p : a.tmps.getD 53 undef = .string (BS (((d : List UInt8).take k) ++ [46])) := hpre ⟨3, .data⟩ (by simp) rfl _ rfl
        have g : a.tmps.getD 56 undef = .string (BS (d.drop k)) := hpre ⟨6, .data⟩ (by simp) rfl _ rfl
        exact step_bin rfl (met_none rfl) rfl (u := .string (BS (((d : List UInt8).take k) ++ [46]))) (v := .string (BS (d.drop k))) p g (run_cat (((d : List UInt8).take k) ++ [46]) (d.drop k) _ _ (by simp only [List.length_append, List.length_take, List.length_drop, List.length_cons, List.length_nil]; omega) wa) ⟨_, rfl, Below.refl _ _, rfl⟩
      · have p : a.tmps.getD 57 undef = .string (BS ((((d : List UInt8).take k) ++ [46]) ++ (d.drop k))) := hpre ⟨7, .data⟩ (by simp) rfl _ rfl
        exact step_bin rfl (met_none rfl) rfl (u := .string (BS ((((d : List UInt8).take k) ++ [46]) ++ (d.drop k)))) (v := .string (BS [101])) p rfl (run_cat ((((d : List UInt8).take k) ++ [46]) ++ (d.drop k)) [101] _ _ (by simp only [List.length_append, List.length_take, List.length_drop, List.length_cons, List.length_nil]; omega) wa) ⟨_, rfl, Below.refl _ _, rfl⟩
      · exact step_move rfl (met_none rfl) (.inl rfl) ⟨_, rfl, Below.refl _ _, q14⟩
      · have p : a.tmps.getD 59 undef = .int .i64 ex := hpre ⟨9, .data⟩ (by simp) rfl _ rfl
        refine step_call rfl (met_none rfl) _ (args1 p) (hc17 _ _) ((hit wa hba).mono ?_)
        rintro e w' ⟨rfl, hb⟩
        exact ⟨_, rfl, _, rfl, hb, rfl⟩
      · have p : a.tmps.getD 58 undef = .string (BS (((((d : List UInt8).take k) ++ [46]) ++ (d.drop k)) ++ [101])) := hpre ⟨8, .data⟩ (by simp) rfl _ rfl
        have g : a.tmps.getD 60 undef = .string (BS (Lib.itoa ex)) := hpre ⟨10, .data⟩ (by simp) rfl _ rfl
        exact step_bin rfl (met_none rfl) rfl (u := .string (BS (((((d : List UInt8).take k) ++ [46]) ++ (d.drop k)) ++ [101]))) (v := .string (BS (Lib.itoa ex))) p g (run_cat (((((d : List UInt8).take k) ++ [46]) ++ (d.drop k)) ++ [101]) (Lib.itoa ex) _ _ (by simp only [List.length_append, List.length_take, List.length_drop, List.length_cons, List.length_nil]; omega) wa) ⟨_, rfl, Below.refl _ _, rfl⟩
      · have p : a.tmps.getD 61 undef = .string (BS ((((((d : List UInt8).take k) ++ [46]) ++ (d.drop k)) ++ [101]) ++ (Lib.itoa ex))) := hpre ⟨11, .data⟩ (by simp) rfl _ rfl
        refine step_call rfl (met_none rfl) _ (args1 p) (hc16 _ _) ((hp0 wa hba).mono ?_)
        rintro e w' ⟨rfl, hb⟩
        exact ⟨_, rfl, _, rfl, hb, rfl⟩
      · have p : a.tmps.getD 62 undef = .tuple #[.int .u64 (r : Int), .int .i64 0] := hpre ⟨12, .data⟩ (by simp) rfl _ rfl
        exact step_move rfl (met_none rfl) (.inl rfl) ⟨_, rfl, Below.refl _ _, p⟩
      · have p : a.tmps.getD 49 undef = .tuple #[.int .u64 (r : Int), .int .i64 0] := hpre ⟨13, .data⟩ (by simp) rfl _ rfl
        exact step_extract rfl (met_none rfl) rfl p rfl ⟨_, rfl, Below.refl _ _, rfl⟩
      · have p : a.tmps.getD 49 undef = .tuple #[.int .u64 (r : Int), .int .i64 0] := hpre ⟨13, .data⟩ (by simp) rfl _ rfl
        exact step_extract rfl (met_none rfl) rfl p rfl ⟨_, rfl, Below.refl _ _, rfl⟩
      · have p : a.tmps.getD 63 undef = .int .u64 (r : Int) := hpre ⟨14, .data⟩ (by simp) rfl _ rfl
        exact step_move rfl (met_none rfl) (.inr rfl) ⟨_, rfl, Below.refl _ _, p⟩
      · have p : a.tmps.getD 64 undef = .int .i64 0 := hpre ⟨15, .data⟩ (by simp) rfl _ rfl
        exact step_move rfl (met_none rfl) (.inr rfl) ⟨_, rfl, Below.refl _ _, p⟩
    · intro a w hb hall ha
      have f0 : a.tmps.getD 50 undef = .string (BS d) := hall 0 _ rfl
      have f1 : a.tmps.getD 51 undef = .int .i64 (k : Int) := hall 1 _ rfl
      have f2 : a.tmps.getD 52 undef = .string (BS ((d : List UInt8).take k)) := hall 2 _ rfl
      have f3 : a.tmps.getD 53 undef = .string (BS (((d : List UInt8).take k) ++ [46])) := hall 3 _ rfl
      have f4 : a.tmps.getD 54 undef = .string (BS d) := hall 4 _ rfl
      have f5 : a.tmps.getD 55 undef = .int .i64 (k : Int) := hall 5 _ rfl
      have f6 : a.tmps.getD 56 undef = .string (BS (d.drop k)) := hall 6 _ rfl
      have f7 : a.tmps.getD 57 undef = .string (BS ((((d : List UInt8).take k) ++ [46]) ++ (d.drop k))) := hall 7 _ rfl
      have f8 : a.tmps.getD 58 undef = .string (BS (((((d : List UInt8).take k) ++ [46]) ++ (d.drop k)) ++ [101])) := hall 8 _ rfl
      have f9 : a.tmps.getD 59 undef = .int .i64 ex := hall 9 _ rfl
      have f10 : a.tmps.getD 60 undef = .string (BS (Lib.itoa ex)) := hall 10 _ rfl
      have f11 : a.tmps.getD 61 undef = .string (BS ((((((d : List UInt8).take k) ++ [46]) ++ (d.drop k)) ++ [101]) ++ (Lib.itoa ex))) := hall 11 _ rfl
      have f12 : a.tmps.getD 62 undef = .tuple #[.int .u64 (r : Int), .int .i64 0] := hall 12 _ rfl
      have f13 : a.tmps.getD 49 undef = .tuple #[.int .u64 (r : Int), .int .i64 0] := hall 13 _ rfl
      have f14 : a.tmps.getD 63 undef = .int .u64 (r : Int) := hall 14 _ rfl
      have f15 : a.tmps.getD 64 undef = .int .i64 0 := hall 15 _ rfl
      have f16 : a.tmps.getD 16 undef = .int .u64 (r : Int) := hall 16 _ rfl
      have f17 : a.tmps.getD 17 undef = .int .i64 0 := hall 17 _ rfl
      simp only [List.foldl, fillFrom, f0, f1, f2, f3, f4, f5, f6, f7, f8, f9, f10, f11, f12, f13, f14, f15, f16, f17] at ha
      clear hall f0 f1 f2 f3 f4 f5 f6 f7 f8 f9 f10 f11 f12 f13 f14 f15 f16 f17
      subst ha
      simp only [Act.put, List.setIfInBounds_toArray, List.set_cons_succ, List.set_cons_zero]
      go_wp2_with fail
      go_meet
      exact ⟨rfl, rfl, Lib.hid hb⟩
  case rest =>
    obtain ⟨rfl, rfl, hB2⟩ := hcut
    replace hB := Lib.hid (hB.out.trans (hB2.out.mono hB.out.size))
    clear hB2
    go_upto_region 7 with (fail)
    go_cut [116, 117, 118] (fun s116 s117 s118 wx => ∃ g, s116 = .slice (some ⟨g, 0, none⟩) 3 3 ∧ s117 = .int .i64 3 ∧ s118 = .int .i64 0 ∧ g < wx.heap.size ∧ Hid (∀ j, j < 3 → wx.cell? ⟨g, j, none⟩ = some (.string (BS (same3 d Z k m ex j)))) ∧ Hid (Below wc.heap.size wc wx))
    case first =>
      have hit := fun wa (hba : Below wc.heap.size wc wa) => hW17.out wa (hB.out.trans (hba.mono hB.out.size))
      have hit2 := fun wa (hba : Below wc.heap.size wc wa) => hW17b.out wa (hB.out.trans (hba.mono hB.out.size))
      refine wp_region_facts2 (fun kq v wq => match kq with
          | 0 => v = .string (BS Z)
          | 1 => v = .string (BS d)
          | 2 => v = .int .i64 (k : Int)
          | 3 => v = .string (BS ((d : List UInt8).take k))
          | 4 => v = .string (BS (Z ++ ((d : List UInt8).take k)))
          | 5 => v = .string (BS ((Z ++ ((d : List UInt8).take k)) ++ [46]))
          | 6 => v = .string (BS d)
          | 7 => v = .int .i64 (k : Int)
          | 8 => v = .string (BS (d.drop k))
          | 9 => v = .string (BS (((Z ++ ((d : List UInt8).take k)) ++ [46]) ++ (d.drop k)))
          | 10 => v = .string (BS Z)
          | 11 => v = .string (BS ((((Z ++ ((d : List UInt8).take k)) ++ [46]) ++ (d.drop k)) ++ Z))
          | 12 => v = .string (BS (((((Z ++ ((d : List UInt8).take k)) ++ [46]) ++ (d.drop k)) ++ Z) ++ [69]))
          | 13 => v = .int .i64 ex
          | 14 => v = .string (BS (Lib.itoa ex))
          | 15 => v = .string (BS ((((((Z ++ ((d : List UInt8).take k)) ++ [46]) ++ (d.drop k)) ++ Z) ++ [69]) ++ (Lib.itoa ex)))
          | 16 => v = .string (BS d)
          | 17 => v = .int .i64 (m : Int)
          | 18 => v = .string (BS ((d : List UInt8).take m))
          | 19 => v = .string (BS (((d : List UInt8).take m) ++ [46]))
          | 20 => v = .string (BS d)
          | 21 => v = .int .i64 (m : Int)
          | 22 => v = .string (BS (d.drop m))
          | 23 => v = .string (BS ((((d : List UInt8).take m) ++ [46]) ++ (d.drop m)))
          | 24 => v = .string (BS (((((d : List UInt8).take m) ++ [46]) ++ (d.drop m)) ++ [101]))
          | 25 => v = .int .i64 ex
          | 26 => v = .int .i64 (k : Int)
          | 27 => v = .int .i64 (ex + k)
          | 28 => v = .int .i64 (m : Int)
          | 29 => v = .int .i64 (ex + k - m)
          | 30 => v = .string (BS (Lib.itoa (ex + k - m)))
          | 31 => v = .string (BS ((((((d : List UInt8).take m) ++ [46]) ++ (d.drop m)) ++ [101]) ++ (Lib.itoa (ex + k - m))))
          | 32 => v = .string (BS d)
          | 33 => v = .int .i64 (m : Int)
          | 34 => v = .string (BS ((d : List UInt8).take m))
          | 35 => v = .string (BS ([43] ++ ((d : List UInt8).take m)))
          | 36 => v = .string (BS (([43] ++ ((d : List UInt8).take m)) ++ [46]))
          | 37 => v = .string (BS d)
          | 38 => v = .int .i64 (m : Int)
          | 39 => v = .string (BS (d.drop m))
          | 40 => v = .string (BS ((([43] ++ ((d : List UInt8).take m)) ++ [46]) ++ (d.drop m)))
          | 41 => v = .string (BS Z)
          | 42 => v = .string (BS (((([43] ++ ((d : List UInt8).take m)) ++ [46]) ++ (d.drop m)) ++ Z))
          | 43 => v = .string (BS ((((([43] ++ ((d : List UInt8).take m)) ++ [46]) ++ (d.drop m)) ++ Z) ++ [101]))
          | 44 => v = .int .i64 ex
          | 45 => v = .int .i64 (k : Int)
          | 46 => v = .int .i64 (ex + k)
          | 47 => v = .int .i64 (m : Int)
          | 48 => v = .int .i64 (ex + k - m)
          | 49 => v = .string (BS (Lib.itoa (ex + k - m)))
          | 50 => v = .string (BS (((((([43] ++ ((d : List UInt8).take m)) ++ [46]) ++ (d.drop m)) ++ Z) ++ [101]) ++ (Lib.itoa (ex + k - m))))
          | 51 => ∃ g, v = .slice (some ⟨g, 0, none⟩) 3 3 ∧ g < wq.heap.size ∧ ∀ j, j < 3 → wq.cell? ⟨g, j, none⟩ = some (.string (BS (same3 d Z k m ex j)))
          | 52 => v = .int .i64 3
          | _ => v = .int .i64 0
          ) (by kernel_rfl) (by kernel_rfl) (by decide +kernel) (by kernel_rfl) ?_ ?_ ?_
      · intro kq v wq wq' h hb
        rcases kq with _ | _ | _ | _ | _ | _ | _ | _ | _ | _ | _ | _ | _ | _ | _ | _ | _ | _ | _ | _ | _ | _ | _ | _ | _ | _ | _ | _ | _ | _ | _ | _ | _ | _ | _ | _ | _ | _ | _ | _ | _ | _ | _ | _ | _ | _ | _ | _ | _ | _ | _ | _ | _ | _ | kq
        · exact h
        · exact h
        · exact h
        · exact h
        · exact h
        · exact h
        · exact h
        · exact h
        · exact h
        · exact h
        · exact h
        · exact h
        · exact h
        · exact h
        · exact h
        · exact h
        · exact h
        · exact h
        · exact h
        · exact h
        · exact h
        · exact h
        · exact h
        · exact h
        · exact h
        · exact h
        · exact h
        · exact h
        · exact h
        · exact h
        · exact h
        · exact h
        · exact h
        · exact h
        · exact h
        · exact h
        · exact h
        · exact h
        · exact h
        · exact h
        · exact h
        · exact h
        · exact h
        · exact h
        · exact h
        · exact h
        · exact h
        · exact h
        · exact h
        · exact h
        · exact h
        · obtain ⟨g, h1, h2, h3⟩ := h; exact ⟨g, h1, Nat.lt_of_lt_of_le h2 hb.size, fun j hj => (hb.cell (p := ⟨g, j, none⟩) h2).trans (h3 j hj)⟩
        · exact h
        · exact h
        · exact h
      · intro kq
        rcases kq with _ | _ | _ | _ | _ | _ | _ | _ | _ | _ | _ | _ | _ | _ | _ | _ | _ | _ | _ | _ | _ | _ | _ | _ | _ | _ | _ | _ | _ | _ | _ | _ | _ | _ | _ | _ | _ | _ | _ | _ | _ | _ | _ | _ | _ | _ | _ | _ | _ | _ | _ | _ | _ | _ | kq
        all_goals intro o ho a wa hba hout hsz2 hpre
        all_goals cases ho
        all_goals have q15 : a.tmps.getD 15 undef = .string (BS Z) := (hout 15 (by decide +kernel)).trans rfl
        all_goals have q11 : a.tmps.getD 11 undef = .string (BS d) := (hout 11 (by decide +kernel)).trans rfl
        all_goals have q12 : a.tmps.getD 12 undef = .int .i64 (k : Int) := (hout 12 (by decide +kernel)).trans rfl
        all_goals have q13 : a.tmps.getD 13 undef = .int .i64 (m : Int) := (hout 13 (by decide +kernel)).trans rfl
        all_goals have q14 : a.tmps.getD 14 undef = .int .i64 ex := (hout 14 (by decide +kernel)).trans rfl
        all_goals clear hout hsz2
        · exact step_move rfl (met_none rfl) (.inl rfl) ⟨_, rfl, Below.refl _ _, q15⟩
        · exact step_move rfl (met_none rfl) (.inl rfl) ⟨_, rfl, Below.refl _ _, q11⟩
        · exact step_move rfl (met_none rfl) (.inl rfl) ⟨_, rfl, Below.refl _ _, q12⟩
        · have p : a.tmps.getD 66 undef = .string (BS d) := hpre ⟨1, .data⟩ (by simp) rfl _ rfl
          have g : a.tmps.getD 67 undef = .int .i64 (k : Int) := hpre ⟨2, .data⟩ (by simp) rfl _ rfl
          exact step_slice_hi rfl (met_none rfl) rfl p g (run_hi d k hkl wa) ⟨_, rfl, Below.refl _ _, rfl⟩
        · have p : a.tmps.getD 65 undef = .string (BS Z) := hpre ⟨0, .data⟩ (by simp) rfl _ rfl
          have g : a.tmps.getD 68 undef = .string (BS ((d : List UInt8).take k)) := hpre ⟨3, .data⟩ (by simp) rfl _ rfl
          exact step_bin rfl (met_none rfl) rfl (u := .string (BS Z)) (v := .string (BS ((d : List UInt8).take k))) p g (run_cat Z ((d : List UInt8).take k) _ _ (by simp only [List.length_append, List.length_take, List.length_drop, List.length_cons, List.length_nil]; omega) wa) ⟨_, rfl, Below.refl _ _, rfl⟩
        · have p : a.tmps.getD 69 undef = .string (BS (Z ++ ((d : List UInt8).take k))) := hpre ⟨4, .data⟩ (by simp) rfl _ rfl
          exact step_bin rfl (met_none rfl) rfl (u := .string (BS (Z ++ ((d : List UInt8).take k)))) (v := .string (BS [46])) p rfl (run_cat (Z ++ ((d : List UInt8).take k)) [46] _ _ (by simp only [List.length_append, List.length_take, List.length_drop, List.length_cons, List.length_nil]; omega) wa) ⟨_, rfl, Below.refl _ _, rfl⟩
        · exact step_move rfl (met_none rfl) (.inl rfl) ⟨_, rfl, Below.refl _ _, q11⟩
        · exact step_move rfl (met_none rfl) (.inl rfl) ⟨_, rfl, Below.refl _ _, q12⟩
        · have p : a.tmps.getD 71 undef = .string (BS d) := hpre ⟨6, .data⟩ (by simp) rfl _ rfl
          have g : a.tmps.getD 72 undef = .int .i64 (k : Int) := hpre ⟨7, .data⟩ (by simp) rfl _ rfl
          exact step_slice_lo rfl (met_none rfl) rfl p g (run_lo d k hkl wa) ⟨_, rfl, Below.refl _ _, rfl⟩
        · have p : a.tmps.getD 70 undef = .string (BS ((Z ++ ((d : List UInt8).take k)) ++ [46])) := hpre ⟨5, .data⟩ (by simp) rfl _ rfl
          have g : a.tmps.getD 73 undef = .string (BS (d.drop k)) := hpre ⟨8, .data⟩ (by simp) rfl _ rfl
          exact step_bin rfl (met_none rfl) rfl (u := .string (BS ((Z ++ ((d : List UInt8).take k)) ++ [46]))) (v := .string (BS (d.drop k))) p g (run_cat ((Z ++ ((d : List UInt8).take k)) ++ [46]) (d.drop k) _ _ (by simp only [List.length_append, List.length_take, List.length_drop, List.length_cons, List.length_nil]; omega) wa) ⟨_, rfl, Below.refl _ _, rfl⟩
        · exact step_move rfl (met_none rfl) (.inl rfl) ⟨_, rfl, Below.refl _ _, q15⟩
        · have p : a.tmps.getD 74 undef = .string (BS (((Z ++ ((d : List UInt8).take k)) ++ [46]) ++ (d.drop k))) := hpre ⟨9, .data⟩ (by simp) rfl _ rfl
          have g : a.tmps.getD 75 undef = .string (BS Z) := hpre ⟨10, .data⟩ (by simp) rfl _ rfl
          exact step_bin rfl (met_none rfl) rfl (u := .string (BS (((Z ++ ((d : List UInt8).take k)) ++ [46]) ++ (d.drop k)))) (v := .string (BS Z)) p g (run_cat (((Z ++ ((d : List UInt8).take k)) ++ [46]) ++ (d.drop k)) Z _ _ (by simp only [List.length_append, List.length_take, List.length_drop, List.length_cons, List.length_nil]; omega) wa) ⟨_, rfl, Below.refl _ _, rfl⟩
        · have p : a.tmps.getD 76 undef = .string (BS ((((Z ++ ((d : List UInt8).take k)) ++ [46]) ++ (d.drop k)) ++ Z)) := hpre ⟨11, .data⟩ (by simp) rfl _ rfl
          exact step_bin rfl (met_none rfl) rfl (u := .string (BS ((((Z ++ ((d : List UInt8).take k)) ++ [46]) ++ (d.drop k)) ++ Z))) (v := .string (BS [69])) p rfl (run_cat ((((Z ++ ((d : List UInt8).take k)) ++ [46]) ++ (d.drop k)) ++ Z) [69] _ _ (by simp only [List.length_append, List.length_take, List.length_drop, List.length_cons, List.length_nil]; omega) wa) ⟨_, rfl, Below.refl _ _, rfl⟩
        · exact step_move rfl (met_none rfl) (.inl rfl) ⟨_, rfl, Below.refl _ _, q14⟩
        · have p : a.tmps.getD 78 undef = .int .i64 ex := hpre ⟨13, .data⟩ (by simp) rfl _ rfl
          refine step_call rfl (met_none rfl) _ (args1 p) (hc17 _ _) ((hit wa hba).mono ?_)
          rintro e w' ⟨rfl, hb⟩
          exact ⟨_, rfl, _, rfl, hb, rfl⟩
        · have p : a.tmps.getD 77 undef = .string (BS (((((Z ++ ((d : List UInt8).take k)) ++ [46]) ++ (d.drop k)) ++ Z) ++ [69])) := hpre ⟨12, .data⟩ (by simp) rfl _ rfl
          have g : a.tmps.getD 79 undef = .string (BS (Lib.itoa ex)) := hpre ⟨14, .data⟩ (by simp) rfl _ rfl
          exact step_bin rfl (met_none rfl) rfl (u := .string (BS (((((Z ++ ((d : List UInt8).take k)) ++ [46]) ++ (d.drop k)) ++ Z) ++ [69]))) (v := .string (BS (Lib.itoa ex))) p g (run_cat (((((Z ++ ((d : List UInt8).take k)) ++ [46]) ++ (d.drop k)) ++ Z) ++ [69]) (Lib.itoa ex) _ _ (by simp only [List.length_append, List.length_take, List.length_drop, List.length_cons, List.length_nil]; omega) wa) ⟨_, rfl, Below.refl _ _, rfl⟩
        · exact step_move rfl (met_none rfl) (.inl rfl) ⟨_, rfl, Below.refl _ _, q11⟩
        · exact step_move rfl (met_none rfl) (.inl rfl) ⟨_, rfl, Below.refl _ _, q13⟩
        · have p : a.tmps.getD 81 undef = .string (BS d) := hpre ⟨16, .data⟩ (by simp) rfl _ rfl
          have g : a.tmps.getD 82 undef = .int .i64 (m : Int) := hpre ⟨17, .data⟩ (by simp) rfl _ rfl
          exact step_slice_hi rfl (met_none rfl) rfl p g (run_hi d m hml wa) ⟨_, rfl, Below.refl _ _, rfl⟩
        · have p : a.tmps.getD 83 undef = .string (BS ((d : List UInt8).take m)) := hpre ⟨18, .data⟩ (by simp) rfl _ rfl
          exact step_bin rfl (met_none rfl) rfl (u := .string (BS ((d : List UInt8).take m))) (v := .string (BS [46])) p rfl (run_cat ((d : List UInt8).take m) [46] _ _ (by simp only [List.length_append, List.length_take, List.length_drop, List.length_cons, List.length_nil]; omega) wa) ⟨_, rfl, Below.refl _ _, rfl⟩
        · exact step_move rfl (met_none rfl) (.inl rfl) ⟨_, rfl, Below.refl _ _, q11⟩
        · exact step_move rfl (met_none rfl) (.inl rfl) ⟨_, rfl, Below.refl _ _, q13⟩
        · have p : a.tmps.getD 85 undef = .string (BS d) := hpre ⟨20, .data⟩ (by simp) rfl _ rfl
          have g : a.tmps.getD 86 undef = .int .i64 (m : Int) := hpre ⟨21, .data⟩ (by simp) rfl _ rfl
          exact step_slice_lo rfl (met_none rfl) rfl p g (run_lo d m hml wa) ⟨_, rfl, Below.refl _ _, rfl⟩
        · have p : a.tmps.getD 84 undef = .string (BS (((d : List UInt8).take m) ++ [46])) := hpre ⟨19, .data⟩ (by simp) rfl _ rfl
          have g : a.tmps.getD 87 undef = .string (BS (d.drop m)) := hpre ⟨22, .data⟩ (by simp) rfl _ rfl
          exact step_bin rfl (met_none rfl) rfl (u := .string (BS (((d : List UInt8).take m) ++ [46]))) (v := .string (BS (d.drop m))) p g (run_cat (((d : List UInt8).take m) ++ [46]) (d.drop m) _ _ (by simp only [List.length_append, List.length_take, List.length_drop, List.length_cons, List.length_nil]; omega) wa) ⟨_, rfl, Below.refl _ _, rfl⟩
        · have p : a.tmps.getD 88 undef = .string (BS ((((d : List UInt8).take m) ++ [46]) ++ (d.drop m))) := hpre ⟨23, .data⟩ (by simp) rfl _ rfl
          exact step_bin rfl (met_none rfl) rfl (u := .string (BS ((((d : List UInt8).take m) ++ [46]) ++ (d.drop m)))) (v := .string (BS [101])) p rfl (run_cat ((((d : List UInt8).take m) ++ [46]) ++ (d.drop m)) [101] _ _ (by simp only [List.length_append, List.length_take, List.length_drop, List.length_cons, List.length_nil]; omega) wa) ⟨_, rfl, Below.refl _ _, rfl⟩
        · exact step_move rfl (met_none rfl) (.inl rfl) ⟨_, rfl, Below.refl _ _, q14⟩
        · exact step_move rfl (met_none rfl) (.inl rfl) ⟨_, rfl, Below.refl _ _, q12⟩
        · have p : a.tmps.getD 90 undef = .int .i64 ex := hpre ⟨25, .data⟩ (by simp) rfl _ rfl
          have g : a.tmps.getD 91 undef = .int .i64 (k : Int) := hpre ⟨26, .data⟩ (by simp) rfl _ rfl
          exact step_bin rfl (met_none rfl) rfl (u := .int .i64 ex) (v := .int .i64 (k : Int)) p g (run_addI ex k _ _ (by omega) (by omega) wa) ⟨_, rfl, Below.refl _ _, rfl⟩
        · exact step_move rfl (met_none rfl) (.inl rfl) ⟨_, rfl, Below.refl _ _, q13⟩
        · have p : a.tmps.getD 92 undef = .int .i64 (ex + k) := hpre ⟨27, .data⟩ (by simp) rfl _ rfl
          have g : a.tmps.getD 93 undef = .int .i64 (m : Int) := hpre ⟨28, .data⟩ (by simp) rfl _ rfl
          exact step_bin rfl (met_none rfl) rfl (u := .int .i64 (ex + k)) (v := .int .i64 (m : Int)) p g (run_subI (ex + k) m _ _ (by omega) (by omega) wa) ⟨_, rfl, Below.refl _ _, rfl⟩
        · have p : a.tmps.getD 94 undef = .int .i64 (ex + k - m) := hpre ⟨29, .data⟩ (by simp) rfl _ rfl
          refine step_call rfl (met_none rfl) _ (args1 p) (hc17 _ _) ((hit2 wa hba).mono ?_)
          rintro e w' ⟨rfl, hb⟩
          exact ⟨_, rfl, _, rfl, hb, rfl⟩
        · have p : a.tmps.getD 89 undef = .string (BS (((((d : List UInt8).take m) ++ [46]) ++ (d.drop m)) ++ [101])) := hpre ⟨24, .data⟩ (by simp) rfl _ rfl
          have g : a.tmps.getD 95 undef = .string (BS (Lib.itoa (ex + k - m))) := hpre ⟨30, .data⟩ (by simp) rfl _ rfl
          exact step_bin rfl (met_none rfl) rfl (u := .string (BS (((((d : List UInt8).take m) ++ [46]) ++ (d.drop m)) ++ [101]))) (v := .string (BS (Lib.itoa (ex + k - m)))) p g (run_cat (((((d : List UInt8).take m) ++ [46]) ++ (d.drop m)) ++ [101]) (Lib.itoa (ex + k - m)) _ _ (by simp only [List.length_append, List.length_take, List.length_drop, List.length_cons, List.length_nil]; omega) wa) ⟨_, rfl, Below.refl _ _, rfl⟩
        · exact step_move rfl (met_none rfl) (.inl rfl) ⟨_, rfl, Below.refl _ _, q11⟩
        · exact step_move rfl (met_none rfl) (.inl rfl) ⟨_, rfl, Below.refl _ _, q13⟩
        · have p : a.tmps.getD 97 undef = .string (BS d) := hpre ⟨32, .data⟩ (by simp) rfl _ rfl
          have g : a.tmps.getD 98 undef = .int .i64 (m : Int) := hpre ⟨33, .data⟩ (by simp) rfl _ rfl
          exact step_slice_hi rfl (met_none rfl) rfl p g (run_hi d m hml wa) ⟨_, rfl, Below.refl _ _, rfl⟩
        · have g : a.tmps.getD 99 undef = .string (BS ((d : List UInt8).take m)) := hpre ⟨34, .data⟩ (by simp) rfl _ rfl
          exact step_bin rfl (met_none rfl) rfl (u := .string (BS [43])) (v := .string (BS ((d : List UInt8).take m))) rfl g (run_cat [43] ((d : List UInt8).take m) _ _ (by simp only [List.length_append, List.length_take, List.length_drop, List.length_cons, List.length_nil]; omega) wa) ⟨_, rfl, Below.refl _ _, rfl⟩
        · have p : a.tmps.getD 100 undef = .string (BS ([43] ++ ((d : List UInt8).take m))) := hpre ⟨35, .data⟩ (by simp) rfl _ rfl
          exact step_bin rfl (met_none rfl) rfl (u := .string (BS ([43] ++ ((d : List UInt8).take m)))) (v := .string (BS [46])) p rfl (run_cat ([43] ++ ((d : List UInt8).take m)) [46] _ _ (by simp only [List.length_append, List.length_take, List.length_drop, List.length_cons, List.length_nil]; omega) wa) ⟨_, rfl, Below.refl _ _, rfl⟩
        · exact step_move rfl (met_none rfl) (.inl rfl) ⟨_, rfl, Below.refl _ _, q11⟩
        · exact step_move rfl (met_none rfl) (.inl rfl) ⟨_, rfl, Below.refl _ _, q13⟩
        · have p : a.tmps.getD 102 undef = .string (BS d) := hpre ⟨37, .data⟩ (by simp) rfl _ rfl
          have g : a.tmps.getD 103 undef = .int .i64 (m : Int) := hpre ⟨38, .data⟩ (by simp) rfl _ rfl
          exact step_slice_lo rfl (met_none rfl) rfl p g (run_lo d m hml wa) ⟨_, rfl, Below.refl _ _, rfl⟩
        · have p : a.tmps.getD 101 undef = .string (BS (([43] ++ ((d : List UInt8).take m)) ++ [46])) := hpre ⟨36, .data⟩ (by simp) rfl _ rfl
          have g : a.tmps.getD 104 undef = .string (BS (d.drop m)) := hpre ⟨39, .data⟩ (by simp) rfl _ rfl
          exact step_bin rfl (met_none rfl) rfl (u := .string (BS (([43] ++ ((d : List UInt8).take m)) ++ [46]))) (v := .string (BS (d.drop m))) p g (run_cat (([43] ++ ((d : List UInt8).take m)) ++ [46]) (d.drop m) _ _ (by simp only [List.length_append, List.length_take, List.length_drop, List.length_cons, List.length_nil]; omega) wa) ⟨_, rfl, Below.refl _ _, rfl⟩
        · exact step_move rfl (met_none rfl) (.inl rfl) ⟨_, rfl, Below.refl _ _, q15⟩
        · have p : a.tmps.getD 105 undef = .string (BS ((([43] ++ ((d : List UInt8).take m)) ++ [46]) ++ (d.drop m))) := hpre ⟨40, .data⟩ (by simp) rfl _ rfl
          have g : a.tmps.getD 106 undef = .string (BS Z) := hpre ⟨41, .data⟩ (by simp) rfl _ rfl
          exact step_bin rfl (met_none rfl) rfl (u := .string (BS ((([43] ++ ((d : List UInt8).take m)) ++ [46]) ++ (d.drop m)))) (v := .string (BS Z)) p g (run_cat ((([43] ++ ((d : List UInt8).take m)) ++ [46]) ++ (d.drop m)) Z _ _ (by simp only [List.length_append, List.length_take, List.length_drop, List.length_cons, List.length_nil]; omega) wa) ⟨_, rfl, Below.refl _ _, rfl⟩
        · have p : a.tmps.getD 107 undef = .string (BS (((([43] ++ ((d : List UInt8).take m)) ++ [46]) ++ (d.drop m)) ++ Z)) := hpre ⟨42, .data⟩ (by simp) rfl _ rfl
          exact step_bin rfl (met_none rfl) rfl (u := .string (BS (((([43] ++ ((d : List UInt8).take m)) ++ [46]) ++ (d.drop m)) ++ Z))) (v := .string (BS [101])) p rfl (run_cat (((([43] ++ ((d : List UInt8).take m)) ++ [46]) ++ (d.drop m)) ++ Z) [101] _ _ (by simp only [List.length_append, List.length_take, List.length_drop, List.length_cons, List.length_nil]; omega) wa) ⟨_, rfl, Below.refl _ _, rfl⟩
        · exact step_move rfl (met_none rfl) (.inl rfl) ⟨_, rfl, Below.refl _ _, q14⟩
        · exact step_move rfl (met_none rfl) (.inl rfl) ⟨_, rfl, Below.refl _ _, q12⟩
        · have p : a.tmps.getD 109 undef = .int .i64 ex := hpre ⟨44, .data⟩ (by simp) rfl _ rfl
          have g : a.tmps.getD 110 undef = .int .i64 (k : Int) := hpre ⟨45, .data⟩ (by simp) rfl _ rfl
          exact step_bin rfl (met_none rfl) rfl (u := .int .i64 ex) (v := .int .i64 (k : Int)) p g (run_addI ex k _ _ (by omega) (by omega) wa) ⟨_, rfl, Below.refl _ _, rfl⟩
        · exact step_move rfl (met_none rfl) (.inl rfl) ⟨_, rfl, Below.refl _ _, q13⟩
        · have p : a.tmps.getD 111 undef = .int .i64 (ex + k) := hpre ⟨46, .data⟩ (by simp) rfl _ rfl
          have g : a.tmps.getD 112 undef = .int .i64 (m : Int) := hpre ⟨47, .data⟩ (by simp) rfl _ rfl
          exact step_bin rfl (met_none rfl) rfl (u := .int .i64 (ex + k)) (v := .int .i64 (m : Int)) p g (run_subI (ex + k) m _ _ (by omega) (by omega) wa) ⟨_, rfl, Below.refl _ _, rfl⟩
        · have p : a.tmps.getD 113 undef = .int .i64 (ex + k - m) := hpre ⟨48, .data⟩ (by simp) rfl _ rfl
          refine step_call rfl (met_none rfl) _ (args1 p) (hc17 _ _) ((hit2 wa hba).mono ?_)
          rintro e w' ⟨rfl, hb⟩
          exact ⟨_, rfl, _, rfl, hb, rfl⟩
        · have p : a.tmps.getD 108 undef = .string (BS ((((([43] ++ ((d : List UInt8).take m)) ++ [46]) ++ (d.drop m)) ++ Z) ++ [101])) := hpre ⟨43, .data⟩ (by simp) rfl _ rfl
          have g : a.tmps.getD 114 undef = .string (BS (Lib.itoa (ex + k - m))) := hpre ⟨49, .data⟩ (by simp) rfl _ rfl
          exact step_bin rfl (met_none rfl) rfl (u := .string (BS ((((([43] ++ ((d : List UInt8).take m)) ++ [46]) ++ (d.drop m)) ++ Z) ++ [101]))) (v := .string (BS (Lib.itoa (ex + k - m)))) p g (run_cat ((((([43] ++ ((d : List UInt8).take m)) ++ [46]) ++ (d.drop m)) ++ Z) ++ [101]) (Lib.itoa (ex + k - m)) _ _ (by simp only [List.length_append, List.length_take, List.length_drop, List.length_cons, List.length_nil]; omega) wa) ⟨_, rfl, Below.refl _ _, rfl⟩
        · have p0 : a.tmps.getD 80 undef = .string (BS ((((((Z ++ ((d : List UInt8).take k)) ++ [46]) ++ (d.drop k)) ++ Z) ++ [69]) ++ (Lib.itoa ex))) := hpre ⟨15, .data⟩ (by simp) rfl _ rfl
          have p1 : a.tmps.getD 96 undef = .string (BS ((((((d : List UInt8).take m) ++ [46]) ++ (d.drop m)) ++ [101]) ++ (Lib.itoa (ex + k - m)))) := hpre ⟨31, .data⟩ (by simp) rfl _ rfl
          have p2 : a.tmps.getD 115 undef = .string (BS (((((([43] ++ ((d : List UInt8).take m)) ++ [46]) ++ (d.drop m)) ++ Z) ++ [101]) ++ (Lib.itoa (ex + k - m)))) := hpre ⟨50, .data⟩ (by simp) rfl _ rfl
          refine step_b3 rfl (met_none rfl) rfl p0 p1 p2 ⟨_, rfl, (Below.refl _ _).alloc (Nat.le_refl _) _, wa.heap.size, rfl, by simp, fun j hj => ?_⟩
          rw [Lib.cell_of_heap (Array.getElem?_push_size)]
          match j, hj with
          | 0, _ => rfl
          | 1, _ => rfl
          | 2, _ => rfl
        · obtain ⟨g, p1, p2, p3⟩ : ∃ g, a.tmps.getD 116 undef = .slice (some ⟨g, 0, none⟩) 3 3 ∧ g < wa.heap.size ∧ ∀ j, j < 3 → wa.cell? ⟨g, j, none⟩ = some (.string (BS (same3 d Z k m ex j))) := hpre ⟨51, .data⟩ (by simp) rfl _ rfl
          exact step_len_slice Tryz.underlying38 rfl (met_none rfl) rfl p1 ⟨_, rfl, Below.refl _ _, rfl⟩
        · exact step_move rfl (met_none rfl) (.inl rfl) ⟨_, rfl, Below.refl _ _, rfl⟩
      · intro a w hb hall ha
        have f0 : a.tmps.getD 65 undef = .string (BS Z) := hall 0 _ rfl
        have f1 : a.tmps.getD 66 undef = .string (BS d) := hall 1 _ rfl
        have f2 : a.tmps.getD 67 undef = .int .i64 (k : Int) := hall 2 _ rfl
        have f3 : a.tmps.getD 68 undef = .string (BS ((d : List UInt8).take k)) := hall 3 _ rfl
        have f4 : a.tmps.getD 69 undef = .string (BS (Z ++ ((d : List UInt8).take k))) := hall 4 _ rfl
        have f5 : a.tmps.getD 70 undef = .string (BS ((Z ++ ((d : List UInt8).take k)) ++ [46])) := hall 5 _ rfl
        have f6 : a.tmps.getD 71 undef = .string (BS d) := hall 6 _ rfl
        have f7 : a.tmps.getD 72 undef = .int .i64 (k : Int) := hall 7 _ rfl
        have f8 : a.tmps.getD 73 undef = .string (BS (d.drop k)) := hall 8 _ rfl
        have f9 : a.tmps.getD 74 undef = .string (BS (((Z ++ ((d : List UInt8).take k)) ++ [46]) ++ (d.drop k))) := hall 9 _ rfl
        have f10 : a.tmps.getD 75 undef = .string (BS Z) := hall 10 _ rfl
        have f11 : a.tmps.getD 76 undef = .string (BS ((((Z ++ ((d : List UInt8).take k)) ++ [46]) ++ (d.drop k)) ++ Z)) := hall 11 _ rfl
        have f12 : a.tmps.getD 77 undef = .string (BS (((((Z ++ ((d : List UInt8).take k)) ++ [46]) ++ (d.drop k)) ++ Z) ++ [69])) := hall 12 _ rfl
        have f13 : a.tmps.getD 78 undef = .int .i64 ex := hall 13 _ rfl
        have f14 : a.tmps.getD 79 undef = .string (BS (Lib.itoa ex)) := hall 14 _ rfl
        have f15 : a.tmps.getD 80 undef = .string (BS ((((((Z ++ ((d : List UInt8).take k)) ++ [46]) ++ (d.drop k)) ++ Z) ++ [69]) ++ (Lib.itoa ex))) := hall 15 _ rfl
        have f16 : a.tmps.getD 81 undef = .string (BS d) := hall 16 _ rfl
        have f17 : a.tmps.getD 82 undef = .int .i64 (m : Int) := hall 17 _ rfl
        have f18 : a.tmps.getD 83 undef = .string (BS ((d : List UInt8).take m)) := hall 18 _ rfl
        have f19 : a.tmps.getD 84 undef = .string (BS (((d : List UInt8).take m) ++ [46])) := hall 19 _ rfl
        have f20 : a.tmps.getD 85 undef = .string (BS d) := hall 20 _ rfl
        have f21 : a.tmps.getD 86 undef = .int .i64 (m : Int) := hall 21 _ rfl
        have f22 : a.tmps.getD 87 undef = .string (BS (d.drop m)) := hall 22 _ rfl
        have f23 : a.tmps.getD 88 undef = .string (BS ((((d : List UInt8).take m) ++ [46]) ++ (d.drop m))) := hall 23 _ rfl
        have f24 : a.tmps.getD 89 undef = .string (BS (((((d : List UInt8).take m) ++ [46]) ++ (d.drop m)) ++ [101])) := hall 24 _ rfl
        have f25 : a.tmps.getD 90 undef = .int .i64 ex := hall 25 _ rfl
        have f26 : a.tmps.getD 91 undef = .int .i64 (k : Int) := hall 26 _ rfl
        have f27 : a.tmps.getD 92 undef = .int .i64 (ex + k) := hall 27 _ rfl
        have f28 : a.tmps.getD 93 undef = .int .i64 (m : Int) := hall 28 _ rfl
        have f29 : a.tmps.getD 94 undef = .int .i64 (ex + k - m) := hall 29 _ rfl
        have f30 : a.tmps.getD 95 undef = .string (BS (Lib.itoa (ex + k - m))) := hall 30 _ rfl
        have f31 : a.tmps.getD 96 undef = .string (BS ((((((d : List UInt8).take m) ++ [46]) ++ (d.drop m)) ++ [101]) ++ (Lib.itoa (ex + k - m)))) := hall 31 _ rfl
        have f32 : a.tmps.getD 97 undef = .string (BS d) := hall 32 _ rfl
        have f33 : a.tmps.getD 98 undef = .int .i64 (m : Int) := hall 33 _ rfl
        have f34 : a.tmps.getD 99 undef = .string (BS ((d : List UInt8).take m)) := hall 34 _ rfl
        have f35 : a.tmps.getD 100 undef = .string (BS ([43] ++ ((d : List UInt8).take m))) := hall 35 _ rfl
        have f36 : a.tmps.getD 101 undef = .string (BS (([43] ++ ((d : List UInt8).take m)) ++ [46])) := hall 36 _ rfl
        have f37 : a.tmps.getD 102 undef = .string (BS d) := hall 37 _ rfl
        have f38 : a.tmps.getD 103 undef = .int .i64 (m : Int) := hall 38 _ rfl
        have f39 : a.tmps.getD 104 undef = .string (BS (d.drop m)) := hall 39 _ rfl
        have f40 : a.tmps.getD 105 undef = .string (BS ((([43] ++ ((d : List UInt8).take m)) ++ [46]) ++ (d.drop m))) := hall 40 _ rfl
        have f41 : a.tmps.getD 106 undef = .string (BS Z) := hall 41 _ rfl
        have f42 : a.tmps.getD 107 undef = .string (BS (((([43] ++ ((d : List UInt8).take m)) ++ [46]) ++ (d.drop m)) ++ Z)) := hall 42 _ rfl
        have f43 : a.tmps.getD 108 undef = .string (BS ((((([43] ++ ((d : List UInt8).take m)) ++ [46]) ++ (d.drop m)) ++ Z) ++ [101])) := hall 43 _ rfl
        have f44 : a.tmps.getD 109 undef = .int .i64 ex := hall 44 _ rfl
        have f45 : a.tmps.getD 110 undef = .int .i64 (k : Int) := hall 45 _ rfl
        have f46 : a.tmps.getD 111 undef = .int .i64 (ex + k) := hall 46 _ rfl
        have f47 : a.tmps.getD 112 undef = .int .i64 (m : Int) := hall 47 _ rfl
        have f48 : a.tmps.getD 113 undef = .int .i64 (ex + k - m) := hall 48 _ rfl
        have f49 : a.tmps.getD 114 undef = .string (BS (Lib.itoa (ex + k - m))) := hall 49 _ rfl
        have f50 : a.tmps.getD 115 undef = .string (BS (((((([43] ++ ((d : List UInt8).take m)) ++ [46]) ++ (d.drop m)) ++ Z) ++ [101]) ++ (Lib.itoa (ex + k - m)))) := hall 50 _ rfl
        obtain ⟨g51, f51, h51, k51⟩ : ∃ g, a.tmps.getD 116 undef = .slice (some ⟨g, 0, none⟩) 3 3 ∧ g < w.heap.size ∧ ∀ j, j < 3 → w.cell? ⟨g, j, none⟩ = some (.string (BS (same3 d Z k m ex j))) := hall 51 _ rfl
        have f52 : a.tmps.getD 117 undef = .int .i64 3 := hall 52 _ rfl
        have f53 : a.tmps.getD 118 undef = .int .i64 0 := hall 53 _ rfl
        simp only [List.foldl, fillFrom, f0, f1, f2, f3, f4, f5, f6, f7, f8, f9, f10, f11, f12, f13, f14, f15, f16, f17, f18, f19, f20, f21, f22, f23, f24, f25, f26, f27, f28, f29, f30, f31, f32, f33, f34, f35, f36, f37, f38, f39, f40, f41, f42, f43, f44, f45, f46, f47, f48, f49, f50, f51, f52, f53] at ha
        clear hall f0 f1 f2 f3 f4 f5 f6 f7 f8 f9 f10 f11 f12 f13 f14 f15 f16 f17 f18 f19 f20 f21 f22 f23 f24 f25 f26 f27 f28 f29 f30 f31 f32 f33 f34 f35 f36 f37 f38 f39 f40 f41 f42 f43 f44 f45 f46 f47 f48 f49 f50 f51 f52 f53
        subst ha
        simp only [Act.put, List.setIfInBounds_toArray, List.set_cons_succ, List.set_cons_zero]
        go_wp2_with fail
        go_meet
        exact ⟨g51, rfl, rfl, rfl, h51, Lib.hid k51, Lib.hid hb⟩
    case rest =>
      obtain ⟨g, rfl, rfl, rfl, hg, hC, hB2⟩ := hcut
      replace hB := Lib.hid (hB.out.trans (hB2.out.mono hB.out.size))
      clear hB2
      have hWj : Hid (∀ j, j < 3 → ∀ W, Below w.heap.size w W → Calls Tryz.prog 16 #[.string (BS (same3 d Z k m ex j))] W (PsRet (r : Int) 0 W)) := Lib.hid (fun j hj W h => by
        have q := hW16.out W h
        match j, hj with
        | 0, _ => exact q.2.1
        | 1, _ => exact q.2.2.1
        | 2, _ => exact q.2.2.2.1)
      clear hj6
      go_upto_block 0 with (fail)
      go_cut [118] (fun s118 wx => s118 = .int .i64 3 ∧ Hid (Below wc.heap.size wc wx))
      case first =>
        go_wp2_with fail
        go_loopg [118] 4 (fun gk s118 wx => ∃ j : Nat, 3 - j < gk ∧ j ≤ 3 ∧ s118 = .int .i64 (j : Int) ∧ Hid (Below wc.heap.size wc wx))
        case atStart => exact ⟨0, by omega, by omega, rfl, Lib.hid (Below.refl _ _)⟩
        case round =>
          obtain ⟨j, hg1, hj, rfl, B⟩ := hrel
          by_cases hlt : j < 3
          · have t1 : decide ((j : Int) < 3) = true := decide_eq_true (by omega)
            have t1' : decide (j < 3) = true := decide_eq_true hlt
            have hcell : wr.cell? ⟨g, j, none⟩ = some (.string (BS (same3 d Z k m ex j))) := by rw [B.out.cell (p := ⟨g, j, none⟩) hg]; exact hC.out j hlt
            obtain ⟨sj, hsj⟩ : ∃ sj, Hid (sj = same3 d Z k m ex j) := ⟨_, Lib.hid rfl⟩
            have hq := Lib.hid (hWj.out j hlt wr (hB.out.trans (B.out.mono hB.out.size)))
            rw [← hsj.out] at hcell hq
            go_wp2_with fail
            refine hq.out.mono ?_; rintro e w3 ⟨rfl, hb⟩
            replace B := Lib.hid (B.out.trans (hb.mono B.out.size))
            clear hb hcell hq
            go_wp2_with fail
            go_roundg (gk - 1)
            case measure => omega
            case rel => exact ⟨j + 1, by omega, by omega, by go_num, B⟩
          · obtain rfl : j = 3 := by omega
            go_wp2_with fail
            go_meet
            exact ⟨rfl, B⟩
      case rest =>
        obtain ⟨rfl, hB2⟩ := hcut
        replace hB := Lib.hid (hB.out.trans (hB2.out.mono hB.out.size))
        clear hB2 hWj hC
        by_cases h0 : 0 ≤ ex
        · have t1 : decide (0 ≤ ex) = true := decide_eq_true h0
          have hl3 := hx3.out h0
          have h0h := Lib.hid h0
          clear h0
          go_upto_region 15 with (fail)
          go_cut [22, 23] (fun s22 s23 wx => s22 = .int .u64 (r : Int) ∧ s23 = .int .i64 0 ∧ Hid (Below wc.heap.size wc wx))
          case first =>
            have hit := fun wa (hba : Below wc.heap.size wc wa) => hW17.out wa (hB.out.trans (hba.mono hB.out.size))
            have hp4 := fun wa (hba : Below wc.heap.size wc wa) => (hW16.out wa (hB.out.trans (hba.mono hB.out.size))).2.2.2.2 h0h.out
            refine wp_region_facts2 (fun kq v wq => match kq with
                | 0 => v = .string (BS d)
                | 1 => v = .int .i64 (k : Int)
                | 2 => v = .string (BS ((d : List UInt8).take k))
                | 3 => v = .string (BS (((d : List UInt8).take k) ++ [46]))
                | 4 => v = .string (BS d)
                | 5 => v = .int .i64 (k : Int)
                | 6 => v = .string (BS (d.drop k))
                | 7 => v = .string (BS ((((d : List UInt8).take k) ++ [46]) ++ (d.drop k)))
                | 8 => v = .int .u8 (zr : Int)
                | 9 => v = .int .i64 (zr : Int)
                | 10 => v = .int .i64 ((zr % 3 : Nat) : Int)
                | 11 => v = .int .i64 ((2 + zr % 3 : Nat) : Int)
                | 12 => v = .string (BS (([101, 43, 48, 48] : List UInt8).take (2 + zr % 3)))
                | 13 => v = .string (BS (((((d : List UInt8).take k) ++ [46]) ++ (d.drop k)) ++ (([101, 43, 48, 48] : List UInt8).take (2 + zr % 3))))
                | 14 => v = .int .i64 ex
                | 15 => v = .string (BS (Lib.itoa ex))
                | 16 => v = .string (BS ((((((d : List UInt8).take k) ++ [46]) ++ (d.drop k)) ++ (([101, 43, 48, 48] : List UInt8).take (2 + zr % 3))) ++ (Lib.itoa ex)))
                | 17 => v = .tuple #[.int .u64 (r : Int), .int .i64 0]
                | 18 => v = .tuple #[.int .u64 (r : Int), .int .i64 0]
                | 19 => v = .int .u64 (r : Int)
                | 20 => v = .int .i64 0
                | 21 => v = .int .u64 (r : Int)
                | _ => v = .int .i64 0
                ) (by kernel_rfl) (by kernel_rfl) (by decide +kernel) (by kernel_rfl) ?_ ?_ ?_
            · intro kq v wq wq' h hb
              rcases kq with _ | _ | _ | _ | _ | _ | _ | _ | _ | _ | _ | _ | _ | _ | _ | _ | _ | _ | _ | _ | _ | _ | _ | kq
              · exact h
              · exact h
              · exact h
              · exact h
              · exact h
              · exact h
              · exact h
              · exact h
              · exact h
              · exact h
              · exact h
              · exact h
              · exact h
              · exact h
              · exact h
              · exact h
              · exact h
              · exact h
              · exact h
              · exact h
              · exact h
              · exact h
              · exact h
              · exact h
            · intro kq
              rcases kq with _ | _ | _ | _ | _ | _ | _ | _ | _ | _ | _ | _ | _ | _ | _ | _ | _ | _ | _ | _ | _ | _ | _ | kq
              all_goals intro o ho a wa hba hout hsz2 hpre
              all_goals cases ho
              all_goals have q11 : a.tmps.getD 11 undef = .string (BS d) := (hout 11 (by decide +kernel)).trans rfl
              all_goals have q12 : a.tmps.getD 12 undef = .int .i64 (k : Int) := (hout 12 (by decide +kernel)).trans rfl
              all_goals have q14 : a.tmps.getD 14 undef = .int .i64 ex := (hout 14 (by decide +kernel)).trans rfl
              all_goals have q4 : a.tmps.getD 4 undef = .int .u8 (zr : Int) := (hout 4 (by decide +kernel)).trans rfl
              all_goals clear hout hsz2
              · exact step_move rfl (met_none rfl) (.inl rfl) ⟨_, rfl, Below.refl _ _, q11⟩
              · exact step_move rfl (met_none rfl) (.inl rfl) ⟨_, rfl, Below.refl _ _, q12⟩
              · have p : a.tmps.getD 138 undef = .string (BS d) := hpre ⟨0, .data⟩ (by simp) rfl _ rfl
                have g : a.tmps.getD 139 undef = .int .i64 (k : Int) := hpre ⟨1, .data⟩ (by simp) rfl _ rfl
                exact step_slice_hi rfl (met_none rfl) rfl p g (run_hi d k hkl wa) ⟨_, rfl, Below.refl _ _, rfl⟩
              · have p : a.tmps.getD 140 undef = .string (BS ((d : List UInt8).take k)) := hpre ⟨2, .data⟩ (by simp) rfl _ rfl
                exact step_bin rfl (met_none rfl) rfl (u := .string (BS ((d : List UInt8).take k))) (v := .string (BS [46])) p rfl (run_cat ((d : List UInt8).take k) [46] _ _ (by simp only [List.length_append, List.length_take, List.length_drop, List.length_cons, List.length_nil]; omega) wa) ⟨_, rfl, Below.refl _ _, rfl⟩
              · exact step_move rfl (met_none rfl) (.inl rfl) ⟨_, rfl, Below.refl _ _, q11⟩
              · exact step_move rfl (met_none rfl) (.inl rfl) ⟨_, rfl, Below.refl _ _, q12⟩
              · have p : a.tmps.getD 142 undef = .string (BS d) := hpre ⟨4, .data⟩ (by simp) rfl _ rfl
                have g : a.tmps.getD 143 undef = .int .i64 (k : Int) := hpre ⟨5, .data⟩ (by simp) rfl _ rfl
                exact step_slice_lo rfl (met_none rfl) rfl p g (run_lo d k hkl wa) ⟨_, rfl, Below.refl _ _, rfl⟩
              · have p : a.tmps.getD 141 undef = .string (BS (((d : List UInt8).take k) ++ [46])) := hpre ⟨3, .data⟩ (by simp) rfl _ rfl
                have g : a.tmps.getD 144 undef = .string (BS (d.drop k)) := hpre ⟨6, .data⟩ (by simp) rfl _ rfl
                exact step_bin rfl (met_none rfl) rfl (u := .string (BS (((d : List UInt8).take k) ++ [46]))) (v := .string (BS (d.drop k))) p g (run_cat (((d : List UInt8).take k) ++ [46]) (d.drop k) _ _ (by simp only [List.length_append, List.length_take, List.length_drop, List.length_cons, List.length_nil]; omega) wa) ⟨_, rfl, Below.refl _ _, rfl⟩
              · exact step_move rfl (met_none rfl) (.inl rfl) ⟨_, rfl, Below.refl _ _, q4⟩
              · have p : a.tmps.getD 146 undef = .int .u8 (zr : Int) := hpre ⟨8, .data⟩ (by simp) rfl _ rfl
                refine step_conv rfl (met_none rfl) rfl (v := .int .i64 (zr : Int)) (w' := wa) ?_ ⟨_, rfl, Below.refl _ _, rfl⟩
                rw [show a.eval (.tmp 146) = .int .u8 (zr : Int) from p]
                exact run_c8 zr hz8 wa
              · have p : a.tmps.getD 147 undef = .int .i64 (zr : Int) := hpre ⟨9, .data⟩ (by simp) rfl _ rfl
                exact step_bin rfl (met_none rfl) rfl (u := .int .i64 (zr : Int)) (v := .int .i64 3) p rfl (run_rem3 zr _ _ hz8 wa) ⟨_, rfl, Below.refl _ _, rfl⟩
              · have g : a.tmps.getD 148 undef = .int .i64 ((zr % 3 : Nat) : Int) := hpre ⟨10, .data⟩ (by simp) rfl _ rfl
                exact step_bin rfl (met_none rfl) rfl (u := .int .i64 2) (v := .int .i64 ((zr % 3 : Nat) : Int)) rfl g (run_add2 (zr % 3) _ _ (by omega) wa) ⟨_, rfl, Below.refl _ _, rfl⟩
              · have g : a.tmps.getD 149 undef = .int .i64 ((2 + zr % 3 : Nat) : Int) := hpre ⟨11, .data⟩ (by simp) rfl _ rfl
                exact step_slice_hi rfl (met_none rfl) rfl (v := .string (BS [101, 43, 48, 48])) rfl g (run_hi [101, 43, 48, 48] (2 + zr % 3) (by show _ ≤ 4; omega) wa) ⟨_, rfl, Below.refl _ _, rfl⟩
              · have p : a.tmps.getD 145 undef = .string (BS ((((d : List UInt8).take k) ++ [46]) ++ (d.drop k))) := hpre ⟨7, .data⟩ (by simp) rfl _ rfl
                have g : a.tmps.getD 150 undef = .string (BS (([101, 43, 48, 48] : List UInt8).take (2 + zr % 3))) := hpre ⟨12, .data⟩ (by simp) rfl _ rfl
                exact step_bin rfl (met_none rfl) rfl (u := .string (BS ((((d : List UInt8).take k) ++ [46]) ++ (d.drop k)))) (v := .string (BS (([101, 43, 48, 48] : List UInt8).take (2 + zr % 3)))) p g (run_cat ((((d : List UInt8).take k) ++ [46]) ++ (d.drop k)) (([101, 43, 48, 48] : List UInt8).take (2 + zr % 3)) _ _ (by simp only [List.length_append, List.length_take, List.length_drop, List.length_cons, List.length_nil]; omega) wa) ⟨_, rfl, Below.refl _ _, rfl⟩
              · exact step_move rfl (met_none rfl) (.inl rfl) ⟨_, rfl, Below.refl _ _, q14⟩
              · have p : a.tmps.getD 152 undef = .int .i64 ex := hpre ⟨14, .data⟩ (by simp) rfl _ rfl
                refine step_call rfl (met_none rfl) _ (args1 p) (hc17 _ _) ((hit wa hba).mono ?_)
                rintro e w' ⟨rfl, hb⟩
                exact ⟨_, rfl, _, rfl, hb, rfl⟩
              · have p : a.tmps.getD 151 undef = .string (BS (((((d : List UInt8).take k) ++ [46]) ++ (d.drop k)) ++ (([101, 43, 48, 48] : List UInt8).take (2 + zr % 3)))) := hpre ⟨13, .data⟩ (by simp) rfl _ rfl
                have g : a.tmps.getD 153 undef = .string (BS (Lib.itoa ex)) := hpre ⟨15, .data⟩ (by simp) rfl _ rfl
                exact step_bin rfl (met_none rfl) rfl (u := .string (BS (((((d : List UInt8).take k) ++ [46]) ++ (d.drop k)) ++ (([101, 43, 48, 48] : List UInt8).take (2 + zr % 3))))) (v := .string (BS (Lib.itoa ex))) p g (run_cat (((((d : List UInt8).take k) ++ [46]) ++ (d.drop k)) ++ (([101, 43, 48, 48] : List UInt8).take (2 + zr % 3))) (Lib.itoa ex) _ _ (by simp only [List.length_append, List.length_take, List.length_drop, List.length_cons, List.length_nil]; omega) wa) ⟨_, rfl, Below.refl _ _, rfl⟩
              · have p : a.tmps.getD 154 undef = .string (BS ((((((d : List UInt8).take k) ++ [46]) ++ (d.drop k)) ++ (([101, 43, 48, 48] : List UInt8).take (2 + zr % 3))) ++ (Lib.itoa ex))) := hpre ⟨16, .data⟩ (by simp) rfl _ rfl
                refine step_call rfl (met_none rfl) _ (args1 p) (hc16 _ _) ((hp4 wa hba).mono ?_)
                rintro e w' ⟨rfl, hb⟩
                exact ⟨_, rfl, _, rfl, hb, rfl⟩
              · have p : a.tmps.getD 155 undef = .tuple #[.int .u64 (r : Int), .int .i64 0] := hpre ⟨17, .data⟩ (by simp) rfl _ rfl
                exact step_move rfl (met_none rfl) (.inl rfl) ⟨_, rfl, Below.refl _ _, p⟩
              · have p : a.tmps.getD 137 undef = .tuple #[.int .u64 (r : Int), .int .i64 0] := hpre ⟨18, .data⟩ (by simp) rfl _ rfl
                exact step_extract rfl (met_none rfl) rfl p rfl ⟨_, rfl, Below.refl _ _, rfl⟩
              · have p : a.tmps.getD 137 undef = .tuple #[.int .u64 (r : Int), .int .i64 0] := hpre ⟨18, .data⟩ (by simp) rfl _ rfl
                exact step_extract rfl (met_none rfl) rfl p rfl ⟨_, rfl, Below.refl _ _, rfl⟩
              · have p : a.tmps.getD 156 undef = .int .u64 (r : Int) := hpre ⟨19, .data⟩ (by simp) rfl _ rfl
                exact step_move rfl (met_none rfl) (.inr rfl) ⟨_, rfl, Below.refl _ _, p⟩
              · have p : a.tmps.getD 157 undef = .int .i64 0 := hpre ⟨20, .data⟩ (by simp) rfl _ rfl
                exact step_move rfl (met_none rfl) (.inr rfl) ⟨_, rfl, Below.refl _ _, p⟩
            · intro a w hb hall ha
              have f0 : a.tmps.getD 138 undef = .string (BS d) := hall 0 _ rfl
              have f1 : a.tmps.getD 139 undef = .int .i64 (k : Int) := hall 1 _ rfl
              have f2 : a.tmps.getD 140 undef = .string (BS ((d : List UInt8).take k)) := hall 2 _ rfl
              have f3 : a.tmps.getD 141 undef = .string (BS (((d : List UInt8).take k) ++ [46])) := hall 3 _ rfl
              have f4 : a.tmps.getD 142 undef = .string (BS d) := hall 4 _ rfl
              have f5 : a.tmps.getD 143 undef = .int .i64 (k : Int) := hall 5 _ rfl
              have f6 : a.tmps.getD 144 undef = .string (BS (d.drop k)) := hall 6 _ rfl
              have f7 : a.tmps.getD 145 undef = .string (BS ((((d : List UInt8).take k) ++ [46]) ++ (d.drop k))) := hall 7 _ rfl
              have f8 : a.tmps.getD 146 undef = .int .u8 (zr : Int) := hall 8 _ rfl
              have f9 : a.tmps.getD 147 undef = .int .i64 (zr : Int) := hall 9 _ rfl
              have f10 : a.tmps.getD 148 undef = .int .i64 ((zr % 3 : Nat) : Int) := hall 10 _ rfl
              have f11 : a.tmps.getD 149 undef = .int .i64 ((2 + zr % 3 : Nat) : Int) := hall 11 _ rfl
              have f12 : a.tmps.getD 150 undef = .string (BS (([101, 43, 48, 48] : List UInt8).take (2 + zr % 3))) := hall 12 _ rfl
              have f13 : a.tmps.getD 151 undef = .string (BS (((((d : List UInt8).take k) ++ [46]) ++ (d.drop k)) ++ (([101, 43, 48, 48] : List UInt8).take (2 + zr % 3)))) := hall 13 _ rfl
              have f14 : a.tmps.getD 152 undef = .int .i64 ex := hall 14 _ rfl
              have f15 : a.tmps.getD 153 undef = .string (BS (Lib.itoa ex)) := hall 15 _ rfl
              have f16 : a.tmps.getD 154 undef = .string (BS ((((((d : List UInt8).take k) ++ [46]) ++ (d.drop k)) ++ (([101, 43, 48, 48] : List UInt8).take (2 + zr % 3))) ++ (Lib.itoa ex))) := hall 16 _ rfl
              have f17 : a.tmps.getD 155 undef = .tuple #[.int .u64 (r : Int), .int .i64 0] := hall 17 _ rfl
              have f18 : a.tmps.getD 137 undef = .tuple #[.int .u64 (r : Int), .int .i64 0] := hall 18 _ rfl
              have f19 : a.tmps.getD 156 undef = .int .u64 (r : Int) := hall 19 _ rfl
              have f20 : a.tmps.getD 157 undef = .int .i64 0 := hall 20 _ rfl
              have f21 : a.tmps.getD 22 undef = .int .u64 (r : Int) := hall 21 _ rfl
              have f22 : a.tmps.getD 23 undef = .int .i64 0 := hall 22 _ rfl
              simp only [List.foldl, fillFrom, f0, f1, f2, f3, f4, f5, f6, f7, f8, f9, f10, f11, f12, f13, f14, f15, f16, f17, f18, f19, f20, f21, f22] at ha
              clear hall f0 f1 f2 f3 f4 f5 f6 f7 f8 f9 f10 f11 f12 f13 f14 f15 f16 f17 f18 f19 f20 f21 f22
              subst ha
              simp only [Act.put, List.setIfInBounds_toArray, List.set_cons_succ, List.set_cons_zero]
              go_wp2_with fail
              go_meet
              exact ⟨rfl, rfl, Lib.hid hb⟩
          case rest =>
            obtain ⟨rfl, rfl, hB2⟩ := hcut
            replace hB := Lib.hid (hB.out.trans (hB2.out.mono hB.out.size))
            clear hB2
            have hit := Lib.hid (hW17.out _ hB.out)
            go_wp2_with fail
            refine hit.out.mono ?_; rintro e w3 ⟨rfl, hb⟩
            replace hB := Lib.hid (hB.out.trans (hb.mono hB.out.size))
            clear hb hit
            have hsz := BS_size (Lib.itoa ex)
            have haw := Lib.hid (awake_any w3 (hGG.out.on hB.out))
            go_wp2_with fail
            refine haw.out.mono ?_; rintro e w10 ⟨rfl, hb⟩
            replace hB := Lib.hid (hB.out.trans (hb.mono hB.out.size))
            clear hb haw
            go_wp2_with fail
            go_ret
            exact ⟨rfl, hB.out⟩
        · have t1 : decide (0 ≤ ex) = false := decide_eq_false h0
          have haw := Lib.hid (awake_any wc (hGG.out.on hB.out))
          go_wp2_with fail
          refine haw.out.mono ?_; rintro e w10 ⟨rfl, hb⟩
          replace hB := Lib.hid (hB.out.trans (hb.mono hB.out.size))
          clear hb haw
          go_wp2_with fail
          go_ret
          exact ⟨rfl, hB.out⟩
theorem i16_of2 {a : Int} (h : (Lit.int .i16 a).wf = true) : -32768 ≤ a ∧ a ≤ 32767 := by
  simp [Lit.wf, IntKind.min, IntKind.max, IntKind.signed, IntKind.bits] at h
  omega
theorem decimalSame_walk (a0 : Option Addr) (len0 cap0 : Nat) (z0 : List Int) (a1 a2 a3 a4 : Int) (w : World) (w0 : IsRow .u8 w a0 len0 cap0 z0) (w1 : (Lit.int .u8 a1).wf = true) (w2 : (Lit.int .u8 a2).wf = true) (w3 : (Lit.int .i16 a3).wf = true) (w4 : (Lit.int .u8 a4).wf = true) (hG : AGlb w) :
    Calls Tryz.prog 10 #[.slice a0 len0 cap0, .int .u8 a1, .int .u8 a2, .int .i16 a3, .int .u8 a4] w fun e w' => e = .returned (.bool true) ∧ Below w.heap.size w w' := by
  obtain ⟨n1, rfl, h1⟩ := u8_of w1
  obtain ⟨n2, rfl, h2⟩ := u8_of w2
  obtain ⟨h3, h3'⟩ := i16_of2 w3
  obtain ⟨n4, rfl, h4⟩ := u8_of w4
  obtain ⟨l, rfl, hr, hm, hc⟩ := w0.bytes
  exact same_law a0 cap0 l n1 n2 n4 a3 h1 h2 h4 h3 h3' w hr hm hc hG
end Go.Proofs.YtaidemghhagniaaGreatDoor
