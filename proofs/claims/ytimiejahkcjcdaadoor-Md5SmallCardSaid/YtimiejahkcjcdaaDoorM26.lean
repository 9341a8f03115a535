/- The examples; awake. -/
import Derived.Test.YtimiejahkcjcdaaDoorM24
import Derived.Lib.SlBytesConst
namespace Go.Proofs.YtimiejahkcjcdaaDoor
open Go.RowKit

def T0 : ByteArray := ⟨#[100, 52, 49, 100, 56, 99, 100, 57, 56, 102, 48, 48, 98, 50, 48, 52, 101, 57, 56, 48, 48, 57, 57, 56, 101, 99, 102, 56, 52, 50, 55, 101]⟩
def T1 : ByteArray := ⟨#[48, 99, 99, 49, 55, 53, 98, 57, 99, 48, 102, 49, 98, 54, 97, 56, 51, 49, 99, 51, 57, 57, 101, 50, 54, 57, 55, 55, 50, 54, 54, 49]⟩
def T3 : ByteArray := ⟨#[57, 48, 48, 49, 53, 48, 57, 56, 51, 99, 100, 50, 52, 102, 98, 48, 100, 54, 57, 54, 51, 102, 55, 100, 50, 56, 101, 49, 55, 102, 55, 50]⟩
theorem ex_0 : txt (sumF []) 16 = T0.data.toList := by decide +kernel
theorem ex_1 : txt (sumF [97]) 16 = T1.data.toList := by decide +kernel
theorem ex_3 : txt (sumF [97, 98, 99]) 16 = T3.data.toList := by decide +kernel
theorem ex_w : wordF [] = 16825458760271544958 := by decide +kernel
theorem ex_p0 : (padF 0).length = 64 := by decide +kernel
theorem ex_p00 : (padF 0).getD 0 0 = 128 := by decide +kernel
theorem ex_p55 : padF 55 = [128, 184, 1, 0, 0, 0, 0, 0, 0] := by decide +kernel
theorem ex_p56 : (padF 56).length = 72 := by decide +kernel
theorem T0_eq : (T0.toList == [100, 52, 49, 100, 56, 99, 100, 57, 56, 102, 48, 48, 98, 50, 48, 52, 101, 57, 56, 48, 48, 57, 57, 56, 101, 99, 102, 56, 52, 50, 55, 101]) = true := by decide +kernel
theorem T1_eq : (T1.toList == [48, 99, 99, 49, 55, 53, 98, 57, 99, 48, 102, 49, 98, 54, 97, 56, 51, 49, 99, 51, 57, 57, 101, 50, 54, 57, 55, 55, 50, 54, 54, 49]) = true := by decide +kernel
theorem T3_eq : (T3.toList == [57, 48, 48, 49, 53, 48, 57, 56, 51, 99, 100, 50, 52, 102, 98, 48, 100, 54, 57, 54, 51, 102, 55, 100, 50, 56, 101, 49, 55, 102, 55, 50]) = true := by decide +kernel
theorem ba_of {l : List UInt8} {s : ByteArray} (h : l = s.data.toList) : s = ⟨l.toArray⟩ := by subst h; cases s; simp
theorem conv_row {w : World} {v : Value} {l : List UInt8} (h : RowB w v l) : (convert 24 9 v).run Tryd.prog w = .ok (.string ⟨l.toArray⟩) w := by
  by_cases hl : l = []
  · subst hl
    rcases h with ⟨a, c, hac, rfl, _⟩ | ⟨b, off, cap, rfl, _⟩
    · cases a with
      | none => rw [hac rfl]; exact run_convert_bytes_nil w 24 5 Tryd.underlying24 Tryd.underlying5 0 0 9 Tryd.underlying9
      | some p => exact run_convert_bytes_back w 24 9 5 p c [] Tryd.underlying24 Tryd.underlying5 Tryd.underlying9 (fun j hj => by simp at hj)
    · exact run_convert_bytes_back w 24 9 5 ⟨b, off, none⟩ cap [] Tryd.underlying24 Tryd.underlying5 Tryd.underlying9 (fun j hj => by simp at hj)
  · obtain ⟨b, off, cap, rfl, _, _, _, hc⟩ := rowB_cells h hl
    refine run_convert_bytes_back w 24 9 5 ⟨b, off, none⟩ cap l Tryd.underlying24 Tryd.underlying5 Tryd.underlying9 (fun j hj => ?_)
    have := hc j hj
    rw [show (⟨b, off, none⟩ : Addr).add j = ⟨b, off + j, none⟩ by simp [Addr.add], this]
    simp [List.getD_eq_getElem?_getD, List.getElem?_eq_getElem hj]
theorem row_lit (w : World) (l : List UInt8) (o : Obj) (fr : Nat × Nat) (ho : o = .cells ((l.map enc8).toArray) 5 fr) (hl : l.length ≤ maxLen) : RowB (w.alloc o) (.slice (some ⟨w.heap.size, 0, none⟩) l.length l.length) l := by
  subst ho
  refine .inr ⟨w.heap.size, 0, l.length, by simp, by simp, by simp, hl, fun i hi => ?_⟩
  rw [cell_heap (heap_at w _ _ rfl)]
  simp at hi
  simp [hi]
theorem sum_c (v : Value) (l : List UInt8) (hl : l.length ≤ 1099511627776) (d : Nat → UInt8) (hd : d = sumF l) (w : World) (hT : Tabs w) (hr : RowB w v l) :
    Calls Tryd.prog 18 #[v] w fun e w' => e = .returned (.agg #[e8 d 0, e8 d 1, e8 d 2, e8 d 3, e8 d 4, e8 d 5, e8 d 6, e8 d 7, e8 d 8, e8 d 9, e8 d 10, e8 d 11, e8 d 12, e8 d 13, e8 d 14, e8 d 15]) ∧ Below w.heap.size w w' := sum_any v l hl d hd w hT hr
/-- The padding of n: its length, its first byte. -/
theorem pad_len (n : Nat) (hn : n ≤ 1099511627776) (m : Nat) (hm : (padF n).length = m) (w : World) :
    Calls Tryd.prog 15 #[.int .i64 n] w fun e w' => (∃ a c, e = .returned (.tuple #[.slice a m c, .int .i64 0]) ∧ RowB w' (.slice a m c) (padF n)) ∧ Below w.heap.size w w' := by
  refine (pad_to n hn (padF n) rfl w).mono ?_
  rintro e w' ⟨⟨v, rfl, h⟩, hb⟩
  obtain ⟨a, c, rfl⟩ := rowB_len h
  rw [hm] at h ⊢
  exact ⟨⟨a, c, rfl, h⟩, hb⟩
set_option maxRecDepth 100000 in
set_option maxHeartbeats 1000000 in
theorem awake_any (w : World) (hT : Tabs w) : Calls Tryd.prog 14 #[] w fun e w' => e = .returned (.bool true) ∧ Below w.heap.size w w' := by
  replace hT := Lib.hid hT
  obtain ⟨d0, hd0⟩ : ∃ d, Hid (d = sumF []) := ⟨_, rfl⟩
  obtain ⟨d1, hd1⟩ : ∃ d, Hid (d = sumF [97]) := ⟨_, rfl⟩
  obtain ⟨d3, hd3⟩ : ∃ d, Hid (d = sumF [97, 98, 99]) := ⟨_, rfl⟩
  have e0 : Hid (T0 = ⟨(txt d0 16).toArray⟩) := by rw [hd0.out]; exact ba_of ex_0
  have e1 : Hid (T1 = ⟨(txt d1 16).toArray⟩) := by rw [hd1.out]; exact ba_of ex_1
  have e3 : Hid (T3 = ⟨(txt d3 16).toArray⟩) := by rw [hd3.out]; exact ba_of ex_3
  have q0 := T0_eq
  have kc := fun (w : World) (C : Array Value) (n c : Nat) => Lib.run_convert_bytes_const (P := Tryd.prog) w 24 5 C n c Tryd.underlying24 Tryd.underlying5
  have q1 := T1_eq
  have q3 := T3_eq
  go_enter Tryd.func14, Tryd.ntmps14
  go_wp2_with fail
  refine (pad_len 0 (by omega) 64 ex_p0 _).mono ?_; rintro e w1 ⟨⟨a1, c1, rfl, r1⟩, hb1⟩
  replace r1 := Lib.hid r1
  have hB1 := Lib.hid hb1
  clear hb1
  go_wp2_with fail
  refine (pad_len 55 (by omega) 9 (by rw [ex_p55]; rfl) _).mono ?_; rintro e w2 ⟨⟨a2, c2, rfl, r2⟩, hb2⟩
  replace r1 := Lib.hid (r1.out.on hb2)
  replace r2 := Lib.hid r2
  have hB2 := Lib.hid (hB1.out.trans (hb2.mono hB1.out.size))
  clear hb2 hB1
  go_wp2_with fail
  refine (pad_len 56 (by omega) 72 ex_p56 _).mono ?_; rintro e w3 ⟨⟨a3, c3, rfl, r3⟩, hb3⟩
  replace r1 := Lib.hid (r1.out.on hb3)
  replace r2 := Lib.hid (r2.out.on hb3)
  have hB3 := Lib.hid (hB2.out.trans (hb3.mono hB2.out.size))
  clear hb3 hB2 r3
  go_wp2_with fail
  refine (sum_c _ [] (by simp) d0 hd0.out _ (hT.out.on hB3.out) (.inl ⟨none, 0, fun _ => rfl, rfl, rfl⟩)).mono ?_; rintro e w4 ⟨rfl, hb4⟩
  replace r1 := Lib.hid (r1.out.on hb4)
  replace r2 := Lib.hid (r2.out.on hb4)
  have hB4 := Lib.hid (hB3.out.trans (hb4.mono hB3.out.size))
  clear hb4 hB3
  go_wp2_with fail
  refine (text_any d0 _ e0.out _).mono ?_; rintro e w5 ⟨rfl, hb5⟩
  replace r1 := Lib.hid (r1.out.on hb5)
  replace r2 := Lib.hid (r2.out.on hb5)
  have hB5 := Lib.hid (hB4.out.trans (hb5.mono hB4.out.size))
  clear hb5 hB4
  go_wp2_with fail
  have rl1 := Lib.hid (row_lit w5 [97] (.cells #[.int .u8 97] 5 (1, 2)) (1, 2) rfl (by unfold maxLen; simp))
  have bl1 : Below w5.heap.size w5 (w5.alloc (.cells #[.int .u8 97] 5 (1, 2))) := (Below.refl _ _).alloc (Nat.le_refl _) _
  replace r1 := Lib.hid (r1.out.on bl1)
  replace r2 := Lib.hid (r2.out.on bl1)
  replace hB5 := Lib.hid (hB5.out.trans (bl1.mono hB5.out.size))
  clear bl1
  refine (sum_c _ [97] (by simp) d1 hd1.out _ (hT.out.on hB5.out) rl1.out).mono ?_; rintro e w6 ⟨rfl, hb6⟩
  replace r1 := Lib.hid (r1.out.on hb6)
  replace r2 := Lib.hid (r2.out.on hb6)
  have hB6 := Lib.hid (hB5.out.trans (hb6.mono hB5.out.size))
  clear hb6 hB5 rl1
  go_wp2_with fail
  refine (text_any d1 _ e1.out _).mono ?_; rintro e w7 ⟨rfl, hb7⟩
  replace r1 := Lib.hid (r1.out.on hb7)
  replace r2 := Lib.hid (r2.out.on hb7)
  have hB7 := Lib.hid (hB6.out.trans (hb7.mono hB6.out.size))
  clear hb7 hB6
  go_wp2_with fail
  have rl3 := Lib.hid (row_lit w7 [97, 98, 99] (.cells #[.int .u8 97, .int .u8 98, .int .u8 99] 5 (3, 4)) (3, 4) rfl (by unfold maxLen; simp))
  have bl3 : Below w7.heap.size w7 (w7.alloc (.cells #[.int .u8 97, .int .u8 98, .int .u8 99] 5 (3, 4))) := (Below.refl _ _).alloc (Nat.le_refl _) _
  replace r1 := Lib.hid (r1.out.on bl3)
  replace r2 := Lib.hid (r2.out.on bl3)
  replace hB7 := Lib.hid (hB7.out.trans (bl3.mono hB7.out.size))
  clear bl3
  refine (sum_c _ [97, 98, 99] (by simp) d3 hd3.out _ (hT.out.on hB7.out) rl3.out).mono ?_; rintro e w8 ⟨rfl, hb8⟩
  replace r1 := Lib.hid (r1.out.on hb8)
  replace r2 := Lib.hid (r2.out.on hb8)
  have hB8 := Lib.hid (hB7.out.trans (hb8.mono hB7.out.size))
  clear hb8 hB7 rl3
  go_wp2_with fail
  refine (text_any d3 _ e3.out _).mono ?_; rintro e w9 ⟨rfl, hb9⟩
  replace r1 := Lib.hid (r1.out.on hb9)
  replace r2 := Lib.hid (r2.out.on hb9)
  have hB9 := Lib.hid (hB8.out.trans (hb9.mono hB8.out.size))
  clear hb9 hB8
  have hcv := conv_row r2.out
  rw [ex_p55] at hcv
  have c128 : ∃ b o, a1 = some ⟨b, o, none⟩ ∧ w9.cell? ⟨b, o, none⟩ = some (.int .u8 128) := by
    obtain ⟨b, o, cap, hv, _, _, _, hc⟩ := rowB_cells r1.out (fun e => by have := ex_p0; rw [e] at this; cases this)
    have h0 := hc 0 (by rw [ex_p0]; omega)
    rw [ex_p00] at h0
    cases hv
    exact ⟨b, o, rfl, h0⟩
  obtain ⟨b1, o1, rfl, hc1⟩ := c128
  clear r1 r2
  go_wp2_with fail
  refine (word_any _ [] (by simp) _ ex_w.symm _ (hT.out.on hB9.out) (.inl ⟨none, 0, fun _ => rfl, rfl, rfl⟩)).mono ?_; rintro e w10 ⟨rfl, hb10⟩
  have hB10 := Lib.hid (hB9.out.trans (hb10.mono hB9.out.size))
  clear hb10 hB9
  go_wp2_with fail
  go_ret
  exact ⟨rfl, hB10.out⟩
end Go.Proofs.YtimiejahkcjcdaaDoor
