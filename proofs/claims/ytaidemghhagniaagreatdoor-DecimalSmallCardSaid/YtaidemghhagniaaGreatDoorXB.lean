/- DecimalWrong. -/
import Derived.Test.YtaidemghhagniaaGreatDoorXA
import Derived.Test.YtaidemghhagniaaGreatDoorW1
import Derived.Test.YtaidemghhagniaaGreatDoorKM
section
namespace Go.Proofs.YtaidemghhagniaaGreatDoor
open Go Go.RowKit
set_option linter.unusedVariables false
set_option linter.unusedSimpArgs false
theorem row_take {w : World} {a : Option Addr} {n c m : Nat} {xs : List Value} (h : Row w (.slice a n c) xs) (hm : m ≤ n) : Row w (.slice a m c) (xs.take m) := by
  rcases h with ⟨a', c', h', e, rfl⟩ | ⟨b, off, cap, hv, h1, h2, h3, hc⟩
  · cases e
    obtain rfl : m = 0 := by omega
    exact .inl ⟨a, c, h', rfl, by simp⟩
  · cases hv
    have hl : (xs.take m).length = m := by rw [List.length_take]; omega
    refine .inr ⟨b, off, c, by rw [hl], h1, by rw [hl]; omega, h3, fun i hi => ?_⟩
    rw [List.getElem_take]
    exact hc i (by rw [hl] at hi; omega)

/-- A slice of numbers that came in, for made. -/
def In32 (w : World) (v : Value) : Prop := ∃ (a : Option Addr) (n c : Nat) (Z : List Int), v = .slice a n c ∧ n = Z.length ∧ Row w v (Z.map (Value.int .u32)) ∧ ∀ z ∈ Z, 0 ≤ z ∧ z ≤ 4294967295
set_option maxRecDepth 100000 in
set_option maxHeartbeats 8000000 in
theorem wrong_law (a0 : Option Addr) (c0 : Nat) (l : List UInt8) (point at' how b0 : Nat) (hp : point < 256) (ha : at' < 256) (hh : how < 256) (hb0 : b0 < 256) (w : World) (hr : Row w (.slice a0 l.length c0) (l.map enc8)) (hlm : l.length ≤ maxLen) (hc0 : l.length ≤ c0) (hG : AGlb w) :
    Calls Tryz.prog 11 #[.slice a0 l.length c0, .int .u8 point, .int .u8 at', .int .u8 how, .int .u8 b0] w fun e w' => e = .returned (.bool true) ∧ Below w.heap.size w w' := by
  have hGG := Lib.hid hG
  have hrr := Lib.hid hr
  clear hG hr
  go_enter Tryz.func11, Tryz.ntmps11
  go_wp2_with fail
  obtain ⟨m, hm⟩ : ∃ m, m = min l.length 40 := ⟨_, rfl⟩
  rw [show (min (l.length : Int) 40).toNat = m by omega]
  obtain ⟨z, hz⟩ : ∃ z, z = l.take m := ⟨_, rfl⟩
  have hzl : z.length = m := by rw [hz, List.length_take]; omega
  have ct := text_any a0 c0 z w (by rw [hzl, hz, List.map_take]; exact row_take hrr.out (by omega)) (by omega)
  rw [hzl] at ct
  obtain ⟨d, hd⟩ : ∃ d, Hid (d = digT z) := ⟨_, Lib.hid rfl⟩
  have hdo := digT_ok z
  rw [← hd.out] at ct hdo
  obtain ⟨hdd, hd1, hd2⟩ := hdo
  replace hd2 : d.length ≤ 41 := by omega
  replace hdd := Lib.hid hdd
  refine ct.mono ?_; rintro e w1 ⟨rfl, hb⟩
  have hB := Lib.hid hb
  rw [show ({ data := d.toArray } : ByteArray) = BS d from rfl]
  have hds := BS_size d
  obtain ⟨k, hk⟩ : ∃ k : Nat, (point : Int) % ((d.length : Int) + 1) = (k : Int) := ⟨point % (d.length + 1), rfl⟩
  have hkl : k ≤ d.length := by have := Int.emod_lt_of_pos (point : Int) (show 0 < ((d.length : Int) + 1) by omega); omega
  clear ct hb hd hz hzl hrr hlm hm
  go_upto_region 3 with (fail)
  rw [hk]
  clear hk
  have hcut3 : Hid ((BS d).extract 0 k ++ (⟨#[46]⟩ : ByteArray) ++ (BS d).extract k d.length = BS (sT d k)) := Lib.hid (by
    apply ba_ext; unfold sT BS; simp; rw [List.take_of_length_le (by simp)])
  go_cut [13] (fun s13 wx => s13 = .string (BS (sT d k)) ∧ Hid (Below w.heap.size w wx))
  case first =>
    go_quiet (fail)
    go_wp2_with fail
    go_meet
    exact ⟨by rw [← hcut3.out], Lib.hid (hB.out.trans ⟨rfl, rfl, rfl, Nat.le_refl _, fun _ _ => rfl⟩)⟩
  case rest =>
    obtain ⟨rfl, hB2⟩ := hcut
    replace hB := Lib.hid hB2.out
    clear hB2 hcut3
    obtain ⟨s, hs⟩ : ∃ s, Hid (s = sT d k) := ⟨_, Lib.hid rfl⟩
    rw [← hs.out]
    have hsl0 : s.length = d.length + 1 := by rw [hs.out]; exact sT_len d k
    have hsl := Lib.hid hsl0
    have hsl1 : s.length ≤ 42 := by omega
    clear hsl0
    have hss := BS_size s
    obtain ⟨i, hi⟩ : ∃ i : Nat, (at' : Int) % ((s.length : Int) + 1) = (i : Int) := ⟨at' % (s.length + 1), rfl⟩
    have hil : i ≤ s.length := by have := Int.emod_lt_of_pos (at' : Int) (show 0 < ((s.length : Int) + 1) by omega); omega
    obtain ⟨x, hx⟩ : ∃ x, Hid (x = Lib.indexByte [48, 49, 50, 51, 52, 53, 54, 55, 56, 57, 46, 101, 69, 43, 45] b0.toUInt8) := ⟨_, Lib.hid rfl⟩
    have ci : ∀ W, Calls Tryz.prog 25 #[.string ⟨#[48, 49, 50, 51, 52, 53, 54, 55, 56, 57, 46, 101, 69, 43, 45]⟩, .int .u8 (b0 : Int)] W fun e w' => e = .returned (.int .i64 x) ∧ W = w' := by
      intro W
      rw [hx.out]
      exact (Tryz.strings_IndexByte ⟨#[48, 49, 50, 51, 52, 53, 54, 55, 56, 57, 46, 101, 69, 43, 45]⟩ (b0 : Int) W).mono fun e w' h => ⟨h.1, h.2.symm⟩
    obtain ⟨b, hb⟩ : ∃ b : UInt8, Hid (b = if 0 ≤ x then 32 else b0.toUInt8) := ⟨_, Lib.hid rfl⟩
    have hbk : Hid (okB b = false) := Lib.hid (by
      rw [hb.out, hx.out]
      split
      · rfl
      · rename_i h; exact (byte_set b0 hb0).2 (by omega))
    replace ci := Lib.hid ci
    go_upto_region 5 with (fail)
    rw [hi]
    clear hi
    go_wp2_with fail
    refine (ci.out _).mono ?_; rintro e w3 ⟨rfl, rfl⟩
    clear ci
    go_upto_if 47 with (fail)
    go_cut [4] (fun s4 wx => s4 = .int .u8 (b.toNat : Int) ∧ wc = wx)
    case first =>
      by_cases h0 : 0 ≤ x
      · have hb2 := Lib.hid (show b = 32 by rw [hb.out, if_pos h0])
        have u1 : decide (0 ≤ x) = true := decide_eq_true h0
        go_wp2_with fail
        go_meet
        exact ⟨by rw [hb2.out]; rfl, rfl⟩
      · have hb2 := Lib.hid (show (b0 : Int) = (b.toNat : Int) by rw [hb.out, if_neg h0]; have : b0.toUInt8.toNat = b0 % 256 := rfl; omega)
        have u1 : decide (0 ≤ x) = false := decide_eq_false h0
        go_wp2_with fail
        go_meet
        exact ⟨by rw [hb2.out], rfl⟩
    case rest =>
      obtain ⟨rfl, rfl⟩ := hcut
      clear hb hx
      go_upto_region 7 with (fail)
      obtain ⟨W7, hW7⟩ : ∃ W7, W7 = wc := ⟨_, rfl⟩
      subst hW7
      go_cut [15] (fun s15 wx => ∃ g, s15 = .slice (some ⟨g, 0, none⟩) 13 13 ∧ g < wx.heap.size ∧ Hid (∀ j, j < 13 → wx.cell? ⟨g, j, none⟩ = some (.string (BS (badT d s i b j)))) ∧ Hid (Below W7.heap.size W7 wx))
      case first =>
        have hi := hil
        clear hs
        have hs : s.length ≤ 60 := by omega
        have hrep : ∀ W, Calls Tryz.prog 24 #[.string (BS d), .int .i64 ((1200 / d.length + 1 : Nat) : Int)] W fun e w' => e = .returned (.string (BS (repT d))) ∧ Below W.heap.size W w' := by
          intro W
          have h1 := Nat.div_le_self 1200 d.length
          have h2 : (BS d).size * (1200 / d.length + 1) ≤ 50 * 1201 := Nat.mul_le_mul (by omega) (by omega)
          exact Tryz.strings_Repeat (BS d) (1200 / d.length + 1) W (by omega) (by omega)
        have hrl := (repT_len d hd1 (by omega)).2
        rw [List.length_append, List.length_singleton] at hrl
        have hc24 := Tryz.call24
        clear hB hbk hdd hGG hds hss hsl
        refine wp_region_facts (fun k v w => match k with
            | 0 => v = .string (BS s)
            | 1 => v = .int .i64 (i : Int)
            | 2 => v = .string (BS (s.take i))
            | 3 => v = .string (BS ((s.take i) ++ [46]))
            | 4 => v = .string (BS s)
            | 5 => v = .int .i64 (i : Int)
            | 6 => v = .string (BS (s.drop i))
            | 7 => v = .string (BS (((s.take i) ++ [46]) ++ (s.drop i)))
            | 8 => v = .string (BS s)
            | 9 => v = .string (BS (s ++ [101]))
            | 10 => v = .string (BS s)
            | 11 => v = .string (BS (s ++ [101, 43]))
            | 12 => v = .string (BS s)
            | 13 => v = .string (BS (s ++ [101, 49, 50, 51, 52, 53, 54]))
            | 14 => v = .string (BS s)
            | 15 => v = .int .i64 (i : Int)
            | 16 => v = .string (BS (s.take i))
            | 17 => v = .int .u8 (b.toNat : Int)
            | 18 => ∃ g, v = .slice (some ⟨g, 0, none⟩) 1 1 ∧ g < w.heap.size ∧ w.cell? ⟨g, 0, none⟩ = some (.int .u8 (b.toNat : Int))
            | 19 => v = .string (BS [b])
            | 20 => v = .string (BS ((s.take i) ++ [b]))
            | 21 => v = .string (BS s)
            | 22 => v = .int .i64 (i : Int)
            | 23 => v = .string (BS (s.drop i))
            | 24 => v = .string (BS (((s.take i) ++ [b]) ++ (s.drop i)))
            | 25 => v = .string (BS s)
            | 26 => v = .string (BS (s ++ [101, 53]))
            | 27 => v = .int .u8 (b.toNat : Int)
            | 28 => ∃ g, v = .slice (some ⟨g, 0, none⟩) 1 1 ∧ g < w.heap.size ∧ w.cell? ⟨g, 0, none⟩ = some (.int .u8 (b.toNat : Int))
            | 29 => v = .string (BS [b])
            | 30 => v = .string (BS ((s ++ [101, 53]) ++ [b]))
            | 31 => v = .string (BS s)
            | 32 => v = .string (BS (s ++ [101, 49, 46, 53]))
            | 33 => v = .string (BS s)
            | 34 => v = .string (BS ([43, 45] ++ s))
            | 35 => v = .string (BS s)
            | 36 => v = .string (BS (s ++ [45]))
            | 37 => v = .string (BS d)
            | 38 => v = .string (BS d)
            | 39 => v = .int .i64 (d.length : Int)
            | 40 => v = .int .i64 ((1200 / d.length : Nat) : Int)
            | 41 => v = .int .i64 ((1200 / d.length + 1 : Nat) : Int)
            | 42 => v = .string (BS (repT d))
            | 43 => v = .string (BS ((repT d) ++ [48]))
            | 44 => ∃ g, v = .slice (some ⟨g, 0, none⟩) 13 13 ∧ g < w.heap.size ∧ ∀ j, j < 13 → w.cell? ⟨g, j, none⟩ = some (.string (BS (badT d s i b j)))
            | _ => ∃ g, v = .slice (some ⟨g, 0, none⟩) 13 13 ∧ g < w.heap.size ∧ ∀ j, j < 13 → w.cell? ⟨g, j, none⟩ = some (.string (BS (badT d s i b j)))
            ) (by kernel_rfl) (by kernel_rfl) (by decide +kernel) (by kernel_rfl) ?_ ?_ ?_
        · intro k v w w' h hb
          rcases k with _ | _ | _ | _ | _ | _ | _ | _ | _ | _ | _ | _ | _ | _ | _ | _ | _ | _ | _ | _ | _ | _ | _ | _ | _ | _ | _ | _ | _ | _ | _ | _ | _ | _ | _ | _ | _ | _ | _ | _ | _ | _ | _ | _ | _ | _ | k
          · exact h
          · exact h
          · exact h
          · exact h
          · exact h
          · exact h
          · exact h
          · exact h
          · exact h
          · exact h
          · exact h
          · exact h
          · exact h
          · exact h
          · exact h
          · exact h
          · exact h
          · exact h
          · obtain ⟨g, h1, h2, h3⟩ := h; exact ⟨g, h1, Nat.lt_of_lt_of_le h2 hb.size, (hb.cell (p := ⟨g, 0, none⟩) h2).trans h3⟩
          · exact h
          · exact h
          · exact h
          · exact h
          · exact h
          · exact h
          · exact h
          · exact h
          · exact h
          · obtain ⟨g, h1, h2, h3⟩ := h; exact ⟨g, h1, Nat.lt_of_lt_of_le h2 hb.size, (hb.cell (p := ⟨g, 0, none⟩) h2).trans h3⟩
          · exact h
          · exact h
          · exact h
          · exact h
          · exact h
          · exact h
          · exact h
          · exact h
          · exact h
          · exact h
          · exact h
          · exact h
          · exact h
          · exact h
          · exact h
          · obtain ⟨g, h1, h2, h3⟩ := h; exact ⟨g, h1, Nat.lt_of_lt_of_le h2 hb.size, fun j hj => (hb.cell (p := ⟨g, j, none⟩) h2).trans (h3 j hj)⟩
          · obtain ⟨g, h1, h2, h3⟩ := h; exact ⟨g, h1, Nat.lt_of_lt_of_le h2 hb.size, fun j hj => (hb.cell (p := ⟨g, j, none⟩) h2).trans (h3 j hj)⟩
          · obtain ⟨g, h1, h2, h3⟩ := h; exact ⟨g, h1, Nat.lt_of_lt_of_le h2 hb.size, fun j hj => (hb.cell (p := ⟨g, j, none⟩) h2).trans (h3 j hj)⟩
        · intro k
          rcases k with _ | _ | _ | _ | _ | _ | _ | _ | _ | _ | _ | _ | _ | _ | _ | _ | _ | _ | _ | _ | _ | _ | _ | _ | _ | _ | _ | _ | _ | _ | _ | _ | _ | _ | _ | _ | _ | _ | _ | _ | _ | _ | _ | _ | _ | _ | k
          all_goals intro o ho a wa hba hout hsz2 hpre
          all_goals cases ho
          all_goals have q13 : a.tmps.getD 13 undef = .string (BS s) := (hout 13 (by decide +kernel)).trans rfl
          all_goals have q11 : a.tmps.getD 11 undef = .string (BS d) := (hout 11 (by decide +kernel)).trans rfl
          all_goals have q14 : a.tmps.getD 14 undef = .int .i64 (i : Int) := (hout 14 (by decide +kernel)).trans rfl
          all_goals have q4 : a.tmps.getD 4 undef = .int .u8 (b.toNat : Int) := (hout 4 (by decide +kernel)).trans rfl
          all_goals clear hout hsz2
          · exact step_move rfl (met_none rfl) (.inl rfl) ⟨_, rfl, Below.refl _ _, q13⟩
          · exact step_move rfl (met_none rfl) (.inl rfl) ⟨_, rfl, Below.refl _ _, q14⟩
          · have p : a.tmps.getD 48 undef = .string (BS s) := hpre ⟨0, .data⟩ (by simp) rfl _ rfl
            have g : a.tmps.getD 49 undef = .int .i64 (i : Int) := hpre ⟨1, .data⟩ (by simp) rfl _ rfl
            exact step_slice_hi rfl (met_none rfl) rfl p g (run_hi s i hi wa) ⟨_, rfl, Below.refl _ _, rfl⟩
          · have p : a.tmps.getD 50 undef = .string (BS (s.take i)) := hpre ⟨2, .data⟩ (by simp) rfl _ rfl
            exact step_bin rfl (met_none rfl) rfl (u := .string (BS (s.take i))) (v := .string (BS [46])) p rfl (run_cat (s.take i) [46] _ _ (by simp only [List.length_append, List.length_take, List.length_drop, List.length_cons, List.length_nil]; omega) wa) ⟨_, rfl, Below.refl _ _, rfl⟩
          · exact step_move rfl (met_none rfl) (.inl rfl) ⟨_, rfl, Below.refl _ _, q13⟩
          · exact step_move rfl (met_none rfl) (.inl rfl) ⟨_, rfl, Below.refl _ _, q14⟩
          · have p : a.tmps.getD 52 undef = .string (BS s) := hpre ⟨4, .data⟩ (by simp) rfl _ rfl
            have g : a.tmps.getD 53 undef = .int .i64 (i : Int) := hpre ⟨5, .data⟩ (by simp) rfl _ rfl
            exact step_slice_lo rfl (met_none rfl) rfl p g (run_lo s i hi wa) ⟨_, rfl, Below.refl _ _, rfl⟩
          · have p : a.tmps.getD 51 undef = .string (BS ((s.take i) ++ [46])) := hpre ⟨3, .data⟩ (by simp) rfl _ rfl
            have g : a.tmps.getD 54 undef = .string (BS (s.drop i)) := hpre ⟨6, .data⟩ (by simp) rfl _ rfl
            exact step_bin rfl (met_none rfl) rfl (u := .string (BS ((s.take i) ++ [46]))) (v := .string (BS (s.drop i))) p g (run_cat ((s.take i) ++ [46]) (s.drop i) _ _ (by simp only [List.length_append, List.length_take, List.length_drop, List.length_cons, List.length_nil]; omega) wa) ⟨_, rfl, Below.refl _ _, rfl⟩
          · exact step_move rfl (met_none rfl) (.inl rfl) ⟨_, rfl, Below.refl _ _, q13⟩
          · have p : a.tmps.getD 56 undef = .string (BS s) := hpre ⟨8, .data⟩ (by simp) rfl _ rfl
            exact step_bin rfl (met_none rfl) rfl (u := .string (BS s)) (v := .string (BS [101])) p rfl (run_cat s [101] _ _ (by simp only [List.length_append, List.length_take, List.length_drop, List.length_cons, List.length_nil]; omega) wa) ⟨_, rfl, Below.refl _ _, rfl⟩
          · exact step_move rfl (met_none rfl) (.inl rfl) ⟨_, rfl, Below.refl _ _, q13⟩
          · have p : a.tmps.getD 58 undef = .string (BS s) := hpre ⟨10, .data⟩ (by simp) rfl _ rfl
            exact step_bin rfl (met_none rfl) rfl (u := .string (BS s)) (v := .string (BS [101, 43])) p rfl (run_cat s [101, 43] _ _ (by simp only [List.length_append, List.length_take, List.length_drop, List.length_cons, List.length_nil]; omega) wa) ⟨_, rfl, Below.refl _ _, rfl⟩
          · exact step_move rfl (met_none rfl) (.inl rfl) ⟨_, rfl, Below.refl _ _, q13⟩
          · have p : a.tmps.getD 60 undef = .string (BS s) := hpre ⟨12, .data⟩ (by simp) rfl _ rfl
            exact step_bin rfl (met_none rfl) rfl (u := .string (BS s)) (v := .string (BS [101, 49, 50, 51, 52, 53, 54])) p rfl (run_cat s [101, 49, 50, 51, 52, 53, 54] _ _ (by simp only [List.length_append, List.length_take, List.length_drop, List.length_cons, List.length_nil]; omega) wa) ⟨_, rfl, Below.refl _ _, rfl⟩
          · exact step_move rfl (met_none rfl) (.inl rfl) ⟨_, rfl, Below.refl _ _, q13⟩
          · exact step_move rfl (met_none rfl) (.inl rfl) ⟨_, rfl, Below.refl _ _, q14⟩
          · have p : a.tmps.getD 62 undef = .string (BS s) := hpre ⟨14, .data⟩ (by simp) rfl _ rfl
            have g : a.tmps.getD 63 undef = .int .i64 (i : Int) := hpre ⟨15, .data⟩ (by simp) rfl _ rfl
            exact step_slice_hi rfl (met_none rfl) rfl p g (run_hi s i hi wa) ⟨_, rfl, Below.refl _ _, rfl⟩
          · exact step_move rfl (met_none rfl) (.inl rfl) ⟨_, rfl, Below.refl _ _, q4⟩
          · have p : a.tmps.getD 65 undef = .int .u8 (b.toNat : Int) := hpre ⟨17, .data⟩ (by simp) rfl _ rfl
            exact step_build1 rfl (met_none rfl) rfl p (run_b1 wa b) ⟨_, rfl, (Below.refl _ _).alloc (Nat.le_refl _) _, wa.heap.size, rfl, by simp, by rw [Lib.cell_of_heap (Array.getElem?_push_size)]; rfl⟩
          · obtain ⟨g, p1, p2, p3⟩ : ∃ g, a.tmps.getD 66 undef = .slice (some ⟨g, 0, none⟩) 1 1 ∧ g < wa.heap.size ∧ wa.cell? ⟨g, 0, none⟩ = some (.int .u8 (b.toNat : Int)) := hpre ⟨18, .data⟩ (by simp) rfl _ rfl
            refine step_conv rfl (met_none rfl) rfl (v := .string (BS [b])) (w' := wa) ?_ ⟨_, rfl, Below.refl _ _, rfl⟩
            rw [show a.eval (.tmp 66) = .slice (some ⟨g, 0, none⟩) 1 1 from p1]
            exact run_c1 wa g b p3
          · have p : a.tmps.getD 64 undef = .string (BS (s.take i)) := hpre ⟨16, .data⟩ (by simp) rfl _ rfl
            have g : a.tmps.getD 67 undef = .string (BS [b]) := hpre ⟨19, .data⟩ (by simp) rfl _ rfl
            exact step_bin rfl (met_none rfl) rfl (u := .string (BS (s.take i))) (v := .string (BS [b])) p g (run_cat (s.take i) [b] _ _ (by simp only [List.length_append, List.length_take, List.length_drop, List.length_cons, List.length_nil]; omega) wa) ⟨_, rfl, Below.refl _ _, rfl⟩
          · exact step_move rfl (met_none rfl) (.inl rfl) ⟨_, rfl, Below.refl _ _, q13⟩
          · exact step_move rfl (met_none rfl) (.inl rfl) ⟨_, rfl, Below.refl _ _, q14⟩
          · have p : a.tmps.getD 69 undef = .string (BS s) := hpre ⟨21, .data⟩ (by simp) rfl _ rfl
            have g : a.tmps.getD 70 undef = .int .i64 (i : Int) := hpre ⟨22, .data⟩ (by simp) rfl _ rfl
            exact step_slice_lo rfl (met_none rfl) rfl p g (run_lo s i hi wa) ⟨_, rfl, Below.refl _ _, rfl⟩
          · have p : a.tmps.getD 68 undef = .string (BS ((s.take i) ++ [b])) := hpre ⟨20, .data⟩ (by simp) rfl _ rfl
            have g : a.tmps.getD 71 undef = .string (BS (s.drop i)) := hpre ⟨23, .data⟩ (by simp) rfl _ rfl
            exact step_bin rfl (met_none rfl) rfl (u := .string (BS ((s.take i) ++ [b]))) (v := .string (BS (s.drop i))) p g (run_cat ((s.take i) ++ [b]) (s.drop i) _ _ (by simp only [List.length_append, List.length_take, List.length_drop, List.length_cons, List.length_nil]; omega) wa) ⟨_, rfl, Below.refl _ _, rfl⟩
          · exact step_move rfl (met_none rfl) (.inl rfl) ⟨_, rfl, Below.refl _ _, q13⟩
          · have p : a.tmps.getD 73 undef = .string (BS s) := hpre ⟨25, .data⟩ (by simp) rfl _ rfl
            exact step_bin rfl (met_none rfl) rfl (u := .string (BS s)) (v := .string (BS [101, 53])) p rfl (run_cat s [101, 53] _ _ (by simp only [List.length_append, List.length_take, List.length_drop, List.length_cons, List.length_nil]; omega) wa) ⟨_, rfl, Below.refl _ _, rfl⟩
          · exact step_move rfl (met_none rfl) (.inl rfl) ⟨_, rfl, Below.refl _ _, q4⟩
          · have p : a.tmps.getD 75 undef = .int .u8 (b.toNat : Int) := hpre ⟨27, .data⟩ (by simp) rfl _ rfl
            exact step_build1 rfl (met_none rfl) rfl p (run_b1 wa b) ⟨_, rfl, (Below.refl _ _).alloc (Nat.le_refl _) _, wa.heap.size, rfl, by simp, by rw [Lib.cell_of_heap (Array.getElem?_push_size)]; rfl⟩
          · obtain ⟨g, p1, p2, p3⟩ : ∃ g, a.tmps.getD 76 undef = .slice (some ⟨g, 0, none⟩) 1 1 ∧ g < wa.heap.size ∧ wa.cell? ⟨g, 0, none⟩ = some (.int .u8 (b.toNat : Int)) := hpre ⟨28, .data⟩ (by simp) rfl _ rfl
            refine step_conv rfl (met_none rfl) rfl (v := .string (BS [b])) (w' := wa) ?_ ⟨_, rfl, Below.refl _ _, rfl⟩
            rw [show a.eval (.tmp 76) = .slice (some ⟨g, 0, none⟩) 1 1 from p1]
            exact run_c1 wa g b p3
          · have p : a.tmps.getD 74 undef = .string (BS (s ++ [101, 53])) := hpre ⟨26, .data⟩ (by simp) rfl _ rfl
            have g : a.tmps.getD 77 undef = .string (BS [b]) := hpre ⟨29, .data⟩ (by simp) rfl _ rfl
            exact step_bin rfl (met_none rfl) rfl (u := .string (BS (s ++ [101, 53]))) (v := .string (BS [b])) p g (run_cat (s ++ [101, 53]) [b] _ _ (by simp only [List.length_append, List.length_take, List.length_drop, List.length_cons, List.length_nil]; omega) wa) ⟨_, rfl, Below.refl _ _, rfl⟩
          · exact step_move rfl (met_none rfl) (.inl rfl) ⟨_, rfl, Below.refl _ _, q13⟩
          · have p : a.tmps.getD 79 undef = .string (BS s) := hpre ⟨31, .data⟩ (by simp) rfl _ rfl
            exact step_bin rfl (met_none rfl) rfl (u := .string (BS s)) (v := .string (BS [101, 49, 46, 53])) p rfl (run_cat s [101, 49, 46, 53] _ _ (by simp only [List.length_append, List.length_take, List.length_drop, List.length_cons, List.length_nil]; omega) wa) ⟨_, rfl, Below.refl _ _, rfl⟩
          · exact step_move rfl (met_none rfl) (.inl rfl) ⟨_, rfl, Below.refl _ _, q13⟩
          · have g : a.tmps.getD 81 undef = .string (BS s) := hpre ⟨33, .data⟩ (by simp) rfl _ rfl
            exact step_bin rfl (met_none rfl) rfl (u := .string (BS [43, 45])) (v := .string (BS s)) rfl g (run_cat [43, 45] s _ _ (by simp only [List.length_append, List.length_take, List.length_drop, List.length_cons, List.length_nil]; omega) wa) ⟨_, rfl, Below.refl _ _, rfl⟩
          · exact step_move rfl (met_none rfl) (.inl rfl) ⟨_, rfl, Below.refl _ _, q13⟩
          · have p : a.tmps.getD 83 undef = .string (BS s) := hpre ⟨35, .data⟩ (by simp) rfl _ rfl
            exact step_bin rfl (met_none rfl) rfl (u := .string (BS s)) (v := .string (BS [45])) p rfl (run_cat s [45] _ _ (by simp only [List.length_append, List.length_take, List.length_drop, List.length_cons, List.length_nil]; omega) wa) ⟨_, rfl, Below.refl _ _, rfl⟩
          · exact step_move rfl (met_none rfl) (.inl rfl) ⟨_, rfl, Below.refl _ _, q11⟩
          · exact step_move rfl (met_none rfl) (.inl rfl) ⟨_, rfl, Below.refl _ _, q11⟩
          · have p : a.tmps.getD 86 undef = .string (BS d) := hpre ⟨38, .data⟩ (by simp) rfl _ rfl
            exact step_len_string Tryz.underlying9 rfl (met_none rfl) rfl p ⟨_, rfl, Below.refl _ _, congrArg (fun x : Nat => Value.int .i64 (x : Int)) (BS_size d)⟩
          · have p : a.tmps.getD 87 undef = .int .i64 (d.length : Int) := hpre ⟨39, .data⟩ (by simp) rfl _ rfl
            exact step_bin rfl (met_none rfl) rfl (u := .int .i64 1200) (v := .int .i64 (d.length : Int)) rfl p (run_quo d.length _ _ hd1 (by omega) wa) ⟨_, rfl, Below.refl _ _, rfl⟩
          · have p : a.tmps.getD 88 undef = .int .i64 ((1200 / d.length : Nat) : Int) := hpre ⟨40, .data⟩ (by simp) rfl _ rfl
            exact step_bin rfl (met_none rfl) rfl (u := .int .i64 ((1200 / d.length : Nat) : Int)) (v := .int .i64 1) p rfl (run_inc (1200 / d.length) _ _ (by have := Nat.div_le_self 1200 d.length; omega) wa) ⟨_, rfl, Below.refl _ _, rfl⟩
          · have p : a.tmps.getD 85 undef = .string (BS d) := hpre ⟨37, .data⟩ (by simp) rfl _ rfl
            have g : a.tmps.getD 89 undef = .int .i64 ((1200 / d.length + 1 : Nat) : Int) := hpre ⟨41, .data⟩ (by simp) rfl _ rfl
            refine step_call rfl (met_none rfl) _ (args2 p g) (hc24 _ _) ((hrep wa).mono ?_)
            rintro e w' ⟨rfl, hb⟩
            exact ⟨_, rfl, _, rfl, hb, rfl⟩
          · have p : a.tmps.getD 90 undef = .string (BS (repT d)) := hpre ⟨42, .data⟩ (by simp) rfl _ rfl
            exact step_bin rfl (met_none rfl) rfl (u := .string (BS (repT d))) (v := .string (BS [48])) p rfl (run_cat (repT d) [48] _ _ (by simp only [List.length_append, List.length_take, List.length_drop, List.length_cons, List.length_nil]; omega) wa) ⟨_, rfl, Below.refl _ _, rfl⟩
          · have p0 : a.tmps.getD 55 undef = .string (BS (((s.take i) ++ [46]) ++ (s.drop i))) := hpre ⟨7, .data⟩ (by simp) rfl _ rfl
            have p3 : a.tmps.getD 57 undef = .string (BS (s ++ [101])) := hpre ⟨9, .data⟩ (by simp) rfl _ rfl
            have p4 : a.tmps.getD 59 undef = .string (BS (s ++ [101, 43])) := hpre ⟨11, .data⟩ (by simp) rfl _ rfl
            have p5 : a.tmps.getD 61 undef = .string (BS (s ++ [101, 49, 50, 51, 52, 53, 54])) := hpre ⟨13, .data⟩ (by simp) rfl _ rfl
            have p6 : a.tmps.getD 72 undef = .string (BS (((s.take i) ++ [b]) ++ (s.drop i))) := hpre ⟨24, .data⟩ (by simp) rfl _ rfl
            have p7 : a.tmps.getD 78 undef = .string (BS ((s ++ [101, 53]) ++ [b])) := hpre ⟨30, .data⟩ (by simp) rfl _ rfl
            have p8 : a.tmps.getD 80 undef = .string (BS (s ++ [101, 49, 46, 53])) := hpre ⟨32, .data⟩ (by simp) rfl _ rfl
            have p9 : a.tmps.getD 82 undef = .string (BS ([43, 45] ++ s)) := hpre ⟨34, .data⟩ (by simp) rfl _ rfl
            have p10 : a.tmps.getD 84 undef = .string (BS (s ++ [45])) := hpre ⟨36, .data⟩ (by simp) rfl _ rfl
            have p12 : a.tmps.getD 91 undef = .string (BS ((repT d) ++ [48])) := hpre ⟨43, .data⟩ (by simp) rfl _ rfl
            refine step_b13 rfl (met_none rfl) rfl p0 (show a.eval _ = .string (BS [46]) from rfl) (show a.eval _ = .string (BS [43]) from rfl) p3 p4 p5 p6 p7 p8 p9 p10 (show a.eval _ = .string (BS [101, 53]) from rfl) p12 ⟨_, rfl, (Below.refl _ _).alloc (Nat.le_refl _) _, wa.heap.size, rfl, by simp, fun j hj => ?_⟩
            rw [Lib.cell_of_heap (Array.getElem?_push_size)]
            match j, hj with
            | 0, _ => rfl
            | 1, _ => rfl
            | 2, _ => rfl
            | 3, _ => rfl
            | 4, _ => rfl
            | 5, _ => rfl
            | 6, _ => rfl
            | 7, _ => rfl
            | 8, _ => rfl
            | 9, _ => rfl
            | 10, _ => rfl
            | 11, _ => rfl
            | 12, _ => rfl
          · have p : ∃ g, a.tmps.getD 92 undef = .slice (some ⟨g, 0, none⟩) 13 13 ∧ g < wa.heap.size ∧ ∀ j, j < 13 → wa.cell? ⟨g, j, none⟩ = some (.string (BS (badT d s i b j))) := hpre ⟨44, .data⟩ (by simp) rfl _ rfl
            exact step_move rfl (met_none rfl) (.inr rfl) ⟨_, rfl, Below.refl _ _, p⟩
        · intro a w hb hall ha
          have f0 : a.tmps.getD 48 undef = .string (BS s) := hall 0 _ rfl
          have f1 : a.tmps.getD 49 undef = .int .i64 (i : Int) := hall 1 _ rfl
          have f2 : a.tmps.getD 50 undef = .string (BS (s.take i)) := hall 2 _ rfl
          have f3 : a.tmps.getD 51 undef = .string (BS ((s.take i) ++ [46])) := hall 3 _ rfl
          have f4 : a.tmps.getD 52 undef = .string (BS s) := hall 4 _ rfl
          have f5 : a.tmps.getD 53 undef = .int .i64 (i : Int) := hall 5 _ rfl
          have f6 : a.tmps.getD 54 undef = .string (BS (s.drop i)) := hall 6 _ rfl
          have f7 : a.tmps.getD 55 undef = .string (BS (((s.take i) ++ [46]) ++ (s.drop i))) := hall 7 _ rfl
          have f8 : a.tmps.getD 56 undef = .string (BS s) := hall 8 _ rfl
          have f9 : a.tmps.getD 57 undef = .string (BS (s ++ [101])) := hall 9 _ rfl
          have f10 : a.tmps.getD 58 undef = .string (BS s) := hall 10 _ rfl
          have f11 : a.tmps.getD 59 undef = .string (BS (s ++ [101, 43])) := hall 11 _ rfl
          have f12 : a.tmps.getD 60 undef = .string (BS s) := hall 12 _ rfl
          have f13 : a.tmps.getD 61 undef = .string (BS (s ++ [101, 49, 50, 51, 52, 53, 54])) := hall 13 _ rfl
          have f14 : a.tmps.getD 62 undef = .string (BS s) := hall 14 _ rfl
          have f15 : a.tmps.getD 63 undef = .int .i64 (i : Int) := hall 15 _ rfl
          have f16 : a.tmps.getD 64 undef = .string (BS (s.take i)) := hall 16 _ rfl
          have f17 : a.tmps.getD 65 undef = .int .u8 (b.toNat : Int) := hall 17 _ rfl
          obtain ⟨g18, f18, h18, k18⟩ : ∃ g, a.tmps.getD 66 undef = .slice (some ⟨g, 0, none⟩) 1 1 ∧ g < w.heap.size ∧ w.cell? ⟨g, 0, none⟩ = some (.int .u8 (b.toNat : Int)) := hall 18 _ rfl
          have f19 : a.tmps.getD 67 undef = .string (BS [b]) := hall 19 _ rfl
          have f20 : a.tmps.getD 68 undef = .string (BS ((s.take i) ++ [b])) := hall 20 _ rfl
          have f21 : a.tmps.getD 69 undef = .string (BS s) := hall 21 _ rfl
          have f22 : a.tmps.getD 70 undef = .int .i64 (i : Int) := hall 22 _ rfl
          have f23 : a.tmps.getD 71 undef = .string (BS (s.drop i)) := hall 23 _ rfl
          have f24 : a.tmps.getD 72 undef = .string (BS (((s.take i) ++ [b]) ++ (s.drop i))) := hall 24 _ rfl
          have f25 : a.tmps.getD 73 undef = .string (BS s) := hall 25 _ rfl
          have f26 : a.tmps.getD 74 undef = .string (BS (s ++ [101, 53])) := hall 26 _ rfl
          have f27 : a.tmps.getD 75 undef = .int .u8 (b.toNat : Int) := hall 27 _ rfl
          obtain ⟨g28, f28, h28, k28⟩ : ∃ g, a.tmps.getD 76 undef = .slice (some ⟨g, 0, none⟩) 1 1 ∧ g < w.heap.size ∧ w.cell? ⟨g, 0, none⟩ = some (.int .u8 (b.toNat : Int)) := hall 28 _ rfl
          have f29 : a.tmps.getD 77 undef = .string (BS [b]) := hall 29 _ rfl
          have f30 : a.tmps.getD 78 undef = .string (BS ((s ++ [101, 53]) ++ [b])) := hall 30 _ rfl
          have f31 : a.tmps.getD 79 undef = .string (BS s) := hall 31 _ rfl
          have f32 : a.tmps.getD 80 undef = .string (BS (s ++ [101, 49, 46, 53])) := hall 32 _ rfl
          have f33 : a.tmps.getD 81 undef = .string (BS s) := hall 33 _ rfl
          have f34 : a.tmps.getD 82 undef = .string (BS ([43, 45] ++ s)) := hall 34 _ rfl
          have f35 : a.tmps.getD 83 undef = .string (BS s) := hall 35 _ rfl
          have f36 : a.tmps.getD 84 undef = .string (BS (s ++ [45])) := hall 36 _ rfl
          have f37 : a.tmps.getD 85 undef = .string (BS d) := hall 37 _ rfl
          have f38 : a.tmps.getD 86 undef = .string (BS d) := hall 38 _ rfl
          have f39 : a.tmps.getD 87 undef = .int .i64 (d.length : Int) := hall 39 _ rfl
          have f40 : a.tmps.getD 88 undef = .int .i64 ((1200 / d.length : Nat) : Int) := hall 40 _ rfl
          have f41 : a.tmps.getD 89 undef = .int .i64 ((1200 / d.length + 1 : Nat) : Int) := hall 41 _ rfl
          have f42 : a.tmps.getD 90 undef = .string (BS (repT d)) := hall 42 _ rfl
          have f43 : a.tmps.getD 91 undef = .string (BS ((repT d) ++ [48])) := hall 43 _ rfl
          obtain ⟨g44, f44, h44, k44⟩ : ∃ g, a.tmps.getD 92 undef = .slice (some ⟨g, 0, none⟩) 13 13 ∧ g < w.heap.size ∧ ∀ j, j < 13 → w.cell? ⟨g, j, none⟩ = some (.string (BS (badT d s i b j))) := hall 44 _ rfl
          obtain ⟨g45, f45, h45, k45⟩ : ∃ g, a.tmps.getD 15 undef = .slice (some ⟨g, 0, none⟩) 13 13 ∧ g < w.heap.size ∧ ∀ j, j < 13 → w.cell? ⟨g, j, none⟩ = some (.string (BS (badT d s i b j))) := hall 45 _ rfl
          simp only [List.foldl, fillFrom, f0, f1, f2, f3, f4, f5, f6, f7, f8, f9, f10, f11, f12, f13, f14, f15, f16, f17, f18, f19, f20, f21, f22, f23, f24, f25, f26, f27, f28, f29, f30, f31, f32, f33, f34, f35, f36, f37, f38, f39, f40, f41, f42, f43, f44, f45] at ha
          clear hall f0 f1 f2 f3 f4 f5 f6 f7 f8 f9 f10 f11 f12 f13 f14 f15 f16 f17 f18 f19 f20 f21 f22 f23 f24 f25 f26 f27 f28 f29 f30 f31 f32 f33 f34 f35 f36 f37 f38 f39 f40 f41 f42 f43 f44 f45
          subst ha
          simp only [Act.put, List.setIfInBounds_toArray, List.set_cons_succ, List.set_cons_zero]
          go_wp2_with fail
          go_meet
          exact ⟨g45, rfl, h45, Lib.hid k45, Lib.hid hb⟩
      case rest =>
        obtain ⟨g, rfl, hgl, hcl, hb7⟩ := hcut
        replace hB := Lib.hid (hB.out.trans (hb7.out.mono hB.out.size))
        clear hb7
        obtain ⟨j, hj⟩ : ∃ j : Nat, (how : Int) % 13 = (j : Int) := ⟨how % 13, rfl⟩
        have hj13 : j < 13 := by omega
        have c0 := hcl.out j hj13
        obtain ⟨x, hx⟩ : ∃ x, Hid (x = badT d s i b j) := ⟨_, Lib.hid rfl⟩
        rw [← hx.out] at c0
        have hxs := BS_size x
        have hxb : Hid ((j < 12 ∧ x.length ≤ 100 ∧ rightL x = false ∧ isNam x = false) ∨ (1200 < x.length ∧ x.length ≤ 1300)) := Lib.hid (by
          by_cases h12 : j < 12
          · left
            rw [hx.out, hs.out]
            exact ⟨h12, badL d k i j b (by omega) h12, badF d k i j b hdd.out hbk.out h12, badN d k i j b h12⟩
          · right
            have : j = 12 := by omega
            rw [hx.out, this]
            exact repT_len d hd1 (by omega))
        clear hx hcl hbk hdd hss hsl1 hil hsl
        rcases hxb.out with ⟨h12, hxl, hx1, hx2⟩ | ⟨hx1, hx2⟩
        · have cp := Lib.hid (fun W => parse_no (BS x) (by omega) hx2 hx1 W)
          have u1 : decide ((1200 : Int) < (x.length : Int)) = false := decide_eq_false (by omega)
          have u2 : decide (1200 < x.length) = false := decide_eq_false (by omega)
          clear hxb hx1 hx2
          go_wp2_with fail
          refine (cp.out _).mono ?_; rintro e w4 ⟨rfl, hb⟩
          replace hB := Lib.hid (hB.out.trans (hb.mono hB.out.size))
          have haw := Lib.hid (awake_any w4 (hGG.out.on hB.out))
          clear hb cp
          go_wp2_with fail
          refine haw.out.mono ?_; rintro e w5 ⟨rfl, hb⟩
          replace hB := Lib.hid (hB.out.trans (hb.mono hB.out.size))
          clear hb haw
          go_wp2_with fail
          go_ret
          exact ⟨rfl, hB.out⟩
        · have cp := Lib.hid (fun W => parse_big (BS x) (by omega) W)
          have u1 : decide ((1200 : Int) < (x.length : Int)) = true := decide_eq_true (by omega)
          have u2 : decide (1200 < x.length) = true := decide_eq_true (by omega)
          clear hxb
          go_wp2_with fail
          refine (cp.out _).mono ?_; rintro e w4 ⟨rfl, hb⟩
          replace hB := Lib.hid (hB.out.trans (hb.mono hB.out.size))
          have haw := Lib.hid (awake_any w4 (hGG.out.on hB.out))
          clear hb cp
          go_wp2_with fail
          refine haw.out.mono ?_; rintro e w5 ⟨rfl, hb⟩
          replace hB := Lib.hid (hB.out.trans (hb.mono hB.out.size))
          clear hb haw
          go_wp2_with fail
          go_ret
          exact ⟨rfl, hB.out⟩
end Go.Proofs.YtaidemghhagniaaGreatDoor
end
section
namespace Go.Proofs.YtaidemghhagniaaGreatDoor
open Go Go.RowKit
theorem decimalWrong_walk (a0 : Option Addr) (len0 cap0 : Nat) (z0 : List Int) (a1 a2 a3 a4 : Int) (w : World) (w0 : IsRow .u8 w a0 len0 cap0 z0) (w1 : (Lit.int .u8 a1).wf = true) (w2 : (Lit.int .u8 a2).wf = true) (w3 : (Lit.int .u8 a3).wf = true) (w4 : (Lit.int .u8 a4).wf = true) (hG : AGlb w) :
    Calls Tryz.prog 11 #[.slice a0 len0 cap0, .int .u8 a1, .int .u8 a2, .int .u8 a3, .int .u8 a4] w fun e w' => e = .returned (.bool true) ∧ Below w.heap.size w w' := by
  obtain ⟨n1, rfl, h1⟩ := u8_of w1
  obtain ⟨n2, rfl, h2⟩ := u8_of w2
  obtain ⟨n3, rfl, h3⟩ := u8_of w3
  obtain ⟨n4, rfl, h4⟩ := u8_of w4
  obtain ⟨l, rfl, hr, hm, hc⟩ := w0.bytes
  exact wrong_law a0 cap0 l n1 n2 n3 n4 h1 h2 h3 h4 w hr hm hc hG
end Go.Proofs.YtaidemghhagniaaGreatDoor
end
