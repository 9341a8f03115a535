/- The law Md5Small. -/
import Derived.Test.YtimiejahkcjcdaaDoorM44
import Derived.Test.YtimiejahkcjcdaaDoorM32
import Derived.Test.YtimiejahkcjcdaaDoorM30
import Derived.Test.YtimiejahkcjcdaaDoorM27
namespace Go.Proofs.YtimiejahkcjcdaaDoor
open Go.RowKit
def stdC : Array Value := #[.string ⟨#[109, 101, 115, 115, 97, 103, 101, 32, 100, 105, 103, 101, 115, 116]⟩, .string ⟨#[102, 57, 54, 98, 54, 57, 55, 100, 55, 99, 98, 55, 57, 51, 56, 100, 53, 50, 53, 97, 50, 102, 51, 49, 97, 97, 102, 49, 54, 49, 100, 48]⟩, .string ⟨#[97, 98, 99, 100, 101, 102, 103, 104, 105, 106, 107, 108, 109, 110, 111, 112, 113, 114, 115, 116, 117, 118, 119, 120, 121, 122]⟩, .string ⟨#[99, 51, 102, 99, 100, 51, 100, 55, 54, 49, 57, 50, 101, 52, 48, 48, 55, 100, 102, 98, 52, 57, 54, 99, 99, 97, 54, 55, 101, 49, 51, 98]⟩, .string ⟨#[65, 66, 67, 68, 69, 70, 71, 72, 73, 74, 75, 76, 77, 78, 79, 80, 81, 82, 83, 84, 85, 86, 87, 88, 89, 90, 97, 98, 99, 100, 101, 102, 103, 104, 105, 106, 107, 108, 109, 110, 111, 112, 113, 114, 115, 116, 117, 118, 119, 120, 121, 122, 48, 49, 50, 51, 52, 53, 54, 55, 56, 57]⟩, .string ⟨#[100, 49, 55, 52, 97, 98, 57, 56, 100, 50, 55, 55, 100, 57, 102, 53, 97, 53, 54, 49, 49, 99, 50, 99, 57, 102, 52, 49, 57, 100, 57, 102]⟩, .string ⟨#[49, 50, 51, 52, 53, 54, 55, 56, 57, 48, 49, 50, 51, 52, 53, 54, 55, 56, 57, 48, 49, 50, 51, 52, 53, 54, 55, 56, 57, 48, 49, 50, 51, 52, 53, 54, 55, 56, 57, 48, 49, 50, 51, 52, 53, 54, 55, 56, 57, 48, 49, 50, 51, 52, 53, 54, 55, 56, 57, 48, 49, 50, 51, 52, 53, 54, 55, 56, 57, 48, 49, 50, 51, 52, 53, 54, 55, 56, 57, 48]⟩, .string ⟨#[53, 55, 101, 100, 102, 52, 97, 50, 50, 98, 101, 51, 99, 57, 53, 53, 97, 99, 52, 57, 100, 97, 50, 101, 50, 49, 48, 55, 98, 54, 55, 97]⟩]
theorem stdC_eq : stdC = (std.flatMap fun p => [Value.string ⟨p.1.toArray⟩, Value.string ⟨p.2.toArray⟩]).toArray := rfl
theorem tells_c (i : Nat) (hi : i < 200) (a : Option Addr) (cap : Nat) (l : List UInt8) (hl : l.length = i) (w : World) (hr : RowB w (.slice a l.length cap) l) (hT : Tabs w) :
    Calls Tryd.prog 19 #[.agg #[.int .u32 (i : Int), .int .u32 1, .int .u32 2147483648, .int .u32 (bits .xor .u32 IntKind.u32.max (i : Int))], .slice a i cap, .int .u64 i] w fun e w' => e = .returned (.bool true) ∧ Below w.heap.size w w' := by
  have e : U (BitVec.ofNat 32 i) = (i : Int) := by unfold U; rw [BitVec.toNat_ofNat, Nat.mod_eq_of_lt (by omega)]
  have h := tells_any ⟨.ofNat 32 i, 1, 2147483648, ~~~ .ofNat 32 i⟩ a cap l (by omega) i (by omega) w hr hT
  rw [hl] at h
  simp only [← U_not, e] at h
  exact h
theorem texts_c (i : Nat) (hi : i < 256) (s : ByteArray) (hs : s.size ≤ 4611686018427387904) (w : World) :
    Calls Tryd.prog 21 #[.agg #[.int .u8 (i : Int), .int .u8 255, .int .u8 0, .int .u8 0, .int .u8 0, .int .u8 0, .int .u8 0, .int .u8 0, .int .u8 0, .int .u8 0, .int .u8 0, .int .u8 0, .int .u8 0, .int .u8 0, .int .u8 0, .int .u8 0], .string s] w fun e w' => e = .returned (.bool true) ∧ Below w.heap.size w w' := by
  have h := texts_any (fun j => if j = 0 then UInt8.ofNat i else if j = 1 then 255 else 0) s hs w
  have e : ((UInt8.ofNat i).toNat : Int) = i := by rw [UInt8.toNat_ofNat', Nat.mod_eq_of_lt (by omega)]
  simp only [e8, if_true, if_false, e, Nat.reduceEqDiff] at h
  exact h
set_option maxRecDepth 100000 in
set_option maxHeartbeats 4000000 in
theorem small_any (w : World) (hT : Tabs w) : Calls Tryd.prog 12 #[] w fun e w' => e = .returned (.bool true) ∧ Below w.heap.size w w' := by
  replace hT := Lib.hid (fun (W : World) (h : Below w.heap.size w W) => hT.on h)
  go_enter Tryd.func12, Tryd.ntmps12
  go_upto_block 0 with (fail)
  show Code.wp _ _ _ _ (w.alloc (.cells stdC 62))
  have S0 : Hid (Std w.heap.size (w.alloc (.cells stdC 62))) := std_cells w stdC 62 (0, 0) stdC_eq
  have B0 : Hid (Below w.heap.size w (w.alloc (.cells stdC 62))) := (Below.refl _ _).alloc (Nat.le_refl _) _
  generalize w.alloc (.cells stdC 62) = w1 at S0 B0 ⊢
  go_cut [21] (fun _ wx => Hid (Below w.heap.size w wx))
  case first =>
    go_wp2_with fail
    go_loopg [21] 4 (fun g s21 wx => ∃ i : Nat, i + g = 4 ∧ s21 = .int .i64 i ∧ Hid (Std w.heap.size wx) ∧ Hid (Below w.heap.size w wx))
    case atStart => exact ⟨0, by omega, rfl, S0, B0⟩
    case round =>
      clear S0 B0
      obtain ⟨i, hi, rfl, S0, B0⟩ := hrel
      by_cases hlt : i < 4
      · have t1 : decide (i < 4) = true := decide_eq_true hlt
        obtain ⟨m, x, hc0, hc1, htx, hml⟩ := S0.out.2 i hlt
        obtain ⟨d, hd⟩ : ∃ d, Hid (d = sumF m) := ⟨_, rfl⟩
        have hx : Hid ((⟨x.toArray⟩ : ByteArray) = ⟨(txt d 16).toArray⟩) := by show _ = _; rw [hd.out, htx]
        clear htx
        go_upto_region 4 with (fail)
        have k0 : ∀ W, Below (wr.alloc (.cells #[.string ⟨m.toArray⟩, .string ⟨x.toArray⟩] 62)).heap.size (wr.alloc (.cells #[.string ⟨m.toArray⟩, .string ⟨x.toArray⟩] 62)) W → W.cell? ⟨wr.heap.size, 0, none⟩ = some (.string ⟨m.toArray⟩) := fun W h => (World.cell?_of_block (w := wr.alloc (.cells #[.string ⟨m.toArray⟩, .string ⟨x.toArray⟩] 62)) (h.block wr.heap.size (by simp))).trans (by simp [go_sem])
        have k1 : ∀ W, Below (wr.alloc (.cells #[.string ⟨m.toArray⟩, .string ⟨x.toArray⟩] 62)).heap.size (wr.alloc (.cells #[.string ⟨m.toArray⟩, .string ⟨x.toArray⟩] 62)) W → W.cell? ⟨wr.heap.size, 1, none⟩ = some (.string ⟨x.toArray⟩) := fun W h => (World.cell?_of_block (w := wr.alloc (.cells #[.string ⟨m.toArray⟩, .string ⟨x.toArray⟩] 62)) (h.block wr.heap.size (by simp))).trans (by simp [go_sem])
        have B1 : Below wr.heap.size wr (wr.alloc (.cells #[.string ⟨m.toArray⟩, .string ⟨x.toArray⟩] 62)) := (Below.refl _ _).alloc (Nat.le_refl _) _
        replace S0 := Lib.hid (S0.out.on B1)
        replace B0 := Lib.hid (B0.out.trans (B1.mono B0.out.size))
        clear B1 hc0 hc1
        generalize wr.alloc (.cells #[.string ⟨m.toArray⟩, .string ⟨x.toArray⟩] 62) = w2 at k0 k1 S0 B0 ⊢
        generalize wr.heap.size = N2 at k0 k1 ⊢
        have HT := Lib.hid (hT.out w2 B0.out)
        have h18 := Tryd.call18
        have h22 := Tryd.call22
        refine wp_region_facts (fun ix v W => match ix with | 0 => v = .pointer (some ⟨N2, 0, none⟩) | 1 => v = .string ⟨m.toArray⟩ | 2 => RowB W v m | 3 => v = .agg #[e8 d 0, e8 d 1, e8 d 2, e8 d 3, e8 d 4, e8 d 5, e8 d 6, e8 d 7, e8 d 8, e8 d 9, e8 d 10, e8 d 11, e8 d 12, e8 d 13, e8 d 14, e8 d 15] | 4 => v = .string ⟨x.toArray⟩ | 5 => v = .pointer (some ⟨N2, 1, none⟩) | 6 => v = .string ⟨x.toArray⟩ | _ => v = .bool false)
          (by kernel_rfl) (by kernel_rfl) (by decide +kernel) (by kernel_rfl) (by intro ix v A B h hb; rcases ix with _ | _ | _ | _ | _ | _ | _ | ix <;> first | exact h | exact Row.on h hb) ?_ ?_
        · intro ix
          rcases ix with _ | _ | _ | _ | _ | _ | _ | _ | ix
          all_goals intro o ho a wa hba hout hsz hpre
          all_goals cases ho
          all_goals have q2 : a.tmps.getD 2 undef = .pointer (some ⟨N2, 0, none⟩) := (hout 2 (by decide +kernel)).trans rfl
          all_goals clear hout hsz
          · exact step_run rfl (met_none rfl) (v := .pointer (some ⟨N2, 0, none⟩)) (w' := wa) (by simp [execOp, q2, go_sem]) ⟨_, rfl, Below.refl _ _, rfl⟩
          · have p25 : a.tmps.getD 25 undef = .pointer (some ⟨N2, 0, none⟩) := hpre ⟨0, .data⟩ (by simp) rfl _ rfl
            exact step_load rfl (met_none rfl) rfl p25 (by have hc := k0 wa hba; simp [execOp, go_sem, hc]) ⟨_, rfl, Below.refl _ _, rfl⟩
          · have p26 : a.tmps.getD 26 undef = .string ⟨m.toArray⟩ := hpre ⟨1, .data⟩ (by simp) rfl _ rfl
            obtain ⟨v, W, h1, h2, h3⟩ := conv_str wa m hml
            exact step_conv rfl (met_none rfl) rfl ((congrArg (fun z => (convert 9 24 z).run Tryd.prog wa) p26).trans h1) ⟨_, rfl, h2, h3⟩
          · have p27 : RowB wa (a.tmps.getD 27 undef) m := hpre ⟨2, .data⟩ (by simp) rfl _ rfl
            refine step_call rfl (met_none rfl) _ (args1 rfl) (h18 _ _) ((sum_c _ m (by omega) d hd.out _ (HT.out.on hba) p27).mono ?_)
            rintro e w' ⟨rfl, hb⟩
            exact ⟨_, rfl, _, rfl, hb, rfl⟩
          · have p28 : a.tmps.getD 28 undef = .agg #[e8 d 0, e8 d 1, e8 d 2, e8 d 3, e8 d 4, e8 d 5, e8 d 6, e8 d 7, e8 d 8, e8 d 9, e8 d 10, e8 d 11, e8 d 12, e8 d 13, e8 d 14, e8 d 15] := hpre ⟨3, .data⟩ (by simp) rfl _ rfl
            refine step_call rfl (met_none rfl) _ (args1 p28) (h22 _ _) ((text_any d _ hx.out _).mono ?_)
            rintro e w' ⟨rfl, hb⟩
            exact ⟨_, rfl, _, rfl, hb, rfl⟩
          · exact step_run rfl (met_none rfl) (v := .pointer (some ⟨N2, 1, none⟩)) (w' := wa) (by simp [execOp, q2, go_sem]) ⟨_, rfl, Below.refl _ _, rfl⟩
          · have p30 : a.tmps.getD 30 undef = .pointer (some ⟨N2, 1, none⟩) := hpre ⟨5, .data⟩ (by simp) rfl _ rfl
            exact step_load rfl (met_none rfl) rfl p30 (by have hc := k1 wa hba; simp [execOp, go_sem, hc]) ⟨_, rfl, Below.refl _ _, rfl⟩
          · have p29 : a.tmps.getD 29 undef = .string ⟨x.toArray⟩ := hpre ⟨4, .data⟩ (by simp) rfl _ rfl
            have p31 : a.tmps.getD 31 undef = .string ⟨x.toArray⟩ := hpre ⟨6, .data⟩ (by simp) rfl _ rfl
            exact step_bin rfl (met_none rfl) rfl p29 p31 (r := .bool false) (w' := wa) (by simp [go_sem]) ⟨_, rfl, Below.refl _ _, rfl⟩
        · intro a wa hba hF ha
          have f0 : a.tmps.getD 25 undef = .pointer (some ⟨N2, 0, none⟩) := hF 0 _ rfl
          have f1 : a.tmps.getD 26 undef = .string ⟨m.toArray⟩ := hF 1 _ rfl
          have f2 : RowB wa (a.tmps.getD 27 undef) m := hF 2 _ rfl
          have f3 : a.tmps.getD 28 undef = .agg #[e8 d 0, e8 d 1, e8 d 2, e8 d 3, e8 d 4, e8 d 5, e8 d 6, e8 d 7, e8 d 8, e8 d 9, e8 d 10, e8 d 11, e8 d 12, e8 d 13, e8 d 14, e8 d 15] := hF 3 _ rfl
          have f4 : a.tmps.getD 29 undef = .string ⟨x.toArray⟩ := hF 4 _ rfl
          have f5 : a.tmps.getD 30 undef = .pointer (some ⟨N2, 1, none⟩) := hF 5 _ rfl
          have f6 : a.tmps.getD 31 undef = .string ⟨x.toArray⟩ := hF 6 _ rfl
          have f7 : a.tmps.getD 32 undef = .bool false := hF 7 _ rfl
          clear hF
          obtain ⟨fv2, hu2⟩ : ∃ u, u = a.tmps.getD 27 undef := ⟨_, rfl⟩
          rw [← hu2] at f2
          simp only [List.foldl, fillFrom, f0, f1, ← hu2, f3, f4, f5, f6, f7] at ha
          clear f0 f1 f3 f4 f5 f6 f7 hu2
          subst ha
          simp only [Act.put, List.setIfInBounds_toArray, List.set_cons_succ, List.set_cons_zero]
          replace S0 := Lib.hid (S0.out.on hba)
          replace B0 := Lib.hid (B0.out.trans (hba.mono B0.out.size))
          clear hba k0 k1 HT
          go_wp2_with fail
          go_roundg (gk - 1)
          case measure => omega
          case rel => exact ⟨i + 1, by omega, rfl, S0, B0⟩
      · obtain rfl : i = 4 := by omega
        have t1 : decide (4 < 4) = false := rfl
        go_wp2_with fail
        go_meet
        exact B0
  case rest =>
    replace B0 := hcut
    clear hcut S0
    go_upto_block 2 with (fail)
    go_cut [34] (fun _ wx => Hid (Below w.heap.size w wx))
    case first =>
      go_wp2_with fail
      go_loopg [3, 34] 200 (fun g s3 s34 wx => ∃ (i : Nat) (l : List UInt8), i + g = 200 ∧ s34 = .int .i64 i ∧ Hid (l.length = i) ∧ Hid (wx.ownsRow w.heap.size 5 1 s3 i (l.map enc8)) ∧ Hid (Below w.heap.size w wx))
      case atStart => exact ⟨0, [], by omega, rfl, rfl, owns_nil0 _ _, B0⟩
      case round =>
        clear B0
        obtain ⟨i, l, hi, rfl, hl, I, B0⟩ := hrel
        by_cases hlt : i < 200
        · have t1 : decide (i < 200) = true := decide_eq_true hlt
          have hrow : Hid (RowB wr u3 l) := Row.of_owned I.out
          obtain ⟨a6, c6, rfl⟩ := rowB_len hrow.out
          have HT := Lib.hid (hT.out _ B0.out)
          have hli := hl.out
          have qu32 : (i : Int) % 4294967296 = i := by omega
          have qu64 : (i : Int) % 18446744073709551616 = i := by omega
          go_wp2_with fail
          refine (tells_c i hlt a6 c6 l hli wr hrow.out HT.out).mono ?_; rintro e w2 ⟨rfl, hb⟩
          replace I := Lib.hid (owns_on I.out hb)
          replace B0 := Lib.hid (B0.out.trans (hb.mono B0.out.size))
          clear hb HT hrow qu32 qu64
          go_wp2_with fail
          refine (pads_any _ _).mono ?_; rintro e w3 ⟨rfl, hb⟩
          replace I := Lib.hid (owns_on I.out hb)
          replace B0 := Lib.hid (B0.out.trans (hb.mono B0.out.size))
          clear hb
          go_upto_region 13 with (fail)
          obtain ⟨c, q37⟩ : ∃ c : UInt8, (i : Int) * 37 % 256 = (c.toNat : Int) := ⟨UInt8.ofNat (i * 37), by rw [UInt8.toNat_ofNat']; omega⟩
          have hB3 := B0.out.size
          rw [hli] at I
          go_wp2_with (at_builtin; go_must (refine app_one rfl (.tmp 53) (.tmp 57) 24 rfl (u := .int .u8 (c.toNat : Int)) w.heap.size (.int .u8 0) 1 Tryd.underlying24 info5 rfl _ i _ rfl rfl I.out rfl (by omega) (by omega) hB3 ?_); rintro v2 w4 hown2' hb2 hs2 _ hv2; have hown2 := Lib.hid hown2'; clear hown2')
          go_roundg (gk - 1)
          case measure => omega
          case rel =>
            refine ⟨i + 1, l ++ [c], by omega, rfl, by show _ = _; rw [List.length_append, hli]; rfl, ?_, B0.out.trans hb2⟩
            show w4.ownsRow _ _ _ _ _ _
            rw [List.map_append]
            exact hown2.out
        · obtain rfl : i = 200 := by omega
          have t1 : decide (200 < 200) = false := rfl
          go_wp2_with fail
          go_meet
          exact B0
    case rest =>
      replace B0 := hcut
      clear hcut
      go_upto_block 4 with (fail)
      show Code.wp _ _ _ _ (wc.alloc (.cells #[.int .i64 (-9223372036854775808), .int .i64 (-1), .int .i64 1099511627775, .int .i64 1099511627776, .int .i64 1099511627777, .int .i64 9223372036854775807] 3))
      have S0 : Hid (Ints wc.heap.size 6 (wc.alloc (.cells #[.int .i64 (-9223372036854775808), .int .i64 (-1), .int .i64 1099511627775, .int .i64 1099511627776, .int .i64 1099511627777, .int .i64 9223372036854775807] 3))) := ints_cells wc [-9223372036854775808, -1, 1099511627775, 1099511627776, 1099511627777, 9223372036854775807] 6 rfl 3 (0, 0)
      replace B0 := Lib.hid (B0.out.trans (((Below.refl _ _).alloc (Nat.le_refl _) (.cells #[.int .i64 (-9223372036854775808), .int .i64 (-1), .int .i64 1099511627775, .int .i64 1099511627776, .int .i64 1099511627777, .int .i64 9223372036854775807] 3)).mono B0.out.size))
      generalize wc.alloc (.cells #[.int .i64 (-9223372036854775808), .int .i64 (-1), .int .i64 1099511627775, .int .i64 1099511627776, .int .i64 1099511627777, .int .i64 9223372036854775807] 3) = w3 at S0 B0 ⊢
      go_cut [62] (fun _ wx => Hid (Below w.heap.size w wx))
      case first =>
        go_wp2_with fail
        go_loopg [62] 6 (fun g s62 wx => ∃ (i : Nat), i + g = 6 ∧ s62 = .int .i64 i ∧ Hid (Ints wc.heap.size 6 wx) ∧ Hid (Below w.heap.size w wx))
        case atStart => exact ⟨0, by omega, rfl, S0, B0⟩
        case round =>
          clear B0 S0
          obtain ⟨i, hi, rfl, S0, B0⟩ := hrel
          by_cases hlt : i < 6
          · have t1 : decide (i < 6) = true := decide_eq_true hlt
            obtain ⟨x, hx⟩ := S0.out.2 i hlt
            go_wp2_with fail
            refine (pads_any _ _).mono ?_; rintro e w4 ⟨rfl, hb⟩
            replace S0 := Lib.hid (S0.out.on hb)
            replace B0 := Lib.hid (B0.out.trans (hb.mono B0.out.size))
            clear hb hx
            go_wp2_with fail
            go_roundg (gk - 1)
            case measure => omega
            case rel => exact ⟨i + 1, by omega, rfl, S0, B0⟩
          · obtain rfl : i = 6 := by omega
            have t1 : decide (6 < 6) = false := rfl
            go_wp2_with fail
            go_meet
            exact B0
      case rest =>
        replace B0 := hcut
        clear hcut S0
        go_upto_block 6 with (fail)
        go_cut [73] (fun _ wx => Hid (Below w.heap.size w wx))
        case first =>
          go_wp2_with fail
          go_loopg [73] 33 (fun g s73 wx => ∃ (i : Nat), i + g = 33 ∧ s73 = .int .i64 i ∧ Hid (Below w.heap.size w wx))
          case atStart => exact ⟨0, by omega, rfl, B0⟩
          case round =>
            clear B0
            obtain ⟨i, hi, rfl, B0⟩ := hrel
            by_cases hlt : i < 33
            · have t1 : decide ((i : Int) < 33) = true := decide_eq_true (by omega)
              have hT0 : T0.size = 32 := rfl
              have w64 : IntKind.i64.wrap ((i : Int) - 1) = (i : Int) - 1 := by rw [IntKind.wrap_i64]; omega
              go_upto_region 25 with (fail)
              refine wp_region_facts (fun ix v W => match ix with | 0 => v = .string T0 | 1 => v = .int .i64 i | 2 => IsS v 32 | 3 => v = .string T0 | 4 => v = .int .i64 i | 5 => IsS v 32 | 6 => v = .string T0 | 7 => v = .int .i64 i | 8 => IsS v 32 | 9 => IsS v 33 | 10 => v = .string T0 | 11 => v = .int .i64 i | 12 => IsS v 32 | 13 => IsS v 65 | 14 => v = .string T0 | 15 => v = .int .i64 i | 16 => v = .int .i64 ((i : Int) - 1) | 17 => v = .int .i64 ((i - 1 : Nat) : Int) | 18 => IsS v 32 | 19 => IsS v 33 | 20 => v = .string T0 | 21 => v = .int .i64 i | 22 => IsS v 32 | 23 => IsS v 65 | 24 => v = .string T0 | 25 => v = .int .i64 i | 26 => v = .int .i64 ((i : Int) - 1) | 27 => v = .int .i64 ((i - 1 : Nat) : Int) | 28 => IsS v 32 | 29 => IsS v 33 | 30 => v = .string T0 | 31 => v = .int .i64 i | 32 => IsS v 32 | 33 => IsS v 65 | 34 => v = .string T0 | 35 => v = .int .i64 i | 36 => v = .int .i64 ((i : Int) - 1) | 37 => v = .int .i64 ((i - 1 : Nat) : Int) | 38 => IsS v 32 | 39 => IsS v 33 | 40 => v = .string T0 | 41 => v = .int .i64 i | 42 => IsS v 32 | 43 => IsS v 65 | 44 => v = .string T0 | 45 => v = .int .i64 i | 46 => v = .int .i64 ((i : Int) - 1) | 47 => v = .int .i64 ((i - 1 : Nat) : Int) | 48 => IsS v 32 | 49 => IsS v 33 | 50 => v = .string T0 | 51 => v = .int .i64 i | 52 => IsS v 32 | 53 => IsS v 65 | 54 => (∃ b, v = .slice (some ⟨b, 0, none⟩) 7 7 ∧ Strs b W) | 55 => v = .int .i64 7 | _ => v = .int .i64 0)
                (by kernel_rfl) (by kernel_rfl) (by decide +kernel) (by kernel_rfl) (by intro ix v A B h hb; rcases ix with _ | _ | _ | _ | _ | _ | _ | _ | _ | _ | _ | _ | _ | _ | _ | _ | _ | _ | _ | _ | _ | _ | _ | _ | _ | _ | _ | _ | _ | _ | _ | _ | _ | _ | _ | _ | _ | _ | _ | _ | _ | _ | _ | _ | _ | _ | _ | _ | _ | _ | _ | _ | _ | _ | _ | _ | ix <;> first | exact h | (obtain ⟨b, e, g⟩ := h; exact ⟨b, e, g.on hb⟩)) ?_ ?_
              · intro ix
                rcases ix with _ | _ | _ | _ | _ | _ | _ | _ | _ | _ | _ | _ | _ | _ | _ | _ | _ | _ | _ | _ | _ | _ | _ | _ | _ | _ | _ | _ | _ | _ | _ | _ | _ | _ | _ | _ | _ | _ | _ | _ | _ | _ | _ | _ | _ | _ | _ | _ | _ | _ | _ | _ | _ | _ | _ | _ | _ | ix
                all_goals intro o ho a wa hba hout hsz hpre
                all_goals cases ho
                all_goals have q7 : a.tmps.getD 7 undef = .string T0 := (hout 7 (by decide +kernel)).trans rfl
                all_goals have q8 : a.tmps.getD 8 undef = .int .i64 i := (hout 8 (by decide +kernel)).trans rfl
                all_goals clear hout hsz
                · exact step_move rfl (met_none rfl) (.inl rfl) ⟨_, rfl, Below.refl _ _, q7⟩
                · exact step_move rfl (met_none rfl) (.inl rfl) ⟨_, rfl, Below.refl _ _, q8⟩
                · have p76 : a.tmps.getD 76 undef = .string T0 := hpre ⟨0, .data⟩ (by simp) rfl _ rfl
                  have p77 : a.tmps.getD 77 undef = .int .i64 i := hpre ⟨1, .data⟩ (by simp) rfl _ rfl
                  exact step_slice_hi rfl (met_none rfl) rfl p76 p77 (str_hi T0 i (by rw [hT0]; omega) wa) ⟨_, rfl, Below.refl _ _, ⟨_, rfl, ex_size T0 _ _⟩⟩
                · exact step_move rfl (met_none rfl) (.inl rfl) ⟨_, rfl, Below.refl _ _, q7⟩
                · exact step_move rfl (met_none rfl) (.inl rfl) ⟨_, rfl, Below.refl _ _, q8⟩
                · have p79 : a.tmps.getD 79 undef = .string T0 := hpre ⟨3, .data⟩ (by simp) rfl _ rfl
                  have p80 : a.tmps.getD 80 undef = .int .i64 i := hpre ⟨4, .data⟩ (by simp) rfl _ rfl
                  exact step_slice_lo rfl (met_none rfl) rfl p79 p80 (str_lo T0 i (by rw [hT0]; omega) wa) ⟨_, rfl, Below.refl _ _, ⟨_, rfl, ex_size T0 _ _⟩⟩
                · exact step_move rfl (met_none rfl) (.inl rfl) ⟨_, rfl, Below.refl _ _, q7⟩
                · exact step_move rfl (met_none rfl) (.inl rfl) ⟨_, rfl, Below.refl _ _, q8⟩
                · have p82 : a.tmps.getD 82 undef = .string T0 := hpre ⟨6, .data⟩ (by simp) rfl _ rfl
                  have p83 : a.tmps.getD 83 undef = .int .i64 i := hpre ⟨7, .data⟩ (by simp) rfl _ rfl
                  exact step_slice_hi rfl (met_none rfl) rfl p82 p83 (str_hi T0 i (by rw [hT0]; omega) wa) ⟨_, rfl, Below.refl _ _, ⟨_, rfl, ex_size T0 _ _⟩⟩
                · have p84 : IsS (a.tmps.getD 84 undef) 32 := hpre ⟨8, .data⟩ (by simp) rfl _ rfl
                  obtain ⟨s, e, hs⟩ := p84
                  exact step_bin rfl (met_none rfl) rfl e rfl (w' := wa) (add_str _ _ s _ (show s.size + 1 ≤ _ by omega) wa) ⟨_, rfl, Below.refl _ _, ⟨_, rfl, cat_size s _ 32 1 hs (Nat.le_refl _)⟩⟩
                · exact step_move rfl (met_none rfl) (.inl rfl) ⟨_, rfl, Below.refl _ _, q7⟩
                · exact step_move rfl (met_none rfl) (.inl rfl) ⟨_, rfl, Below.refl _ _, q8⟩
                · have p86 : a.tmps.getD 86 undef = .string T0 := hpre ⟨10, .data⟩ (by simp) rfl _ rfl
                  have p87 : a.tmps.getD 87 undef = .int .i64 i := hpre ⟨11, .data⟩ (by simp) rfl _ rfl
                  exact step_slice_lo rfl (met_none rfl) rfl p86 p87 (str_lo T0 i (by rw [hT0]; omega) wa) ⟨_, rfl, Below.refl _ _, ⟨_, rfl, ex_size T0 _ _⟩⟩
                · have p85 : IsS (a.tmps.getD 85 undef) 33 := hpre ⟨9, .data⟩ (by simp) rfl _ rfl
                  have p88 : IsS (a.tmps.getD 88 undef) 32 := hpre ⟨12, .data⟩ (by simp) rfl _ rfl
                  obtain ⟨s, e, hs⟩ := p85
                  obtain ⟨s2, e2, hs2⟩ := p88
                  exact step_bin rfl (met_none rfl) rfl e e2 (w' := wa) (add_str _ _ s s2 (by omega) wa) ⟨_, rfl, Below.refl _ _, ⟨_, rfl, cat_size s s2 33 32 hs hs2⟩⟩
                · exact step_move rfl (met_none rfl) (.inl rfl) ⟨_, rfl, Below.refl _ _, q7⟩
                · exact step_move rfl (met_none rfl) (.inl rfl) ⟨_, rfl, Below.refl _ _, q8⟩
                · have p91 : a.tmps.getD 91 undef = .int .i64 i := hpre ⟨15, .data⟩ (by simp) rfl _ rfl
                  exact step_bin rfl (met_none rfl) rfl p91 rfl (r := .int .i64 ((i : Int) - 1)) (w' := wa) (by simp [go_sem, w64]) ⟨_, rfl, Below.refl _ _, rfl⟩
                · have p92 : a.tmps.getD 92 undef = .int .i64 ((i : Int) - 1) := hpre ⟨16, .data⟩ (by simp) rfl _ rfl
                  exact step_run rfl (met_none rfl) (v := .int .i64 ((i - 1 : Nat) : Int)) (w' := wa) (by simp [execOp, resolve, p92, go_sem]; omega) ⟨_, rfl, Below.refl _ _, rfl⟩
                · have p90 : a.tmps.getD 90 undef = .string T0 := hpre ⟨14, .data⟩ (by simp) rfl _ rfl
                  have p93 : a.tmps.getD 93 undef = .int .i64 ((i - 1 : Nat) : Int) := hpre ⟨17, .data⟩ (by simp) rfl _ rfl
                  exact step_slice_hi rfl (met_none rfl) rfl p90 p93 (str_hi T0 (i - 1) (by rw [hT0]; omega) wa) ⟨_, rfl, Below.refl _ _, ⟨_, rfl, ex_size T0 _ _⟩⟩
                · have p94 : IsS (a.tmps.getD 94 undef) 32 := hpre ⟨18, .data⟩ (by simp) rfl _ rfl
                  obtain ⟨s, e, hs⟩ := p94
                  exact step_bin rfl (met_none rfl) rfl e rfl (w' := wa) (add_str _ _ s _ (show s.size + 1 ≤ _ by omega) wa) ⟨_, rfl, Below.refl _ _, ⟨_, rfl, cat_size s _ 32 1 hs (Nat.le_refl _)⟩⟩
                · exact step_move rfl (met_none rfl) (.inl rfl) ⟨_, rfl, Below.refl _ _, q7⟩
                · exact step_move rfl (met_none rfl) (.inl rfl) ⟨_, rfl, Below.refl _ _, q8⟩
                · have p96 : a.tmps.getD 96 undef = .string T0 := hpre ⟨20, .data⟩ (by simp) rfl _ rfl
                  have p97 : a.tmps.getD 97 undef = .int .i64 i := hpre ⟨21, .data⟩ (by simp) rfl _ rfl
                  exact step_slice_lo rfl (met_none rfl) rfl p96 p97 (str_lo T0 i (by rw [hT0]; omega) wa) ⟨_, rfl, Below.refl _ _, ⟨_, rfl, ex_size T0 _ _⟩⟩
                · have p95 : IsS (a.tmps.getD 95 undef) 33 := hpre ⟨19, .data⟩ (by simp) rfl _ rfl
                  have p98 : IsS (a.tmps.getD 98 undef) 32 := hpre ⟨22, .data⟩ (by simp) rfl _ rfl
                  obtain ⟨s, e, hs⟩ := p95
                  obtain ⟨s2, e2, hs2⟩ := p98
                  exact step_bin rfl (met_none rfl) rfl e e2 (w' := wa) (add_str _ _ s s2 (by omega) wa) ⟨_, rfl, Below.refl _ _, ⟨_, rfl, cat_size s s2 33 32 hs hs2⟩⟩
                · exact step_move rfl (met_none rfl) (.inl rfl) ⟨_, rfl, Below.refl _ _, q7⟩
                · exact step_move rfl (met_none rfl) (.inl rfl) ⟨_, rfl, Below.refl _ _, q8⟩
                · have p101 : a.tmps.getD 101 undef = .int .i64 i := hpre ⟨25, .data⟩ (by simp) rfl _ rfl
                  exact step_bin rfl (met_none rfl) rfl p101 rfl (r := .int .i64 ((i : Int) - 1)) (w' := wa) (by simp [go_sem, w64]) ⟨_, rfl, Below.refl _ _, rfl⟩
                · have p102 : a.tmps.getD 102 undef = .int .i64 ((i : Int) - 1) := hpre ⟨26, .data⟩ (by simp) rfl _ rfl
                  exact step_run rfl (met_none rfl) (v := .int .i64 ((i - 1 : Nat) : Int)) (w' := wa) (by simp [execOp, resolve, p102, go_sem]; omega) ⟨_, rfl, Below.refl _ _, rfl⟩
                · have p100 : a.tmps.getD 100 undef = .string T0 := hpre ⟨24, .data⟩ (by simp) rfl _ rfl
                  have p103 : a.tmps.getD 103 undef = .int .i64 ((i - 1 : Nat) : Int) := hpre ⟨27, .data⟩ (by simp) rfl _ rfl
                  exact step_slice_hi rfl (met_none rfl) rfl p100 p103 (str_hi T0 (i - 1) (by rw [hT0]; omega) wa) ⟨_, rfl, Below.refl _ _, ⟨_, rfl, ex_size T0 _ _⟩⟩
                · have p104 : IsS (a.tmps.getD 104 undef) 32 := hpre ⟨28, .data⟩ (by simp) rfl _ rfl
                  obtain ⟨s, e, hs⟩ := p104
                  exact step_bin rfl (met_none rfl) rfl e rfl (w' := wa) (add_str _ _ s _ (show s.size + 1 ≤ _ by omega) wa) ⟨_, rfl, Below.refl _ _, ⟨_, rfl, cat_size s _ 32 1 hs (Nat.le_refl _)⟩⟩
                · exact step_move rfl (met_none rfl) (.inl rfl) ⟨_, rfl, Below.refl _ _, q7⟩
                · exact step_move rfl (met_none rfl) (.inl rfl) ⟨_, rfl, Below.refl _ _, q8⟩
                · have p106 : a.tmps.getD 106 undef = .string T0 := hpre ⟨30, .data⟩ (by simp) rfl _ rfl
                  have p107 : a.tmps.getD 107 undef = .int .i64 i := hpre ⟨31, .data⟩ (by simp) rfl _ rfl
                  exact step_slice_lo rfl (met_none rfl) rfl p106 p107 (str_lo T0 i (by rw [hT0]; omega) wa) ⟨_, rfl, Below.refl _ _, ⟨_, rfl, ex_size T0 _ _⟩⟩
                · have p105 : IsS (a.tmps.getD 105 undef) 33 := hpre ⟨29, .data⟩ (by simp) rfl _ rfl
                  have p108 : IsS (a.tmps.getD 108 undef) 32 := hpre ⟨32, .data⟩ (by simp) rfl _ rfl
                  obtain ⟨s, e, hs⟩ := p105
                  obtain ⟨s2, e2, hs2⟩ := p108
                  exact step_bin rfl (met_none rfl) rfl e e2 (w' := wa) (add_str _ _ s s2 (by omega) wa) ⟨_, rfl, Below.refl _ _, ⟨_, rfl, cat_size s s2 33 32 hs hs2⟩⟩
                · exact step_move rfl (met_none rfl) (.inl rfl) ⟨_, rfl, Below.refl _ _, q7⟩
                · exact step_move rfl (met_none rfl) (.inl rfl) ⟨_, rfl, Below.refl _ _, q8⟩
                · have p111 : a.tmps.getD 111 undef = .int .i64 i := hpre ⟨35, .data⟩ (by simp) rfl _ rfl
                  exact step_bin rfl (met_none rfl) rfl p111 rfl (r := .int .i64 ((i : Int) - 1)) (w' := wa) (by simp [go_sem, w64]) ⟨_, rfl, Below.refl _ _, rfl⟩
                · have p112 : a.tmps.getD 112 undef = .int .i64 ((i : Int) - 1) := hpre ⟨36, .data⟩ (by simp) rfl _ rfl
                  exact step_run rfl (met_none rfl) (v := .int .i64 ((i - 1 : Nat) : Int)) (w' := wa) (by simp [execOp, resolve, p112, go_sem]; omega) ⟨_, rfl, Below.refl _ _, rfl⟩
                · have p110 : a.tmps.getD 110 undef = .string T0 := hpre ⟨34, .data⟩ (by simp) rfl _ rfl
                  have p113 : a.tmps.getD 113 undef = .int .i64 ((i - 1 : Nat) : Int) := hpre ⟨37, .data⟩ (by simp) rfl _ rfl
                  exact step_slice_hi rfl (met_none rfl) rfl p110 p113 (str_hi T0 (i - 1) (by rw [hT0]; omega) wa) ⟨_, rfl, Below.refl _ _, ⟨_, rfl, ex_size T0 _ _⟩⟩
                · have p114 : IsS (a.tmps.getD 114 undef) 32 := hpre ⟨38, .data⟩ (by simp) rfl _ rfl
                  obtain ⟨s, e, hs⟩ := p114
                  exact step_bin rfl (met_none rfl) rfl e rfl (w' := wa) (add_str _ _ s _ (show s.size + 1 ≤ _ by omega) wa) ⟨_, rfl, Below.refl _ _, ⟨_, rfl, cat_size s _ 32 1 hs (Nat.le_refl _)⟩⟩
                · exact step_move rfl (met_none rfl) (.inl rfl) ⟨_, rfl, Below.refl _ _, q7⟩
                · exact step_move rfl (met_none rfl) (.inl rfl) ⟨_, rfl, Below.refl _ _, q8⟩
                · have p116 : a.tmps.getD 116 undef = .string T0 := hpre ⟨40, .data⟩ (by simp) rfl _ rfl
                  have p117 : a.tmps.getD 117 undef = .int .i64 i := hpre ⟨41, .data⟩ (by simp) rfl _ rfl
                  exact step_slice_lo rfl (met_none rfl) rfl p116 p117 (str_lo T0 i (by rw [hT0]; omega) wa) ⟨_, rfl, Below.refl _ _, ⟨_, rfl, ex_size T0 _ _⟩⟩
                · have p115 : IsS (a.tmps.getD 115 undef) 33 := hpre ⟨39, .data⟩ (by simp) rfl _ rfl
                  have p118 : IsS (a.tmps.getD 118 undef) 32 := hpre ⟨42, .data⟩ (by simp) rfl _ rfl
                  obtain ⟨s, e, hs⟩ := p115
                  obtain ⟨s2, e2, hs2⟩ := p118
                  exact step_bin rfl (met_none rfl) rfl e e2 (w' := wa) (add_str _ _ s s2 (by omega) wa) ⟨_, rfl, Below.refl _ _, ⟨_, rfl, cat_size s s2 33 32 hs hs2⟩⟩
                · exact step_move rfl (met_none rfl) (.inl rfl) ⟨_, rfl, Below.refl _ _, q7⟩
                · exact step_move rfl (met_none rfl) (.inl rfl) ⟨_, rfl, Below.refl _ _, q8⟩
                · have p121 : a.tmps.getD 121 undef = .int .i64 i := hpre ⟨45, .data⟩ (by simp) rfl _ rfl
                  exact step_bin rfl (met_none rfl) rfl p121 rfl (r := .int .i64 ((i : Int) - 1)) (w' := wa) (by simp [go_sem, w64]) ⟨_, rfl, Below.refl _ _, rfl⟩
                · have p122 : a.tmps.getD 122 undef = .int .i64 ((i : Int) - 1) := hpre ⟨46, .data⟩ (by simp) rfl _ rfl
                  exact step_run rfl (met_none rfl) (v := .int .i64 ((i - 1 : Nat) : Int)) (w' := wa) (by simp [execOp, resolve, p122, go_sem]; omega) ⟨_, rfl, Below.refl _ _, rfl⟩
                · have p120 : a.tmps.getD 120 undef = .string T0 := hpre ⟨44, .data⟩ (by simp) rfl _ rfl
                  have p123 : a.tmps.getD 123 undef = .int .i64 ((i - 1 : Nat) : Int) := hpre ⟨47, .data⟩ (by simp) rfl _ rfl
                  exact step_slice_hi rfl (met_none rfl) rfl p120 p123 (str_hi T0 (i - 1) (by rw [hT0]; omega) wa) ⟨_, rfl, Below.refl _ _, ⟨_, rfl, ex_size T0 _ _⟩⟩
                · have p124 : IsS (a.tmps.getD 124 undef) 32 := hpre ⟨48, .data⟩ (by simp) rfl _ rfl
                  obtain ⟨s, e, hs⟩ := p124
                  exact step_bin rfl (met_none rfl) rfl e rfl (w' := wa) (add_str _ _ s _ (show s.size + 1 ≤ _ by omega) wa) ⟨_, rfl, Below.refl _ _, ⟨_, rfl, cat_size s _ 32 1 hs (Nat.le_refl _)⟩⟩
                · exact step_move rfl (met_none rfl) (.inl rfl) ⟨_, rfl, Below.refl _ _, q7⟩
                · exact step_move rfl (met_none rfl) (.inl rfl) ⟨_, rfl, Below.refl _ _, q8⟩
                · have p126 : a.tmps.getD 126 undef = .string T0 := hpre ⟨50, .data⟩ (by simp) rfl _ rfl
                  have p127 : a.tmps.getD 127 undef = .int .i64 i := hpre ⟨51, .data⟩ (by simp) rfl _ rfl
                  exact step_slice_lo rfl (met_none rfl) rfl p126 p127 (str_lo T0 i (by rw [hT0]; omega) wa) ⟨_, rfl, Below.refl _ _, ⟨_, rfl, ex_size T0 _ _⟩⟩
                · have p125 : IsS (a.tmps.getD 125 undef) 33 := hpre ⟨49, .data⟩ (by simp) rfl _ rfl
                  have p128 : IsS (a.tmps.getD 128 undef) 32 := hpre ⟨52, .data⟩ (by simp) rfl _ rfl
                  obtain ⟨s, e, hs⟩ := p125
                  obtain ⟨s2, e2, hs2⟩ := p128
                  exact step_bin rfl (met_none rfl) rfl e e2 (w' := wa) (add_str _ _ s s2 (by omega) wa) ⟨_, rfl, Below.refl _ _, ⟨_, rfl, cat_size s s2 33 32 hs hs2⟩⟩
                · have p78 : IsS (a.tmps.getD 78 undef) 32 := hpre ⟨2, .data⟩ (by simp) rfl _ rfl
                  have p81 : IsS (a.tmps.getD 81 undef) 32 := hpre ⟨5, .data⟩ (by simp) rfl _ rfl
                  have p89 : IsS (a.tmps.getD 89 undef) 65 := hpre ⟨13, .data⟩ (by simp) rfl _ rfl
                  have p99 : IsS (a.tmps.getD 99 undef) 65 := hpre ⟨23, .data⟩ (by simp) rfl _ rfl
                  have p109 : IsS (a.tmps.getD 109 undef) 65 := hpre ⟨33, .data⟩ (by simp) rfl _ rfl
                  have p119 : IsS (a.tmps.getD 119 undef) 65 := hpre ⟨43, .data⟩ (by simp) rfl _ rfl
                  have p129 : IsS (a.tmps.getD 129 undef) 65 := hpre ⟨53, .data⟩ (by simp) rfl _ rfl
                  obtain ⟨s0, e0, k0⟩ := p78
                  obtain ⟨s1, e1, k1⟩ := p81
                  obtain ⟨s2, e2, k2⟩ := p89
                  obtain ⟨s3, e3, k3⟩ := p99
                  obtain ⟨s4, e4, k4⟩ := p109
                  obtain ⟨s5, e5, k5⟩ := p119
                  obtain ⟨s6, e6, k6⟩ := p129
                  exact step_run rfl (met_none rfl) (v := .slice (some ⟨wa.heap.size, 0, none⟩) 7 7) (w' := wa.alloc (.cells #[.string s0, .string s1, .string s2, .string s3, .string s4, .string s5, .string s6] 9)) (by simp only [Array.getD_eq_getD_getElem?] at e0 e1 e2 e3 e4 e5 e6; simp [execOp, e0, e1, e2, e3, e4, e5, e6, go_sem]) ⟨_, rfl, (Below.refl _ _).alloc (Nat.le_refl _) _, ⟨_, rfl, strs_cells wa s0 s1 s2 s3 s4 s5 s6 (by omega) (by omega) (by omega) (by omega) (by omega) (by omega) (by omega) _ _⟩⟩
                · have p130 : (∃ b, (a.tmps.getD 130 undef) = .slice (some ⟨b, 0, none⟩) 7 7 ∧ Strs b wa) := hpre ⟨54, .data⟩ (by simp) rfl _ rfl
                  obtain ⟨b, e, hb⟩ := p130
                  exact step_len_slice Tryd.underlying65 rfl (met_none rfl) rfl e ⟨_, rfl, Below.refl _ _, rfl⟩
                · exact step_move rfl (met_none rfl) (.inl rfl) ⟨_, rfl, Below.refl _ _, rfl⟩
              · intro a wa hba hF ha
                have f0 : a.tmps.getD 76 undef = .string T0 := hF 0 _ rfl
                have f1 : a.tmps.getD 77 undef = .int .i64 i := hF 1 _ rfl
                have f2 : IsS (a.tmps.getD 78 undef) 32 := hF 2 _ rfl
                have f3 : a.tmps.getD 79 undef = .string T0 := hF 3 _ rfl
                have f4 : a.tmps.getD 80 undef = .int .i64 i := hF 4 _ rfl
                have f5 : IsS (a.tmps.getD 81 undef) 32 := hF 5 _ rfl
                have f6 : a.tmps.getD 82 undef = .string T0 := hF 6 _ rfl
                have f7 : a.tmps.getD 83 undef = .int .i64 i := hF 7 _ rfl
                have f8 : IsS (a.tmps.getD 84 undef) 32 := hF 8 _ rfl
                have f9 : IsS (a.tmps.getD 85 undef) 33 := hF 9 _ rfl
                have f10 : a.tmps.getD 86 undef = .string T0 := hF 10 _ rfl
                have f11 : a.tmps.getD 87 undef = .int .i64 i := hF 11 _ rfl
                have f12 : IsS (a.tmps.getD 88 undef) 32 := hF 12 _ rfl
                have f13 : IsS (a.tmps.getD 89 undef) 65 := hF 13 _ rfl
                have f14 : a.tmps.getD 90 undef = .string T0 := hF 14 _ rfl
                have f15 : a.tmps.getD 91 undef = .int .i64 i := hF 15 _ rfl
                have f16 : a.tmps.getD 92 undef = .int .i64 ((i : Int) - 1) := hF 16 _ rfl
                have f17 : a.tmps.getD 93 undef = .int .i64 ((i - 1 : Nat) : Int) := hF 17 _ rfl
                have f18 : IsS (a.tmps.getD 94 undef) 32 := hF 18 _ rfl
                have f19 : IsS (a.tmps.getD 95 undef) 33 := hF 19 _ rfl
                have f20 : a.tmps.getD 96 undef = .string T0 := hF 20 _ rfl
                have f21 : a.tmps.getD 97 undef = .int .i64 i := hF 21 _ rfl
                have f22 : IsS (a.tmps.getD 98 undef) 32 := hF 22 _ rfl
                have f23 : IsS (a.tmps.getD 99 undef) 65 := hF 23 _ rfl
                have f24 : a.tmps.getD 100 undef = .string T0 := hF 24 _ rfl
                have f25 : a.tmps.getD 101 undef = .int .i64 i := hF 25 _ rfl
                have f26 : a.tmps.getD 102 undef = .int .i64 ((i : Int) - 1) := hF 26 _ rfl
                have f27 : a.tmps.getD 103 undef = .int .i64 ((i - 1 : Nat) : Int) := hF 27 _ rfl
                have f28 : IsS (a.tmps.getD 104 undef) 32 := hF 28 _ rfl
                have f29 : IsS (a.tmps.getD 105 undef) 33 := hF 29 _ rfl
                have f30 : a.tmps.getD 106 undef = .string T0 := hF 30 _ rfl
                have f31 : a.tmps.getD 107 undef = .int .i64 i := hF 31 _ rfl
                have f32 : IsS (a.tmps.getD 108 undef) 32 := hF 32 _ rfl
                have f33 : IsS (a.tmps.getD 109 undef) 65 := hF 33 _ rfl
                have f34 : a.tmps.getD 110 undef = .string T0 := hF 34 _ rfl
                have f35 : a.tmps.getD 111 undef = .int .i64 i := hF 35 _ rfl
                have f36 : a.tmps.getD 112 undef = .int .i64 ((i : Int) - 1) := hF 36 _ rfl
                have f37 : a.tmps.getD 113 undef = .int .i64 ((i - 1 : Nat) : Int) := hF 37 _ rfl
                have f38 : IsS (a.tmps.getD 114 undef) 32 := hF 38 _ rfl
                have f39 : IsS (a.tmps.getD 115 undef) 33 := hF 39 _ rfl
                have f40 : a.tmps.getD 116 undef = .string T0 := hF 40 _ rfl
                have f41 : a.tmps.getD 117 undef = .int .i64 i := hF 41 _ rfl
                have f42 : IsS (a.tmps.getD 118 undef) 32 := hF 42 _ rfl
                have f43 : IsS (a.tmps.getD 119 undef) 65 := hF 43 _ rfl
                have f44 : a.tmps.getD 120 undef = .string T0 := hF 44 _ rfl
                have f45 : a.tmps.getD 121 undef = .int .i64 i := hF 45 _ rfl
                have f46 : a.tmps.getD 122 undef = .int .i64 ((i : Int) - 1) := hF 46 _ rfl
                have f47 : a.tmps.getD 123 undef = .int .i64 ((i - 1 : Nat) : Int) := hF 47 _ rfl
                have f48 : IsS (a.tmps.getD 124 undef) 32 := hF 48 _ rfl
                have f49 : IsS (a.tmps.getD 125 undef) 33 := hF 49 _ rfl
                have f50 : a.tmps.getD 126 undef = .string T0 := hF 50 _ rfl
                have f51 : a.tmps.getD 127 undef = .int .i64 i := hF 51 _ rfl
                have f52 : IsS (a.tmps.getD 128 undef) 32 := hF 52 _ rfl
                have f53 : IsS (a.tmps.getD 129 undef) 65 := hF 53 _ rfl
                have f54 : (∃ b, (a.tmps.getD 130 undef) = .slice (some ⟨b, 0, none⟩) 7 7 ∧ Strs b wa) := hF 54 _ rfl
                have f55 : a.tmps.getD 131 undef = .int .i64 7 := hF 55 _ rfl
                have f56 : a.tmps.getD 132 undef = .int .i64 0 := hF 56 _ rfl
                clear hF
                obtain ⟨fv2, hu2⟩ : ∃ u, u = a.tmps.getD 78 undef := ⟨_, rfl⟩
                rw [← hu2] at f2
                obtain ⟨fv5, hu5⟩ : ∃ u, u = a.tmps.getD 81 undef := ⟨_, rfl⟩
                rw [← hu5] at f5
                obtain ⟨fv8, hu8⟩ : ∃ u, u = a.tmps.getD 84 undef := ⟨_, rfl⟩
                rw [← hu8] at f8
                obtain ⟨fv9, hu9⟩ : ∃ u, u = a.tmps.getD 85 undef := ⟨_, rfl⟩
                rw [← hu9] at f9
                obtain ⟨fv12, hu12⟩ : ∃ u, u = a.tmps.getD 88 undef := ⟨_, rfl⟩
                rw [← hu12] at f12
                obtain ⟨fv13, hu13⟩ : ∃ u, u = a.tmps.getD 89 undef := ⟨_, rfl⟩
                rw [← hu13] at f13
                obtain ⟨fv18, hu18⟩ : ∃ u, u = a.tmps.getD 94 undef := ⟨_, rfl⟩
                rw [← hu18] at f18
                obtain ⟨fv19, hu19⟩ : ∃ u, u = a.tmps.getD 95 undef := ⟨_, rfl⟩
                rw [← hu19] at f19
                obtain ⟨fv22, hu22⟩ : ∃ u, u = a.tmps.getD 98 undef := ⟨_, rfl⟩
                rw [← hu22] at f22
                obtain ⟨fv23, hu23⟩ : ∃ u, u = a.tmps.getD 99 undef := ⟨_, rfl⟩
                rw [← hu23] at f23
                obtain ⟨fv28, hu28⟩ : ∃ u, u = a.tmps.getD 104 undef := ⟨_, rfl⟩
                rw [← hu28] at f28
                obtain ⟨fv29, hu29⟩ : ∃ u, u = a.tmps.getD 105 undef := ⟨_, rfl⟩
                rw [← hu29] at f29
                obtain ⟨fv32, hu32⟩ : ∃ u, u = a.tmps.getD 108 undef := ⟨_, rfl⟩
                rw [← hu32] at f32
                obtain ⟨fv33, hu33⟩ : ∃ u, u = a.tmps.getD 109 undef := ⟨_, rfl⟩
                rw [← hu33] at f33
                obtain ⟨fv38, hu38⟩ : ∃ u, u = a.tmps.getD 114 undef := ⟨_, rfl⟩
                rw [← hu38] at f38
                obtain ⟨fv39, hu39⟩ : ∃ u, u = a.tmps.getD 115 undef := ⟨_, rfl⟩
                rw [← hu39] at f39
                obtain ⟨fv42, hu42⟩ : ∃ u, u = a.tmps.getD 118 undef := ⟨_, rfl⟩
                rw [← hu42] at f42
                obtain ⟨fv43, hu43⟩ : ∃ u, u = a.tmps.getD 119 undef := ⟨_, rfl⟩
                rw [← hu43] at f43
                obtain ⟨fv48, hu48⟩ : ∃ u, u = a.tmps.getD 124 undef := ⟨_, rfl⟩
                rw [← hu48] at f48
                obtain ⟨fv49, hu49⟩ : ∃ u, u = a.tmps.getD 125 undef := ⟨_, rfl⟩
                rw [← hu49] at f49
                obtain ⟨fv52, hu52⟩ : ∃ u, u = a.tmps.getD 128 undef := ⟨_, rfl⟩
                rw [← hu52] at f52
                obtain ⟨fv53, hu53⟩ : ∃ u, u = a.tmps.getD 129 undef := ⟨_, rfl⟩
                rw [← hu53] at f53
                obtain ⟨fv54, hu54⟩ : ∃ u, u = a.tmps.getD 130 undef := ⟨_, rfl⟩
                rw [← hu54] at f54
                simp only [List.foldl, fillFrom, f0, f1, ← hu2, f3, f4, ← hu5, f6, f7, ← hu8, ← hu9, f10, f11, ← hu12, ← hu13, f14, f15, f16, f17, ← hu18, ← hu19, f20, f21, ← hu22, ← hu23, f24, f25, f26, f27, ← hu28, ← hu29, f30, f31, ← hu32, ← hu33, f34, f35, f36, f37, ← hu38, ← hu39, f40, f41, ← hu42, ← hu43, f44, f45, f46, f47, ← hu48, ← hu49, f50, f51, ← hu52, ← hu53, ← hu54, f55, f56] at ha
                clear f0 f1 f3 f4 f6 f7 f10 f11 f14 f15 f16 f17 f20 f21 f24 f25 f26 f27 f30 f31 f34 f35 f36 f37 f40 f41 f44 f45 f46 f47 f50 f51 f55 f56 hu2 hu5 hu8 hu9 hu12 hu13 hu18 hu19 hu22 hu23 hu28 hu29 hu32 hu33 hu38 hu39 hu42 hu43 hu48 hu49 hu52 hu53 hu54
                subst ha
                simp only [Act.put, List.setIfInBounds_toArray, List.set_cons_succ, List.set_cons_zero]
                obtain ⟨b7, rfl, S7⟩ := f54
                replace S7 := Lib.hid S7
                replace B0 := Lib.hid (B0.out.trans (hba.mono B0.out.size))
                clear f2 f5 f8 f9 f12 f13 f18 f19 f22 f23 f28 f29 f32 f33 f38 f39 f42 f43 f48 f49 f52 f53 hba
                go_wp2_with fail
                go_loopg [132] 7 (fun gj s132 wx => ∃ (j : Nat), j + gj = 7 ∧ s132 = .int .i64 j ∧ Hid (Strs b7 wx) ∧ Hid (Below w.heap.size w wx))
                case atStart => exact ⟨0, by omega, rfl, S7, B0⟩
                case round =>
                  clear S7 B0
                  obtain ⟨j, hj, rfl, S7, B0⟩ := hrel
                  by_cases hlj : j < 7
                  · have t2 : decide (j < 7) = true := decide_eq_true hlj
                    have q8 : (i : Int) % 256 = i := by omega
                    obtain ⟨s, hc, hs⟩ := S7.out.2 j hlj
                    go_wp2_with fail
                    refine (texts_c i (by omega) s (by omega) _).mono ?_; rintro e w4 ⟨rfl, hb⟩
                    replace S7 := Lib.hid (S7.out.on hb)
                    replace B0 := Lib.hid (B0.out.trans (hb.mono B0.out.size))
                    clear hb hc
                    go_wp2_with fail
                    go_roundg (gk - 1)
                    case measure => omega
                    case rel => exact ⟨j + 1, by omega, rfl, S7, B0⟩
                  · obtain rfl : j = 7 := by omega
                    have t2 : decide (7 < 7) = false := rfl
                    go_wp2_with fail
                    go_roundg (33 - (i + 1))
                    case measure => omega
                    case rel => exact ⟨i + 1, by omega, rfl, B0⟩
            · obtain rfl : i = 33 := by omega
              have t1 : decide (33 < 33) = false := rfl
              go_wp2_with fail
              go_meet
              exact B0
        case rest =>
          replace B0 := hcut
          clear hcut
          go_upto_block 10 with (fail)
          show Code.wp _ _ _ _ ((wc.alloc digZ).alloc (.cells #[.pointer none, .pointer (some ⟨wc.heap.size, 0, none⟩)] 52))
          have S0 : Hid (Digs wc.heap.size (wc.heap.size + 1) ((wc.alloc digZ).alloc (.cells #[.pointer none, .pointer (some ⟨wc.heap.size, 0, none⟩)] 52))) := digs_cells wc
          replace B0 := Lib.hid (B0.out.trans ((((Below.refl wc.heap.size wc).alloc (Nat.le_refl _) digZ).alloc (by simp) (.cells #[.pointer none, .pointer (some ⟨wc.heap.size, 0, none⟩)] 52)).mono B0.out.size))
          go_cut [148] (fun _ wx => Hid (Below w.heap.size w wx))
          case first =>
            generalize (wc.alloc digZ).alloc (.cells #[.pointer none, .pointer (some ⟨wc.heap.size, 0, none⟩)] 52) = w3 at S0 B0 ⊢
            go_wp2_with fail
            go_loopg [148] 2 (fun g s148 wx => ∃ (i : Nat), i + g = 2 ∧ s148 = .int .i64 i ∧ Hid (Digs wc.heap.size (wc.heap.size + 1) wx) ∧ Hid (Below w.heap.size w wx))
            case atStart => exact ⟨0, by omega, rfl, S0, B0⟩
            case round =>
              clear B0 S0
              obtain ⟨i, hi, rfl, S0, B0⟩ := hrel
              by_cases hlt : i < 2
              · have t1 : decide (i < 2) = true := decide_eq_true hlt
                obtain ⟨p, hc, hp⟩ := S0.out.2 i hlt
                have hlz : wc.heap.size < wr.heap.size := by have := S0.out.1; omega
                replace hp := Lib.hid hp
                go_wp2_with fail
                refine (dsum_no wr p (fun W hb => dig_no hlz hp.out hb)).mono ?_; rintro e w4 ⟨rfl, hb⟩
                replace S0 := Lib.hid (S0.out.on hb)
                replace B0 := Lib.hid (B0.out.trans (hb.mono B0.out.size))
                have hn := Lib.hid (fun (W : World) (h : Below w4.heap.size w4 W) => dig_no hlz hp.out (hb.trans (h.mono hb.size)))
                clear hb hc hp hlz
                go_wp2_with fail
                refine (write_no _ p _ (hn.out _ ((Below.refl _ _).alloc (Nat.le_refl _) _))).mono ?_; rintro e w5 ⟨rfl, rfl⟩
                go_wp2_with fail
                refine (reset_no _ p (hn.out _ ((Below.refl _ _).alloc (Nat.le_refl _) _))).mono ?_; rintro e w5 ⟨rfl, rfl⟩
                go_wp2_with fail
                refine (len_no _ p (hn.out _ ((Below.refl _ _).alloc (Nat.le_refl _) _))).mono ?_; rintro e w5 ⟨rfl, rfl⟩
                go_wp2_with fail
                go_roundg (gk - 1)
                case measure => omega
                case rel => exact ⟨i + 1, by omega, rfl, S0.out.on ((Below.refl _ _).alloc (Nat.le_refl _) _), B0.out.alloc B0.out.size _⟩
              · obtain rfl : i = 2 := by omega
                have t1 : decide (2 < 2) = false := rfl
                go_wp2_with fail
                go_meet
                exact B0
          case rest =>
            replace B0 := hcut
            clear hcut S0
            go_wp2_with fail
            refine (awake_any _ (hT.out _ B0.out)).mono ?_; rintro e w4 ⟨rfl, hb⟩
            replace B0 := Lib.hid (B0.out.trans (hb.mono B0.out.size))
            clear hb
            go_wp2_with fail
            go_ret
            exact ⟨rfl, B0.out⟩
/-- The law Md5Small. -/
theorem md5Small_walk (w : World) (hT : Tabs w) : Calls Tryd.prog 12 #[] w fun e w' => e = .returned (.bool true) ∧ Below w.heap.size w w' := small_any w hT
end Go.Proofs.YtimiejahkcjcdaaDoor
