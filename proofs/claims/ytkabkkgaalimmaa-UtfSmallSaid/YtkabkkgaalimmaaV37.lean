/- The walk of the law UtfSmall. -/
import Derived.Test.YtkabkkgaalimmaaV35
namespace Go.Proofs.Ytkabkkgaalimmaa
open Go.RowKit Go.Shelf

theorem conv_one (W : World) (x : Int) (h0 : 0 ≤ x) (h1 : x < 256) : (convert 22 9 (.slice (some ⟨W.heap.size, 0, none⟩) 1 1)).run Try.prog (W.alloc (.cells #[.int .u8 x] 5)) = .ok (.string ⟨#[b8 x]⟩) (W.alloc (.cells #[.int .u8 x] 5)) :=
  conv_lit W (b8 x) x (b8_nat x h0 h1).symm
theorem ext_list {a b : ByteArray} (h : a.data.toList = b.data.toList) : a = b := by
  cases a; cases b
  congr 1
  exact Array.toList_inj.1 h
theorem zeros_conv {w : World} {base n : Nat} {v : Value} {lg : ByteArray} (h : w.ownsRow base 5 1 v n (madeCells (Value.int .u8 0).cells (n * 1)).toList) (hl : lg = ⟨(List.replicate n (0 : UInt8)).toArray⟩) : (convert 22 9 v).run Try.prog w = .ok (.string lg) w := by
  rw [hl]
  refine conv_owned (base := base) (n := n) Try.underlying22 Try.underlying5 Try.underlying9 ?_
  rw [show (Value.int .u8 0).cells = #[.int .u8 0] from rfl, toList_madeCells_one, Nat.mul_one] at h
  rw [List.map_replicate]
  exact h
theorem row_lit3 (w : World) (L : List Int) (n : Nat) (hn : L.length = n) (hpos : n ≤ 1000) : Row (w.alloc (.cells (L.map (Value.int .i64)).toArray 3)) (.slice (some ⟨w.heap.size, 0, none⟩) n n) (L.map (Value.int .i64)) := by
  subst hn
  refine .inr ⟨w.heap.size, 0, L.length, by simp, by simp, by simp, by unfold maxLen; omega, fun i hi => ?_⟩
  have hi' : i < L.length := by simpa using hi
  simp [World.cell?, World.alloc, -World.alloc_eq, hi']
theorem tx_size (x y : Int) (t : ByteArray) (e : Int) (h : txR [x, y] = (t, e)) : t.size ≤ 8 := by
  unfold txR at h
  split at h
  · obtain ⟨rfl, _⟩ := Prod.mk.inj h
    have := frms_hi [x, y]
    show (frms [x, y]).toArray.size ≤ 8
    simpa using this
  · obtain ⟨rfl, _⟩ := Prod.mk.inj h
    decide
set_option maxRecDepth 100000 in
set_option maxHeartbeats 4000000 in
theorem utfSmall_walk (w : World) : Calls Try.prog 12 #[] w fun e w' => e = .returned (.bool true) ∧ Below w.heap.size w w' := by
  go_enter Try.func12, Try.ntmps12
  go_upto_region 2 with (fail)
  have hS := Lib.hid (somes_mk w ⟨#[]⟩ ⟨#[0]⟩ ⟨#[65]⟩ ⟨#[127]⟩ ⟨#[128]⟩ ⟨#[143]⟩ ⟨#[144]⟩ ⟨#[159]⟩ ⟨#[160]⟩ ⟨#[191]⟩ ⟨#[192]⟩ ⟨#[255]⟩ (by decide))
  have hB : Below w.heap.size w (w.alloc (.cells #[.string ⟨#[]⟩, .string ⟨#[0]⟩, .string ⟨#[65]⟩, .string ⟨#[127]⟩, .string ⟨#[128]⟩, .string ⟨#[143]⟩, .string ⟨#[144]⟩, .string ⟨#[159]⟩, .string ⟨#[160]⟩, .string ⟨#[191]⟩, .string ⟨#[192]⟩, .string ⟨#[255]⟩] 9)) := (Below.refl _ w).alloc (Nat.le_refl _) _
  generalize w.alloc (.cells #[.string ⟨#[]⟩, .string ⟨#[0]⟩, .string ⟨#[65]⟩, .string ⟨#[127]⟩, .string ⟨#[128]⟩, .string ⟨#[143]⟩, .string ⟨#[144]⟩, .string ⟨#[159]⟩, .string ⟨#[160]⟩, .string ⟨#[191]⟩, .string ⟨#[192]⟩, .string ⟨#[255]⟩] 9) = W1 at hS hB ⊢
  go_wp2_with fail
  go_loopg [28] 256 (fun g s28 wr => ∃ k : Nat, k + g = 256 ∧ s28 = .int .i64 k ∧ Hid (Somes w.heap.size wr) ∧ Below w.heap.size w wr)
  case atStart => exact ⟨0, by omega, rfl, hS, hB⟩
  case round =>
    obtain ⟨k, hk, rfl, hS, hB⟩ := hrel
    by_cases hlt : k < 256
    · have t1 : decide ((k : Int) < 256) = true := decide_eq_true (by omega)
      have q1 := u8_wrap (k : Int) (by omega) (by omega)
      go_wp2_with fail
      go_loopg [33] 12 (fun g s33 wi => ∃ i : Nat, i + g = 12 ∧ s33 = .int .i64 i ∧ Hid (Somes w.heap.size wi) ∧ Below w.heap.size w wi)
      case atStart => exact ⟨0, by omega, rfl, hS, hB⟩
      case round =>
        obtain ⟨i, hi, rfl, hS, hB⟩ := hrel
        by_cases hlt2 : i < 12
        · have t2 : decide ((i : Int) < 12) = true := decide_eq_true (by omega)
          obtain ⟨ta, hca, hta⟩ := hS.out.2 i hlt2
          go_wp2_with fail
          clear hca
          go_loopg [39] 12 (fun g s39 wj => ∃ j : Nat, j + g = 12 ∧ s39 = .int .i64 j ∧ Hid (Somes w.heap.size wj) ∧ Below w.heap.size w wj)
          case atStart => exact ⟨0, by omega, rfl, hS, hB⟩
          case round =>
            obtain ⟨j, hj, rfl, hS, hB⟩ := hrel
            by_cases hlt3 : j < 12
            · have t3 : decide ((j : Int) < 12) = true := decide_eq_true (by omega)
              obtain ⟨tb, hcb, htb⟩ := hS.out.2 j hlt3
              by_cases hm : 0 < ((k : Int) + j) % 3
              · have t4 : decide (0 < ((k : Int) + j) % 3) = true := decide_eq_true hm
                go_wp2_with fail
                go_roundg (gk - 1)
                case measure => omega
                case rel => exact ⟨j + 1, by omega, by go_num, hS, hB⟩
              · have t4 : decide (0 < ((k : Int) + j) % 3) = false := decide_eq_false hm
                have kc := fun (W : World) => conv_one W (k : Int) (by omega) (by omega)
                obtain ⟨m, hm12⟩ := Int.eq_ofNat_of_zero_le (show 0 ≤ ((k : Int) + j) % 12 by omega)
                have hml : m < 12 := by omega
                have hab : (⟨#[b8 k]⟩ ++ ta ++ tb : ByteArray).size ≤ 3 := by rw [app_size, app_size]; show 1 + _ + _ ≤ 3; omega
                clear hcb
                have hcb := hS.out.2 j hlt3
                obtain ⟨tb', hcb, htb'⟩ := hcb
                go_wp2_with fail
                refine (reads_any _ _ _ _).mono ?_; rintro e w3 ⟨rfl, hB3⟩
                have hB3' := ((Below.refl _ _).alloc (Nat.le_refl _) (.cells #[.int .u8 (k : Int)] 5)).trans (hB3.mono (by simp))
                replace hS := Lib.hid (hS.out.on hB3')
                replace hB := on_trans hB hB3'
                clear hB3 hB3' kc hcb
                obtain ⟨tm, hcm, htm⟩ := hS.out.2 m hml
                go_wp2_with fail
                refine (reads_any _ _ _ _).mono ?_; rintro e w4 ⟨rfl, hB3⟩
                replace hS := Lib.hid (hS.out.on hB3)
                replace hB := on_trans hB hB3
                clear hB3 hcm
                go_wp2_with fail
                go_roundg (gk - 1)
                case measure => omega
                case rel => exact ⟨j + 1, by omega, by go_num, hS, hB⟩
            · have t3 : decide ((j : Int) < 12) = false := decide_eq_false (by omega)
              go_wp2_with fail
              go_roundg (12 - (i + 1))
              case measure => omega
              case rel => exact ⟨i + 1, by omega, by go_num, hS, hB⟩
        · have t2 : decide ((i : Int) < 12) = false := decide_eq_false (by omega)
          go_wp2_with fail
          go_roundg (256 - (k + 1))
          case measure => omega
          case rel => exact ⟨k + 1, by omega, by go_num, hS, hB⟩
    · have t1 : decide ((k : Int) < 256) = false := decide_eq_false (by omega)
      go_upto_region 19 with (fail)
      have hBr : Hid (Brd wr.heap.size 19 (wr.alloc (.cells #[.int .i64 (-9223372036854775808), .int .i64 (-1), .int .i64 0, .int .i64 1, .int .i64 127, .int .i64 128, .int .i64 2047, .int .i64 2048, .int .i64 55295, .int .i64 55296, .int .i64 56319, .int .i64 56320, .int .i64 57343, .int .i64 57344, .int .i64 65535, .int .i64 65536, .int .i64 1114111, .int .i64 1114112, .int .i64 9223372036854775807] 3))) := brd_mk wr [(-9223372036854775808), (-1), 0, 1, 127, 128, 2047, 2048, 55295, 55296, 56319, 56320, 57343, 57344, 65535, 65536, 1114111, 1114112, 9223372036854775807]
      have hB2 : Below wr.heap.size wr (wr.alloc (.cells #[.int .i64 (-9223372036854775808), .int .i64 (-1), .int .i64 0, .int .i64 1, .int .i64 127, .int .i64 128, .int .i64 2047, .int .i64 2048, .int .i64 55295, .int .i64 55296, .int .i64 56319, .int .i64 56320, .int .i64 57343, .int .i64 57344, .int .i64 65535, .int .i64 65536, .int .i64 1114111, .int .i64 1114112, .int .i64 9223372036854775807] 3)) := (Below.refl _ wr).alloc (Nat.le_refl _) _
      replace hB := on_trans hB hB2
      clear hB2 hS
      generalize wr.alloc (.cells #[.int .i64 (-9223372036854775808), .int .i64 (-1), .int .i64 0, .int .i64 1, .int .i64 127, .int .i64 128, .int .i64 2047, .int .i64 2048, .int .i64 55295, .int .i64 55296, .int .i64 56319, .int .i64 56320, .int .i64 57343, .int .i64 57344, .int .i64 65535, .int .i64 65536, .int .i64 1114111, .int .i64 1114112, .int .i64 9223372036854775807] 3) = W2 at hBr hB ⊢
      obtain ⟨bb, hbb⟩ : ∃ b, b = wr.heap.size := ⟨_, rfl⟩
      rw [← hbb] at hBr ⊢
      clear hbb
      go_wp2_with fail
      go_loopg [83] 19 (fun g s83 wr => ∃ k : Nat, k + g = 19 ∧ s83 = .int .i64 k ∧ Hid (Brd bb 19 wr) ∧ Below w.heap.size w wr)
      case atStart => exact ⟨0, by omega, rfl, hBr, hB⟩
      case round =>
        obtain ⟨k, hk, rfl, hS, hB⟩ := hrel
        by_cases hlt : k < 19
        · have t1 : decide ((k : Int) < 19) = true := decide_eq_true (by omega)
          obtain ⟨x, hcx⟩ := hS.out.2 k hlt
          go_wp2_with fail
          clear hcx
          go_loopg [89] 19 (fun g s89 wi => ∃ i : Nat, i + g = 19 ∧ s89 = .int .i64 i ∧ Hid (Brd bb 19 wi) ∧ Below w.heap.size w wi)
          case atStart => exact ⟨0, by omega, rfl, hS, hB⟩
          case round =>
            obtain ⟨i, hi, rfl, hS, hB⟩ := hrel
            by_cases hlt2 : i < 19
            · have t2 : decide ((i : Int) < 19) = true := decide_eq_true (by omega)
              obtain ⟨y, hcy⟩ := hS.out.2 i hlt2
              go_wp2_with fail
              clear hcy
              have hb12 : Row (wr.alloc (.cells #[.int .u8 1, .int .u8 2] 5)) (.slice (some ⟨wr.heap.size, 0, none⟩) 2 2) (([1, 2] : List UInt8).map enc8) := row_lit wr _ 2 rfl (by omega)
              refine (tells_any x y _ [1, 2] _ hb12).mono ?_; rintro e w3 ⟨rfl, hB3⟩
              have hB3' := ((Below.refl _ wr).alloc (Nat.le_refl _) (.cells #[.int .u8 1, .int .u8 2] 5)).trans (hB3.mono (by simp))
              replace hS := Lib.hid (hS.out.on hB3')
              replace hB := on_trans hB hB3'
              clear hB3 hB3' hb12
              go_wp2_with fail
              have hr3 : Row (w3.alloc (.cells #[.int .i64 x, .int .i64 y, .int .i64 65] 3)) (.slice (some ⟨w3.heap.size, 0, none⟩) 3 3) ([x, y, 65].map (Value.int .i64)) := row_lit3 w3 [x, y, 65] 3 rfl (by omega)
              refine (texts_any _ [x, y, 65] _ hr3).mono ?_; rintro e w4 ⟨rfl, hB3⟩
              have hB3' := ((Below.refl _ w3).alloc (Nat.le_refl _) (.cells #[.int .i64 x, .int .i64 y, .int .i64 65] 3)).trans (hB3.mono (by simp))
              replace hS := Lib.hid (hS.out.on hB3')
              replace hB := on_trans hB hB3'
              clear hB3 hB3' hr3
              go_wp2_with fail
              have hr3 : Row (w4.alloc (.cells #[.int .i64 x, .int .i64 y] 3)) (.slice (some ⟨w4.heap.size, 0, none⟩) 2 2) ([x, y].map (Value.int .i64)) := row_lit3 w4 [x, y] 2 rfl (by omega)
              obtain ⟨t, e0, hte⟩ : ∃ t e, Hid (txR [x, y] = (t, e)) := ⟨(txR [x, y]).1, (txR [x, y]).2, rfl⟩
              have hts : t.size ≤ 8 := tx_size x y t e0 hte.out
              refine (rtext_to _ [x, y] _ hr3 (by simp) t e0 hte.out).mono ?_; rintro e w5 ⟨rfl, hB3⟩
              have hB3' := ((Below.refl _ w4).alloc (Nat.le_refl _) (.cells #[.int .i64 x, .int .i64 y] 3)).trans (hB3.mono (by simp))
              replace hS := Lib.hid (hS.out.on hB3')
              replace hB := on_trans hB hB3'
              clear hB3 hB3' hr3 hte
              by_cases he0 : e0 = 0
              · subst he0
                go_wp2_with fail
                go_loopg [15] (t.size + 4) (fun g s15 wj => ∃ j : Int, -1 ≤ j ∧ j + g = t.size + 3 ∧ s15 = .int .i64 j ∧ Hid (Brd bb 19 wj) ∧ Below w.heap.size w wj)
                case atStart => exact ⟨-1, by omega, by omega, rfl, hS, hB⟩
                case round =>
                  obtain ⟨j, hj0, hj, rfl, hS, hB⟩ := hrel
                  by_cases hlt3 : j < (t.size : Int) + 2
                  · have t3 : decide (j < (t.size : Int) + 2) = true := decide_eq_true hlt3
                    go_wp2_with fail
                    refine (reads_any _ _ _ _).mono ?_; rintro e w6 ⟨rfl, hB3⟩
                    replace hS := Lib.hid (hS.out.on hB3)
                    replace hB := on_trans hB hB3
                    clear hB3
                    go_wp2_with fail
                    go_roundg (gk - 1)
                    case measure => omega
                    case rel => exact ⟨j + 1, by omega, by omega, rfl, hS, hB⟩
                  · have t3 : decide (j < (t.size : Int) + 2) = false := decide_eq_false hlt3
                    go_wp2_with fail
                    go_roundg (19 - (i + 1))
                    case measure => omega
                    case rel => exact ⟨i + 1, by omega, by go_num, hS, hB⟩
              · have t3 : (e0 == 0) = false := by simpa using he0
                go_wp2_with fail
                go_roundg (gk - 1)
                case measure => omega
                case rel => exact ⟨i + 1, by omega, by go_num, hS, hB⟩
            · have t2 : decide ((i : Int) < 19) = false := decide_eq_false (by omega)
              go_wp2_with fail
              go_roundg (19 - (k + 1))
              case measure => omega
              case rel => exact ⟨k + 1, by omega, by go_num, hS, hB⟩
        · have t1 : decide ((k : Int) < 19) = false := decide_eq_false (by omega)
          go_upto_region 36 with (fail)
          obtain ⟨inf, hi, hz0, hz1, hz2⟩ := info_parts info5
          obtain ⟨inf3, hi3, hz03, hz13, hz23⟩ := info_parts info3
          obtain ⟨n, hn⟩ : ∃ n : Nat, Hid (n = 1048576) := ⟨1048576, rfl⟩
          have hn1 : n ≤ 1048576 := Nat.le_of_eq hn.out
          have hn2 : 1048576 ≤ n := Nat.le_of_eq hn.out.symm
          obtain ⟨lg, hlg⟩ : ∃ s : ByteArray, s = ⟨(List.replicate n (0 : UInt8)).toArray⟩ := ⟨_, rfl⟩
          have hlgl : Hid (lg.data.toList = List.replicate n 0) := by show _ = _; rw [hlg]
          replace hlg := Lib.hid hlg
          obtain ⟨L, hL⟩ : ∃ L, Hid (L = List.replicate n (0 : Int)) := ⟨List.replicate n (0 : Int), rfl⟩
          have hLl : Hid (L.length = n) := by show _ = _; rw [hL.out, List.length_replicate]
          have hLp : Hid (∀ x ∈ L, isPt x) := fun x hx => pts_zeros n x (by rw [← hL.out]; exact hx)
          have hlgL : Hid (lg.data.toList = frms L) := by show _ = _; rw [hlgl.out, hL.out, frms_zeros]
          have hsz : Hid (lg.size = n) := by show _ = _; rw [size_list, hlgl.out, List.length_replicate]
          have hszb : lg.size ≤ 1048576 := by have := hsz.out; omega
          have hsza : (1 : Int) ≤ lg.size := by have := hsz.out; omega
          obtain ⟨hpr, hrg⟩ := ptR_of lg L hLp.out hlgL.out hszb
          obtain ⟨c, hc⟩ : ∃ c, Hid (c = lg.extract 0 1048575) := ⟨lg.extract 0 1048575, rfl⟩
          have hcut : ctR lg 1048575 = (c, 0) := by
            rw [ctR_of lg L hLp.out hlgL.out hszb 1048575 (by omega), hc.out, hL.out]
            rw [show cutk 1048575 (List.replicate n 0) 0 = 1048575 from cutk_zeros 1048575 n 0 (by omega) (by omega)]
          have hc1 : lg.extract 1 lg.size = c := by
            rw [hc.out]
            apply ext_list
            rw [extract_list, extract_list, hlgl.out, hsz.out]
            simp only [List.drop_replicate, List.take_replicate]
            congr 1
            omega
          have hstr : strOf L = lg := by
            apply ext_list
            rw [strOf_list, hlgL.out]
          have htx := txR_of L hLp.out
          rw [hstr] at htx
          obtain ⟨l2, hl2⟩ : ∃ s : ByteArray, s = lg ++ ⟨#[255]⟩ := ⟨_, rfl⟩
          have hl2z : l2.size = n + 1 := by rw [hl2, app_size, hsz.out]; rfl
          have hrg2 : rgt l2 = 3 := by unfold rgt; rw [if_pos (by omega)]
          have hpr2 : ptR l2 = [] := by unfold ptR; rw [if_neg (by rw [hrg2]; decide)]
          have hct2 : ctR l2 (-1) = (⟨#[]⟩, 3) := by unfold ctR; rw [if_pos (by omega)]
          have hck2 : ck l2 = ((n : Int), 11) := by
            have hd : dec [255] = (0, 0, 11) := dec_form _ (by simp) (by decide)
            have hfn : (frms L).length = n := by rw [← hlgL.out, hlgl.out, List.length_replicate]
            rw [ck_parts l2 L [255] hLp.out (by rw [hl2, app_list, hlgL.out]) (by rw [hd]; decide), if_neg (by simp), hd, hfn]
          have k1 := Lib.hid (fun W => points_to lg (by omega) 0 L hrg hpr W)
          have k2 := Lib.hid (fun W => count_to lg (by omega) 0 L hrg hpr W)
          have k3 := Lib.hid (fun W => cut_to lg (by omega) 1048575 c 0 hcut W)
          have k5 := Lib.hid (fun W => points_to l2 (by omega) 3 [] hrg2 hpr2 W)
          have k6 := Lib.hid (fun W => count_to l2 (by omega) 3 [] hrg2 hpr2 W)
          have k7 := Lib.hid (fun W => cut_to l2 (by omega) (-1) ⟨#[]⟩ 3 hct2 W)
          have k8 := Lib.hid (fun W => check_to l2 (by omega) n 11 hck2 W)
          have htx' := Lib.hid htx
          clear hrg hpr hcut htx hstr hrg2 hpr2 hct2 hck2 hl2z
          have hl2' : lg ++ ⟨#[255]⟩ = l2 := hl2.symm
          clear hl2
          have z1 : ((n : Int) != 1048576) = false := by rw [show (n : Int) = 1048576 by omega]; decide
          have z2 : ((n : Int) == 1048576) = true := by rw [show (n : Int) = 1048576 by omega]; decide
          clear hS
          go_wp2_with (at_make; go_must (refine wpList_make_full _ rfl _ _ 22 rfl wr.heap.size 5 inf (.int .u8 0) 1 Try.underlying22 hi hz0 hz1 _ _ _ _ n rfl rfl (by have := hn.out; omega) (by have := hn.out; omega) (by rw [hz2]; omega) (by unfold maxLen; omega) (Nat.le_refl _) ?_); intro w1 hown hg; have hb1 : Below wr.heap.size wr w1 := (Below.refl _ wr).grown hg (Nat.le_refl _) (fun k e => by cases e); have hcv := zeros_conv hown hlg.out; clear hown hg)
          replace hB := on_trans hB hb1
          clear hb1
          refine (k1.out _).mono ?_; rintro e w2 ⟨⟨v1, rfl, hr1⟩, hB2⟩
          replace hB := on_trans hB hB2; clear hB2 hcv
          obtain ⟨a1, c1, hv1⟩ := row_slice hr1
          rw [List.length_map, hLl.out] at hv1
          subst hv1
          replace hr1 := Lib.hid hr1
          go_wp2_with fail
          refine (k2.out _).mono ?_; rintro e w3 ⟨rfl, hB2⟩
          replace hr1 := Lib.hid (hr1.out.on hB2)
          replace hB := on_trans hB hB2; clear hB2
          rw [hLl.out]
          go_wp2_with fail
          refine (k3.out _).mono ?_; rintro e w4 ⟨rfl, hB2⟩
          replace hr1 := Lib.hid (hr1.out.on hB2)
          replace hB := on_trans hB hB2; clear hB2
          go_wp2_with fail
          refine (texts_to _ L _ hr1.out (by have := hLl.out; omega) lg 0 htx'.out).mono ?_; rintro e w5 ⟨rfl, hB2⟩
          replace hB := on_trans hB hB2; clear hB2 hr1
          go_wp2_with fail
          refine (k5.out _).mono ?_; rintro e w6 ⟨⟨v2, rfl, _⟩, hB2⟩
          replace hB := on_trans hB hB2; clear hB2
          go_wp2_with fail
          refine (k6.out _).mono ?_; rintro e w7 ⟨rfl, hB2⟩
          replace hB := on_trans hB hB2; clear hB2
          go_wp2_with fail
          refine (k7.out _).mono ?_; rintro e w8 ⟨rfl, hB2⟩
          replace hB := on_trans hB hB2; clear hB2
          go_wp2_with (at_make; go_must (refine wpList_make_full _ rfl _ _ 34 rfl w8.heap.size 3 inf3 (.int .i64 0) 1 Try.underlying34 hi3 hz03 hz13 _ _ _ _ (n + 1) rfl rfl (by have := hn.out; omega) (by have := hn.out; omega) (by rw [hz23]; omega) (by unfold maxLen; omega) (Nat.le_refl _) ?_); intro w9 hown hg; have hb1 : Below w8.heap.size w8 w9 := (Below.refl _ w8).grown hg (Nat.le_refl _) (fun k e => by cases e); clear hown hg)
          replace hB := on_trans hB hb1
          clear hb1
          refine (text_long _ _ _ (by omega) _).mono ?_; rintro e w10 ⟨rfl, rfl⟩
          go_wp2_with fail
          refine (k8.out _).mono ?_; rintro e w11 ⟨rfl, rfl⟩
          go_wp2_with fail
          refine (awake_any _).mono ?_; rintro e w12 ⟨rfl, hB2⟩
          replace hB := on_trans hB hB2; clear hB2
          go_wp2_with fail
          go_ret
          exact ⟨rfl, hB⟩
end Go.Proofs.Ytkabkkgaalimmaa
