/- The law Md5Pieces. -/
import Derived.Test.YtimiejahkcjcdaaDoorM42b
import Derived.Test.YtimiejahkcjcdaaDoorML2
import Derived.Test.YtimiejahkcjcdaaDoorM32
import Derived.Test.YtimiejahkcjcdaaDoorM30
namespace Go.Proofs.YtimiejahkcjcdaaDoor
open Go.RowKit

theorem rows_at {w : World} {a : Option Addr} {len cap : Nat} (h : IsRows w a len cap ()) : len = 0 ∨ ∃ x, a = some x ∧ ∀ i, i < len → ∃ a' len' cap' l, l.length = len' ∧ w.cell? (x.add i) = some (.slice a' len' cap') ∧ (x.add i).block < w.heap.size ∧ RowB w (.slice a' len' cap') l := by
  rcases h with ⟨_, h, _⟩ | ⟨x, rfl, _, _, hc⟩
  · exact .inl h
  · refine .inr ⟨x, rfl, fun i hi => ?_⟩
    obtain ⟨a', len', cap', l, g1, _, g3, g4⟩ := hc i hi
    obtain ⟨o, ho, _⟩ := cells_of_cell g3
    exact ⟨a', len', cap', l, g1, g3, (Array.getElem?_eq_some_iff.1 ho).1, g4⟩
/-- The digest has M; its rest is not all's row. -/
def CutJ (w : World) (D : Nat) (M : List UInt8) (av : Value) (wx : World) : Prop := (∃ rv, Dig wx D (allF S0 M) rv M.length ∧ RowB wx rv (restF M) ∧ blkOf rv ≠ some D ∧ ∀ g, blkOf av = some g → blkOf rv ≠ some g) ∧ Below w.heap.size w wx ∧ D < wx.heap.size
/-- What the loop over `own` leaves. -/
theorem pie_left {w w2 w5 w6 : World} {D G n : Nat} {L M : List UInt8} {av rv : Value} (h2 : PieI w D L av w2) (hD : w.heap.size ≤ D) (ho : Only D w2 w5) (hdg : Dig w5 D (allF S0 M) rv M.length) (hrr : RowB w5 rv (restF M)) (hrg : ∀ g, blkOf rv = some g → w2.heap.size ≤ g) (hG : G < w2.heap.size) (hGD : G ≠ D) (hGa : blkOf av ≠ some G) (hGw : w.heap.size ≤ G) (hn : n = L.length) (h6 : Only G w5 w6) :
    CutJ w D M av w6 ∧ w6.ownsRow (D + 1) 5 1 av n (L.map enc8) := by
  have hDs := h2.1.2.2
  have hs5 := ho.1.size
  have hs6 := h6.1.size
  have hrG : blkOf rv ≠ some G := fun e => by have := hrg G e; omega
  have hrD : blkOf rv ≠ some D := fun e => by have := hrg D e; omega
  have hA : ∀ g, blkOf av = some g → blkOf rv ≠ some g := fun g hg e => owns_blk2 h2.2 (hrg g e) hg
  have hDig : ∃ rv, Dig w6 D (allF S0 M) rv M.length ∧ RowB w6 rv (restF M) ∧ blkOf rv ≠ some D ∧ ∀ g, blkOf av = some g → blkOf rv ≠ some g := ⟨rv, hdg.block (h6.2 D (by omega) (fun e => hGD e.symm)), row_only hrr hrG h6, hrD, hA⟩
  refine ⟨⟨hDig, (h2.1.2.1.trans (ho.below hD h2.1.2.1.size)).trans (h6.below hGw (Nat.le_trans h2.1.2.1.size hs5)), by omega⟩, ?_⟩
  subst hn
  exact owns_only (owns_only h2.2 ho (owns_blk h2.2 (by omega))) h6 hGa
theorem pie_left0 {w w2 w5 : World} {D n : Nat} {L M : List UInt8} {av rv : Value} (h2 : PieI w D L av w2) (hD : w.heap.size ≤ D) (ho : Only D w2 w5) (hdg : Dig w5 D (allF S0 M) rv M.length) (hrr : RowB w5 rv (restF M)) (hrg : ∀ g, blkOf rv = some g → w2.heap.size ≤ g) (hn : n = L.length) :
    CutJ w D M av w5 ∧ w5.ownsRow (D + 1) 5 1 av n (L.map enc8) := by
  have hDs := h2.1.2.2
  have hs5 := ho.1.size
  have hrD : blkOf rv ≠ some D := fun e => by have := hrg D e; omega
  have hA : ∀ g, blkOf av = some g → blkOf rv ≠ some g := fun g hg e => owns_blk2 h2.2 (hrg g e) hg
  refine ⟨⟨⟨rv, hdg, hrr, hrD, hA⟩, h2.1.2.1.trans (ho.below hD h2.1.2.1.size), by omega⟩, ?_⟩
  subst hn
  exact owns_only h2.2 ho (owns_blk h2.2 (by omega))
/-- The append to `all` touches neither the digest nor its rest. -/
theorem pie_append {w A B : World} {D : Nat} {M : List UInt8} {av av' : Value} {n : Nat} {xs : List Value} (h : CutJ w D M av A) (hown : A.ownsRow (D + 1) 5 1 av n xs) (hD : w.heap.size ≤ D) (hb : Below (D + 1) A B) (hr : ∀ row, av.ownBlock ≠ some row → row < A.heap.size → B.heap[row]? = A.heap[row]?) (ho : B.ownsRow (D + 1) 5 1 av' M.length (M.map enc8)) : PieI w D M av' B := by
  obtain ⟨⟨rv, h1, h2, h3, h4⟩, h5, h6⟩ := h
  refine ⟨⟨⟨rv, h1.block (hb.block D (by omega)), ?_, h3⟩, h5.trans (hb.mono (by omega)), Nat.lt_of_lt_of_le h6 hb.size⟩, ho⟩
  rcases h2 with h2 | ⟨b, o, cap, rfl, hlt, g1, g2, hc⟩
  · exact .inl h2
  · have hne : av.ownBlock ≠ some b := fun e => h4 b ((own_blk hown).trans e) rfl
    exact .inr ⟨b, o, cap, rfl, Nat.lt_of_lt_of_le hlt hb.size, g1, g2, fun i hi => (World.cell?_of_block (w := A) (hr b hne hlt)).trans (hc i hi)⟩
theorem only_set (A : World) (G j : Nat) (v : Value) : Only G A (A.setCell ⟨G, j, none⟩ v) := ⟨(Below.refl 0 A).setCell (p := ⟨G, j, none⟩) (by simp) _, fun _ _ hn => Below.heap_setCell _ _ _ _ hn⟩
set_option maxRecDepth 100000 in
set_option maxHeartbeats 2000000 in
theorem pieces_any (w : World) (a0 : Option Addr) (len0 cap0 : Nat) (hr0 : IsRows w a0 len0 cap0 ()) (a1 : Option Addr) (len1 cap1 : Nat) (wl : List UInt8) (hwl : wl.length = len1) (hr1 : RowB w (.slice a1 len1 cap1) wl) (hT : Tabs w) :
    Calls Tryd.prog 10 #[.slice a0 len0 cap0, .slice a1 len1 cap1] w fun e w' => e = .returned (.bool true) ∧ Below w.heap.size w w' := by
  have hR := Lib.hid (rows_at hr0)
  have hT1 := hT.lt
  replace hT := Lib.hid hT
  replace hr1 := Lib.hid hr1
  replace hwl := Lib.hid hwl
  clear hr0
  by_cases h60 : 60 < len0
  · have t1 : decide (60 < (len0 : Int)) = true := decide_eq_true (by omega)
    go_enter Tryd.func10, Tryd.ntmps10
    go_wp2_with fail
    refine (awake_any _ hT.out).mono ?_; rintro e w2 ⟨rfl, hb2⟩
    go_wp2_with fail
    go_ret
    exact ⟨rfl, hb2⟩
  · have t1 : decide (60 < (len0 : Int)) = false := decide_eq_false (by omega)
    go_enter Tryd.func10, Tryd.ntmps10
    go_wp2_with fail
    refine (newL w).mono ?_; rintro e w1 ⟨D, rfl, hD, hD1, hDL, hb⟩
    have I : Hid (PieI w D [] (.slice none 0 0) w1) := ⟨⟨hDL, hb, hD1⟩, owns_nil _ _⟩
    have hD2 : 1 < D := by omega
    have hAp := Lib.hid (fun (v : Value) (x : List UInt8) (h : RowB w v x) => row_apart h hD)
    clear hDL hb hD1
    go_upto_block 0 with (fail)
    go_cut [6] (fun s6 wx => ∃ L : List UInt8, L.length ≤ 18000 ∧ Hid (PieI w D L s6 wx))
    case first =>
      go_wp2_with fail
      go_loopg [6, 24] len0 (fun g s6 s24 wx => ∃ (i : Nat) (L : List UInt8), i + g = len0 ∧ s24 = .int .i64 i ∧ L.length ≤ 300 * i ∧ Hid (PieI w D L s6 wx))
      case atStart => exact ⟨0, [], by omega, rfl, by simp, I⟩
      case round =>
        clear I
        obtain ⟨i, L, hi, rfl, hL, I⟩ := hrel
        by_cases hlt : i < len0
        · have t2 : decide (i < len0) = true := decide_eq_true hlt
          rcases hR.out with h0 | ⟨x, rfl, hc⟩
          · omega
          · obtain ⟨ai, li, ci, b, hbl, hcell, hblk, hrow⟩ := hc i hlt
            have hc0 : wr.cell? (x.add i) = some (.slice ai li ci) := (World.cell?_of_block (w := w) (I.out.1.2.1.block _ hblk)).trans hcell
            clear hc hcell hblk
            by_cases h300 : 300 < li
            · have t3 : decide (300 < (li : Int)) = true := decide_eq_true (by omega)
              go_wp2_with fail
              go_roundg (gk - 1)
              case measure => omega
              case rel => exact ⟨i + 1, L, by omega, rfl, by omega, I⟩
            · have t3 : decide (300 < (li : Int)) = false := decide_eq_false (by omega)
              go_upto_region 11 with (fail)
              go_cut [43] (fun s43 wx => ∃ bb : Bool, s43 = .bool bb ∧ wr = wx)
              case first =>
                by_cases hw1 : i < len1
                · have t4 : decide (i < len1) = true := decide_eq_true hw1
                  obtain ⟨b1, o1, c1, e1, hb1, _, _, hcw⟩ := rowB_cells hr1.out (fun e => by have := hwl.out; rw [e] at this; simp at this; omega)
                  cases e1
                  have hc1 : wr.cell? ⟨b1, o1 + i, none⟩ = some (.int .u8 ((wl.getD i 0).toNat : Int)) := (World.cell?_of_block (w := w) (I.out.1.2.1.block b1 hb1)).trans (hcw i (by rw [hwl.out]; exact hw1))
                  obtain ⟨q, hq⟩ : ∃ q, q = (wl.getD i 0).toNat := ⟨_, rfl⟩
                  rw [← hq] at hc1
                  clear hcw hq
                  go_wp2_with fail
                  go_meet
                  exact ⟨_, rfl, rfl⟩
                · have t4 : decide (i < len1) = false := decide_eq_false hw1
                  go_wp2_with fail
                  go_meet
                  exact ⟨_, rfl, rfl⟩
              case rest =>
                obtain ⟨bb, rfl, rfl⟩ := hcut
                go_upto_if 43 with (fail)
                go_cut [6] (fun s6 wx => ∃ L2 : List UInt8, L2.length ≤ 300 * i ∧ Hid (PieI w D L2 s6 wx))
                case first =>
                  cases bb with
                  | true =>
                    go_wp2_with fail
                    refine (resetL D _ _ I.out.1.2.2 I.out.1.1).mono ?_; rintro e w3 ⟨rfl, h1, h2⟩
                    have I2 : Hid (PieI w D [] (.slice none 0 0) w3) := ⟨I.out.1.only hD h2 h1, owns_nil _ _⟩
                    clear h1 h2
                    go_wp2_with fail
                    go_meet
                    exact ⟨[], by simp, I2⟩
                  | false =>
                    go_wp2_with fail
                    go_meet
                    exact ⟨L, hL, I⟩
                case rest =>
                  clear I hc0
                  obtain ⟨L2, hL2, I⟩ := hcut
                  have lm : Hid ((b.map enc8).length = li) := by show _ = _; rw [List.length_map, hbl]
                  have hsw := I.out.1.2.1.size
                  have hsD := I.out.1.2.2
                  have own := Lib.hid (own0 wc wc.heap.size (Nat.le_refl _))
                  have hb2 : Hid (Below wc.heap.size wc (wc.alloc (.cells #[] 5))) := (Below.refl _ _).alloc (Nat.le_refl _) _
                  have hrl := Lib.hid (hrow.on (I.out.1.2.1.trans (hb2.out.mono hsw)))
                  replace hrow := Lib.hid hrow
                  go_wp2_with (at_builtin; (refine app_all rfl (.tmp 47) (.tmp 48) 24 rfl wc.heap.size 5 (.int .u8 0) 1 Tryd.underlying24 info5 rfl _ 0 [] rfl _ (b.map enc8) rfl own.out hrl.out (enc8_all b) (by omega) (by rw [lm.out]; omega) (by simp) ?_; rintro v2 w2 hown2' hb2' _ _; have hown2 := Lib.hid hown2'; clear hown2'; have HB2 := Lib.hid (hb2.out.trans hb2'); have hs2 := HB2.out.size; clear hb2'))
                  clear own hb2 hrl
                  have I2 := Lib.hid (I.out.on HB2.out)
                  have hor : RowB w2 v2 b := Row.of_owned hown2.out
                  have hoD := owns_blk hown2.out hsD
                  replace hor := Lib.hid hor
                  refine (writeL2 D L2 b v2 (by omega) _ I2.out.1.2.2 I2.out.1.1 hor.out (.inr hoD) (hT.out.on I2.out.1.2.1) hD2).mono ?_; rintro e w5 ⟨rfl, ⟨rv, hdg, hrr, hrg⟩, honly⟩
                  have hshape := Lib.hid (ownC_of hown2.out hor.out (by rw [lm.out]; omega))
                  rw [lm.out, Nat.zero_add] at hshape
                  clear hown2 hoD
                  replace honly := Lib.hid honly
                  replace hdg := Lib.hid hdg
                  replace hrr := Lib.hid hrr
                  replace hrg := Lib.hid hrg
                  obtain ⟨a9, c9, hv9⟩ := rowB_len hor.out
                  rw [hbl] at hv9
                  subst hv9
                  go_upto_block 2 with (fail)
                  go_cut [10] (fun _ wx => Hid (CutJ w D (L2 ++ b) u6 wx ∧ wx.ownsRow (D + 1) 5 1 u6 L2.length (L2.map enc8)))
                  case first =>
                    rcases hshape.out with ⟨h0, _⟩ | ⟨G, cg, e, hG1, hG2, hOw⟩
                    · have t6 : decide (0 < li) = false := decide_eq_false (by omega)
                      go_wp2_with fail
                      go_loopg [56] 0 (fun gh s56 wx => gh = 0 ∧ s56 = .int .i64 (0 : Nat) ∧ w5 = wx)
                      case atStart => exact ⟨rfl, rfl, rfl⟩
                      case round =>
                        obtain ⟨_, rfl, rfl⟩ := hrel
                        go_wp2_with fail
                        go_meet
                        exact pie_left0 I2.out hD honly.out hdg.out hrr.out hrg.out rfl
                    · cases e
                      have hGD : G ≠ D := by omega
                      have hGa : blkOf u6 ≠ some G := owns_blk2 I.out.2 hG1
                      have O5 := Lib.hid (hOw.block (honly.out.2 G hG2 hGD))
                      have hGw : w.heap.size ≤ G := by omega
                      clear hshape hOw
                      go_wp2_with fail
                      go_loopg [56] li (fun gh s56 wx => ∃ j : Nat, j + gh = li ∧ s56 = .int .i64 j ∧ Hid (Only G w5 wx) ∧ Hid (OwnC wx G li))
                      case atStart => exact ⟨0, by omega, rfl, Only.of_below (Below.refl _ _), O5⟩
                      case round =>
                        clear O5
                        obtain ⟨j, hj, rfl, HO, O5⟩ := hrel
                        by_cases hlj : j < li
                        · have t6 : decide (j < li) = true := decide_eq_true hlj
                          obtain ⟨⟨y, hy⟩, hf⟩ := O5.out j hlj
                          go_wp2_with fail
                          go_roundg (gk - 1)
                          case measure => omega
                          case rel =>
                            rw [show ((y.toNat : Int) + 1) % 256 = ((UInt8.ofNat (y.toNat + 1)).toNat : Int) by rw [UInt8.toNat_ofNat']; omega]
                            exact ⟨j + 1, by omega, rfl, HO.out.trans (only_set _ _ _ _), O5.out.set j hlj _⟩
                        · obtain rfl : j = li := by omega
                          have t6 : decide (j < j) = false := decide_eq_false (by omega)
                          go_wp2_with fail
                          go_meet
                          exact pie_left I2.out hD honly.out hdg.out hrr.out hrg.out hG2 hGD hGa hGw rfl HO.out
                  case rest =>
                    clear I I2 honly hdg hrr hrg hshape hor
                    have hcs := hcut.out.1.2.1.size
                    have hrw := Lib.hid (hrow.out.on hcut.out.1.2.1)
                    have hcD := hcut.out.1.2.2
                    go_wp2_with (at_builtin; (refine app_all rfl (.tmp 66) (.tmp 67) 24 rfl (D + 1) 5 (.int .u8 0) 1 Tryd.underlying24 info5 rfl _ L2.length (L2.map enc8) rfl _ (b.map enc8) rfl hcut.out.2 hrw.out (enc8_all b) (by omega) (by rw [lm.out]; omega) (by omega) ?_; rintro av' w7 hown7 hb7 hr7 _; have I := Lib.hid (pie_append hcut.out.1 hcut.out.2 hD hb7 hr7 (by rw [List.length_append, List.map_append, hbl]; rw [lm.out] at hown7; exact hown7)); clear hown7 hb7 hr7))
                    have hMl : (L2 ++ b).length ≤ 300 * (i + 1) := by rw [List.length_append]; omega
                    generalize L2 ++ b = M at I hMl ⊢
                    obtain ⟨d, hd⟩ : ∃ d, Hid (d = sumF M) := ⟨_, rfl⟩
                    refine (sumL D M (by omega) d hd.out _ I.out.1.2.2 I.out.1.1 (hT.out.on I.out.1.2.1)).mono ?_; rintro e w8 ⟨rfl, hb⟩
                    replace I := Lib.hid (I.out.on hb); clear hb hrw hcut
                    have z11 := Lib.hid (B16.mk w8 d 34)
                    have g11 : w8.heap.size < (w8.alloc (e16 d 34)).heap.size := by simp
                    replace I := Lib.hid (I.out.on ((Below.refl _ _).alloc (Nat.le_refl _) (e16 d 34)))
                    go_upto_region 25 with (fail)
                    show Code.wp _ _ _ _ (w8.alloc (e16 d 34))
                    generalize w8.alloc (e16 d 34) = w9 at z11 g11 I ⊢
                    generalize w8.heap.size = N11 at z11 g11 ⊢
                    have hav : RowB w9 av' M := Row.of_owned I.out.2
                    obtain ⟨a6, c6, rfl⟩ := rowB_len hav
                    have h30 := Tryd.call30
                    have h29 := Tryd.call29
                    go_cut [102] (fun s102 wx => s102 = .bool false ∧ Hid (PieI w D M (.slice a6 M.length c6) wx))
                    case first =>
                      by_cases hw1 : i < len1
                      · obtain ⟨b1, o1, c1, e1, hb1, _, _, hcw⟩ := rowB_cells hr1.out (fun e => by have := hwl.out; rw [e] at this; simp at this; omega)
                        rw [hwl.out] at e1
                        cases e1
                        obtain ⟨q, hq⟩ : ∃ q, q = (wl.getD i 0).toNat := ⟨_, rfl⟩
                        have hcq := hcw i (by rw [hwl.out]; exact hw1)
                        rw [← hq] at hcq
                        have hba8 : ∀ W, Below w9.heap.size w9 W → W.cell? ⟨b1, o1 + i, none⟩ = some (.int .u8 (q : Int)) := fun W h => (World.cell?_of_block (w := w) ((I.out.1.2.1.trans (h.mono I.out.1.2.1.size)).block b1 hb1)).trans hcq
                        clear hcw hq hcq
                        by_cases hod : q % 2 = 1
                        · skip
                          refine wp_region_facts (fun ix v W => match ix with | 0 => v = .int .i64 i | 1 => v = .slice (some ⟨b1, o1, none⟩) len1 cap1 | 2 => v = .int .i64 len1 | 3 => v = .bool true | 4 => v = .bool true | 5 => v = .slice (some ⟨b1, o1, none⟩) len1 cap1 | 6 => v = .int .i64 i | 7 => v = .pointer (some ⟨b1, o1 + i, none⟩) | 8 => v = .int .u8 q | 9 => v = .int .u8 ((q % 2 : Nat) : Int) | 10 => v = .bool true | 11 => v = .bool true | 12 => v = .bool true | 13 => v = .agg #[e8 d 0, e8 d 1, e8 d 2, e8 d 3, e8 d 4, e8 d 5, e8 d 6, e8 d 7, e8 d 8, e8 d 9, e8 d 10, e8 d 11, e8 d 12, e8 d 13, e8 d 14, e8 d 15] | 14 => v = .slice a6 M.length c6 | 15 => v = .agg #[e8 d 0, e8 d 1, e8 d 2, e8 d 3, e8 d 4, e8 d 5, e8 d 6, e8 d 7, e8 d 8, e8 d 9, e8 d 10, e8 d 11, e8 d 12, e8 d 13, e8 d 14, e8 d 15] | 16 => v = .bool false | 17 => v = .bool false | 18 => v = .int .i64 0 | 19 => v = .bool false | 20 => v = .bool false | 21 => v = .bool false | 22 => v = .bool false | 23 => v = .pointer (some ⟨D, 0, none⟩) | 24 => v = .int .i64 M.length | 25 => v = .slice a6 M.length c6 | 26 => v = .int .i64 M.length | 27 => v = .bool false | _ => v = .bool false)
                            (by kernel_rfl) (by kernel_rfl) (by decide +kernel) (by kernel_rfl) (fun i v w w' h _ => h) ?_ ?_
                          · intro ix
                            rcases ix with _ | _ | _ | _ | _ | _ | _ | _ | _ | _ | _ | _ | _ | _ | _ | _ | _ | _ | _ | _ | _ | _ | _ | _ | _ | _ | _ | _ | _ | ix
                            all_goals intro o ho a wa hba hout hsz hpre
                            all_goals cases ho
                            all_goals have q7 : a.tmps.getD 7 undef = .int .i64 i := (hout 7 (by decide +kernel)).trans rfl
                            all_goals have q1 : a.tmps.getD 1 undef = .slice (some ⟨b1, o1, none⟩) len1 cap1 := (hout 1 (by decide +kernel)).trans rfl
                            all_goals have q5 : a.tmps.getD 5 undef = .pointer (some ⟨D, 0, none⟩) := (hout 5 (by decide +kernel)).trans rfl
                            all_goals have q6 : a.tmps.getD 6 undef = .slice a6 M.length c6 := (hout 6 (by decide +kernel)).trans rfl
                            all_goals have q11 : a.tmps.getD 11 undef = .pointer (some ⟨N11, 0, none⟩) := (hout 11 (by decide +kernel)).trans rfl
                            all_goals have q12 : a.tmps.getD 12 undef = .int .i64 0 := (hout 12 (by decide +kernel)).trans rfl
                            all_goals clear hout hsz
                            · exact step_move rfl (met_none rfl) (.inl rfl) ⟨_, rfl, Below.refl _ _, q7⟩
                            · exact step_move rfl (met_none rfl) (.inl rfl) ⟨_, rfl, Below.refl _ _, q1⟩
                            · have p75 : a.tmps.getD 75 undef = .slice (some ⟨b1, o1, none⟩) len1 cap1 := hpre ⟨1, .data⟩ (by simp) rfl _ rfl
                              exact step_len_slice Tryd.underlying24 rfl (met_none rfl) rfl p75 ⟨_, rfl, Below.refl _ _, rfl⟩
                            · have p74 : a.tmps.getD 74 undef = .int .i64 i := hpre ⟨0, .data⟩ (by simp) rfl _ rfl
                              have p76 : a.tmps.getD 76 undef = .int .i64 len1 := hpre ⟨2, .data⟩ (by simp) rfl _ rfl
                              exact step_bin rfl (met_none rfl) rfl p74 p76 (r := .bool true) (w' := wa) (by simp [go_sem]; omega) ⟨_, rfl, Below.refl _ _, rfl⟩
                            · have p77 : a.tmps.getD 77 undef = .bool true := hpre ⟨3, .data⟩ (by simp) rfl _ rfl
                              exact step_move rfl (met_none rfl) (.inl rfl) ⟨_, rfl, Below.refl _ _, p77⟩
                            · have p78 : a.tmps.getD 78 undef = .bool true := hpre ⟨4, .guard⟩ (by simp) rfl _ rfl
                              exact step_move rfl (met_some rfl rfl rfl p78) (.inl rfl) ⟨_, rfl, Below.refl _ _, q1⟩
                            · have p78 : a.tmps.getD 78 undef = .bool true := hpre ⟨4, .guard⟩ (by simp) rfl _ rfl
                              exact step_move rfl (met_some rfl rfl rfl p78) (.inl rfl) ⟨_, rfl, Below.refl _ _, q7⟩
                            · have p78 : a.tmps.getD 78 undef = .bool true := hpre ⟨4, .guard⟩ (by simp) rfl _ rfl
                              have p79 : a.tmps.getD 79 undef = .slice (some ⟨b1, o1, none⟩) len1 cap1 := hpre ⟨5, .data⟩ (by simp) rfl _ rfl
                              have p80 : a.tmps.getD 80 undef = .int .i64 i := hpre ⟨6, .data⟩ (by simp) rfl _ rfl
                              exact step_run rfl (met_some rfl rfl rfl p78) (v := .pointer (some ⟨b1, o1 + i, none⟩)) (w' := wa) (by simp [execOp, p79, p80, go_sem, hw1]) ⟨_, rfl, Below.refl _ _, rfl⟩
                            · have p78 : a.tmps.getD 78 undef = .bool true := hpre ⟨4, .guard⟩ (by simp) rfl _ rfl
                              have p81 : a.tmps.getD 81 undef = .pointer (some ⟨b1, o1 + i, none⟩) := hpre ⟨7, .data⟩ (by simp) rfl _ rfl
                              exact step_load rfl (met_some rfl rfl rfl p78) rfl p81 (by have hc := hba8 wa hba; simp [execOp, go_sem, hc]) ⟨_, rfl, Below.refl _ _, rfl⟩
                            · have p78 : a.tmps.getD 78 undef = .bool true := hpre ⟨4, .guard⟩ (by simp) rfl _ rfl
                              have p82 : a.tmps.getD 82 undef = .int .u8 q := hpre ⟨8, .data⟩ (by simp) rfl _ rfl
                              exact step_bin rfl (met_some rfl rfl rfl p78) rfl p82 rfl (r := .int .u8 ((q % 2 : Nat) : Int)) (w' := wa) (by simp [go_sem]; exact Int.tmod_eq_emod_of_nonneg (by omega)) ⟨_, rfl, Below.refl _ _, rfl⟩
                            · have p78 : a.tmps.getD 78 undef = .bool true := hpre ⟨4, .guard⟩ (by simp) rfl _ rfl
                              have p83 : a.tmps.getD 83 undef = .int .u8 ((q % 2 : Nat) : Int) := hpre ⟨9, .data⟩ (by simp) rfl _ rfl
                              exact step_bin rfl (met_some rfl rfl rfl p78) rfl p83 rfl (r := .bool true) (w' := wa) (by simp [go_sem]; omega) ⟨_, rfl, Below.refl _ _, rfl⟩
                            · have p78 : a.tmps.getD 78 undef = .bool true := hpre ⟨4, .data⟩ (by simp) rfl _ rfl
                              have p84 : a.tmps.getD 84 undef = .bool true := hpre ⟨10, .data⟩ (by simp) rfl _ rfl
                              exact step_pick rfl (met_none rfl) rfl p78 ⟨_, rfl, Below.refl _ _, p84⟩
                            · have p85 : a.tmps.getD 85 undef = .bool true := hpre ⟨11, .data⟩ (by simp) rfl _ rfl
                              exact step_move rfl (met_none rfl) (.inl rfl) ⟨_, rfl, Below.refl _ _, p85⟩
                            · have p86 : a.tmps.getD 86 undef = .bool true := hpre ⟨12, .guard⟩ (by simp) rfl _ rfl
                              exact step_load rfl (met_some rfl rfl rfl p86) rfl q11 (load16 _ _ _ _ _ (z11.out.block (hba.block N11 g11))) ⟨_, rfl, Below.refl _ _, rfl⟩
                            · have p86 : a.tmps.getD 86 undef = .bool true := hpre ⟨12, .guard⟩ (by simp) rfl _ rfl
                              exact step_move rfl (met_some rfl rfl rfl p86) (.inl rfl) ⟨_, rfl, Below.refl _ _, q6⟩
                            · have p86 : a.tmps.getD 86 undef = .bool true := hpre ⟨12, .chain⟩ (by simp) rfl _ rfl
                              have p88 : a.tmps.getD 88 undef = .slice a6 M.length c6 := hpre ⟨14, .data⟩ (by simp) rfl _ rfl
                              refine step_call rfl (met_some rfl rfl rfl p86) _ (args1 p88) (h29 _ _) ((rsum_any _ M (by omega) d hd.out _ (hav.on hba)).mono ?_)
                              rintro e w' ⟨rfl, hb⟩
                              exact ⟨_, rfl, _, rfl, hb, rfl⟩
                            · have p86 : a.tmps.getD 86 undef = .bool true := hpre ⟨12, .guard⟩ (by simp) rfl _ rfl
                              have p87 : a.tmps.getD 87 undef = .agg #[e8 d 0, e8 d 1, e8 d 2, e8 d 3, e8 d 4, e8 d 5, e8 d 6, e8 d 7, e8 d 8, e8 d 9, e8 d 10, e8 d 11, e8 d 12, e8 d 13, e8 d 14, e8 d 15] := hpre ⟨13, .data⟩ (by simp) rfl _ rfl
                              have p89 : a.tmps.getD 89 undef = .agg #[e8 d 0, e8 d 1, e8 d 2, e8 d 3, e8 d 4, e8 d 5, e8 d 6, e8 d 7, e8 d 8, e8 d 9, e8 d 10, e8 d 11, e8 d 12, e8 d 13, e8 d 14, e8 d 15] := hpre ⟨15, .data⟩ (by simp) rfl _ rfl
                              exact step_bin rfl (met_some rfl rfl rfl p86) rfl p87 p89 (r := .bool false) (w' := wa) (neq34 d d false (by simp [eqD_same]) wa) ⟨_, rfl, Below.refl _ _, rfl⟩
                            · have p86 : a.tmps.getD 86 undef = .bool true := hpre ⟨12, .guard⟩ (by simp) rfl _ rfl
                              have p90 : a.tmps.getD 90 undef = .bool false := hpre ⟨16, .data⟩ (by simp) rfl _ rfl
                              exact step_move rfl (met_some rfl rfl rfl p86) (.inl rfl) ⟨_, rfl, Below.refl _ _, p90⟩
                            · have p91 : a.tmps.getD 91 undef = .bool false := hpre ⟨17, .guard⟩ (by simp) rfl _ rfl
                              exact step_move rfl (met_some rfl rfl rfl p91) (.inl rfl) ⟨_, rfl, Below.refl _ _, q12⟩
                            · have p91 : a.tmps.getD 91 undef = .bool false := hpre ⟨17, .guard⟩ (by simp) rfl _ rfl
                              have p92 : a.tmps.getD 92 undef = .int .i64 0 := hpre ⟨18, .data⟩ (by simp) rfl _ rfl
                              exact step_bin rfl (met_some rfl rfl rfl p91) rfl p92 rfl (r := .bool false) (w' := wa) (by simp [go_sem]) ⟨_, rfl, Below.refl _ _, rfl⟩
                            · have p86 : a.tmps.getD 86 undef = .bool true := hpre ⟨12, .guard⟩ (by simp) rfl _ rfl
                              have p91 : a.tmps.getD 91 undef = .bool false := hpre ⟨17, .data⟩ (by simp) rfl _ rfl
                              have p93 : a.tmps.getD 93 undef = .bool false := hpre ⟨19, .data⟩ (by simp) rfl _ rfl
                              exact step_pick rfl (met_some rfl rfl rfl p86) rfl p91 ⟨_, rfl, Below.refl _ _, p93⟩
                            · have p86 : a.tmps.getD 86 undef = .bool true := hpre ⟨12, .data⟩ (by simp) rfl _ rfl
                              have p94 : a.tmps.getD 94 undef = .bool false := hpre ⟨20, .data⟩ (by simp) rfl _ rfl
                              exact step_pick rfl (met_none rfl) rfl p86 ⟨_, rfl, Below.refl _ _, p94⟩
                            · have p95 : a.tmps.getD 95 undef = .bool false := hpre ⟨21, .data⟩ (by simp) rfl _ rfl
                              exact step_move rfl (met_none rfl) (.inl rfl) ⟨_, rfl, Below.refl _ _, p95⟩
                            · have p96 : a.tmps.getD 96 undef = .bool false := hpre ⟨22, .guard⟩ (by simp) rfl _ rfl
                              exact step_move rfl (met_some rfl rfl rfl p96) (.inl rfl) ⟨_, rfl, Below.refl _ _, q5⟩
                            · have p96 : a.tmps.getD 96 undef = .bool false := hpre ⟨22, .chain⟩ (by simp) rfl _ rfl
                              have p97 : a.tmps.getD 97 undef = .pointer (some ⟨D, 0, none⟩) := hpre ⟨23, .data⟩ (by simp) rfl _ rfl
                              refine step_call rfl (met_some rfl rfl rfl p96) _ (args1 p97) (h30 _ _) ((lenL D M wa (I.out.on hba).1.1).mono ?_)
                              rintro e w' ⟨rfl, rfl⟩
                              exact ⟨_, rfl, _, rfl, Below.refl _ _, rfl⟩
                            · have p96 : a.tmps.getD 96 undef = .bool false := hpre ⟨22, .guard⟩ (by simp) rfl _ rfl
                              exact step_move rfl (met_some rfl rfl rfl p96) (.inl rfl) ⟨_, rfl, Below.refl _ _, q6⟩
                            · have p96 : a.tmps.getD 96 undef = .bool false := hpre ⟨22, .guard⟩ (by simp) rfl _ rfl
                              have p99 : a.tmps.getD 99 undef = .slice a6 M.length c6 := hpre ⟨25, .data⟩ (by simp) rfl _ rfl
                              exact step_len_slice Tryd.underlying24 rfl (met_some rfl rfl rfl p96) rfl p99 ⟨_, rfl, Below.refl _ _, rfl⟩
                            · have p96 : a.tmps.getD 96 undef = .bool false := hpre ⟨22, .guard⟩ (by simp) rfl _ rfl
                              have p98 : a.tmps.getD 98 undef = .int .i64 M.length := hpre ⟨24, .data⟩ (by simp) rfl _ rfl
                              have p100 : a.tmps.getD 100 undef = .int .i64 M.length := hpre ⟨26, .data⟩ (by simp) rfl _ rfl
                              exact step_bin rfl (met_some rfl rfl rfl p96) rfl p98 p100 (r := .bool false) (w' := wa) (by simp [go_sem]) ⟨_, rfl, Below.refl _ _, rfl⟩
                            · have p96 : a.tmps.getD 96 undef = .bool false := hpre ⟨22, .data⟩ (by simp) rfl _ rfl
                              have p101 : a.tmps.getD 101 undef = .bool false := hpre ⟨27, .data⟩ (by simp) rfl _ rfl
                              exact step_pick rfl (met_none rfl) rfl p96 ⟨_, rfl, Below.refl _ _, p101⟩
                          · intro a wa hba hF ha
                            have f0 : a.tmps.getD 74 undef = .int .i64 i := hF 0 _ rfl
                            have f1 : a.tmps.getD 75 undef = .slice (some ⟨b1, o1, none⟩) len1 cap1 := hF 1 _ rfl
                            have f2 : a.tmps.getD 76 undef = .int .i64 len1 := hF 2 _ rfl
                            have f3 : a.tmps.getD 77 undef = .bool true := hF 3 _ rfl
                            have f4 : a.tmps.getD 78 undef = .bool true := hF 4 _ rfl
                            have f5 : a.tmps.getD 79 undef = .slice (some ⟨b1, o1, none⟩) len1 cap1 := hF 5 _ rfl
                            have f6 : a.tmps.getD 80 undef = .int .i64 i := hF 6 _ rfl
                            have f7 : a.tmps.getD 81 undef = .pointer (some ⟨b1, o1 + i, none⟩) := hF 7 _ rfl
                            have f8 : a.tmps.getD 82 undef = .int .u8 q := hF 8 _ rfl
                            have f9 : a.tmps.getD 83 undef = .int .u8 ((q % 2 : Nat) : Int) := hF 9 _ rfl
                            have f10 : a.tmps.getD 84 undef = .bool true := hF 10 _ rfl
                            have f11 : a.tmps.getD 85 undef = .bool true := hF 11 _ rfl
                            have f12 : a.tmps.getD 86 undef = .bool true := hF 12 _ rfl
                            have f13 : a.tmps.getD 87 undef = .agg #[e8 d 0, e8 d 1, e8 d 2, e8 d 3, e8 d 4, e8 d 5, e8 d 6, e8 d 7, e8 d 8, e8 d 9, e8 d 10, e8 d 11, e8 d 12, e8 d 13, e8 d 14, e8 d 15] := hF 13 _ rfl
                            have f14 : a.tmps.getD 88 undef = .slice a6 M.length c6 := hF 14 _ rfl
                            have f15 : a.tmps.getD 89 undef = .agg #[e8 d 0, e8 d 1, e8 d 2, e8 d 3, e8 d 4, e8 d 5, e8 d 6, e8 d 7, e8 d 8, e8 d 9, e8 d 10, e8 d 11, e8 d 12, e8 d 13, e8 d 14, e8 d 15] := hF 15 _ rfl
                            have f16 : a.tmps.getD 90 undef = .bool false := hF 16 _ rfl
                            have f17 : a.tmps.getD 91 undef = .bool false := hF 17 _ rfl
                            have f18 : a.tmps.getD 92 undef = .int .i64 0 := hF 18 _ rfl
                            have f19 : a.tmps.getD 93 undef = .bool false := hF 19 _ rfl
                            have f20 : a.tmps.getD 94 undef = .bool false := hF 20 _ rfl
                            have f21 : a.tmps.getD 95 undef = .bool false := hF 21 _ rfl
                            have f22 : a.tmps.getD 96 undef = .bool false := hF 22 _ rfl
                            have f23 : a.tmps.getD 97 undef = .pointer (some ⟨D, 0, none⟩) := hF 23 _ rfl
                            have f24 : a.tmps.getD 98 undef = .int .i64 M.length := hF 24 _ rfl
                            have f25 : a.tmps.getD 99 undef = .slice a6 M.length c6 := hF 25 _ rfl
                            have f26 : a.tmps.getD 100 undef = .int .i64 M.length := hF 26 _ rfl
                            have f27 : a.tmps.getD 101 undef = .bool false := hF 27 _ rfl
                            have f28 : a.tmps.getD 102 undef = .bool false := hF 28 _ rfl
                            clear hF
                            simp only [List.foldl, fillFrom, f0, f1, f2, f3, f4, f5, f6, f7, f8, f9, f10, f11, f12, f13, f14, f15, f16, f17, f18, f19, f20, f21, f22, f23, f24, f25, f26, f27, f28] at ha
                            clear f0 f1 f2 f3 f4 f5 f6 f7 f8 f9 f10 f11 f12 f13 f14 f15 f16 f17 f18 f19 f20 f21 f22 f23 f24 f25 f26 f27 f28
                            subst ha
                            simp only [Act.put, List.setIfInBounds_toArray, List.set_cons_succ, List.set_cons_zero]
                            go_wp2_with fail
                            go_meet
                            exact ⟨rfl, I.out.on hba⟩
                        · skip
                          refine wp_region_facts (fun ix v W => match ix with | 0 => v = .int .i64 i | 1 => v = .slice (some ⟨b1, o1, none⟩) len1 cap1 | 2 => v = .int .i64 len1 | 3 => v = .bool true | 4 => v = .bool true | 5 => v = .slice (some ⟨b1, o1, none⟩) len1 cap1 | 6 => v = .int .i64 i | 7 => v = .pointer (some ⟨b1, o1 + i, none⟩) | 8 => v = .int .u8 q | 9 => v = .int .u8 ((q % 2 : Nat) : Int) | 10 => v = .bool false | 11 => v = .bool false | 12 => v = .bool false | 13 => v = undef | 14 => v = undef | 15 => v = undef | 16 => v = undef | 17 => v = undef | 18 => v = undef | 19 => v = undef | 20 => v = undef | 21 => v = .bool false | 22 => v = .bool false | 23 => v = .pointer (some ⟨D, 0, none⟩) | 24 => v = .int .i64 M.length | 25 => v = .slice a6 M.length c6 | 26 => v = .int .i64 M.length | 27 => v = .bool false | _ => v = .bool false)
                            (by kernel_rfl) (by kernel_rfl) (by decide +kernel) (by kernel_rfl) (fun i v w w' h _ => h) ?_ ?_
                          · intro ix
                            rcases ix with _ | _ | _ | _ | _ | _ | _ | _ | _ | _ | _ | _ | _ | _ | _ | _ | _ | _ | _ | _ | _ | _ | _ | _ | _ | _ | _ | _ | _ | ix
                            all_goals intro o ho a wa hba hout hsz hpre
                            all_goals cases ho
                            all_goals have q7 : a.tmps.getD 7 undef = .int .i64 i := (hout 7 (by decide +kernel)).trans rfl
                            all_goals have q1 : a.tmps.getD 1 undef = .slice (some ⟨b1, o1, none⟩) len1 cap1 := (hout 1 (by decide +kernel)).trans rfl
                            all_goals have q5 : a.tmps.getD 5 undef = .pointer (some ⟨D, 0, none⟩) := (hout 5 (by decide +kernel)).trans rfl
                            all_goals have q6 : a.tmps.getD 6 undef = .slice a6 M.length c6 := (hout 6 (by decide +kernel)).trans rfl
                            all_goals have q11 : a.tmps.getD 11 undef = .pointer (some ⟨N11, 0, none⟩) := (hout 11 (by decide +kernel)).trans rfl
                            all_goals have q12 : a.tmps.getD 12 undef = .int .i64 0 := (hout 12 (by decide +kernel)).trans rfl
                            all_goals clear hout hsz
                            · exact step_move rfl (met_none rfl) (.inl rfl) ⟨_, rfl, Below.refl _ _, q7⟩
                            · exact step_move rfl (met_none rfl) (.inl rfl) ⟨_, rfl, Below.refl _ _, q1⟩
                            · have p75 : a.tmps.getD 75 undef = .slice (some ⟨b1, o1, none⟩) len1 cap1 := hpre ⟨1, .data⟩ (by simp) rfl _ rfl
                              exact step_len_slice Tryd.underlying24 rfl (met_none rfl) rfl p75 ⟨_, rfl, Below.refl _ _, rfl⟩
                            · have p74 : a.tmps.getD 74 undef = .int .i64 i := hpre ⟨0, .data⟩ (by simp) rfl _ rfl
                              have p76 : a.tmps.getD 76 undef = .int .i64 len1 := hpre ⟨2, .data⟩ (by simp) rfl _ rfl
                              exact step_bin rfl (met_none rfl) rfl p74 p76 (r := .bool true) (w' := wa) (by simp [go_sem]; omega) ⟨_, rfl, Below.refl _ _, rfl⟩
                            · have p77 : a.tmps.getD 77 undef = .bool true := hpre ⟨3, .data⟩ (by simp) rfl _ rfl
                              exact step_move rfl (met_none rfl) (.inl rfl) ⟨_, rfl, Below.refl _ _, p77⟩
                            · have p78 : a.tmps.getD 78 undef = .bool true := hpre ⟨4, .guard⟩ (by simp) rfl _ rfl
                              exact step_move rfl (met_some rfl rfl rfl p78) (.inl rfl) ⟨_, rfl, Below.refl _ _, q1⟩
                            · have p78 : a.tmps.getD 78 undef = .bool true := hpre ⟨4, .guard⟩ (by simp) rfl _ rfl
                              exact step_move rfl (met_some rfl rfl rfl p78) (.inl rfl) ⟨_, rfl, Below.refl _ _, q7⟩
                            · have p78 : a.tmps.getD 78 undef = .bool true := hpre ⟨4, .guard⟩ (by simp) rfl _ rfl
                              have p79 : a.tmps.getD 79 undef = .slice (some ⟨b1, o1, none⟩) len1 cap1 := hpre ⟨5, .data⟩ (by simp) rfl _ rfl
                              have p80 : a.tmps.getD 80 undef = .int .i64 i := hpre ⟨6, .data⟩ (by simp) rfl _ rfl
                              exact step_run rfl (met_some rfl rfl rfl p78) (v := .pointer (some ⟨b1, o1 + i, none⟩)) (w' := wa) (by simp [execOp, p79, p80, go_sem, hw1]) ⟨_, rfl, Below.refl _ _, rfl⟩
                            · have p78 : a.tmps.getD 78 undef = .bool true := hpre ⟨4, .guard⟩ (by simp) rfl _ rfl
                              have p81 : a.tmps.getD 81 undef = .pointer (some ⟨b1, o1 + i, none⟩) := hpre ⟨7, .data⟩ (by simp) rfl _ rfl
                              exact step_load rfl (met_some rfl rfl rfl p78) rfl p81 (by have hc := hba8 wa hba; simp [execOp, go_sem, hc]) ⟨_, rfl, Below.refl _ _, rfl⟩
                            · have p78 : a.tmps.getD 78 undef = .bool true := hpre ⟨4, .guard⟩ (by simp) rfl _ rfl
                              have p82 : a.tmps.getD 82 undef = .int .u8 q := hpre ⟨8, .data⟩ (by simp) rfl _ rfl
                              exact step_bin rfl (met_some rfl rfl rfl p78) rfl p82 rfl (r := .int .u8 ((q % 2 : Nat) : Int)) (w' := wa) (by simp [go_sem]; exact Int.tmod_eq_emod_of_nonneg (by omega)) ⟨_, rfl, Below.refl _ _, rfl⟩
                            · have p78 : a.tmps.getD 78 undef = .bool true := hpre ⟨4, .guard⟩ (by simp) rfl _ rfl
                              have p83 : a.tmps.getD 83 undef = .int .u8 ((q % 2 : Nat) : Int) := hpre ⟨9, .data⟩ (by simp) rfl _ rfl
                              exact step_bin rfl (met_some rfl rfl rfl p78) rfl p83 rfl (r := .bool false) (w' := wa) (by simp [go_sem]; omega) ⟨_, rfl, Below.refl _ _, rfl⟩
                            · have p78 : a.tmps.getD 78 undef = .bool true := hpre ⟨4, .data⟩ (by simp) rfl _ rfl
                              have p84 : a.tmps.getD 84 undef = .bool false := hpre ⟨10, .data⟩ (by simp) rfl _ rfl
                              exact step_pick rfl (met_none rfl) rfl p78 ⟨_, rfl, Below.refl _ _, p84⟩
                            · have p85 : a.tmps.getD 85 undef = .bool false := hpre ⟨11, .data⟩ (by simp) rfl _ rfl
                              exact step_move rfl (met_none rfl) (.inl rfl) ⟨_, rfl, Below.refl _ _, p85⟩
                            · have p86 : a.tmps.getD 86 undef = .bool false := hpre ⟨12, .guard⟩ (by simp) rfl _ rfl
                              exact step_skip rfl rfl rfl rfl p86 ⟨_, rfl, Below.refl _ _, rfl⟩
                            · have p86 : a.tmps.getD 86 undef = .bool false := hpre ⟨12, .guard⟩ (by simp) rfl _ rfl
                              exact step_skip rfl rfl rfl rfl p86 ⟨_, rfl, Below.refl _ _, rfl⟩
                            · have p86 : a.tmps.getD 86 undef = .bool false := hpre ⟨12, .chain⟩ (by simp) rfl _ rfl
                              exact step_skip rfl rfl rfl rfl p86 ⟨_, rfl, Below.refl _ _, rfl⟩
                            · have p86 : a.tmps.getD 86 undef = .bool false := hpre ⟨12, .guard⟩ (by simp) rfl _ rfl
                              exact step_skip rfl rfl rfl rfl p86 ⟨_, rfl, Below.refl _ _, rfl⟩
                            · have p86 : a.tmps.getD 86 undef = .bool false := hpre ⟨12, .guard⟩ (by simp) rfl _ rfl
                              exact step_skip rfl rfl rfl rfl p86 ⟨_, rfl, Below.refl _ _, rfl⟩
                            · have p91 : a.tmps.getD 91 undef = undef := hpre ⟨17, .guard⟩ (by simp) rfl _ rfl
                              exact step_skip_u rfl rfl rfl rfl p91 ⟨_, rfl, Below.refl _ _, rfl⟩
                            · have p91 : a.tmps.getD 91 undef = undef := hpre ⟨17, .guard⟩ (by simp) rfl _ rfl
                              exact step_skip_u rfl rfl rfl rfl p91 ⟨_, rfl, Below.refl _ _, rfl⟩
                            · have p86 : a.tmps.getD 86 undef = .bool false := hpre ⟨12, .guard⟩ (by simp) rfl _ rfl
                              exact step_skip rfl rfl rfl rfl p86 ⟨_, rfl, Below.refl _ _, rfl⟩
                            · have p86 : a.tmps.getD 86 undef = .bool false := hpre ⟨12, .data⟩ (by simp) rfl _ rfl
                              exact step_pick rfl (met_none rfl) rfl p86 ⟨_, rfl, Below.refl _ _, rfl⟩
                            · have p95 : a.tmps.getD 95 undef = .bool false := hpre ⟨21, .data⟩ (by simp) rfl _ rfl
                              exact step_move rfl (met_none rfl) (.inl rfl) ⟨_, rfl, Below.refl _ _, p95⟩
                            · have p96 : a.tmps.getD 96 undef = .bool false := hpre ⟨22, .guard⟩ (by simp) rfl _ rfl
                              exact step_move rfl (met_some rfl rfl rfl p96) (.inl rfl) ⟨_, rfl, Below.refl _ _, q5⟩
                            · have p96 : a.tmps.getD 96 undef = .bool false := hpre ⟨22, .chain⟩ (by simp) rfl _ rfl
                              have p97 : a.tmps.getD 97 undef = .pointer (some ⟨D, 0, none⟩) := hpre ⟨23, .data⟩ (by simp) rfl _ rfl
                              refine step_call rfl (met_some rfl rfl rfl p96) _ (args1 p97) (h30 _ _) ((lenL D M wa (I.out.on hba).1.1).mono ?_)
                              rintro e w' ⟨rfl, rfl⟩
                              exact ⟨_, rfl, _, rfl, Below.refl _ _, rfl⟩
                            · have p96 : a.tmps.getD 96 undef = .bool false := hpre ⟨22, .guard⟩ (by simp) rfl _ rfl
                              exact step_move rfl (met_some rfl rfl rfl p96) (.inl rfl) ⟨_, rfl, Below.refl _ _, q6⟩
                            · have p96 : a.tmps.getD 96 undef = .bool false := hpre ⟨22, .guard⟩ (by simp) rfl _ rfl
                              have p99 : a.tmps.getD 99 undef = .slice a6 M.length c6 := hpre ⟨25, .data⟩ (by simp) rfl _ rfl
                              exact step_len_slice Tryd.underlying24 rfl (met_some rfl rfl rfl p96) rfl p99 ⟨_, rfl, Below.refl _ _, rfl⟩
                            · have p96 : a.tmps.getD 96 undef = .bool false := hpre ⟨22, .guard⟩ (by simp) rfl _ rfl
                              have p98 : a.tmps.getD 98 undef = .int .i64 M.length := hpre ⟨24, .data⟩ (by simp) rfl _ rfl
                              have p100 : a.tmps.getD 100 undef = .int .i64 M.length := hpre ⟨26, .data⟩ (by simp) rfl _ rfl
                              exact step_bin rfl (met_some rfl rfl rfl p96) rfl p98 p100 (r := .bool false) (w' := wa) (by simp [go_sem]) ⟨_, rfl, Below.refl _ _, rfl⟩
                            · have p96 : a.tmps.getD 96 undef = .bool false := hpre ⟨22, .data⟩ (by simp) rfl _ rfl
                              have p101 : a.tmps.getD 101 undef = .bool false := hpre ⟨27, .data⟩ (by simp) rfl _ rfl
                              exact step_pick rfl (met_none rfl) rfl p96 ⟨_, rfl, Below.refl _ _, p101⟩
                          · intro a wa hba hF ha
                            have f0 : a.tmps.getD 74 undef = .int .i64 i := hF 0 _ rfl
                            have f1 : a.tmps.getD 75 undef = .slice (some ⟨b1, o1, none⟩) len1 cap1 := hF 1 _ rfl
                            have f2 : a.tmps.getD 76 undef = .int .i64 len1 := hF 2 _ rfl
                            have f3 : a.tmps.getD 77 undef = .bool true := hF 3 _ rfl
                            have f4 : a.tmps.getD 78 undef = .bool true := hF 4 _ rfl
                            have f5 : a.tmps.getD 79 undef = .slice (some ⟨b1, o1, none⟩) len1 cap1 := hF 5 _ rfl
                            have f6 : a.tmps.getD 80 undef = .int .i64 i := hF 6 _ rfl
                            have f7 : a.tmps.getD 81 undef = .pointer (some ⟨b1, o1 + i, none⟩) := hF 7 _ rfl
                            have f8 : a.tmps.getD 82 undef = .int .u8 q := hF 8 _ rfl
                            have f9 : a.tmps.getD 83 undef = .int .u8 ((q % 2 : Nat) : Int) := hF 9 _ rfl
                            have f10 : a.tmps.getD 84 undef = .bool false := hF 10 _ rfl
                            have f11 : a.tmps.getD 85 undef = .bool false := hF 11 _ rfl
                            have f12 : a.tmps.getD 86 undef = .bool false := hF 12 _ rfl
                            have f13 : a.tmps.getD 87 undef = undef := hF 13 _ rfl
                            have f14 : a.tmps.getD 88 undef = undef := hF 14 _ rfl
                            have f15 : a.tmps.getD 89 undef = undef := hF 15 _ rfl
                            have f16 : a.tmps.getD 90 undef = undef := hF 16 _ rfl
                            have f17 : a.tmps.getD 91 undef = undef := hF 17 _ rfl
                            have f18 : a.tmps.getD 92 undef = undef := hF 18 _ rfl
                            have f19 : a.tmps.getD 93 undef = undef := hF 19 _ rfl
                            have f20 : a.tmps.getD 94 undef = undef := hF 20 _ rfl
                            have f21 : a.tmps.getD 95 undef = .bool false := hF 21 _ rfl
                            have f22 : a.tmps.getD 96 undef = .bool false := hF 22 _ rfl
                            have f23 : a.tmps.getD 97 undef = .pointer (some ⟨D, 0, none⟩) := hF 23 _ rfl
                            have f24 : a.tmps.getD 98 undef = .int .i64 M.length := hF 24 _ rfl
                            have f25 : a.tmps.getD 99 undef = .slice a6 M.length c6 := hF 25 _ rfl
                            have f26 : a.tmps.getD 100 undef = .int .i64 M.length := hF 26 _ rfl
                            have f27 : a.tmps.getD 101 undef = .bool false := hF 27 _ rfl
                            have f28 : a.tmps.getD 102 undef = .bool false := hF 28 _ rfl
                            clear hF
                            simp only [List.foldl, fillFrom, f0, f1, f2, f3, f4, f5, f6, f7, f8, f9, f10, f11, f12, f13, f14, f15, f16, f17, f18, f19, f20, f21, f22, f23, f24, f25, f26, f27, f28] at ha
                            clear f0 f1 f2 f3 f4 f5 f6 f7 f8 f9 f10 f11 f12 f13 f14 f15 f16 f17 f18 f19 f20 f21 f22 f23 f24 f25 f26 f27 f28
                            subst ha
                            simp only [Act.put, List.setIfInBounds_toArray, List.set_cons_succ, List.set_cons_zero]
                            go_wp2_with fail
                            go_meet
                            exact ⟨rfl, I.out.on hba⟩
                      · skip
                        refine wp_region_facts (fun ix v W => match ix with | 0 => v = .int .i64 i | 1 => v = .slice a1 len1 cap1 | 2 => v = .int .i64 len1 | 3 => v = .bool false | 4 => v = .bool false | 5 => v = undef | 6 => v = undef | 7 => v = undef | 8 => v = undef | 9 => v = undef | 10 => v = undef | 11 => v = .bool false | 12 => v = .bool false | 13 => v = undef | 14 => v = undef | 15 => v = undef | 16 => v = undef | 17 => v = undef | 18 => v = undef | 19 => v = undef | 20 => v = undef | 21 => v = .bool false | 22 => v = .bool false | 23 => v = .pointer (some ⟨D, 0, none⟩) | 24 => v = .int .i64 M.length | 25 => v = .slice a6 M.length c6 | 26 => v = .int .i64 M.length | 27 => v = .bool false | _ => v = .bool false)
                          (by kernel_rfl) (by kernel_rfl) (by decide +kernel) (by kernel_rfl) (fun i v w w' h _ => h) ?_ ?_
                        · intro ix
                          rcases ix with _ | _ | _ | _ | _ | _ | _ | _ | _ | _ | _ | _ | _ | _ | _ | _ | _ | _ | _ | _ | _ | _ | _ | _ | _ | _ | _ | _ | _ | ix
                          all_goals intro o ho a wa hba hout hsz hpre
                          all_goals cases ho
                          all_goals have q7 : a.tmps.getD 7 undef = .int .i64 i := (hout 7 (by decide +kernel)).trans rfl
                          all_goals have q1 : a.tmps.getD 1 undef = .slice a1 len1 cap1 := (hout 1 (by decide +kernel)).trans rfl
                          all_goals have q5 : a.tmps.getD 5 undef = .pointer (some ⟨D, 0, none⟩) := (hout 5 (by decide +kernel)).trans rfl
                          all_goals have q6 : a.tmps.getD 6 undef = .slice a6 M.length c6 := (hout 6 (by decide +kernel)).trans rfl
                          all_goals have q11 : a.tmps.getD 11 undef = .pointer (some ⟨N11, 0, none⟩) := (hout 11 (by decide +kernel)).trans rfl
                          all_goals have q12 : a.tmps.getD 12 undef = .int .i64 0 := (hout 12 (by decide +kernel)).trans rfl
                          all_goals clear hout hsz
                          · exact step_move rfl (met_none rfl) (.inl rfl) ⟨_, rfl, Below.refl _ _, q7⟩
                          · exact step_move rfl (met_none rfl) (.inl rfl) ⟨_, rfl, Below.refl _ _, q1⟩
                          · have p75 : a.tmps.getD 75 undef = .slice a1 len1 cap1 := hpre ⟨1, .data⟩ (by simp) rfl _ rfl
                            exact step_len_slice Tryd.underlying24 rfl (met_none rfl) rfl p75 ⟨_, rfl, Below.refl _ _, rfl⟩
                          · have p74 : a.tmps.getD 74 undef = .int .i64 i := hpre ⟨0, .data⟩ (by simp) rfl _ rfl
                            have p76 : a.tmps.getD 76 undef = .int .i64 len1 := hpre ⟨2, .data⟩ (by simp) rfl _ rfl
                            exact step_bin rfl (met_none rfl) rfl p74 p76 (r := .bool false) (w' := wa) (by simp [go_sem]; omega) ⟨_, rfl, Below.refl _ _, rfl⟩
                          · have p77 : a.tmps.getD 77 undef = .bool false := hpre ⟨3, .data⟩ (by simp) rfl _ rfl
                            exact step_move rfl (met_none rfl) (.inl rfl) ⟨_, rfl, Below.refl _ _, p77⟩
                          · have p78 : a.tmps.getD 78 undef = .bool false := hpre ⟨4, .guard⟩ (by simp) rfl _ rfl
                            exact step_skip rfl rfl rfl rfl p78 ⟨_, rfl, Below.refl _ _, rfl⟩
                          · have p78 : a.tmps.getD 78 undef = .bool false := hpre ⟨4, .guard⟩ (by simp) rfl _ rfl
                            exact step_skip rfl rfl rfl rfl p78 ⟨_, rfl, Below.refl _ _, rfl⟩
                          · have p78 : a.tmps.getD 78 undef = .bool false := hpre ⟨4, .guard⟩ (by simp) rfl _ rfl
                            exact step_skip rfl rfl rfl rfl p78 ⟨_, rfl, Below.refl _ _, rfl⟩
                          · have p78 : a.tmps.getD 78 undef = .bool false := hpre ⟨4, .guard⟩ (by simp) rfl _ rfl
                            exact step_skip rfl rfl rfl rfl p78 ⟨_, rfl, Below.refl _ _, rfl⟩
                          · have p78 : a.tmps.getD 78 undef = .bool false := hpre ⟨4, .guard⟩ (by simp) rfl _ rfl
                            exact step_skip rfl rfl rfl rfl p78 ⟨_, rfl, Below.refl _ _, rfl⟩
                          · have p78 : a.tmps.getD 78 undef = .bool false := hpre ⟨4, .guard⟩ (by simp) rfl _ rfl
                            exact step_skip rfl rfl rfl rfl p78 ⟨_, rfl, Below.refl _ _, rfl⟩
                          · have p78 : a.tmps.getD 78 undef = .bool false := hpre ⟨4, .data⟩ (by simp) rfl _ rfl
                            exact step_pick rfl (met_none rfl) rfl p78 ⟨_, rfl, Below.refl _ _, rfl⟩
                          · have p85 : a.tmps.getD 85 undef = .bool false := hpre ⟨11, .data⟩ (by simp) rfl _ rfl
                            exact step_move rfl (met_none rfl) (.inl rfl) ⟨_, rfl, Below.refl _ _, p85⟩
                          · have p86 : a.tmps.getD 86 undef = .bool false := hpre ⟨12, .guard⟩ (by simp) rfl _ rfl
                            exact step_skip rfl rfl rfl rfl p86 ⟨_, rfl, Below.refl _ _, rfl⟩
                          · have p86 : a.tmps.getD 86 undef = .bool false := hpre ⟨12, .guard⟩ (by simp) rfl _ rfl
                            exact step_skip rfl rfl rfl rfl p86 ⟨_, rfl, Below.refl _ _, rfl⟩
                          · have p86 : a.tmps.getD 86 undef = .bool false := hpre ⟨12, .chain⟩ (by simp) rfl _ rfl
                            exact step_skip rfl rfl rfl rfl p86 ⟨_, rfl, Below.refl _ _, rfl⟩
                          · have p86 : a.tmps.getD 86 undef = .bool false := hpre ⟨12, .guard⟩ (by simp) rfl _ rfl
                            exact step_skip rfl rfl rfl rfl p86 ⟨_, rfl, Below.refl _ _, rfl⟩
                          · have p86 : a.tmps.getD 86 undef = .bool false := hpre ⟨12, .guard⟩ (by simp) rfl _ rfl
                            exact step_skip rfl rfl rfl rfl p86 ⟨_, rfl, Below.refl _ _, rfl⟩
                          · have p91 : a.tmps.getD 91 undef = undef := hpre ⟨17, .guard⟩ (by simp) rfl _ rfl
                            exact step_skip_u rfl rfl rfl rfl p91 ⟨_, rfl, Below.refl _ _, rfl⟩
                          · have p91 : a.tmps.getD 91 undef = undef := hpre ⟨17, .guard⟩ (by simp) rfl _ rfl
                            exact step_skip_u rfl rfl rfl rfl p91 ⟨_, rfl, Below.refl _ _, rfl⟩
                          · have p86 : a.tmps.getD 86 undef = .bool false := hpre ⟨12, .guard⟩ (by simp) rfl _ rfl
                            exact step_skip rfl rfl rfl rfl p86 ⟨_, rfl, Below.refl _ _, rfl⟩
                          · have p86 : a.tmps.getD 86 undef = .bool false := hpre ⟨12, .data⟩ (by simp) rfl _ rfl
                            exact step_pick rfl (met_none rfl) rfl p86 ⟨_, rfl, Below.refl _ _, rfl⟩
                          · have p95 : a.tmps.getD 95 undef = .bool false := hpre ⟨21, .data⟩ (by simp) rfl _ rfl
                            exact step_move rfl (met_none rfl) (.inl rfl) ⟨_, rfl, Below.refl _ _, p95⟩
                          · have p96 : a.tmps.getD 96 undef = .bool false := hpre ⟨22, .guard⟩ (by simp) rfl _ rfl
                            exact step_move rfl (met_some rfl rfl rfl p96) (.inl rfl) ⟨_, rfl, Below.refl _ _, q5⟩
                          · have p96 : a.tmps.getD 96 undef = .bool false := hpre ⟨22, .chain⟩ (by simp) rfl _ rfl
                            have p97 : a.tmps.getD 97 undef = .pointer (some ⟨D, 0, none⟩) := hpre ⟨23, .data⟩ (by simp) rfl _ rfl
                            refine step_call rfl (met_some rfl rfl rfl p96) _ (args1 p97) (h30 _ _) ((lenL D M wa (I.out.on hba).1.1).mono ?_)
                            rintro e w' ⟨rfl, rfl⟩
                            exact ⟨_, rfl, _, rfl, Below.refl _ _, rfl⟩
                          · have p96 : a.tmps.getD 96 undef = .bool false := hpre ⟨22, .guard⟩ (by simp) rfl _ rfl
                            exact step_move rfl (met_some rfl rfl rfl p96) (.inl rfl) ⟨_, rfl, Below.refl _ _, q6⟩
                          · have p96 : a.tmps.getD 96 undef = .bool false := hpre ⟨22, .guard⟩ (by simp) rfl _ rfl
                            have p99 : a.tmps.getD 99 undef = .slice a6 M.length c6 := hpre ⟨25, .data⟩ (by simp) rfl _ rfl
                            exact step_len_slice Tryd.underlying24 rfl (met_some rfl rfl rfl p96) rfl p99 ⟨_, rfl, Below.refl _ _, rfl⟩
                          · have p96 : a.tmps.getD 96 undef = .bool false := hpre ⟨22, .guard⟩ (by simp) rfl _ rfl
                            have p98 : a.tmps.getD 98 undef = .int .i64 M.length := hpre ⟨24, .data⟩ (by simp) rfl _ rfl
                            have p100 : a.tmps.getD 100 undef = .int .i64 M.length := hpre ⟨26, .data⟩ (by simp) rfl _ rfl
                            exact step_bin rfl (met_some rfl rfl rfl p96) rfl p98 p100 (r := .bool false) (w' := wa) (by simp [go_sem]) ⟨_, rfl, Below.refl _ _, rfl⟩
                          · have p96 : a.tmps.getD 96 undef = .bool false := hpre ⟨22, .data⟩ (by simp) rfl _ rfl
                            have p101 : a.tmps.getD 101 undef = .bool false := hpre ⟨27, .data⟩ (by simp) rfl _ rfl
                            exact step_pick rfl (met_none rfl) rfl p96 ⟨_, rfl, Below.refl _ _, p101⟩
                        · intro a wa hba hF ha
                          have f0 : a.tmps.getD 74 undef = .int .i64 i := hF 0 _ rfl
                          have f1 : a.tmps.getD 75 undef = .slice a1 len1 cap1 := hF 1 _ rfl
                          have f2 : a.tmps.getD 76 undef = .int .i64 len1 := hF 2 _ rfl
                          have f3 : a.tmps.getD 77 undef = .bool false := hF 3 _ rfl
                          have f4 : a.tmps.getD 78 undef = .bool false := hF 4 _ rfl
                          have f5 : a.tmps.getD 79 undef = undef := hF 5 _ rfl
                          have f6 : a.tmps.getD 80 undef = undef := hF 6 _ rfl
                          have f7 : a.tmps.getD 81 undef = undef := hF 7 _ rfl
                          have f8 : a.tmps.getD 82 undef = undef := hF 8 _ rfl
                          have f9 : a.tmps.getD 83 undef = undef := hF 9 _ rfl
                          have f10 : a.tmps.getD 84 undef = undef := hF 10 _ rfl
                          have f11 : a.tmps.getD 85 undef = .bool false := hF 11 _ rfl
                          have f12 : a.tmps.getD 86 undef = .bool false := hF 12 _ rfl
                          have f13 : a.tmps.getD 87 undef = undef := hF 13 _ rfl
                          have f14 : a.tmps.getD 88 undef = undef := hF 14 _ rfl
                          have f15 : a.tmps.getD 89 undef = undef := hF 15 _ rfl
                          have f16 : a.tmps.getD 90 undef = undef := hF 16 _ rfl
                          have f17 : a.tmps.getD 91 undef = undef := hF 17 _ rfl
                          have f18 : a.tmps.getD 92 undef = undef := hF 18 _ rfl
                          have f19 : a.tmps.getD 93 undef = undef := hF 19 _ rfl
                          have f20 : a.tmps.getD 94 undef = undef := hF 20 _ rfl
                          have f21 : a.tmps.getD 95 undef = .bool false := hF 21 _ rfl
                          have f22 : a.tmps.getD 96 undef = .bool false := hF 22 _ rfl
                          have f23 : a.tmps.getD 97 undef = .pointer (some ⟨D, 0, none⟩) := hF 23 _ rfl
                          have f24 : a.tmps.getD 98 undef = .int .i64 M.length := hF 24 _ rfl
                          have f25 : a.tmps.getD 99 undef = .slice a6 M.length c6 := hF 25 _ rfl
                          have f26 : a.tmps.getD 100 undef = .int .i64 M.length := hF 26 _ rfl
                          have f27 : a.tmps.getD 101 undef = .bool false := hF 27 _ rfl
                          have f28 : a.tmps.getD 102 undef = .bool false := hF 28 _ rfl
                          clear hF
                          simp only [List.foldl, fillFrom, f0, f1, f2, f3, f4, f5, f6, f7, f8, f9, f10, f11, f12, f13, f14, f15, f16, f17, f18, f19, f20, f21, f22, f23, f24, f25, f26, f27, f28] at ha
                          clear f0 f1 f2 f3 f4 f5 f6 f7 f8 f9 f10 f11 f12 f13 f14 f15 f16 f17 f18 f19 f20 f21 f22 f23 f24 f25 f26 f27 f28
                          subst ha
                          simp only [Act.put, List.setIfInBounds_toArray, List.set_cons_succ, List.set_cons_zero]
                          go_wp2_with fail
                          go_meet
                          exact ⟨rfl, I.out.on hba⟩
                    case rest =>
                      obtain ⟨rfl, I⟩ := hcut
                      go_wp2_with fail
                      go_roundg (gk - 1)
                      case measure => omega
                      case rel => exact ⟨i + 1, M, by omega, rfl, hMl, I⟩
        · obtain rfl : i = len0 := by omega
          have t2 : decide (i < i) = false := decide_eq_false (by omega)
          go_wp2_with fail
          go_meet
          exact ⟨L, by omega, I⟩
    case rest =>
      obtain ⟨L, hL, I⟩ := hcut
      obtain ⟨d, hd⟩ : ∃ d, Hid (d = sumF L) := ⟨_, rfl⟩
      go_wp2_with fail
      refine (sumL D L (by omega) d hd.out _ I.out.1.2.2 I.out.1.1 (hT.out.on I.out.1.2.1)).mono ?_; rintro e w8 ⟨rfl, hb⟩
      replace I := Lib.hid (I.out.on hb); clear hb
      have z13 := Lib.hid (B16.mk w8 d 34)
      have g13 : w8.heap.size < (w8.alloc (e16 d 34)).heap.size := by simp
      replace I := Lib.hid (I.out.on ((Below.refl _ _).alloc (Nat.le_refl _) (e16 d 34)))
      go_upto_region 29 with (fail)
      show Code.wp _ _ _ _ (w8.alloc (e16 d 34))
      generalize w8.alloc (e16 d 34) = w9 at z13 g13 I ⊢
      generalize w8.heap.size = N13 at z13 g13 ⊢
      have hav := Row.of_owned I.out.2
      obtain ⟨a6, c6, rfl⟩ := rowB_len hav
      have h14 := Tryd.call14
      have h29 := Tryd.call29
      have HT := Lib.hid (hT.out.on I.out.1.2.1)
      have B9 := Lib.hid I.out.1.2.1
      clear hR hr1 hwl hAp hT hT1
      refine wp_region_facts (fun ix v W => match ix with | 0 => v = .int .i64 0 | 1 => v = .bool true | 2 => v = .bool true | 3 => v = .agg #[e8 d 0, e8 d 1, e8 d 2, e8 d 3, e8 d 4, e8 d 5, e8 d 6, e8 d 7, e8 d 8, e8 d 9, e8 d 10, e8 d 11, e8 d 12, e8 d 13, e8 d 14, e8 d 15] | 4 => v = .slice a6 L.length c6 | 5 => v = .agg #[e8 d 0, e8 d 1, e8 d 2, e8 d 3, e8 d 4, e8 d 5, e8 d 6, e8 d 7, e8 d 8, e8 d 9, e8 d 10, e8 d 11, e8 d 12, e8 d 13, e8 d 14, e8 d 15] | 6 => v = .bool true | 7 => v = .bool true | 8 => v = .bool true | 9 => v = .bool true | 10 => v = .bool true | _ => v = .bool true)
        (by kernel_rfl) (by kernel_rfl) (by decide +kernel) (by kernel_rfl) (fun i v w w' h _ => h) ?_ ?_
      · intro ix
        rcases ix with _ | _ | _ | _ | _ | _ | _ | _ | _ | _ | _ | _ | ix
        all_goals intro o ho a wa hba hout hsz hpre
        all_goals cases ho
        all_goals have q14 : a.tmps.getD 14 undef = .int .i64 0 := (hout 14 (by decide +kernel)).trans rfl
        all_goals have q13 : a.tmps.getD 13 undef = .pointer (some ⟨N13, 0, none⟩) := (hout 13 (by decide +kernel)).trans rfl
        all_goals have q6 : a.tmps.getD 6 undef = .slice a6 L.length c6 := (hout 6 (by decide +kernel)).trans rfl
        all_goals clear hout hsz
        · exact step_move rfl (met_none rfl) (.inl rfl) ⟨_, rfl, Below.refl _ _, q14⟩
        · have p109 : a.tmps.getD 109 undef = .int .i64 0 := hpre ⟨0, .data⟩ (by simp) rfl _ rfl
          exact step_bin rfl (met_none rfl) rfl p109 rfl (r := .bool true) (w' := wa) (by simp [go_sem]) ⟨_, rfl, Below.refl _ _, rfl⟩
        · have p110 : a.tmps.getD 110 undef = .bool true := hpre ⟨1, .data⟩ (by simp) rfl _ rfl
          exact step_move rfl (met_none rfl) (.inl rfl) ⟨_, rfl, Below.refl _ _, p110⟩
        · have p111 : a.tmps.getD 111 undef = .bool true := hpre ⟨2, .guard⟩ (by simp) rfl _ rfl
          exact step_load rfl (met_some rfl rfl rfl p111) rfl q13 (load16 _ _ _ _ _ (z13.out.block (hba.block N13 g13))) ⟨_, rfl, Below.refl _ _, rfl⟩
        · have p111 : a.tmps.getD 111 undef = .bool true := hpre ⟨2, .guard⟩ (by simp) rfl _ rfl
          exact step_move rfl (met_some rfl rfl rfl p111) (.inl rfl) ⟨_, rfl, Below.refl _ _, q6⟩
        · have p111 : a.tmps.getD 111 undef = .bool true := hpre ⟨2, .chain⟩ (by simp) rfl _ rfl
          have p113 : a.tmps.getD 113 undef = .slice a6 L.length c6 := hpre ⟨4, .data⟩ (by simp) rfl _ rfl
          refine step_call rfl (met_some rfl rfl rfl p111) _ (args1 p113) (h29 _ _) ((rsum_any _ L (by omega) d hd.out _ (hav.on hba)).mono ?_)
          rintro e w' ⟨rfl, hb⟩
          exact ⟨_, rfl, _, rfl, hb, rfl⟩
        · have p111 : a.tmps.getD 111 undef = .bool true := hpre ⟨2, .guard⟩ (by simp) rfl _ rfl
          have p112 : a.tmps.getD 112 undef = .agg #[e8 d 0, e8 d 1, e8 d 2, e8 d 3, e8 d 4, e8 d 5, e8 d 6, e8 d 7, e8 d 8, e8 d 9, e8 d 10, e8 d 11, e8 d 12, e8 d 13, e8 d 14, e8 d 15] := hpre ⟨3, .data⟩ (by simp) rfl _ rfl
          have p114 : a.tmps.getD 114 undef = .agg #[e8 d 0, e8 d 1, e8 d 2, e8 d 3, e8 d 4, e8 d 5, e8 d 6, e8 d 7, e8 d 8, e8 d 9, e8 d 10, e8 d 11, e8 d 12, e8 d 13, e8 d 14, e8 d 15] := hpre ⟨5, .data⟩ (by simp) rfl _ rfl
          exact step_bin rfl (met_some rfl rfl rfl p111) rfl p112 p114 (r := .bool true) (w' := wa) (eql34 d d true (eqD_same d) wa) ⟨_, rfl, Below.refl _ _, rfl⟩
        · have p111 : a.tmps.getD 111 undef = .bool true := hpre ⟨2, .data⟩ (by simp) rfl _ rfl
          have p115 : a.tmps.getD 115 undef = .bool true := hpre ⟨6, .data⟩ (by simp) rfl _ rfl
          exact step_pick rfl (met_none rfl) rfl p111 ⟨_, rfl, Below.refl _ _, p115⟩
        · have p116 : a.tmps.getD 116 undef = .bool true := hpre ⟨7, .data⟩ (by simp) rfl _ rfl
          exact step_move rfl (met_none rfl) (.inl rfl) ⟨_, rfl, Below.refl _ _, p116⟩
        · have p117 : a.tmps.getD 117 undef = .bool true := hpre ⟨8, .chain⟩ (by simp) rfl _ rfl
          refine step_call rfl (met_some rfl rfl rfl p117) #[] (by simp) (h14 _ _) ((awake_any wa (HT.out.on hba)).mono ?_)
          rintro e w' ⟨rfl, hb⟩
          exact ⟨_, rfl, _, rfl, hb, rfl⟩
        · have p117 : a.tmps.getD 117 undef = .bool true := hpre ⟨8, .data⟩ (by simp) rfl _ rfl
          have p118 : a.tmps.getD 118 undef = .bool true := hpre ⟨9, .data⟩ (by simp) rfl _ rfl
          exact step_pick rfl (met_none rfl) rfl p117 ⟨_, rfl, Below.refl _ _, p118⟩
        · have p119 : a.tmps.getD 119 undef = .bool true := hpre ⟨10, .data⟩ (by simp) rfl _ rfl
          exact step_move rfl (met_none rfl) (.inr rfl) ⟨_, rfl, Below.refl _ _, p119⟩
      · intro a wa hba hF ha
        have f0 : a.tmps.getD 109 undef = .int .i64 0 := hF 0 _ rfl
        have f1 : a.tmps.getD 110 undef = .bool true := hF 1 _ rfl
        have f2 : a.tmps.getD 111 undef = .bool true := hF 2 _ rfl
        have f3 : a.tmps.getD 112 undef = .agg #[e8 d 0, e8 d 1, e8 d 2, e8 d 3, e8 d 4, e8 d 5, e8 d 6, e8 d 7, e8 d 8, e8 d 9, e8 d 10, e8 d 11, e8 d 12, e8 d 13, e8 d 14, e8 d 15] := hF 3 _ rfl
        have f4 : a.tmps.getD 113 undef = .slice a6 L.length c6 := hF 4 _ rfl
        have f5 : a.tmps.getD 114 undef = .agg #[e8 d 0, e8 d 1, e8 d 2, e8 d 3, e8 d 4, e8 d 5, e8 d 6, e8 d 7, e8 d 8, e8 d 9, e8 d 10, e8 d 11, e8 d 12, e8 d 13, e8 d 14, e8 d 15] := hF 5 _ rfl
        have f6 : a.tmps.getD 115 undef = .bool true := hF 6 _ rfl
        have f7 : a.tmps.getD 116 undef = .bool true := hF 7 _ rfl
        have f8 : a.tmps.getD 117 undef = .bool true := hF 8 _ rfl
        have f9 : a.tmps.getD 118 undef = .bool true := hF 9 _ rfl
        have f10 : a.tmps.getD 119 undef = .bool true := hF 10 _ rfl
        have f11 : a.tmps.getD 4 undef = .bool true := hF 11 _ rfl
        clear hF
        simp only [List.foldl, fillFrom, f0, f1, f2, f3, f4, f5, f6, f7, f8, f9, f10, f11] at ha
        clear f0 f1 f2 f3 f4 f5 f6 f7 f8 f9 f10 f11
        subst ha
        simp only [Act.put, List.setIfInBounds_toArray, List.set_cons_succ, List.set_cons_zero]
        replace B9 := Lib.hid (B9.out.trans (hba.mono B9.out.size))
        clear hba
        go_wp2_with fail
        go_ret
        exact ⟨rfl, B9.out⟩
/-- The law Md5Pieces. -/
theorem md5Pieces_walk (a0 : Option Addr) (len0 cap0 : Nat) (z0 : Unit) (a1 : Option Addr) (len1 cap1 : Nat) (z1 : List Int) (w : World) (w0 : IsRows w a0 len0 cap0 z0) (w1 : IsRow .u8 w a1 len1 cap1 z1) (hT : Tabs w) :
    Calls Tryd.prog 10 #[.slice a0 len0 cap0, .slice a1 len1 cap1] w fun e w' => e = .returned (.bool true) ∧ Below w.heap.size w w' := by
  obtain ⟨l, hl, _, hr⟩ := w1.bytes
  exact pieces_any w a0 len0 cap0 w0 a1 len1 cap1 l hl hr hT
end Go.Proofs.YtimiejahkcjcdaaDoor
