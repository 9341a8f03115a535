/- The law Md5Blocks. -/
import Derived.Test.YtimiejahkcjcdaaDoorM36
import Derived.Test.YtimiejahkcjcdaaDoorM32
import Derived.Deep.RegionWith
import Derived.StillTailTactics
namespace Go.Proofs.YtimiejahkcjcdaaDoor
open Go.RowKit

/-- What holds at the loop over the blocks. -/
def BlkI (w : World) (N g off n cap : Nat) (L : List UInt8) (s : S4) (wx : World) : Prop :=
  St4 wx N s ∧ RowB wx (.slice (some ⟨g, off, none⟩) n cap) L ∧ Below w.heap.size w wx ∧ N + 1 ≤ wx.heap.size
theorem BlkI.on {w : World} {N g off n cap : Nat} {L : List UInt8} {s : S4} {A B : World} (h : BlkI w N g off n cap L s A) (hb : Below A.heap.size A B) (hw : w.heap.size ≤ N) : BlkI w N g off n cap L s B := by
  obtain ⟨h1, h2, h3, h4⟩ := h
  exact ⟨h1.block (hb.block _ (by omega)), h2.on hb, h3.trans (hb.mono (by omega)), Nat.le_trans h4 hb.size⟩
theorem BlkI.set {w : World} {N g off n cap : Nat} {L : List UInt8} {s : S4} {A : World} (h : BlkI w N g off n cap L s A) (s2 : S4) (hw : w.heap.size ≤ N) (hg : g < N) : BlkI w N g off n cap L s2 (St4.setAll A N s2) := by
  obtain ⟨h1, h2, h3, h4⟩ := h
  exact ⟨h1.set s2, row_block h2 (by simp [St4.setAll]) (setAll_other s2 (by omega)), setAll_below s2 h3 hw, by simp [St4.setAll]; omega⟩
/-- What the region with the step leaves. -/
def BlkP (w : World) (N g off n cap : Nat) (L : List UInt8) (s s2 : S4) (b : Nat) (wx : World) : Prop := St4 wx b s2 ∧ BlkI w N g off n cap L s wx ∧ N + 1 ≤ b ∧ b < wx.heap.size
theorem blkP_A {w w9 : World} {N g off n cap : Nat} {L : List UInt8} {s s2 : S4} (X : BlkI w N g off n cap L s w9) (hw : w.heap.size ≤ N) : BlkP w N g off n cap L s s2 w9.heap.size (w9.alloc (.cells #[.int .u32 (U s2.a), .int .u32 (U s2.b), .int .u32 (U s2.c), .int .u32 (U s2.d)] 30)) :=
  ⟨St4.new w9 s2 30, X.on ((Below.refl _ _).alloc (Nat.le_refl _) _) hw, X.2.2.2, by simp⟩
theorem blkP_B {w w9 : World} {N g off n cap : Nat} {L : List UInt8} {s s2 z : S4} {b : Nat} (X : BlkI w N g off n cap L s w9) (hw : w.heap.size ≤ N) (hg : g < N) (Z : St4 w9 b z) (hb : N + 1 ≤ b) (hb2 : b + 1 ≤ w9.heap.size) : BlkP w N g off n cap L s s2 b (St4.setAll w9 b s2) := by
  obtain ⟨h1, h2, h3, h4⟩ := X
  exact ⟨Z.set s2, ⟨h1.block (setAll_other s2 (by omega)), row_block h2 (by simp [St4.setAll]) (setAll_other s2 (by omega)), setAll_below s2 h3 (by omega), by simp [St4.setAll]; omega⟩, hb, by simp [St4.setAll]; omega⟩
set_option maxRecDepth 100000 in
set_option maxHeartbeats 2000000 in
theorem blocks_any (a : Option Addr) (len cap : Nat) (l0 : List UInt8) (hl0 : l0.length = len) (hlm : len ≤ maxLen) (w : World) (hr : RowB w (.slice a len cap) l0) (hT : Tabs w) :
    Calls Tryd.prog 4 #[.slice a len cap] w fun e w' => e = .returned (.bool true) ∧ Below w.heap.size w w' := by
  have hcap := rowB_cap hr
  have hrt := fun m hm => row_take (hl0 ▸ hr) m hm
  replace hrt := Lib.hid hrt
  replace hT := Lib.hid hT
  unfold maxLen at hlm
  clear hr
  go_enter Tryd.func4, Tryd.ntmps4
  go_upto_region 2 with (fail)
  obtain ⟨n, hn⟩ : ∃ n : Nat, min (len : Int) 3000 = n := ⟨min len 3000, by omega⟩
  have hnl : n ≤ len := by omega
  have hn3 : n ≤ 3000 := by omega
  simp only [hn, Int.toNat_natCast]
  obtain ⟨l, hl⟩ : ∃ l, l = l0.take n := ⟨_, rfl⟩
  have hr : RowB w (.slice a n cap) l := by
    have := hrt.out n (by omega)
    rw [hl]; exact this
  have hll : Hid (l.length = n) := by show _ = _; rw [hl]; simp; omega
  replace hr := Lib.hid hr
  clear hl hrt hl0 hn
  obtain ⟨z, hz⟩ : ∃ z, Hid (z = z0 n) := ⟨_, rfl⟩
  obtain ⟨p, hp⟩ : ∃ p, Hid (p = padF n) := ⟨_, rfl⟩
  obtain ⟨q, hq⟩ : ∃ q, Hid (q = p.length) := ⟨_, rfl⟩
  have hqz : Hid (q = z + 9) := by show _ = _; rw [hq.out, hp.out, padF_len, hz.out]; omega
  have hq9 : 9 ≤ q := by have := hqz.out; omega
  have hz64 : z < 64 := by rw [hz.out]; exact z0_lt n
  have hq72 : q ≤ 72 := by have := hqz.out; omega
  have h64 : Hid ((n + q) % 64 = 0) := by rw [hq.out, hp.out]; exact z0_sum n
  have hcall := Lib.hid (fun W => pad_to n (by omega) p hp.out W)
  go_wp2_with fail
  refine (hcall.out _).mono ?_; rintro e w1 ⟨⟨pv, rfl, hp1⟩, hb1⟩
  clear hcall
  have B1 := Lib.hid hb1
  clear hb1
  obtain ⟨g, o, c, rfl, hg, hgc, hgm, hcell⟩ := rowB_cells hp1 (fun e => by rw [e] at hq; have := hq.out; simp at this; omega)
  replace hp1 := Lib.hid hp1
  rw [← hq.out] at hp1 hgc hcell ⊢
  have c0 : w1.cell? ⟨g, o, none⟩ = some (.int .u8 128) := by
    have := hcell 0 (by omega)
    rw [Nat.add_zero, hp.out, pad_at0] at this
    exact this
  have HC := Lib.hid hcell
  clear hcell
  have t1 : decide ((q : Int) < 9) = false := decide_eq_false (by omega)
  have t2 : decide (72 < (q : Int)) = false := decide_eq_false (by omega)
  have t3 : ((((n : Int) + (q : Int)) % 64) != 0) = false := by have := h64.out; simp; omega
  have t4 : 0 < q := by omega
  go_upto_block 0 with (fail)
  obtain ⟨m, hm⟩ : ∃ m, Hid (m = z + 1) := ⟨_, rfl⟩
  go_cut [5] (fun s5 wx => s5 = .int .i64 ((8 * n : Nat) : Int) ∧ w1 = wx)
  case first =>
    have hqm : (q : Int) - 8 = (m : Int) := by have := hqz.out; have := hm.out; omega
    have hm1 : m + 8 = q := by have := hqz.out; have := hm.out; omega
    clear t1 t2 t3 c0
    go_wp2_with fail
    go_loopg [5, 55] 8 (fun gh s5 s55 wx => ∃ k : Nat, k + gh = 8 ∧ s55 = .int .i64 k ∧ s5 = .int .i64 ((8 * n % 256 ^ k : Nat) : Int) ∧ w1 = wx)
    case atStart => exact ⟨0, by omega, rfl, by rw [Nat.pow_zero, Nat.mod_one]; rfl, rfl⟩
    case round =>
      obtain ⟨k, hk, rfl, rfl, rfl⟩ := hrel
      by_cases hlt : k < 8
      · have t5 : decide ((k : Int) < 8) = true := decide_eq_true (by omega)
        obtain ⟨X, hX⟩ : ∃ X, Hid (X = 8 * n % 256 ^ k) := ⟨_, rfl⟩
        obtain ⟨x, hx⟩ : ∃ x : UInt8, Hid (x = UInt8.ofNat (8 * n / 256 ^ k)) := ⟨_, rfl⟩
        rw [← hX.out]
        have ck : w1.cell? ⟨g, o + (m + k), none⟩ = some (.int .u8 (x.toNat : Int)) := by
          have := HC.out (m + k) (by omega)
          rw [hp.out, show m + k = 1 + z0 n + k by have := hm.out; have := hz.out; omega, pad_atl n k hlt, ← hx.out] at this
          rw [show m + k = 1 + z0 n + k by have := hm.out; have := hz.out; omega]
          exact this
        have hmk : m + k < q := by omega
        go_wp2_with fail
        go_roundg (gk - 1)
        case measure => omega
        case rel => exact ⟨k + 1, by omega, rfl, by rw [hX.out, hx.out, bits_at n k hn3], rfl⟩
      · obtain rfl : k = 8 := by omega
        go_wp2_with fail
        go_meet
        exact ⟨by rw [show 8 * n % 256 ^ 8 = 8 * n by omega], rfl⟩
  case rest =>
    obtain ⟨rfl, rfl⟩ := hcut
    have hqm : (q : Int) - 8 = (m : Int) := by have := hqz.out; have := hm.out; omega
    have hmc : m ≤ c := by have := hqz.out; have := hm.out; omega
    have hm1 : (m : Int) - 1 = (z : Int) := by have := hm.out; omega
    have hm0 : 1 ≤ m := by have := hm.out; omega
    go_wp2_with fail
    clear t1 t2 t3 c0 hqm hmc hm0
    go_loopg [79] z (fun gh s79 wx => ∃ k : Nat, k + gh = z ∧ s79 = .int .i64 k ∧ w1 = wx)
    case atStart => exact ⟨0, by omega, rfl, rfl⟩
    case round =>
      obtain ⟨k, hk, rfl, rfl⟩ := hrel
      by_cases hlt : k < z
      · have t5 : decide ((k : Int) < (z : Int)) = true := decide_eq_true (by omega)
        have ck : w1.cell? ⟨g, o + 1 + k, none⟩ = some (.int .u8 0) := by
          have := HC.out (1 + k) (by have := hqz.out; omega)
          rw [hp.out, pad_atz n k (by have := hz.out; omega)] at this
          rw [show o + 1 + k = o + (1 + k) by omega]
          exact this
        go_wp2_with fail
        go_roundg (gk - 1)
        case measure => omega
        case rel => exact ⟨k + 1, by omega, rfl, rfl⟩
      · obtain rfl : k = z := by omega
        clear hlt hk HC
        have hs1 := B1.out.size
        have own := Lib.hid (own0 w1 w1.heap.size (Nat.le_refl _))
        have hb2 : Hid (Below w1.heap.size w1 (w1.alloc (.cells #[] 5))) := (Below.refl _ _).alloc (Nat.le_refl _) _
        have hrl := Lib.hid (hr.out.on (B1.out.trans (hb2.out.mono hs1)))
        have lm : Hid ((l.map enc8).length = n) := by show _ = _; rw [List.length_map, hll.out]
        have lp : Hid ((p.map enc8).length = q) := by show _ = _; rw [List.length_map, hq.out]
        go_wp2_with (at_builtin; first
          | (refine app_all rfl (.tmp 88) (.tmp 89) 24 rfl w1.heap.size 5 (.int .u8 0) 1 Tryd.underlying24 info5 rfl _ _ _ rfl _ (p.map enc8) rfl hown2.out hp2.out (enc8_all p) (by omega) (by rw [lm.out, lp.out]; omega) hs2 ?_; rintro v3 w3 hown3' hb3' _ _; have hown3 := Lib.hid (row_of3 hown3'); clear hown3'; have HB3 := Lib.hid (HB2.out.trans hb3'); have hs3 := HB3.out.size; clear hb3')
          | (refine app_all rfl (.tmp 86) (.tmp 87) 24 rfl w1.heap.size 5 (.int .u8 0) 1 Tryd.underlying24 info5 rfl _ 0 [] rfl _ (l.map enc8) rfl own.out hrl.out (enc8_all l) (by omega) (by rw [lm.out]; omega) (by simp) ?_; rintro v2 w2 hown2' hb2' _ _; have hown2 := Lib.hid hown2'; clear hown2'; have HB2 := Lib.hid (hb2.out.trans hb2'); have hs2 := HB2.out.size; have hp2 := Lib.hid (hp1.out.on HB2.out); clear hb2'))
        obtain ⟨s0, hs0⟩ : ∃ s, Hid (s = S0) := ⟨_, rfl⟩
        refine (start_to s0 hs0.out _).mono ?_; rintro e w4 ⟨rfl, hb4⟩
        obtain ⟨L, hL⟩ : ∃ L, Hid (L = l ++ p) := ⟨_, rfl⟩
        obtain ⟨N, hN⟩ : ∃ N, Hid (N = L.length) := ⟨_, rfl⟩
        have hNn : Hid (N = n + q) := by show _ = _; rw [hN.out, hL.out, List.length_append, hll.out, hq.out]
        obtain ⟨g3, o3, c3, rfl, hg3, hgc3, hgm3, _⟩ := rowB_cells hown3.out (fun e => by have := congrArg List.length e; rw [List.length_append, ← hq.out, List.length_nil] at this; omega)
        rw [← hL.out, ← hN.out] at hown3 hgc3 ⊢
        have HB4 := Lib.hid (B1.out.trans ((HB3.out.trans (hb4.mono (by omega))).mono (by omega)))
        have hown4 := Lib.hid (hown3.out.on hb4)
        have hs4 := hb4.size
        clear hb4 HB3 HB2 hp2 hown2 hown3 own hb2 hrl hp1 hs2 lm lp
        go_upto_block 4 with (fail)
        obtain ⟨N1, hN1⟩ : ∃ N1, N1 = w4.heap.size := ⟨_, rfl⟩
        have hw1 : w.heap.size ≤ N1 := by have := HB4.out.size; omega
        have hg1 : g3 < N1 := by omega
        have hX0 : BlkI w N1 g3 o3 N c3 L s0 (w4.alloc (.cells #[.int .u32 (U s0.a), .int .u32 (U s0.b), .int .u32 (U s0.c), .int .u32 (U s0.d)] 30)) := by
          rw [hN1]
          exact ⟨St4.new w4 s0 30, hown4.out.on ((Below.refl _ _).alloc (Nat.le_refl _) _), HB4.out.alloc (by omega) _, by simp⟩
        show Code.wp _ _ _ _ (w4.alloc (.cells #[.int .u32 (U s0.a), .int .u32 (U s0.b), .int .u32 (U s0.c), .int .u32 (U s0.d)] 30))
        rw [← hN1]
        replace hX0 := Lib.hid hX0
        generalize w4.alloc (.cells #[.int .u32 (U s0.a), .int .u32 (U s0.b), .int .u32 (U s0.c), .int .u32 (U s0.d)] 30) = w5 at hX0 ⊢
        clear hN1 HB4 hown4 hs4 hs3 hg3 hs1 B1 hg
        obtain ⟨Q, hQ⟩ : ∃ Q, Hid (Q = L.length / 64) := ⟨_, rfl⟩
        have hNQ : Hid (N = 64 * Q) := by show _ = _; have := h64.out; have := hNn.out; rw [hQ.out, ← hN.out]; omega
        have hNb : N ≤ 4000 := by have := hNn.out; omega
        obtain ⟨sF, hsF⟩ : ∃ s, Hid (s = allF s0 L) := ⟨_, rfl⟩
        go_cut [11] (fun _ wx => Hid (BlkI w N1 g3 o3 N c3 L sF wx))
        case first =>
          go_wp2_with fail
          go_loopg [11] Q (fun gh s11 wx => ∃ (k m : Nat), k + gh = Q ∧ m = 64 * k ∧ s11 = .int .i64 m ∧ Hid (BlkI w N1 g3 o3 N c3 L (allK L s0 k) wx))
          case atStart => exact ⟨0, 0, by omega, rfl, rfl, hX0⟩
          case round =>
            clear hX0
            obtain ⟨k, m, hk, hm, rfl, hX⟩ := hrel
            by_cases hlt : k < Q
            · have t1 : decide (m < N) = true := decide_eq_true (by have := hNQ.out; omega)
              have b1 : m + 64 ≤ N := by have := hNQ.out; omega
              obtain ⟨s1, hs1⟩ : ∃ s1, Hid (s1 = allK L s0 k) := ⟨_, rfl⟩
              obtain ⟨s2, hs2⟩ : ∃ s2, Hid (s2 = stepF s1 ((L.drop (64 * k)).take 64)) := ⟨_, rfl⟩
              rw [← hs1.out] at hX
              have hkq : k < L.length / 64 := by rw [← hQ.out]; exact hlt
              have hch : ∀ W, RowB W (.slice (some ⟨g3, o3, none⟩) N c3) L → RowB W (.slice (some ⟨g3, o3 + m, none⟩) 64 (c3 - m)) ((L.drop (64 * k)).take 64) := fun W h => by
                rw [hN.out] at h
                have := chunk_row2 h hkq
                rw [hm]; exact this
              replace hch := Lib.hid hch
              have hcl := chunk_len hkq
              replace hcl := Lib.hid hcl
              replace hm := Lib.hid hm
              clear hkq
              have w64 : IntKind.i64.wrap ((m : Int) + 64) = (m : Int) + 64 := IntWalk.i64_in _ (by omega)
              have p64 : 0 ≤ (m : Int) + 64 := by omega
              have q64 : ((m : Int) + 64).toNat = m + 64 := by omega
              have u64 : (m : Int) + 64 ≤ c3 := by omega
              have v64 : m + 64 ≤ c3 := by omega
              have hcm : ¬ c3 = m := by omega
              have u65 : (m : Int) ≤ (m : Int) + 64 := by omega
              go_upto_region 22 with (fail)
              go_cut [12, 13] (fun s12 s13 wx => ∃ b, s12 = .pointer (some ⟨b, 0, none⟩) ∧ s13 = .int .i64 0 ∧ Hid (BlkP w N1 g3 o3 N c3 L s1 s2 b wx))
              case first =>
                have IA := Lib.hid (hX.out.on ((Below.refl _ _).drew) hw1)
                have IB := Lib.hid (hX.out.on (((Below.refl _ _).alloc (Nat.le_refl _) (.cells #[.int .u32 0, .int .u32 0, .int .u32 0, .int .u32 0] 30)).drew) hw1)
                have ZB : Hid (St4 (wr.alloc (.cells #[.int .u32 0, .int .u32 0, .int .u32 0, .int .u32 0] 30)).drew wr.heap.size ⟨0, 0, 0, 0⟩) := St4.new wr ⟨0, 0, 0, 0⟩ 30
                obtain ⟨c0, c1, c2, c4⟩ := hX.out.1.1
                have hsz := hX.out.2.2.2
                go_region_held3 (fun w' => w'.cell? ⟨N1, 0, none⟩ = some (.int .u32 (U s1.a)) ∧ w'.cell? ⟨N1, 1, none⟩ = some (.int .u32 (U s1.b)) ∧ w'.cell? ⟨N1, 2, none⟩ = some (.int .u32 (U s1.c)) ∧ w'.cell? ⟨N1, 3, none⟩ = some (.int .u32 (U s1.d)))
                  (first
                    | go_keep
                    | exact keep4 (heap4 (by omega)) k0 k1 k2 k3
                    | exact ⟨k0, k1, k2, k3⟩)
                  (first
                    | (go_at_call 17; refine (stepE_to s1 s2 _ _ hcl.out hs2.out _ (hT.out.on IA.out.2.2.1) (hch.out _ IA.out.2.1)).mono ?_; rintro e w9 ⟨rfl, hb9⟩; have X := Lib.hid (IA.out.on hb9 hw1); obtain ⟨k0, k1, k2, k3⟩ := X.out.1.1; have hsz9 := X.out.2.2.2; clear hb9)
                    | (go_at_call 17; refine (stepE_to s1 s2 _ _ hcl.out hs2.out _ (hT.out.on IB.out.2.2.1) (hch.out _ IB.out.2.1)).mono ?_; rintro e w9 ⟨rfl, hb9⟩; have X := Lib.hid (IB.out.on hb9 hw1); have hsz9 := X.out.2.2.2; have z9 := ZB.out.block (hb9.block wr.heap.size (by simp)); have Z9 := Lib.hid z9; obtain ⟨k0, k1, k2, k3⟩ := X.out.1.1; obtain ⟨⟨j0, j1, j2, j3⟩, ⟨g0, g1, g2, g3'⟩⟩ := z9; have hlt9 : wr.heap.size + 1 ≤ w9.heap.size := (by have := hb9.size; simpa using this); clear hb9))
                · go_wp2_with fail
                  go_meet
                  exact ⟨_, rfl, rfl, blkP_A X.out hw1⟩
                · go_wp2_with fail
                  go_meet
                  exact ⟨_, rfl, rfl, blkP_B X.out hw1 hg1 Z9.out hsz hlt9⟩
              case rest =>
                obtain ⟨b, rfl, rfl, hP⟩ := hcut
                obtain ⟨⟨x0, x1, x2, x3⟩, _⟩ := hP.out.1
                have HB := Lib.hid hP.out.2.1
                obtain ⟨⟨e0, e1, e2, e3⟩, ⟨f0, f1, f2, f3⟩⟩ := HB.out.1
                clear hP hX
                go_wp2_with fail
                go_roundg (gk - 1)
                case measure => omega
                case rel =>
                  have hX := HB.out.set s2 hw1 hg1
                  have hs12 : s2 = allK L s0 (k + 1) := by rw [hs2.out, hs1.out]; rfl
                  rw [hs12] at hX ⊢
                  exact ⟨k + 1, m + 64, by omega, by have := hm.out; omega, rfl, hX⟩
            · obtain rfl : k = Q := by omega
              have t1 : decide (m < N) = false := decide_eq_false (by have := hNQ.out; omega)
              have hX' : Hid (BlkI w N1 g3 o3 N c3 L sF wr) := by
                show BlkI _ _ _ _ _ _ _ _ _
                rw [hsF.out, allF, ← hQ.out]; exact hX.out
              clear hX hm
              go_wp2_with fail
              go_meet
              exact hX'
        case rest =>
          clear hX0
          obtain ⟨h4, hRW, hB, hsz⟩ := hcut.out
          replace hB := Lib.hid hB
          replace h4 := Lib.hid h4
          obtain ⟨d, hd⟩ : ∃ d, Hid (d = dgF sF) := ⟨_, rfl⟩
          have hds : d = sumF l := by rw [hd.out, hsF.out, sumF, mdF, hs0.out, hL.out, hp.out, hll.out]
          have hcall := sum_to a n cap l (by rw [hll.out]; omega) d hds wc (hT.out.on hB.out) (hr.out.on hB.out)
          replace hcall := Lib.hid hcall
          clear hds hcut hRW
          go_wp2_with fail
          refine hcall.out.mono ?_; rintro e w6 ⟨rfl, hb6⟩
          clear hcall
          have hB6 := Lib.hid (hB.out.trans (hb6.mono (by have := hB.out.size; omega)))
          have h46 := h4.out.block (hb6.block N1 (by omega))
          have hs6 := hb6.size
          clear hb6
          have hB7 := Lib.hid (hB6.out.alloc (by have := hB6.out.size; omega) (e16 d 34))
          have h47 := Lib.hid (h46.block (Below.heap_alloc w6 (e16 d 34) N1 (by omega)))
          have hix := Lib.hid (fun W => agg_at d W)
          clear h46 hB6
          go_upto_block 6 with (fail)
          clear hr hcap hlm
          clear h4
          show Code.wp _ _ _ _ (w6.alloc (e16 d 34))
          generalize w6.alloc (e16 d 34) = w7 at hB7 h47 ⊢
          go_cut [15] (fun _ wx => w7 = wx)
          case first =>
            go_wp2_with fail
            go_loopg [114] 16 (fun gh s114 wx => ∃ k : Nat, k + gh = 16 ∧ s114 = .int .i64 k ∧ w7 = wx)
            case atStart => exact ⟨0, by omega, rfl, rfl⟩
            case round =>
              obtain ⟨k, hk, rfl, rfl⟩ := hrel
              by_cases hlt : k < 16
              · have t1 : decide ((k : Int) < 16) = true := decide_eq_true (by omega)
                have hi := fun W => hix.out W k hlt
                have hc := (h47.out.wd (k / 4) (by omega)).1
                have hg := dgF_U sF k
                rw [← hd.out] at hg
                go_wp2_with fail
                go_roundg (gk - 1)
                case measure => omega
                case rel => exact ⟨k + 1, by omega, rfl, rfl⟩
              · obtain rfl : k = 16 := by omega
                go_wp2_with fail
                go_meet
                rfl
          case rest =>
            obtain rfl := hcut
            clear h47
            go_wp2_with fail
            refine (awake_any _ (hT.out.on hB7.out)).mono ?_; rintro e w8 ⟨rfl, hb8⟩
            have B8 := Lib.hid (hB7.out.trans (hb8.mono hB7.out.size))
            clear hb8
            go_wp2_with fail
            go_ret
            exact ⟨rfl, B8.out⟩
/-- The law Md5Blocks. -/
theorem md5Blocks_walk (a1 : Option Addr) (len1 cap1 : Nat) (z1 : List Int) (w : World) (w1 : IsRow .u8 w a1 len1 cap1 z1) (hT : Tabs w) :
    Calls Tryd.prog 4 #[.slice a1 len1 cap1] w fun e w' => e = .returned (.bool true) ∧ Below w.heap.size w w' := by
  obtain ⟨l, hl, hlm, hr⟩ := w1.bytes
  exact blocks_any a1 len1 cap1 l hl hlm w hr hT
end Go.Proofs.YtimiejahkcjcdaaDoor
