/- The reference's Compare, above, nearest, value; how it takes a decimal apart (NA NB NC ND). -/
import Derived.Test.YtaidemghhagniaaGreatDoorYA
import Derived.Test.YtaidemghhagniaaGreatDoorHP
section
namespace Go.Proofs.YtaidemghhagniaaGreatDoor
open Go Go.RowKit
set_option linter.unusedVariables false
def cmpI (x y : Nat) : Int := if x < y then -1 else if y < x then 1 else 0
theorem bg_lt (x : Nat) : x < 65536 ^ (bg x).length := by
  have h := bv_lt (bg x) (bg_dg x)
  rw [bv_bg] at h; exact h
theorem cmp_short {x y : Nat} (h : (bg x).length < (bg y).length) : cmpI x y = -1 ∧ cmpI y x = 1 := by
  have hxy : x < y := by
    apply Nat.lt_of_not_le
    intro hle
    have := bg_len (bg x).length y (Nat.lt_of_le_of_lt hle (bg_lt x))
    omega
  unfold cmpI
  exact ⟨if_pos hxy, by rw [if_neg (by omega), if_pos hxy]⟩
theorem bv_parts (l : List Nat) (i : Nat) (h : i < l.length) : bv l = bv (l.take i) + 65536 ^ i * (l.getD i 0 + 65536 * bv (l.drop (i + 1))) := by
  have e : bv l = bv (l.take i ++ l.drop i) := by rw [List.take_append_drop]
  rw [e, bv_app, List.length_take, Nat.min_eq_left (by omega), drop_at l i h]
  rfl
theorem dig_lt {x y T a b : Nat} {P p q : Nat} (hp : p < P) (h : a < b) (e1 : x = p + P * (a + 65536 * T)) (e2 : y = q + P * (b + 65536 * T)) : x < y := by
  have h1 : P * (a + 65536 * T) + P ≤ P * (b + 65536 * T) := by
    rw [← Nat.mul_succ]; exact Nat.mul_le_mul_left _ (by omega)
  omega
theorem cmp_dig (x y i : Nat) (hx : i < (bg x).length) (hy : i < (bg y).length) (hd : (bg x).drop (i + 1) = (bg y).drop (i + 1)) (h : (bg x).getD i 0 < (bg y).getD i 0) : cmpI x y = -1 ∧ cmpI y x = 1 := by
  have e1 := bv_parts _ i hx
  have e2 := bv_parts _ i hy
  rw [bv_bg] at e1 e2
  rw [hd] at e1
  have hp : bv ((bg x).take i) < 65536 ^ i := by
    have := bv_lt ((bg x).take i) (fun z hz => bg_dg x z (List.mem_of_mem_take hz))
    rw [List.length_take, Nat.min_eq_left (by omega)] at this
    exact this
  have hxy := dig_lt hp h e1 e2
  unfold cmpI
  exact ⟨if_pos hxy, by rw [if_neg (by omega), if_pos hxy]⟩
theorem drop_step (X Y : List Nat) (i : Nat) (h1 : i < X.length) (h2 : i < Y.length) (e : X.drop (i + 1) = Y.drop (i + 1)) (h : X.getD i 0 = Y.getD i 0) : X.drop i = Y.drop i := by
  rw [drop_at X i h1, drop_at Y i h2, e, h]
set_option maxRecDepth 100000 in
set_option maxHeartbeats 4000000 in
theorem rcompare_any (a1 a2 : Option Addr) (c1 c2 x y : Nat) (hx : (bg x).length ≤ 10000) (hy : (bg y).length ≤ 10000) (w : World) (h1 : NRow w a1 c1 (bg x)) (h2 : NRow w a2 c2 (bg y)) :
    Calls Tryz.prog 127 #[.slice a1 (bg x).length c1, .slice a2 (bg y).length c2] w fun e w' => e = .returned (.int .i64 (cmpI x y)) ∧ Below w.heap.size w w' := by
  obtain ⟨b1, o1, hat1⟩ := h1.at'
  obtain ⟨b2, o2, hat2⟩ := h2.at'
  have hcap1 := h1.cap
  have hcap2 := h2.cap
  replace hat1 := Lib.hid hat1
  replace hat2 := Lib.hid hat2
  have hshort := Lib.hid (@cmp_short x y)
  have hshort' := Lib.hid (@cmp_short y x)
  have hdig := Lib.hid (cmp_dig x y)
  have hdig' := Lib.hid (cmp_dig y x)
  have hdr := Lib.hid (drop_step (bg x) (bg y))
  have heq : Hid (bg x = bg y → cmpI x y = 0) := Lib.hid (fun e => by
    have : x = y := by rw [← bv_bg x, e, bv_bg]
    unfold cmpI; rw [if_neg (by omega), if_neg (by omega)])
  have hdx := Lib.hid (bg_dg x)
  have hdy := Lib.hid (bg_dg y)
  obtain ⟨X, hX⟩ : ∃ X, Hid (X = bg x) := ⟨_, Lib.hid rfl⟩
  obtain ⟨Y, hY⟩ : ∃ Y, Hid (Y = bg y) := ⟨_, Lib.hid rfl⟩
  obtain ⟨c, hc⟩ : ∃ c, Hid (c = cmpI x y) := ⟨_, Lib.hid rfl⟩
  obtain ⟨c', hc'⟩ : ∃ c, Hid (c = cmpI y x) := ⟨_, Lib.hid rfl⟩
  rw [← hX.out] at hat1 hcap1 hx hshort hshort' hdig hdig' hdr heq hdx ⊢
  rw [← hY.out] at hat2 hcap2 hy hshort hshort' hdig hdig' hdr heq hdy ⊢
  rw [← hc.out] at hshort hshort' hdig hdig' heq ⊢
  rw [← hc'.out] at hshort hshort' hdig hdig'
  obtain ⟨n, hn⟩ : ∃ n, n = X.length := ⟨_, rfl⟩
  obtain ⟨m, hm⟩ : ∃ m, m = Y.length := ⟨_, rfl⟩
  have hnh := Lib.hid hn
  have hmh := Lib.hid hm
  rw [← hn] at hcap1 hx ⊢
  rw [← hm] at hcap2 hy ⊢
  clear h1 h2 hn hm hX hY hc hc'
  go_enter Tryz.func127, Tryz.ntmps127
  rcases Nat.lt_trichotomy n m with hlt | rfl | hgt
  · have e := (hshort.out (by rw [← hnh.out, ← hmh.out]; exact hlt)).1
    have t1 : ((n : Int) == (m : Int)) = false := beq_eq_false_iff_ne.2 (by omega)
    have t2 : decide ((n : Int) < (m : Int)) = true := decide_eq_true (by omega)
    have eh := Lib.hid e
    clear e hat1 hat2
    go_wp2_with fail
    go_ret
    exact ⟨by rw [eh.out]; rfl, Below.refl _ _⟩
  · go_wp2_with fail
    go_loopg [5] (n + 1) (fun gk s5 wx => ∃ i : Nat, i < gk ∧ i ≤ n ∧ s5 = .int .i64 ((i : Int) - 1) ∧ Hid (X.drop i = Y.drop i) ∧ Hid (Below w.heap.size w wx))
    case atStart => exact ⟨n, by omega, by omega, rfl, Lib.hid (by rw [List.drop_of_length_le (by rw [← hnh.out]; exact Nat.le_refl _), List.drop_of_length_le (by rw [← hmh.out]; exact Nat.le_refl _)]), Lib.hid (Below.refl _ _)⟩
    case round =>
      obtain ⟨i, hgi, hi, rfl, hD, B⟩ := hrel
      by_cases h0 : 0 < i
      · obtain ⟨q, rfl⟩ : ∃ q, i = q + 1 := ⟨i - 1, by omega⟩
        have e1 : (((q + 1 : Nat) : Int) - 1) = (q : Int) := by omega
        rw [e1]
        have t2 : decide ((0 : Int) ≤ (q : Int)) = true := decide_eq_true (by omega)
        obtain ⟨rfl, hg1, hcl1⟩ := hat1.out q (by rw [← hnh.out]; omega)
        obtain ⟨rfl, hg2, hcl2⟩ := hat2.out q (by rw [← hmh.out]; omega)
        have k1 : wr.cell? ⟨b1, o1 + q, none⟩ = some (.int .i64 ((X.getD q 0 : Nat) : Int)) := by rw [B.out.cell (p := ⟨b1, o1 + q, none⟩) hg1]; exact hcl1
        have k2 : wr.cell? ⟨b2, o2 + q, none⟩ = some (.int .i64 ((Y.getD q 0 : Nat) : Int)) := by rw [B.out.cell (p := ⟨b2, o2 + q, none⟩) hg2]; exact hcl2
        have hdq := Lib.hid (hdig.out q (by rw [← hnh.out]; omega) (by rw [← hmh.out]; omega) hD.out)
        have hdq' := Lib.hid (hdig'.out q (by rw [← hmh.out]; omega) (by rw [← hnh.out]; omega) hD.out.symm)
        have hdrq := Lib.hid (hdr.out q (by rw [← hnh.out]; omega) (by rw [← hmh.out]; omega) hD.out)
        have hxb := hdx.out (X.getD q 0) (by rw [List.getD_eq_getElem?_getD, List.getElem?_eq_getElem (by rw [← hnh.out]; omega)]; exact List.getElem_mem _)
        have hyb := hdy.out (Y.getD q 0) (by rw [List.getD_eq_getElem?_getD, List.getElem?_eq_getElem (by rw [← hmh.out]; omega)]; exact List.getElem_mem _)
        obtain ⟨u, hu⟩ : ∃ u, Hid (u = X.getD q 0) := ⟨_, Lib.hid rfl⟩
        obtain ⟨v, hv⟩ : ∃ v, Hid (v = Y.getD q 0) := ⟨_, Lib.hid rfl⟩
        rw [← hu.out] at k1 hdq hdq' hdrq hxb
        rw [← hv.out] at k2 hdq hdq' hdrq hyb
        clear hcl1 hcl2 hg1 hg2 e1 hat1 hat2
        rcases Nat.lt_trichotomy u v with l | rfl | l
        · have e := Lib.hid (hdq.out l).1
          have t3 : ((u : Int) == (v : Int)) = false := beq_eq_false_iff_ne.2 (by omega)
          have t4 : decide ((u : Int) < (v : Int)) = true := decide_eq_true (by omega)
          go_upto_region 8 with (fail)
          go_quiet (fail)
          go_upto_region 9 with (fail)
          go_quiet (fail)
          go_wp2_with fail
          go_ret
          exact ⟨by rw [e.out]; rfl, below_q (below_q B.out _) _⟩
        · have hD2 := Lib.hid (hdrq.out rfl)
          clear hD hdrq
          go_upto_region 8 with (fail)
          go_quiet (fail)
          go_wp2_with fail
          go_roundg (gk - 1)
          case measure => omega
          case rel => exact ⟨q, by omega, by omega, rfl, hD2, Lib.hid (below_q B.out _)⟩
        · have e := Lib.hid (hdq'.out l).2
          have t3 : ((u : Int) == (v : Int)) = false := beq_eq_false_iff_ne.2 (by omega)
          have t4 : decide ((u : Int) < (v : Int)) = false := decide_eq_false (by omega)
          go_upto_region 8 with (fail)
          go_quiet (fail)
          go_upto_region 9 with (fail)
          go_quiet (fail)
          go_wp2_with fail
          go_ret
          exact ⟨by rw [e.out]; rfl, below_q (below_q B.out _) _⟩
      · obtain rfl : i = 0 := by omega
        have t2 : decide ((0 : Int) ≤ ((0 : Nat) : Int) - 1) = false := rfl
        have e := Lib.hid (heq.out hD.out)
        clear hD
        go_wp2_with fail
        go_ret
        exact ⟨by rw [e.out]; rfl, B.out⟩
  · have e := (hshort'.out (by rw [← hnh.out, ← hmh.out]; exact hgt)).2
    have t1 : ((n : Int) == (m : Int)) = false := beq_eq_false_iff_ne.2 (by omega)
    have t2 : decide ((n : Int) < (m : Int)) = false := decide_eq_false (by omega)
    have eh := Lib.hid e
    clear e hat1 hat2
    go_wp2_with fail
    go_ret
    exact ⟨by rw [eh.out]; rfl, Below.refl _ _⟩
end Go.Proofs.YtaidemghhagniaaGreatDoor
end
section
namespace Go.Proofs.YtaidemghhagniaaGreatDoor
open Go Go.RowKit
set_option linter.unusedVariables false
theorem cmpI_mul (x y k : Nat) (hk : 0 < k) : cmpI (x * k) (y * k) = cmpI x y := by
  unfold cmpI
  have e1 : x * k < y * k ↔ x < y := ⟨fun h => Nat.lt_of_mul_lt_mul_right h, fun h => Nat.mul_lt_mul_of_pos_right h hk⟩
  have e2 : y * k < x * k ↔ y < x := ⟨fun h => Nat.lt_of_mul_lt_mul_right h, fun h => Nat.mul_lt_mul_of_pos_right h hk⟩
  simp only [e1, e2]
theorem cmpI_neg {x y : Nat} (h : x < y) : cmpI x y = -1 := if_pos h
theorem cmpI_pos {x y : Nat} (h : y < x) : cmpI x y = 1 := by unfold cmpI; rw [if_neg (by omega), if_pos h]
theorem cmpI_eq {x y : Nat} (h : x = y) : cmpI x y = 0 := by unfold cmpI; rw [if_neg (by omega), if_neg (by omega)]
theorem bg_mul (x y a b : Nat) (hx : (bg x).length ≤ a) (hy : (bg y).length ≤ b) : (bg (x * y)).length ≤ a + b := by
  refine bg_len (a + b) _ ?_
  rw [Nat.pow_add]
  have h1 : x < 65536 ^ a := Nat.lt_of_lt_of_le (bg_lt x) (Nat.pow_le_pow_right (by decide) hx)
  have h2 : y < 65536 ^ b := Nat.lt_of_lt_of_le (bg_lt y) (Nat.pow_le_pow_right (by decide) hy)
  exact Nat.mul_lt_mul'' h1 h2
theorem bg_two (n : Nat) : (bg (2 ^ n)).length ≤ n / 16 + 1 := by
  refine bg_len _ _ ?_
  rw [show (65536 : Nat) = 2 ^ 16 from rfl, ← Nat.pow_mul]
  exact Nat.pow_lt_pow_right (by decide) (by omega)
theorem bg_four (x : Nat) (h : x < 18446744073709551616) : (bg x).length ≤ 4 := bg_len 4 x h
theorem above_hi (f d n a e K : Nat) (h : e = a + K) : cmpI (f * d * 2 ^ a) n = cmpI (f * 2 ^ e * d) (n * U2 K) := by
  subst h
  have hk : 0 < U2 K := by unfold U2; exact Nat.two_pow_pos _
  rw [← cmpI_mul _ _ _ hk]
  congr 1
  rw [Nat.pow_add, show (2 : Nat) ^ K = U2 K from rfl]
  generalize U2 K = U
  generalize 2 ^ a = A
  rw [Nat.mul_assoc f d, Nat.mul_assoc f, Nat.mul_assoc f, Nat.mul_comm d, Nat.mul_assoc A, Nat.mul_assoc A, Nat.mul_comm d U]
theorem above_lo (f d n e b K : Nat) (h : e + b = K) : cmpI (f * d) (n * 2 ^ b) = cmpI (f * 2 ^ e * d) (n * U2 K) := by
  rw [← cmpI_mul _ _ (2 ^ e) (Nat.two_pow_pos _)]
  congr 1
  · rw [Nat.mul_assoc, Nat.mul_comm d, Nat.mul_assoc]
  · unfold U2
    rw [Nat.mul_assoc, ← Nat.pow_add, Nat.add_comm b e, h]
theorem fr_bd (r : Nat) : fr r < 9007199254740992 := by unfold fr; split <;> omega
theorem ex_bd (r : Nat) (h : r < INF) : ex r ≤ 2046 := by
  have hI : INF = 9218868437227405312 := rfl
  unfold ex; split <;> omega
set_option maxRecDepth 100000 in
set_option maxHeartbeats 1000000 in
theorem above_any (r : Nat) (hr : r < INF) (n d : Nat) (hn0 : 0 < n) (hd0 : 0 < d) (a1 a2 : Option Addr) (c1 c2 : Nat) (hn : (bg n).length ≤ 400) (hd : (bg d).length ≤ 400) (w : World) (h1 : NRow w a1 c1 (bg n)) (h2 : NRow w a2 c2 (bg d)) :
    Calls Tryz.prog 110 #[.int .u64 r, .slice a1 (bg n).length c1, .slice a2 (bg d).length c2] w fun e w' => e = .returned (.int .i64 (cmpI (M r * d) (n * U2 1075))) ∧ Below w.heap.size w w' := by
  have hI : INF = 9218868437227405312 := rfl
  have cp := rparts_any r (by omega) w
  obtain ⟨f, hf⟩ : ∃ f, Hid (f = fr r) := ⟨_, Lib.hid rfl⟩
  have hfb : f < 9007199254740992 := by rw [hf.out]; exact fr_bd r
  obtain ⟨x, hx⟩ : ∃ x, Hid (x = ex r) := ⟨_, Lib.hid rfl⟩
  have hx1 : 1 ≤ x := by rw [hx.out]; exact ex_pos r
  have hx2 : x ≤ 2046 := by rw [hx.out]; exact ex_bd r hr
  obtain ⟨E, hE⟩ : ∃ E : Int, E = (x : Int) - 1075 := ⟨_, rfl⟩
  rw [← hf.out, ← hx.out, ← hE] at cp
  have hEb : -1075 ≤ E ∧ E ≤ 971 := by omega
  replace hE := Lib.hid hE
  obtain ⟨F, hF⟩ : ∃ F, F = 2 * f + 1 := ⟨_, rfl⟩
  have hFi : 2 * (f : Int) + 1 = (F : Int) := by omega
  have hFb : F < 18014398509481984 := by omega
  have hF0 : 0 < F := by omega
  have hM : Hid (M r = F * 2 ^ (x - 1)) := Lib.hid (by unfold M; rw [← hf.out, ← hx.out, ← hF])
  have hFl := bg_four F (by omega)
  have hpl := bg_mul F d 4 400 hFl hd
  have cs := Lib.hid (fun W => small_any F (by omega) W)
  obtain ⟨res, hres⟩ : ∃ res, Hid (res = cmpI (M r * d) (n * U2 1075)) := ⟨_, Lib.hid rfl⟩
  rw [← hres.out]
  have h1h := Lib.hid h1
  have h2h := Lib.hid h2
  have cph := Lib.hid cp
  clear cp h1 h2 hF hI
  obtain ⟨ln, hln⟩ : ∃ ln, Hid (ln = (bg n).length) := ⟨_, Lib.hid rfl⟩
  obtain ⟨ld, hld⟩ : ∃ ld, Hid (ld = (bg d).length) := ⟨_, Lib.hid rfl⟩
  rw [← hln.out, ← hld.out]
  go_enter Tryz.func110, Tryz.ntmps110
  go_wp2_with fail
  refine cph.out.mono ?_; rintro e w1 ⟨rfl, rfl⟩
  clear cph
  go_wp2_with fail
  refine (cs.out _).mono ?_; rintro e w1 ⟨a3, c3, rfl, hN3, hb3⟩
  have B1 := Lib.hid hb3
  have N3 := Lib.hid hN3
  clear hN3 hb3 cs
  obtain ⟨l3, hl3⟩ : ∃ l3, Hid (l3 = (bg F).length) := ⟨_, Lib.hid rfl⟩
  rw [← hl3.out]
  have cq := Lib.hid (product_any a3 a2 c3 c2 F d (by omega) (by omega) w1 N3.out (h2h.out.on B1.out))
  rw [← hl3.out, ← hld.out] at cq
  go_wp2_with fail
  refine cq.out.mono ?_; rintro e w2 ⟨a4, c4, rfl, hN4, hb4⟩
  have B2 := Lib.hid (B1.out.trans (hb4.mono B1.out.size))
  have N4 := Lib.hid hN4
  clear hN4 hb4 cq B1 N3 h2h
  obtain ⟨l4, hl4⟩ : ∃ l4, Hid (l4 = (bg (F * d)).length) := ⟨_, Lib.hid rfl⟩
  rw [← hl4.out]
  by_cases hc : 1076 ≤ x
  · obtain ⟨a, ha⟩ : ∃ a : Nat, E - 1 = (a : Int) := ⟨x - 1076, by have := hE.out; omega⟩
    have hax : x - 1 = a + 1075 := by have := hE.out; omega
    have t1 : decide ((0 : Int) ≤ (a : Int)) = true := decide_eq_true (by omega)
    have ha2 : a ≤ 970 := by have := hE.out; omega
    have hp0 := Nat.mul_pos hF0 hd0
    have hr2 : Hid (cmpI (F * d * 2 ^ a) n = res) := Lib.hid (by rw [hres.out, hM.out]; exact above_hi F d n a _ _ hax)
    have hbl := bg_mul (F * d) (2 ^ a) 404 62 hpl (Nat.le_trans (bg_two a) (by omega))
    have cm := Lib.hid (moved_any a4 c4 (F * d) a (by omega) (by omega) hp0 w2 N4.out)
    rw [← hl4.out] at cm
    have hbh := Lib.hid hbl
    have hph := Lib.hid hp0
    have hnh := Lib.hid hn
    clear hpl hax hM hres N4 hbl hp0 hE hn
    go_wp2_with fail
    refine cm.out.mono ?_; rintro e w3 ⟨a5, c5, rfl, hN5, hb5⟩
    have B3 := Lib.hid (B2.out.trans (hb5.mono B2.out.size))
    have cc := Lib.hid (rcompare_any a5 a1 c5 c1 (F * d * 2 ^ a) n (by have := hbh.out; omega) (by have := hnh.out; omega) w3 hN5 (h1h.out.on B3.out))
    rw [← hln.out, hr2.out] at cc
    clear hN5 hb5 B2 cm hr2
    obtain ⟨l5, hl5⟩ : ∃ l5, Hid (l5 = (bg (F * d * 2 ^ a)).length) := ⟨_, Lib.hid rfl⟩
    rw [← hl5.out] at cc ⊢
    go_wp2_with fail
    refine cc.out.mono ?_; rintro e w4 ⟨rfl, hb6⟩
    have B4 := Lib.hid (B3.out.trans (hb6.mono B3.out.size))
    clear hb6 cc
    go_wp2_with fail
    go_ret
    exact ⟨rfl, B4.out⟩
  · obtain ⟨b, hb⟩ : ∃ b : Nat, (1 : Int) - E = (b : Int) := ⟨1076 - x, by have := hE.out; omega⟩
    have hb2 : b ≤ 1075 := by have := hE.out; omega
    have hE1 : ¬ (1 : Int) ≤ E := by have := hE.out; omega
    have t1 : decide ((1 : Int) ≤ E) = false := decide_eq_false hE1
    have hr2 : Hid (cmpI (F * d) (n * 2 ^ b) = res) := Lib.hid (by rw [hres.out, hM.out]; exact above_lo F d n (x - 1) b _ (by have := hE.out; omega))
    have hbl := bg_mul n (2 ^ b) 400 70 (by omega) (Nat.le_trans (bg_two b) (by omega))
    have cm := Lib.hid (moved_any a1 c1 n b (by omega) (by omega) hn0 w2 (h1h.out.on B2.out))
    rw [← hln.out] at cm
    have hbh := Lib.hid hbl
    have hph := Lib.hid hpl
    clear hM hres hbl hpl hE hn
    go_wp2_with fail
    refine cm.out.mono ?_; rintro e w3 ⟨a5, c5, rfl, hN5, hb5⟩
    have B3 := Lib.hid (B2.out.trans (hb5.mono B2.out.size))
    have cc := Lib.hid (rcompare_any a4 a5 c4 c5 (F * d) (n * 2 ^ b) (by have := hph.out; omega) (by have := hbh.out; omega) w3 (N4.out.on hb5) hN5)
    rw [← hl4.out, hr2.out] at cc
    clear hN5 hb5 B2 cm hr2 N4
    obtain ⟨l5, hl5⟩ : ∃ l5, Hid (l5 = (bg (n * 2 ^ b)).length) := ⟨_, Lib.hid rfl⟩
    rw [← hl5.out] at cc ⊢
    go_wp2_with fail
    refine cc.out.mono ?_; rintro e w4 ⟨rfl, hb6⟩
    have B4 := Lib.hid (B3.out.trans (hb6.mono B3.out.size))
    clear hb6 cc
    go_wp2_with fail
    go_ret
    exact ⟨rfl, B4.out⟩
/-- The least rung whose middle is not below the fraction, and one more where that is odd and the middle is met: the nearest one. -/
theorem near_search (N d r : Nat) (hd : 0 < d) (h1 : r ≤ INF) (h2 : r < INF → N ≤ M r * d) (h3 : 0 < r → M (r - 1) * d < N) (h : ¬ (r < INF ∧ N = M r * d ∧ r % 2 = 1)) : Near N d r :=
  ⟨h1, fun hr => ⟨h2 hr, fun e => by
    rcases Nat.mod_two_eq_zero_or_one r with h0 | h0
    · exact h0
    · exact absurd ⟨hr, e, h0⟩ h⟩, fun hr => ⟨Nat.le_of_lt (h3 hr), fun e => by have := h3 hr; omega⟩⟩
theorem near_search_up (N d r : Nat) (hd : 0 < d) (h1 : r < INF) (h2 : N = M r * d) (h3 : r % 2 = 1) : Near N d (r + 1) :=
  ⟨h1, fun hr => ⟨by rw [h2]; exact Nat.le_of_lt (Nat.mul_lt_mul_of_pos_right (M_lt (Nat.lt_succ_self r)) hd), fun _ => by omega⟩, fun hr => ⟨by rw [h2, Nat.add_sub_cancel]; exact Nat.le_refl _, fun _ => by omega⟩⟩
set_option maxRecDepth 100000 in
set_option maxHeartbeats 4000000 in
theorem nearest_any (n d : Nat) (hn0 : 0 < n) (hd0 : 0 < d) (a1 a2 : Option Addr) (c1 c2 : Nat) (hn : (bg n).length ≤ 400) (hd : (bg d).length ≤ 400) (w : World) (h1 : NRow w a1 c1 (bg n)) (h2 : NRow w a2 c2 (bg d)) :
    Calls Tryz.prog 87 #[.slice a1 (bg n).length c1, .slice a2 (bg d).length c2] w fun e w' => (∃ r : Nat, e = .returned (.int .u64 r) ∧ Near (n * U2 1075) d r) ∧ Below w.heap.size w w' := by
  have hI : INF = 9218868437227405312 := rfl
  have ca := Lib.hid (fun r (hr : r < INF) W (hb : Below w.heap.size w W) => above_any r hr n d hn0 hd0 a1 a2 c1 c2 hn hd W (h1.on hb) (h2.on hb))
  have hs := Lib.hid (fun r => near_search (n * U2 1075) d r hd0)
  have hs2 := Lib.hid (fun r => near_search_up (n * U2 1075) d r hd0)
  have hml := Lib.hid (fun a b (h : a ≤ b) => Nat.mul_le_mul_right d (M_mono h))
  obtain ⟨T, hT⟩ : ∃ T, Hid (T = n * U2 1075) := ⟨_, Lib.hid rfl⟩
  rw [← hT.out] at ca hs hs2 ⊢
  obtain ⟨ln, hln⟩ : ∃ ln, Hid (ln = (bg n).length) := ⟨_, Lib.hid rfl⟩
  obtain ⟨ld, hld⟩ : ∃ ld, Hid (ld = (bg d).length) := ⟨_, Lib.hid rfl⟩
  rw [← hln.out, ← hld.out] at ca ⊢
  clear hn hd h1 h2 hn0 hd0 hT hln hld
  obtain ⟨I, hIe⟩ : ∃ I, I = INF := ⟨_, rfl⟩
  rw [← hIe] at hI ca hs hs2
  have hIh := Lib.hid hI
  clear hIe
  go_enter Tryz.func87, Tryz.ntmps87
  go_upto_block 0 with (fail)
  go_cut [5] (fun s5 wx => ∃ r : Nat, s5 = .int .u64 (r : Int) ∧ r ≤ 9218868437227405312 ∧ Hid (r < I → T ≤ M r * d) ∧ Hid (0 < r → M (r - 1) * d < T) ∧ Hid (Below w.heap.size w wx))
  case first =>
    go_wp2_with fail
    go_loopg [5, 6] (9218868437227405312 + 1) (fun gk s5 s6 wx => ∃ l h : Nat, s5 = .int .u64 (l : Int) ∧ s6 = .int .u64 (h : Int) ∧ l ≤ h ∧ h ≤ 9218868437227405312 ∧ h - l < gk ∧ Hid (h < I → T ≤ M h * d) ∧ Hid (0 < l → M (l - 1) * d < T) ∧ Hid (Below w.heap.size w wx))
    case atStart => exact ⟨0, 9218868437227405312, rfl, rfl, by omega, by omega, by omega, Lib.hid (fun h => by omega), Lib.hid (fun h => by omega), Lib.hid (Below.refl _ _)⟩
    case round =>
      obtain ⟨l, h, rfl, rfl, hlh, hh, hgk, HH, HL, B⟩ := hrel
      by_cases hlt : l < h
      · have t1 : decide ((l : Int) < (h : Int)) = true := decide_eq_true (by omega)
        obtain ⟨m, hm⟩ : ∃ m, m = l + (h - l) / 2 := ⟨_, rfl⟩
        have hmi : (l : Int) + ((h : Int) - (l : Int)) / 2 = (m : Int) := by omega
        have hm1 : l ≤ m := by omega
        have hm2 : m < h := by omega
        have hc := Lib.hid (ca.out m (by omega) wr B.out)
        have hmh := Lib.hid hm
        clear hm
        by_cases hab : M m * d < T
        · rw [cmpI_neg hab] at hc
          have HL2 : Hid (0 < m + 1 → M (m + 1 - 1) * d < T) := Lib.hid (fun _ => by rw [Nat.add_sub_cancel]; exact hab)
          clear hab HL
          go_wp2_with fail
          refine hc.out.mono ?_; rintro e w3 ⟨rfl, hb⟩
          replace B := Lib.hid (B.out.trans (hb.mono B.out.size))
          clear hb hc
          go_wp2_with fail
          go_roundg (gk - 1)
          case measure => omega
          case rel => exact ⟨m + 1, h, by go_num, rfl, by omega, hh, by omega, HH, HL2, B⟩
        · have hc0 : ∃ q : Int, cmpI (M m * d) T = q ∧ 0 ≤ q ∧ q ≤ 1 := by
            by_cases he : T < M m * d
            · exact ⟨1, cmpI_pos he, by decide, by decide⟩
            · exact ⟨0, cmpI_eq (by omega), by decide, by decide⟩
          obtain ⟨q, hq, hq0, hq1⟩ := hc0
          rw [hq] at hc
          have HH2 : Hid (m < I → T ≤ M m * d) := Lib.hid (fun _ => by omega)
          clear hab HH hq
          have t2 : decide (q < 0) = false := decide_eq_false (by omega)
          go_wp2_with fail
          refine hc.out.mono ?_; rintro e w3 ⟨rfl, hb⟩
          replace B := Lib.hid (B.out.trans (hb.mono B.out.size))
          clear hb hc
          go_wp2_with fail
          go_roundg (gk - 1)
          case measure => omega
          case rel => exact ⟨l, m, rfl, rfl, by omega, by omega, by omega, HH2, HL, B⟩
      · obtain rfl : l = h := by omega
        have t1 : decide ((l : Int) < (l : Int)) = false := decide_eq_false (by omega)
        go_wp2_with fail
        go_meet
        exact ⟨l, rfl, hh, HH, HL, B⟩
  case rest =>
    obtain ⟨r, rfl, hr, HH, HL, B⟩ := hcut
    by_cases hlt : r < I
    · have t1 : decide ((r : Int) < 9218868437227405312) = true := decide_eq_true (by omega)
      have hc := Lib.hid (ca.out r hlt _ B.out)
      by_cases he : T = M r * d
      · rw [cmpI_eq he.symm] at hc
        rcases Nat.mod_two_eq_zero_or_one r with h0 | h0
        · have hN := Lib.hid (hs.out r (by omega) HH.out HL.out (fun h => by omega))
          have t3 : (r : Int) % 2 = 0 := by omega
          clear he HH HL ca hs hs2 hml h0
          go_wp2_with fail
          refine hc.out.mono ?_; rintro e w3 ⟨rfl, hb⟩
          replace B := Lib.hid (B.out.trans (hb.mono B.out.size))
          clear hb hc
          go_wp2_with fail
          go_ret
          exact ⟨⟨r, rfl, hN.out⟩, B.out⟩
        · have hN := Lib.hid (hs2.out r hlt he h0)
          have t3 : (r : Int) % 2 = 1 := by omega
          clear he HH HL ca hs hs2 hml h0
          go_wp2_with fail
          refine hc.out.mono ?_; rintro e w3 ⟨rfl, hb⟩
          replace B := Lib.hid (B.out.trans (hb.mono B.out.size))
          clear hb hc
          go_wp2_with fail
          go_ret
          exact ⟨⟨r + 1, by go_num, hN.out⟩, B.out⟩
      · have hc0 : ∃ q : Int, cmpI (M r * d) T = q ∧ (q == 0) = false := by
          by_cases h' : T < M r * d
          · exact ⟨1, cmpI_pos h', rfl⟩
          · have := HH.out hlt; omega
        obtain ⟨q, hq, hq0⟩ := hc0
        rw [hq] at hc
        have hN := Lib.hid (hs.out r (by omega) HH.out HL.out (fun h => he h.2.1))
        clear he HH HL ca hs hs2 hml hq
        go_wp2_with fail
        refine hc.out.mono ?_; rintro e w3 ⟨rfl, hb⟩
        replace B := Lib.hid (B.out.trans (hb.mono B.out.size))
        clear hb hc
        go_wp2_with fail
        go_ret
        exact ⟨⟨r, rfl, hN.out⟩, B.out⟩
    · have t1 : decide ((r : Int) < 9218868437227405312) = false := decide_eq_false (by omega)
      have hN := Lib.hid (hs.out r (by omega) HH.out HL.out (fun h => hlt h.1))
      clear HH HL ca hs hs2 hml
      go_wp2_with fail
      go_ret
      exact ⟨⟨r, rfl, hN.out⟩, B.out⟩
end Go.Proofs.YtaidemghhagniaaGreatDoor
end
section
namespace Go.Proofs.YtaidemghhagniaaGreatDoor
open Go Go.RowKit
set_option linter.unusedVariables false
/-- The reference's Decimal in block D. -/
def DcB (w : World) (D : Nat) (v : Value) (b e : Int) (ng : Bool) : Prop := w.heap[D]? = some (.cells #[v, .int .i64 b, .int .i64 e, .bool ng] 83 (0, 0))
theorem DcB.lt {w : World} {D : Nat} {v : Value} {b e : Int} {ng : Bool} (h : DcB w D v b e ng) : D < w.heap.size := (Array.getElem?_eq_some_iff.1 h).1
theorem DcB.c0 {w : World} {D : Nat} {v : Value} {b e : Int} {ng : Bool} (h : DcB w D v b e ng) : w.cell? ⟨D, 0, none⟩ = some v := by rw [cell_cur h]; rfl
theorem DcB.c1 {w : World} {D : Nat} {v : Value} {b e : Int} {ng : Bool} (h : DcB w D v b e ng) : w.cell? ⟨D, 1, none⟩ = some (.int .i64 b) := by rw [cell_cur h]; rfl
theorem DcB.c2 {w : World} {D : Nat} {v : Value} {b e : Int} {ng : Bool} (h : DcB w D v b e ng) : w.cell? ⟨D, 2, none⟩ = some (.int .i64 e) := by rw [cell_cur h]; rfl
theorem DcB.c3 {w : World} {D : Nat} {v : Value} {b e : Int} {ng : Bool} (h : DcB w D v b e ng) : w.cell? ⟨D, 3, none⟩ = some (.bool ng) := by rw [cell_cur h]; rfl
theorem DcB.fz {w : World} {D : Nat} {v : Value} {b e : Int} {ng : Bool} (h : DcB w D v b e ng) (i : Nat) : w.frozen? ⟨D, i, none⟩ = false := by
  unfold World.frozen?; simp only [show w.heap[D]? = _ from h]; simp
theorem DcB.oth {w w' : World} {D : Nat} {v : Value} {b e : Int} {ng : Bool} (h : DcB w D v b e ng) (e1 : w'.heap[D]? = w.heap[D]?) : DcB w' D v b e ng := e1.trans h
theorem DcB.drew {w : World} {D : Nat} {v : Value} {b e : Int} {ng : Bool} (h : DcB w D v b e ng) (n : Nat) : DcB (w.drewN n) D v b e ng := h
theorem DcB.on {w w' : World} {D : Nat} {v : Value} {b e : Int} {ng : Bool} (h : DcB w D v b e ng) (hb : Below w.heap.size w w') : DcB w' D v b e ng := h.oth (hb.block D h.lt)
theorem DcB.set0 {w : World} {D : Nat} {v : Value} {b e : Int} {ng : Bool} (h : DcB w D v b e ng) (u : Value) : DcB (w.setCell ⟨D, 0, none⟩ u) D u b e ng := set_cur h 0 u
theorem DcB.set1 {w : World} {D : Nat} {v : Value} {b e : Int} {ng : Bool} (h : DcB w D v b e ng) (u : Int) : DcB (w.setCell ⟨D, 1, none⟩ (.int .i64 u)) D v u e ng := set_cur h 1 _
theorem DcB.set2 {w : World} {D : Nat} {v : Value} {b e : Int} {ng : Bool} (h : DcB w D v b e ng) (u : Int) : DcB (w.setCell ⟨D, 2, none⟩ (.int .i64 u)) D v b u ng := set_cur h 2 _
theorem DcB.set3 {w : World} {D : Nat} {v : Value} {b e : Int} {ng : Bool} (h : DcB w D v b e ng) (u : Bool) : DcB (w.setCell ⟨D, 3, none⟩ (.bool u)) D v b e u := set_cur h 3 _
theorem DcB.new (w : World) (v : Value) (b e : Int) (ng : Bool) : DcB (w.alloc (.cells #[v, .int .i64 b, .int .i64 e, .bool ng] 83)) w.heap.size v b e ng := Array.getElem?_push_size
/-- What digits (as numbers) are worth. -/
def dn (l : List Nat) : Nat := l.foldl (fun v x => v * 10 + x) 0
theorem dn_from (l : List Nat) : ∀ v, l.foldl (fun v x => v * 10 + x) v = v * 10 ^ l.length + dn l := by
  induction l with
  | nil => intro v; simp [dn]
  | cons x t ih =>
    intro v
    unfold dn
    rw [List.foldl_cons, List.foldl_cons, ih, ih (0 * 10 + x), List.length_cons, Nat.pow_succ, Nat.zero_mul, Nat.zero_add, Nat.add_mul, Nat.mul_assoc, Nat.mul_comm 10, Nat.add_assoc]
theorem dn_cons (x : Nat) (t : List Nat) : dn (x :: t) = x * 10 ^ t.length + dn t := by
  show List.foldl _ (0 * 10 + x) t = _
  rw [dn_from, Nat.zero_mul, Nat.zero_add]
theorem dn_snoc (t : List Nat) (x : Nat) : dn (t ++ [x]) = dn t * 10 + x := by
  unfold dn; rw [List.foldl_append]; rfl
theorem dn_lt (l : List Nat) (h : ∀ x ∈ l, x ≤ 9) : dn l < 10 ^ l.length := by
  induction l with
  | nil => decide
  | cons x t ih =>
    have h1 := ih (fun y hy => h y (List.mem_cons_of_mem _ hy))
    have h2 := h x (List.mem_cons_self ..)
    rw [dn_cons, List.length_cons, Nat.pow_succ]
    have : x * 10 ^ t.length ≤ 9 * 10 ^ t.length := Nat.mul_le_mul_right _ h2
    omega
theorem dn_zero (t : List Nat) : dn (0 :: t) = dn t := by rw [dn_cons, Nat.zero_mul, Nat.zero_add]
theorem dn_ge (x : Nat) (t : List Nat) (h : 1 ≤ x) : 10 ^ t.length ≤ dn (x :: t) := by
  rw [dn_cons]
  have : 1 * 10 ^ t.length ≤ x * 10 ^ t.length := Nat.mul_le_mul_right _ h
  omega
theorem T420_16 : T10 420 < T16 90 := by unfold T10 T16; decide +kernel
theorem bg_t420 (x : Nat) (h : x < T10 420) : (bg x).length ≤ 90 := bg_lenT 90 x (Nat.lt_trans h T420_16)
theorem bg_t767 (x k : Nat) (h : x = 10 ^ k) (hk : k ≤ 760) : (bg x).length ≤ 160 := by
  refine bg_lenT 160 x (Nat.lt_of_le_of_lt ?_ T767_16)
  rw [h, show 10 ^ k = T10 k from rfl]
  exact T10_mono (by omega)
theorem t10_inv (k n : Nat) (h : 10 ^ k < T10 n) : k < n := by
  apply Nat.lt_of_not_le
  intro hle
  have := Nat.pow_le_pow_right (show 0 < 10 by decide) hle
  unfold T10 at h; omega
theorem nx_hi (v b r : Nat) (x : Int) (hx : x = (b : Int)) (h : Near (v * 10 ^ b * U2 1075) 1 r) : NearX v x r := by
  unfold NearX
  rw [hx, Int.toNat_natCast, show (-(b : Int)).toNat = 0 by omega, ← u1075]
  exact h
theorem nx_lo (v b r : Nat) (x : Int) (hx : -x = (b : Int)) (h : Near (v * U2 1075) (10 ^ b) r) : NearX v x r := by
  unfold NearX
  rw [show x.toNat = 0 by omega, hx, Int.toNat_natCast, ← u1075, Nat.pow_zero, Nat.mul_one]
  exact h
theorem bg_one : bg 1 = [1] := by rw [bg_pos 1 (by decide), show 1 / 65536 = 0 by decide, bg_zero]
theorem nrow_one (w : World) : NRow (w.alloc (.cells #[.int .i64 1] 3)) (some ⟨w.heap.size, 0, none⟩) 1 (bg 1) := by
  rw [bg_one]
  refine NRow.of (.inr ⟨w.heap.size, 0, 1, rfl, by simp, by simp, by unfold maxLen; decide, fun i hi => ?_⟩)
  obtain rfl : i = 0 := by simp at hi; exact hi
  rw [Lib.cell_of_heap (Array.getElem?_push_size)]
  rfl
set_option maxRecDepth 100000 in
set_option maxHeartbeats 2000000 in
theorem value_any (a : Option Addr) (c : Nat) (l : List Nat) (hl : l.length ≤ 1300) (h9 : ∀ x ∈ l, x ≤ 9) (b : Nat) (hb : b ≤ 1300) (E : Int) (hE : E.natAbs ≤ 99999) (ng : Bool) (w : World) (hr : NRow w a c l) (hs : dn l < T10 420) :
    Calls Tryz.prog 53 #[.agg #[.slice a l.length c, .int .i64 b, .int .i64 E, .bool ng]] w fun e w' => (∃ r : Nat, e = .returned (.int .u64 r) ∧ NearX (dn l) (E - b) r) ∧ Below w.heap.size w w' := by
  obtain ⟨bb, off, hat⟩ := hr.at'
  have hcap := hr.cap
  have hath := Lib.hid hat
  have h9h := Lib.hid h9
  have hsh := Lib.hid hs
  obtain ⟨n, hn⟩ : ∃ n, n = l.length := ⟨_, rfl⟩
  have hnh := Lib.hid hn
  rw [← hn] at hcap hl ⊢
  clear hat h9 hs hn hr
  obtain ⟨g, hg⟩ : ∃ g, g = w.heap.size := ⟨_, rfl⟩
  have hgh := Lib.hid hg
  clear hg
  have hnew := Lib.hid (DcB.new w (.slice a n c) b E ng)
  obtain ⟨v, hv⟩ : ∃ v, Hid (v = dn l) := ⟨_, Lib.hid rfl⟩
  obtain ⟨y, hy⟩ : ∃ y : Int, E - (b : Int) = y := ⟨_, rfl⟩
  rw [← hv.out, hy]
  have hyb : -200000 ≤ y ∧ y ≤ 200000 := by omega
  go_enter Tryz.func53, Tryz.ntmps53
  go_wp2_with fail
  go_loopg [17] (n + 1) (fun gk s17 wx => ∃ (i : Nat) (q : Option Addr), n - i < gk ∧ i ≤ n ∧ Hid (DcB wx w.heap.size (.slice q (n - i) (c - i)) b E ng) ∧ Hid (i < n → q = some ⟨bb, off + i, none⟩) ∧ Hid (dn (l.drop i) = dn l) ∧ Hid (Below w.heap.size w wx))
  case atStart => exact ⟨0, a, by omega, by omega, hnew, Lib.hid (fun h => (hath.out 0 (by rw [← hnh.out]; exact h)).1), Lib.hid (by rw [List.drop_zero]), Lib.hid ((Below.refl _ _).alloc (Nat.le_refl _) _)⟩
  case round =>
    obtain ⟨i, q, hgk, hi, hD, hq, hdn, B⟩ := hrel
    have c0 := hD.out.c0
    have fz := hD.out.fz 0
    by_cases h0 : i < n
    · obtain rfl := hq.out h0
      obtain ⟨-, hbw, hcell⟩ := hath.out i (by rw [← hnh.out]; exact h0)
      have hxc : wr.cell? ⟨bb, off + i, none⟩ = some (.int .i64 ((l.getD i 0 : Nat) : Int)) := by rw [B.out.cell (p := ⟨bb, off + i, none⟩) hbw]; exact hcell
      have hdrop := drop_at l i (by rw [← hnh.out]; exact h0)
      have hx9 : l.getD i 0 ≤ 9 := by
        rw [List.getD_eq_getElem?_getD, List.getElem?_eq_getElem (by rw [← hnh.out]; exact h0)]
        exact h9h.out _ (List.getElem_mem _)
      obtain ⟨x, hx⟩ : ∃ x, Hid (x = l.getD i 0) := ⟨_, Lib.hid rfl⟩
      rw [← hx.out] at hxc hx9 hdrop
      have hdroph := Lib.hid hdrop
      clear hcell hdrop hbw
      obtain ⟨m, hm⟩ : ∃ m, n - i = m + 1 := ⟨n - i - 1, by omega⟩
      obtain ⟨C, hC⟩ : ∃ C, c - i = C + 1 := ⟨c - i - 1, by omega⟩
      rw [hm, hC] at c0
      have hDh : Hid (DcB wr w.heap.size (.slice (some ⟨bb, off + i, none⟩) (m + 1) (C + 1)) b E ng) := Lib.hid (by rw [← hm, ← hC]; exact hD.out)
      have t1 : decide ((0 : Int) < ((m + 1 : Nat) : Int)) = true := decide_eq_true (by omega)
      clear hD hq
      have hmm := Lib.hid hm
      have hCC := Lib.hid hC
      clear hm hC
      by_cases hz : x = 0
      · subst hz
        have hmc : m ≤ C := by have := hmm.out; have := hCC.out; omega
        have hdn2 : Hid (dn (l.drop (i + 1)) = dn l) := Lib.hid (by rw [← hdn.out, hdroph.out, dn_zero])
        clear hdn hdroph hx hx9
        have B2 : ∀ v, Hid (Below w.heap.size w (wr.setCell ⟨w.heap.size, 0, none⟩ v)) := fun v => Lib.hid (B.out.setCell (p := ⟨w.heap.size, 0, none⟩) (Nat.le_refl _) v)
        by_cases hC0 : C = 0
        · obtain rfl : m = 0 := by omega
          subst hC0
          go_wp2_with fail
          go_roundg (gk - 1)
          case measure => omega
          case rel =>
            have e1 : n - (i + 1) = 0 := by have := hmm.out; omega
            have e2 : c - (i + 1) = 0 := by have := hCC.out; omega
            refine ⟨i + 1, _, by omega, by omega, Lib.hid (by rw [e1, e2]; exact hDh.out.set0 _), Lib.hid (fun h => by omega), hdn2, B2 _⟩
        · go_wp2_with fail
          go_roundg (gk - 1)
          case measure => omega
          case rel =>
            have e1 : n - (i + 1) = m := by have := hmm.out; omega
            have e2 : c - (i + 1) = C := by have := hCC.out; omega
            refine ⟨i + 1, _, by omega, by omega, Lib.hid (by rw [e1, e2]; exact hDh.out.set0 _), Lib.hid (fun h => by rw [Nat.add_assoc]), hdn2, B2 _⟩
      · have hx1 : 1 ≤ x := by omega
        have hzi : ((x : Int) == 0) = false := beq_eq_false_iff_ne.2 (by omega)
        have hlen : (l.drop i).length = m + 1 := by rw [List.length_drop, ← hnh.out]; exact hmm.out
        have hlo : 10 ^ m ≤ dn l := by
          rw [← hdn.out, hdroph.out]
          have := dn_ge x (l.drop (i + 1)) hx1
          have e : (l.drop (i + 1)).length = m := by rw [List.length_drop, ← hnh.out]; have := hmm.out; omega
          rw [e] at this; exact this
        have hup : dn l < 10 ^ (m + 1) := by
          rw [← hdn.out, ← hlen]
          exact dn_lt _ (fun y hy => h9h.out y (List.mem_of_mem_drop hy))
        have hm420 : m < 420 := t10_inv m 420 (Nat.lt_of_le_of_lt hlo hsh.out)
        have hatL : Hid (∀ j, j < m + 1 → wr.cell? ⟨bb, off + i + j, none⟩ = some (.int .i64 (((l.drop i).getD j 0 : Nat) : Int))) := Lib.hid (fun j hj => by
          have hij : i + j < l.length := by rw [← hnh.out]; have := hmm.out; omega
          obtain ⟨-, hbw, hcell⟩ := hath.out (i + j) hij
          rw [Nat.add_assoc, B.out.cell (p := ⟨bb, off + (i + j), none⟩) hbw, hcell]
          rw [List.getD_eq_getElem?_getD, List.getD_eq_getElem?_getD, List.getElem?_drop])
        have hbw : bb < wr.heap.size := by
          obtain ⟨-, hbw, -⟩ := hath.out i (by rw [← hnh.out]; exact h0)
          exact Nat.lt_of_lt_of_le hbw B.out.size
        have hL9 : Hid (∀ y ∈ l.drop i, y ≤ 9) := Lib.hid (fun y hy => h9h.out y (List.mem_of_mem_drop hy))
        obtain ⟨L, hLd⟩ : ∃ L, Hid (L = l.drop i) := ⟨_, Lib.hid rfl⟩
        rw [← hLd.out] at hatL hL9 hlen hdn
        rw [← hv.out] at hlo hup hdn hsh
        have c1 := hDh.out.c1
        have c2 := hDh.out.c2
        have hloh := Lib.hid hlo
        have huph := Lib.hid hup
        have hlenh := Lib.hid hlen
        clear hlo hup hlen hx hdroph hath hnh h9h hnew hz hmm hCC hv hLd hcap hi hgk hl
        by_cases s1 : 310 < (m : Int) + 1 + y
        · have hN := Lib.hid (nx_big (v := v) (x := y) (k := m) hloh.out (by omega))
          have t2 : decide (310 < (m : Int) + 1 + y) = true := decide_eq_true s1
          clear s1
          go_wp2_with fail
          go_ret
          exact ⟨⟨INF, rfl, hN.out⟩, B.out⟩
        · have t2 : decide (310 < (m : Int) + 1 + y) = false := decide_eq_false s1
          by_cases s2 : (m : Int) + 1 + y < -330
          · have hN := Lib.hid (nx_small (v := v) (x := y) (k := m + 1) huph.out (by omega))
            have t3 : decide ((m : Int) + 1 + y < -330) = true := decide_eq_true s2
            clear s1 s2
            go_wp2_with fail
            go_ret
            exact ⟨⟨0, rfl, hN.out⟩, B.out⟩
          · have t3 : decide ((m : Int) + 1 + y < -330) = false := decide_eq_false s2
            have hy2 : -760 < y ∧ y ≤ 310 := by omega
            clear s1 s2 hyb
            go_upto_block 2 with (fail)
            go_cut [5] (fun s5 wx => ∃ (a5 : Option Addr) (c5 : Nat), s5 = .slice a5 (bg v).length c5 ∧ Hid (NRow wx a5 c5 (bg v)) ∧ Hid (Below w.heap.size w wx))
            case first =>
              go_wp2_with fail
              go_loopg [5, 6] (m + 2) (fun gk s5 s6 wx => ∃ (i : Nat) (a5 : Option Addr) (c5 : Nat), m + 1 - i < gk ∧ i ≤ m + 1 ∧ s6 = .int .i64 (i : Int) ∧ s5 = .slice a5 (bg (dn (L.take i))).length c5 ∧ Hid (NRow wx a5 c5 (bg (dn (L.take i)))) ∧ Hid (Below wr.heap.size wr wx))
              case atStart => 
                have e : bg (dn (L.take 0)) = [] := by rw [List.take_zero]; exact bg_zero
                exact ⟨0, none, 0, by omega, by omega, rfl, by rw [e]; rfl, Lib.hid (by rw [e]; exact NRow.of (.inl ⟨none, 0, fun _ => rfl, rfl, rfl⟩)), Lib.hid (Below.refl _ _)⟩
              case round =>
                obtain ⟨i2, a5, c5, hg2, hi2, rfl, rfl, hN5, B5⟩ := hrel
                have c0' := (hDh.out.on B5.out).c0
                have c1' : wr.heap.size = wr.heap.size := rfl
                have hP : Hid (dn (L.take i2) < T10 420) := Lib.hid (Nat.lt_of_lt_of_le (dn_lt _ (fun z hz => hL9.out z (List.mem_of_mem_take hz))) (by
                  rw [List.length_take, hlenh.out, Nat.min_eq_left hi2]; exact T10_mono (by omega)))
                by_cases hlt : i2 < m + 1
                · have t4 : decide ((i2 : Int) < (m : Int) + 1) = true := decide_eq_true (by omega)
                  have hdc : wr.cell? ⟨bb, off + i + i2, none⟩ = some (.int .i64 ((L.getD i2 0 : Nat) : Int)) := by rw [B5.out.cell (p := ⟨bb, off + i + i2, none⟩) hbw]; exact hatL.out i2 hlt
                  have hd9 : L.getD i2 0 ≤ 9 := by
                    rw [List.getD_eq_getElem?_getD, List.getElem?_eq_getElem (by rw [hlenh.out]; exact hlt)]
                    exact hL9.out _ (List.getElem_mem _)
                  have hstep : Hid (dn (L.take (i2 + 1)) = dn (L.take i2) * 10 + L.getD i2 0) := Lib.hid (by rw [take_last L i2 (by rw [hlenh.out]; exact hlt), dn_snoc])
                  obtain ⟨P, hPd⟩ : ∃ P, Hid (P = dn (L.take i2)) := ⟨_, Lib.hid rfl⟩
                  rw [← hPd.out] at hP hstep hN5 ⊢
                  obtain ⟨dg, hdg⟩ : ∃ dg, Hid (dg = L.getD i2 0) := ⟨_, Lib.hid rfl⟩
                  rw [← hdg.out] at hdc hd9 hstep
                  have ct := Lib.hid (times_any a5 c5 P 10 dg (by decide) (by omega) (Nat.le_trans (bg_t420 P hP.out) (by decide)) wr hN5.out)
                  obtain ⟨lp, hlp⟩ : ∃ lp, Hid (lp = (bg P).length) := ⟨_, Lib.hid rfl⟩
                  rw [← hlp.out] at ct ⊢
                  clear hN5
                  go_wp2_with fail
                  refine ct.out.mono ?_; rintro e w3 ⟨v3, rfl, hO, hb⟩
                  obtain ⟨a6, c6, rfl⟩ := hO.shape
                  have hN6 : Hid (NRow w3 a6 c6 (bg (dn (L.take (i2 + 1))))) := Lib.hid (by rw [hstep.out]; exact hO.nrow)
                  have B6 := Lib.hid (B5.out.trans (hb.mono B5.out.size))
                  rw [← hstep.out]
                  clear hO hb ct B5
                  obtain ⟨lq, hlq⟩ : ∃ lq, Hid (lq = (bg (dn (L.take (i2 + 1)))).length) := ⟨_, Lib.hid rfl⟩
                  rw [← hlq.out]
                  go_wp2_with fail
                  go_roundg (gk - 1)
                  case measure => omega
                  case rel => exact ⟨i2 + 1, a6, c6, by omega, by omega, by go_num, by rw [hlq.out], hN6, B6⟩
                · obtain rfl : i2 = m + 1 := by omega
                  have t4 : decide (((m + 1 : Nat) : Int) < (m : Int) + 1) = false := decide_eq_false (by omega)
                  have e : dn (L.take (m + 1)) = v := by rw [← hlenh.out, List.take_length]; exact hdn.out
                  rw [e] at hN5 ⊢
                  have B6 := Lib.hid (B.out.trans (B5.out.mono B.out.size))
                  clear e B5
                  obtain ⟨lq, hlq⟩ : ∃ lq, Hid (lq = (bg v).length) := ⟨_, Lib.hid rfl⟩
                  rw [← hlq.out]
                  go_wp2_with fail
                  go_meet
                  exact ⟨a5, c5, by rw [hlq.out], hN5, B6⟩
            case rest =>
              obtain ⟨a5, c5, rfl, hN5, B5⟩ := hcut
              have hv0 : Hid (0 < v) := Lib.hid (Nat.lt_of_lt_of_le (Nat.pow_pos (by decide)) hloh.out)
              have hvl : Hid ((bg v).length ≤ 90) := Lib.hid (bg_t420 v hsh.out)
              clear hDh hatL hL9 hlenh hloh huph hdn t1 c0 c1 c2 fz hxc hzi hbw
              by_cases y0 : 0 ≤ y
              · obtain ⟨k, hk⟩ : ∃ k : Nat, y = (k : Int) := ⟨y.toNat, by omega⟩
                have hN := Lib.hid (fun r => nx_hi v k r y hk)
                have hk3 : k ≤ 310 := by omega
                have t4 : decide (0 ≤ y) = true := decide_eq_true y0
                have hpl : Hid ((bg (10 ^ k)).length ≤ 160) := Lib.hid (bg_t767 _ k rfl (by omega))
                have hql : Hid ((bg (v * 10 ^ k)).length ≤ 250) := Lib.hid (bg_mul v _ 90 160 hvl.out hpl.out)
                have cp := Lib.hid (power_any 10 k (by decide) (by omega) wc)
                rw [← hk] at cp
                have hk0 := Lib.hid hk
                clear hk y0
                obtain ⟨lv, hlv⟩ : ∃ lv, Hid (lv = (bg v).length) := ⟨_, Lib.hid rfl⟩
                rw [← hlv.out]
                go_wp2_with fail
                refine cp.out.mono ?_; rintro e w1 ⟨a6, c6, rfl, hN6, hb6⟩
                have B6 := Lib.hid (B5.out.trans (hb6.mono B5.out.size))
                have cq := Lib.hid (product_any a5 a6 c5 c6 v (10 ^ k) (by have := hvl.out; omega) (by have := hpl.out; omega) w1 (hN5.out.on hb6) hN6)
                rw [← hlv.out] at cq
                obtain ⟨lp, hlp⟩ : ∃ lp, Hid (lp = (bg (10 ^ k)).length) := ⟨_, Lib.hid rfl⟩
                rw [← hlp.out] at cq ⊢
                clear hN6 hb6 hN5 B5 cp
                go_wp2_with fail
                refine cq.out.mono ?_; rintro e w2 ⟨a7, c7, rfl, hN7, hb7⟩
                have B7 := Lib.hid (B6.out.trans (hb7.mono B6.out.size))
                have ba := (Below.refl w2.heap.size w2).alloc (Nat.le_refl _) (.cells #[.int .i64 1] 3)
                have B8 := Lib.hid (B7.out.trans (ba.mono B7.out.size))
                have cn := nearest_any (v * 10 ^ k) 1 (Nat.mul_pos hv0.out (Nat.pow_pos (by decide))) (by decide) a7 (some ⟨w2.heap.size, 0, none⟩) c7 1 (by have := hql.out; omega) (by rw [bg_one]; decide) (w2.alloc (.cells #[.int .i64 1] 3)) (hN7.on ba) (nrow_one w2)
                rw [show (bg 1).length = 1 by rw [bg_one]; rfl] at cn
                replace cn := Lib.hid cn
                obtain ⟨lq, hlq⟩ : ∃ lq, Hid (lq = (bg (v * 10 ^ k)).length) := ⟨_, Lib.hid rfl⟩
                rw [← hlq.out] at cn ⊢
                clear hN7 hb7 ba cq B6 B7
                go_wp2_with fail
                refine cn.out.mono ?_; rintro e w3 ⟨⟨r, rfl, hR⟩, hb9⟩
                have hRN := Lib.hid (hN.out r hR)
                have B9 := Lib.hid (B8.out.trans (hb9.mono B8.out.size))
                clear hR hb9 cn
                go_wp2_with fail
                go_ret
                exact ⟨⟨r, rfl, hRN.out⟩, B9.out⟩
              · obtain ⟨k, hk⟩ : ∃ k : Nat, -y = (k : Int) := ⟨(-y).toNat, by omega⟩
                have hN := Lib.hid (fun r => nx_lo v k r y hk)
                have hk3 : k ≤ 760 := by omega
                have t4 : decide (0 ≤ y) = false := decide_eq_false y0
                have hpl : Hid ((bg (10 ^ k)).length ≤ 160) := Lib.hid (bg_t767 _ k rfl hk3)
                have cp := Lib.hid (power_any 10 k (by decide) (by omega) wc)
                obtain ⟨lv, hlv⟩ : ∃ lv, Hid (lv = (bg v).length) := ⟨_, Lib.hid rfl⟩
                rw [← hlv.out]
                clear y0
                go_wp2_with fail
                refine cp.out.mono ?_; rintro e w1 ⟨a6, c6, rfl, hN6, hb6⟩
                have B6 := Lib.hid (B5.out.trans (hb6.mono B5.out.size))
                have cn := Lib.hid (nearest_any v (10 ^ k) hv0.out (Nat.pow_pos (by decide)) a5 a6 c5 c6 (by have := hvl.out; omega) (by have := hpl.out; omega) w1 (hN5.out.on hb6) hN6)
                rw [← hlv.out] at cn
                obtain ⟨lp, hlp⟩ : ∃ lp, Hid (lp = (bg (10 ^ k)).length) := ⟨_, Lib.hid rfl⟩
                rw [← hlp.out] at cn ⊢
                clear hN6 hb6 hN5 B5 cp
                go_wp2_with fail
                refine cn.out.mono ?_; rintro e w3 ⟨⟨r, rfl, hR⟩, hb9⟩
                have hRN := Lib.hid (hN.out r hR)
                have B9 := Lib.hid (B6.out.trans (hb9.mono B6.out.size))
                clear hR hb9 cn
                go_wp2_with fail
                go_ret
                exact ⟨⟨r, rfl, hRN.out⟩, B9.out⟩
    · obtain rfl : i = n := by omega
      have e0 : i - i = 0 := Nat.sub_self i
      rw [e0] at c0
      have hv0 : v = 0 := by
        rw [hv.out, ← hdn.out, List.drop_of_length_le (by rw [← hnh.out]; exact Nat.le_refl _)]; rfl
      have hN := Lib.hid (nx_zero y)
      rw [← hv0] at hN
      have hvh := Lib.hid hv0
      clear hD hq hdn hv0 e0 hnew
      go_wp2_with fail
      go_ret
      exact ⟨⟨0, rfl, by have := hN.out; rw [hvh.out] at this ⊢; exact this⟩, B.out⟩
end Go.Proofs.YtaidemghhagniaaGreatDoor
end
section
namespace Go.Proofs.YtaidemghhagniaaGreatDoor
open Go Go.RowKit
set_option linter.unusedVariables false
def dgt (c : UInt8) : Nat := c.toNat - 48
/-- The digits, how many are behind the point, and the rest. -/
def msc : Bool → List UInt8 → List Nat × Nat × List UInt8
  | _, [] => ([], 0, [])
  | p, c :: t => if isD c = true then (dgt c :: (msc p t).1, (msc p t).2.1 + (if p then 1 else 0), (msc p t).2.2) else if c = 46 ∧ p = false then msc true t else ([], 0, c :: t)
theorem msc_dig (p : Bool) (c : UInt8) (t : List UInt8) (h : isD c = true) : msc p (c :: t) = (dgt c :: (msc p t).1, (msc p t).2.1 + (if p then 1 else 0), (msc p t).2.2) := by rw [msc, if_pos h]
theorem msc_dot (t : List UInt8) : msc false (46 :: t) = msc true t := by
  rw [msc, if_neg (by decide), if_pos ⟨rfl, rfl⟩]
theorem msc_end (p : Bool) (c : UInt8) (t : List UInt8) (h : isD c = false) (h2 : ¬ (c = 46 ∧ p = false)) : msc p (c :: t) = ([], 0, c :: t) := by
  rw [msc, if_neg (by rw [h]; decide), if_neg h2]
theorem msc_true (t : List UInt8) : msc true t = ((t.take (digN t)).map dgt, digN t, t.drop (digN t)) := by
  induction t with
  | nil => rfl
  | cons c t ih =>
    by_cases h : isD c = true
    · rw [msc_dig _ _ _ h, ih, digN_cons, if_pos h]; rfl
    · rw [msc_end _ _ _ (by simpa using h) (fun e => by cases e.2), digN_cons, if_neg h]; rfl
theorem msc_false (l : List UInt8) : msc false l = match l.drop (digN l) with
    | [] => ((l.take (digN l)).map dgt, 0, [])
    | c :: t => if c = 46 then ((l.take (digN l)).map dgt ++ (t.take (digN t)).map dgt, digN t, t.drop (digN t)) else ((l.take (digN l)).map dgt, 0, c :: t) := by
  induction l with
  | nil => rfl
  | cons c t ih =>
    by_cases h : isD c = true
    · rw [msc_dig _ _ _ h, ih, digN_cons, if_pos h, List.drop_succ_cons, List.take_succ_cons]
      cases t.drop (digN t) with
      | nil => rfl
      | cons x u =>
        simp only
        by_cases hx : x = 46
        · rw [if_pos hx, if_pos hx]; rfl
        · rw [if_neg hx, if_neg hx]; rfl
    · rw [digN_cons, if_neg h, List.drop_zero, List.take_zero]
      simp only
      by_cases hx : c = 46
      · subst hx; rw [if_pos rfl, msc_dot, msc_true]; rfl
      · rw [if_neg hx, msc_end _ _ _ (by simpa using h) (fun e => hx e.1)]; rfl
theorem dn_map (l : List UInt8) : dn (l.map dgt) = dval l := by
  unfold dn dval; rw [List.foldl_map]; rfl
theorem digN_dl (l : List UInt8) : DigL (l.take (digN l)) := fun c hc => by
  exact (isD_iff c).1 (digN_all l c hc)
theorem msc_len (l : List UInt8) : (msc false l).1.length = (manL l).1 ∧ (msc false l).2.2 = (manL l).2 := by
  have h1 : ∀ t : List UInt8, (t.take (digN t)).length = digN t := fun t => List.length_take_of_le (digN_le t)
  rw [msc_false]
  unfold manL
  simp only
  cases l.drop (digN l) with
  | nil => exact ⟨by simp only [List.length_map]; exact h1 l, rfl⟩
  | cons c t =>
    simp only
    by_cases hx : c = 46
    · rw [if_pos hx, if_pos hx]; exact ⟨by simp only [List.length_append, List.length_map]; rw [h1, h1], rfl⟩
    · rw [if_neg hx, if_neg hx]; exact ⟨by simp only [List.length_map]; exact h1 l, rfl⟩
theorem msc_nine (p : Bool) (l : List UInt8) : ∀ x ∈ (msc p l).1, x ≤ 9 := by
  induction l generalizing p with
  | nil => intro x hx; cases hx
  | cons c t ih =>
    by_cases h : isD c = true
    · rw [msc_dig _ _ _ h]
      intro x hx
      rcases List.mem_cons.1 hx with rfl | hx
      · have := (isD_iff c).1 h; unfold dgt; omega
      · exact ih p x hx
    · by_cases h2 : c = 46 ∧ p = false
      · obtain ⟨rfl, rfl⟩ := h2; rw [msc_dot]; exact ih true
      · rw [msc_end _ _ _ (by simpa using h) h2]; intro x hx; cases hx
theorem msc_bd (p : Bool) (l : List UInt8) : (msc p l).1.length ≤ l.length ∧ (msc p l).2.1 ≤ l.length ∧ (msc p l).2.2.length ≤ l.length := by
  induction l generalizing p with
  | nil => exact ⟨Nat.le_refl _, Nat.le_refl _, Nat.le_refl _⟩
  | cons c t ih =>
    by_cases h : isD c = true
    · obtain ⟨i1, i2, i3⟩ := ih p
      rw [msc_dig _ _ _ h]
      simp only [List.length_cons]
      refine ⟨by omega, ?_, ?_⟩
      · show (msc p t).2.1 + (if p then 1 else 0) ≤ _
        split <;> omega
      · show (msc p t).2.2.length ≤ _
        omega
    · by_cases h2 : c = 46 ∧ p = false
      · obtain ⟨rfl, rfl⟩ := h2
        obtain ⟨i1, i2, i3⟩ := ih true
        rw [msc_dot, List.length_cons]; exact ⟨by omega, by omega, by omega⟩
      · rw [msc_end _ _ _ (by simpa using h) h2]
        exact ⟨Nat.zero_le _, Nat.zero_le _, Nat.le_refl _⟩
theorem xpt_plain (W : List UInt8) (h : DigL W) (E : Int) : xpt (mrun W) E = E := by
  have hd : ∀ (T : List UInt8), DigL T → ∀ m : MS, (T.foldl mstep m).dot = m.dot := fun T hT m => (run_tail T hT m).1
  unfold xpt
  have : (mrun W).dot = false := hd W h ms0
  rw [this, if_neg (by decide)]
  omega
theorem msc_num (l : List UInt8) (E : Int) : dn (msc false l).1 = mvF (l.take (l.length - (msc false l).2.2.length)) ∧ xpt (mrun (l.take (l.length - (msc false l).2.2.length))) E = E - ((msc false l).2.1 : Nat) := by
  have hl : l = l.take (digN l) ++ l.drop (digN l) := (List.take_append_drop _ _).symm
  have hW := digN_dl l
  have hlen : (l.take (digN l)).length = digN l := List.length_take_of_le (digN_le l)
  rw [msc_false]
  cases hr : l.drop (digN l) with
  | nil =>
    have e : l.take (l.length - ([] : List UInt8).length) = l.take (digN l) := by
      rw [hr, List.append_nil] at hl
      rw [List.length_nil, Nat.sub_zero, List.take_length]; exact hl
    simp only
    rw [e, dn_map]
    refine ⟨?_, by rw [xpt_plain _ hW]; omega⟩
    unfold mvF; rw [mvF_foldl _ hW, Nat.zero_mul, Nat.zero_add]
  | cons c t =>
    simp only
    rw [hr] at hl
    have hll : l.length = digN l + (t.length + 1) := by
      have := congrArg List.length hl
      rw [List.length_append, hlen, List.length_cons] at this; exact this
    by_cases hx : c = 46
    · subst hx
      rw [if_pos rfl]
      have hT := digN_dl t
      have htl : (t.take (digN t)).length = digN t := List.length_take_of_le (digN_le t)
      have hdl : (t.drop (digN t)).length = t.length - digN t := List.length_drop
      have hdt := digN_le t
      have e : l.take (l.length - (t.drop (digN t)).length) = l.take (digN l) ++ 46 :: t.take (digN t) := by
        rw [hdl, show l.length - (t.length - digN t) = digN l + (digN t + 1) by omega]
        rw [List.take_add, hr, List.take_succ_cons]
      simp only
      rw [e, mvF_dot _ _ hW hT, xpt_dot _ _ hT, ← List.map_append, dn_map, htl]
      exact ⟨rfl, rfl⟩
    · rw [if_neg hx]
      have e : l.take (l.length - (c :: t).length) = l.take (digN l) := by
        rw [hll, List.length_cons, Nat.add_sub_cancel]
      simp only
      rw [e, dn_map]
      refine ⟨?_, by rw [xpt_plain _ hW]; omega⟩
      unfold mvF; rw [mvF_foldl _ hW, Nat.zero_mul, Nat.zero_add]
end Go.Proofs.YtaidemghhagniaaGreatDoor
end
