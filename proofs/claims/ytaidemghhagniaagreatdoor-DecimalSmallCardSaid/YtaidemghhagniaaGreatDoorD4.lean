/- The contract of parseFloat64. -/
import Derived.Test.YtaidemghhagniaaGreatDoorD3
import Derived.Test.YtaidemghhagniaaGreatDoorF7
import Derived.Lib.ItoaNum
namespace Go.Proofs.YtaidemghhagniaaGreatDoor
open Go Go.RowKit
set_option linter.unusedVariables false
theorem bl_eq (d : Nat) (h0 : 0 < d) (h : d < 18446744073709551616) : Lib.bitLen d = bl d := by
  obtain ⟨h1, h2, h3⟩ := Lib.bitLenAux_bounds 64 d h (by omega)
  show Lib.bitLenAux 64 d = _
  generalize Lib.bitLenAux 64 d = b at *
  have h4 := bl_lt d
  have h5 := bl_le d h0
  have : 1 ≤ bl d := by unfold bl; omega
  have a : b ≤ bl d := by
    apply Nat.le_of_not_lt; intro hlt
    have := Nat.pow_le_pow_right (n := 2) (by omega) (show bl d ≤ b - 1 by omega)
    omega
  have c : bl d ≤ b := by
    apply Nat.le_of_not_lt; intro hlt
    have := Nat.pow_le_pow_right (n := 2) (by omega) (show b ≤ bl d - 1 by omega)
    omega
  omega
theorem or_mod2 (u : Nat) : u ||| u % 2 = u := by
  apply Nat.eq_of_testBit_eq
  intro j
  rw [Nat.testBit_or]
  cases j with
  | zero => simp [Nat.testBit_zero]
  | succ j =>
    rw [show (u % 2).testBit (j + 1) = false by
      apply Nat.testBit_lt_two_pow
      have : 2 ^ (j + 1) = 2 ^ j * 2 := Nat.pow_succ ..
      have := Nat.two_pow_pos j
      omega]
    simp
theorem presc_to (B b i : Nat) (e lp s : Int) (hi : i < 696) (he : -10000 ≤ e ∧ e ≤ 10000) (hl : -10000 ≤ lp ∧ lp ≤ 10000) (hs : -(e + lp + 3) = s) (w : World) (x y z : Value) (hT : TabP w) (hb : w.heap[b]? = some (.cells #[x, y, z] 193 (0, 0))) (hb15 : b ≠ 15) (hB : B ≤ b) :
    Calls Tryz.prog 151 #[.pointer (some ⟨b, 0, none⟩), .int .i64 e, .int .i64 ((i : Int) - 348), .int .i64 lp] w fun r w' => r = .returned (.tuple #[]) ∧ ScAt w' b (thi i) (tlo i) s ∧ Below B w w' := by
  subst hs
  refine (prescale_any b i e lp hi he hl w x y z hT hb hb15).mono ?_
  rintro r w' ⟨rfl, rfl⟩
  refine ⟨rfl, ?_, ?_⟩
  · have d0 : w.cell? ⟨b, 0, none⟩ = some x := by simp [World.cell?, hb]
    have d1 : w.cell? ⟨b, 1, none⟩ = some y := by simp [World.cell?, hb]
    have d2 : w.cell? ⟨b, 2, none⟩ = some z := by simp [World.cell?, hb]
    refine ⟨?_, ?_, ?_⟩ <;> simp [go_sem, d0, d1, d2]
  · exact (((Below.refl B w).setCell (p := ⟨b, 0, none⟩) hB _).setCell (p := ⟨b, 1, none⟩) hB _).setCell (p := ⟨b, 2, none⟩) hB _
theorem below_drewN {B : Nat} {a w : World} (h : Below B a w) (n : Nat) : Below B a (w.drewN n) := ⟨h.os, h.tape, h.output, h.size, h.block⟩
theorem usc_lt (x hi lo s : Nat) (hx : x < 18446744073709551616) (hh : hi < 18446744073709551616) (hs : 8 ≤ s) : usc x hi lo s < 9223372036854775808 := by
  have hH1 : x * hi / 18446744073709551616 < 18446744073709551616 := (Nat.div_lt_iff_lt_mul (by decide)).2 (Nat.mul_lt_mul'' hx hh)
  unfold usc
  dsimp only
  generalize x * hi / 18446744073709551616 = H at *
  generalize x * hi % 18446744073709551616 = m1
  generalize x * lo / 18446744073709551616 = m2
  have h256 : 256 ≤ 2 ^ s := Nat.pow_le_pow_right (n := 2) (by omega) hs
  have key : ∀ G, G < 18446744073709551616 → G / 2 ^ s < 72057594037927936 := fun G hG => by
    refine (Nat.div_lt_iff_lt_mul (Nat.two_pow_pos s)).2 ?_
    have : 72057594037927936 * 256 ≤ 72057594037927936 * 2 ^ s := Nat.mul_le_mul_left _ h256
    omega
  have k1 := key H hH1
  have k2 := key (H - 1) (by omega)
  have o : ∀ a, a ||| 1 ≤ a + 1 := fun a => by rw [or_one]; omega
  have o1 := o (H / 2 ^ s)
  have o2 := o ((H - 1) / 2 ^ s)
  split
  · omega
  · split
    · omega
    · split <;> omega
def PfRet (sg r : Nat) (w : World) (x : Ending) (w' : World) : Prop := x = .returned (.tuple #[.float .f64 (sg + r), errV (decide (r = INF))]) ∧ Below w.heap.size w w'
set_option maxRecDepth 100000 in
set_option maxHeartbeats 4000000 in
theorem pf_any (d i sg : Nat) (h0 : 0 < d) (hd : d < 18446744073709551616) (hi : i < 696) (hs : sg = 0 ∨ sg = 9223372036854775808) (w : World) (hT : TabP w) (hw : 15 < w.heap.size) :
    Calls Tryz.prog 142 #[.int .u64 d, .int .i64 ((i : Int) - 348), .int .u64 sg] w (PfRet sg (pf64 d i) w) := by
  have q1 := Tryz.bits_Len64 d w (by omega) (by omega)
  rw [show ((d : Int)).toNat = d by omega, bl_eq d h0 hd] at q1
  have hb64 := bl_64 d hd
  have hb1 : 1 ≤ bl d := by unfold bl; omega
  have q2 := log2_any ((i : Int) - 348) (by omega) (by omega) w
  have hlp : -1300 ≤ lp2 ((i : Int) - 348) ∧ lp2 ((i : Int) - 348) ≤ 1300 := by unfold lp2; omega
  obtain ⟨R, hR⟩ : ∃ R, R = pf64 d i := ⟨_, rfl⟩
  rw [← hR]
  unfold pf64 at hR
  dsimp only at hR
  have way := fun (s j : Nat) a b c => pf_way d i h0 hd hi _ rfl s j (d * 2 ^ (64 - bl d)) _ a b c rfl rfl
  obtain ⟨hx1, hx2⟩ := pf_x d h0 hd
  obtain ⟨x, hx⟩ : ∃ x, x = d * 2 ^ (64 - bl d) := ⟨_, rfl⟩
  rw [← hx] at way hx1 hx2 hR
  generalize lp2 ((i : Int) - 348) = lp at *
  have hxw : IntKind.u64.wrap ((d : Int) * 2 ^ (64 - bl d)) = x := by
    rw [← (by rw [hx, Int.natCast_mul, Int.natCast_pow]; rfl : (x : Int) = (d : Int) * 2 ^ (64 - bl d))]
    exact u64_wrap_in _ (by omega) (by omega)
  generalize bl d = b at *
  replace way := Lib.hid way
  replace hT := Lib.hid hT
  replace hR := Lib.hid hR
  replace hx := Lib.hid hx
  go_enter Tryz.func142, Tryz.ntmps142
  go_wp2_with fail
  refine q1.mono ?_; rintro e w1 ⟨rfl, rfl⟩
  go_wp2_with fail
  refine q2.mono ?_; rintro e w2 ⟨rfl, rfl⟩
  clear q1 q2
  obtain ⟨E, hE⟩ : ∃ E : Int, min 1074 (53 - (b : Int) - lp) = E := ⟨_, rfl⟩
  have hE2 : pfE ((b : Int) + lp) = E ∧ -1400 ≤ E ∧ E ≤ 1074 := by unfold pfE; omega
  obtain ⟨hE3, hE4, hE5⟩ := hE2
  obtain ⟨S, hS⟩ : ∃ S : Int, -(E - (64 - (b : Int)) + lp + 3) = S := ⟨_, rfl⟩
  have hS2 : pfS ((b : Int) + lp) = S := by unfold pfS; omega
  have pre := presc_to w1.heap.size w1.heap.size i (E - (64 - (b : Int))) lp S hi (by omega) (by omega) hS (w1.alloc (.cells #[.int .u64 0, .int .u64 0, .int .i64 0] 193)) (.int .u64 0) (.int .u64 0) (.int .i64 0) (fun k hk => by
    have hc := (Below.refl w1.heap.size w1).alloc (Nat.le_refl _) (.cells #[.int .u64 0, .int .u64 0, .int .i64 0] 193)
    exact ⟨(hc.cell (p := ⟨15, k * 2, none⟩) hw).trans (hT.out k hk).1, (hc.cell (p := ⟨15, k * 2 + 1, none⟩) hw).trans (hT.out k hk).2⟩) (heap_alloc_new _ _) (by omega) (Nat.le_refl _)
  rw [hE3, hS2] at hR way
  replace pre := Lib.hid pre
  have hE3' := Lib.hid hE3
  have hS2' := Lib.hid hS2
  have hS' := Lib.hid hS
  clear hE3 hS2 hS
  go_wp2_with fail
  refine (pre.out).mono ?_; rintro e w2 ⟨rfl, hsc, hb2⟩
  have B2 := Lib.hid (((Below.refl w1.heap.size w1).alloc (Nat.le_refl _) (.cells #[.int .u64 0, .int .u64 0, .int .i64 0] 193)).trans hb2)
  clear pre hb2
  have hsc2 := Lib.hid hsc
  obtain ⟨c0, c1, c2⟩ := hsc
  by_cases g64 : 64 ≤ S
  · have t1 : decide (64 ≤ S) = true := decide_eq_true g64
    have h := hR.out
    rw [if_pos g64] at h
    have hf : sg + R = sg := by omega
    have hni : errV (decide (R = INF)) = .nilIface := by rw [decide_eq_false (by rw [h]; decide)]; rfl
    have f1 := fb64
    have o1 : bits .or .u64 (sg : Int) 0 = sg := or0_u64 sg (by omega)
    clear hR way h hT
    go_wp2_with fail
    go_ret2
    exact ⟨ret2_f (by omega) hni.symm, B2.out⟩
  · have t1 : decide (64 ≤ S) = false := decide_eq_false g64
    have h := hR.out
    rw [if_neg g64] at h
    obtain ⟨s, hs1⟩ : ∃ s : Nat, S = s := ⟨S.toNat, by have := hS'.out; omega⟩
    obtain ⟨j, hj1⟩ : ∃ j : Nat, 1075 - E = j := ⟨(1075 - E).toNat, by omega⟩
    have hs64 : s < 64 := by omega
    obtain ⟨p1, p2, p3, p4, p5⟩ := way.out s j hs1 hj1 hs64
    rw [hs1, hj1, Int.toNat_natCast, Int.toNat_natCast] at h
    obtain ⟨U, hU⟩ : ∃ U, U = usc x (thi i) (tlo i) s := ⟨_, rfl⟩
    rw [← hU] at h p4 p5
    have hsc := hsc2.out
    rw [hs1] at hsc
    have hrow := row_ok i hi
    have us := uscale_any x (thi i) (tlo i) s hx2 hrow.h2 hrow.h3 hs64 p3 w1.heap.size w2 hsc U hU.symm
    have hU63 : U < 9223372036854775808 := by
      rw [hU]; exact usc_lt x (thi i) (tlo i) s hx2 hrow.h2 p1
    replace us := Lib.hid us
    replace h := Lib.hid h
    replace B2 := B2.out
    have hs1' := Lib.hid hs1
    have hjE : E = 1075 - (j : Int) := by omega
    clear hR way hT hU hs1 hsc p3 hrow hS2' hE3' hS' hj1 hE
    by_cases g : 36028797018963966 ≤ U
    · obtain ⟨V, hV⟩ : ∃ V, U / 2 ||| U % 2 = V := ⟨_, rfl⟩
      obtain ⟨v1, v2⟩ := p4 g
      rw [hV] at v1 v2
      have h2 := h.out
      unfold pk at h2
      rw [if_pos g, hV] at h2
      have t2 : decide (36028797018963966 ≤ (U : Int)) = true := decide_eq_true (by omega)
      have b1 : bits .and .u64 (U : Int) 1 = ((U % 2 : Nat) : Int) := u64_low U (by omega)
      have b2 : bits .or .u64 ((U : Int) / 2) ((U % 2 : Nat) : Int) = V := by
        have := u64_or_nat (U / 2) (U % 2) (by omega) (by omega)
        rw [hV] at this
        rw [← this]; rfl
      have hm : rnd V < 9007199254740992 := by unfold rnd; omega
      have hm2 : 4503599627370496 ≤ rnd V := by unfold rnd; omega
      have rr := round_any V (by omega)
      have b3 : bits .or .u64 (sg : Int) (rnd V : Int) = ((sg + rnd V : Nat) : Int) := by
        have := u64_or_nat sg (rnd V) (by omega) (by omega)
        rw [or_sign sg _ hs (by omega)] at this; exact this
      have pa := pack_any sg (rnd V) (-(1075 - (j : Int) - 1)) hs hm (by omega) (by omega) (by omega)
      rw [show (1074 + -(1075 - (j : Int) - 1)).toNat = j by omega, ← h2] at pa
      replace rr := Lib.hid rr
      replace pa := Lib.hid pa
      generalize rnd V = m at *
      generalize U % 2 = z at *
      clear h2 hV p4 p5 v1 v2 h hs hi hm hm2 g
      go_wp2_with fail
      refine (us.out).mono ?_; rintro e w3 ⟨rfl, n3, rfl⟩
      go_wp2_with fail
      refine (unmin_any _).mono ?_; rintro e w3 ⟨rfl, rfl⟩
      go_wp2_with fail
      refine (bool2i_any true _).mono ?_; rintro e w3 ⟨rfl, rfl⟩
      go_wp2_with fail
      refine (rr.out _).mono ?_; rintro e w3 ⟨rfl, rfl⟩
      go_wp2_with fail
      refine (pa.out _).mono ?_; rintro e w3 ⟨rfl, rfl⟩
      go_wp2_with fail
      go_ret2
      exact ⟨rfl, below_drewN B2 _⟩
    · have h2 := h.out
      unfold pk at h2
      rw [if_neg g] at h2
      have t2 : decide (36028797018963966 ≤ (U : Int)) = false := decide_eq_false (by omega)
      have b1 : bits .and .u64 (U : Int) 1 = ((U % 2 : Nat) : Int) := u64_low U (by omega)
      have b2 : bits .or .u64 (U : Int) ((U % 2 : Nat) : Int) = U := by
        have := u64_or_nat U (U % 2) (by omega) (by omega)
        rw [or_mod2] at this
        exact this
      have hm : rnd U < 9007199254740992 := by unfold rnd; omega
      have hm2 : 1 < j → 4503599627370496 ≤ rnd U := fun hj => by have := p5 hj; unfold rnd; omega
      have rr := round_any U (by omega)
      have b3 : bits .or .u64 (sg : Int) (rnd U : Int) = ((sg + rnd U : Nat) : Int) := by
        have := u64_or_nat sg (rnd U) (by omega) (by omega)
        rw [or_sign sg _ hs (by omega)] at this; exact this
      have pa := pack_any sg (rnd U) (-(1075 - (j : Int))) hs hm (by omega) (by omega) (fun h => by
        by_cases hj : 1 < j
        · have := hm2 hj; omega
        · omega)
      rw [show (1074 + -(1075 - (j : Int))).toNat = j - 1 by omega, ← h2] at pa
      replace rr := Lib.hid rr
      replace pa := Lib.hid pa
      generalize rnd U = m at *
      generalize U % 2 = z at *
      clear h2 p4 p5 h hs hi hm hm2 g
      go_wp2_with fail
      refine (us.out).mono ?_; rintro e w3 ⟨rfl, n3, rfl⟩
      go_wp2_with fail
      refine (unmin_any _).mono ?_; rintro e w3 ⟨rfl, rfl⟩
      go_wp2_with fail
      refine (bool2i_any false _).mono ?_; rintro e w3 ⟨rfl, rfl⟩
      go_wp2_with fail
      refine (rr.out _).mono ?_; rintro e w3 ⟨rfl, rfl⟩
      go_wp2_with fail
      refine (pa.out _).mono ?_; rintro e w3 ⟨rfl, rfl⟩
      go_wp2_with fail
      go_ret2
      exact ⟨rfl, below_drewN B2 _⟩
end Go.Proofs.YtaidemghhagniaaGreatDoor
