/- The walk of DecimalTells. -/
import Derived.Test.YtaidemghhagniaaGreatDoorYA
import Derived.Test.YtaidemghhagniaaGreatDoorW1
import Derived.Test.YtaidemghhagniaaGreatDoorKM
namespace Go.Proofs.YtaidemghhagniaaGreatDoor
open Go Go.RowKit Ieee
set_option maxRecDepth 100000 in
set_option maxHeartbeats 4000000 in
theorem tells_any (a b : Nat) (ha : a < 18446744073709551616) (hb : b < 18446744073709551616) (w : World) (hG : AGlb w) :
    Calls Tryz.prog 20 #[.int .u64 a, .int .u64 b] w fun e w' => e = .returned (.bool true) ∧ Below w.heap.size w w' := by
  have c1 := compare_any a b ha hb w
  have c2 := rbefore_any a b ha hb w
  have c3 := next_any a ha w
  have c4 := rnext_any a ha w
  have c5 := whole_any a ha w
  have c6 := rwhole_any a ha w
  have c7 := kind_any a ha w
  have c8 := rkind_any a ha w
  have c9 := neg_any a ha w
  have cx : Calls Tryz.prog 14 #[.int .u64 a] w fun e w' => e = .returned (.string (BS (exactL a))) ∧ Below w.heap.size w w' := exact_any a ha w hG.tab
  have cy := Lib.hid (fun W => rexact_any a ha W)
  have b1 : bits .xor .u64 (a : Int) 9223372036854775808 = ((negN a : Nat) : Int) := by
    refine Eq.trans (u64_xor_nat a 9223372036854775808 ha (by decide)) ?_
    exact congrArg _ (xor_top a ha)
  obtain ⟨x1, x2, hx⟩ : ∃ x1 x2, cmpN a b = (x1, x2) := ⟨_, _, rfl⟩
  rw [hx] at c1 c2
  obtain ⟨y1, y2, hy⟩ : ∃ x1 x2, nextN a = (x1, x2) := ⟨_, _, rfl⟩
  rw [hy] at c3 c4
  obtain ⟨z1, z2, hz⟩ : ∃ x1 x2, wholeN a = (x1, x2) := ⟨_, _, rfl⟩
  rw [hz] at c5 c6
  obtain ⟨k, hk⟩ : ∃ k, k = kindN a := ⟨_, rfl⟩
  rw [← hk] at c7 c8
  obtain ⟨n, hn⟩ : ∃ n, n = negN a := ⟨_, rfl⟩
  rw [← hn] at c9 b1
  obtain ⟨L, hL⟩ : ∃ L, L = exactL a := ⟨_, rfl⟩
  rw [← hL] at cx cy
  have e1 : (x1 == x1) = true := beq_self_eq_true _
  have e2 : (x2 == x2) = true := beq_self_eq_true _
  have e3 : ((y1 : Int) == (y1 : Int)) = true := beq_self_eq_true _
  have e4 : (y2 == y2) = true := beq_self_eq_true _
  have e5 : (z1 == z1) = true := beq_self_eq_true _
  have e6 : (z2 == z2) = true := beq_self_eq_true _
  have e7 : ((k : Int) == (k : Int)) = true := beq_self_eq_true _
  have e8 : ((n : Int) == (n : Int)) = true := beq_self_eq_true _
  have e9 : ((BS L).toList == (BS L).toList) = true := beq_self_eq_true _
  clear hx hy hz hk hn hL hG
  replace c1 := Lib.hid c1
  replace c2 := Lib.hid c2
  replace c3 := Lib.hid c3
  replace c4 := Lib.hid c4
  replace c5 := Lib.hid c5
  replace c6 := Lib.hid c6
  replace c7 := Lib.hid c7
  replace c8 := Lib.hid c8
  replace c9 := Lib.hid c9
  replace cx := Lib.hid cx
  go_enter Tryz.func20, Tryz.ntmps20
  go_wp2_with fail
  refine c1.out.mono ?_; rintro e w1 ⟨rfl, rfl⟩
  go_wp2_with fail
  refine c2.out.mono ?_; rintro e w1 ⟨rfl, rfl⟩
  go_wp2_with fail
  refine c3.out.mono ?_; rintro e w1 ⟨rfl, rfl⟩
  go_wp2_with fail
  refine c4.out.mono ?_; rintro e w1 ⟨rfl, rfl⟩
  go_wp2_with fail
  refine c5.out.mono ?_; rintro e w1 ⟨rfl, rfl⟩
  go_wp2_with fail
  refine c6.out.mono ?_; rintro e w1 ⟨rfl, rfl⟩
  go_wp2_with fail
  refine c7.out.mono ?_; rintro e w1 ⟨rfl, rfl⟩
  go_wp2_with fail
  refine c8.out.mono ?_; rintro e w1 ⟨rfl, rfl⟩
  go_wp2_with fail
  refine c9.out.mono ?_; rintro e w1 ⟨rfl, rfl⟩
  go_wp2_with fail
  refine cx.out.mono ?_; rintro e w1 ⟨rfl, hb1⟩
  replace hb1 := Lib.hid hb1
  go_wp2_with fail
  refine (cy.out _).mono ?_; rintro e w2 ⟨rfl, hb2⟩
  have B := Lib.hid (hb1.out.trans (hb2.mono hb1.out.size))
  clear hb1 hb2
  go_wp2_with fail
  go_ret
  exact ⟨rfl, B.out⟩
theorem tells_law (a b : Nat) (ha : a < 18446744073709551616) (hb : b < 18446744073709551616) (w : World) (hG : AGlb w) :
    Calls Tryz.prog 6 #[.int .u64 a, .int .u64 b] w fun e w' => e = .returned (.bool true) ∧ Below w.heap.size w w' := by
  have c1 := Lib.hid (tells_any a b ha hb w hG)
  have c2 := Lib.hid (fun W hb => awake_any W (AGlb.on hG hb))
  go_enter Tryz.func6, Tryz.ntmps6
  go_wp2_with fail
  refine c1.out.mono ?_; rintro e w1 ⟨rfl, hb1⟩
  have c3 := Lib.hid (c2.out w1 hb1)
  replace hb1 := Lib.hid hb1
  clear c1 c2
  go_wp2_with fail
  refine c3.out.mono ?_; rintro e w2 ⟨rfl, hb2⟩
  have B := Lib.hid (hb1.out.trans (hb2.mono hb1.out.size))
  clear hb1 hb2 c3
  go_wp2_with fail
  go_ret
  exact ⟨rfl, B.out⟩
theorem decimalTells_walk (a0 a1 : Int) (w : World) (w0 : (Lit.int .u64 a0).wf = true) (w1 : (Lit.int .u64 a1).wf = true) (hG : AGlb w) :
    Calls Tryz.prog 6 #[.int .u64 a0, .int .u64 a1] w fun e w' => e = .returned (.bool true) ∧ Below w.heap.size w w' := by
  obtain ⟨a, rfl, ha⟩ := u64_of w0
  obtain ⟨b, rfl, hb⟩ := u64_of w1
  exact tells_law a b ha hb w hG
end Go.Proofs.YtaidemghhagniaaGreatDoor
