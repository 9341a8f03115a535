/- Contract of numbers, the comparison with the reference. -/
import Derived.Test.YtennohgmenjaaaaW6
namespace Go.Proofs.Ytennohgmenjaaaa
open Go.RowKit Go.Shelf

theorem last_both (h to : BitVec 64) : ∃ (b : Nat) (c : Int), (∀ w, Calls Try.prog 19 #[.int .u64 (U h), .int .u64 (U to)] w fun e w' => e = .returned (.tuple #[.int .u8 (b : Int), .int .i64 c]) ∧ w = w') ∧
    (∀ w, Calls Try.prog 30 #[.int .u64 (U h), .int .u64 (U to)] w fun e w' => e = .returned (.tuple #[.int .u8 (b : Int), .int .i64 c]) ∧ w = w') := by
  by_cases hc : ∃ c, hstep h c = to
  · obtain ⟨c, hc⟩ := hc
    refine ⟨c.toNat, 0, fun w => last_some h to c hc w, fun w => rlast_some h to c.toNat c.toNat_lt ?_ w⟩
    show hstep h _ = to
    rw [UInt8.ofNat_toNat]; exact hc
  · have hn : Hid (∀ c, hstep h c ≠ to) := fun c e => hc ⟨c, e⟩
    exact ⟨0, 6, fun w => last_none h to hn w, fun w => rlast_none h to hn w⟩

theorem zeros_both (h : BitVec 64) (n : Int) (hn1 : n ≤ 9223372036854775807) : ∃ (a : BitVec 64) (c : Int), (∀ w, Calls Try.prog 18 #[.int .u64 (U h), .int .i64 n] w fun e w' => e = .returned (.tuple #[.int .u64 (U a), .int .i64 c]) ∧ Below w.heap.size w w') ∧
    (∀ w, Calls Try.prog 27 #[.int .u64 (U h), .int .i64 n] w fun e w' => e = .returned (.tuple #[.int .u64 (U a), .int .i64 c]) ∧ w = w') := by
  by_cases h0 : n < 0
  · have e0 : (0 : Int) = U 0#64 := by decide
    refine ⟨0#64, 2, fun w => ?_, fun w => ?_⟩
    · rw [← e0]; exact (zeros_neg _ n h0 w).mono fun _ _ ⟨he, hw⟩ => ⟨he, hw ▸ Below.refl _ _⟩
    · rw [← e0]; exact rzeros_neg _ n h0 w
  · obtain ⟨m, rfl⟩ := Int.eq_ofNat_of_zero_le (show 0 ≤ n by omega)
    exact ⟨h * pw m, 0, fun w => zeros_any h m (by omega) w, fun w => rzeros_any h m (by omega) w⟩

theorem mod_fact (x n : Int) (h0 : 0 ≤ x) (h1 : x ≤ 18446744073709551615) (hn : 1 ≤ n) : (x % n != IntKind.u64.wrap (x - IntKind.u64.wrap (x / n * n))) = false := by
  have e := Int.emod_add_mul_ediv x n
  have m0 : 0 ≤ x % n := Int.emod_nonneg _ (by omega)
  have d0 : 0 ≤ x / n := Int.ediv_nonneg h0 (by omega)
  have p0 : 0 ≤ x / n * n := Int.mul_nonneg d0 (by omega)
  rw [Int.mul_comm] at e
  rw [IntWalk.u64_in (x / n * n) (by omega), IntWalk.u64_in _ (by omega), bne_eq_false_iff_eq]
  omega

set_option maxRecDepth 100000 in
set_option maxHeartbeats 2000000 in
theorem numbers_any (h to : BitVec 64) (n : Int) (hn1 : n ≤ 9223372036854775807) (b : UInt8) (w : World) :
    Calls Try.prog 13 #[.int .u64 (U h), .int .u64 (U to), .int .i64 n, .int .u8 (b.toNat : Int)] w fun e w' => e = .returned (.bool true) ∧ Below w.heap.size w w' := by
  obtain ⟨a, c, hz, hr⟩ := zeros_both h n hn1
  have HZ := Lib.hid hz
  have HR := Lib.hid hr
  clear hz hr
  have HB : Hid (∀ w, Calls Try.prog 20 #[.int .u64 (U h), .int .i64 n] w fun e w' => e = .returned (.tuple #[.int .i64 (if 1 ≤ n then U h % n else 0), .int .i64 (if 1 ≤ n then 0 else 2)]) ∧ w = w') := by
    intro w
    by_cases h1 : 1 ≤ n
    · rw [if_pos h1, if_pos h1]; exact modulo_any (U h) n (U_lo h) (by have := U_hi h; omega) h1 hn1 w
    · rw [if_neg h1, if_neg h1]; exact modulo_neg (U h) n (by omega) w
  obtain ⟨b1, c1, H1, H2⟩ := last_both h to
  obtain ⟨b3, c3, H3, H4⟩ := last_both h (hstep h b)
  obtain ⟨b5, c5, H5, H6⟩ := last_both h h
  replace H1 := Lib.hid H1
  replace H2 := Lib.hid H2
  replace H3 := Lib.hid H3
  replace H4 := Lib.hid H4
  replace H5 := Lib.hid H5
  replace H6 := Lib.hid H6
  by_cases h1 : 1 ≤ n
  · have u0 := U_lo h
    have u1 : U h ≤ 18446744073709551615 := by have := U_hi h; omega
    have m0 : 0 ≤ U h % n := Int.emod_nonneg _ (by omega)
    have m1 : U h % n < n := Int.emod_lt_of_pos _ (by omega)
    have hf := mod_fact (U h) n u0 u1 h1
    have HM := Lib.hid (show ∀ w, Calls Try.prog 20 #[.int .u64 (U h), .int .i64 n] w fun e w' => e = .returned (.tuple #[.int .i64 (U h % n), .int .i64 0]) ∧ w = w' by have := HB.out; rw [if_pos h1, if_pos h1] at this; exact this)
    clear HB
    go_enter Try.func13, Try.ntmps13
    go_wp2_with fail
    refine (HZ.out _).mono ?_; rintro e w1 ⟨rfl, hb⟩
    go_wp2_with fail
    refine (HR.out _).mono ?_; rintro e w2 ⟨rfl, rfl⟩
    go_wp2_with fail
    refine (HM.out _).mono ?_; rintro e w2 ⟨rfl, rfl⟩
    go_wp2_with fail
    refine (text_any _ _).mono ?_; rintro e w2 ⟨rfl, h2⟩; replace hb := on_trans hb h2; clear h2
    go_wp2_with fail
    refine (rtext_any _ _).mono ?_; rintro e w2 ⟨rfl, h2⟩; replace hb := on_trans hb h2; clear h2
    go_wp2_with fail
    refine (step_any _ _ _).mono ?_; rintro e w2 ⟨rfl, rfl⟩
    go_wp2_with fail
    refine wp_loop_rounds 4 ?_
    rw [rounds_succ]; go_wp2_with fail
    refine (H1.out _).mono ?_; rintro e w3 ⟨rfl, rfl⟩
    go_wp2_with fail
    refine (H2.out _).mono ?_; rintro e w3 ⟨rfl, rfl⟩
    go_wp2_with fail
    rw [rounds_succ]; go_wp2_with fail
    refine (H3.out _).mono ?_; rintro e w3 ⟨rfl, rfl⟩
    go_wp2_with fail
    refine (H4.out _).mono ?_; rintro e w3 ⟨rfl, rfl⟩
    go_wp2_with fail
    rw [rounds_succ]; go_wp2_with fail
    refine (H5.out _).mono ?_; rintro e w3 ⟨rfl, rfl⟩
    go_wp2_with fail
    refine (H6.out _).mono ?_; rintro e w3 ⟨rfl, rfl⟩
    go_wp2_with fail
    rw [rounds_succ]; go_wp2_with fail
    go_ret
    exact ⟨rfl, hb.alloc hb.size _⟩
  · have HM := Lib.hid (show ∀ w, Calls Try.prog 20 #[.int .u64 (U h), .int .i64 n] w fun e w' => e = .returned (.tuple #[.int .i64 0, .int .i64 2]) ∧ w = w' by have := HB.out; rw [if_neg h1, if_neg h1] at this; exact this)
    clear HB
    have h1' : n < 1 := by omega
    clear h1
    go_enter Try.func13, Try.ntmps13
    go_wp2_with fail
    refine (HZ.out _).mono ?_; rintro e w1 ⟨rfl, hb⟩
    go_wp2_with fail
    refine (HR.out _).mono ?_; rintro e w2 ⟨rfl, rfl⟩
    go_wp2_with fail
    refine (HM.out _).mono ?_; rintro e w2 ⟨rfl, rfl⟩
    go_wp2_with fail
    refine (text_any _ _).mono ?_; rintro e w2 ⟨rfl, h2⟩; replace hb := on_trans hb h2; clear h2
    go_wp2_with fail
    refine (rtext_any _ _).mono ?_; rintro e w2 ⟨rfl, h2⟩; replace hb := on_trans hb h2; clear h2
    go_wp2_with fail
    refine (step_any _ _ _).mono ?_; rintro e w2 ⟨rfl, rfl⟩
    go_wp2_with fail
    refine wp_loop_rounds 4 ?_
    rw [rounds_succ]; go_wp2_with fail
    refine (H1.out _).mono ?_; rintro e w3 ⟨rfl, rfl⟩
    go_wp2_with fail
    refine (H2.out _).mono ?_; rintro e w3 ⟨rfl, rfl⟩
    go_wp2_with fail
    rw [rounds_succ]; go_wp2_with fail
    refine (H3.out _).mono ?_; rintro e w3 ⟨rfl, rfl⟩
    go_wp2_with fail
    refine (H4.out _).mono ?_; rintro e w3 ⟨rfl, rfl⟩
    go_wp2_with fail
    rw [rounds_succ]; go_wp2_with fail
    refine (H5.out _).mono ?_; rintro e w3 ⟨rfl, rfl⟩
    go_wp2_with fail
    refine (H6.out _).mono ?_; rintro e w3 ⟨rfl, rfl⟩
    go_wp2_with fail
    rw [rounds_succ]; go_wp2_with fail
    go_ret
    exact ⟨rfl, hb.alloc hb.size _⟩
end Go.Proofs.Ytennohgmenjaaaa
