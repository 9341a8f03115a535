/- The walk of the law HashTexts. -/
import Derived.Test.YtennohgmenjaaaaW11
namespace Go.Proofs.Ytennohgmenjaaaa
open Go.RowKit Go.Shelf

theorem read_text (a : BitVec 64) (w : World) :
    Calls Try.prog 26 #[.string ⟨(text a).toArray⟩] w fun e w' => e = .returned (.tuple #[.int .u64 (U a), .int .i64 0]) ∧ Below w.heap.size w w' :=
  (read_yes ⟨(text a).toArray⟩ (by show (text a).toArray.size = 16; simp [text_length]) (by show isHex _; simpa using text_hex a) w).mono fun _ _ ⟨h, hb⟩ => ⟨h.trans (ret2_u64 (by simp [rdv_text])), hb⟩
theorem emod_le_self {x n : Int} (h : 0 ≤ x) (hn : 1 ≤ n) : x % n ≤ x := by
  have h1 := Int.emod_add_mul_ediv x n
  have h2 : 0 ≤ n * (x / n) := Int.mul_nonneg (by omega) (Int.ediv_nonneg h (by omega))
  omega
theorem mod_sum (x n : Int) (_h0 : 0 ≤ x) (_hn : 1 ≤ n) : ((x - x % n) % n == 0) = true := by
  rw [beq_iff_eq]
  have := Int.emod_add_mul_ediv x n
  rw [show x - x % n = n * (x / n) by omega, Int.mul_emod_right]

theorem min_all (s : ByteArray) (h : s.size ≤ 100) : s.extract 0 (min (s.size : Int) 100).toNat = s := by
  rw [Int.min_eq_left (by omega), Int.toNat_natCast, ByteArray.extract_zero_size]
theorem min_cut (s : ByteArray) (h : 100 < s.size) : s.extract 0 (min (s.size : Int) 100).toNat = s.extract 0 100 := by
  rw [Int.min_eq_right (by omega)]; rfl
theorem zero_lit : (0 : Int) = U 0#64 := by decide

set_option maxRecDepth 100000 in
set_option maxHeartbeats 400000 in
theorem hashTexts_walk (a0 a1 : Int) (a2 : ByteArray) (a3 : Int) (w0 : (Lit.int .u64 a0).wf = true) (w1 : (Lit.int .u64 a1).wf = true) (w2 : a2.size ≤ 9223372036854775807) (w3 : (Lit.int .i64 a3).wf = true) (w : World) :
    Calls Try.prog 11 #[.int .u64 a0, .int .u64 a1, .string a2, .int .i64 a3] w fun e w' => e = .returned (.bool true) ∧ Below w.heap.size w w' := by
  obtain ⟨a, rfl⟩ := U_ex a0 w0
  obtain ⟨b, rfl⟩ := U_ex a1 w1
  obtain ⟨n0, n1⟩ := I_bd a3 w3
  clear w0 w1 w3
  have hl : (text a).length = 16 := text_length a
  have hab : (text a == text b) = (U a == U b) := by rw [U_beq, Bool.eq_iff_iff, beq_iff_eq, beq_iff_eq, text_inj]
  go_enter Try.func11, Try.ntmps11
  go_wp2_with fail
  refine (text_any a _).mono ?_; rintro e w1 ⟨rfl, hb⟩
  go_wp2_with fail
  refine (text_any b _).mono ?_; rintro e w1 ⟨rfl, h3⟩; replace hb := on_trans hb h3; clear h3
  go_wp2_with fail
  refine (read_text a _).mono ?_; rintro e w1 ⟨rfl, h3⟩; replace hb := on_trans hb h3; clear h3
  go_upto_region 5 with (fail)
  go_cut [13, 14] (fun s13 s14 wx => ((∃ y : BitVec 64, s13 = .int .u64 (U y) ∧ s14 = .int .i64 0 ∧ text y = a2.toList) ∨ (s13 = .int .u64 0 ∧ s14 = .int .i64 20)) ∧ Below w.heap.size w wx)
  case first =>
    clear hl hab
    by_cases hs : a2.size ≤ 100
    · by_cases hx : a2.size = 16 ∧ isHex a2.data.toList
      · have H1 := Lib.hid hx.1
        have H2 := Lib.hid hx.2
        clear hx
        go_wp2_with fail
        rw [min_all a2 hs]
        refine (read_yes a2 H1.out H2.out _).mono ?_; rintro e w1 ⟨rfl, h3⟩; replace hb := on_trans hb h3; clear h3
        go_wp2_with fail
        go_meet
        exact ⟨.inl ⟨_, rfl, rfl, by rw [toList_data]; exact text_rdv _ H1.out H2.out⟩, hb⟩
      · have H2 := Lib.hid hx
        clear hx
        go_wp2_with fail
        rw [min_all a2 hs]
        refine (read_no a2 H2.out _).mono ?_; rintro e w1 ⟨rfl, h3⟩; replace hb := on_trans hb h3; clear h3
        go_wp2_with fail
        go_meet
        exact ⟨.inr ⟨rfl, rfl⟩, hb⟩
    · have hs' : 100 < a2.size := by omega
      clear hs
      have H2 : Hid (¬ ((a2.extract 0 100).size = 16 ∧ isHex (a2.extract 0 100).data.toList)) := by
        intro h
        have := h.1
        rw [ByteArray.size_extract] at this
        omega
      go_wp2_with fail
      rw [min_cut a2 hs']
      refine (read_no _ H2.out _).mono ?_; rintro e w1 ⟨rfl, h3⟩; replace hb := on_trans hb h3; clear h3
      go_wp2_with fail
      go_meet
      exact ⟨.inr ⟨rfl, rfl⟩, hb⟩
  case rest =>
    obtain ⟨hcase, hb⟩ := hcut
    clear w2 hl hab
    have u0 := U_lo a
    have u1 : U a ≤ 18446744073709551615 := by have := U_hi a; omega
    rcases hcase with ⟨y, rfl, rfl, hy⟩ | ⟨rfl, rfl⟩
    · have hy' : (text y == a2.toList) = true := by rw [hy, beq_self_eq_true]
      clear hy
      go_wp2_with fail
      refine (text_any y _).mono ?_; rintro e w1 ⟨rfl, h3⟩; replace hb := on_trans hb h3; clear h3
      go_wp2_with fail
      obtain ⟨n, hn, h1, h2⟩ : ∃ n : Int, max a3 1 = n ∧ 1 ≤ n ∧ n ≤ 9223372036854775807 := ⟨_, rfl, by omega, by omega⟩
      rw [hn]
      clear hn
      have m0 : 0 ≤ U a % n := Int.emod_nonneg _ (by omega)
      have m1 : U a % n < n := Int.emod_lt_of_pos _ (by omega)
      have m2 : U a % n ≤ U a := emod_le_self u0 h1
      have m3 := mod_sum (U a) n u0 h1
      refine (modulo_any (U a) n u0 u1 h1 h2 _).mono ?_; rintro e w2 ⟨rfl, rfl⟩
      go_wp2_with fail
      refine (awake_any _).mono ?_; rintro e w3 ⟨rfl, h3⟩; replace hb := on_trans hb h3; clear h3
      go_wp2_with fail
      go_ret
      exact ⟨rfl, hb⟩
    · go_wp2_with fail
      obtain ⟨n, hn, h1, h2⟩ : ∃ n : Int, max a3 1 = n ∧ 1 ≤ n ∧ n ≤ 9223372036854775807 := ⟨_, rfl, by omega, by omega⟩
      rw [hn]
      clear hn
      have m0 : 0 ≤ U a % n := Int.emod_nonneg _ (by omega)
      have m1 : U a % n < n := Int.emod_lt_of_pos _ (by omega)
      have m2 : U a % n ≤ U a := emod_le_self u0 h1
      have m3 := mod_sum (U a) n u0 h1
      refine (modulo_any (U a) n u0 u1 h1 h2 _).mono ?_; rintro e w2 ⟨rfl, rfl⟩
      go_wp2_with fail
      refine (awake_any _).mono ?_; rintro e w3 ⟨rfl, h3⟩; replace hb := on_trans hb h3; clear h3
      go_wp2_with fail
      go_ret
      exact ⟨rfl, hb⟩
end Go.Proofs.Ytennohgmenjaaaa
