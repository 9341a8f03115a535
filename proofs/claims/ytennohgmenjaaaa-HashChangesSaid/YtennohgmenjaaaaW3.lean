/- Contracts of hash.Last and of the reference Last and half. -/
import Derived.Test.YtennohgmenjaaaaW2
namespace Go.Proofs.Ytennohgmenjaaaa
open Go.RowKit Go.Shelf

theorem ret2_u8 {a b : Int} {v : Value} (h : a = b) : Ending.returned (.tuple #[.int .u8 a, v]) = .returned (.tuple #[.int .u8 b, v]) := by rw [h]

set_option maxHeartbeats 400000 in
theorem last_some (h to : BitVec 64) (c : UInt8) (hc : Hid (hstep h c = to)) (w : World) :
    Calls Try.prog 19 #[.int .u64 (U h), .int .u64 (U to)] w fun e w' => e = .returned (.tuple #[.int .u8 (c.toNat : Int), .int .i64 0]) ∧ w = w' := by
  have e := (hstep_to h to c).1 hc.out
  have hU : Hid (U (to * inv ^^^ h) = (c.toNat : Int)) := by show _ = _; rw [← e, U, zx_toNat]
  have hle : U (to * inv ^^^ h) ≤ 255 := by rw [hU.out]; have := c.toNat_lt; omega
  have hl : Hid (c.toNat < 256) := c.toNat_lt
  clear e
  go_enter Try.func19, Try.ntmps19
  go_wp2_with (go_at_call 32; refine (inverse_any _).mono ?_; rintro e w' ⟨rfl, rfl⟩)
  go_ret2
  exact ⟨ret2_u8 (by rw [hU.out]; have := hl.out; omega), rfl⟩

set_option maxHeartbeats 400000 in
theorem last_none (h to : BitVec 64) (hc : Hid (∀ c, hstep h c ≠ to)) (w : World) :
    Calls Try.prog 19 #[.int .u64 (U h), .int .u64 (U to)] w fun e w' => e = .returned (.tuple #[.int .u8 0, .int .i64 6]) ∧ w = w' := by
  have hgt : 255 < U (to * inv ^^^ h) := by
    rcases Int.lt_or_le 255 (U (to * inv ^^^ h)) with h1 | h1
    · exact h1
    · exfalso
      refine hc.out (UInt8.ofNat (to * inv ^^^ h).toNat) ((hstep_to h to _).2 ?_)
      unfold U at h1
      apply BitVec.eq_of_toNat_eq
      rw [zx_toNat, UInt8.toNat_ofNat']
      omega
  go_enter Try.func19, Try.ntmps19
  go_wp2_with (go_at_call 32; refine (inverse_any _).mono ?_; rintro e w' ⟨rfl, rfl⟩)
  go_ret2
  exact ⟨rfl, rfl⟩

theorem step_nat (h : BitVec 64) (k : Nat) (hk : k < 256) (w : World) :
    Calls Try.prog 29 #[.int .u64 (U h), .int .u8 (k : Int)] w fun e w' => e = .returned (.int .u64 (U (hstep h (UInt8.ofNat k)))) ∧ w = w' := by
  have e : ((UInt8.ofNat k).toNat : Int) = (k : Int) := by rw [UInt8.toNat_ofNat']; omega
  have := step_any h (UInt8.ofNat k) w
  rwa [e] at this

set_option maxRecDepth 100000 in
set_option maxHeartbeats 400000 in
theorem rlast_some (h to : BitVec 64) (m : Nat) (hm : m < 256) (hc : Hid (hstep h (UInt8.ofNat m) = to)) (w : World) :
    Calls Try.prog 30 #[.int .u64 (U h), .int .u64 (U to)] w fun e w' => e = .returned (.tuple #[.int .u8 (m : Int), .int .i64 0]) ∧ w = w' := by
  go_enter Try.func30, Try.ntmps30
  go_wp2
  go_loop [6] (fun b => ∃ k : Nat, k ≤ m ∧ b = .int .i64 k) (fun b => 256 - (intOf b).toNat)
  case atStart => exact ⟨0, by omega, rfl⟩
  case round =>
    obtain ⟨k, hk, rfl⟩ := hrel
    by_cases hlt : k < m
    · have ht : (U (hstep h (UInt8.ofNat k)) == U to) = false := by
        rw [U_beq, beq_eq_false_iff_ne, ← hc.out]
        intro e
        have := congrArg UInt8.toNat (hstep_byte e)
        rw [UInt8.toNat_ofNat', UInt8.toNat_ofNat'] at this
        omega
      go_wp2_with (go_at_call 29; refine (step_nat _ _ (by omega) _).mono ?_; rintro e w' ⟨rfl, rfl⟩)
      go_round
      case rel => exact ⟨k + 1, by omega, by go_num⟩
      case measure => simp [intOf]; omega
    · obtain rfl : k = m := by omega
      have ht : (U (hstep h (UInt8.ofNat k)) == U to) = true := by rw [hc.out, beq_self_eq_true]
      go_wp2_with (go_at_call 29; refine (step_nat _ _ (by omega) _).mono ?_; rintro e w' ⟨rfl, rfl⟩)
      go_ret2
      exact ⟨rfl, rfl⟩

set_option maxRecDepth 100000 in
set_option maxHeartbeats 400000 in
theorem rlast_none (h to : BitVec 64) (hc : Hid (∀ c, hstep h c ≠ to)) (w : World) :
    Calls Try.prog 30 #[.int .u64 (U h), .int .u64 (U to)] w fun e w' => e = .returned (.tuple #[.int .u8 0, .int .i64 6]) ∧ w = w' := by
  go_enter Try.func30, Try.ntmps30
  go_wp2
  go_loop [6] (fun b => ∃ k : Nat, k ≤ 256 ∧ b = .int .i64 k) (fun b => 256 - (intOf b).toNat)
  case atStart => exact ⟨0, by omega, rfl⟩
  case round =>
    obtain ⟨k, hk, rfl⟩ := hrel
    by_cases hlt : k < 256
    · have ht : (U (hstep h (UInt8.ofNat k)) == U to) = false := by
        rw [U_beq, beq_eq_false_iff_ne]
        exact hc.out _
      go_wp2_with (go_at_call 29; refine (step_nat _ _ (by omega) _).mono ?_; rintro e w' ⟨rfl, rfl⟩)
      go_round
      case rel => exact ⟨k + 1, by omega, by go_num⟩
      case measure => simp [intOf]; omega
    · obtain rfl : k = 256 := by omega
      go_wp2_with fail
      go_ret2
      exact ⟨rfl, rfl⟩

theorem bit_split (a k : Nat) : a % 2 ^ (k + 1) = a % 2 ^ k + 2 ^ k * (a / 2 ^ k % 2) := by
  rw [Nat.pow_succ, Nat.mod_mul]
theorem bit_int (x : BitVec 64) (k : Nat) : (U x / 2 ^ k).tmod 2 = ((x.toNat / 2 ^ k % 2 : Nat) : Int) := by
  rw [Int.tmod_eq_emod_of_nonneg (by rw [U]; exact Int.ediv_nonneg (by omega) (by exact_mod_cast Nat.zero_le (2 ^ k)))]
  unfold U; norm_cast
theorem half_keep (y h : BitVec 64) (k : Nat) (he : (y * prime).toNat % 2 ^ k = h.toNat % 2 ^ k) (ht : ((U (y * 1099511628211#64) / 2 ^ k).tmod 2 != (U h / 2 ^ k).tmod 2) = false) :
    (y * prime).toNat % 2 ^ (k + 1) = h.toNat % 2 ^ (k + 1) := by
  rw [show (y * 1099511628211#64) = y * prime from rfl, bit_int, bit_int, bne_eq_false_iff_eq] at ht
  have ht' : (y * prime).toNat / 2 ^ k % 2 = h.toNat / 2 ^ k % 2 := Int.ofNat.inj ht
  rw [bit_split, bit_split, he, ht']
set_option maxRecDepth 100000 in
theorem half_turn (y h : BitVec 64) (k : Nat) (hk : k < 64) (he : (y * prime).toNat % 2 ^ k = h.toNat % 2 ^ k) (ht : ((U (y * 1099511628211#64) / 2 ^ k).tmod 2 != (U h / 2 ^ k).tmod 2) = true) :
    ((y + BitVec.ofNat 64 (2 ^ k)) * prime).toNat % 2 ^ (k + 1) = h.toNat % 2 ^ (k + 1) := by
  rw [bit_int, bit_int] at ht
  have ht' : (y * prime).toNat / 2 ^ k % 2 ≠ h.toNat / 2 ^ k % 2 := by
    intro e
    rw [show (y * 1099511628211#64) = y * prime from rfl, e] at ht
    simp at ht
  have hd : (2 : Nat) ^ (k + 1) ∣ 2 ^ 64 := Nat.pow_dvd_pow 2 (by omega)
  have e1 : ((y + BitVec.ofNat 64 (2 ^ k)) * prime).toNat % 2 ^ (k + 1) = ((y * prime).toNat + 2 ^ k) % 2 ^ (k + 1) := by
    have e4 : BitVec.ofNat 64 (2 ^ k) * prime = BitVec.ofNat 64 (2 ^ k * 1099511628211) := by
      apply BitVec.eq_of_toNat_eq
      rw [BitVec.toNat_mul, BitVec.toNat_ofNat, BitVec.toNat_ofNat]
      rw [show prime.toNat = 1099511628211 from by decide, Nat.mod_mul_mod]
    have e2 : (y + BitVec.ofNat 64 (2 ^ k)) * prime = y * prime + BitVec.ofNat 64 (2 ^ k * 1099511628211) := by rw [BitVec.add_mul, e4]
    rw [e2, BitVec.toNat_add, BitVec.toNat_ofNat, Nat.add_mod_mod, Nat.mod_mod_of_dvd _ hd]
    rw [show 2 ^ k * 1099511628211 = 2 ^ k + 2 ^ (k + 1) * 549755814105 by rw [Nat.pow_succ]; omega, ← Nat.add_assoc, Nat.add_mul_mod_self_left]
  rw [e1, bit_split, bit_split h.toNat, ← he, Nat.add_mod_right]
  rw [Nat.add_div_right _ (Nat.two_pow_pos k)]
  congr 2
  omega

theorem half_slot (y : BitVec 64) (k : Nat) : Value.int .u64 (IntKind.u64.wrap (U y + IntKind.u64.wrap (2 ^ k))) = Value.int .u64 (U (y + BitVec.ofNat 64 (2 ^ k))) := by
  have e : (2 : Int) ^ k = ((2 ^ k : Nat) : Int) := by norm_cast
  rw [e, U_wrap ((2 ^ k : Nat) : Int), BitVec.ofInt_natCast, U_add]

set_option maxHeartbeats 1000000 in
set_option maxRecDepth 100000 in
theorem half_any (h : BitVec 64) (w : World) :
    Calls Try.prog 41 #[.int .u64 (U h)] w fun e w' => e = .returned (.int .u64 (U (h * inv))) ∧ ∃ n, w' = w.drewN n := by
  go_enter Try.func41, Try.ntmps41
  go_wp2
  go_loopw [3, 4] (fun x i wr => ∃ (k : Nat) (y : BitVec 64), k ≤ 64 ∧ i = .int .i64 k ∧ x = .int .u64 (U y) ∧ Hid ((y * prime).toNat % 2 ^ k = h.toNat % 2 ^ k) ∧ ∃ n, wr = w.drewN n) (fun _ i _ => 64 - (intOf i).toNat)
  case atStart => exact ⟨0, 0#64, by omega, rfl, rfl, by show _ = _; omega, 0, rfl⟩
  case round =>
    obtain ⟨k, y, hk, rfl, rfl, hy, n, rfl⟩ := hrel
    by_cases hlt : k < 64
    · by_cases ht : ((U (y * 1099511628211#64) / 2 ^ k).tmod 2 != (U h / 2 ^ k).tmod 2) = true
      · have H := Lib.hid (half_turn y h k hlt hy.out ht)
        go_wp2_with fail
        go_quiet (fail)
        go_wp2
        go_roundw
        case rel => exact ⟨k + 1, y + BitVec.ofNat 64 (2 ^ k), by omega, by go_num, half_slot _ _, H.out, _, rfl⟩
        case measure => simp [intOf]; omega
      · have ht' : ((U (y * 1099511628211#64) / 2 ^ k).tmod 2 != (U h / 2 ^ k).tmod 2) = false := by simpa using ht
        clear ht
        have H := Lib.hid (half_keep y h k hy.out ht')
        go_wp2_with fail
        go_quiet (fail)
        go_wp2
        go_roundw
        case rel => exact ⟨k + 1, y, by omega, by go_num, rfl, H.out, _, rfl⟩
        case measure => simp [intOf]; omega
    · obtain rfl : k = 64 := by omega
      have hy' : Hid (y = h * inv) := by
        show _ = _
        refine half_uniq y h (BitVec.eq_of_toNat_eq ?_)
        have := hy.out
        rwa [Nat.mod_eq_of_lt (y * prime).isLt, Nat.mod_eq_of_lt h.isLt] at this
      go_wp2
      go_ret
      exact ⟨ret_u64 (by rw [hy'.out]), n, rfl⟩
end Go.Proofs.Ytennohgmenjaaaa
