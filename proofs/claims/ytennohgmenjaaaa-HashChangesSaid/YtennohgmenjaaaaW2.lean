/- Contracts of hash.Sum, hash.Zeros, hash.Modulo and of the reference step, Add and Zeros. -/
import Derived.Test.YtennohgmenjaaaaIt
import Derived.WalkSpells
import Derived.WalkLawsBesides
import Derived.Deep.QuietTactic
import Derived.BigQuiet
import Derived.Lib.Hide
import Derived.Handy
import Derived.Laws.EntriesVeiled
namespace Go.Proofs.Ytennohgmenjaaaa
open Go.RowKit Go.Shelf

theorem add_any (h : BitVec 64) (s : ByteArray) (hs : s.size ≤ 9223372036854775807) (w : World) :
    Calls Try.prog 15 #[.int .u64 (U h), .string s] w fun e W' => e = .returned (.int .u64 (U (hadd h s.data.toList))) ∧ Below w.heap.size w W' :=
  callsIn_wide.1 (add_in Fence.wide 9 trivial trivial trivial rfl (by omega) h s hs w)
theorem back_any (h : BitVec 64) (s : ByteArray) (hs : s.size ≤ 9223372036854775807) (w : World) :
    Calls Try.prog 16 #[.int .u64 (U h), .string s] w fun e W' => e = .returned (.int .u64 (U (hback h s.data.toList.reverse))) ∧ Below w.heap.size w W' :=
  callsIn_wide.1 (back_in h s hs w)
theorem offset_lit : (14695981039346656037 : Int) = U offset := by decide

set_option maxHeartbeats 400000 in
theorem sum_any (s : ByteArray) (hs : s.size ≤ 9223372036854775807) (w : World) :
    Calls Try.prog 17 #[.string s] w fun e W' => e = .returned (.int .u64 (U (hadd offset s.data.toList))) ∧ Below w.heap.size w W' := by
  go_enter Try.func17, Try.ntmps17
  go_wp2_with fail
  rw [offset_lit]
  refine (add_any _ _ hs _).mono ?_
  rintro e w1 ⟨rfl, hb⟩
  go_wp2_with fail
  go_ret
  exact ⟨rfl, hb⟩

theorem step_eq (h : BitVec 64) (c : UInt8) :
    IntKind.u64.wrap (IntKind.u64.wrap (U (h - h % 256#64) + IntKind.u64.wrap (bits .xor .u8 (U (h % 256#64) % 256) (c.toNat : Int))) * 1099511628211) = U (hstep h c) := by
  have hc := c.toNat_lt
  have e2 : U (h % 256#64) % 256 = ((h.toNat % 256 : Nat) : Int) := by
    unfold U; rw [BitVec.toNat_umod]
    show ((h.toNat % 256 : Nat) : Int) % 256 = _
    omega
  rw [e2, u8_xor_nat _ _ (by omega) (by omega)]
  have e3 : IntKind.u64.wrap ((h.toNat % 256 ^^^ c.toNat : Nat) : Int) = U (BitVec.ofNat 64 (h.toNat % 256 ^^^ c.toNat)) := by
    rw [U_wrap, BitVec.ofInt_natCast]
  rw [e3, U_add, ref_step, prime_lit, U_mul]
  rfl
set_option maxHeartbeats 400000 in
theorem step_any (h : BitVec 64) (c : UInt8) (w : World) :
    Calls Try.prog 29 #[.int .u64 (U h), .int .u8 (c.toNat : Int)] w fun e w' => e = .returned (.int .u64 (U (hstep h c))) ∧ w = w' := by
  go_enter Try.func29, Try.ntmps29
  go_wp2
  go_ret
  exact ⟨ret_u64 (step_eq h c), rfl⟩

set_option maxHeartbeats 400000 in
theorem radd_any (h : BitVec 64) (s : ByteArray) (hs : s.size ≤ 9223372036854775807) (w : World) :
    Calls Try.prog 35 #[.int .u64 (U h), .string s] w fun e w' => e = .returned (.int .u64 (U (hadd h s.data.toList))) ∧ w = w' := by
  go_enter Try.func35, Try.ntmps35
  go_wp2
  go_loop [0, 5] (fun x i => ∃ k : Nat, k ≤ s.size ∧ i = .int .i64 k ∧ x = .int .u64 (U (hadd h (come s false k)))) (fun _ i => s.size - (intOf i).toNat)
  case atStart => exact ⟨0, Nat.zero_le _, rfl, by simp [come, hadd_nil]⟩
  case round =>
    obtain ⟨k, hk, rfl, rfl⟩ := hrel
    by_cases hlt : k < s.size
    · have hcs := come_succ_fwd s k hlt
      have H := Lib.hid hcs
      clear hcs
      go_wp2_with (go_at_call 29; refine (step_any _ _ _).mono ?_; rintro e w' ⟨rfl, rfl⟩)
      go_round
      case rel => exact ⟨k + 1, by omega, by go_num, by rw [H.out, hadd_snoc]⟩
      case measure => simp [intOf]; omega
    · obtain rfl : k = s.size := by omega
      go_wp2_with fail
      go_ret
      exact ⟨by rw [come_all]; rfl, rfl⟩

theorem ret2_u64 {a b : Int} {v : Value} (h : a = b) : Ending.returned (.tuple #[.int .u64 a, v]) = .returned (.tuple #[.int .u64 b, v]) := by rw [h]
theorem one_lit : (1 : Int) = U (pw 0) := by decide

set_option maxHeartbeats 400000 in
theorem zeros1_any (n : Nat) : ∀ (m : Nat) (Bp : Nat) (w : World), m ≤ n → m ≤ 9223372036854775807 → w.cell? ⟨Bp, 0, none⟩ = some (.func (.func 33) #[] #[.pointer (some ⟨Bp, 0, none⟩)]) →
    Calls Try.prog 33 #[.int .i64 m, .pointer (some ⟨Bp, 0, none⟩)] w fun e w' => e = .returned (.int .u64 (U (pw m))) ∧ w = w' := by
  induction n with
  | zero =>
    intro m Bp w hm hm' hc
    obtain rfl : m = 0 := by omega
    go_enter Try.func33, Try.ntmps33
    go_wp2_with fail
    go_ret
    exact ⟨ret_u64 one_lit, rfl⟩
  | succ n ih =>
    intro m Bp w hm hm' hc
    by_cases h0 : m = 0
    · subst h0
      go_enter Try.func33, Try.ntmps33
      go_wp2_with fail
      go_ret
      exact ⟨ret_u64 one_lit, rfl⟩
    · have H := Lib.hid (ih (m / 2) Bp w (by omega) (by omega) hc)
      clear ih
      have h1 : ((m : Int) == 0) = false := by simpa using h0
      have h2 : ((m : Int) / 2) = ((m / 2 : Nat) : Int) := by omega
      have H2 := Lib.hid h2
      have H0 := Lib.hid (pw_even m)
      have H1 := Lib.hid (pw_odd m)
      clear h0 h2
      by_cases h3 : m % 2 = 1
      · have h4 : ((m : Int) % 2 == 1) = true := by rw [beq_iff_eq]; omega
        have H3 := Lib.hid h3
        clear h3
        go_enter Try.func33, Try.ntmps33
        go_wp2_with fail
        rw [H2.out]
        refine H.out.mono ?_
        rintro e w' ⟨rfl, rfl⟩
        go_wp2_with fail
        go_ret
        exact ⟨ret_u64 (by rw [show (BitVec.ofNat 64 1099511628211) = prime from rfl, H1.out H3.out]), rfl⟩
      · have h4 : ((m : Int) % 2 == 1) = false := by rw [beq_eq_false_iff_ne]; omega
        have H3 := Lib.hid h3
        clear h3
        go_enter Try.func33, Try.ntmps33
        go_wp2_with fail
        rw [H2.out]
        refine H.out.mono ?_
        rintro e w' ⟨rfl, rfl⟩
        go_wp2_with fail
        go_ret
        exact ⟨ret_u64 (by rw [H0.out (by have := H3.out; omega)]), rfl⟩

set_option maxHeartbeats 400000 in
theorem zeros_any (h : BitVec 64) (m : Nat) (hm : m ≤ 9223372036854775807) (w : World) :
    Calls Try.prog 18 #[.int .u64 (U h), .int .i64 m] w fun e w' => e = .returned (.tuple #[.int .u64 (U (h * pw m)), .int .i64 0]) ∧ Below w.heap.size w w' := by
  go_enter Try.func18, Try.ntmps18
  go_wp2_with (go_at_call 33; refine (zeros1_any m m _ _ (Nat.le_refl _) hm (by simp [go_sem])).mono ?_; rintro e w' ⟨rfl, rfl⟩)
  go_ret2
  refine ⟨rfl, ?_⟩
  go_grown
set_option maxHeartbeats 400000 in
theorem zeros_neg (h m : Int) (hm : m < 0) (w : World) :
    Calls Try.prog 18 #[.int .u64 h, .int .i64 m] w fun e w' => e = .returned (.tuple #[.int .u64 0, .int .i64 2]) ∧ w = w' := by
  go_enter Try.func18, Try.ntmps18
  go_wp2_with fail
  go_ret2
  exact ⟨rfl, rfl⟩

set_option maxHeartbeats 400000 in
theorem rzeros_neg (h m : Int) (hm : m < 0) (w : World) :
    Calls Try.prog 27 #[.int .u64 h, .int .i64 m] w fun e w' => e = .returned (.tuple #[.int .u64 0, .int .i64 2]) ∧ w = w' := by
  go_enter Try.func27, Try.ntmps27
  go_wp2_with fail
  go_ret2
  exact ⟨rfl, rfl⟩

/-- The reference's powers: h times by^n, the number halved. -/
theorem sq_pow (p : BitVec 64) : ∀ k : Nat, (p * p) ^ k = p ^ (k + k)
  | 0 => rfl
  | k + 1 => by
    rw [BitVec.pow_succ, sq_pow p k, show k + 1 + (k + 1) = k + k + 1 + 1 by omega, BitVec.pow_succ, BitVec.pow_succ, BitVec.mul_assoc]
theorem rz_even (h q : BitVec 64) (n : Nat) (hn : n % 2 = 0) : h * (q * q) ^ (n / 2) = h * q ^ n := by
  rw [sq_pow]; congr 2; omega
theorem rz_odd (h q : BitVec 64) (n : Nat) (hn : n % 2 = 1) : h * q * (q * q) ^ (n / 2) = h * q ^ n := by
  rw [sq_pow, BitVec.mul_assoc, BitVec.mul_comm q, ← BitVec.pow_succ]; congr 2; omega
set_option maxHeartbeats 400000 in
theorem rzeros_any (h : BitVec 64) (m : Nat) (hm : m ≤ 9223372036854775807) (w : World) :
    Calls Try.prog 27 #[.int .u64 (U h), .int .i64 m] w fun e w' => e = .returned (.tuple #[.int .u64 (U (h * pw m)), .int .i64 0]) ∧ w = w' := by
  go_enter Try.func27, Try.ntmps27
  go_wp2
  go_loop [0, 1, 6] (fun x n b => ∃ (k : Nat) (g p : BitVec 64), k ≤ m ∧ n = .int .i64 k ∧ x = .int .u64 (U g) ∧ b = .int .u64 (U p) ∧ Hid (g * p ^ k = h * pw m)) (fun _ n _ => (intOf n).toNat)
  case atStart => exact ⟨m, h, prime, Nat.le_refl _, rfl, rfl, congrArg (Value.int .u64) prime_lit, rfl⟩
  case round =>
    obtain ⟨k, g, p, hk, rfl, rfl, rfl, hp⟩ := hrel
    by_cases h0 : k = 0
    · subst h0
      have hp' : Hid (g = h * pw m) := by have := hp.out; rwa [BitVec.pow_zero, BitVec.mul_one] at this
      clear hp
      go_wp2
      go_ret2
      exact ⟨ret2_u64 (by rw [hp'.out]), rfl⟩
    · have h2 : Hid (((k : Int) / 2) = ((k / 2 : Nat) : Int)) := by show _ = _; omega
      by_cases h3 : k % 2 = 1
      · have h4 : ((k : Int) % 2 == 1) = true := by rw [beq_iff_eq]; omega
        have H3 := Lib.hid h3
        clear h3
        go_wp2
        go_round
        case rel => exact ⟨k / 2, g * p, p * p, by omega, by rw [h2.out], rfl, rfl, by show _ = _; rw [rz_odd _ _ _ H3.out]; exact hp.out⟩
        case measure => simp [intOf]; omega
      · have h4 : ((k : Int) % 2 == 1) = false := by rw [beq_eq_false_iff_ne]; omega
        have H3 := Lib.hid (show k % 2 = 0 by omega)
        clear h3
        go_wp2
        go_round
        case rel => exact ⟨k / 2, g, p * p, by omega, by rw [h2.out], rfl, rfl, by show _ = _; rw [rz_even _ _ _ H3.out]; exact hp.out⟩
        case measure => simp [intOf]; omega

set_option maxHeartbeats 400000 in
theorem modulo_neg (h n : Int) (hn : n < 1) (w : World) :
    Calls Try.prog 20 #[.int .u64 h, .int .i64 n] w fun e w' => e = .returned (.tuple #[.int .i64 0, .int .i64 2]) ∧ w = w' := by
  go_enter Try.func20, Try.ntmps20
  go_wp2_with fail
  go_ret2
  exact ⟨rfl, rfl⟩
set_option maxHeartbeats 400000 in
theorem modulo_any (h n : Int) (h0 : 0 ≤ h) (h1 : h ≤ 18446744073709551615) (hn : 1 ≤ n) (hn' : n ≤ 9223372036854775807) (w : World) :
    Calls Try.prog 20 #[.int .u64 h, .int .i64 n] w fun e w' => e = .returned (.tuple #[.int .i64 (h % n), .int .i64 0]) ∧ w = w' := by
  have b1 : 0 ≤ h % n := Int.emod_nonneg _ (by omega)
  have b2 : h % n < n := Int.emod_lt_of_pos _ (by omega)
  go_enter Try.func20, Try.ntmps20
  go_wp2_with fail
  go_ret2
  exact ⟨rfl, rfl⟩
end Go.Proofs.Ytennohgmenjaaaa
