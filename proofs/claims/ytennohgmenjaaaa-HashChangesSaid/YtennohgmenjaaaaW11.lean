/- Contracts of the reference Read and of reads. -/
import Derived.Test.YtennohgmenjaaaaW10
import Derived.Test.YtennohgmenjaaaaL2
import Derived.Test.YtennohgmenjaaaaW8
namespace Go.Proofs.Ytennohgmenjaaaa
open Go.RowKit Go.Shelf

def hv (c : UInt8) : Nat := if hexv c < 16 then hexv c else 0
theorem hv_lt (c : UInt8) : hv c < 16 := by unfold hv; split <;> omega
def numw (l : List UInt8) : Nat := l.foldl (fun n c => n * 16 + hv c) 0
theorem numw_snoc (l : List UInt8) (c : UInt8) : numw (l ++ [c]) = numw l * 16 + hv c := by simp [numw]
theorem numw_lt (l : List UInt8) : numw l < 16 ^ l.length := by
  refine snoc_ind (p := fun l => numw l < 16 ^ l.length) (by simp [numw]) ?_ l
  intro l c ih
  have := hv_lt c
  rw [numw_snoc, List.length_append, List.length_singleton, Nat.pow_succ]; omega
theorem numw_hex (l : List UInt8) : isHex l → numw l = numv l := by
  refine snoc_ind (p := fun l => isHex l → numw l = numv l) (fun _ => rfl) ?_ l
  intro l c ih h
  rw [numw_snoc, numv_snoc, ih (fun x hx => h x (by simp [hx])), hv, if_pos (h c (by simp))]
/-- What the reference has gathered of the first k bytes. -/
def gat (l : List UInt8) (k : Nat) : Nat := numw (l.take k) * 16 ^ (16 - k)
theorem gat_zero (l : List UInt8) : gat l 0 = 0 := by simp [gat, numw]
theorem gat_succ (l : List UInt8) (k : Nat) (hk : k < l.length) (h16 : k < 16) : gat l (k + 1) = gat l k + hv l[k] * 2 ^ (60 - 4 * k) := by
  unfold gat
  rw [take_snoc l k hk, numw_snoc, Nat.add_mul, Nat.mul_assoc]
  have e1 : 16 * 16 ^ (16 - (k + 1)) = 16 ^ (16 - k) := by rw [show 16 - k = (16 - (k + 1)) + 1 by omega, Nat.pow_succ, Nat.mul_comm]
  have e2 : 16 ^ (16 - (k + 1)) = 2 ^ (60 - 4 * k) := by rw [show (16 : Nat) = 2 ^ 4 from rfl, ← Nat.pow_mul]; congr 1; omega
  rw [e1, e2]
theorem gat_lt (l : List UInt8) (k : Nat) (h16 : k ≤ 16) : gat l k < 18446744073709551616 := by
  unfold gat
  have h := numw_lt (l.take k)
  have h2 : (l.take k).length ≤ k := List.length_take_le _ _
  have h3 : 16 ^ (l.take k).length ≤ 16 ^ k := Nat.pow_le_pow_right (by decide) h2
  have h4 : numw (l.take k) * 16 ^ (16 - k) < 16 ^ k * 16 ^ (16 - k) := (Nat.mul_lt_mul_right (Nat.pow_pos (by decide))).2 (by omega)
  rw [← Nat.pow_add, show k + (16 - k) = 16 by omega] at h4
  exact h4

theorem gat_slot (m t e : Nat) (h : m + t * 2 ^ e < 18446744073709551616) :
    Value.int .u64 (IntKind.u64.wrap ((m : Int) + IntKind.u64.wrap ((t : Int) * 2 ^ e))) = Value.int .u64 ((m + t * 2 ^ e : Nat) : Int) := by
  have e1 : (t : Int) * 2 ^ e = ((t * 2 ^ e : Nat) : Int) := by norm_cast
  rw [e1, IntWalk.u64_in ((t * 2 ^ e : Nat) : Int) (by omega), IntWalk.u64_in _ (by omega)]
  norm_cast
theorem gat_fits (l : List UInt8) (k : Nat) (hk : k < l.length) (h16 : k < 16) (hx : hexv l[k] < 16) : gat l k + hexv l[k] * 2 ^ (60 - 4 * k) < 18446744073709551616 := by
  have h := gat_succ l k hk h16
  have h2 := gat_lt l (k + 1) (by omega)
  rw [hv, if_pos hx] at h
  omega
theorem gat_next (l : List UInt8) (k m' : Nat) (hk : k < l.length) (h16 : k < 16) (h : m' = if hexv l[k] < 16 then gat l k + hexv l[k] * 2 ^ (60 - 4 * k) else gat l k) : m' = gat l (k + 1) := by
  rw [gat_succ l k hk h16, h, hv]; split <;> simp
/-- The number of the hash that the reference gathers. -/
def gatU (l : List UInt8) : BitVec 64 := BitVec.ofNat 64 (gat l (min l.length 16))
theorem gatU_eq (l : List UInt8) (k : Nat) (hk : k = min l.length 16) : ((gat l k : Nat) : Int) = U (gatU l) := by
  subst hk
  rw [gatU, U, BitVec.toNat_ofNat, Nat.mod_eq_of_lt (gat_lt _ _ (by omega))]
theorem gatU_yes (l : List UInt8) (hl : l.length = 16) (hx : isHex l) : gatU l = rdv l := by
  apply BitVec.eq_of_toNat_eq
  rw [rdv_numv l hx (by omega), gatU, BitVec.toNat_ofNat, Nat.mod_eq_of_lt (gat_lt _ _ (by omega)), hl]
  show gat l 16 = _
  rw [gat, List.take_of_length_le (by omega), numw_hex l hx]; simp

/-- What the reference Read gives, by the text of what it gathers. -/
def RR (s : ByteArray) (e : Ending) : Prop :=
  (text (gatU s.data.toList) = s.data.toList ∧ e = .returned (.tuple #[.int .u64 (U (gatU s.data.toList)), .int .i64 0])) ∨ (text (gatU s.data.toList) ≠ s.data.toList ∧ e = .returned (.tuple #[.int .u64 0, .int .i64 20]))
theorem toList_data (s : ByteArray) : s.toList = s.data.toList := ByteArray.toList_eq s

set_option maxRecDepth 100000 in
set_option maxHeartbeats 2000000 in
theorem rread_any (s : ByteArray) (hs : s.size ≤ 9223372036854775807) (w : World) :
    Calls Try.prog 37 #[.string s] w fun e w' => RR s e ∧ Below w.heap.size w w' := by
  go_enter Try.func37, Try.ntmps37
  go_wp2
  go_loopw [4, 5] (fun h i wr => ∃ k : Nat, k ≤ s.size ∧ k ≤ 16 ∧ i = .int .i64 k ∧ h = .int .u64 (gat s.data.toList k : Nat) ∧ Below w.heap.size w wr) (fun _ i _ => 16 - (intOf i).toNat)
  case atStart => exact ⟨0, by omega, by omega, rfl, by rw [gat_zero]; rfl, Below.refl _ _⟩
  case round =>
    obtain ⟨k, hk, hk16, rfl, rfl, hb⟩ := hrel
    obtain ⟨wo, rfl⟩ : ∃ wo : World, wo = wr := ⟨_, rfl⟩
    by_cases hlt : k < s.size
    · by_cases h16 : k < 16
      · obtain ⟨c, hc⟩ : ∃ c, Hid (c = s[k]) := ⟨s[k], rfl⟩
        obtain ⟨m, hm⟩ : ∃ m, Hid (m = gat s.data.toList k) := ⟨_, rfl⟩
        have hki : (k : Int) < (s.size : Int) := by omega
        rw [← hm.out]
        go_wp2_with fail
        go_loopw [4, 6] (fun h n wr => ∃ t m' : Nat, t ≤ 16 ∧ n = .int .u64 t ∧ h = .int .u64 m' ∧ Hid (m' = if hexv c < t then m + hexv c * 2 ^ (60 - 4 * k) else m) ∧ Below w.heap.size w wr) (fun _ n _ => 16 - (intOf n).toNat)
        case atStart => exact ⟨0, m, by omega, rfl, rfl, by show _ = _; rw [if_neg (by omega)], hb⟩
        case round =>
          obtain ⟨t, m', ht, rfl, rfl, hm', hb2⟩ := hrel
          by_cases htl : t < 16
          · by_cases hct : hexv c = t
            · have hq : (((hexd t).toNat : Int) == ((s[k]'hlt).toNat : Int)) = true := by
                rw [← hc.out, ← hct, hexd_hexv c (by omega), beq_self_eq_true]
              have HC := Lib.hid hct
              clear hct
              go_wp2_with fail
              go_quiet ((go_at_call 39; exact Calls.quiet_of_same ((digit_any t htl _).mono fun _ _ h => ⟨h.1, h.2.symm⟩)))
              go_wp2_with fail
              go_roundw
              case rel =>
                have hm2 := hm'.out
                rw [if_neg (by have := HC.out; omega)] at hm2
                refine ⟨t + 1, m' + t * 2 ^ (60 - 4 * k), by omega, by go_num, gat_slot _ _ _ ?_, ?_, below_drewN hb2 _⟩
                · rw [hm2, ← HC.out, hm.out, hc.out]; exact gat_fits s.data.toList k hlt h16 (by have h1 := HC.out; rw [hc.out] at h1; show hexv s[k] < 16; omega)
                · show _ = _
                  rw [if_pos (by have := HC.out; omega), hm2, HC.out]
              case measure => simp [intOf]; omega
            · have hq : (((hexd t).toNat : Int) == ((s[k]'hlt).toNat : Int)) = false := by
                rw [beq_eq_false_iff_ne]
                intro e
                apply hct
                have : hexd t = c := by rw [hc.out]; exact UInt8.toNat_inj.1 (by omega)
                rw [← this, hexv_hexd t htl]
              have HC := Lib.hid hct
              clear hct
              go_wp2_with fail
              go_quiet ((go_at_call 39; exact Calls.quiet_of_same ((digit_any t htl _).mono fun _ _ h => ⟨h.1, h.2.symm⟩)))
              go_wp2_with fail
              go_roundw
              case rel =>
                refine ⟨t + 1, m', by omega, by go_num, rfl, ?_, below_drewN hb2 _⟩
                show _ = _
                have h1 := HC.out
                rw [hm'.out]
                by_cases h2 : hexv c < t
                · rw [if_pos h2, if_pos (by omega)]
                · rw [if_neg h2, if_neg (by omega)]
              case measure => simp [intOf]; omega
          · obtain rfl : t = 16 := by omega
            have hm2 := Lib.hid (gat_next s.data.toList k m' hlt h16 (by have h1 := hm'.out; rw [hm.out, hc.out] at h1; exact h1))
            go_wp2_with fail
            go_roundw
            case rel => exact ⟨k + 1, by omega, by omega, by go_num, by rw [hm2.out], hb2⟩
            case measure => simp [intOf]; omega
      · have HG := Lib.hid (gatU_eq s.data.toList k (by show k = min s.size 16; omega))
        go_wp2_with fail
        rw [HG.out]
        refine (rtext_any _ _).mono ?_; rintro e w1 ⟨rfl, h3⟩; replace hb := on_trans hb h3; clear h3
        go_wp2_with fail
        · have h5 : (!text (gatU s.data.toList) == s.toList) = true := by assumption
          go_ret2
          exact ⟨.inr ⟨by rw [toList_data] at h5; simpa using h5, rfl⟩, hb⟩
        · have h5 : (!text (gatU s.data.toList) == s.toList) = false := by assumption
          go_ret2
          exact ⟨.inl ⟨by rw [toList_data] at h5; simpa using h5, rfl⟩, hb⟩
    · have HG := Lib.hid (gatU_eq s.data.toList k (by show k = min s.size 16; omega))
      go_wp2_with fail
      rw [HG.out]
      refine (rtext_any _ _).mono ?_; rintro e w1 ⟨rfl, h3⟩; replace hb := on_trans hb h3; clear h3
      go_wp2_with fail
      · have h5 : (!text (gatU s.data.toList) == s.toList) = true := by assumption
        go_ret2
        exact ⟨.inr ⟨by rw [toList_data] at h5; simpa using h5, rfl⟩, hb⟩
      · have h5 : (!text (gatU s.data.toList) == s.toList) = false := by assumption
        go_ret2
        exact ⟨.inl ⟨by rw [toList_data] at h5; simpa using h5, rfl⟩, hb⟩

theorem rread_yes (s : ByteArray) (hs : s.size = 16) (hx : Hid (isHex s.data.toList)) (w : World) :
    Calls Try.prog 37 #[.string s] w fun e w' => e = .returned (.tuple #[.int .u64 (U (rdv s.data.toList)), .int .i64 0]) ∧ Below w.heap.size w w' :=
  (rread_any s (by omega) w).mono fun _ _ ⟨h, hb⟩ => ⟨by
    have hg := gatU_yes s.data.toList hs hx.out
    rcases h with h | h
    · rw [h.2, hg]
    · exact absurd (by rw [hg]; exact text_rdv _ hs hx.out) h.1, hb⟩
theorem rread_no (s : ByteArray) (hs : s.size ≤ 9223372036854775807) (hx : Hid (¬ (s.size = 16 ∧ isHex s.data.toList))) (w : World) :
    Calls Try.prog 37 #[.string s] w fun e w' => e = .returned (.tuple #[.int .u64 0, .int .i64 20]) ∧ Below w.heap.size w w' :=
  (rread_any s hs w).mono fun _ _ ⟨h, hb⟩ => ⟨by
    rcases h with h | h
    · have h2 := (text_iff _ _).1 h.1
      exact absurd ⟨h2.1, h2.2.1⟩ hx.out
    · exact h.2, hb⟩

set_option maxRecDepth 100000 in
set_option maxHeartbeats 1000000 in
theorem reads_any (s : ByteArray) (hs : s.size ≤ 9223372036854775807) (w : World) :
    Calls Try.prog 24 #[.string s] w fun e w' => e = .returned (.bool true) ∧ Below w.heap.size w w' := by
  by_cases hx : s.size = 16 ∧ isHex s.data.toList
  · have H1 := hx.1
    have H2 := Lib.hid hx.2
    have H3 := Lib.hid hx.1
    clear hx H1
    go_enter Try.func24, Try.ntmps24
    go_wp2_with fail
    refine (read_yes s H3.out H2.out _).mono ?_; rintro e w1 ⟨rfl, hb⟩
    go_wp2_with fail
    refine (rread_yes s H3.out H2.out _).mono ?_; rintro e w1 ⟨rfl, h3⟩; replace hb := on_trans hb h3; clear h3
    go_wp2_with fail
    go_ret
    exact ⟨rfl, hb⟩
  · have H2 := Lib.hid hx
    clear hx
    go_enter Try.func24, Try.ntmps24
    go_wp2_with fail
    refine (read_no s H2.out _).mono ?_; rintro e w1 ⟨rfl, hb⟩
    go_wp2_with fail
    refine (rread_no s hs H2.out _).mono ?_; rintro e w1 ⟨rfl, h3⟩; replace hb := on_trans hb h3; clear h3
    go_wp2_with fail
    go_ret
    exact ⟨rfl, hb⟩

set_option maxRecDepth 100000 in
set_option maxHeartbeats 1000000 in
theorem hashReads_walk (a0 : ByteArray) (w0 : a0.size ≤ 9223372036854775807) (w : World) :
    Calls Try.prog 10 #[.string a0] w fun e w' => e = .returned (.bool true) ∧ Below w.heap.size w w' := by
  by_cases h : 100 < a0.size
  · go_enter Try.func10, Try.ntmps10
    go_wp2_with fail
    refine (awake_any _).mono ?_; rintro e w3 ⟨rfl, hb⟩
    go_wp2_with fail
    go_ret
    exact ⟨rfl, hb⟩
  · have h' : a0.size ≤ 100 := by omega
    clear h
    go_enter Try.func10, Try.ntmps10
    go_wp2_with fail
    refine (reads_any a0 w0 _).mono ?_; rintro e w3 ⟨rfl, hb⟩
    go_wp2_with fail
    refine (awake_any _).mono ?_; rintro e w3 ⟨rfl, h3⟩; replace hb := on_trans hb h3; clear h3
    go_wp2_with fail
    go_ret
    exact ⟨rfl, hb⟩
end Go.Proofs.Ytennohgmenjaaaa
