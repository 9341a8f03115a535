/- The walk of the law LineNumbers. -/
import Derived.Test.YtiapkindbbbdpaaGreatDoorK18
namespace Go.Proofs.YtiapkindbbbdpaaGreatDoor
open Go.RowKit

theorem enc_dig (d : Nat) (h : d < 10) : Utf8.encode (48 + (d : Int)) = ⟨#[UInt8.ofNat (48 + d)]⟩ := by
  have : ∀ d : Fin 10, Utf8.encode (48 + (d.val : Int)) = ⟨#[UInt8.ofNat (48 + d.val)]⟩ := by decide
  exact this ⟨d, h⟩
/-- What is left of a number and the digits that are written. -/
def DecI (T : List UInt8) (m : Nat) (s : ByteArray) : Prop := (m = 0 ∧ s.data.toList ≠ [] ∧ s.data.toList = T) ∨ ((s.data.toList = [] ∨ 0 < m) ∧ Lib.decDigits m ++ s.data.toList = T)
theorem DecI.size {T : List UInt8} {m : Nat} {s : ByteArray} (h : DecI T m s) (hT : T.length ≤ 20) : s.size ≤ 20 := by
  have : s.size = s.data.toList.length := by simp
  rcases h with ⟨_, _, h⟩ | ⟨_, h⟩
  · rw [this, h]; exact hT
  · rw [← h, List.length_append] at hT; omega
theorem DecI.step {T : List UInt8} {m : Nat} {s : ByteArray} (h : DecI T m s) (hm : s.data.toList = [] ∨ 0 < m) : DecI T (m / 10) (⟨#[UInt8.ofNat (48 + m % 10)]⟩ ++ s) := by
  have ha : (⟨#[UInt8.ofNat (48 + m % 10)]⟩ ++ s : ByteArray).data.toList = UInt8.ofNat (48 + m % 10) :: s.data.toList := by simp
  rcases h with ⟨h0, h1, _⟩ | ⟨_, h⟩
  · rcases hm with hm | hm
    · exact absurd hm h1
    · omega
  · unfold DecI
    rw [ha]
    rw [Lib.decDigits] at h
    by_cases h10 : m < 10
    · rw [dif_pos h10] at h
      left
      refine ⟨by omega, by simp, ?_⟩
      rw [Nat.mod_eq_of_lt h10]
      exact h
    · rw [dif_neg h10] at h
      right
      exact ⟨.inr (by omega), by rw [← h]; simp⟩
theorem DecI.fin {T : List UInt8} {m : Nat} {s : ByteArray} (h : DecI T m s) (hm : m = 0) (h1 : s.data.toList ≠ []) : s.data.toList = T := by
  rcases h with ⟨_, _, h⟩ | ⟨h, _⟩
  · exact h
  · rcases h with h | h
    · exact absurd h h1
    · omega
theorem dec_ne (u : Nat) : Lib.decDigits u ≠ [] := by
  obtain ⟨c, r, h, _⟩ := dec_head u
  rw [h]; simp
theorem rdec_neg (n : Int) (h0 : -9223372036854775808 ≤ n) (h1 : n < 0) (s0 : ByteArray) (hs : s0 = ⟨(Lib.itoa n).toArray⟩) (w : World) :
    Calls Tryz.prog 28 #[.int .i64 n] w fun e w' => e = .returned (.string s0) ∧ w = w' := by
  replace hs := Lib.hid hs
  have t1 : decide (n ≥ 0) = false := decide_eq_false (by omega)
  obtain ⟨T, hT⟩ : ∃ T, Hid (Lib.decDigits n.natAbs = T) := ⟨_, Lib.hid rfl⟩
  have hTl : T.length ≤ 20 := by rw [← hT.out]; exact dec_len _ 19 (by omega)
  go_enter Tryz.func28, Tryz.ntmps28
  go_wp2_with fail
  go_loop [0, 4] (fun s0 s4 => ∃ (m : Nat) (s : ByteArray), m ≤ 9223372036854775808 ∧ s0 = .int .i64 (-(m : Int)) ∧ s4 = .string s ∧ Hid (DecI T m s) ∧ Hid (s.data.toList ≠ [] ∨ 0 < m)) (fun v _ => (intOf v).natAbs)
  case atStart => exact ⟨n.natAbs, _, by omega, congrArg (Value.int IntKind.i64) (by omega), rfl, Lib.hid (.inr ⟨.inr (by omega), by rw [← hT.out]; simp⟩), Lib.hid (.inr (by omega))⟩
  case round =>
    obtain ⟨m, s, hm, rfl, rfl, hI, hne⟩ := hrel
    have hsz := hI.out.size hTl
    by_cases hz : 0 < m
    · have t2 : decide (-(m : Int) < 0) = true := decide_eq_true (by omega)
      have he := enc_dig (m % 10) (Nat.mod_lt _ (by omega))
      rw [show (48 + ((m % 10 : Nat) : Int)) = 48 + (m : Int) % 10 by omega] at he
      have hI2 := Lib.hid (hI.out.step (.inr hz))
      obtain ⟨q, hq⟩ : ∃ q : Nat, Hid (q = m / 10) := ⟨_, Lib.hid rfl⟩
      rw [← hq.out] at hI2
      obtain ⟨c, hc⟩ : ∃ c : ByteArray, Hid (c = ⟨#[UInt8.ofNat (48 + m % 10)]⟩) := ⟨_, Lib.hid rfl⟩
      rw [← hc.out] at hI2 he
      have hcz : c.size = 1 := by rw [hc.out]; rfl
      go_wp2_with fail
      go_round
      case measure => simp [intOf]; omega
      case rel => exact ⟨q, _, by have := hq.out; omega, congrArg (Value.int IntKind.i64) (by have := hq.out; omega), rfl, hI2, Lib.hid (.inl (by rw [hc.out]; simp))⟩
    · have t2 : decide (-(m : Int) < 0) = false := decide_eq_false (by omega)
      go_wp2_with fail
      go_ret
      refine ⟨?_, rfl⟩
      show Ending.returned (Value.string (⟨#[45]⟩ ++ s)) = _
      have h := hI.out.fin (by omega) (hne.out.resolve_right hz)
      rw [hs.out]
      refine congrArg (fun z => Ending.returned (Value.string z)) ?_
      apply ByteArray.ext
      apply Array.ext'
      rw [ByteArray.data_append, Array.toList_append, h, ← hT.out]
      unfold Lib.itoa
      rw [if_pos h1]
      rfl
def dmsr (v s : Value) : Nat := (intOf v).natAbs + match s with | .string b => if b.size = 0 then 1 else 0 | _ => 0
theorem dmsr_lt (m : Nat) (z : Int) (c s : ByteArray) (hz : z.natAbs = m / 10) (hc : c.size = 1) (h : s = ⟨#[]⟩ ∨ 0 < m) : dmsr (.int .i64 z) (.string (c ++ s)) < dmsr (.int .i64 (-(m : Int))) (.string s) := by
  show z.natAbs + (if (c ++ s : ByteArray).size = 0 then 1 else 0) < (-(m : Int)).natAbs + (if s.size = 0 then 1 else 0)
  rw [ByteArray.size_append, hc, if_neg (by omega)]
  by_cases h0 : 0 < m
  · split <;> omega
  · obtain rfl := h.resolve_right h0
    rw [if_pos (show ByteArray.size ⟨#[]⟩ = 0 from rfl)]
    omega
set_option maxRecDepth 10000 in
theorem rdec_pos (n : Int) (h0 : n ≤ 9223372036854775807) (h1 : 0 ≤ n) (s0 : ByteArray) (hs : s0 = ⟨(Lib.itoa n).toArray⟩) (w : World) :
    Calls Tryz.prog 28 #[.int .i64 n] w fun e w' => e = .returned (.string s0) ∧ w = w' := by
  replace hs := Lib.hid hs
  have t1 : decide (n ≥ 0) = true := decide_eq_true (by omega)
  obtain ⟨T, hT⟩ : ∃ T, Hid (Lib.decDigits n.natAbs = T) := ⟨_, Lib.hid rfl⟩
  have hTl : T.length ≤ 20 := by rw [← hT.out]; exact dec_len _ 19 (by omega)
  go_enter Tryz.func28, Tryz.ntmps28
  go_wp2_with fail
  go_loop [0, 3] (fun s0 s4 => ∃ (m : Nat) (s : ByteArray), m ≤ 9223372036854775808 ∧ s0 = .int .i64 (-(m : Int)) ∧ s4 = .string s ∧ Hid (DecI T m s)) dmsr
  case atStart => exact ⟨n.natAbs, _, by omega, congrArg (Value.int IntKind.i64) (by omega), rfl, Lib.hid (.inr ⟨.inl rfl, by rw [← hT.out]; simp⟩)⟩
  case round =>
    obtain ⟨m, s, hm, rfl, rfl, hI⟩ := hrel
    have hsz := hI.out.size hTl
    by_cases hz : s.data.toList = [] ∨ 0 < m
    · have he := enc_dig (m % 10) (Nat.mod_lt _ (by omega))
      rw [show (48 + ((m % 10 : Nat) : Int)) = 48 + (m : Int) % 10 by omega] at he
      have hI2 := Lib.hid (hI.out.step hz)
      obtain ⟨q, hq⟩ : ∃ q : Nat, Hid (q = m / 10) := ⟨_, Lib.hid rfl⟩
      rw [← hq.out] at hI2
      obtain ⟨c, hc⟩ : ∃ c : ByteArray, Hid (c = ⟨#[UInt8.ofNat (48 + m % 10)]⟩) := ⟨_, Lib.hid rfl⟩
      rw [← hc.out] at hI2 he
      have hcz : c.size = 1 := by rw [hc.out]; rfl
      by_cases he0 : s.data.toList = []
      · have hse : s = ⟨#[]⟩ := ByteArray.ext (Array.ext' he0)
        have hle : Hid ((c ++ s : ByteArray).size = 1) := by show _ = _; rw [ByteArray.size_append, hcz, hse]; rfl
        subst hse
        clear hz
        go_wp2_with fail
        go_round
        case measure => exact dmsr_lt m _ _ _ (by omega) hcz (.inl rfl)
        case rel => exact ⟨q, _, by have := hq.out; omega, congrArg (Value.int IntKind.i64) (by have := hq.out; omega), rfl, hI2⟩
      · have hz' : 0 < m := hz.resolve_left he0
        have t2 : decide (-(m : Int) < 0) = true := decide_eq_true (by omega)
        have q1 : s.toList.isEmpty = false := by rw [ByteArray.toList_eq, List.isEmpty_eq_false_iff]; first | exact he0 | exact fun h => hz (.inl h)
        clear hz
        go_wp2_with fail
        go_round
        case measure => exact dmsr_lt m _ _ _ (by omega) hcz (.inr hz')
        case rel => exact ⟨q, _, by have := hq.out; omega, congrArg (Value.int IntKind.i64) (by have := hq.out; omega), rfl, hI2⟩
    · have hz' : ¬ 0 < m := fun h => hz (.inr h)
      have hse : s.data.toList ≠ [] := fun h => hz (.inl h)
      replace hse := Lib.hid hse
      have t2 : decide (-(m : Int) < 0) = false := decide_eq_false (by omega)
      have q1 : s.toList.isEmpty = false := by rw [ByteArray.toList_eq, List.isEmpty_eq_false_iff]; first | exact he0 | exact fun h => hz (.inl h)
      clear hz
      go_wp2_with fail
      go_ret
      refine ⟨congrArg (fun z => Ending.returned (Value.string z)) ?_, rfl⟩
      have h := hI.out.fin (by omega) hse.out
      rw [hs.out]
      apply ByteArray.ext
      apply Array.ext'
      rw [h, ← hT.out]
      unfold Lib.itoa
      rw [if_neg (by omega), show n.natAbs = n.toNat by omega]
theorem rdec_any (n : Int) (h0 : -9223372036854775808 ≤ n) (h1 : n ≤ 9223372036854775807) (s : ByteArray) (hs : s = ⟨(Lib.itoa n).toArray⟩) (w : World) :
    Calls Tryz.prog 28 #[.int .i64 n] w fun e w' => e = .returned (.string s) ∧ w = w' := by
  by_cases h : n < 0
  · exact rdec_neg n h0 h s hs w
  · exact rdec_pos n h1 (by omega) s hs w
end Go.Proofs.YtiapkindbbbdpaaGreatDoor
