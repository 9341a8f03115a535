/- decimal's digits and signed. -/
import Derived.Test.YtaidemghhagniaaGreatDoorD9
namespace Go.Proofs.YtaidemghhagniaaGreatDoor
open Go Go.RowKit
def digN (l : List UInt8) : Nat := (l.takeWhile isD).length
def sgd (l : List UInt8) : List UInt8 := match l with | [] => [] | c :: t => if c = 43 ∨ c = 45 then t else c :: t
theorem digN_le (l : List UInt8) : digN l ≤ l.length := by unfold digN; exact (List.takeWhile_prefix _).length_le
theorem digN_cons (c : UInt8) (t : List UInt8) : digN (c :: t) = if isD c then digN t + 1 else 0 := by
  unfold digN; rw [List.takeWhile_cons]; split <;> rfl
theorem drop_cons (l : List UInt8) (i : Nat) (h : i < l.length) : l.drop i = l.getD i 0 :: l.drop (i + 1) := by
  rw [List.drop_eq_getElem_cons h, List.getD_eq_getElem?_getD, List.getElem?_eq_getElem h]; rfl
theorem len_size (s : ByteArray) : s.data.toList.length = s.size := by simp
theorem ba_ext {a b : ByteArray} (h : a.data.toList = b.data.toList) : a = b := by
  cases a with
  | mk x => cases b with
    | mk y => cases x; cases y; simp at h; subst h; rfl
theorem digits_any (s : ByteArray) (hs : s.size ≤ 2000) (w : World) : Calls Tryz.prog 63 #[.string s] w fun e w' => e = .returned (.int .i64 (digN s.data.toList : Int)) ∧ w = w' := by
  obtain ⟨N, hN⟩ : ∃ N, Hid (digN s.data.toList = N) := ⟨_, Lib.hid rfl⟩
  rw [hN.out]
  have hlen := Lib.hid (len_size s)
  go_enter Tryz.func63, Tryz.ntmps63
  go_wp2_with fail
  go_loop [3] (fun s3 => ∃ k : Nat, k ≤ s.size ∧ s3 = .int .i64 (k : Int) ∧ Hid (k + digN (s.data.toList.drop k) = N)) (fun s3 => s.size - (intOf s3).toNat)
  case atStart => exact ⟨0, by omega, rfl, Lib.hid (by rw [List.drop_zero, ← hN.out]; omega)⟩
  case round =>
    obtain ⟨k, hk, rfl, hI⟩ := hrel
    by_cases hlt : k < s.size
    · have u1 : decide ((k : Int) < (s.size : Int)) = true := decide_eq_true (by omega)
      have u1' : decide (k < s.size) = true := decide_eq_true (by omega)
      obtain ⟨c, hc, hB⟩ := bt_u s k hlt
      have hI' := hI.out
      rw [drop_cons _ k (by rw [hlen.out]; exact hlt)] at hI'
      unfold bt at hc
      rw [hc.out, digN_cons] at hI'
      by_cases hd : isD c = true
      · rw [if_pos hd] at hI'
        have hI2 : Hid (k + 1 + digN (s.data.toList.drop (k + 1)) = N) := Lib.hid (by omega)
        have hcd := (isD_iff _).1 hd
        have v3 : decide ((48 : Int) ≤ (c.toNat : Int)) = true := decide_eq_true (by omega)
        have v4 : decide ((c.toNat : Int) ≤ 57) = true := decide_eq_true (by omega)
        have v3' : decide (48 ≤ c.toNat) = true := decide_eq_true (by omega)
        have v4' : decide (c.toNat ≤ 57) = true := decide_eq_true (by omega)
        clear hI' hI hc hd hcd
        go_wp2_with fail
        go_round
        case rel => exact ⟨k + 1, by omega, by go_num, hI2⟩
        case measure => simp [intOf]; omega
      · rw [if_neg hd] at hI'
        obtain rfl : k = N := by omega
        have hcd : ¬ (48 ≤ c.toNat ∧ c.toNat ≤ 57) := fun h => hd ((isD_iff _).2 h)
        clear hI' hI hc hd hN
        by_cases h48 : 48 ≤ c.toNat
        · have v3 : decide ((48 : Int) ≤ (c.toNat : Int)) = true := decide_eq_true (by omega)
          have v4 : decide ((c.toNat : Int) ≤ 57) = false := decide_eq_false (by omega)
          have v3' : decide (48 ≤ c.toNat) = true := decide_eq_true (by omega)
          have v4' : decide (c.toNat ≤ 57) = false := decide_eq_false (by omega)
          clear hcd h48
          go_wp2_with fail
          go_ret
          exact ⟨rfl, rfl⟩
        · have v3 : decide ((48 : Int) ≤ (c.toNat : Int)) = false := decide_eq_false (by omega)
          have v3' : decide (48 ≤ c.toNat) = false := decide_eq_false (by omega)
          clear hcd h48
          go_wp2_with fail
          go_ret
          exact ⟨rfl, rfl⟩
    · obtain rfl : k = s.size := by omega
      have hI' := hI.out
      rw [List.drop_of_length_le (by rw [hlen.out]; exact Nat.le_refl _)] at hI'
      obtain rfl : s.size = N := by rw [← hI']; rfl
      clear hI hI' hN
      go_wp2_with fail
      go_ret
      exact ⟨rfl, rfl⟩
theorem signed_any (s : ByteArray) (hs : s.size ≤ 2000) (w : World) : Calls Tryz.prog 62 #[.string s] w fun e w' => e = .returned (.string ⟨(sgd s.data.toList).toArray⟩) ∧ w = w' := by
  by_cases h0 : 0 < s.size
  · have u1 : decide ((0 : Int) < (s.size : Int)) = true := decide_eq_true (by omega)
    have u1' : decide (0 < s.size) = true := decide_eq_true (by omega)
    have tE : ¬ s = ByteArray.empty := fun e => by rw [e] at h0; exact absurd h0 (by decide)
    obtain ⟨c, hc, hB⟩ := bt_u s 0 h0
    have hl : s.data.toList = c :: s.data.toList.drop 1 := by
      have := drop_cons s.data.toList 0 (by rw [len_size]; exact h0)
      rw [List.drop_zero] at this
      unfold bt at hc
      rw [hc.out] at this
      exact this
    by_cases g : c = 43 ∨ c = 45
    · have hr : (⟨(sgd s.data.toList).toArray⟩ : ByteArray) = s.extract 1 s.size := by
        apply ba_ext
        rw [ext_list]
        show sgd s.data.toList = _
        rw [hl, sgd, if_pos g]; rfl
      rw [hr]
      rcases g with rfl | rfl
      · rw [show (((43 : UInt8).toNat : Int)) = 43 from rfl] at hB
        clear hl hr hc
        go_enter Tryz.func62, Tryz.ntmps62
        go_wp2_with fail
        go_ret
        exact ⟨rfl, rfl⟩
      · rw [show (((45 : UInt8).toNat : Int)) = 45 from rfl] at hB
        clear hl hr hc
        go_enter Tryz.func62, Tryz.ntmps62
        go_wp2_with fail
        go_ret
        exact ⟨rfl, rfl⟩
    · have hr : (⟨(sgd s.data.toList).toArray⟩ : ByteArray) = s := by
        apply ba_ext
        show sgd s.data.toList = _
        rw [hl, sgd, if_neg g]
      rw [hr]
      have v1 := ne_bt c 43 43 rfl (fun e => g (.inl e))
      have v2 := ne_bt c 45 45 rfl (fun e => g (.inr e))
      clear hl hr hc g
      go_enter Tryz.func62, Tryz.ntmps62
      go_wp2_with fail
      go_ret
      exact ⟨rfl, rfl⟩
  · have hz : s.size = 0 := by omega
    have hr : (⟨(sgd s.data.toList).toArray⟩ : ByteArray) = s := by
      have : s.data.toList = [] := List.length_eq_zero_iff.1 (by rw [len_size]; exact hz)
      apply ba_ext
      rw [this]; rfl
    rw [hr]
    have u1 : decide ((0 : Int) < (s.size : Int)) = false := decide_eq_false (by omega)
    have u1' : decide (0 < s.size) = false := decide_eq_false (by omega)
    clear hr hz h0
    go_enter Tryz.func62, Tryz.ntmps62
    go_wp2_with fail
    go_ret
    exact ⟨rfl, rfl⟩
end Go.Proofs.YtaidemghhagniaaGreatDoor
