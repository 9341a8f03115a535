/- Contracts of utf.Check, Valid and right over the translation. -/
import Derived.Test.YtiapkindbbbdpaaGreatDoorK2
import Derived.WalkMore
namespace Go.Proofs.YtiapkindbbbdpaaGreatDoor
open Go.RowKit

theorem rdl_ok (s : ByteArray) (k n : Nat) : ∀ (m i : Nat) (x : Int), m = n - i → k + i ≤ s.size → i ≤ n → (rdl s k n i x).2.2 = 0 → (rdl s k n i x).2.1 = n ∧ k + n ≤ s.size := by
  intro m
  induction m with
  | zero =>
    intro i x hm hk hi _
    rw [rdl_end s k n i x (by omega)]
    exact ⟨rfl, by omega⟩
  | succ m ih =>
    intro i x hm hk hi h0
    have hlt : i < n := by omega
    by_cases hs : k + i < s.size
    · cases hb : badAt s k i with
      | true => rw [rdl_bad s k n i x hlt hs hb] at h0; cases h0
      | false =>
        rw [rdl_next s k n i x hlt hs hb] at h0 ⊢
        exact ih (i + 1) _ (by omega) (by omega) (by omega) h0
    · rw [rdl_short s k n i x hlt hs] at h0; cases h0
theorem rd_ok (s : ByteArray) (k : Nat) (x n e : Int) (h : rd s k = (x, n, e)) (he : e = 0) : 1 ≤ n ∧ n ≤ 4 ∧ k + n ≤ s.size := by
  subst he
  unfold rd at h
  by_cases c1 : (k : Int) < 0 ∨ (s.size : Int) < k
  · rw [if_pos c1] at h; simp at h
  · rw [if_neg c1] at h
    by_cases c2 : (k : Int) = s.size
    · rw [if_pos c2] at h; simp at h
    · rw [if_neg c2] at h
      by_cases c3 : hdn (byt s (k : Int).toNat) = 0
      · rw [if_pos c3] at h; simp at h
      · rw [if_neg c3] at h
        have hk : (k : Int).toNat = k := Int.toNat_natCast k
        rw [hk] at h c3
        have h1 := rdl_ok s k (hdn (byt s k)) _ 1 (hdx (byt s k)) rfl (by omega) (by omega) (by rw [h])
        have h2 : n = (hdn (byt s k) : Int) := by have := h1.1; rw [h] at this; exact this
        have h3 := hdn_le (byt s k)
        have h4 := h1.2
        omega

/-- What Check returns from offset k on, within f rounds. -/
def ckf (s : ByteArray) : Nat → Nat → Int × Int
  | 0, k => ((k : Int), 0)
  | f + 1, k => if k < s.size then if (rd s k).2.2 = 0 then ckf s f (k + (rd s k).2.1.toNat) else ((k : Int), (rd s k).2.2) else ((k : Int), 0)
def ck (s : ByteArray) : Int × Int := ckf s (s.size + 1) 0

theorem ex3 (r : Int × Int × Int) : ∃ x n e, Hid (r = (x, n, e)) := by obtain ⟨x, n, e⟩ := r; exact ⟨x, n, e, rfl⟩
theorem ex2 (r : Int × Int) : ∃ x e, Hid (r = (x, e)) := by obtain ⟨x, e⟩ := r; exact ⟨x, e, rfl⟩
theorem read_to (s : ByteArray) (hs : s.size ≤ 4611686018427387904) (k x n e : Int) (h : rd s k = (x, n, e)) (w : World) :
    Calls Tryz.prog 79 #[.string s, .int .i64 k] w fun e' w' => e' = .returned (.tuple #[.int .i64 x, .int .i64 n, .int .i64 e]) ∧ w = w' := by
  have := read_any s hs k w
  rw [h] at this
  exact this
theorem ret2_eq {r : Int × Int} {a b : Int} (h : (a, b) = r) : Ending.returned (.tuple #[.int .i64 a, .int .i64 b]) = .returned (.tuple #[.int .i64 r.1, .int .i64 r.2]) := by rw [← h]

set_option maxRecDepth 100000 in
set_option maxHeartbeats 400000 in
theorem check_any (s : ByteArray) (hs : s.size ≤ 4611686018427387904) (w : World) :
    Calls Tryz.prog 63 #[.string s] w fun e w' => e = .returned (.tuple #[.int .i64 (ck s).1, .int .i64 (ck s).2]) ∧ w = w' := by
  obtain ⟨R, hR⟩ : ∃ R, Hid (R = ck s) := ⟨_, rfl⟩
  rw [← hR.out]
  go_enter Tryz.func63, Tryz.ntmps63
  go_wp2_with fail
  go_step3
  go_wp2_with fail
  go_step3
  go_wp2_with fail
  go_loop [4, 5] (fun sk se => ∃ k f : Nat, k ≤ s.size ∧ s.size - k < f ∧ sk = .int .i64 k ∧ se = .int .i64 0 ∧ Hid (ckf s f k = R)) (fun k _ => s.size - (intOf k).toNat)
  case atStart => exact ⟨0, s.size + 1, by omega, by omega, rfl, rfl, hR.out.symm⟩
  case round =>
    obtain ⟨k, f, hk, hf, rfl, rfl, hc⟩ := hrel
    obtain ⟨f, rfl⟩ : ∃ g, f = g + 1 := ⟨f - 1, by omega⟩
    by_cases hlt : k < s.size
    · obtain ⟨x, n, e, hr⟩ := ex3 (rd s k)
      have t1 : decide ((k : Int) < s.size) = true := decide_eq_true (by omega)
      have hc' := hc.out
      rw [ckf, if_pos hlt, hr.out] at hc'
      by_cases he : e = 0
      · have hn := rd_ok s k x n e hr.out he
        subst he
        rw [if_pos rfl] at hc'
        replace hc' := Lib.hid hc'
        go_wp2_with fail
        refine (read_to s hs k x n 0 hr.out _).mono ?_; rintro e w1 ⟨rfl, rfl⟩
        go_wp2_with fail
        go_round
        case rel => exact ⟨k + n.toNat, f, by omega, by omega, by go_num, rfl, hc'.out⟩
        case measure => simp [intOf]; omega
      · rw [if_neg he] at hc'
        subst hc'
        have t2 : (e != 0) = true := by simpa using he
        go_wp2_with fail
        refine (read_to s hs k x n e hr.out _).mono ?_; rintro e w1 ⟨rfl, rfl⟩
        go_wp2_with fail
        rw [Exit.noGoto_ret]
        go_ret2
        exact ⟨rfl, rfl⟩
    · obtain rfl : k = s.size := by omega
      have hc' := hc.out
      rw [ckf, if_neg hlt] at hc'
      subst hc'
      go_wp2_with fail
      go_ret2
      exact ⟨rfl, rfl⟩

theorem check_to (s : ByteArray) (hs : s.size ≤ 4611686018427387904) (k e : Int) (h : ck s = (k, e)) (w : World) :
    Calls Tryz.prog 63 #[.string s] w fun e' w' => e' = .returned (.tuple #[.int .i64 k, .int .i64 e]) ∧ w = w' := by
  have := check_any s hs w
  rw [h] at this
  exact this
set_option maxHeartbeats 400000 in
theorem valid_any (s : ByteArray) (hs : s.size ≤ 4611686018427387904) (w : World) :
    Calls Tryz.prog 42 #[.string s] w fun e w' => e = .returned (.bool ((ck s).2 == 0)) ∧ w = w' := by
  obtain ⟨k, e, h⟩ := ex2 (ck s)
  rw [h.out]
  go_enter Tryz.func42, Tryz.ntmps42
  go_wp2_with fail
  refine (check_to s hs k e h.out _).mono ?_; rintro e w1 ⟨rfl, rfl⟩
  go_wp2_with fail
  go_ret
  exact ⟨rfl, rfl⟩
end Go.Proofs.YtiapkindbbbdpaaGreatDoor
