/- Contract of utf.Read over the translation. -/
import Derived.Test.YtiapkindbbbdpaaGreatDoorK1
namespace Go.Proofs.YtiapkindbbbdpaaGreatDoor
open Go.RowKit

/-- A byte of a string as a number; 0 behind its end. -/
def byt (s : ByteArray) (k : Nat) : Int := ((s.data.toList.getD k 0).toNat : Int)
theorem byt_eq (s : ByteArray) (k : Nat) (h : k < s.size) : ((s[k]'h).toNat : Int) = byt s k := by
  have h' : k < s.data.toList.length := by simpa using h
  unfold byt
  rw [List.getD_eq_getElem?_getD, List.getElem?_eq_getElem h', Option.getD_some]
  rfl
theorem byt_lo (s : ByteArray) (k : Nat) : 0 ≤ byt s k := Int.natCast_nonneg _
theorem byt_hi (s : ByteArray) (k : Nat) : byt s k < 256 := by unfold byt; have := (s.data.toList.getD k 0).toNat_lt; omega

def badAt (s : ByteArray) (at' i : Nat) : Bool := (i == 1 && !sec (byt s at') (byt s (at' + i))) || decide (byt s (at' + i) < 128) || decide (192 ≤ byt s (at' + i))
/-- The rounds of Read from byte i on. -/
def rdl (s : ByteArray) (at' n i : Nat) (x : Int) : Int × Int × Int :=
  if i < n then if at' + i < s.size then if badAt s at' i then (0, 0, 11) else rdl s at' n (i + 1) (x * 64 + byt s (at' + i) % 64) else (0, 0, 10) else (x, (n : Int), 0)
termination_by n - i
/-- What Read returns. -/
def rd (s : ByteArray) (at' : Int) : Int × Int × Int :=
  if at' < 0 ∨ (s.size : Int) < at' then (0, 0, 2) else if at' = s.size then (0, 0, 6) else if hdn (byt s at'.toNat) = 0 then (0, 0, 11) else rdl s at'.toNat (hdn (byt s at'.toNat)) 1 (hdx (byt s at'.toNat))

theorem hdn_le (c : Int) : hdn c ≤ 4 := by unfold hdn; (repeat' split) <;> omega
theorem hdx_lo (c : Int) (h : 0 ≤ c) : 0 ≤ hdx c := by unfold hdx; omega
theorem hdx_hi (c : Int) : hdx c < 128 := by unfold hdx; omega
theorem hdx_hi2 (c : Int) (_h : 0 ≤ c) (h2 : 1 < hdn c) : hdx c < 64 := by unfold hdx; unfold hdn at h2; (repeat' split at h2) <;> (repeat' split) <;> omega
theorem i64_or6 (x y : Int) (h0 : 0 ≤ x) (h1 : x < 72057594037927936) (h2 : 0 ≤ y) (h3 : y < 64) : bits .or .i64 (x * 64) y = x * 64 + y :=
  bits_join .i64 63 (by decide) (fun n h h' => by rw [IntKind.wrap_i64]; omega) 6 (x * 64) y (by omega) (by omega) (by omega) h2 (by omega) (by omega)

theorem ret3_eq {r : Int × Int × Int} {a b c : Int} (h : (a, b, c) = r) : Ending.returned (.tuple #[.int .i64 a, .int .i64 b, .int .i64 c]) = .returned (.tuple #[.int .i64 r.1, .int .i64 r.2.1, .int .i64 r.2.2]) := by rw [← h]

theorem rdl_end (s : ByteArray) (k n i : Nat) (x : Int) (h : ¬ i < n) : rdl s k n i x = (x, (n : Int), 0) := by rw [rdl, if_neg h]
theorem rdl_short (s : ByteArray) (k n i : Nat) (x : Int) (h : i < n) (h2 : ¬ k + i < s.size) : rdl s k n i x = (0, 0, 10) := by rw [rdl, if_pos h, if_neg h2]
theorem rdl_bad (s : ByteArray) (k n i : Nat) (x : Int) (h : i < n) (h2 : k + i < s.size) (h3 : badAt s k i = true) : rdl s k n i x = (0, 0, 11) := by rw [rdl, if_pos h, if_pos h2, if_pos h3]
theorem rdl_next (s : ByteArray) (k n i : Nat) (x : Int) (h : i < n) (h2 : k + i < s.size) (h3 : badAt s k i = false) : rdl s k n i x = rdl s k n (i + 1) (x * 64 + byt s (k + i) % 64) := by rw [rdl, if_pos h, if_pos h2, if_neg (by simp [h3])]
theorem head_to (c : Int) (h0 : 0 ≤ c) (h1 : c < 256) (n : Nat) (x : Int) (hn : n = hdn c) (hx : x = hdx c) (w : World) :
    Calls Tryz.prog 93 #[.int .u8 c] w fun e w' => e = .returned (.tuple #[.int .i64 n, .int .i64 x]) ∧ w = w' := by
  rw [hn, hx]; exact head_any c h0 h1 w
theorem second_to (f c : Int) (b : Bool) (h : b = sec f c) (w : World) : Calls Tryz.prog 94 #[.int .u8 f, .int .u8 c] w fun e w' => e = .returned (.bool b) ∧ w = w' := by
  rw [h]; exact second_any f c w

set_option maxRecDepth 100000 in
set_option maxHeartbeats 2000000 in
theorem read_any (s : ByteArray) (hs : s.size ≤ 4611686018427387904) (at' : Int) (w : World) :
    Calls Tryz.prog 79 #[.string s, .int .i64 at'] w fun e w' => e = .returned (.tuple #[.int .i64 (rd s at').1, .int .i64 (rd s at').2.1, .int .i64 (rd s at').2.2]) ∧ w = w' := by
  by_cases c1 : at' < 0 ∨ (s.size : Int) < at'
  · have hr : rd s at' = (0, 0, 2) := by unfold rd; rw [if_pos c1]
    rw [hr]
    clear hr
    by_cases c2 : at' < 0
    · have t1 : decide (at' < 0) = true := decide_eq_true c2
      go_enter Tryz.func79, Tryz.ntmps79
      go_wp2_with fail
      go_ret3
      exact ⟨rfl, rfl⟩
    · have t1 : decide (at' < 0) = false := decide_eq_false c2
      have t2 : decide ((s.size : Int) < at') = true := decide_eq_true (by omega)
      go_enter Tryz.func79, Tryz.ntmps79
      go_wp2_with fail
      go_ret3
      exact ⟨rfl, rfl⟩
  · obtain ⟨k, rfl⟩ := Int.eq_ofNat_of_zero_le (show 0 ≤ at' by omega)
    have t1 : decide ((k : Int) < 0) = false := decide_eq_false (by omega)
    have t2 : decide ((s.size : Int) < (k : Int)) = false := decide_eq_false (by omega)
    by_cases c2 : k = s.size
    · subst c2
      have hr : rd s s.size = (0, 0, 6) := by unfold rd; rw [if_neg c1, if_pos rfl]
      rw [hr]
      clear hr
      go_enter Tryz.func79, Tryz.ntmps79
      go_wp2_with fail
      go_ret3
      exact ⟨rfl, rfl⟩
    · have hlt : k < s.size := by omega
      have t3 : ((k : Int) == (s.size : Int)) = false := by simp; omega
      have hr : rd s k = if hdn (byt s k) = 0 then (0, 0, 11) else rdl s k (hdn (byt s k)) 1 (hdx (byt s k)) := by
        unfold rd; rw [if_neg c1, if_neg (by omega)]; rfl
      have hB := byt_eq s k hlt
      obtain ⟨n, hn⟩ : ∃ n, n = hdn (byt s k) := ⟨_, rfl⟩
      obtain ⟨x0, hx0⟩ : ∃ x, x = hdx (byt s k) := ⟨_, rfl⟩
      have hn4 : n ≤ 4 := by rw [hn]; exact hdn_le _
      have hxl : 0 ≤ x0 := by rw [hx0]; exact hdx_lo _ (byt_lo s k)
      have hxh : x0 < 128 := by rw [hx0]; exact hdx_hi _
      have h0 := byt_lo s k
      have h1 := byt_hi s k
      rw [← hn, ← hx0] at hr
      replace hn := Lib.hid hn
      replace hx0 := Lib.hid hx0
      have hhead := head_to (byt s k) h0 h1 n x0 hn.out hx0.out w
      clear hn hx0 c1
      by_cases c3 : n = 0
      · subst c3
        rw [if_pos rfl] at hr
        rw [hr]
        clear hr
        replace hhead := Lib.hid hhead
        go_enter Tryz.func79, Tryz.ntmps79
        go_wp2_with fail
        refine hhead.out.mono ?_; rintro e w1 ⟨rfl, rfl⟩
        go_wp2_with fail
        go_ret3
        exact ⟨rfl, rfl⟩
      · rw [if_neg c3] at hr
        obtain ⟨R, hR⟩ : ∃ R, R = rd s k := ⟨_, rfl⟩
        rw [← hR] at hr ⊢
        replace hr := Lib.hid hr
        clear hR
        have t4 : ((n : Int) == 0) = false := by simpa using c3
        replace hhead := Lib.hid hhead
        go_enter Tryz.func79, Tryz.ntmps79
        go_wp2_with fail
        refine hhead.out.mono ?_; rintro e w1 ⟨rfl, rfl⟩
        clear hhead
        go_wp2_with fail
        go_loop [8, 9] (fun sx si => ∃ (i : Nat) (x : Int), 1 ≤ i ∧ i ≤ n ∧ k + i ≤ s.size ∧ sx = .int .i64 x ∧ si = .int .i64 i ∧ 0 ≤ x ∧ (i = 1 ∧ x < 128 ∨ i = 2 ∧ x < 8192 ∨ i = 3 ∧ x < 524288 ∨ i = 4 ∧ x < 33554432) ∧ Hid (rdl s k n i x = R)) (fun _ i => n - (intOf i).toNat)
        case atStart => exact ⟨1, x0, by omega, by omega, by omega, rfl, rfl, hxl, .inl ⟨rfl, hxh⟩, hr.out.symm⟩
        case round =>
          obtain ⟨i, x, hi1, hin, hks, rfl, rfl, hx1, hx2, hrl⟩ := hrel
          by_cases hi : i < n
          · by_cases hlen : k + i < s.size
            · have hB2 := byt_eq s (k + i) hlen
              have g0 := byt_lo s (k + i)
              have g1 := byt_hi s (k + i)
              have hxb : x < 33554432 := by omega
              have t5 : ((k : Int) + (i : Int) == (s.size : Int)) = false := by simp; omega
              have hor := i64_or6 x (byt s (k + i) % 64) hx1 (by omega) (by omega) (by omega)
              have hand := u8_and63 (h₀ := g0) (h₁ := g1)
              obtain ⟨c, hc⟩ : ∃ c, c = byt s (k + i) := ⟨_, rfl⟩
              rw [← hc] at hB2 g0 g1 hor hand
              replace hc := Lib.hid hc
              have ti : decide ((i : Int) < n) = true := decide_eq_true (by omega)
              by_cases hi' : i = 1
              · subst hi'
                have t5' : ((k : Int) + 1 == (s.size : Int)) = false := by simp; omega
                have ti' : decide ((1 : Int) < n) = true := decide_eq_true (by omega)
                clear t5 ti
                rw [show ((1 : Nat) : Int) = 1 from rfl]
                obtain ⟨b, hb⟩ : ∃ b, Hid (b = sec (byt s k) c) := ⟨_, rfl⟩
                cases b
                · have hbad : badAt s k 1 = true := by
                    unfold badAt; rw [← hc.out, ← hb.out]; simp
                  have := rdl_bad s k n 1 x hi hlen hbad
                  rw [hrl.out] at this
                  subst this
                  clear hbad
                  go_wp2_with fail
                  refine (second_to _ _ false hb.out _).mono ?_; rintro e w1 ⟨rfl, rfl⟩
                  go_wp2_with fail
                  go_ret3
                  exact ⟨rfl, rfl⟩
                · have hr2 : ¬ (c < 128 ∨ 192 ≤ c) := by
                    intro h
                    have h2 := hb.out
                    unfold sec at h2
                    rw [if_pos h] at h2
                    cases h2
                  have s1 : decide (c < 128) = false := decide_eq_false (by omega)
                  have s2 : decide (192 ≤ c) = false := decide_eq_false (by omega)
                  have hbad : badAt s k 1 = false := by
                    unfold badAt; rw [← hc.out, ← hb.out, s1, s2]; rfl
                  have hnext := rdl_next s k n 1 x hi hlen hbad
                  rw [hrl.out, ← hc.out] at hnext
                  replace hnext := Lib.hid hnext
                  clear hbad hr2
                  go_wp2_with fail
                  refine (second_to _ _ true hb.out _).mono ?_; rintro e w1 ⟨rfl, rfl⟩
                  go_wp2_with fail
                  go_round
                  case rel => exact ⟨2, x * 64 + c % 64, by omega, by omega, by omega, rfl, rfl, by omega, by omega, hnext.out.symm⟩
                  case measure => simp [intOf]; omega
              · have t6 : ((i : Int) == 1) = false := by simp; omega
                by_cases hr2 : c < 128 ∨ 192 ≤ c
                · have hbad : badAt s k i = true := by
                    unfold badAt; rw [← hc.out]
                    rcases hr2 with h | h
                    · simp [h]
                    · simp [h]
                  have := rdl_bad s k n i x hi hlen hbad
                  rw [hrl.out] at this
                  subst this
                  clear hbad
                  by_cases hr3 : c < 128
                  · have s1 : decide (c < 128) = true := decide_eq_true hr3
                    go_wp2_with fail
                    go_ret3
                    exact ⟨rfl, rfl⟩
                  · have s1 : decide (c < 128) = false := decide_eq_false hr3
                    have s2 : decide (192 ≤ c) = true := decide_eq_true (by omega)
                    go_wp2_with fail
                    go_ret3
                    exact ⟨rfl, rfl⟩
                · have s1 : decide (c < 128) = false := decide_eq_false (by omega)
                  have s2 : decide (192 ≤ c) = false := decide_eq_false (by omega)
                  have hbad : badAt s k i = false := by
                    unfold badAt; rw [← hc.out, s1, s2]; simp [hi']
                  have hnext := rdl_next s k n i x hi hlen hbad
                  rw [hrl.out, ← hc.out] at hnext
                  replace hnext := Lib.hid hnext
                  clear hbad hr2
                  go_wp2_with fail
                  go_round
                  case rel => exact ⟨i + 1, x * 64 + c % 64, by omega, by omega, by omega, rfl, by go_num, by omega, by omega, hnext.out.symm⟩
                  case measure => simp [intOf]; omega
            · have := rdl_short s k n i x hi hlen
              rw [hrl.out] at this
              subst this
              have t5 : ((k : Int) + (i : Int) == (s.size : Int)) = true := by simp; omega
              have ti : decide ((i : Int) < n) = true := decide_eq_true (by omega)
              go_wp2_with fail
              go_ret3
              exact ⟨rfl, rfl⟩
          · obtain rfl : i = n := by omega
            have := rdl_end s k i i x (by omega)
            rw [hrl.out] at this
            subst this
            go_wp2_with fail
            go_ret3
            exact ⟨rfl, rfl⟩
end Go.Proofs.YtiapkindbbbdpaaGreatDoor
