/- The contracts of line.Bare, Right and Of over the translation. -/
import Derived.Test.YtiapkindbbbdpaaGreatDoorK3
namespace Go.Proofs.YtiapkindbbbdpaaGreatDoor
open Go.RowKit

/-- A byte that a bare word can have. -/
def okc (c : UInt8) : Bool := !(decide (c < 33) || c == 127 || c == 34 || c == 35)
def vld (s : ByteArray) : Bool := (ck s).2 == 0
/-- Bare. -/
def bareF (s : ByteArray) : Bool := decide (1 ≤ s.size) && decide (s.size ≤ 16384) && vld s && s.data.toList.all okc
theorem okc_byt (s : ByteArray) (i : Nat) : okc (s.data.toList.getD i 0) = !(decide (byt s i < 33) || decide (byt s i = 127) || decide (byt s i = 34) || decide (byt s i = 35)) := by
  unfold okc byt
  generalize s.data.toList.getD i 0 = c
  have h1 : decide (c < 33) = decide ((c.toNat : Int) < 33) := by
    have e : (c < 33) ↔ c.toNat < 33 := UInt8.lt_iff_toNat_lt
    exact decide_eq_decide.2 (by rw [e]; omega)
  have h2 : ∀ k : UInt8, (c == k) = decide ((c.toNat : Int) = (k.toNat : Int)) := fun k => by
    rw [Bool.eq_iff_iff]
    simp [← UInt8.toNat_inj]
    omega
  rw [h1, h2, h2, h2]
  rfl
theorem all_take (l : List UInt8) (p : UInt8 → Bool) (i : Nat) (h : i < l.length) : (l.take (i + 1)).all p = ((l.take i).all p && p (l.getD i 0)) := by
  rw [List.take_add_one, List.getElem?_eq_getElem h, List.all_append, List.getD_eq_getElem?_getD, List.getElem?_eq_getElem h]
  simp
theorem all_bad (l : List UInt8) (p : UInt8 → Bool) (i : Nat) (h : i < l.length) (hp : p (l.getD i 0) = false) : l.all p = false := by
  rw [List.getD_eq_getElem?_getD, List.getElem?_eq_getElem h, Option.getD_some] at hp
  rw [List.all_eq_false]
  exact ⟨l[i], List.getElem_mem h, by simp [hp]⟩
theorem valid_to (s : ByteArray) (hs : s.size ≤ 4611686018427387904) (b : Bool) (h : vld s = b) (w : World) : Calls Tryz.prog 42 #[.string s] w fun e w' => e = .returned (.bool b) ∧ w = w' := by
  rw [← h]; exact valid_any s hs w
set_option maxRecDepth 100000 in
set_option maxHeartbeats 1000000 in
theorem bare_any (s : ByteArray) (hs : s.size ≤ 4611686018427387904) (w : World) : Calls Tryz.prog 13 #[.string s] w fun e w' => e = .returned (.bool (bareF s)) ∧ w = w' := by
  by_cases h1 : s.size < 1
  · rw [show bareF s = false by unfold bareF; rw [decide_eq_false (by omega)]; rfl]
    have t1 : decide ((s.size : Int) < 1) = true := decide_eq_true (by omega)
    go_enter Tryz.func13, Tryz.ntmps13
    go_wp2_with fail
    go_ret
    exact ⟨rfl, rfl⟩
  · have t1 : decide ((s.size : Int) < 1) = false := decide_eq_false (by omega)
    by_cases h2 : 16384 < s.size
    · rw [show bareF s = false by unfold bareF; rw [decide_eq_false (p := s.size ≤ 16384) (by omega), Bool.and_false]; rfl]
      have t2 : decide (16384 < (s.size : Int)) = true := decide_eq_true (by omega)
      go_enter Tryz.func13, Tryz.ntmps13
      go_wp2_with fail
      go_ret
      exact ⟨rfl, rfl⟩
    · have t2 : decide (16384 < (s.size : Int)) = false := decide_eq_false (by omega)
      have hb : Hid (bareF s = (vld s && s.data.toList.all okc)) := by
        show _ = _
        unfold bareF; rw [decide_eq_true (by omega), decide_eq_true (by omega)]; rfl
      obtain ⟨v, hv⟩ : ∃ v, Hid (vld s = v) := ⟨_, rfl⟩
      have hz : Hid (s.data.toList.length = s.size) := by show _ = _; simp
      cases v with
      | false =>
        rw [show bareF s = false by rw [hb.out, hv.out]; rfl]
        go_enter Tryz.func13, Tryz.ntmps13
        go_wp2_with fail
        refine (valid_to s hs false hv.out _).mono ?_; rintro e w1 ⟨rfl, rfl⟩
        go_wp2_with fail
        go_ret
        exact ⟨rfl, rfl⟩
      | true =>
        obtain ⟨R, hR⟩ : ∃ R, Hid (s.data.toList.all okc = R) := ⟨_, rfl⟩
        rw [show bareF s = R by rw [hb.out, hv.out, Bool.true_and, hR.out]]
        go_enter Tryz.func13, Tryz.ntmps13
        go_wp2_with fail
        refine (valid_to s hs true hv.out _).mono ?_; rintro e w1 ⟨rfl, rfl⟩
        go_wp2_with fail
        go_loop [20] (fun s20 => ∃ i : Nat, i ≤ s.size ∧ s20 = .int .i64 i ∧ Hid ((s.data.toList.take i).all okc = true)) (fun v => s.size - (intOf v).toNat)
        case atStart => exact ⟨0, by omega, rfl, by show _ = _; simp⟩
        case round =>
          obtain ⟨i, hi, rfl, hA⟩ := hrel
          by_cases hlt : i < s.size
          · have t3 : decide ((i : Int) < s.size) = true := decide_eq_true (by omega)
            have hB := byt_eq s i hlt
            have hO := okc_byt s i
            have hT := Lib.hid (all_take s.data.toList okc i (by rw [hz.out]; exact hlt))
            have hF := Lib.hid (all_bad s.data.toList okc i (by rw [hz.out]; exact hlt))
            rw [hA.out, hO, Bool.true_and] at hT
            rw [hO] at hF
            clear hO
            obtain ⟨c, hc⟩ : ∃ c, c = byt s i := ⟨_, rfl⟩
            rw [← hc] at hB hT hF
            clear hc
            by_cases g1 : c < 33
            · have s1 : decide (c < 33) = true := decide_eq_true g1
              have e0 := hF.out (by rw [s1]; rfl)
              rw [hR.out] at e0
              clear hT hF
              subst e0
              go_wp2_with fail
              go_ret
              exact ⟨rfl, rfl⟩
            · have s1 : decide (c < 33) = false := decide_eq_false g1
              by_cases g2 : c = 127 ∨ c = 34 ∨ c = 35
              · have e0 := hF.out (by rcases g2 with rfl | rfl | rfl <;> rfl)
                rw [hR.out] at e0
                clear hT hF
                subst e0
                rcases g2 with rfl | rfl | rfl
                · go_wp2_with fail
                  go_ret
                  exact ⟨rfl, rfl⟩
                · go_wp2_with fail
                  go_ret
                  exact ⟨rfl, rfl⟩
                · go_wp2_with fail
                  go_ret
                  exact ⟨rfl, rfl⟩
              · have s2 : (c == 127) = false := by simp; omega
                have s3 : (c == 34) = false := by simp; omega
                have s4 : (c == 35) = false := by simp; omega
                rw [s1, decide_eq_false (p := c = 127) (by omega), decide_eq_false (p := c = 34) (by omega), decide_eq_false (p := c = 35) (by omega)] at hT
                clear hF
                go_wp2_with fail
                go_round
                case measure => simp [intOf]; omega
                case rel => exact ⟨i + 1, by omega, by go_num, hT⟩
          · obtain rfl : i = s.size := by omega
            have t3 : decide ((s.size : Int) < s.size) = false := decide_eq_false (by omega)
            have hA' := hA.out
            rw [List.take_of_length_le (by rw [hz.out]; omega)] at hA'
            rw [hR.out] at hA'
            clear hA
            subst hA'
            go_wp2_with fail
            go_ret
            exact ⟨rfl, rfl⟩
theorem bare_to (s : ByteArray) (hs : s.size ≤ 4611686018427387904) (b : Bool) (h : bareF s = b) (w : World) : Calls Tryz.prog 13 #[.string s] w fun e w' => e = .returned (.bool b) ∧ w = w' := by
  rw [← h]; exact bare_any s hs w
/-- Right. -/
def rightF (s : ByteArray) (q : Bool) : Bool := if q then decide (s.size ≤ 16384) && vld s else bareF s
set_option maxHeartbeats 400000 in
theorem right_any (s : ByteArray) (q : Bool) (hs : s.size ≤ 4611686018427387904) (w : World) : Calls Tryz.prog 14 #[.agg #[.string s, .bool q]] w fun e w' => e = .returned (.bool (rightF s q)) ∧ Below w.heap.size w w' := by
  cases q with
  | true =>
    by_cases h2 : s.size ≤ 16384
    · have t2 : decide ((s.size : Int) ≤ 16384) = true := decide_eq_true (by omega)
      obtain ⟨v, hv⟩ : ∃ v, Hid (vld s = v) := ⟨_, rfl⟩
      rw [show rightF s true = v by unfold rightF; rw [if_pos rfl, decide_eq_true h2, hv.out]; rfl]
      go_enter Tryz.func14, Tryz.ntmps14
      go_wp2_with fail
      refine (valid_to s hs v hv.out _).mono ?_; rintro e w1 ⟨rfl, rfl⟩
      go_wp2_with fail
      go_ret
      exact ⟨rfl, (Below.refl _ _).alloc (Nat.le_refl _) _⟩
    · have t2 : decide ((s.size : Int) ≤ 16384) = false := decide_eq_false (by omega)
      rw [show rightF s true = false by unfold rightF; rw [if_pos rfl, decide_eq_false h2]; rfl]
      go_enter Tryz.func14, Tryz.ntmps14
      go_wp2_with fail
      go_ret
      exact ⟨rfl, (Below.refl _ _).alloc (Nat.le_refl _) _⟩
  | false =>
    obtain ⟨v, hv⟩ : ∃ v, Hid (bareF s = v) := ⟨_, rfl⟩
    rw [show rightF s false = v from hv.out]
    go_enter Tryz.func14, Tryz.ntmps14
    go_wp2_with fail
    refine (bare_to s hs v hv.out _).mono ?_; rintro e w1 ⟨rfl, rfl⟩
    go_wp2_with fail
    go_ret
    exact ⟨rfl, (Below.refl _ _).alloc (Nat.le_refl _) _⟩
set_option maxHeartbeats 400000 in
theorem of_any (s : ByteArray) (hs : s.size ≤ 4611686018427387904) (w : World) : Calls Tryz.prog 15 #[.string s] w fun e w' => e = .returned (.agg #[.string s, .bool (!bareF s)]) ∧ Below w.heap.size w w' := by
  obtain ⟨v, hv⟩ : ∃ v, Hid (bareF s = v) := ⟨_, rfl⟩
  rw [hv.out]
  go_enter Tryz.func15, Tryz.ntmps15
  go_wp2_with fail
  refine (bare_to s hs v hv.out _).mono ?_; rintro e w1 ⟨rfl, rfl⟩
  go_wp2_with fail
  exact bodyPost_ret (v := .agg #[.string s, .bool (!v)]) (by simp [results, Tryz.results15, go_sem]) rfl ⟨rfl, (Below.refl _ _).alloc (Nat.le_refl _) _⟩
end Go.Proofs.YtiapkindbbbdpaaGreatDoor
