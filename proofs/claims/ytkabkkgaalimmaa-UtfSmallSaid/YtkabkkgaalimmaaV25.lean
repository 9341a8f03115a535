/- The contract of the reference Read. -/
import Derived.Test.YtkabkkgaalimmaaV24
namespace Go.Proofs.Ytkabkkgaalimmaa
open Go.RowKit Go.Shelf

theorem extract_list (s : ByteArray) (a b : Nat) : (s.extract a b).data.toList = (s.data.toList.drop a).take (b - a) := by
  simp [ByteArray.data_extract, Array.toList_extract, List.extract]
theorem extract_len (s : ByteArray) (a b : Nat) (h : b ≤ s.size) : (s.extract a b).size = b - a := by
  rw [ByteArray.size_extract]; omega
def Ret3 (r : Int × Int × Int) (w : World) (e : Ending) (w' : World) : Prop := e = .returned (.tuple #[.int .i64 r.1, .int .i64 r.2.1, .int .i64 r.2.2]) ∧ Below w.heap.size w w'
theorem ret3_of {r : Int × Int × Int} {w w' : World} {e : Ending} {a b c : Int} (h : r = (a, b, c)) (he : e = .returned (.tuple #[.int .i64 a, .int .i64 b, .int .i64 c])) (hb : Below w.heap.size w w') : Ret3 r w e w' := by
  unfold Ret3; rw [h]; exact ⟨he, hb⟩
theorem begins_to (s : ByteArray) (h1 : 1 ≤ s.size) (h3 : s.size ≤ 3) (l : List UInt8) (hl : s.data.toList = l) (w : World) :
    Calls Try.prog 53 #[.string s] w (RetB (BegP l) w) := by rw [← hl]; exact begins_any s h1 h3 w

set_option maxRecDepth 100000 in
set_option maxHeartbeats 2000000 in
theorem rread_any (s : ByteArray) (hs : s.size ≤ 4611686018427387904) (at' : Int) (w : World) :
    Calls Try.prog 46 #[.string s, .int .i64 at'] w (Ret3 (rd s at') w) := by
  by_cases c1 : at' < 0 ∨ (s.size : Int) < at'
  · have hr : Hid (rd s at' = (0, 0, 2)) := by show _ = _; unfold rd; rw [if_pos c1]
    by_cases c2 : at' < 0
    · have t1 : decide (at' < 0) = true := decide_eq_true c2
      go_enter Try.func46, Try.ntmps46
      go_wp2_with fail
      go_ret3
      exact ret3_of hr.out rfl (Below.refl _ _)
    · have t1 : decide (at' < 0) = false := decide_eq_false c2
      have t2 : decide ((s.size : Int) < at') = true := decide_eq_true (by omega)
      go_enter Try.func46, Try.ntmps46
      go_wp2_with fail
      go_ret3
      exact ret3_of hr.out rfl (Below.refl _ _)
  · obtain ⟨k, rfl⟩ := Int.eq_ofNat_of_zero_le (show 0 ≤ at' by omega)
    have t1 : decide ((k : Int) < 0) = false := decide_eq_false (by omega)
    have t2 : decide (s.size < k) = false := decide_eq_false (by omega)
    by_cases c2 : k = s.size
    · subst c2
      have hr : Hid (rd s s.size = (0, 0, 6)) := by show _ = _; unfold rd; rw [if_neg c1, if_pos rfl]
      go_enter Try.func46, Try.ntmps46
      go_wp2_with fail
      go_ret3
      exact ret3_of hr.out rfl (Below.refl _ _)
    · have hlt : k < s.size := by omega
      have t3 : ((k : Int) == (s.size : Int)) = false := by simp; omega
      obtain ⟨l, hl⟩ : ∃ l, Hid (s.data.toList.drop k = l) := ⟨s.data.toList.drop k, rfl⟩
      obtain ⟨R, hR⟩ : ∃ R, Hid (R = rd s k) := ⟨rd s k, rfl⟩
      have hd : Hid (R = dec l) := by show _ = _; rw [hR.out, rd_dec s k (by omega), hl.out]
      have hll : l.length = s.size - k := by rw [← hl.out, List.length_drop, size_list]
      have hne : Hid (l ≠ []) := fun e => by rw [e] at hll; simp at hll; omega
      rw [← hR.out]
      clear c1 hR
      go_enter Try.func46, Try.ntmps46
      go_wp2_with fail
      go_loopg [7] 4 (fun g s7 wr => ∃ n : Nat, 1 ≤ n ∧ n ≤ 5 ∧ n + g = 5 ∧ s7 = .int .i64 n ∧ Hid (∀ m, 1 ≤ m → m < n → m ≤ l.length → ¬ 0 ≤ valR (l.take m)) ∧ Below w.heap.size w wr)
      case atStart => exact ⟨1, by omega, by omega, by omega, rfl, (fun m a b => by omega), Below.refl _ _⟩
      case round =>
        obtain ⟨n, hn1, hn5, hg, rfl, hno, hb⟩ := hrel
        by_cases hn : n ≤ 4 ∧ k + n ≤ s.size
        · obtain ⟨hn4, hkn⟩ := hn
          have t4 : decide ((n : Int) ≤ 4) = true := decide_eq_true (by omega)
          have t5 : decide ((k : Int) + (n : Int) ≤ (s.size : Int)) = true := decide_eq_true (by omega)
          have hx : (s.extract k (k + n)).data.toList = l.take n := by rw [extract_list, hl.out, Nat.add_sub_cancel_left]
          have hxs : (s.extract k (k + n)).size = n := by rw [extract_len _ _ _ hkn]; omega
          obtain ⟨v, hv⟩ : ∃ v, Hid (valR (l.take n) = v) := ⟨valR (l.take n), rfl⟩
          have hcall := Lib.hid (fun W => value_to (s.extract k (k + n)) (by omega) (by omega) v (by rw [hx]; exact hv.out) W)
          clear hx hxs
          go_wp2_with fail
          refine (hcall.out _).mono ?_; rintro e w3 ⟨rfl, hb3⟩
          replace hb := on_trans hb hb3
          by_cases hvp : 0 ≤ v
          · have t6 : decide (0 ≤ v) = true := decide_eq_true hvp
            have hfin : Hid (R = (v, (n : Int), 0)) := by
              show _ = _
              rw [hd.out, ref_yes l n (by omega) (by rw [hv.out]; exact hvp), hv.out]
            go_wp2_with fail
            go_ret3
            exact ret3_of hfin.out rfl hb
          · have t6 : decide (0 ≤ v) = false := decide_eq_false hvp
            go_wp2_with fail
            go_roundg (gk - 1)
            case measure => omega
            case rel =>
              refine ⟨n + 1, by omega, by omega, by omega, by go_num, fun m a b c => ?_, hb⟩
              by_cases e : m = n
              · rw [e, hv.out]; exact hvp
              · exact hno.out m a (by omega) c
        · have hno2 : Hid (∀ m, 1 ≤ m → m ≤ 4 → m ≤ l.length → ¬ 0 ≤ valR (l.take m)) := fun m a b c => hno.out m a (by omega) c
          have t5 : decide ((n : Int) ≤ 4) = false ∨ decide ((n : Int) ≤ 4) = true ∧ decide ((k : Int) + (n : Int) ≤ (s.size : Int)) = false := by
            by_cases h4 : n ≤ 4
            · exact .inr ⟨decide_eq_true (by omega), decide_eq_false (by omega)⟩
            · exact .inl (decide_eq_false (by omega))
          have t7 : IntKind.i64.wrap ((s.size : Int) - k) = (s.size : Int) - k := by rw [IntKind.wrap_i64]; omega
          obtain ⟨r1, r2⟩ := ref_no l hne.out hno2.out
          by_cases h4 : l.length < 4
          · have t6 : decide ((s.size : Int) - k < 4) = true := decide_eq_true (by omega)
            have hx : (s.extract k s.size).data.toList = l := by rw [extract_list, hl.out, List.take_of_length_le (by omega)]
            have hxs : (s.extract k s.size).size = l.length := by rw [extract_len _ _ _ (Nat.le_refl _)]; omega
            have hpos : 1 ≤ l.length := by omega
            have hcall := Lib.hid (fun W => begins_to (s.extract k s.size) (by omega) (by omega) l hx W)
            have r1' : Hid (BegP l → R = (0, 0, 10)) := fun h => by rw [hd.out]; exact r1 ⟨h4, h⟩
            have r2' : Hid (¬ BegP l → R = (0, 0, 11)) := fun h => by rw [hd.out]; exact r2 (fun c => h c.2)
            clear r1 r2 hx hxs
            rcases t5 with t5 | ⟨t5, t5'⟩
            all_goals
              go_wp2_with fail
              refine (hcall.out _).mono ?_; rintro e w3 ⟨b, rfl, hbb, hb3⟩
              replace hb := on_trans hb hb3
              replace hbb := Lib.hid hbb
              cases b with
              | true =>
                have hfin := Lib.hid (r1'.out (hbb.out.1 rfl))
                go_wp2_with fail
                go_ret3
                exact ret3_of hfin.out rfl hb
              | false =>
                have hfin := Lib.hid (r2'.out (fun c => by have := hbb.out.2 c; cases this))
                go_wp2_with fail
                go_ret3
                exact ret3_of hfin.out rfl hb
          · have t6 : decide ((s.size : Int) - k < 4) = false := decide_eq_false (by omega)
            have hfin : Hid (R = (0, 0, 11)) := by
              show _ = _
              rw [hd.out]; exact r2 (fun c => h4 c.1)
            clear r1 r2
            rcases t5 with t5 | ⟨t5, t5'⟩
            all_goals
              go_wp2_with fail
              go_ret3
              exact ret3_of hfin.out rfl hb
end Go.Proofs.Ytkabkkgaalimmaa
