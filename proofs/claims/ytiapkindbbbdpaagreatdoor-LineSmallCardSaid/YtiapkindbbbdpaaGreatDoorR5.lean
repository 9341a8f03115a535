/- The contract of gaugerref25.Parse over the translation. -/
import Derived.Test.YtiapkindbbbdpaaGreatDoorR4
import Derived.Test.YtiapkindbbbdpaaGreatDoorK12
namespace Go.Proofs.YtiapkindbbbdpaaGreatDoor
open Go.RowKit

theorem tw_take (l : List UInt8) (m : Nat) (h : ∀ x ∈ l.take m, x ≠ 10) (hm : m < l.length) (hc : l.getD m 0 = 10) : l.takeWhile (· != 10) = l.take m ∧ l.dropWhile (· != 10) = l.drop m := by
  induction l generalizing m with
  | nil => simp at hm
  | cons c r ih =>
    cases m with
    | zero =>
      have hc' : c = 10 := hc
      subst hc'
      exact ⟨rfl, rfl⟩
    | succ m =>
      have hc1 : c ≠ 10 := h c (by simp)
      have := ih m (fun x hx => h x (by simp [hx])) (by simpa using hm) (by simpa using hc)
      have h2 : (c != 10) = true := by simpa using hc1
      rw [List.takeWhile_cons, List.dropWhile_cons, if_pos h2, if_pos h2, this.1, this.2]
      exact ⟨rfl, rfl⟩
theorem lines_feed (l : List UInt8) (m : Nat) (h : ∀ x ∈ l.take m, x ≠ 10) (hm : m < l.length) (hc : l.getD m 0 = 10) : linesL l = l.take m :: linesL (l.drop (m + 1)) := by
  obtain ⟨a, b⟩ := tw_take l m h hm hc
  rw [linesL_cons l (by intro e; subst e; simp at hm), a, b, List.drop_drop]
theorem lines_last (l : List UInt8) (h : ∀ x ∈ l, x ≠ 10) (hne : l ≠ []) : linesL l = [l] := by
  have h1 : ∀ x ∈ l, (x != 10) = true := fun x hx => by simpa using h x hx
  rw [linesL_cons l hne, tw_all l _ h1, dw_all l _ h1, List.drop_nil, linesL_nil]
theorem info68 : (Tryz.prog.info? 70).map (fun i => (i.zero, i.size, i.bytes)) = some (some (.agg #[.int .i64 0, .slice none 0 0]), 2, 32) := by kernel_rfl
/-- The words of lines of the reference in memory. -/
def LokR (B : Nat) (W : World) (A : List Ln) : Prop := ∀ x ∈ A, W.ownsRow B 54 2 x.2.2 x.2.1.length (wcells x.2.1)
theorem LokR.on {B : Nat} {W W' : World} {A : List Ln} (h : LokR B W A) (hb : Below W.heap.size W W') : LokR B W' A := fun x hx => owns_on (h x hx) hb
/-- What a round that appends a line leaves of the words. -/
theorem lokR_app {B : Nat} {W w' : World} {A : List Ln} {v : Value} {n : Nat} {xs : List Value} (h : LokR B W A) (hv : W.ownsRow B 70 2 v n xs) (hr : ∀ row, v.ownBlock ≠ some row → row < W.heap.size → w'.heap[row]? = W.heap[row]?) : LokR B w' A := by
  intro x hx
  refine owns_heap (h x hx) fun g cur hg _ _ => hr g ?_ (Array.getElem?_eq_some_iff.1 hg).1
  intro e
  rcases hv.2 with ⟨rfl, _⟩ | ⟨g', cap, cur', rfl, _, h3, _⟩
  · simp [Value.ownBlock] at e
  · simp [Value.ownBlock] at e
    subst e
    rw [hg] at h3
    simp at h3
theorem lcells_snoc (A : List Ln) (n : Nat) (ws : List Wd) (v : Value) : lcells (A ++ [(n, ws, v)]) = lcells A ++ #[Value.int .i64 n, v].toList := by simp [lcells]
/-- A slice of lines of the reference. -/
def LRowR (W : World) (v : Value) (ls : List (Nat × List Wd)) : Prop := ∃ (B : Nat) (A : List Ln), ofA A = ls ∧ LokR B W A ∧ W.ownsRow B 70 2 v A.length (lcells A)
theorem rsplit_to (s : ByteArray) (hs : s.size ≤ 65536) (e : Int) (ws : List Wd) (h : splitF s.data.toList = (e, ws)) (w : World) :
    Calls Tryz.prog 24 #[.string s] w fun x w' => (∃ v, x = .returned (.tuple #[v, .int .i64 e]) ∧ w'.ownsRow w.heap.size 54 2 v ws.length (wcells ws)) ∧ Below w.heap.size w w' :=
  rsplit_any s e ws h w (by omega)
/-- What Parse of the reference returns. -/
def PRet (e : Int) (n : Nat) (ls : List (Nat × List Wd)) (w : World) (x : Ending) (w' : World) : Prop := (∃ v, x = .returned (.tuple #[v, .int .i64 n, .int .i64 e]) ∧ LRowR w' v ls) ∧ Below w.heap.size w w'
theorem lRowR_nil (W : World) : LRowR W (.slice none 0 0) [] := ⟨0, [], rfl, (fun x hx => by cases hx), ⟨rfl, .inl ⟨rfl, rfl⟩⟩⟩
set_option maxRecDepth 100000 in
set_option maxHeartbeats 4000000 in
theorem rparse_any (s : ByteArray) (hs0 : s.size ≤ 4611686018427387904) (e : Int) (n : Nat) (ls : List (Nat × List Wd)) (h : parseF s.data.toList = (e, n, ls)) (w : World) :
    Calls Tryz.prog 25 #[.string s] w (PRet e n ls w) := by
  have hz : Hid (s.data.toList.length = s.size) := by show _ = _; simp
  unfold parseF at h
  rw [hz.out] at h
  by_cases hl : 65536 < s.size
  · rw [if_pos hl] at h
    simp only [Prod.mk.injEq] at h
    obtain ⟨rfl, rfl, rfl⟩ := h
    have t1 : decide (65536 < (s.size : Int)) = true := decide_eq_true (by omega)
    go_enter Tryz.func25, Tryz.ntmps25
    go_wp2_with fail
    go_ret3
    exact ⟨⟨_, rfl, lRowR_nil _⟩, Below.refl _ _⟩
  · rw [if_neg hl] at h
    have t0 : decide (65536 < (s.size : Int)) = false := decide_eq_false (by omega)
    replace h := Lib.hid h
    go_enter Tryz.func25, Tryz.ntmps25
    go_wp2_with fail
    clear t0
    go_loopg [5, 6, 7, 8] (s.size + 2) (fun g s5 s6 s7 s8 wx => ∃ (fr k i : Nat) (A : List Ln), i + g = s.size + 2 ∧ s6 = .int .i64 fr ∧ s7 = .int .i64 k ∧ s8 = .int .i64 i ∧ i ≤ s.size + 1 ∧ fr ≤ i ∧ k ≤ i ∧ A.length ≤ k ∧ (i = s.size + 1 → s.size ≤ fr) ∧ Hid (∀ x ∈ (s.data.toList.drop fr).take (i - fr), x ≠ 10) ∧ Hid (parseN (linesL (s.data.toList.drop fr)) k (ofA A) = (e, n, ls)) ∧ Hid (LokR w.heap.size wx A) ∧ Hid (wx.ownsRow w.heap.size 70 2 s5 A.length (lcells A)) ∧ Hid (Below w.heap.size w wx))
    case atStart => exact ⟨0, 0, 0, [], by omega, rfl, rfl, rfl, by omega, by omega, by omega, by simp, by omega, Lib.hid (by simp), h, Lib.hid (fun x hx => by cases hx), Lib.hid ⟨rfl, .inl ⟨rfl, rfl⟩⟩, Lib.hid (Below.refl _ _)⟩
    case round =>
      clear h
      obtain ⟨fr, k, i, A, hg, rfl, rfl, rfl, hi, hfi, hki, hAk, hend, hN, hP, hL, I, B⟩ := hrel
      by_cases hle : i ≤ s.size
      · have t1 : decide (i ≤ s.size) = true := decide_eq_true hle
        obtain ⟨a5, c5, rfl⟩ := own_shape I.out
        clear hend
        obtain ⟨go, hgo⟩ : ∃ go : Bool, Hid (go = ((decide (i < s.size) && (s.data.toList.getD i 0 != 10)) || (decide (i = s.size) && decide (fr = i)))) := ⟨_, Lib.hid rfl⟩
        go_upto_region 8 with (fail)
        go_cut [40] from 18 to 65 (fun s40 wx => s40 = .bool go ∧ wr = wx)
        case first =>
          by_cases hlt : i < s.size
          · have t2 : decide (i < s.size) = true := decide_eq_true hlt
            have t3 : ((i : Int) == (s.size : Int)) = false := by simp; omega
            obtain ⟨c, hc, hB⟩ := byt_u s i hlt
            have h1 := hgo.out
            rw [t2, decide_eq_false (p := i = s.size) (by omega), hc.out, Bool.true_and, Bool.false_and, Bool.or_false] at h1
            by_cases hc10 : c = 10
            · subst hc10
              obtain rfl : go = false := by rw [h1]; rfl
              rw [show (((10 : UInt8).toNat : Int)) = 10 from rfl] at hB
              clear h1 hgo hc hN
              go_wp2_with fail
              go_meet
              exact ⟨rfl, rfl⟩
            · obtain rfl : go = true := by rw [h1]; simpa using hc10
              have s1' : ((c.toNat : Int) == 10) = false := ne_byt c 10 _ rfl hc10
              have s1 : ((c.toNat : Int) != 10) = true := by rw [bne, s1']; rfl
              clear h1 hgo hc s1' hN
              go_wp2_with fail
              go_meet
              exact ⟨rfl, rfl⟩
          · have t2 : decide (i < s.size) = false := decide_eq_false hlt
            obtain rfl : i = s.size := by omega
            have h1 := hgo.out
            rw [t2, Bool.false_and, Bool.false_or, decide_eq_true rfl, Bool.true_and] at h1
            by_cases hf : fr = s.size
            · obtain rfl : go = true := by rw [h1, decide_eq_true hf]
              have t4 : ((fr : Int) == (s.size : Int)) = true := by simp [hf]
              clear h1 hgo hN
              go_wp2_with fail
              go_meet
              exact ⟨rfl, rfl⟩
            · obtain rfl : go = false := by rw [h1, decide_eq_false hf]
              have t4 : ((fr : Int) == (s.size : Int)) = false := by simp; omega
              clear h1 hgo hN
              go_wp2_with fail
              go_meet
              exact ⟨rfl, rfl⟩
        case rest =>
          obtain ⟨rfl, rfl⟩ := hcut
          cases go with
          | true =>
            have hN2 : Hid ((∀ x ∈ (s.data.toList.drop fr).take (i + 1 - fr), x ≠ 10) ∧ (i = s.size → s.size ≤ fr)) := by
              have h1 := hgo.out.symm
              rw [Bool.or_eq_true, Bool.and_eq_true, Bool.and_eq_true, decide_eq_true_eq, decide_eq_true_eq, decide_eq_true_eq] at h1
              rcases h1 with ⟨a, b⟩ | ⟨a, b⟩
              · refine ⟨fun x hx => ?_, fun h => by omega⟩
                rw [show i + 1 - fr = i - fr + 1 by omega, List.take_add_one, List.mem_append] at hx
                rcases hx with hx | hx
                · exact hN.out x hx
                · rw [List.getElem?_drop, Nat.add_sub_cancel' hfi, List.getElem?_eq_getElem (by rw [hz.out]; exact a)] at hx
                  simp only [Option.toList_some, List.mem_singleton] at hx
                  rw [List.getD_eq_getElem?_getD, List.getElem?_eq_getElem (by rw [hz.out]; exact a), Option.getD_some] at b
                  rw [hx]
                  simpa using b
              · refine ⟨fun x hx => ?_, fun _ => by omega⟩
                rw [List.drop_of_length_le (by rw [hz.out]; omega)] at hx
                simp at hx
            clear hgo hN
            go_wp2_with fail
            go_roundg (gk - 1)
            case measure => omega
            case rel => exact ⟨fr, k, i + 1, A, by omega, rfl, rfl, by go_num, by omega, by omega, by omega, by omega, fun h => hN2.out.2 (by omega), Lib.hid hN2.out.1, hP, hL, I, B⟩
          | false =>
            obtain ⟨ln, hln⟩ : ∃ ln, Hid ((s.data.toList.drop fr).take (i - fr) = ln) := ⟨_, Lib.hid rfl⟩
            have hlines : Hid (linesL (s.data.toList.drop fr) = ln :: linesL (s.data.toList.drop (i + 1))) := by
              have h1 := hgo.out.symm
              rw [Bool.or_eq_false_iff, Bool.and_eq_false_iff, Bool.and_eq_false_iff, decide_eq_false_iff_not, decide_eq_false_iff_not, decide_eq_false_iff_not] at h1
              show _ = _
              by_cases hlt : i < s.size
              · have hc : s.data.toList.getD i 0 = 10 := by
                  rcases h1.1 with a | a
                  · exact absurd hlt a
                  · simpa using a
                rw [lines_feed _ (i - fr) hN.out (by rw [List.length_drop, hz.out]; omega) (by rw [List.getD_eq_getElem?_getD, List.getElem?_drop, Nat.add_sub_cancel' hfi, ← List.getD_eq_getElem?_getD]; exact hc), hln.out, List.drop_drop, show fr + (i - fr + 1) = i + 1 by omega]
              · obtain rfl : i = s.size := by omega
                have hfn : fr ≠ s.size := by
                  rcases h1.2 with a | a
                  · exact absurd rfl a
                  · exact a
                have hall : (s.data.toList.drop fr).take (s.size - fr) = s.data.toList.drop fr := List.take_of_length_le (by rw [List.length_drop, hz.out]; omega)
                have hN' := hN.out
                rw [hall] at hN'
                rw [lines_last _ hN' (fun h => by have := congrArg List.length h; rw [List.length_drop, hz.out] at this; simp at this; omega), List.drop_of_length_le (i := s.size + 1) (by rw [hz.out]; omega), linesL_nil, ← hln.out, hall]
            obtain ⟨u, hu⟩ : ∃ u, Hid (s.extract fr i = u) := ⟨_, Lib.hid rfl⟩
            have hud : Hid (u.data.toList = ln) := by show _ = _; rw [← hu.out, ba_drop_take]; exact hln.out
            have huz : u.size ≤ 65536 := by rw [← hu.out, ByteArray.size_extract]; omega
            obtain ⟨e2, ws, hsp⟩ : ∃ e2 ws, Hid (splitF ln = (e2, ws)) := ⟨_, _, Lib.hid rfl⟩
            have hcall := Lib.hid (fun W => rsplit_to u huz e2 ws (by rw [hud.out]; exact hsp.out) W)
            have hP' := hP.out
            rw [hlines.out, parseN, hsp.out] at hP'
            simp only at hP'
            replace hP' := Lib.hid hP'
            have v1 : decide ((fr : Int) ≤ (i : Int)) = true := decide_eq_true (by omega)
            have v2 : decide (fr ≤ i) = true := decide_eq_true (by omega)
            have hBs := B.out.size
            clear hP hlines hN hgo hln hud hsp
            go_upto_region 10 with (fail)
            have hu' := hu.out
            go_wp2_with fail
            refine (hcall.out _).mono ?_; rintro x w2 ⟨⟨vv, rfl, hvv⟩, hb⟩
            obtain ⟨av, cv, rfl⟩ := own_shape hvv
            replace hvv := Lib.hid (owns_mono hvv hBs)
            replace hL := Lib.hid (hL.out.on hb)
            replace I := Lib.hid (owns_on I.out hb)
            replace B := Lib.hid (B.out.trans (hb.mono B.out.size))
            clear hcall hb v1 v2 hu hu' hBs t1
            by_cases he : e2 = 0
            · subst he
              have h1 := hP'.out
              rw [if_neg (by simp)] at h1
              by_cases hws : ws = []
              · subst hws
                rw [if_pos rfl, List.append_nil] at h1
                replace h1 := Lib.hid h1
                clear hP' hvv
                go_wp2_with fail
                go_roundg (gk - 1)
                case measure => omega
                case rel => exact ⟨i + 1, k + 1, i + 1, A, by omega, by go_num, by go_num, by go_num, by omega, by omega, by omega, by omega, by omega, Lib.hid (by simp), h1, hL, I, B⟩
              · rw [if_neg hws] at h1
                replace h1 := Lib.hid h1
                have hwl : 0 < ws.length := List.length_pos_iff.2 hws
                have t3 : decide (0 < (ws.length : Int)) = true := decide_eq_true (by omega)
                have hBs := B.out.size
                clear hP'
                go_wp2_with (at_builtin; go_must (refine app_el rfl (.tmp 58) (.tmp 62) 65 rfl 2 #[.int .i64 ((k : Int) + 1), .slice av ws.length cv] rfl (by decide) w.heap.size (.agg #[.int .i64 0, .slice none 0 0]) 32 Tryz.underlying65 info68 rfl _ A.length (lcells A) rfl rfl I.out (by intro u hu; simp at hu; rcases hu with rfl | rfl <;> rfl) (by decide) (by omega) hBs ?_); rintro v2 w5 hown2' hb5 _ hrows _; have hown2 := Lib.hid hown2'; have hrow2 := Lib.hid hrows; clear hown2' hrows)
                go_roundg (gk - 1)
                case measure => omega
                case rel =>
                  refine ⟨i + 1, k + 1, i + 1, A ++ [(k + 1, ws, .slice av ws.length cv)], by omega, by go_num, by go_num, by go_num, by omega, by omega, by omega, by simp; omega, by omega, Lib.hid (by simp), Lib.hid ?_, Lib.hid (lokR_app ?_ I.out hrow2.out), Lib.hid ?_, Lib.hid (B.out.trans hb5)⟩
                  · rw [show ofA (A ++ [(k + 1, ws, Value.slice av ws.length cv)]) = ofA A ++ [(k + 1, ws)] by simp [ofA]]
                    exact h1.out
                  · intro x hx
                    rw [List.mem_append, List.mem_singleton] at hx
                    rcases hx with hx | rfl
                    · exact hL.out x hx
                    · exact hvv.out
                  · have := hown2.out
                    rw [List.length_append, lcells_snoc]
                    exact this
            · have h1 := hP'.out
              rw [if_pos he] at h1
              simp only [Prod.mk.injEq] at h1
              obtain ⟨rfl, rfl, rfl⟩ := h1
              have t3 : (e2 != 0) = true := by simpa using he
              clear hP' hvv hL I he
              go_wp2_with fail
              go_ret3
              exact ⟨⟨_, rfl, lRowR_nil _⟩, B.out⟩
      · obtain rfl : i = s.size + 1 := by omega
        have t1 : decide (s.size + 1 ≤ s.size) = false := decide_eq_false (by omega)
        have h1 := hP.out
        rw [List.drop_of_length_le (by rw [hz.out]; omega), linesL_nil, parseN] at h1
        simp only [Prod.mk.injEq] at h1
        obtain ⟨rfl, rfl, rfl⟩ := h1
        obtain ⟨a5, c5, rfl⟩ := own_shape I.out
        clear hP hN hend
        go_wp2_with fail
        go_ret3
        exact ⟨⟨_, rfl, w.heap.size, A, rfl, hL.out, I.out⟩, B.out⟩
end Go.Proofs.YtiapkindbbbdpaaGreatDoor
