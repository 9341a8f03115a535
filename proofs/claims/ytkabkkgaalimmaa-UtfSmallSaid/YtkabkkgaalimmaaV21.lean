/- The contracts of gaugerkit.KeptInts, and of texts; the walk of the law UtfTexts. -/
import Derived.Test.YtkabkkgaalimmaaV20
import Derived.Test.YtkabkkgaalimmaaUL2
namespace Go.Proofs.Ytkabkkgaalimmaa
open Go.RowKit Go.Shelf

theorem mark_q (i : Int) (h0 : 0 ≤ i) (h1 : i < 4611686018427387904) (w : World) : Calls Try.prog 50 #[.int .i64 1, .int .i64 i] w fun e w' => e = .returned (.int .i64 (8000024 + i)) ∧ w' = w :=
  (mark_any i h0 h1 w).mono fun _ _ ⟨a, b⟩ => ⟨a, b.symm⟩
set_option maxRecDepth 100000 in
set_option maxHeartbeats 2000000 in
theorem kept_any (u v : Value) (L : List Int) (w : World) (hu : Lent w u L) (hv : Row w v (L.map (Value.int .i64))) (hlen : L.length ≤ 1000) :
    Calls Try.prog 40 #[u, v] w fun e w' => e = .returned (.bool true) ∧ ∃ n, w' = w.drewN n := by
  obtain ⟨av, cv, hv'⟩ := row_slice hv
  rw [List.length_map] at hv'
  subst hv'
  obtain ⟨b, cap, rfl, _, h1, h2, hc⟩ := hu
  unfold maxLen at h2
  replace hc := Lib.hid hc
  replace hv := Lib.hid hv
  have t0 : ((L.length : Int) != (L.length : Int)) = false := by simp
  go_enter Try.func40, Try.ntmps40
  go_wp2_with fail
  go_loopw [6] (fun i wr => ∃ k n : Nat, k ≤ L.length + 12 ∧ i = .int .i64 k ∧ wr = w.drewN n) (fun i _ => L.length + 12 - (intOf i).toNat)
  case atStart => exact ⟨0, 0, by omega, rfl, rfl⟩
  case round =>
    obtain ⟨k, n, hk, rfl, rfl⟩ := hrel
    by_cases hlt : k < L.length + 12
    · have t1 : decide ((k : Int) < (L.length : Int) + 12) = true := decide_eq_true (by omega)
      by_cases hl : k < L.length
      · have e1 := hc.out k hlt
        rw [lentL_lo L 12 k hl] at e1
        obtain ⟨b2, off2, rfl, _, hc2⟩ := row_cells hv.out (by rw [List.length_map]; omega)
        have e2 := hc2 k (by simpa using hl)
        simp only [List.getElem_map, Option.map_some] at e1 e2
        generalize L[k] = x at e1 e2
        clear hc2
        have t2 : decide (k < L.length) = true := decide_eq_true (by omega)
        have t3 : decide (L.length ≤ k) = false := decide_eq_false (by omega)
        go_wp2_with fail
        go_quiet (fail)
        go_wp2_with fail
        go_roundw
        case rel => exact ⟨k + 1, _, by omega, by go_num, rfl⟩
        case measure => simp [intOf]; omega
      · have e1 : w.cell? ⟨b, k, none⟩ = some (.int .i64 (8000024 + ((k : Int) - L.length))) := by
          obtain ⟨j, rfl⟩ : ∃ j, k = L.length + j := ⟨k - L.length, by omega⟩
          rw [hc.out _ hlt, lentL_hi L 12 j (by omega), Option.map_some]
          congr 2
          omega
        have t2 : decide (k < L.length) = false := decide_eq_false (by omega)
        have t3 : decide (L.length ≤ k) = true := decide_eq_true (by omega)
        have hm := Lib.hid (fun w => mark_q ((k : Int) - (L.length : Int)) (by omega) (by omega) w)
        have g1 : k + 1 ≤ L.length + 12 := by omega
        have g2 : L.length + 12 - (k + 1) < L.length + 12 - k := by omega
        have s1 : IntKind.i64.wrap ((k : Int) - (L.length : Int)) = (k : Int) - (L.length : Int) := by rw [IntKind.wrap_i64]; omega
        go_wp2_with fail
        go_quiet ((go_at_call 50; exact (hm.out _).mono fun _ _ he => ⟨he.1, _, he.2⟩))
        clear s1
        go_wp2_with fail
        go_roundw
        case rel => exact ⟨k + 1, _, g1, by go_num, rfl⟩
        case measure => simp [intOf]; omega
    · obtain rfl : k = L.length + 12 := by omega
      go_wp2_with fail
      go_ret
      exact ⟨rfl, n, rfl⟩

theorem texts_to (v : Value) (L : List Int) (w : World) (hL : Row w v (L.map (Value.int .i64))) (hlen : L.length ≤ 1048576) (t : ByteArray) (e : Int) (h : txR L = (t, e)) :
    Calls Try.prog 20 #[v] w fun e' w' => e' = .returned (.tuple #[.string t, .int .i64 e]) ∧ Below w.heap.size w w' := by
  have := text_any v L w hL hlen; rw [h] at this; exact this
theorem rtext_to (v : Value) (L : List Int) (w : World) (hL : Row w v (L.map (Value.int .i64))) (hlen : L.length ≤ 1048576) (t : ByteArray) (e : Int) (h : txR L = (t, e)) :
    Calls Try.prog 33 #[v] w fun e' w' => e' = .returned (.tuple #[.string t, .int .i64 e]) ∧ Below w.heap.size w w' := by
  have := rtext_any v L w hL hlen; rw [h] at this; exact this
set_option maxRecDepth 100000 in
set_option maxHeartbeats 1000000 in
theorem texts_any (v : Value) (L : List Int) (w : World) (hL : Row w v (L.map (Value.int .i64))) :
    Calls Try.prog 18 #[v] w fun e w' => e = .returned (.bool true) ∧ Below w.heap.size w w' := by
  obtain ⟨av, cv, hv'⟩ := row_slice hL
  rw [List.length_map] at hv'
  subst hv'
  have HL := Lib.hid hL
  clear hL
  by_cases hlen : L.length ≤ 1000
  · obtain ⟨t, e0, hte⟩ : ∃ t e, Hid (txR L = (t, e)) := ⟨(txR L).1, (txR L).2, rfl⟩
    have t1 : decide ((1000 : Int) < L.length) = false := decide_eq_false (by omega)
    go_enter Try.func18, Try.ntmps18
    go_wp2_with fail
    refine (lent_any _ L _ HL.out hlen _ _ _ rfl rfl).mono ?_; rintro e w1 ⟨⟨v1, rfl, hl1⟩, hb1⟩
    replace hl1 := Lib.hid hl1
    go_wp2_with fail
    refine (texts_to _ L _ hl1.out.row (by omega) t e0 hte.out).mono ?_; rintro e w2 ⟨rfl, hb2⟩
    replace hl1 := Lib.hid (hl1.out.on hb2)
    replace hb1 := on_trans hb1 hb2
    clear hb2
    go_wp2_with fail
    refine (rtext_to _ L _ (HL.out.on hb1) (by omega) t e0 hte.out).mono ?_; rintro e w3 ⟨rfl, hb2⟩
    replace hl1 := Lib.hid (hl1.out.on hb2)
    replace hb1 := on_trans hb1 hb2
    clear hb2
    go_wp2_with fail
    refine (kept_any _ _ L _ hl1.out (HL.out.on hb1) hlen).mono ?_; rintro e w4 ⟨rfl, n, rfl⟩
    go_wp2_with fail
    go_ret
    exact ⟨rfl, below_drewN hb1 n⟩
  · have t1 : decide ((1000 : Int) < L.length) = true := decide_eq_true (by omega)
    go_enter Try.func18, Try.ntmps18
    go_wp2_with fail
    go_ret
    exact ⟨rfl, Below.refl _ _⟩

theorem IsRow.row64 {w : World} {a : Option Addr} {len cap : Nat} {zs : List Int} (h : IsRow .i64 w a len cap zs) : Row w (.slice a len cap) ((zs.take len).map (Value.int .i64)) ∧ (zs.take len).length = len ∧ len ≤ maxLen := by
  rcases h with ⟨rfl, rfl, rfl, rfl⟩ | ⟨⟨b, off, spot⟩, rfl, h1, h2, h3, hc, hz⟩
  · exact ⟨.inl ⟨none, 0, fun _ => rfl, rfl, rfl⟩, rfl, by decide⟩
  · refine ⟨?_, by rw [List.length_take]; omega, by omega⟩
    by_cases h0 : len = 0
    · subst h0
      exact .inl ⟨_, cap, (fun h => by cases h), rfl, by simp⟩
    · have hs0 := hc 0 (by omega)
      have hspot : spot = none := by simpa [Addr.add] using World.cell?_spot hs0
      subst hspot
      have hl : ((zs.take len).map (Value.int .i64)).length = len := by simp; omega
      refine .inr ⟨b, off, cap, by rw [hl], ?_, by omega, h2, fun i hi => ?_⟩
      · obtain ⟨o, ho, _⟩ := cells_of_cell hs0
        have := (Array.getElem?_eq_some_iff.1 ho).1
        simpa [Addr.add] using this
      · have hi' : i < zs.length := by rw [hl] at hi; omega
        have := hc i hi'
        rw [show (⟨b, off, none⟩ : Addr).add i = ⟨b, off + i, none⟩ by simp [Addr.add]] at this
        rw [this, List.getD_eq_getElem?_getD, List.getElem?_eq_getElem hi', Option.getD_some]
        simp

set_option maxHeartbeats 400000 in
theorem utfTexts_walk (a0 : Option Addr) (len0 cap0 : Nat) (z0 : List Int) (w : World) (w0 : IsRow .i64 w a0 len0 cap0 z0) :
    Calls Try.prog 5 #[.slice a0 len0 cap0] w fun e w' => e = .returned (.bool true) ∧ Below w.heap.size w w' := by
  obtain ⟨hr, hl, hm⟩ := w0.row64
  replace hr := Lib.hid hr
  clear w0 hl hm
  go_enter Try.func5, Try.ntmps5
  go_wp2_with fail
  refine (texts_any _ _ _ hr.out).mono ?_; rintro e w3 ⟨rfl, hb⟩
  go_wp2_with fail
  refine (awake_any _).mono ?_; rintro e w4 ⟨rfl, h3⟩; replace hb := on_trans hb h3; clear h3
  go_wp2_with fail
  go_ret
  exact ⟨rfl, hb⟩
end Go.Proofs.Ytkabkkgaalimmaa
