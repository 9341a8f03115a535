/- The contract of gaugerkit.SameInts. -/
import Derived.Test.YtkabkkgaalimmaaV19
namespace Go.Proofs.Ytkabkkgaalimmaa
open Go.RowKit Go.Shelf

theorem row_slice {w : World} {v : Value} {xs : List Value} (h : Row w v xs) : ∃ a c, v = .slice a xs.length c := by
  rcases h with ⟨a, c, _, rfl, rfl⟩ | ⟨b, off, cap, rfl, _⟩
  · exact ⟨a, c, rfl⟩
  · exact ⟨_, cap, rfl⟩
theorem row_cells {w : World} {a : Option Addr} {n c : Nat} {xs : List Value} (h : Row w (.slice a n c) xs) (hp : xs.length ≠ 0) : ∃ b off, a = some ⟨b, off, none⟩ ∧ b < w.heap.size ∧ ∀ i (hi : i < xs.length), w.cell? ⟨b, off + i, none⟩ = some xs[i] := by
  rcases h with ⟨a, c, _, _, rfl⟩ | ⟨b, off, cap, hv, h1, _, _, hc⟩
  · simp at hp
  · cases hv; exact ⟨b, off, rfl, h1, hc⟩
theorem take_eq_succ {α : Type} (L M : List α) (k : Nat) (h1 : k < L.length) (h2 : k < M.length) (h : L.take k = M.take k) (he : L[k] = M[k]) : L.take (k + 1) = M.take (k + 1) := by
  rw [take_snoc L k h1, take_snoc M k h2, h, he]

set_option maxRecDepth 100000 in
set_option maxHeartbeats 1000000 in
theorem sameInts_any (u v : Value) (L M : List Int) (w : World) (hu : Row w u (L.map (Value.int .i64))) (hv : Row w v (M.map (Value.int .i64))) (hlen : L.length ≤ 4611686018427387904) :
    Calls Try.prog 21 #[u, v] w fun e w' => e = .returned (.bool (decide (L = M))) ∧ ∃ n, w' = w.drewN n := by
  obtain ⟨au, cu, hu'⟩ := row_slice hu
  obtain ⟨av, cv, hv'⟩ := row_slice hv
  rw [List.length_map] at hu' hv'
  subst hu'
  subst hv'
  obtain ⟨R, hR⟩ : ∃ R : Bool, Hid (R = decide (L = M)) := ⟨decide (L = M), rfl⟩
  rw [← hR.out]
  by_cases hl : L.length = M.length
  · by_cases h0 : L.length = 0
    · have e1 : L = [] := List.eq_nil_of_length_eq_zero h0
      have e2 : M = [] := List.eq_nil_of_length_eq_zero (by omega)
      subst e1
      subst e2
      have hr : R = true := hR.out
      subst hr
      clear hl h0 hu hv hlen
      go_enter Try.func21, Try.ntmps21
      go_wp2_with fail
      refine wp_loop_rounds 1 ?_
      rw [rounds_succ]
      go_wp2_with fail
      go_ret
      exact ⟨rfl, 0, rfl⟩
    · obtain ⟨b, off, rfl, _, hc⟩ := row_cells hu (by simpa using h0)
      obtain ⟨b2, off2, rfl, _, hc2⟩ := row_cells hv (by rw [List.length_map]; omega)
      rw [← hl]
      replace hc := Lib.hid hc
      replace hc2 := Lib.hid hc2
      clear hu hv
      have hl' := Lib.hid hl
      clear hl
      go_enter Try.func21, Try.ntmps21
      go_wp2_with fail
      go_loopw [5] (fun i wr => ∃ k n : Nat, k ≤ L.length ∧ i = .int .i64 k ∧ wr = w.drewN n ∧ Hid (L.take k = M.take k)) (fun i _ => L.length - (intOf i).toNat)
      case atStart => exact ⟨0, 0, by omega, rfl, rfl, rfl⟩
      case round =>
        obtain ⟨k, n, hk, rfl, rfl, ht⟩ := hrel
        by_cases hlt : k < L.length
        · have hlt2 : k < M.length := by rw [← hl'.out]; exact hlt
          have e1 := hc.out k (by simpa using hlt)
          have e2 := hc2.out k (by simpa using hlt2)
          simp only [List.getElem_map] at e1 e2
          obtain ⟨x, hx⟩ : ∃ x, Hid (x = L[k]) := ⟨L[k], rfl⟩
          obtain ⟨y, hy⟩ : ∃ y, Hid (y = M[k]) := ⟨M[k], rfl⟩
          rw [← hx.out] at e1
          rw [← hy.out] at e2
          have t1 : decide ((k : Int) < L.length) = true := decide_eq_true (by omega)
          by_cases hxy : x = y
          · have hs : Hid (L.take (k + 1) = M.take (k + 1)) := take_eq_succ L M k hlt hlt2 ht.out (by rw [← hx.out, ← hy.out, hxy])
            subst hxy
            go_wp2_with fail
            go_quiet (fail)
            go_wp2_with fail
            go_roundw
            case rel => exact ⟨k + 1, _, by omega, by go_num, rfl, hs⟩
            case measure => simp [intOf]; omega
          · have hne : L ≠ M := fun e => hxy (by have h1 := hx.out; have h2 := hy.out; subst e; rw [h1, h2])
            have hd : R = false := by rw [hR.out]; exact decide_eq_false hne
            subst hd
            clear hne
            have t2 : (x != y) = true := by simpa using hxy
            go_wp2_with fail
            go_quiet (fail)
            go_wp2_with fail
            go_ret
            exact ⟨rfl, _, World.drewN_drewN ..⟩
        · obtain rfl : k = L.length := by omega
          have he : L = M := by
            have := ht.out
            rw [List.take_length] at this
            rw [this, hl'.out, List.take_length]
          have hd : R = true := by rw [hR.out]; exact decide_eq_true he
          subst hd
          clear he
          go_wp2_with fail
          go_ret
          exact ⟨rfl, n, rfl⟩
  · have hd : R = false := by rw [hR.out]; exact decide_eq_false (fun e => hl (by rw [e]))
    subst hd
    clear hu hv
    have t1 : ((L.length : Int) != (M.length : Int)) = true := by simp; omega
    go_enter Try.func21, Try.ntmps21
    go_wp2_with fail
    go_ret
    exact ⟨rfl, 0, rfl⟩
end Go.Proofs.Ytkabkkgaalimmaa
