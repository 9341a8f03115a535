/- The walk of the law LineNumbers. -/
import Derived.Test.YtiapkindbbbdpaaGreatDoorK20
namespace Go.Proofs.YtiapkindbbbdpaaGreatDoor
open Go.RowKit

set_option maxRecDepth 100000 in
set_option maxHeartbeats 2000000 in
theorem numbers_any (s : ByteArray) (n least most : Int) (h0 : -9223372036854775808 ≤ n) (h1 : n ≤ 9223372036854775807) (w : World) (hG : Glb w) :
    Calls Tryz.prog 8 #[.string s, .int .i64 n, .int .i64 least, .int .i64 most] w fun e w' => e = .returned (.bool true) ∧ Below w.heap.size w w' := by
  replace hG := Lib.hid (fun (W : World) (h : Below w.heap.size w W) => hG.on h)
  by_cases h100 : 100 < s.size
  · have t1 : decide (100 < (s.size : Int)) = true := decide_eq_true (by omega)
    go_enter Tryz.func8, Tryz.ntmps8
    go_wp2_with fail
    go_ret
    exact ⟨rfl, Below.refl _ _⟩
  · have t1 : decide (100 < (s.size : Int)) = false := decide_eq_false (by omega)
    obtain ⟨t, ht⟩ : ∃ t : ByteArray, Hid (t = ⟨(Lib.itoa n).toArray⟩) := ⟨_, Lib.hid rfl⟩
    have htz : t.size ≤ 100 := by
      rw [ht.out, ba_size]
      have := itoa_len n h0 h1
      omega
    go_enter Tryz.func8, Tryz.ntmps8
    go_wp2_with fail
    refine (rdec_any n h0 h1 t ht.out w).mono ?_; rintro y w1 ⟨rfl, rfl⟩
    go_wp2_with fail
    refine (decimal_any n h0 h1 t ht.out w (hG.out _ (Below.refl _ _))).mono ?_; rintro y w1 ⟨rfl, hb⟩
    have hB1 := Lib.hid hb
    clear hb ht t1
    have q1 : (t.toList != t.toList) = false := by simp
    go_wp2_with fail
    clear q1
    have hB2 := Lib.hid (hB1.out.alloc hB1.out.size (.cells #[.string s, .string t] 9))
    obtain ⟨N, hN⟩ : ∃ N, Hid (w1.heap.size = N) := ⟨_, Lib.hid rfl⟩
    have hc0 : Hid (∃ S : Nat → ByteArray, (∀ k, (S k).size ≤ 100) ∧ ∀ k, k < 2 → (w1.alloc (.cells #[.string s, .string t] 9)).cell? ⟨N, k, none⟩ = some (.string (S k))) := by
      refine ⟨fun k => if k = 0 then s else t, fun k => by by_cases e : k = 0 <;> simp [e] <;> omega, fun k hk => ?_⟩
      rw [← hN.out, Lib.cell_of_heap (World.alloc_heap_new _ _)]
      match k, hk with
      | 0, _ => rfl
      | 1, _ => rfl
    have hlt : Hid (N < (w1.alloc (.cells #[.string s, .string t] 9)).heap.size) := by show _ < _; rw [← hN.out]; simp
    obtain ⟨S, hS, hS2⟩ := hc0.out
    replace hS := Lib.hid hS
    replace hS2 := Lib.hid hS2
    rw [hN.out]
    generalize w1.alloc (.cells #[.string s, .string t] 9) = w2 at hB2 hS2 hlt hc0 ⊢
    clear hc0 hB1 htz h100 hN
    go_loopg [29] 3 (fun g s29 wx => ∃ k : Nat, k ≤ 2 ∧ 2 - k < g ∧ s29 = .int .i64 k ∧ Hid (Below w.heap.size w wx) ∧ Hid (Below w2.heap.size w2 wx))
    case atStart => exact ⟨0, by omega, by omega, rfl, hB2, Lib.hid (Below.refl _ _)⟩
    case round =>
      obtain ⟨k, hk, hkg, rfl, hB, hB3⟩ := hrel
      rcases Nat.lt_or_ge k 2 with h2 | h2
      · have hcell := (hB3.out.cell (p := ⟨N, k, none⟩) hlt.out).trans (hS2.out k h2)
        have hsz := hS.out k
        obtain ⟨u, hu⟩ : ∃ u, S k = u := ⟨_, rfl⟩
        rw [hu] at hcell hsz
        obtain ⟨x, e, hnum⟩ : ∃ x e, Hid (numF u.data.toList least most = (x, e)) := ⟨_, _, Lib.hid rfl⟩
        have tk : decide ((k : Int) < 2) = true := decide_eq_true (by omega)
        clear hu
        go_wp2_with fail
        refine (number_to u (by omega) least most x e hnum.out _ (hG.out _ hB.out)).mono ?_; rintro y w3 ⟨rfl, hb⟩
        replace hB3 := Lib.hid (hB3.out.trans (hb.mono hB3.out.size))
        replace hB := Lib.hid (hB.out.trans (hb.mono hB.out.size))
        clear hb hcell
        go_wp2_with fail
        refine (rnum_to u hsz least most x e hnum.out _).mono ?_; rintro y w4 ⟨rfl, rfl⟩
        clear hnum
        go_wp2_with fail
        go_roundg (gk - 1)
        case measure => omega
        case rel => exact ⟨k + 1, by omega, by omega, by go_num, hB, hB3⟩
      · obtain rfl : k = 2 := by omega
        go_wp2_with fail
        go_ret
        exact ⟨rfl, hB.out⟩
end Go.Proofs.YtiapkindbbbdpaaGreatDoor
