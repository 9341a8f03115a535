/- The walk of the law UtfOrder. -/
import Derived.Test.YtkabkkgaalimmaaUP2
namespace Go.Proofs.Ytkabkkgaalimmaa
open Go.RowKit Go.Shelf

theorem sameInts_to (u v : Value) (L M : List Int) (b : Bool) (hb : decide (L = M) = b) (w : World) (hu : Row w u (L.map (Value.int .i64))) (hv : Row w v (M.map (Value.int .i64))) (hlen : L.length ≤ 4611686018427387904) :
    Calls Try.prog 21 #[u, v] w fun e w' => e = .returned (.bool b) ∧ ∃ n, w' = w.drewN n := by
  rw [← hb]; exact sameInts_any u v L M w hu hv hlen

set_option maxRecDepth 100000 in
set_option maxHeartbeats 2000000 in
theorem utfOrder_core (va vb : Value) (w : World) (ha : In32 w va) (hb : In32 w vb) :
    Calls Try.prog 6 #[va, vb] w fun e w' => e = .returned (.bool true) ∧ Below w.heap.size w w' := by
  replace ha := Lib.hid ha
  replace hb := Lib.hid hb
  go_enter Try.func6, Try.ntmps6
  go_wp2_with fail
  refine (awake_any _).mono ?_; rintro e w1 ⟨rfl, hB⟩
  go_wp2_with fail
  refine (made_any va _ (ha.out.on hB)).mono ?_; rintro e w2 ⟨⟨v1, p, rfl, hp⟩, hB2⟩
  replace hp := Lib.hid hp
  replace hB := on_trans hB hB2; clear hB2
  go_wp2_with fail
  refine (made_any vb _ (hb.out.on hB)).mono ?_; rintro e w3 ⟨⟨v2, q, rfl, hq⟩, hB2⟩
  replace hq := Lib.hid hq
  replace hp := Lib.hid (hp.out.on hB2)
  replace hB := on_trans hB hB2; clear hB2
  go_wp2_with fail
  refine (text_of v1 p _ hp.out).mono ?_; rintro e w4 ⟨rfl, hB2⟩
  replace hq := Lib.hid (hq.out.on hB2)
  replace hp := Lib.hid (hp.out.on hB2)
  replace hB := on_trans hB hB2; clear hB2
  go_wp2_with fail
  refine (text_of v2 q _ hq.out).mono ?_; rintro e w5 ⟨rfl, hB2⟩
  replace hq := Lib.hid (hq.out.on hB2)
  replace hp := Lib.hid (hp.out.on hB2)
  replace hB := on_trans hB hB2; clear hB2 ha hb
  have lp := hp.out.2.2
  have lq := hq.out.2.2
  obtain ⟨R, hR⟩ : ∃ R, Hid (decide (p = q) = R) := ⟨_, rfl⟩
  have hst : ((strOf p).toList == (strOf q).toList) = R := by rw [str_eq p q hp.out.2.1 hq.out.2.1 lp lq, hR.out]
  obtain ⟨S, hS⟩ : ∃ S, Hid (lessL p q = S) := ⟨_, rfl⟩
  have hsl : Op.bytesLess (strOf p).toList (strOf q).toList = S := by rw [str_less p q hp.out.2.1 hq.out.2.1, hS.out]
  obtain ⟨a1, c1, hv1⟩ := row_slice hp.out.1
  rw [List.length_map] at hv1
  subst hv1
  obtain ⟨a2, c2, hv2⟩ := row_slice hq.out.1
  rw [List.length_map] at hv2
  subst hv2
  go_wp2_with fail
  refine (sameInts_to _ _ p q R hR.out _ hp.out.1 hq.out.1 (by omega)).mono ?_; rintro e w6 ⟨rfl, n6, rfl⟩
  have hcells : Hid (∀ k (h1 : k < p.length) (h2 : k < q.length), ∃ b o b2 o2, a1 = some ⟨b, o, none⟩ ∧ a2 = some ⟨b2, o2, none⟩ ∧ w5.cell? ⟨b, o + k, none⟩ = some (.int .i64 p[k]) ∧ w5.cell? ⟨b2, o2 + k, none⟩ = some (.int .i64 q[k])) := by
    intro k h1 h2
    obtain ⟨b, o, e1, _, g1⟩ := row_cells hp.out.1 (by rw [List.length_map]; omega)
    obtain ⟨b2, o2, e2, _, g2⟩ := row_cells hq.out.1 (by rw [List.length_map]; omega)
    have g1 := g1 k (by simpa using h1)
    have g2 := g2 k (by simpa using h2)
    rw [List.getElem_map] at g1 g2
    exact ⟨b, o, b2, o2, e1, e2, g1, g2⟩
  clear hp hq hst
  rcases Nat.lt_or_ge q.length p.length with hA | hA
  all_goals
    obtain ⟨m, hm⟩ : ∃ m, Hid (m = min p.length q.length) := ⟨_, rfl⟩
    have hm1 : m ≤ p.length := by have := hm.out; omega
    have hm2 : m ≤ q.length := by have := hm.out; omega
    first | (have hA1 : ¬ p.length ≤ q.length := by omega) | skip
    go_wp2_with fail
    go_loopg [11] m (fun g s11 wr => ∃ k : Nat, k + g = m ∧ s11 = .int .i64 k ∧ Hid (p.take k = q.take k) ∧ ∃ n, wr = w5.drewN n)
    case atStart => exact ⟨0, by omega, rfl, rfl, n6, rfl⟩
    case round =>
      obtain ⟨k, hk, rfl, ht, n, rfl⟩ := hrel
      by_cases hlt : k < m
      · have h1 : k < p.length := by omega
        have h2 : k < q.length := by omega
        obtain ⟨b, o, b2, o2, rfl, rfl, e1, e2⟩ := hcells.out k h1 h2
        have t1 : decide (k < p.length) = true := decide_eq_true h1
        have t2 : decide (k < q.length) = true := decide_eq_true h2
        obtain ⟨x, hx⟩ : ∃ x, Hid (x = p[k]) := ⟨p[k], rfl⟩
        obtain ⟨y, hy⟩ : ∃ y, Hid (y = q[k]) := ⟨q[k], rfl⟩
        rw [← hx.out] at e1
        rw [← hy.out] at e2
        by_cases hxy : x = y
        · have hs : Hid (p.take (k + 1) = q.take (k + 1)) := take_eq_succ p q k h1 h2 ht.out (by rw [← hx.out, ← hy.out, hxy])
          subst hxy
          go_wp2_with fail
          go_quiet (fail)
          go_wp2_with fail
          go_roundg (m - (k + 1))
          case measure => omega
          case rel => exact ⟨k + 1, by omega, by go_num, hs, _, rfl⟩
        · have hSx : Hid (decide (x < y) = S) := by
            show _ = _
            rw [← hS.out, lessL_mid p q k ht.out h1 h2 (by rw [← hx.out, ← hy.out]; exact hxy), ← hx.out, ← hy.out]
          have t3 : (x == y) = false := by simpa using hxy
          have t4 : ((k : Int) == (p.length : Int)) = false := by simp; omega
          go_wp2_with fail
          go_quiet (fail)
          have hSx' := hSx.out
          go_wp2_with fail
          go_quiet (fail)
          go_wp2_with fail
          go_ret
          exact ⟨by simp, below_drewN hB _⟩
      · have hkm : k = m := by omega
        have hmm : m = min p.length q.length := hm.out
        rcases (show (k = p.length ∧ k < q.length) ∨ (k = p.length ∧ ¬ k < q.length) ∨ (k ≠ p.length ∧ k = q.length) by omega) with ⟨c1, c2⟩ | ⟨c1, c2⟩ | ⟨c1, c2⟩
        · first
          | (exfalso; omega)
          | (have hSx : S = true := by rw [← hS.out, lessL_end1 p q k ht.out c1 (by omega), decide_eq_true c2]
             subst hSx
             have t1 : decide (k < p.length) = false := decide_eq_false (by omega)
             have t2 : decide (k < q.length) = true := decide_eq_true c2
             have t4 : ((k : Int) == (p.length : Int)) = true := by simp; omega
             clear hmm hkm c1
             go_wp2_with fail
             go_quiet (fail)
             go_wp2_with fail
             go_ret
             exact ⟨by simp, below_drewN hB _⟩)
        · first
          | (exfalso; omega)
          | (have hSx : S = false := by rw [← hS.out, lessL_end1 p q k ht.out c1 (by omega), decide_eq_false c2]
             subst hSx
             have t1 : decide (k < p.length) = false := decide_eq_false (by omega)
             have t2 : decide (k < q.length) = false := decide_eq_false c2
             have t4 : ((k : Int) == (p.length : Int)) = true := by simp; omega
             clear hmm hkm c1
             go_wp2_with fail
             go_quiet (fail)
             go_wp2_with fail
             go_ret
             exact ⟨by simp, below_drewN hB _⟩)
        · first
          | (exfalso; omega)
          | (have hSx : S = false := by rw [← hS.out, lessL_end2 p q k ht.out c2 (by omega)]
             subst hSx
             have t1 : decide (k < p.length) = true := decide_eq_true (by omega)
             have t2 : decide (k < q.length) = false := decide_eq_false (by omega)
             have t4 : ((k : Int) == (p.length : Int)) = false := by simp; omega
             clear hmm hkm c2
             go_wp2_with fail
             go_quiet (fail)
             go_wp2_with fail
             go_ret
             exact ⟨by simp, below_drewN hB _⟩)
theorem utfOrder_walk (a0 : Option Addr) (len0 cap0 : Nat) (z0 : List Int) (a1 : Option Addr) (len1 cap1 : Nat) (z1 : List Int) (w : World) (w0 : IsRow .u32 w a0 len0 cap0 z0) (w1 : IsRow .u32 w a1 len1 cap1 z1) :
    Calls Try.prog 6 #[.slice a0 len0 cap0, .slice a1 len1 cap1] w fun e w' => e = .returned (.bool true) ∧ Below w.heap.size w w' :=
  utfOrder_core _ _ w w0.in32 w1.in32
end Go.Proofs.Ytkabkkgaalimmaa
