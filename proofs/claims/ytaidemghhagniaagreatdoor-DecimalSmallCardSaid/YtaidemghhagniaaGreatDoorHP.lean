/- ParseFloat at any decimal; the texts of the laws (GC GD HT HU GE MA). -/
import Derived.Test.YtaidemghhagniaaGreatDoorXD
import Derived.Test.YtaidemghhagniaaGreatDoorDG
import Derived.Test.YtaidemghhagniaaGreatDoorHM
import Derived.Test.YtaidemghhagniaaGreatDoorHS
import Derived.Test.YtaidemghhagniaaGreatDoorHN
import Derived.Test.YtaidemghhagniaaGreatDoorFG
import Derived.Test.YtaidemghhagniaaGreatDoorXE
import Derived.Test.YtaidemghhagniaaGreatDoorXB
import Derived.Test.YtaidemghhagniaaGreatDoorX6
section
namespace Go.Proofs.YtaidemghhagniaaGreatDoor
open Go
/-- r is the rung nearest to v * 10^x. -/
def NearX (v : Nat) (x : Int) (r : Nat) : Prop := Near (v * 10 ^ x.toNat * (UU * 2)) (10 ^ (-x).toNat) r
theorem near_ex (N d : Nat) (hd : 0 < d) : ∃ r, Near N d r := by
  have key : ∀ n, (∃ r, r ≤ n ∧ (r < INF → N ≤ M r * d) ∧ (r = INF ∨ r < INF) ∧ ∀ q, q < r → M q * d < N) ∨ (∀ q, q ≤ n → q < INF ∧ M q * d < N) := by
    intro n
    induction n with
    | zero =>
      by_cases h : M 0 * d < N
      · exact .inr fun q hq => by
          have : q = 0 := by omega
          subst this; exact ⟨by unfold INF; decide, h⟩
      · exact .inl ⟨0, Nat.le_refl _, fun _ => Nat.le_of_not_lt h, .inr (by unfold INF; decide), fun q hq => absurd hq (by omega)⟩
    | succ n ih =>
      rcases ih with ⟨r, h1, h2⟩ | h
      · exact .inl ⟨r, by omega, h2⟩
      · by_cases hI : n + 1 = INF
        · exact .inl ⟨n + 1, Nat.le_refl _, fun h => by omega, .inl hI, fun q hq => (h q (by omega)).2⟩
        · have hlt : n + 1 < INF := by have := (h n (Nat.le_refl _)).1; omega
          by_cases h3 : M (n + 1) * d < N
          · exact .inr fun q hq => by
              rcases Nat.lt_or_ge n q with h4 | h4
              · have : q = n + 1 := by omega
                subst this; exact ⟨hlt, h3⟩
              · exact h q h4
          · exact .inl ⟨n + 1, Nat.le_refl _, fun _ => Nat.le_of_not_lt h3, .inr hlt, fun q hq => (h q (by omega)).2⟩
  rcases key INF with ⟨r, h1, h2, h3, h4⟩ | h
  · have hlow : 0 < r → M (r - 1) * d < N := fun h => h4 _ (by omega)
    by_cases ht : r < INF ∧ N = M r * d ∧ r % 2 = 1
    · obtain ⟨t1, t2, t3⟩ := ht
      refine ⟨r + 1, by omega, fun _ => ?_, fun _ => ?_⟩
      · have : M r * d < M (r + 1) * d := Nat.mul_lt_mul_of_pos_right (M_lt (Nat.lt_succ_self r)) hd
        exact ⟨by omega, fun e => by omega⟩
      · rw [Nat.add_sub_cancel]
        exact ⟨Nat.le_of_eq t2.symm, fun _ => by omega⟩
    · refine ⟨r, h1, fun hr => ⟨h2 hr, fun e => ?_⟩, fun h0 => ⟨Nat.le_of_lt (hlow h0), fun e => by have := hlow h0; omega⟩⟩
      by_cases h5 : r % 2 = 1
      · exact absurd ⟨hr, e, h5⟩ ht
      · omega
  · exact absurd (h INF (Nat.le_refl _)).1 (Nat.lt_irrefl _)
/-- Equal fractions have the same one. -/
theorem near_same {N1 d1 N2 d2 r : Nat} (hd1 : 0 < d1) (hd2 : 0 < d2) (e : N1 * d2 = N2 * d1) (h : Near N1 d1 r) : Near N2 d2 r :=
  near_mid hd1 hd1 hd2 (Nat.le_of_eq e) (Nat.le_of_eq e.symm) h h
theorem nx_ex (v : Nat) (x : Int) : ∃ r, NearX v x r := near_ex _ _ (p10 _)
theorem nx_eq {v : Nat} {x : Int} {r1 r2 : Nat} (h1 : NearX v x r1) (h2 : NearX v x r2) : r1 = r2 := near_eq (p10 _) h1 h2
/-- Of numbers v1 * 10^x1 and v2 * 10^x2, the exponents made alike. -/
theorem nx_cmp (v1 v2 : Nat) (x1 x2 y : Int) (h1 : y ≤ x1) (h2 : y ≤ x2) (h : v1 * 10 ^ (x1 - y).toNat ≤ v2 * 10 ^ (x2 - y).toNat) :
    v1 * 10 ^ x1.toNat * (UU * 2) * 10 ^ (-x2).toNat ≤ v2 * 10 ^ x2.toNat * (UU * 2) * 10 ^ (-x1).toNat := by
  -- both times 10^(- y), or what is left of it
  have e1 : ∀ v (x x' : Int), y ≤ x → y ≤ x' → v * 10 ^ x.toNat * (UU * 2) * 10 ^ (-x').toNat * 10 ^ y.toNat * 10 ^ 0 = v * 10 ^ x.toNat * (UU * 2) * 10 ^ (-x').toNat * 10 ^ y.toNat := fun v x x' _ _ => by rw [Nat.pow_zero, Nat.mul_one]
  have k1 : v1 * 10 ^ x1.toNat * 10 ^ (-x2).toNat ≤ v2 * 10 ^ x2.toNat * 10 ^ (-x1).toNat := by
    rcases Int.le_total 0 x1 with p1 | p1 <;> rcases Int.le_total 0 x2 with p2 | p2
    · rw [show (-x1).toNat = 0 by omega, show (-x2).toNat = 0 by omega, Nat.pow_zero, Nat.mul_one, Nat.mul_one]
      rcases Int.le_total 0 y with p3 | p3
      · have := Nat.mul_le_mul_right (10 ^ y.toNat) h
        rw [Nat.mul_assoc, Nat.mul_assoc, ← Nat.pow_add, ← Nat.pow_add, show (x1 - y).toNat + y.toNat = x1.toNat by omega, show (x2 - y).toNat + y.toNat = x2.toNat by omega] at this
        exact this
      · refine Nat.le_of_mul_le_mul_right (c := 10 ^ (-y).toNat) ?_ (p10 _)
        rw [Nat.mul_assoc, Nat.mul_assoc, ← Nat.pow_add, ← Nat.pow_add, show x1.toNat + (-y).toNat = (x1 - y).toNat by omega, show x2.toNat + (-y).toNat = (x2 - y).toNat by omega]
        exact h
    · rw [show (-x1).toNat = 0 by omega, show x2.toNat = 0 by omega, Nat.pow_zero, Nat.mul_one, Nat.mul_one]
      refine Nat.le_of_mul_le_mul_right (c := 10 ^ (x2 - y).toNat) ?_ (p10 _)
      rw [Nat.mul_assoc, Nat.mul_assoc, ← Nat.pow_add, ← Nat.pow_add, show x1.toNat + ((-x2).toNat + (x2 - y).toNat) = (x1 - y).toNat by omega]
      exact h
    · rw [show x1.toNat = 0 by omega, show (-x2).toNat = 0 by omega, Nat.pow_zero, Nat.mul_one, Nat.mul_one]
      refine Nat.le_of_mul_le_mul_right (c := 10 ^ (x1 - y).toNat) ?_ (p10 _)
      rw [Nat.mul_assoc, Nat.mul_assoc, ← Nat.pow_add, ← Nat.pow_add, show x2.toNat + ((-x1).toNat + (x1 - y).toNat) = (x2 - y).toNat by omega]
      exact h
    · rw [show x1.toNat = 0 by omega, show x2.toNat = 0 by omega, Nat.pow_zero, Nat.mul_one, Nat.mul_one]
      refine Nat.le_of_mul_le_mul_right (c := 10 ^ (-y).toNat) ?_ (p10 _)
      have a1 : 10 ^ (-x2).toNat * 10 ^ (-y).toNat = 10 ^ (x1 - y).toNat * (10 ^ (-x1).toNat * 10 ^ (-x2).toNat) := by
        rw [← Nat.pow_add, ← Nat.pow_add, ← Nat.pow_add]; congr 1; omega
      have a2 : 10 ^ (-x1).toNat * 10 ^ (-y).toNat = 10 ^ (x2 - y).toNat * (10 ^ (-x1).toNat * 10 ^ (-x2).toNat) := by
        rw [← Nat.pow_add, ← Nat.pow_add, ← Nat.pow_add]; congr 1; omega
      rw [Nat.mul_assoc, Nat.mul_assoc, a1, a2, ← Nat.mul_assoc v1, ← Nat.mul_assoc v2]
      exact Nat.mul_le_mul_right _ h
  rw [Nat.mul_right_comm, Nat.mul_right_comm (v2 * _)]
  exact Nat.mul_le_mul_right _ k1
theorem nx_le {v1 v2 : Nat} {x1 x2 y : Int} {r1 r2 : Nat} (h1 : y ≤ x1) (h2 : y ≤ x2) (h : v1 * 10 ^ (x1 - y).toNat ≤ v2 * 10 ^ (x2 - y).toNat) (n1 : NearX v1 x1 r1) (n2 : NearX v2 x2 r2) : r1 ≤ r2 :=
  near_le (p10 _) (p10 _) (nx_cmp v1 v2 x1 x2 y h1 h2 h) n1 n2
theorem nx_same {v1 v2 : Nat} {x1 x2 y : Int} {r : Nat} (h1 : y ≤ x1) (h2 : y ≤ x2) (h : v1 * 10 ^ (x1 - y).toNat = v2 * 10 ^ (x2 - y).toNat) (n1 : NearX v1 x1 r) : NearX v2 x2 r :=
  near_same (p10 _) (p10 _) (Nat.le_antisymm (nx_cmp v1 v2 x1 x2 y h1 h2 (Nat.le_of_eq h)) (nx_cmp v2 v1 x2 x1 y h2 h1 (Nat.le_of_eq h.symm))) n1
theorem nx_mid {v1 v2 v : Nat} {x1 x y : Int} {r : Nat} (h1 : y ≤ x1) (h2 : y ≤ x) (l : v1 * 10 ^ (x1 - y).toNat ≤ v * 10 ^ (x - y).toNat) (u : v * 10 ^ (x - y).toNat ≤ v2 * 10 ^ (x1 - y).toNat) (n1 : NearX v1 x1 r) (n2 : NearX v2 x1 r) : NearX v x r :=
  near_mid (p10 _) (p10 _) (p10 _) (nx_cmp v1 v x1 x y h1 h2 l) (nx_cmp v v2 x x1 y h2 h1 u) n1 n2
theorem nx_zero (x : Int) : NearX 0 x 0 := by
  unfold NearX
  rw [Nat.zero_mul, Nat.zero_mul]
  exact near_zero (Nat.zero_le _)
theorem big_lim : 18014398509481983 * U2 2045 ≤ U10 310 * (UU * 2) := by unfold U10 U2 UU; decide +kernel
theorem small_lim : UU * 2 ≤ U10 324 := by unfold U10 UU; decide +kernel
theorem u1075 : U2 1075 = UU * 2 := by unfold U2 UU; decide +kernel
/-- From 10^310 on all is infinite. -/
theorem nx_big {v : Nat} {x : Int} {k : Nat} (hv : 10 ^ k ≤ v) (h : 310 ≤ (k : Int) + x) : NearX v x INF := by
  refine near_inf ?_
  have h1 : 10 ^ k * 10 ^ x.toNat * (UU * 2) ≤ v * 10 ^ x.toNat * (UU * 2) := Nat.mul_le_mul_right _ (Nat.mul_le_mul_right _ hv)
  refine Nat.le_trans ?_ h1
  have h2 : U10 310 * 10 ^ (-x).toNat ≤ 10 ^ k * 10 ^ x.toNat := by
    rw [← U10_dbl, ← Nat.pow_add, U10_is]; exact U10_mono (by omega)
  have h3 := Nat.mul_le_mul_right (10 ^ (-x).toNat) big_lim
  refine Nat.le_trans h3 ?_
  rw [Nat.mul_right_comm]
  exact Nat.mul_le_mul_right _ h2
/-- Below 10^-324 all is nought. -/
theorem nx_small {v : Nat} {x : Int} {k : Nat} (hv : v < 10 ^ k) (h : (k : Int) + x ≤ -324) : NearX v x 0 := by
  refine near_zero ?_
  rw [show x.toNat = 0 by omega, Nat.pow_zero, Nat.mul_one]
  have h1 : v * (UU * 2) ≤ 10 ^ k * U10 324 := Nat.mul_le_mul (Nat.le_of_lt hv) small_lim
  refine Nat.le_trans h1 ?_
  rw [U10_is, U10_add, U10_is]
  exact U10_mono (by omega)
/-- What the slow way gives. -/
theorem nx_dec {g : Nat → Nat} {nd : Nat} {x : Int} {r : Nat} (hx : -2000 ≤ x) (h : Near (dec g nd (nd + (x + 2000).toNat) * U2 1075) (U10 2000) r) : NearX (num g nd) x r := by
  refine near_same (U10_p _) (p10 _) ?_ h
  unfold dec
  rw [u1075, Nat.add_sub_cancel_left]
  obtain ⟨q, hq⟩ : ∃ q, q = 2000 := ⟨_, rfl⟩
  have e : 10 ^ (x + 2000).toNat * 10 ^ (-x).toNat = 10 ^ x.toNat * U10 2000 := by
    rw [← hq, U10_is, U10_is, U10_is, U10_add, U10_add]; congr 1; omega
  calc num g nd * 10 ^ (x + 2000).toNat * (UU * 2) * 10 ^ (-x).toNat = num g nd * (UU * 2) * (10 ^ (x + 2000).toNat * 10 ^ (-x).toNat) := by simp only [Nat.mul_assoc, Nat.mul_left_comm, Nat.mul_comm]
    _ = num g nd * 10 ^ x.toNat * (UU * 2) * U10 2000 := by rw [e]; simp only [Nat.mul_assoc, Nat.mul_left_comm, Nat.mul_comm]
/-- The fast way, of at most nineteen digits. -/
theorem nx_v64 (d : Nat) (p : Int) (hd : d < 10000000000000000000) : NearX d p (v64 d p) := by
  unfold v64
  by_cases h0 : d = 0
  · rw [if_pos h0, h0]; exact nx_zero p
  · rw [if_neg h0]
    by_cases h1 : 310 < p
    · rw [if_pos h1]; exact nx_big (k := 0) (by rw [Nat.pow_zero]; omega) (by omega)
    · rw [if_neg h1]
      by_cases h2 : p < -345
      · rw [if_pos h2]; exact nx_small (k := 19) (by omega) (by omega)
      · rw [if_neg h2]; exact pf_near d p (by omega) (by omega) (by omega) (by omega)
/-- .. and of more, when one more at the end leads to the same value. -/
theorem nx_cut {v d k : Nat} {p : Int} (h0 : 0 < d) (hd : d < 10000000000000000000) (l : d * 10 ^ k ≤ v) (u : v < (d + 1) * 10 ^ k) (hsm : -345 ≤ p → p ≤ 310 → pf64 (d + 1) (p + 348).toNat = pf64 d (p + 348).toNat) : NearX v (p - k) (v64 d p) := by
  have e1 : (p - (p - k)).toNat = k := by omega
  by_cases h1 : 310 < p
  · have : v64 d p = INF := by unfold v64; rw [if_neg (by omega), if_pos h1]
    rw [this]
    exact nx_big (k := k) (Nat.le_trans (Nat.le_mul_of_pos_left _ h0) l) (by omega)
  · by_cases h2 : p < -345
    · have : v64 d p = 0 := by unfold v64; rw [if_neg (by omega), if_neg h1, if_pos h2]
      rw [this]
      refine nx_small (k := 19 + k) (Nat.lt_of_lt_of_le u ?_) (by omega)
      rw [Nat.pow_add]
      exact Nat.mul_le_mul_right _ (by omega)
    · have n1 := nx_v64 d p hd
      have n2 : NearX (d + 1) p (v64 d p) := by
        have h3 : v64 d p = pf64 (d + 1) (p + 348).toNat := by
          unfold v64; rw [if_neg (by omega), if_neg h1, if_neg h2, hsm (by omega) (by omega)]
        rw [h3]; exact pf_near (d + 1) p (by omega) (by omega) (by omega) (by omega)
      refine nx_mid (y := p - k) (by omega) (Int.le_refl _) ?_ ?_ n1 n2
      · rw [e1, Int.sub_self]; show d * 10 ^ k ≤ v * 1; omega
      · rw [e1, Int.sub_self]; show v * 1 ≤ (d + 1) * 10 ^ k; omega
end Go.Proofs.YtaidemghhagniaaGreatDoor
end
section
namespace Go.Proofs.YtaidemghhagniaaGreatDoor
open Go Go.RowKit
structure MvOk (m : MS) (V : Nat) : Prop where
  lo : m.mant * 10 ^ (m.nd - 19) ≤ V
  hi : V < (m.mant + 1) * 10 ^ (m.nd - 19)
  ex : m.trunc = false → V = m.mant * 10 ^ (m.nd - 19)
  z : m.nd = 0 → m.mant = 0
  p : 0 < m.nd → 0 < m.mant
  n : m.trunc = true → 19 < m.nd
  b : V < 10 ^ m.nd
  l : 0 < m.nd → 10 ^ (m.nd - 1) ≤ V
theorem mv_next {m : MS} {V : Nat} (h : MvOk m V) (c : UInt8) (hc : isD c = true ∨ c = 46) : MvOk (mstep m c) (if c = 46 then V else V * 10 + (c.toNat - 48)) := by
  obtain ⟨lo, hi, ex, z, p, n, b, l⟩ := h
  obtain ⟨dot, seen, nd, mant, dp, tr⟩ := m
  dsimp only at *
  by_cases g : c = 46
  · subst g
    rw [if_pos rfl]
    show MvOk ⟨true, seen, nd, mant, nd, tr⟩ V
    exact ⟨lo, hi, ex, z, p, n, b, l⟩
  · rw [if_neg g]
    have hd := (isD_iff c).1 (hc.resolve_right g)
    by_cases h0 : nd = 0 ∧ c = 48
    · obtain ⟨h0, rfl⟩ := h0
      subst h0
      rw [mstep_zero _ _ _ _ _ _ rfl]
      have := z rfl
      subst this
      have hV : V = 0 := by rw [Nat.pow_zero] at b; omega
      subst hV
      exact ⟨lo, hi, fun h => ex h, z, p, n, (by show (0 : Nat) < 1; decide), l⟩
    · by_cases h19 : nd < 19
      · rw [mstep_low _ _ _ _ _ _ _ g (fun x => h0 ⟨x.2, x.1⟩) h19]
        rw [show nd - 19 = 0 by omega, Nat.pow_zero, Nat.mul_one] at lo hi
        have hV : V = mant := by omega
        subst hV
        have h48 : nd = 0 → 48 < c.toNat := fun e => by
          have h1 : c ≠ 48 := fun q => h0 ⟨e, q⟩
          have : c.toNat ≠ 48 := fun q => h1 (UInt8.toNat_inj.1 q)
          omega
        have e0 : nd + 1 - 19 = 0 := by omega
        refine ⟨?_, ?_, fun _ => ?_, fun h => ?_, fun _ => ?_, fun h => ?_, ?_, fun _ => ?_⟩
        · show (V * 10 + (c.toNat - 48)) * 10 ^ (nd + 1 - 19) ≤ _
          rw [e0, Nat.pow_zero]; omega
        · show _ < (V * 10 + (c.toNat - 48) + 1) * 10 ^ (nd + 1 - 19)
          rw [e0, Nat.pow_zero]; omega
        · show _ = (V * 10 + (c.toNat - 48)) * 10 ^ (nd + 1 - 19)
          rw [e0, Nat.pow_zero]; omega
        · exact absurd h (Nat.succ_ne_zero nd)
        · show 0 < V * 10 + (c.toNat - 48)
          rcases Nat.eq_zero_or_pos nd with e | e
          · have := h48 e; omega
          · have := p e; omega
        · have := n h; omega
        · show _ < 10 ^ (nd + 1)
          rw [Nat.pow_succ]; omega
        · show 10 ^ nd ≤ _
          rcases Nat.eq_zero_or_pos nd with e | e
          · have := h48 e; rw [e, Nat.pow_zero]; omega
          · have := l e
            rw [show nd = (nd - 1) + 1 by omega, Nat.pow_succ]; omega
      · rw [mstep_high _ _ _ _ _ _ _ g (by omega)]
        obtain ⟨k, hk⟩ : ∃ k, nd = 19 + k := ⟨nd - 19, by omega⟩
        subst hk
        rw [Nat.add_sub_cancel_left] at lo hi ex
        have e1 : 19 + k + 1 - 19 = k + 1 := by omega
        refine ⟨?_, ?_, fun h => ?_, fun h => ?_, fun _ => ?_, fun h => ?_, ?_, fun _ => ?_⟩
        · show mant * 10 ^ (19 + k + 1 - 19) ≤ _
          rw [e1, Nat.pow_succ, ← Nat.mul_assoc]; omega
        · show _ < (mant + 1) * 10 ^ (19 + k + 1 - 19)
          rw [e1, Nat.pow_succ, ← Nat.mul_assoc]; omega
        · show _ = mant * 10 ^ (19 + k + 1 - 19)
          have h' : (tr || (c != 48)) = false := h
          rw [Bool.or_eq_false_iff] at h'
          have h2 := ex h'.1
          have h3 : c = 48 := by simpa using h'.2
          subst h3
          rw [e1, Nat.pow_succ, ← Nat.mul_assoc, h2]
          rfl
        · exact absurd h (Nat.succ_ne_zero _)
        · exact p (by omega)
        · show 19 < 19 + k + 1
          omega
        · show _ < 10 ^ (19 + k + 1)
          rw [Nat.pow_succ]; omega
        · show 10 ^ (19 + k) ≤ _
          have := l (by omega)
          rw [show 19 + k = (19 + k - 1) + 1 by omega, Nat.pow_succ]; omega
theorem mv_mat {s : ByteArray} {a e : Nat} (H : Scan s a e) : ∀ k, a + k ≤ e → MvOk (mat s a (a + k)) (mv s a (a + k)) := by
  have hle := H.le
  intro k
  induction k with
  | zero =>
    intro _
    rw [Nat.add_zero, mat_at, mv_at]
    exact ⟨by decide, by decide, fun _ => rfl, fun _ => rfl, fun h => absurd h (by decide), fun h => (by cases h), by decide, fun h => absurd h (by decide)⟩
  | succ k ih =>
    intro hk
    rw [show a + (k + 1) = (a + k) + 1 by omega, mat_step s a (a + k) (by omega) (by omega), mv_step s a (a + k) (by omega) (by omega)]
    refine mv_next (ih (by omega)) _ ?_
    rcases H.ch (a + k) (by omega) (by omega) with h | h
    · exact .inl h
    · exact .inr h.1
/-- The number's power of ten, the point moved behind the last digit. -/
def xpt (m : MS) (E : Int) : Int := (if m.dot then m.dp else (m.nd : Int)) + E - m.nd
theorem mv_of {s : ByteArray} {a e : Nat} (H : Scan s a e) : MvOk (mat s a e) (mv s a e) := by
  have := mv_mat H (e - a) (by have := H.lt; omega)
  rwa [show a + (e - a) = e by have := H.lt; omega] at this
theorem rf_xpt {m : MS} {V : Nat} (h : MvOk m V) (h0 : 0 < m.nd) (E : Int) : xpt m E = rfExp m E - ((m.nd - 19 : Nat) : Int) := by
  unfold xpt rfExp
  have := h.p h0
  rw [if_neg (show ¬ m.mant = 0 by omega)]
  generalize (if m.dot = true then m.dp else (m.nd : Int)) = D
  omega
/-- What the fast ways give is the nearest value. -/
theorem nx_short {m : MS} {V : Nat} (h : MvOk m V) (hm : m.mant < 10000000000000000000) (E : Int) (ht : m.trunc = false) : NearX V (xpt m E) (v64 m.mant (rfExp m E)) := by
  rcases Nat.eq_zero_or_pos m.nd with h0 | h0
  · have h1 := h.z h0
    have h2 := h.b
    rw [h0, Nat.pow_zero] at h2
    have hV : V = 0 := by omega
    rw [hV, h1]
    have : v64 0 (rfExp m E) = 0 := by unfold v64; rw [if_pos rfl]
    rw [this]; exact nx_zero _
  · have n1 := nx_v64 m.mant (rfExp m E) hm
    rw [rf_xpt h h0 E]
    refine nx_same (y := rfExp m E - ((m.nd - 19 : Nat) : Int)) (by omega) (Int.le_refl _) ?_ n1
    rw [Int.sub_self, show (rfExp m E - (rfExp m E - ((m.nd - 19 : Nat) : Int))).toNat = m.nd - 19 by omega, h.ex ht]
    show _ = _ * 1
    omega
theorem nx_fast {m : MS} {V : Nat} (h : MvOk m V) (hm : m.mant < 10000000000000000000) (E : Int) (ht : m.trunc = true) (hsm : -345 ≤ rfExp m E → rfExp m E ≤ 310 → pf64 (m.mant + 1) (rfExp m E + 348).toNat = pf64 m.mant (rfExp m E + 348).toNat) : NearX V (xpt m E) (v64 m.mant (rfExp m E)) := by
  have h0 := h.n ht
  rw [rf_xpt h (by omega) E]
  exact nx_cut (h.p (by omega)) hm h.lo h.hi hsm
end Go.Proofs.YtaidemghhagniaaGreatDoor
end
section
namespace Go.Proofs.YtaidemghhagniaaGreatDoor
open Go Go.RowKit
theorem fb_all (D nd v r : Nat) (ng : Bool) (dp : Int) (w0 w : World) (h : SetN w D nd dp ng v) (hn : nd ≤ 800) (hr : NearX v (dp - nd) r) (hG : FGlb w0) (hb0 : Below w0.heap.size w0 w) (hD : w0.heap.size ≤ D) :
    Calls Tryz.prog 138 #[.pointer (some ⟨D, 0, none⟩), .pointer (some ⟨9, 0, none⟩)] w fun e w' => (∃ b, e = .returned (.tuple #[.int .u64 ((sgw ng + r : Nat) : Int), .bool b])) ∧ Below w0.heap.size w0 w' := by
  obtain ⟨g, h1, h2, h3, h4⟩ := h.ex
  have hGw := hG.on hb0
  rcases Nat.eq_zero_or_pos nd with hz | hz
  · subst hz
    have hv : v = 0 := h4.symm
    have hr0 : r = 0 := nx_eq hr (by rw [hv]; exact nx_zero _)
    refine (fb_zero D g dp ng false w h1 hGw).mono ?_
    rintro e w' ⟨h5, h6⟩
    rw [hr0]
    exact ⟨h5, hb0.trans (h6.mono hb0.size)⟩
  · have g0 := h3.resolve_left (by omega)
    have b1 : 10 ^ (nd - 1) ≤ v := by rw [← h4]; exact num_pos hz g0
    have b2 : v < 10 ^ nd := by rw [← h4]; exact num_lt nd h2
    by_cases k1 : 310 < dp
    · have hr0 : r = INF := nx_eq hr (nx_big b1 (by omega))
      refine (fb_big D g nd dp ng false w h1 hz k1 hGw).mono ?_
      rintro e w' ⟨h5, h6⟩
      rw [hr0]
      exact ⟨h5, hb0.trans (h6.mono hb0.size)⟩
    · by_cases k2 : dp < -330
      · have hr0 : r = 0 := nx_eq hr (nx_small b2 (by omega))
        refine (fb_small D g nd dp ng false w h1 hz k2 hGw).mono ?_
        rintro e w' ⟨h5, h6⟩
        rw [hr0]
        exact ⟨h5, hb0.trans (h6.mono hb0.size)⟩
      · obtain ⟨E0, hE0⟩ : ∃ E0 : Nat, E0 = (dp + 2000).toNat := ⟨_, rfl⟩
        have hE1 : (E0 : Int) - 2000 = dp := by omega
        have hN : DecN w D (dec g nd E0) E0 ng false := ⟨g, nd, by rw [hE1]; exact h1, hz, hn, h2, g0, by omega, rfl⟩
        refine (fb_any D _ E0 ng w0 w hN (by omega) (by omega) hG hb0 hD).mono ?_
        rintro e w' ⟨⟨r', b, rfl, h5⟩, h6⟩
        have e1 : E0 = nd + (dp - nd + 2000).toNat := by omega
        rw [e1] at h5
        have h7 := nx_dec (by omega) h5
        rw [h4] at h7
        have : r' = r := nx_eq h7 hr
        subst this
        exact ⟨⟨b, rfl⟩, h6⟩
theorem order_ne (sg F F1 : Nat) (hs : sg = 0 ∨ sg = 9223372036854775808) (h1 : F ≤ INF) (h2 : F1 ≤ INF) (hne : F ≠ F1) : (FloatKind.f64.format.order (sg + F) (sg + F1) == some .eq) = false := by
  have hI : INF = 9218868437227405312 := rfl
  have : FloatKind.f64.format.order (sg + F) (sg + F1) = _ := order_all (sg + F) (sg + F1) (by omega) (by omega)
  rw [this]
  have n1 : nanN (sg + F) = false := by unfold nanN; rw [decide_eq_false_iff_not]; omega
  have n2 : nanN (sg + F1) = false := by unfold nanN; rw [decide_eq_false_iff_not]; omega
  rw [n1, n2, Bool.or_self, if_neg (by decide)]
  have ho : ordN (sg + F) ≠ ordN (sg + F1) := by
    unfold ordN
    rcases hs with h | h
    · rw [if_pos (by omega), if_pos (by omega)]; omega
    · by_cases c1 : F = 0
      · by_cases c2 : F1 = 0
        · omega
        · rw [if_neg (by omega), if_neg (by omega)]; omega
      · rw [if_neg (by omega), if_neg (by omega)]; omega
  rcases Int.lt_trichotomy (ordN (sg + F)) (ordN (sg + F1)) with l | l | l
  · rw [cmp_lt l]; rfl
  · exact absurd l ho
  · rw [cmp_gt l]; rfl
theorem zc_eq : Tryz.zeroCells174 = (List.replicate 800 (Value.int .u8 0) ++ [Value.int .i64 0, Value.int .i64 0, Value.bool false, Value.bool false]).toArray := by kernel_rfl
theorem zc_dec (w : World) : DecB (w.alloc (.cells Tryz.zeroCells174 174)) w.heap.size (fun _ => 0) 0 0 false false := by
  refine ⟨_, Array.getElem?_push_size, fun i hi => ?_, ?_, ?_, ?_, ?_⟩
  all_goals rw [zc_eq]
  · rw [List.getElem?_toArray, List.getElem?_append_left (by rw [List.length_replicate]; exact hi), List.getElem?_replicate, if_pos hi]; rfl
  all_goals rw [List.getElem?_toArray, List.getElem?_append_right (by rw [List.length_replicate]; decide), List.length_replicate]; rfl
set_option maxRecDepth 100000 in
set_option maxHeartbeats 4000000 in
theorem atof_slow (s : ByteArray) (a e : Nat) (ng : Bool) (E : Int) (H : Scan s a e) (S : Sgn s a ng) (T : Tail s e E) (ht : (mat s a e).trunc = true) (hs8 : s.size ≤ 799) (g2 : -345 ≤ rfExp (mat s a e) E) (g1 : rfExp (mat s a e) E ≤ 310)
    (hsm : pf64 ((mat s a e).mant + 1) (rfExp (mat s a e) E + 348).toNat ≠ pf64 (mat s a e).mant (rfExp (mat s a e) E + 348).toNat) (r : Nat) (hr : NearX (mv s a e) (xpt (mat s a e) E) r) (w : World) (hG : FGlb w) :
    Calls Tryz.prog 119 #[.string s] w (AtRet ng r s.size w) := by
  have hz := H.sz
  have hl := H.lt
  have hle := H.le
  have hrf := rf_any s a e ng E H S T w
  unfold RfRet at hrf
  rw [ht] at hrf
  have hsp := Lib.hid (sp_any s a ng (by omega) hz (by rcases S with h | h; exact .inl h.1; exact .inr h) (first_dig H) w)
  have hm := (mat_bd2 H e (by omega) (Nat.le_refl _)).2.1
  have hmv := mv_of H
  have hnd : (mat s a e).nd ≤ 800 := by
    have := (mat_bd H (e - a) (by omega)).1
    rw [show a + (e - a) = e by omega] at this
    omega
  have hset := fun (D : Nat) (g0 : Nat → Nat) (W : World) (h : DecB W D g0 0 0 false false) => dset_any D D s a e ng E H S T hs8 g0 false false W h (Nat.le_refl _)
  obtain ⟨d, hd⟩ : ∃ d, d = (mat s a e).mant := ⟨_, rfl⟩
  obtain ⟨p, hp⟩ : ∃ p, p = rfExp (mat s a e) E := ⟨_, rfl⟩
  have d0 : 0 < d := by rw [hd]; exact hmv.p (by have := hmv.n ht; omega)
  rw [← hd] at hm
  rw [← hd, ← hp] at hrf hsm
  rw [← hp] at g1 g2
  replace hrf := Lib.hid hrf
  obtain ⟨b, hb1, hb2⟩ := bool2_to ng
  obtain ⟨o1, o2⟩ := sg_or ng
  have hsg := sgw_lt ng
  have hpg := fun (W : World) (hW : FGlb W) (h1 : -348 ≤ p) (h2 : p ≤ 347) => pf_any (d + 1) (p + 348).toNat (sgw ng) (by omega) (by omega) (by omega) hsg W hW.tab (by have := hW.big; omega)
  have hpf := fun (h0 : 0 < d) (h1 : -348 ≤ p) (h2 : p ≤ 347) => pf_any d (p + 348).toNat (sgw ng) h0 (by omega) (by omega) hsg w hG.tab (by have := hG.big; omega)
  obtain ⟨sg, hsgd⟩ : ∃ sg, sg = sgw ng := ⟨_, rfl⟩
  rw [← hsgd] at hb1 o1 o2 hpf hpg hsg
  have opt := hG.opt
  replace hb2 := Lib.hid hb2
  have hGh := Lib.hid hG
  have u0 : ((d : Int) == 0) = false := by rw [beq_eq_false_iff_ne]; omega
  have u1 : decide ((310 : Int) < p) = false := decide_eq_false (by omega)
  have u2 : decide (p < (-345 : Int)) = false := decide_eq_false (by omega)
  have hpf' := Lib.hid (hpf d0 (by omega) (by omega))
  rw [show ((p + 348).toNat : Int) - 348 = p by omega] at hpf'
  have hpg' := fun W hW => hpg W hW (by omega) (by omega)
  rw [show ((p + 348).toNat : Int) - 348 = p by omega] at hpg'
  obtain ⟨F, hF⟩ : ∃ F, F = pf64 d (p + 348).toNat := ⟨_, rfl⟩
  obtain ⟨F1, hF1⟩ : ∃ F1, F1 = pf64 (d + 1) (p + 348).toNat := ⟨_, rfl⟩
  have hFI : F ≤ INF := by rw [hF]; exact (pf64_ok d (p + 348).toNat d0 (by omega) (by omega)).1
  have hFI1 : F1 ≤ INF := by rw [hF1]; exact (pf64_ok (d + 1) (p + 348).toNat (by omega) (by omega) (by omega)).1
  rw [← hF, ← hF1] at hsm
  rw [← hF] at hpf'
  rw [← hF1] at hpg'
  obtain ⟨er, her⟩ : ∃ er, er = errV (decide (F = INF)) := ⟨_, rfl⟩
  obtain ⟨er1, her1⟩ : ∃ er, er = errV (decide (F1 = INF)) := ⟨_, rfl⟩
  unfold PfRet at hpf' hpg'
  rw [← her] at hpf'
  rw [← her1] at hpg'
  have hQQ := order_ne sg F F1 (by rw [hsgd]; cases ng <;> simp [sgw]) hFI hFI1 (fun h => hsm h.symm)
  obtain ⟨Q, hQ⟩ : ∃ Q, Q = sg + F := ⟨_, rfl⟩
  obtain ⟨Q1, hQ1⟩ : ∃ Q1, Q1 = sg + F1 := ⟨_, rfl⟩
  rw [← hQ, ← hQ1] at hQQ
  rw [← hQ] at hpf'
  rw [← hQ1] at hpg'
  replace hpg' := Lib.hid (fun W hW => hpg' W hW)
  have hfb : ∀ (D : Nat) (W0 W : World), SetN W D (mat s a e).nd ((if (mat s a e).dot then (mat s a e).dp else ((mat s a e).nd : Int)) + E) ng (mv s a e) → FGlb W0 → Below W0.heap.size W0 W → W0.heap.size ≤ D → Calls Tryz.prog 138 #[.pointer (some ⟨D, 0, none⟩), .pointer (some ⟨9, 0, none⟩)] W fun e w' => (∃ b, e = .returned (.tuple #[.int .u64 ((sgw ng + r : Nat) : Int), .bool b])) ∧ Below W0.heap.size W0 w' :=
    fun D W0 W h1 h2 h3 h4 => fb_all D _ _ r ng _ W0 W h1 hnd hr h2 h3 h4
  obtain ⟨V, hV⟩ : ∃ V, V = sgw ng + r := ⟨_, rfl⟩
  rw [← hV] at hfb
  have hret : ∀ b W, Below w.heap.size w W → AtRet ng r s.size w (.returned (.tuple #[.float .f64 V, .int .i64 s.size, errV b])) W := fun b W hb => ⟨⟨b, by rw [hV]⟩, hb⟩
  replace hret := Lib.hid hret
  replace hV := Lib.hid hV
  replace hfb := Lib.hid hfb
  replace hset := Lib.hid hset
  replace hsgd := Lib.hid hsgd
  have hxs : s.extract 0 s.size = s := ByteArray.extract_zero_size
  clear H S T ht hd hp hG hl hle hpf hpg hsm g1 g2 her her1 hF hF1 hFI hFI1 hQ hQ1 hmv hnd hr d0
  go_enter Tryz.func119, Tryz.ntmps119
  go_wp2_with fail
  refine hsp.out.mono ?_; rintro x w1 ⟨rfl, rfl⟩
  go_wp2_with fail
  refine hrf.out.mono ?_; rintro x w1 ⟨rfl, rfl⟩
  go_wp2_with fail
  refine (hb2.out _).mono ?_; rintro x w1 ⟨rfl, rfl⟩
  go_wp2_with fail
  refine hpf'.out.mono ?_; rintro x w1 ⟨rfl, hB⟩
  replace hB := Lib.hid hB
  go_wp2_with fail
  refine (hpg'.out w1 (hGh.out.on hB.out)).mono ?_; rintro x w2 ⟨rfl, hB2⟩
  replace hB := Lib.hid (hB.out.trans (hB2.mono hB.out.size))
  clear hB2
  have hG2 := Lib.hid (hGh.out.on hB.out)
  have hz1 := Lib.hid (zc_dec w2)
  have hb1' := Lib.hid ((Below.refl w2.heap.size w2).alloc (Nat.le_refl _) (.cells Tryz.zeroCells174 174))
  have hs1 : decide ((s.size : Int) ≤ (s.size : Int)) = true := decide_eq_true (by omega)
  go_wp2_with fail
  refine (hset.out _ _ _ hz1.out).mono ?_; rintro x w3 ⟨rfl, h3, h4⟩
  have hB3 := Lib.hid (hb1'.out.trans h4)
  have hc4 := Lib.hid (hfb.out _ w2 w3 h3 hG2.out hB3.out (Nat.le_refl _))
  clear h3 h4 hz1 hb1' hset hfb
  go_wp2_with fail
  refine hc4.out.mono ?_; rintro x w4 ⟨⟨bb, rfl⟩, h5⟩
  have hB4 := Lib.hid (hB.out.trans (h5.mono hB.out.size))
  have f1 := fb64 (V : Int) w4
  rw [Int.toNat_natCast] at f1
  clear h5 hc4
  cases bb
  · go_wp2_with fail
    go_ret3
    exact hret.out false _ hB4.out
  · go_wp2_with fail
    go_ret3
    exact hret.out true _ hB4.out
end Go.Proofs.YtaidemghhagniaaGreatDoor
end
section
namespace Go.Proofs.YtaidemghhagniaaGreatDoor
open Go Go.RowKit
theorem right_scan2 (s : ByteArray) (hs : s.size ≤ 2000) (h : rightL s.data.toList = true) : ∃ a e, Scan s a e ∧ Sgn s a (ngL s.data.toList) ∧ Tail s e (expL (tlL s.data.toList)) ∧ mat s a e = mrun (manP s.data.toList) ∧ (s.data.toList.take e).drop a = manP s.data.toList := by
  have hz := len_size s
  unfold rightL at h
  rw [Bool.and_eq_true] at h
  obtain ⟨h1, h2⟩ := h
  have hN : (manL (sgd s.data.toList)).1 ≠ 0 := by simpa using h1
  obtain ⟨P, hP, hP0, hseen, hch⟩ := man_split (sgd s.data.toList) (manL (sgd s.data.toList)).2 (manL (sgd s.data.toList)).1 rfl hN
  unfold manP
  change tailL (tlL s.data.toList) = true at h2
  change sgd s.data.toList = P ++ tlL s.data.toList at hP
  have hman : (sgd s.data.toList).take ((sgd s.data.toList).length - (tlL s.data.toList).length) = P := by rw [hP, List.length_append, Nat.add_sub_cancel, List.take_left]
  rw [hman]
  obtain ⟨A, hA, hSg⟩ : ∃ A : List UInt8, s.data.toList = A ++ (P ++ tlL s.data.toList) ∧ Sgn s A.length (ngL s.data.toList) := by
    rw [← hP]
    rcases sgd_split s.data.toList with ⟨g1, g2, g3, g4⟩ | ⟨c, t, g1, g2, g3⟩
    · exact ⟨[], by rw [g1]; rfl, .inl ⟨rfl, g2, g3, g4⟩⟩
    · refine ⟨[c], by rw [g2]; exact g1, .inr ⟨rfl, ?_⟩⟩
      have hb : bt s 0 = c := by unfold bt; rw [g1]; rfl
      rw [hb]; exact g3
  have hPl : 0 < P.length := List.length_pos_iff.2 hP0
  obtain ⟨r, hr⟩ : ∃ r, r = tlL s.data.toList := ⟨_, rfl⟩
  rw [← hr] at hA h2 ⊢
  have hsz : s.size = A.length + (P.length + r.length) := by rw [← hz, hA, List.length_append, List.length_append]
  have hb : ∀ k (hk : k < P.length), bt s (A.length + k) = P[k] := fun k hk => by unfold bt; rw [hA]; exact getD_mid A P r k hk
  have hm : ∀ k, k ≤ P.length → mat s A.length (A.length + k) = mrun (P.take k) := fun k hk => by unfold mat; rw [hA, take_mid A P r k hk]
  refine ⟨A.length, A.length + P.length, ⟨hs, by omega, by omega, fun i hi hi2 => ?_, ?_⟩, hSg, ?_, ?_, ?_⟩
  · obtain ⟨k, rfl⟩ : ∃ k, i = A.length + k := ⟨i - A.length, by omega⟩
    rw [hb k (by omega), hm k (by omega)]
    exact hch k (by omega)
  · rw [hm _ (Nat.le_refl _), List.take_length]; exact hseen
  · have hbr : ∀ k, bt s (A.length + P.length + k) = r.getD k 0 := fun k => by
      unfold bt
      rw [hA, List.getD_eq_getElem?_getD, List.getElem?_append_right (by omega), List.getElem?_append_right (by omega), List.getD_eq_getElem?_getD]
      congr 2; omega
    cases r with
    | nil => exact .none (by rw [hsz]; simp)
    | cons c t =>
      rw [tailL, Bool.and_eq_true, Bool.and_eq_true, Bool.and_eq_true] at h2
      obtain ⟨c1, ⟨c2, c3⟩, c4⟩ := h2
      have c2 := of_decide_eq_true c2
      have c3 := of_decide_eq_true c3
      have c4 : digN (sgd t) = (sgd t).length := by simpa using c4
      have hds := digN_full _ c4
      have hcc : c = 101 ∨ c = 69 := by simpa using c1
      have hb0 := hbr 0
      rw [Nat.add_zero] at hb0
      obtain ⟨b, hbt, hbs⟩ : ∃ b, t.drop b = sgd t ∧ ((b = 0 ∧ ngL t = false ∧ t.getD 0 0 ≠ 43 ∧ t.getD 0 0 ≠ 45) ∨ (b = 1 ∧ ((ngL t = false ∧ t.getD 0 0 = 43) ∨ (ngL t = true ∧ t.getD 0 0 = 45)))) := by
        rcases sgd_split t with ⟨g1, g2, g3, g4⟩ | ⟨x, u, g1, g2, g3⟩
        · exact ⟨0, by rw [g1]; rfl, .inl ⟨rfl, g2, g3, g4⟩⟩
        · exact ⟨1, by rw [g2, g1]; rfl, .inr ⟨rfl, by rw [g1] at g3 ⊢; exact g3⟩⟩
      have hbl : (sgd t).length + b = t.length := by
        rw [← hbt, List.length_drop]
        have : b ≤ t.length := by
          rcases Nat.lt_or_ge t.length b with g | g
          · have : t.drop b = [] := List.drop_of_length_le (by omega)
            rw [hbt] at this
            rw [this] at c4 c2; simp [digN] at c2
          · exact g
        omega
      have hsz2 : s.size = A.length + P.length + (1 + b) + (sgd t).length := by rw [hsz, List.length_cons]; omega
      have hdrop : s.data.toList.drop (A.length + P.length + 1 + b) = sgd t := by
        rw [hA, ← List.append_assoc, ← hbt]
        rw [show A.length + P.length + 1 + b = (A ++ P).length + (b + 1) by rw [List.length_append]; omega, List.drop_append, List.drop_of_length_le (by omega), List.nil_append, show (A ++ P).length + (b + 1) - (A ++ P).length = b + 1 by omega, List.drop_succ_cons]
      have hE : est s (A.length + P.length + 1 + b) s.size = dval (sgd t) := by
        unfold est
        rw [List.take_of_length_le (by rw [hz]; exact Nat.le_refl _), hdrop]; rfl
      have := Tail.exp (s := s) (e := A.length + P.length) b (ngL t) (by rw [hb0]; exact hcc) (by rw [hbr 1]; exact hbs) (by omega) (by omega) (fun i hi hi2 => by
        obtain ⟨k, rfl⟩ : ∃ k, i = A.length + P.length + 1 + b + k := ⟨i - (A.length + P.length + 1 + b), by omega⟩
        have hk : k < (sgd t).length := by omega
        have hg : bt s (A.length + P.length + 1 + b + k) = (sgd t)[k] := by
          unfold bt
          rw [← List.getElem_of_eq hdrop (by rw [hdrop]; exact hk), List.getElem_drop, List.getD_eq_getElem?_getD, List.getElem?_eq_getElem (by rw [hz]; omega)]; rfl
        rw [hg]
        exact hds _ (List.getElem_mem _))
      rw [hE] at this
      exact this
  · rw [hm _ (Nat.le_refl _), List.take_length]
  · rw [hA, take_mid A P r _ (Nat.le_refl _), List.take_length]
theorem atof_any (s : ByteArray) (a e : Nat) (ng : Bool) (E : Int) (H : Scan s a e) (S : Sgn s a ng) (T : Tail s e E) (hs8 : s.size ≤ 799) (r : Nat) (hr : NearX (mv s a e) (xpt (mat s a e) E) r) (w : World) (hG : FGlb w) :
    Calls Tryz.prog 119 #[.string s] w (AtRet ng r s.size w) := by
  have hmv := mv_of H
  have hm := (mat_bd2 H e (by have := H.lt; omega) (Nat.le_refl _)).2.1
  cases ht : (mat s a e).trunc with
  | false =>
    have h := nx_short hmv hm E ht
    rw [nx_eq hr h]
    exact atof_short s a e ng E H S T ht w hG
  | true =>
    by_cases hc : -345 ≤ rfExp (mat s a e) E → rfExp (mat s a e) E ≤ 310 → pf64 ((mat s a e).mant + 1) (rfExp (mat s a e) E + 348).toNat = pf64 (mat s a e).mant (rfExp (mat s a e) E + 348).toNat
    · have h := nx_fast hmv hm E ht hc
      rw [nx_eq hr h]
      exact atof_cut s a e ng E H S T ht hc w hG
    · have g1 : -345 ≤ rfExp (mat s a e) E := Classical.byContradiction fun h => hc fun h2 => absurd h2 h
      have g2 : rfExp (mat s a e) E ≤ 310 := Classical.byContradiction fun h => hc fun _ h2 => absurd h2 h
      have g3 : pf64 ((mat s a e).mant + 1) (rfExp (mat s a e) E + 348).toNat ≠ pf64 (mat s a e).mant (rfExp (mat s a e) E + 348).toNat := fun h => hc fun _ _ => h
      exact atof_slow s a e ng E H S T ht hs8 g1 g2 g3 r hr w hG
/-- The number of a decimal's text: digits, and the power of ten that they are to be multiplied by. -/
def numL (l : List UInt8) : Nat := mvF (manP l)
def powL (l : List UInt8) : Int := xpt (mrun (manP l)) (expL (tlL l))
/-- Parse, at a decimal of at most 780 bytes: the value nearest to it. -/
theorem parse_near (s : ByteArray) (hs : s.size ≤ 780) (h1 : isNam s.data.toList = false) (h2 : rightL s.data.toList = true) (r : Nat) (hr : NearX (numL s.data.toList) (powL s.data.toList) r) (w : World) (hG : PGlb w) :
    Calls Tryz.prog 16 #[.string s] w (PsRet ((sgw (ngL s.data.toList) + r : Nat) : Int) 0 w) := by
  refine parse_yes s hs h1 h2 (ngL s.data.toList) r w hG fun W hW => ?_
  obtain ⟨a, e, H, S, T, hm, hl⟩ := right_scan2 s (by omega) h2
  refine atof_any s a e _ _ H S T (by omega) r ?_ W hW
  have e1 : mv s a e = numL s.data.toList := by unfold mv numL; rw [hl]
  have e2 : xpt (mat s a e) (expL (tlL s.data.toList)) = powL s.data.toList := by unfold powL; rw [hm]
  rw [e1, e2]; exact hr
end Go.Proofs.YtaidemghhagniaaGreatDoor
end
section
namespace Go.Proofs.YtaidemghhagniaaGreatDoor
open Go Go.RowKit
theorem mvF_foldl (l : List UInt8) (hl : DigL l) : ∀ v, l.foldl (fun v c => if c = 46 then v else v * 10 + (c.toNat - 48)) v = v * 10 ^ l.length + dval l := by
  induction l with
  | nil => intro v; show v = v * 1 + 0; omega
  | cons c t ih =>
    intro v
    have hc := hl c (List.mem_cons_self ..)
    rw [List.foldl_cons, if_neg (fun e => by rw [e] at hc; exact absurd hc (by decide)), ih (fun x hx => hl x (List.mem_cons_of_mem _ hx)), dval_cons, List.length_cons, Nat.pow_succ, Nat.add_mul, Nat.mul_assoc, Nat.mul_comm 10, Nat.add_assoc]
theorem mvF_dot (W T : List UInt8) (hW : DigL W) (hT : DigL T) : mvF (W ++ 46 :: T) = dval (W ++ T) := by
  unfold mvF
  rw [List.foldl_append, mvF_foldl W hW, List.foldl_cons, if_pos rfl, mvF_foldl T hT, Nat.zero_mul, Nat.zero_add, dval_app]
/-- How the point moves behind it. -/
theorem run_tail (T : List UInt8) (hT : DigL T) : ∀ m : MS, (T.foldl mstep m).dot = m.dot ∧ (m.dot = true → (T.foldl mstep m).dp - ((T.foldl mstep m).nd : Int) = m.dp - (m.nd : Int) - T.length) := by
  induction T with
  | nil => intro m; exact ⟨rfl, fun _ => by show m.dp - _ = _; simp⟩
  | cons c t ih =>
    intro m
    have hc := hT c (List.mem_cons_self ..)
    have h46 : c ≠ 46 := fun e => by rw [e] at hc; exact absurd hc (by decide)
    obtain ⟨i1, i2⟩ := ih (fun x hx => hT x (List.mem_cons_of_mem _ hx)) (mstep m c)
    rw [List.foldl_cons]
    have hs : (mstep m c).dot = m.dot ∧ (mstep m c).dp - ((mstep m c).nd : Int) = m.dp - (m.nd : Int) - 1 := by
      unfold mstep
      rw [if_neg h46]
      split
      · exact ⟨rfl, by show m.dp - 1 - (m.nd : Int) = _; omega⟩
      · split
        · exact ⟨rfl, by show m.dp - ((m.nd + 1 : Nat) : Int) = _; omega⟩
        · exact ⟨rfl, by show m.dp - ((m.nd + 1 : Nat) : Int) = _; omega⟩
    refine ⟨i1.trans hs.1, fun h => ?_⟩
    rw [i2 (hs.1.trans h), hs.2, List.length_cons]
    omega
theorem xpt_dot (W T : List UInt8) (hT : DigL T) (E : Int) : xpt (mrun (W ++ 46 :: T)) E = E - T.length := by
  have e : mrun (W ++ 46 :: T) = T.foldl mstep (mstep (mrun W) 46) := by
    unfold mrun
    rw [List.foldl_append, List.foldl_cons]
  obtain ⟨h1, h2⟩ := run_tail T hT (mstep (mrun W) 46)
  have hd : (mstep (mrun W) 46).dot = true := rfl
  have hp : (mstep (mrun W) 46).dp - ((mstep (mrun W) 46).nd : Int) = 0 := by
    show ((mrun W).nd : Int) - ((mrun W).nd : Int) = 0
    omega
  rw [e]
  unfold xpt
  rw [h1, hd, if_pos rfl]
  have := h2 hd
  omega
/-- An exponent's text. -/
theorem exp_read (c : UInt8) (es ed : List UInt8) (hc : c = 101 ∨ c = 69) (hes : es = [] ∨ es = [43] ∨ es = [45]) (hd : DigL ed) (h1 : 1 ≤ ed.length) (h5 : ed.length ≤ 5) :
    tailL (c :: (es ++ ed)) = true ∧ expL (c :: (es ++ ed)) = if es = [45] then -(dval ed : Int) else (dval ed : Int) := by
  obtain ⟨x, t, hx⟩ : ∃ x t, ed = x :: t := by cases ed with | nil => simp at h1 | cons x t => exact ⟨x, t, rfl⟩
  have hxd : isD x = true := digL_isD hd x (by rw [hx]; exact List.mem_cons_self ..)
  have hx1 := (isD_iff x).1 hxd
  have x43 : x ≠ 43 := fun e => by rw [e] at hx1; exact absurd hx1 (by decide)
  have x45 : x ≠ 45 := fun e => by rw [e] at hx1; exact absurd hx1 (by decide)
  have hs : sgd (es ++ ed) = ed ∧ (ngL (es ++ ed) = true ↔ es = [45]) := by
    rcases hes with rfl | rfl | rfl
    · rw [List.nil_append, hx]
      refine ⟨?_, ?_⟩
      · show (if x = 43 ∨ x = 45 then t else x :: t) = _
        rw [if_neg (by rintro (h | h); exact x43 h; exact x45 h)]
      · unfold ngL; simp [x45]
    · exact ⟨rfl, by unfold ngL; simp⟩
    · exact ⟨rfl, by unfold ngL; simp⟩
  have hdn : digN ed = ed.length := by
    have := digN_at ed [] (digL_isD hd) (fun c hc => by cases hc)
    rwa [List.append_nil] at this
  constructor
  · rw [tailL, hs.1, hdn, decide_eq_true h1, decide_eq_true h5]
    rcases hc with rfl | rfl <;> simp
  · show (if ngL (es ++ ed) then -(dval (sgd (es ++ ed)) : Int) else (dval (sgd (es ++ ed)) : Int)) = _
    rw [hs.1]
    by_cases h : es = [45]
    · rw [if_pos h, if_pos (hs.2.2 h)]
    · rw [if_neg h, if_neg (fun q => h (hs.2.1 q))]
/-- A decimal's text with a point. -/
theorem dec_read (sg W T R X : List UInt8) (hW : DigL W) (hT : DigL T) (hWT : W ++ T ≠ []) (hsg : sg = [] ∨ sg = [43] ∨ sg = [45]) (hR : tailL R = true) (hX : X = sg ++ (W ++ 46 :: (T ++ R))) :
    rightL X = true ∧ isNam X = false ∧ (ngL X = true ↔ sg = [45]) ∧ numL X = dval (W ++ T) ∧ powL X = expL R - T.length := by
  have hRh : ∀ c, R.head? = some c → isD c = false := fun c hc => by
    cases R with
    | nil => cases hc
    | cons x y =>
      cases hc
      rw [tailL, Bool.and_eq_true] at hR
      have h1 := hR.1
      simp only [Bool.or_eq_true, beq_iff_eq] at h1
      rcases h1 with rfl | rfl <;> decide
  obtain ⟨x, t, hx, hx1⟩ : ∃ x t, W ++ 46 :: (T ++ R) = x :: t ∧ x ≠ 43 ∧ x ≠ 45 := by
    cases W with
    | nil => exact ⟨46, _, rfl, by decide, by decide⟩
    | cons c u =>
      have h1 := hW c (List.mem_cons_self ..)
      exact ⟨c, _, rfl, fun e => by rw [e] at h1; exact absurd h1 (by decide), fun e => by rw [e] at h1; exact absurd h1 (by decide)⟩
  have hs : sgd X = W ++ 46 :: (T ++ R) ∧ (ngL X = true ↔ sg = [45]) := by
    rw [hX]
    rcases hsg with rfl | rfl | rfl
    · rw [List.nil_append, hx]
      refine ⟨?_, ?_⟩
      · show (if x = 43 ∨ x = 45 then t else x :: t) = _
        rw [if_neg (by rintro (h | h); exact hx1.1 h; exact hx1.2 h)]
      · unfold ngL; simp [hx1.2]
    · exact ⟨rfl, by unfold ngL; simp⟩
    · exact ⟨rfl, by unfold ngL; simp⟩
  have hm := manL_at W T R (digL_isD hW) (digL_isD hT) hRh
  have ht : tlL X = R := by unfold tlL; rw [hs.1, hm]
  have hl : 0 < W.length + T.length := by
    have := List.length_pos_iff.2 hWT
    rwa [List.length_append] at this
  have hman : manP X = W ++ 46 :: T := by
    unfold manP
    rw [ht, hs.1]
    have e : W ++ 46 :: (T ++ R) = (W ++ 46 :: T) ++ R := by simp
    rw [e, List.length_append, Nat.add_sub_cancel, List.take_left]
  refine ⟨?_, ?_, hs.2, ?_, ?_⟩
  · unfold rightL
    rw [hs.1, hm, hR, Bool.and_true, bne_iff_ne]
    exact Nat.pos_iff_ne_zero.1 hl
  · have h46 : (46 : UInt8) ∈ X := by rw [hX]; simp
    unfold isNam
    rw [Bool.or_eq_false_iff, Bool.or_eq_false_iff, Bool.or_eq_false_iff, beq_eq_false_iff_ne, beq_eq_false_iff_ne, beq_eq_false_iff_ne, beq_eq_false_iff_ne]
    refine ⟨⟨⟨?_, ?_⟩, ?_⟩, ?_⟩
    all_goals (intro e; rw [e] at h46; exact absurd h46 (by decide))
  · unfold numL; rw [hman]; exact mvF_dot W T hW hT
  · unfold powL; rw [hman, ht]; exact xpt_dot W T hT _
end Go.Proofs.YtaidemghhagniaaGreatDoor
end
section
namespace Go.Proofs.YtaidemghhagniaaGreatDoor
open Go Go.RowKit
set_option linter.unusedVariables false
theorem decDigits_ne (n : Nat) : Lib.decDigits n ≠ [] := by
  rw [Lib.decDigits]; split <;> simp
/-- An exponent in decimal, behind an e or an E. -/
theorem itoa_tail (c : UInt8) (hc : c = 101 ∨ c = 69) (n : Int) (hn : n.natAbs ≤ 99999) : tailL (c :: Lib.itoa n) = true ∧ expL (c :: Lib.itoa n) = n ∧ (Lib.itoa n).length ≤ 6 := by
  have hd := digs_dig n.natAbs
  have h1 : 1 ≤ (Lib.decDigits n.natAbs).length := List.length_pos_iff.2 (decDigits_ne n.natAbs)
  have h5 : (Lib.decDigits n.natAbs).length ≤ 5 := dig_len 5 n.natAbs (by decide) (by omega)
  rw [itoa_sg]
  have hes : sg n = [] ∨ sg n = [43] ∨ sg n = [45] := by unfold sg; split; exact .inr (.inr rfl); exact .inl rfl
  obtain ⟨t1, t2⟩ := exp_read c (sg n) _ hc hes hd h1 h5
  refine ⟨t1, ?_, ?_⟩
  · rw [t2, dval_digits]
    unfold sg
    by_cases h : n < 0
    · rw [if_pos h, if_pos rfl]; omega
    · rw [if_neg h, if_neg (by decide)]; omega
  · rw [List.length_append]
    unfold sg
    split
    · simp; omega
    · simp; omega
theorem nx_le_inf {v : Nat} {x : Int} {r : Nat} (h : NearX v x r) : r ≤ INF := h.1
/-- Parse of a decimal's text with a point and an exponent. -/
theorem parse_text (sg W T R : List UInt8) (hW : DigL W) (hT : DigL T) (hWT : W ++ T ≠ []) (hsg : sg = [] ∨ sg = [43] ∨ sg = [45]) (hR : tailL R = true) (hl : (sg ++ (W ++ 46 :: (T ++ R))).length ≤ 780) (r : Nat) (hr : NearX (dval (W ++ T)) (expL R - T.length) r) (w : World) (hG : PGlb w) :
    Calls Tryz.prog 16 #[.string (BS (sg ++ (W ++ 46 :: (T ++ R))))] w (PsRet (((if sg = [45] then 9223372036854775808 else 0) + r : Nat) : Int) 0 w) := by
  obtain ⟨d1, d2, d3, d4, d5⟩ := dec_read sg W T R _ hW hT hWT hsg hR rfl
  have h := parse_near (BS (sg ++ (W ++ 46 :: (T ++ R)))) (by rw [BS_size]; exact hl) d2 d1 r (by rw [BS_data, d4, d5]; exact hr) w hG
  rw [BS_data] at h
  have e : sgw (ngL (sg ++ (W ++ 46 :: (T ++ R)))) = if sg = [45] then 9223372036854775808 else 0 := by
    by_cases hs : sg = [45]
    · rw [d3.2 hs, if_pos hs]; rfl
    · rw [if_neg hs]
      have : ngL (sg ++ (W ++ 46 :: (T ++ R))) = false := Bool.eq_false_iff.2 fun q => hs (d3.1 q)
      rw [this]; rfl
  rw [e] at h
  exact h
/-- The four texts of the law. -/
theorem mono_facts (d : List UInt8) (hd : DigL d) (h1 : 1 ≤ d.length) (h2 : d.length ≤ 70) (k : Nat) (hk : k ≤ d.length) (ex : Int) (hex : ex.natAbs ≤ 400) (c : UInt8) (hc : 49 ≤ c.toNat ∧ c.toNat ≤ 57) :
    ∃ r1 r2 : Nat, r1 ≤ r2 ∧ r2 ≤ INF ∧ ∀ W, PGlb W →
      Calls Tryz.prog 16 #[.string (BS (sT d k ++ (101 :: Lib.itoa ex)))] W (PsRet (r1 : Int) 0 W) ∧
      Calls Tryz.prog 16 #[.string (BS ((sT d k ++ [c]) ++ (101 :: Lib.itoa ex)))] W (PsRet (r2 : Int) 0 W) ∧
      Calls Tryz.prog 16 #[.string (BS ((45 :: sT d k) ++ (101 :: Lib.itoa ex)))] W (PsRet ((9223372036854775808 + r1 : Nat) : Int) 0 W) ∧
      Calls Tryz.prog 16 #[.string (BS ((43 :: sT d k) ++ (101 :: Lib.itoa ex)))] W (PsRet (r1 : Int) 0 W) := by
  obtain ⟨t1, t2, t3⟩ := itoa_tail 101 (.inl rfl) ex (by omega)
  have hW : DigL (d.take k) := fun x hx => hd x (List.mem_of_mem_take hx)
  have hT : DigL (d.drop k) := fun x hx => hd x (List.mem_of_mem_drop hx)
  have hT2 : DigL (d.drop k ++ [c]) := fun x hx => by
    rcases List.mem_append.1 hx with h | h
    · exact hT x h
    · rw [List.mem_singleton] at h; subst h; omega
  have hWT : d.take k ++ d.drop k ≠ [] := by rw [List.take_append_drop]; exact fun e => by rw [e] at h1; exact absurd h1 (by decide)
  have hWT2 : d.take k ++ (d.drop k ++ [c]) ≠ [] := by simp
  have e0 : ∀ sg : List UInt8, sg ++ sT d k ++ (101 :: Lib.itoa ex) = sg ++ (d.take k ++ 46 :: (d.drop k ++ (101 :: Lib.itoa ex))) := fun sg => by unfold sT; simp
  have e2 : (sT d k ++ [c]) ++ (101 :: Lib.itoa ex) = [] ++ (d.take k ++ 46 :: ((d.drop k ++ [c]) ++ (101 :: Lib.itoa ex))) := by unfold sT; simp
  have hl : ∀ sg : List UInt8, sg.length ≤ 1 → (sg ++ (d.take k ++ 46 :: (d.drop k ++ (101 :: Lib.itoa ex)))).length ≤ 780 := fun sg h => by
    rw [← e0]
    have := sT_len d k
    simp only [List.length_append, List.length_cons]
    omega
  have hl2 : ([] ++ (d.take k ++ 46 :: ((d.drop k ++ [c]) ++ (101 :: Lib.itoa ex)))).length ≤ 780 := by
    rw [← e2]
    have := sT_len d k
    simp only [List.length_append, List.length_cons, List.length_nil]
    omega
  obtain ⟨r1, n1⟩ := nx_ex (dval (d.take k ++ d.drop k)) (expL (101 :: Lib.itoa ex) - (d.drop k).length)
  obtain ⟨r2, n2⟩ := nx_ex (dval (d.take k ++ (d.drop k ++ [c]))) (expL (101 :: Lib.itoa ex) - (d.drop k ++ [c]).length)
  refine ⟨r1, r2, ?_, nx_le_inf n2, fun W hW' => ⟨?_, ?_, ?_, ?_⟩⟩
  · refine nx_le (y := expL (101 :: Lib.itoa ex) - (d.drop k ++ [c]).length) (by rw [List.length_append]; simp; omega) (Int.le_refl _) ?_ n1 n2
    rw [Int.sub_self, ← List.append_assoc, dval_app _ [c], List.length_append]
    have e : (expL (101 :: Lib.itoa ex) - ((d.drop k).length : Int) - (expL (101 :: Lib.itoa ex) - (((d.drop k).length + [c].length : Nat) : Int))).toNat = 1 := by simp; omega
    rw [e]
    show _ * 10 ^ 1 ≤ (_ * 10 ^ 1 + dval [c]) * 1
    omega
  · have h := parse_text [] _ _ _ hW hT hWT (.inl rfl) t1 (hl [] (by decide)) r1 n1 W hW'
    rw [if_neg (by decide), Nat.zero_add, ← e0] at h
    exact h
  · have h := parse_text [] _ _ _ hW hT2 hWT2 (.inl rfl) t1 hl2 r2 n2 W hW'
    rw [if_neg (by decide), Nat.zero_add, ← e2] at h
    exact h
  · have h := parse_text [45] _ _ _ hW hT hWT (.inr (.inr rfl)) t1 (hl [45] (by decide)) r1 n1 W hW'
    rw [if_pos rfl, ← e0] at h
    exact h
  · have h := parse_text [43] _ _ _ hW hT hWT (.inr (.inl rfl)) t1 (hl [43] (by decide)) r1 n1 W hW'
    rw [if_neg (by decide), Nat.zero_add, ← e0] at h
    exact h
end Go.Proofs.YtaidemghhagniaaGreatDoor
end
