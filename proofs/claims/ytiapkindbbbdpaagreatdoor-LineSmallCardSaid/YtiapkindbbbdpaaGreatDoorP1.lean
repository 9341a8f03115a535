/- Plain facts on integers in decimal: what is written is read. -/
import Derived.Test.YtiapkindbbbdpaaGreatDoorK14
namespace Go.Proofs.YtiapkindbbbdpaaGreatDoor

theorem parse_append : ∀ (l r : List UInt8) (acc a : Nat), Lib.parseUint10 acc l = .ok a → Lib.parseUint10 acc (l ++ r) = Lib.parseUint10 a r
  | [], r, acc, a, h => by
    simp only [Lib.parseUint10, Lib.NumEnd.ok.injEq] at h
    rw [h]; rfl
  | c :: l, r, acc, a, h => by
    rw [List.cons_append, Lib.parseUint10]
    rw [Lib.parseUint10] at h
    split at h
    · rename_i h1
      rw [if_pos h1]
      split at h
      · cases h
      · rename_i h2
        rw [if_neg h2]
        split at h
        · cases h
        · rename_i h3
          rw [if_neg h3]
          exact parse_append l r _ a h
    · cases h
theorem dig_nat (d : Nat) (h : d < 10) : (UInt8.ofNat (48 + d)).toNat = 48 + d := by rw [UInt8.toNat_ofNat']; omega
theorem parse_dec (u : Nat) (h : u < 18446744073709551616) : Lib.parseUint10 0 (Lib.decDigits u) = .ok u := by
  induction u using Nat.strongRecOn with
  | _ u ih =>
    rw [Lib.decDigits]
    by_cases h10 : u < 10
    · rw [dif_pos h10, Lib.parseUint10, dig_nat u h10, if_pos (by omega), if_neg (by omega), if_neg (by omega)]
      simp only [Lib.parseUint10, Lib.NumEnd.ok.injEq]
      omega
    · rw [dif_neg h10, parse_append _ _ _ _ (ih (u / 10) (by omega) (by omega)), Lib.parseUint10, dig_nat _ (Nat.mod_lt _ (by omega)), if_pos (by omega), if_neg (by omega), if_neg (by omega)]
      simp only [Lib.parseUint10, Lib.NumEnd.ok.injEq]
      omega
theorem dec_head (u : Nat) : ∃ c r, Lib.decDigits u = c :: r ∧ 48 ≤ c.toNat ∧ c.toNat ≤ 57 := by
  induction u using Nat.strongRecOn with
  | _ u ih =>
    rw [Lib.decDigits]
    by_cases h10 : u < 10
    · rw [dif_pos h10]
      exact ⟨_, _, rfl, by rw [dig_nat u h10]; omega, by rw [dig_nat u h10]; omega⟩
    · rw [dif_neg h10]
      obtain ⟨c, r, h1, h2, h3⟩ := ih (u / 10) (by omega)
      exact ⟨c, r ++ [_], by rw [h1]; rfl, h2, h3⟩
theorem dec_len (u : Nat) (k : Nat) (h : u < 10 ^ (k + 1)) : (Lib.decDigits u).length ≤ k + 1 := by
  induction k generalizing u with
  | zero =>
    rw [Lib.decDigits, dif_pos (by omega)]
    exact Nat.le_refl _
  | succ k ih =>
    rw [Lib.decDigits]
    by_cases h10 : u < 10
    · rw [dif_pos h10]; simp
    · rw [dif_neg h10, List.length_append]
      have := ih (u / 10) (by rw [Nat.pow_succ] at h; omega)
      simp only [List.length_cons, List.length_nil]
      omega
theorem itoa_len (n : Int) (h0 : -9223372036854775808 ≤ n) (h1 : n ≤ 9223372036854775807) : (Lib.itoa n).length ≤ 21 := by
  unfold Lib.itoa
  split
  · have := dec_len n.natAbs 19 (by omega)
    rw [List.length_cons]
    omega
  · have := dec_len n.toNat 19 (by omega)
    omega
theorem atoi_itoa (n : Int) (h0 : -9223372036854775808 ≤ n) (h1 : n ≤ 9223372036854775807) : Lib.atoiAll (Lib.itoa n) = .ok n := by
  unfold Lib.itoa
  by_cases hn : n < 0
  · rw [if_pos hn]
    unfold Lib.atoiAll
    obtain ⟨c, r, hd, _, _⟩ := dec_head n.natAbs
    have hp : Lib.parseMag (Lib.decDigits n.natAbs) = .ok n.natAbs := by
      unfold Lib.parseMag
      rw [if_neg (by rw [hd]; simp), parse_dec _ (by omega)]
    simp only
    rw [if_pos (.inr rfl), hp]
    simp only
    rw [if_neg (by simp), if_neg (by omega), if_pos (by decide)]
    congr 1
    omega
  · rw [if_neg hn]
    obtain ⟨c, r, hd, hc1, hc2⟩ := dec_head n.toNat
    have hp : Lib.parseMag (c :: r) = .ok n.toNat := by
      unfold Lib.parseMag
      rw [if_neg (by simp), ← hd, parse_dec _ (by omega)]
    rw [hd]
    unfold Lib.atoiAll
    simp only
    rw [if_neg (by omega), hp]
    simp only
    rw [if_neg (by omega), if_neg (by omega), if_neg (by omega)]
    congr 1
    omega
/-- An integer in decimal, read within limits. -/
theorem num_itoa (n least most : Int) (h0 : -9223372036854775808 ≤ n) (h1 : n ≤ 9223372036854775807) : numF (Lib.itoa n) least most = if n < least ∨ most < n then (0, 6) else (n, 0) := by
  unfold numF
  rw [atoi_itoa n h0 h1]
  simp
/-- Within all limits there is an integer, or an error of form. -/
theorem num_all (l : List UInt8) : (∃ v, numF l (-9223372036854775808) 9223372036854775807 = (v, 0) ∧ Lib.itoa v = l ∧ -9223372036854775808 ≤ v ∧ v ≤ 9223372036854775807) ∨ numF l (-9223372036854775808) 9223372036854775807 = (0, 2) := by
  unfold numF
  match h : Lib.atoiAll l with
  | .ok v =>
    have hr := atoi_range l v h
    by_cases he : Lib.itoa v = l
    · left
      refine ⟨v, ?_, he, hr⟩
      simp only
      rw [if_pos he, if_neg (by omega)]
    · right
      simp only
      rw [if_neg he]
  | Lib.NumEnd.syntax => exact .inr rfl
  | .range => exact .inr rfl
end Go.Proofs.YtiapkindbbbdpaaGreatDoor
