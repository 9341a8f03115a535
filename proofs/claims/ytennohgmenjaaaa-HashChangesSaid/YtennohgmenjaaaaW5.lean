/- Contract of hash.Text. -/
import Derived.Test.YtennohgmenjaaaaW4
namespace Go.Proofs.Ytennohgmenjaaaa
open Go.RowKit Go.Shelf

/-- The row of digits when k of them are there, the last ones first. -/
def dig (h : BitVec 64) (k : Nat) : Array Value := ((List.range 16).map fun i => if 15 - i < k then enc8 (hexd (nib h (15 - i))) else .int .u8 0).toArray
theorem dig_size (h : BitVec 64) (k : Nat) : (dig h k).size = 16 := by simp [dig]
theorem dig_zero (h : BitVec 64) : #[Value.int .u8 0, .int .u8 0, .int .u8 0, .int .u8 0, .int .u8 0, .int .u8 0, .int .u8 0, .int .u8 0, .int .u8 0, .int .u8 0, .int .u8 0, .int .u8 0, .int .u8 0, .int .u8 0, .int .u8 0, .int .u8 0] = dig h 0 := rfl
theorem dig_succ (h : BitVec 64) (k : Nat) (hk : k < 16) : (dig h k).setIfInBounds (15 - k) (enc8 (hexd (nib h k))) = dig h (k + 1) := by
  apply Array.ext
  · simp [dig]
  · intro i h1 h2
    have hi : i < 16 := by simpa [dig] using h2
    rw [Array.getElem_setIfInBounds (by simp [dig]; omega)]
    by_cases e : 15 - k = i
    · subst e
      rw [if_pos rfl]
      simp only [dig, List.getElem_toArray, List.getElem_map, List.getElem_range]
      rw [show 15 - (15 - k) = k by omega, if_pos (by omega)]
    · rw [if_neg e]
      simp only [dig, List.getElem_toArray, List.getElem_map, List.getElem_range]
      by_cases hc : 15 - i < k
      · rw [if_pos hc, if_pos (by omega)]
      · rw [if_neg hc, if_neg (by omega)]
theorem dig_old (h : BitVec 64) (k : Nat) (hk : k < 16) : (dig h k)[15 - k]? = some (.int .u8 0) := by
  rw [Array.getElem?_eq_getElem (by simp [dig]; omega)]
  simp only [dig, List.getElem_toArray, List.getElem_map, List.getElem_range]
  rw [if_neg (by omega)]
theorem dig_all (h : BitVec 64) (j : Nat) (hj : j < (text h).length) : (dig h 16)[j]? = some (.int .u8 ((text h)[j].toNat : Int)) := by
  have hj' : j < 16 := by rw [text_length] at hj; exact hj
  rw [Array.getElem?_eq_getElem (by simp [dig]; omega)]
  simp only [dig, List.getElem_toArray, List.getElem_map, List.getElem_range, text]
  rw [if_pos (by omega)]; rfl
theorem nib_and (h : BitVec 64) (k : Nat) (_hk : k < 16) : bits .and .u64 (U h / 2 ^ (4 * k)) 15 = ((nib h k : Nat) : Int) := by
  have e : U h / 2 ^ (4 * k) = ((h.toNat / 16 ^ k : Nat) : Int) := by
    unfold U; rw [show (16 : Nat) ^ k = 2 ^ (4 * k) by rw [Nat.pow_mul]]; norm_cast
  have hl : h.toNat / 16 ^ k < 18446744073709551616 := Nat.lt_of_le_of_lt (Nat.div_le_self _ _) h.isLt
  rw [e, show (15 : Int) = ((15 : Nat) : Int) from rfl, u64_and_nat _ _ hl (by decide), nib]
  rw [show (15 : Nat) = 2 ^ 4 - 1 from rfl, Nat.and_two_pow_sub_one_eq_mod]
theorem hex_at (n : Nat) (hn : n < 16) : (({ data := #[48, 49, 50, 51, 52, 53, 54, 55, 56, 57, 97, 98, 99, 100, 101, 102] } : ByteArray)[n]'hn) = hexd n := by
  have : ∀ m : Fin 16, (({ data := #[48, 49, 50, 51, 52, 53, 54, 55, 56, 57, 97, 98, 99, 100, 101, 102] } : ByteArray)[m.val]'m.isLt) = hexd m.val := by decide
  exact this ⟨n, hn⟩

set_option maxRecDepth 100000 in
set_option maxHeartbeats 1000000 in
theorem text_any (h : BitVec 64) (w : World) :
    Calls Try.prog 25 #[.int .u64 (U h)] w fun e w' => e = .returned (.string ⟨(text h).toArray⟩) ∧ Below w.heap.size w w' := by
  go_enter Try.func25, Try.ntmps25
  go_wp2
  go_loopw [5] (fun i wr => ∃ k : Nat, k ≤ 16 ∧ i = .int .i64 k ∧ wr = w.alloc (.cells (dig h k) 64)) (fun i _ => 16 - (intOf i).toNat)
  case atStart => exact ⟨0, by omega, rfl, by rw [dig_zero h]⟩
  case round =>
    obtain ⟨k, hk, rfl, rfl⟩ := hrel
    by_cases hlt : k < 16
    · have hb := nib_and h k hlt
      have hn := nib_lt h k
      have hold := dig_old h k hlt
      go_wp2
      go_roundw
      case rel => exact ⟨k + 1, by omega, by go_num, by rw [hex_at _ hn, ← dig_succ h k hlt]; rfl⟩
      case measure => simp [intOf]; omega
    · obtain rfl : k = 16 := by omega
      have hcv := run_convert_bytes_back (P := Try.prog) (w.alloc (.cells (dig h 16) 64)) 34 9 5 ⟨w.heap.size, 0, none⟩ 16 (text h) Try.underlying34 Try.underlying5 Try.underlying9 (fun j hj => by
        rw [show (⟨w.heap.size, 0, none⟩ : Addr).add j = ⟨w.heap.size, j, none⟩ by simp [Addr.add]; omega]
        rw [World.cell?_alloc_mark]; exact dig_all h j hj)
      rw [text_length] at hcv
      go_wp2
      go_ret
      exact ⟨rfl, (Below.refl _ _).alloc (Nat.le_refl _) _⟩
end Go.Proofs.Ytennohgmenjaaaa
