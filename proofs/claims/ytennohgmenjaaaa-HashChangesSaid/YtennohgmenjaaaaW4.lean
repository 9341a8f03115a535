/- Contracts of the reference digit and Text. -/
import Derived.Test.YtennohgmenjaaaaW3
import Derived.Test.YtennohgmenjaaaaG
import Derived.Deep.DeepMust
namespace Go.Proofs.Ytennohgmenjaaaa
open Go.RowKit Go.Shelf

/-- The hexadecimal digit of a number below 16. -/
def hexd (n : Nat) : UInt8 := if n < 10 then UInt8.ofNat (48 + n) else UInt8.ofNat (87 + n)
theorem hexd_lo {n : Nat} (h : n < 10) : ((hexd n).toNat : Int) = 48 + n := by
  rw [hexd, if_pos h, UInt8.toNat_ofNat']; omega
theorem hexd_hi {n : Nat} (h : 10 ≤ n) (h' : n < 16) : ((hexd n).toNat : Int) = 87 + n := by
  rw [hexd, if_neg (by omega), UInt8.toNat_ofNat']; omega
theorem ret_u8 {a b : Int} (h : a = b) : Ending.returned (.int .u8 a) = .returned (.int .u8 b) := by rw [h]

set_option maxRecDepth 100000 in
set_option maxHeartbeats 400000 in
theorem digit_any (n : Nat) (hn : n < 16) (w : World) :
    Calls Try.prog 39 #[.int .u64 n] w fun e w' => e = .returned (.int .u8 ((hexd n).toNat : Int)) ∧ w = w' := by
  by_cases h : n < 10
  · have H := Lib.hid (hexd_lo h)
    go_enter Try.func39, Try.ntmps39
    go_wp2
    go_ret
    exact ⟨ret_u8 (by rw [H.out]), rfl⟩
  · have H := Lib.hid (hexd_hi (Nat.le_of_not_lt h) hn)
    go_enter Try.func39, Try.ntmps39
    go_wp2
    go_ret
    exact ⟨ret_u8 (by rw [H.out]), rfl⟩

/-- The digit of a hash that counts 16^j. -/
def nib (h : BitVec 64) (j : Nat) : Nat := h.toNat / 16 ^ j % 16
theorem nib_lt (h : BitVec 64) (j : Nat) : nib h j < 16 := Nat.mod_lt _ (by decide)
/-- The text of a hash. -/
def text (h : BitVec 64) : List UInt8 := (List.range 16).map fun i => hexd (nib h (15 - i))
theorem text_length (h : BitVec 64) : (text h).length = 16 := by simp [text]
theorem text_succ (h : BitVec 64) (k : Nat) (hk : k < 16) : (text h).take (k + 1) = (text h).take k ++ [hexd (nib h (15 - k))] := by
  rw [List.take_succ_eq_append_getElem (by rw [text_length]; omega)]
  simp [text]

theorem nib_val (h : BitVec 64) (j : Nat) : (U h / 2 ^ (4 * j)).tmod 16 = ((nib h j : Nat) : Int) := by
  rw [Int.tmod_eq_emod_of_nonneg (by rw [U]; exact Int.ediv_nonneg (by omega) (by exact_mod_cast Nat.zero_le (2 ^ (4 * j))))]
  unfold U nib; rw [show (16 : Nat) ^ j = 2 ^ (4 * j) by rw [Nat.pow_mul]]; norm_cast
theorem Try.info5 : (Try.prog.info? 5).map (fun i => (i.zero, i.size, i.bytes)) = some (some (.int .u8 0), 1, 1) := by kernel_rfl

set_option maxRecDepth 100000 in
set_option maxHeartbeats 1000000 in
theorem rtext_any (h : BitVec 64) (w : World) :
    Calls Try.prog 28 #[.int .u64 (U h)] w fun e w' => e = .returned (.string ⟨(text h).toArray⟩) ∧ Below w.heap.size w w' := by
  go_enter Try.func28, Try.ntmps28
  go_wp2
  go_loopw [3, 4] (fun v i wr => ∃ k : Nat, k ≤ 16 ∧ i = .int .i64 (15 - k) ∧ wr.ownsRow w.heap.size 5 1 v k (((text h).take k).map enc8) ∧ Below w.heap.size w wr) (fun _ i _ => (intOf i + 1).toNat)
  case atStart => exact ⟨0, by omega, rfl, by simpa using World.ownsRow_nil _ _ _ _, Below.refl _ _⟩
  case round =>
    obtain ⟨k, hk, rfl, hown, hB⟩ := hrel
    by_cases hlt : k < 16
    · have H := Lib.hid (text_succ h k hlt)
      go_wp2_with fail
      rw [nib_val]
      refine (digit_any _ (nib_lt _ _) _).mono ?_
      rintro e w' ⟨rfl, rfl⟩
      go_wp2_with (at_builtin; go_must (refine app_one rfl (.tmp 9) (.tmp 16) 34 rfl w.heap.size (.int .u8 0) 1 Try.underlying34 Try.info5 rfl _ _ _ rfl rfl hown rfl (by omega) (by omega) hB.size ?_); rintro v' w1 hown' hb1 - - ⟨g, cap, rfl⟩)
      go_roundw
      case rel => exact ⟨k + 1, by omega, by go_num, by rw [H.out, List.map_append]; exact hown', hB.trans hb1⟩
      case measure => simp [intOf]; omega
    · obtain rfl : k = 16 := by omega
      have hc := conv_owned (P := Try.prog) (src := 34) (dst := 9) Try.underlying34 Try.underlying5 Try.underlying9 hown
      rw [List.take_of_length_le (by rw [text_length]; omega)] at hc
      go_wp2_with fail
      go_ret
      exact ⟨rfl, hB⟩

end Go.Proofs.Ytennohgmenjaaaa
