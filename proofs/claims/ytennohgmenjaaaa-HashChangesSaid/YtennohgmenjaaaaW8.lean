/- Contracts of the reference Back, of hash.Parts and the reference Parts. -/
import Derived.Test.YtennohgmenjaaaaW7
namespace Go.Proofs.Ytennohgmenjaaaa
open Go.RowKit Go.Shelf

theorem rback_eq (x : BitVec 64) (c : UInt8) :
    IntKind.u64.wrap (U (x - x % 256#64) + IntKind.u64.wrap (bits .xor .u8 (U (x % 256#64) % 256) (c.toNat : Int))) = U (x ^^^ zx c) := by
  have hc := c.toNat_lt
  have e2 : U (x % 256#64) % 256 = ((x.toNat % 256 : Nat) : Int) := by
    unfold U; rw [BitVec.toNat_umod]
    show ((x.toNat % 256 : Nat) : Int) % 256 = _
    omega
  rw [e2, u8_xor_nat _ _ (by omega) (by omega)]
  have e3 : IntKind.u64.wrap ((x.toNat % 256 ^^^ c.toNat : Nat) : Int) = U (BitVec.ofNat 64 (x.toNat % 256 ^^^ c.toNat)) := by
    rw [U_wrap, BitVec.ofInt_natCast]
  rw [e3, U_add, ref_step]

set_option maxRecDepth 100000 in
set_option maxHeartbeats 1000000 in
theorem rback_any (h : BitVec 64) (s : ByteArray) (hs : s.size ≤ 9223372036854775807) (w : World) :
    Calls Try.prog 36 #[.int .u64 (U h), .string s] w fun e w' => e = .returned (.int .u64 (U (hback h s.data.toList.reverse))) ∧ Below w.heap.size w w' := by
  go_enter Try.func36, Try.ntmps36
  go_wp2
  go_loopw [0, 5] (fun x i wr => ∃ k : Nat, k ≤ s.size ∧ i = .int .i64 (s.size - 1 - k) ∧ x = .int .u64 (U (hback h (come s true k))) ∧ Below w.heap.size w wr) (fun _ i _ => (intOf i + 1).toNat)
  case atStart => exact ⟨0, by omega, by simp, by simp [come, hback], Below.refl _ _⟩
  case round =>
    obtain ⟨k, hk, rfl, rfl, hb⟩ := hrel
    by_cases hlt : k < s.size
    · have H := Lib.hid (come_succ_bwd s k hlt)
      have hlt' : s.size - 1 - k < s.size := by omega
      go_wp2_with fail
      refine (half_any _ _).mono ?_; rintro e w1 ⟨rfl, n, rfl⟩
      replace hb := below_drewN hb n
      go_wp2_with fail
      go_roundw
      case rel => exact ⟨k + 1, by omega, by go_num, by rw [rback_eq, H.out, hback_snoc]; rfl, hb⟩
      case measure => simp [intOf]; omega
    · obtain rfl : k = s.size := by omega
      go_wp2_with fail
      go_ret
      exact ⟨by rw [come_all]; rfl, hb⟩

/-- The eight bytes of a length, the lowest one first. -/
def lenb (n : Nat) : List UInt8 := (List.range 8).map fun j => UInt8.ofNat (n / 256 ^ j)
theorem lenb_length (n : Nat) : (lenb n).length = 8 := by simp [lenb]
theorem lenb_succ (n j : Nat) (hj : j < 8) : (lenb n).take (j + 1) = (lenb n).take j ++ [UInt8.ofNat (n / 256 ^ j)] := by
  rw [List.take_succ_eq_append_getElem (by rw [lenb_length]; omega)]
  simp [lenb]
def hpart (h : BitVec 64) (s : ByteArray) : BitVec 64 := hadd (hadd h (lenb s.size)) s.data.toList
def hparts (L : List ByteArray) : BitVec 64 := L.foldl hpart offset
theorem hparts_snoc (L : List ByteArray) (s : ByteArray) : hparts (L ++ [s]) = hpart (hparts L) s := by simp [hparts]

/-- A slice that reads as a list of strings. -/
def Strs (W : World) (v : Value) (L : List ByteArray) : Prop :=
  (∃ a c, (a = none → c = 0) ∧ v = .slice a 0 c ∧ L = []) ∨ ∃ b off cap, v = .slice (some ⟨b, off, none⟩) L.length cap ∧ b < W.heap.size ∧ L.length ≤ cap ∧ cap ≤ maxLen ∧ ∀ i (hi : i < L.length), W.cell? ⟨b, off + i, none⟩ = some (.string L[i])
theorem Strs.on {W W' : World} {v : Value} {L : List ByteArray} (h : Strs W v L) (hb : Below W.heap.size W W') : Strs W' v L := by
  rcases h with h | ⟨b, off, cap, rfl, hlt, h1, h2, hc⟩
  · exact .inl h
  · exact .inr ⟨b, off, cap, rfl, Nat.lt_of_lt_of_le hlt hb.size, h1, h2, fun i hi => (hb.cell (p := ⟨b, off + i, none⟩) hlt).trans (hc i hi)⟩

theorem UInt8.ofNat_mod_size' (m : Nat) : UInt8.ofNat (m % 256) = UInt8.ofNat m := by
  apply UInt8.toNat_inj.1; rw [UInt8.toNat_ofNat', UInt8.toNat_ofNat']; omega
theorem take_snoc {α : Type} (L : List α) (k : Nat) (h : k < L.length) : L.take (k + 1) = L.take k ++ [L[k]] := by
  rw [List.take_succ_eq_append_getElem h]

theorem len_step (h : BitVec 64) (m : Nat) (_hm : m < 18446744073709551616) :
    IntKind.u64.wrap (bits .xor .u64 (U h) (bits .and .u64 (m : Int) 255) * 1099511628211) = U (hstep h (UInt8.ofNat m)) := by
  have e1 : bits .and .u64 (m : Int) 255 = U (zx (UInt8.ofNat m)) := by
    rw [show (255 : Int) = ((255 : Nat) : Int) from rfl, u64_and_nat _ _ _hm (by decide), U, zx_toNat, UInt8.toNat_ofNat', show (255 : Nat) = 2 ^ 8 - 1 from rfl, Nat.and_two_pow_sub_one_eq_mod]
  rw [e1, U_xor, prime_lit, U_mul]; rfl

set_option maxRecDepth 100000 in
set_option maxHeartbeats 1000000 in
theorem parts_any (v : Value) (L : List ByteArray) (w : World) (hL : Strs w v L) (hs : Hid (∀ s ∈ L, s.size ≤ 9223372036854775807)) :
    Calls Try.prog 23 #[v] w fun e w' => e = .returned (.int .u64 (U (hparts L))) ∧ Below w.heap.size w w' := by
  rcases hL with ⟨a', c', -, rfl, rfl⟩ | ⟨b, off, cap, rfl, hlt, h1, h2, hc⟩
  · go_enter Try.func23, Try.ntmps23
    go_wp2
    refine wp_loop_rounds 1 ?_
    rw [rounds_succ]; go_wp2
    go_ret
    exact ⟨ret_u64 offset_lit, Below.refl _ _⟩
  · unfold maxLen at h2
    have HC := Lib.hid hc
    clear hc
    go_enter Try.func23, Try.ntmps23
    go_wp2
    go_loopw [3, 9] (fun x i wr => ∃ k : Nat, k ≤ L.length ∧ i = .int .i64 k ∧ x = .int .u64 (U (hparts (L.take k))) ∧ Below w.heap.size w wr) (fun _ i _ => L.length - (intOf i).toNat)
    case atStart => exact ⟨0, by omega, rfl, congrArg (Value.int .u64) offset_lit, Below.refl _ _⟩
    case round =>
      obtain ⟨k, hk, rfl, rfl, hb⟩ := hrel
      obtain ⟨wo, rfl⟩ : ∃ wo : World, wo = wr := ⟨_, rfl⟩
      by_cases hlk : k < L.length
      · obtain ⟨s, hsk⟩ : ∃ s, s = L[k] := ⟨_, rfl⟩
        have hcell : wo.cell? ⟨b, off + k, none⟩ = some (.string s) := by rw [hsk]; exact (hb.cell (p := ⟨b, off + k, none⟩) hlt).trans (HC.out k hlk)
        have hsz : s.size ≤ 9223372036854775807 := by rw [hsk]; exact hs.out _ (List.getElem_mem hlk)
        have HS := Lib.hid hsk
        clear hsk
        have HT := Lib.hid (take_snoc L k hlk)
        go_wp2
        go_loop [3, 6, 16] (fun x n j => ∃ t m : Nat, t ≤ 8 ∧ m ≤ s.size ∧ j = .int .i64 t ∧ n = .int .u64 m ∧ Hid (m = s.size / 256 ^ t) ∧ x = .int .u64 (U (hadd (hparts (L.take k)) ((lenb s.size).take t)))) (fun _ _ j => 8 - (intOf j).toNat)
        case atStart => exact ⟨0, s.size, by omega, by omega, rfl, rfl, by show _ = _; simp, rfl⟩
        case round =>
          obtain ⟨t, m, ht, hm, rfl, rfl, hd, rfl⟩ := hrel
          by_cases htl : t < 8
          · have H8 := Lib.hid (lenb_succ s.size t htl)
            go_wp2
            go_round
            case rel => exact ⟨t + 1, m / 256, by omega, by omega, by go_num, by go_num, by show _ = _; rw [hd.out, Nat.pow_succ, Nat.div_div_eq_div_mul], by rw [H8.out, hadd_snoc, ← len_step _ _ (by have := hd.out; have := Nat.div_le_self s.size (256 ^ t); omega), ← hd.out]⟩
            case measure => simp [intOf]; omega
          · obtain rfl : t = 8 := by omega
            rw [List.take_of_length_le (l := lenb s.size) (by rw [lenb_length]; omega)]
            go_wp2_with fail
            refine (add_any _ _ hsz _).mono ?_; rintro e w1 ⟨rfl, h3⟩; replace hb := on_trans hb h3; clear h3
            go_wp2_with fail
            go_roundw
            case rel => exact ⟨k + 1, by omega, by go_num, by rw [HT.out, hparts_snoc, ← HS.out, hpart], hb⟩
            case measure => simp [intOf]; omega
      · obtain rfl : k = L.length := by omega
        rw [List.take_length]
        go_wp2_with fail
        go_ret
        exact ⟨rfl, hb⟩

set_option maxRecDepth 100000 in
set_option maxHeartbeats 1000000 in
theorem rparts_any (v : Value) (L : List ByteArray) (w : World) (hL : Strs w v L) (hs : Hid (∀ s ∈ L, s.size ≤ 9223372036854775807)) :
    Calls Try.prog 34 #[v] w fun e w' => e = .returned (.int .u64 (U (hparts L))) ∧ w = w' := by
  rcases hL with ⟨a', c', -, rfl, rfl⟩ | ⟨b, off, cap, rfl, hlt, h1, h2, hc⟩
  · go_enter Try.func34, Try.ntmps34
    go_wp2
    refine wp_loop_rounds 1 ?_
    rw [rounds_succ]; go_wp2
    go_ret
    exact ⟨ret_u64 offset_lit, rfl⟩
  · unfold maxLen at h2
    have HC := Lib.hid hc
    clear hc
    go_enter Try.func34, Try.ntmps34
    go_wp2
    go_loop [3, 4] (fun x i => ∃ k : Nat, k ≤ L.length ∧ i = .int .i64 k ∧ x = .int .u64 (U (hparts (L.take k)))) (fun _ i => L.length - (intOf i).toNat)
    case atStart => exact ⟨0, by omega, rfl, congrArg (Value.int .u64) offset_lit⟩
    case round =>
      obtain ⟨k, hk, rfl, rfl⟩ := hrel
      by_cases hlk : k < L.length
      · obtain ⟨s, hsk⟩ : ∃ s, s = L[k] := ⟨_, rfl⟩
        have hcell : w.cell? ⟨b, off + k, none⟩ = some (.string s) := by rw [hsk]; exact HC.out k hlk
        have hsz : s.size ≤ 9223372036854775807 := by rw [hsk]; exact hs.out _ (List.getElem_mem hlk)
        have HS := Lib.hid hsk
        clear hsk
        have HT := Lib.hid (take_snoc L k hlk)
        go_wp2
        go_loop [3, 5, 6] (fun x n j => ∃ t m : Nat, t ≤ 8 ∧ m ≤ s.size ∧ j = .int .i64 t ∧ n = .int .i64 m ∧ Hid (m = s.size / 256 ^ t) ∧ x = .int .u64 (U (hadd (hparts (L.take k)) ((lenb s.size).take t)))) (fun _ _ j => 8 - (intOf j).toNat)
        case atStart => exact ⟨0, s.size, by omega, by omega, rfl, rfl, by show _ = _; simp, rfl⟩
        case round =>
          obtain ⟨t, m, ht, hm, rfl, rfl, hd, rfl⟩ := hrel
          by_cases htl : t < 8
          · have H8 := Lib.hid (lenb_succ s.size t htl)
            have hc : ((m : Int) % 256) = ((m % 256 : Nat) : Int) := by omega
            have HM := Lib.hid hc
            clear hc
            go_wp2_with fail
            rw [HM.out]
            refine (step_nat _ _ (by omega) _).mono ?_; rintro e w1 ⟨rfl, rfl⟩
            go_wp2_with fail
            go_round
            case rel => exact ⟨t + 1, m / 256, by omega, by omega, by go_num, by go_num, by show _ = _; rw [hd.out, Nat.pow_succ, Nat.div_div_eq_div_mul], by rw [H8.out, hadd_snoc, ← hd.out, UInt8.ofNat_mod_size']⟩
            case measure => simp [intOf]; omega
          · obtain rfl : t = 8 := by omega
            rw [List.take_of_length_le (l := lenb s.size) (by rw [lenb_length]; omega)]
            go_wp2_with fail
            refine (radd_any _ _ hsz _).mono ?_; rintro e w1 ⟨rfl, rfl⟩
            go_wp2_with fail
            go_round
            case rel => exact ⟨k + 1, by omega, by go_num, by rw [HT.out, hparts_snoc, ← HS.out, hpart]⟩
            case measure => simp [intOf]; omega
      · obtain rfl : k = L.length := by omega
        rw [List.take_length]
        go_wp2_with fail
        go_ret
        exact ⟨rfl, rfl⟩
end Go.Proofs.Ytennohgmenjaaaa
