/- The walk of the law HashSmall. -/
import Derived.Test.YtennohgmenjaaaaL3
import Derived.Test.YtennohgmenjaaaaW9
import Derived.StillTailTactics
namespace Go.Proofs.Ytennohgmenjaaaa
open Go.RowKit Go.Shelf

theorem byte_of (x : Int) (h0 : 0 ≤ x) (h1 : x < 256) : x = ((UInt8.ofNat x.toNat).toNat : Int) := by
  rw [UInt8.toNat_ofNat']; omega
theorem conv_int (w : World) (x : Int) (h0 : 0 ≤ x) (h1 : x < 256) : (convert 34 9 (.slice (some ⟨w.heap.size, 0, none⟩) 1 1)).run Try.prog (w.alloc (.cells #[.int .u8 x] 5)) = .ok (.string ⟨#[UInt8.ofNat x.toNat]⟩) (w.alloc (.cells #[.int .u8 x] 5)) := by
  have := conv_one w (UInt8.ofNat x.toNat)
  rwa [← byte_of x h0 h1] at this
theorem conv_two (w : World) (x y : Int) (h0 : 0 ≤ x) (h1 : x < 256) (g0 : 0 ≤ y) (g1 : y < 256) : (convert 34 9 (.slice (some ⟨w.heap.size, 0, none⟩) 2 2)).run Try.prog (w.alloc (.cells #[.int .u8 x, .int .u8 y] 5)) = .ok (.string ⟨#[UInt8.ofNat x.toNat, UInt8.ofNat y.toNat]⟩) (w.alloc (.cells #[.int .u8 x, .int .u8 y] 5)) := by
  have h := run_convert_bytes_back (P := Try.prog) (w.alloc (.cells #[.int .u8 ((UInt8.ofNat x.toNat).toNat : Int), .int .u8 ((UInt8.ofNat y.toNat).toNat : Int)] 5)) 34 9 5 ⟨w.heap.size, 0, none⟩ 2 [UInt8.ofNat x.toNat, UInt8.ofNat y.toNat] Try.underlying34 Try.underlying5 Try.underlying9 (fun j hj => by
    have : j = 0 ∨ j = 1 := by simp at hj; omega
    rcases this with rfl | rfl <;> simp [go_sem, Addr.add])
  rwa [← byte_of x h0 h1, ← byte_of y g0 g1] at h
theorem numbers_k (h tt : BitVec 64) (n : Int) (hn1 : n ≤ 9223372036854775807) (b : Int) (h0 : 0 ≤ b) (h1 : b < 256) (w : World) :
    Calls Try.prog 13 #[.int .u64 (U h), .int .u64 (U tt), .int .i64 n, .int .u8 b] w fun e w' => e = .returned (.bool true) ∧ Below w.heap.size w w' := by
  rw [byte_of b h0 h1]; exact numbers_any h tt n hn1 _ w
/-- Three strings in a new row. -/
theorem strs_three (w : World) (a b c : ByteArray) : Strs (w.alloc (.cells #[.string a, .string b, .string c] 9)) (.slice (some ⟨w.heap.size, 0, none⟩) 3 3) [a, b, c] :=
  .inr ⟨w.heap.size, 0, 3, rfl, by simp, by simp, by unfold maxLen; simp, fun i hi => by
    have : i = 0 ∨ i = 1 ∨ i = 2 := by simp at hi; omega
    rcases this with rfl | rfl | rfl <;> simp [go_sem]⟩
theorem strs_three' (W : World) (n : Nat) (hn : W.heap.size = n) (a b c : ByteArray) : Strs (W.alloc (.cells #[.string a, .string b, .string c] 9)) (.slice (some ⟨n, 0, none⟩) 3 3) [a, b, c] := by
  subst hn; exact strs_three W a b c
theorem small3 (a b c : ByteArray) (ha : a.size ≤ 9) (hb : b.size ≤ 9) (hc : c.size ≤ 9) : Hid (∀ s ∈ [a, b, c], s.size ≤ 9223372036854775807) := by
  intro s hs
  simp only [List.mem_cons, List.not_mem_nil, or_false] at hs
  rcases hs with rfl | rfl | rfl <;> omega
theorem ext_le (T : ByteArray) (a b : Nat) (h : T.size ≤ 16) : (T.extract a b).size ≤ 9223372036854775807 := by
  rw [ByteArray.size_extract]; omega
theorem cat3_le (T : ByteArray) (a b c d : Nat) (x : UInt8) (h : T.size ≤ 16) : (T.extract a b ++ ⟨#[x]⟩ ++ T.extract c d).size ≤ 9223372036854775807 := by
  have : (⟨#[x]⟩ : ByteArray).size = 1 := rfl
  rw [ByteArray.size_append, ByteArray.size_append, ByteArray.size_extract, ByteArray.size_extract, this]; omega
/-- A row of seven strings: what the loop over it is told. -/
theorem seven {P : World → Prop} (wr : World) (a b c d e f g : ByteArray) (h1 : a.size ≤ 9223372036854775807) (h2 : b.size ≤ 9223372036854775807) (h3 : c.size ≤ 9223372036854775807) (h4 : d.size ≤ 9223372036854775807) (h5 : e.size ≤ 9223372036854775807) (h6 : f.size ≤ 9223372036854775807) (h7 : g.size ≤ 9223372036854775807)
    (k : ∀ wd, Below wr.heap.size wr wd → wr.heap.size < wd.heap.size → Hid (∀ j, j < 7 → ∃ s : ByteArray, s.size ≤ 9223372036854775807 ∧ wd.cell? ⟨wr.heap.size, j, none⟩ = some (.string s)) → P wd) :
    P ((wr.alloc (.cells #[.string a, .string b, .string c, .string d, .string e, .string f, .string g] 9)).drew) := by
  refine k _ ((Below.refl _ _).alloc (Nat.le_refl _) _).drew (by simp) ?_
  intro j hj
  rcases (show j = 0 ∨ j = 1 ∨ j = 2 ∨ j = 3 ∨ j = 4 ∨ j = 5 ∨ j = 6 by omega) with rfl | rfl | rfl | rfl | rfl | rfl | rfl
  · exact ⟨a, h1, by simp [go_sem]⟩
  · exact ⟨b, h2, by simp [go_sem]⟩
  · exact ⟨c, h3, by simp [go_sem]⟩
  · exact ⟨d, h4, by simp [go_sem]⟩
  · exact ⟨e, h5, by simp [go_sem]⟩
  · exact ⟨f, h6, by simp [go_sem]⟩
  · exact ⟨g, h7, by simp [go_sem]⟩
theorem tells_7 (v : Value) (L : List ByteArray) (w : World) (hL : Strs w v L) (hn : L.length ≤ 1000) (hs : Hid (∀ s ∈ L, s.size ≤ 9223372036854775807)) :
    Calls Try.prog 22 #[.int .u64 7, v] w fun e w' => e = .returned (.bool true) ∧ Below w.heap.size w w' := by
  have := tells_any 7#64 v L w hL hn hs
  rwa [show U 7#64 = 7 from by decide] at this
theorem numbers_z (h : BitVec 64) (n : Int) (hn1 : n ≤ 9223372036854775807) (w : World) :
    Calls Try.prog 13 #[.int .u64 (U h), .int .u64 0, .int .i64 n, .int .u8 0] w fun e w' => e = .returned (.bool true) ∧ Below w.heap.size w w' := by
  have := numbers_k h 0#64 n hn1 0 (by omega) (by omega) w
  rwa [show U 0#64 = 0 from by decide] at this
theorem hashes7 (w : World) (i : Nat) (hi : i < 7) : ∃ h : BitVec 64, (w.alloc (.cells #[.int .u64 0, .int .u64 1, .int .u64 255, .int .u64 256, .int .u64 18446744073709551615, .int .u64 14695981039346656037, .int .u64 9223372036854775808] 22)).cell? ⟨w.heap.size, i, none⟩ = some (.int .u64 (U h)) := by
  rcases (show i = 0 ∨ i = 1 ∨ i = 2 ∨ i = 3 ∨ i = 4 ∨ i = 5 ∨ i = 6 by omega) with rfl | rfl | rfl | rfl | rfl | rfl | rfl
  · exact ⟨0#64, by simp [go_sem]; decide⟩
  · exact ⟨1#64, by simp [go_sem]; decide⟩
  · exact ⟨255#64, by simp [go_sem]; decide⟩
  · exact ⟨256#64, by simp [go_sem]; decide⟩
  · exact ⟨18446744073709551615#64, by simp [go_sem]; decide⟩
  · exact ⟨14695981039346656037#64, by simp [go_sem]; decide⟩
  · exact ⟨9223372036854775808#64, by simp [go_sem]; decide⟩
theorem ints9 (w : World) (i : Nat) (hi : i < 9) : ∃ n : Int, n ≤ 9223372036854775807 ∧ (w.alloc (.cells #[.int .i64 (-9223372036854775808), .int .i64 (-1), .int .i64 0, .int .i64 1, .int .i64 2, .int .i64 63, .int .i64 64, .int .i64 1099511627776, .int .i64 9223372036854775807] 3)).cell? ⟨w.heap.size, i, none⟩ = some (.int .i64 n) := by
  rcases (show i = 0 ∨ i = 1 ∨ i = 2 ∨ i = 3 ∨ i = 4 ∨ i = 5 ∨ i = 6 ∨ i = 7 ∨ i = 8 by omega) with rfl | rfl | rfl | rfl | rfl | rfl | rfl | rfl | rfl
  · exact ⟨-9223372036854775808, by decide, by simp [go_sem]⟩
  · exact ⟨-1, by decide, by simp [go_sem]⟩
  · exact ⟨0, by decide, by simp [go_sem]⟩
  · exact ⟨1, by decide, by simp [go_sem]⟩
  · exact ⟨2, by decide, by simp [go_sem]⟩
  · exact ⟨63, by decide, by simp [go_sem]⟩
  · exact ⟨64, by decide, by simp [go_sem]⟩
  · exact ⟨1099511627776, by decide, by simp [go_sem]⟩
  · exact ⟨9223372036854775807, by decide, by simp [go_sem]⟩

set_option maxRecDepth 100000 in
set_option maxHeartbeats 2000000 in
theorem hashSmall_walk (w : World) :
    Calls Try.prog 12 #[] w fun e w' => e = .returned (.bool true) ∧ Below w.heap.size w w' := by
  go_enter Try.func12, Try.ntmps12
  go_wp2_with fail
  have H7 := Lib.hid (hashes7 w)
  obtain ⟨w0, hw0⟩ : ∃ w0, (w.alloc (.cells #[.int .u64 0, .int .u64 1, .int .u64 255, .int .u64 256, .int .u64 18446744073709551615, .int .u64 14695981039346656037, .int .u64 9223372036854775808] 22)) = w0 := ⟨_, rfl⟩
  have hb0 : Below w.heap.size w w0 := by rw [← hw0]; exact (Below.refl _ _).alloc (Nat.le_refl _) _
  have hlt0 : w.heap.size < w0.heap.size := by rw [← hw0]; simp
  rw [hw0] at H7 ⊢
  clear hw0
  go_loopw [12] (fun i wr => ∃ k : Nat, k ≤ 7 ∧ i = .int .i64 k ∧ Below w0.heap.size w0 wr) (fun i _ => 7 - (intOf i).toNat)
  case atStart => exact ⟨0, by omega, rfl, Below.refl _ _⟩
  case round =>
    obtain ⟨k, hk, rfl, hb⟩ := hrel
    obtain ⟨wo, rfl⟩ : ∃ wo : World, wo = wr := ⟨_, rfl⟩
    by_cases hlt : k < 7
    · obtain ⟨h, hc⟩ := H7.out k hlt
      have hc' := (hb.cell (p := ⟨w.heap.size, k, none⟩) hlt0).trans hc
      clear hc
      have hk7 : (k : Int) < 7 := by omega
      go_wp2_with fail
      go_loopw [16] (fun i wr => ∃ t : Nat, t ≤ 256 ∧ i = .int .i64 t ∧ Below w0.heap.size w0 wr) (fun i _ => 256 - (intOf i).toNat)
      case atStart => exact ⟨0, by omega, rfl, hb⟩
      case round =>
        obtain ⟨t, ht, rfl, hb2⟩ := hrel
        by_cases htl : t < 256
        · have ht256 : (t : Int) < 256 := by omega
          have hcv1 := conv_int wr t (by omega) (by omega)
          have hcv2 := conv_two (wr.alloc (.cells #[.int .u8 t] 5)) t ((t : Int) * 7 % 256) (by omega) (by omega) (by omega) (by omega)
          rw [World.size_alloc] at hcv2
          go_wp2_with fail
          clear hcv1 hcv2
          refine (tells_any h _ _ _ (strs_three' _ _ (by simp) _ _ _) (by simp) (small3 _ _ _ (by show 1 ≤ 9; omega) (by show 2 ≤ 9; omega) (by show 0 ≤ 9; omega))).mono ?_; rintro e w1 ⟨rfl, h3⟩
          replace hb2 := (((hb2.alloc hb2.size (.cells #[.int .u8 t] 5)).alloc (by have := hb2.size; simp; omega) (.cells #[.int .u8 t, .int .u8 ((t : Int) * 7 % 256)] 5)).alloc (by have := hb2.size; simp; omega) _).trans (h3.mono (by have := hb2.size; simp; omega))
          clear h3
          go_wp2_with fail
          rw [U_wrap (IntKind.u64.wrap (U h * (t : Int)) + 1)]
          refine (numbers_k h _ _ (by omega) _ (by omega) (by omega) _).mono ?_; rintro e w2 ⟨rfl, h3⟩; replace hb2 := hb2.trans (h3.mono hb2.size); clear h3
          go_wp2_with fail
          go_roundw
          case rel => exact ⟨t + 1, by omega, by go_num, hb2⟩
          case measure => simp [intOf]; omega
        · obtain rfl : t = 256 := by omega
          rw [show ((256 : Nat) : Int) = 256 from rfl]
          go_wp2_with fail
          obtain ⟨w8, rfl⟩ : ∃ w8 : World, w8 = wr := ⟨_, rfl⟩
          have H9 := Lib.hid (ints9 w8)
          obtain ⟨w9, hw9⟩ : ∃ w9, (w8.alloc (.cells #[.int .i64 (-9223372036854775808), .int .i64 (-1), .int .i64 0, .int .i64 1, .int .i64 2, .int .i64 63, .int .i64 64, .int .i64 1099511627776, .int .i64 9223372036854775807] 3)) = w9 := ⟨_, rfl⟩
          have hb9 : Below w0.heap.size w0 w9 := by rw [← hw9]; exact hb2.alloc hb2.size _
          have hlt9 : w8.heap.size < w9.heap.size := by rw [← hw9]; simp
          rw [hw9] at H9 ⊢
          clear hw9
          go_loopw [51] (fun i wx => ∃ t : Nat, t ≤ 9 ∧ i = .int .i64 t ∧ Below w9.heap.size w9 wx) (fun i _ => 9 - (intOf i).toNat)
          case atStart => exact ⟨0, by omega, rfl, Below.refl _ _⟩
          case round =>
            obtain ⟨t, ht9, rfl, hb3⟩ := hrel
            by_cases htl9 : t < 9
            · have ht9i : (t : Int) < 9 := by omega
              obtain ⟨n, hn, hcn⟩ := H9.out t htl9
              have hcn' := (hb3.cell (p := ⟨w8.heap.size, t, none⟩) hlt9).trans hcn
              clear hcn
              go_wp2_with fail
              refine (numbers_z h n hn _).mono ?_; rintro e w2 ⟨rfl, h3⟩; replace hb3 := hb3.trans (h3.mono hb3.size); clear h3
              go_wp2_with fail
              go_roundw
              case rel => exact ⟨t + 1, by omega, by go_num, hb3⟩
              case measure => simp [intOf]; omega
            · obtain rfl : t = 9 := by omega
              go_wp2_with fail
              go_roundw
              case rel => exact ⟨k + 1, by omega, by go_num, hb9.trans (hb3.mono hb9.size)⟩
              case measure => simp [intOf]; omega
    · obtain rfl : k = 7 := by omega
      replace hb := on_trans hb0 hb
      clear H7
      go_wp2_with fail
      refine (tells_7 _ [] _ (.inl ⟨none, 0, (fun _ => rfl), rfl, rfl⟩) (by simp) (fun _ h => by cases h)).mono ?_; rintro e w1 ⟨rfl, h3⟩; replace hb := on_trans hb h3; clear h3
      go_wp2_with fail
      refine (tells_7 _ _ _ (strs_three' _ _ (by simp) _ _ _) (by simp) (small3 _ _ _ (by decide) (by decide) (by decide))).mono ?_; rintro e w2 ⟨rfl, h3⟩; replace hb := (hb.alloc hb.size _).trans (h3.mono (by have := hb.size; simp; omega)); clear h3
      go_wp2_with fail
      refine (tells_7 _ _ _ (strs_three' _ _ (by simp) _ _ _) (by simp) (small3 _ _ _ (by decide) (by decide) (by decide))).mono ?_; rintro e w3 ⟨rfl, h3⟩; replace hb := (hb.alloc hb.size _).trans (h3.mono (by have := hb.size; simp; omega)); clear h3
      go_wp2_with fail
      go_loopw [76] (fun i wx => ∃ t : Nat, t ≤ 17 ∧ i = .int .i64 t ∧ Below w.heap.size w wx) (fun i _ => 17 - (intOf i).toNat)
      case atStart => exact ⟨0, by omega, rfl, hb⟩
      case round =>
        obtain ⟨t, ht, rfl, hb⟩ := hrel
        by_cases htl : t < 17
        · have ht17 : (t : Int) < 17 := by omega
          go_wp2_with fail
          go_region
          go_wp2_with fail
          refine seven (P := Code.wp Try.prog _ _ _) wr _ _ _ _ _ _ _ (ext_le _ _ _ (by decide)) (ext_le _ _ _ (by decide)) (cat3_le _ _ _ _ _ _ (by decide)) (cat3_le _ _ _ _ _ _ (by decide)) (cat3_le _ _ _ _ _ _ (by decide)) (cat3_le _ _ _ _ _ _ (by decide)) (cat3_le _ _ _ _ _ _ (by decide)) ?_
          intro wd hbd hltd HD
          obtain ⟨w8, rfl⟩ : ∃ w8 : World, w8 = wr := ⟨_, rfl⟩
          go_loopw [135] (fun i wx => ∃ j : Nat, j ≤ 7 ∧ i = .int .i64 j ∧ Below wd.heap.size wd wx) (fun i _ => 7 - (intOf i).toNat)
          case atStart => exact ⟨0, by omega, rfl, Below.refl _ _⟩
          case round =>
            obtain ⟨j, hj, rfl, hb3⟩ := hrel
            by_cases hjl : j < 7
            · have hj7 : (j : Int) < 7 := by omega
              obtain ⟨s, hs, hcs⟩ := HD.out j hjl
              have hcs' := (hb3.cell (p := ⟨w8.heap.size, j, none⟩) hltd).trans hcs
              clear hcs
              go_wp2_with fail
              refine (reads_any s hs _).mono ?_; rintro e w9 ⟨rfl, h3⟩; replace hb3 := hb3.trans (h3.mono hb3.size); clear h3
              go_wp2_with fail
              go_roundw
              case rel => exact ⟨j + 1, by omega, by go_num, hb3⟩
              case measure => simp [intOf]; omega
            · obtain rfl : j = 7 := by omega
              go_wp2_with fail
              go_roundw
              case rel => exact ⟨t + 1, by omega, by go_num, on_trans hb (on_trans hbd hb3)⟩
              case measure => simp [intOf]; omega
        · obtain rfl : t = 17 := by omega
          go_wp2_with fail
          refine (reads_any _ (by decide) _).mono ?_; rintro e w4 ⟨rfl, h3⟩; replace hb := on_trans hb h3; clear h3
          go_wp2_with fail
          refine (reads_any _ (by decide) _).mono ?_; rintro e w4 ⟨rfl, h3⟩; replace hb := on_trans hb h3; clear h3
          go_wp2_with fail
          refine (reads_any _ (by decide) _).mono ?_; rintro e w4 ⟨rfl, h3⟩; replace hb := on_trans hb h3; clear h3
          go_wp2_with fail
          refine (awake_any _).mono ?_; rintro e w4 ⟨rfl, h3⟩; replace hb := on_trans hb h3; clear h3
          go_wp2_with fail
          go_ret
          exact ⟨rfl, hb⟩
end Go.Proofs.Ytennohgmenjaaaa
