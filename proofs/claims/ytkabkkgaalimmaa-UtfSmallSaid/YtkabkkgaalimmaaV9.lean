/- The contract of awake, the examples of the chapter. -/
import Derived.Test.YtkabkkgaalimmaaV7
import Derived.Test.YtkabkkgaalimmaaV8
namespace Go.Proofs.Ytkabkkgaalimmaa
open Go.RowKit Go.Shelf

theorem Bts.of_owned {W : World} {base e n : Nat} {v : Value} {l : List UInt8} (h : W.ownsRow base e 1 v n (l.map enc8)) (hl : l.length ≤ 4611686018427387904) : Bts W v l := by
  have hn : l.length = n := by have := h.1; simpa using this
  have h' := h
  rcases h.2 with ⟨rfl, rfl⟩ | ⟨g, cap, cur, rfl, _, hg, h1, h2, _⟩
  · exact .inl ⟨none, 0, rfl, List.eq_nil_of_length_eq_zero hn⟩
  · subst hn
    refine .inr ⟨g, 0, cap, rfl, hl, fun i hi => ?_⟩
    rw [Nat.zero_add]; exact owned_cells h' i hi
/-- Bytes that lie below the world's end are kept. -/
theorem Bts.on {W W' : World} {v : Value} {l : List UInt8} (h : Bts W v l) (hb : Below W.heap.size W W') : Bts W' v l := by
  rcases h with h | ⟨b, off, cap, rfl, hl, hc⟩
  · exact .inl h
  · refine .inr ⟨b, off, cap, rfl, hl, fun i hi => ?_⟩
    obtain ⟨o, ho, _⟩ := cells_of_cell (hc i hi)
    have hlt := (Array.getElem?_eq_some_iff.1 ho).1
    exact (hb.cell (p := ⟨b, off + i, none⟩) hlt).trans (hc i hi)
theorem on_trans {w a b : World} (h : Below w.heap.size w a) (k : Below a.heap.size a b) : Below w.heap.size w b := h.trans (k.mono h.size)
theorem below_drewN {B : Nat} {a w : World} (h : Below B a w) (n : Nat) : Below B a (w.drewN n) := h.trans ⟨rfl, rfl, rfl, Nat.le_refl _, fun _ _ => rfl⟩
theorem bts_lit (w : World) (b : Nat) (hb : w.heap.size = b) (a c : UInt8) (d : UInt8) : Bts (w.alloc (.cells #[.int .u8 (a.toNat : Int), .int .u8 (c.toNat : Int), .int .u8 (d.toNat : Int)] 5)) (.slice (some ⟨b, 0, none⟩) 3 3) [a, c, d] := by
  subst hb
  refine .inr ⟨w.heap.size, 0, 3, rfl, by simp, fun i hi => ?_⟩
  have hi' : i < 3 := by simpa using hi
  rcases i with _ | _ | _ | i
  · simp [go_sem]
  · simp [go_sem]
  · simp [go_sem]
  · omega
theorem bts_lit4 (w : World) (b : Nat) (hb : w.heap.size = b) (a c d f : UInt8) : Bts (w.alloc (.cells #[.int .u8 (a.toNat : Int), .int .u8 (c.toNat : Int), .int .u8 (d.toNat : Int), .int .u8 (f.toNat : Int)] 5)) (.slice (some ⟨b, 0, none⟩) 4 4) [a, c, d, f] := by
  subst hb
  refine .inr ⟨w.heap.size, 0, 4, rfl, by simp, fun i hi => ?_⟩
  have hi' : i < 4 := by simpa using hi
  rcases i with _ | _ | _ | _ | i
  · simp [go_sem]
  · simp [go_sem]
  · simp [go_sem]
  · simp [go_sem]
  · omega

theorem cut_3s : ByteArray.extract ⟨#[97, 226, 130, 172, 98]⟩ 0 (cutE ⟨#[97, 226, 130, 172, 98]⟩ 3).toNat = ⟨#[97]⟩ := by decide +kernel
theorem cut_4s : ByteArray.extract ⟨#[97, 226, 130, 172, 98]⟩ 0 (cutE ⟨#[97, 226, 130, 172, 98]⟩ 4).toNat = ⟨#[97, 226, 130, 172]⟩ := by decide +kernel
set_option maxRecDepth 100000 in
set_option maxHeartbeats 2000000 in
theorem awake_any (w : World) : Calls Try.prog 14 #[] w fun e w' => e = .returned (.bool true) ∧ Below w.heap.size w w' := by
  go_enter Try.func14, Try.ntmps14
  go_wp2_with fail
  refine (append_3 _).mono ?_; rintro e w1 ⟨⟨v1, rfl, ho1⟩, hb⟩
  have h1 := Lib.hid (Bts.of_owned (l := [226, 130, 172]) ho1 (by simp)); clear ho1
  go_wp2_with fail
  refine (append_4 _).mono ?_; rintro e w2 ⟨⟨v2, rfl, ho2⟩, hb2⟩
  have h2 := Lib.hid (Bts.of_owned (l := [244, 143, 191, 191]) ho2 (by simp)); clear ho2
  replace h1 := Lib.hid (h1.out.on hb2)
  replace hb := on_trans hb hb2; clear hb2
  go_wp2_with fail
  refine (read_to _ (by decide) 0 8364 3 0 rd_1 _).mono ?_; rintro e w3 ⟨rfl, rfl⟩
  go_wp2_with fail
  refine (read_to _ (by decide) 1 0 0 11 rd_2 _).mono ?_; rintro e w3 ⟨rfl, rfl⟩
  go_wp2_with fail
  refine (read_to _ (by decide) 0 0 0 10 rd_3 _).mono ?_; rintro e w3 ⟨rfl, rfl⟩
  go_wp2_with fail
  refine (same_yes _ _ [226, 130, 172] _ (h1.out.on ((Below.refl _ _).alloc (Nat.le_refl _) _)) (bts_lit _ _ rfl 226 130 172)).mono ?_; rintro e w3 ⟨rfl, n3, rfl⟩
  have hb3 := below_drewN (hb.alloc hb.size (.cells #[.int .u8 226, .int .u8 130, .int .u8 172] 5)) n3
  have h2' := Lib.hid (h2.out.on (below_drewN ((Below.refl _ _).alloc (Nat.le_refl _) (.cells #[.int .u8 226, .int .u8 130, .int .u8 172] 5)) n3))
  go_wp2_with fail
  refine (same_yes _ _ [244, 143, 191, 191] _ (h2'.out.on ((Below.refl _ _).alloc (Nat.le_refl _) _)) (bts_lit4 _ _ (by simp) 244 143 191 191)).mono ?_; rintro e w3 ⟨rfl, n4, rfl⟩
  have hb4 := below_drewN (hb3.alloc hb3.size (.cells #[.int .u8 244, .int .u8 143, .int .u8 191, .int .u8 191] 5)) n4
  clear h1 h2 h2' hb3 hb
  go_wp2_with fail
  refine wp_loop_rounds 6 ?_
  rw [rounds_succ]
  go_wp2_with fail
  refine (read_to _ (by decide) 0 0 0 11 rd_a _).mono ?_; rintro e w3 ⟨rfl, rfl⟩
  go_wp2_with fail
  rw [rounds_succ]
  go_wp2_with fail
  refine (read_to _ (by decide) 0 0 0 11 rd_b _).mono ?_; rintro e w3 ⟨rfl, rfl⟩
  go_wp2_with fail
  rw [rounds_succ]
  go_wp2_with fail
  refine (read_to _ (by decide) 0 0 0 11 rd_c _).mono ?_; rintro e w3 ⟨rfl, rfl⟩
  go_wp2_with fail
  rw [rounds_succ]
  go_wp2_with fail
  refine (read_to _ (by decide) 0 0 0 11 rd_d _).mono ?_; rintro e w3 ⟨rfl, rfl⟩
  go_wp2_with fail
  rw [rounds_succ]
  go_wp2_with fail
  refine (read_to _ (by decide) 0 0 0 11 rd_e _).mono ?_; rintro e w3 ⟨rfl, rfl⟩
  go_wp2_with fail
  rw [rounds_succ]
  go_wp2_with fail
  replace hb4 := hb4.alloc hb4.size (.cells #[.string ⟨#[226, 40]⟩, .string ⟨#[192, 128]⟩, .string ⟨#[237, 160, 128]⟩, .string ⟨#[244, 144, 128, 128]⟩, .string ⟨#[224, 128]⟩] 9)
  refine (cut_mid _ (by decide) rgt_5 3 (by omega) (by decide) _).mono ?_; rintro e w6 ⟨rfl, h6⟩
  replace hb4 := on_trans hb4 h6; clear h6
  rw [cut_3s]
  go_wp2_with fail
  refine (cut_mid _ (by decide) rgt_5 4 (by omega) (by decide) _).mono ?_; rintro e w7 ⟨rfl, h6⟩
  replace hb4 := on_trans hb4 h6; clear h6
  rw [cut_4s]
  go_wp2_with fail
  refine (pair_yes 55357 56832 (by omega) (by omega) (by omega) (by omega) _).mono ?_; rintro e w8 ⟨rfl, rfl⟩
  go_wp2_with fail
  go_ret
  exact ⟨rfl, hb4⟩
end Go.Proofs.Ytkabkkgaalimmaa
