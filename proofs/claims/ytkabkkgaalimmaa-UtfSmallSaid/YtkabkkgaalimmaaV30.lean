/- The walk of the law UtfShort. -/
import Derived.Test.YtkabkkgaalimmaaV29
import Derived.Test.YtkabkkgaalimmaaUP3
namespace Go.Proofs.Ytkabkkgaalimmaa
open Go.RowKit Go.Shelf

theorem empty_list (s : ByteArray) : s.data.toList = [] ↔ s.size = 0 := by rw [size_list]; exact List.length_eq_zero_iff.symm
set_option maxRecDepth 100000 in
set_option maxHeartbeats 2000000 in
theorem utfShort_core (va : Value) (n : Int) (hn0 : 0 ≤ n) (hn1 : n ≤ 65535) (w : World) (ha : In32 w va) :
    Calls Try.prog 7 #[va, .int .u16 n] w fun e w' => e = .returned (.bool true) ∧ Below w.heap.size w w' := by
  replace ha := Lib.hid ha
  go_enter Try.func7, Try.ntmps7
  go_wp2_with fail
  refine (awake_any _).mono ?_; rintro e w1 ⟨rfl, hB⟩
  go_wp2_with fail
  refine (made_any va _ (ha.out.on hB)).mono ?_; rintro e w2 ⟨⟨v1, p, rfl, hp⟩, hB2⟩
  replace hp := Lib.hid hp
  replace hB := on_trans hB hB2; clear hB2
  go_wp2_with fail
  refine (text_of v1 p _ hp.out).mono ?_; rintro e w4 ⟨rfl, hB2⟩
  replace hB := on_trans hB hB2; clear hB2
  obtain ⟨s, hs⟩ : ∃ s, Hid (s = strOf p) := ⟨strOf p, rfl⟩
  rw [← hs.out]
  have hsl : Hid (s.data.toList = frms p) := by show _ = _; rw [hs.out, strOf_list]
  have hsz : s.size ≤ 800 := by rw [hs.out, strOf_size]; have := frms_hi p; have := hp.out.2.2; omega
  obtain ⟨k, hk⟩ := Int.eq_ofNat_of_zero_le (Int.emod_nonneg n (show ((s.size : Int) + 1) ≠ 0 by omega))
  have hks : k ≤ s.size := by have := Int.emod_lt_of_pos n (show 0 < (s.size : Int) + 1 by omega); omega
  have hlen : Hid (s.size = (frms p).length) := by show _ = _; rw [size_list, hsl.out]
  obtain ⟨M, t, hM, hMt, hcut, hMk, hbad⟩ := short_parts p hp.out.2.1 k (by rw [← hlen.out]; exact hks)
  obtain ⟨E, hE⟩ : ∃ E, Hid (E = (frms M).length) := ⟨_, rfl⟩
  rw [← hE.out] at hcut hMk
  obtain ⟨c, hc⟩ : ∃ c, Hid (c = s.extract 0 E) := ⟨_, rfl⟩
  have hcs : c.size = E := by rw [hc.out, extract_len _ _ _ (by omega)]; omega
  have hcut1 : Hid (ctR s k = (c, 0)) := by
    show _ = _
    rw [ctR_of s p hp.out.2.1 hsl.out (by omega) k (by omega), hcut, hc.out]
  have hx1 : Hid ((s.extract 0 k).data.toList = frms M ++ t) := by show _ = _; rw [extract_list, hsl.out, List.drop_zero, Nat.sub_zero, hMt]
  have hx1s : (s.extract 0 k).size = k := by rw [extract_len _ _ _ hks]; omega
  by_cases ht : t = []
  · have hEk : E = k := by rw [ht] at hMk; simp at hMk; exact hMk
    have hck : Hid (ck (s.extract 0 k) = ((k : Int), 0)) := by
      show _ = _
      rw [ck_parts _ M [] hM (by rw [hx1.out, ht]) (by decide), ← hE.out, hEk]; rfl
    subst hEk
    have hcall1 := Lib.hid (fun W => cut_to s (by omega) (E : Int) c 0 hcut1.out W)
    have hcall2 := Lib.hid (fun W => check_to (s.extract 0 E) (by rw [hx1s]; exact Nat.le_trans (Nat.le_trans hks hsz) (by decide)) (E : Int) 0 hck.out W)
    replace ht := Lib.hid ht
    replace hcut := Lib.hid hcut
    replace hx1s := Lib.hid hx1s
    clear hbad hMk hMt
    go_wp2_with fail
    refine (hcall1.out _).mono ?_; rintro e w5 ⟨rfl, hB2⟩
    replace hB := on_trans hB hB2; clear hB2
    go_wp2_with fail
    refine (hcall2.out _).mono ?_; rintro e w6 ⟨rfl, rfl⟩
    go_wp2_with fail
    go_ret
    exact ⟨rfl, hB⟩
  · obtain ⟨hd, hdb⟩ := hbad ht
    have hpos := len_pos ht
    have hEk : E < k := by omega
    have hck : Hid (ck (s.extract 0 k) = ((E : Int), 10)) := by
      show _ = _
      rw [ck_parts _ M t hM hx1.out (by rw [hd]; decide), ← hE.out, if_neg ht, hd]
    have hrd : Hid (rd (s.extract 0 k) (E : Nat) = (0, 0, 10)) := by show _ = _; rw [hE.out, rd_at _ _ _ hx1.out, hd]
    obtain ⟨s2, hs2⟩ : ∃ s2 : ByteArray, s2 = s.extract 0 k ++ ⟨#[65]⟩ := ⟨_, rfl⟩
    obtain ⟨s3, hs3⟩ : ∃ s3 : ByteArray, s3 = s.extract 0 k ++ ⟨#[255]⟩ := ⟨_, rfl⟩
    have hx2 : s2.data.toList = frms M ++ (t ++ [65]) := by rw [hs2, app_list, hx1.out, List.append_assoc]
    have hrd2 : Hid (rd s2 (E : Nat) = (0, 0, 11)) := by show _ = _; rw [hE.out, rd_at _ _ _ hx2, hdb 65 (.inl (by decide))]
    have hx3 : s3.data.toList = frms M ++ (t ++ [255]) := by rw [hs3, app_list, hx1.out, List.append_assoc]
    have hck3 : Hid (ck s3 = ((E : Int), 11)) := by
      show _ = _
      rw [ck_parts _ M (t ++ [255]) hM hx3 (by rw [hdb 255 (.inr (by decide))]; decide), ← hE.out, if_neg (by simp), hdb 255 (.inr (by decide))]
    have hz2 : s2.size ≤ 900 := by rw [hs2, app_size, hx1s]; show k + 1 ≤ 900; omega
    have hz3 : s3.size ≤ 900 := by rw [hs3, app_size, hx1s]; show k + 1 ≤ 900; omega
    have hcall1 := Lib.hid (fun W => cut_to s (by omega) (k : Int) c 0 hcut1.out W)
    have hcall2 := Lib.hid (fun W => check_to (s.extract 0 k) (by rw [hx1s]; exact Nat.le_trans (Nat.le_trans hks hsz) (by decide)) (E : Int) 10 hck.out W)
    have hcall3 := Lib.hid (fun W => read_to (s.extract 0 k) (by rw [hx1s]; exact Nat.le_trans (Nat.le_trans hks hsz) (by decide)) (E : Nat) 0 0 10 hrd.out W)
    have hcall4 := Lib.hid (fun W => read_to s2 (by omega) (E : Nat) 0 0 11 hrd2.out W)
    have hcall5 := Lib.hid (fun W => check_to s3 (by omega) (E : Int) 11 hck3.out W)
    have t1 : ((E : Int) == (k : Int)) = false := by simp; omega
    have t2 : decide (k < E) = false := decide_eq_false (by omega)
    replace ht := Lib.hid ht
    replace hcut := Lib.hid hcut
    replace hMt := Lib.hid hMt
    replace hd := Lib.hid hd
    clear hbad hMk hdb hx2 hx3 hz2 hz3
    replace hs2 := hs2.symm
    replace hs3 := hs3.symm
    go_wp2_with fail
    refine (hcall1.out _).mono ?_; rintro e w5 ⟨rfl, hB2⟩
    replace hB := on_trans hB hB2; clear hB2
    go_wp2_with fail
    refine (hcall2.out _).mono ?_; rintro e w6 ⟨rfl, rfl⟩
    go_wp2_with fail
    refine (hcall3.out _).mono ?_; rintro e w6 ⟨rfl, rfl⟩
    go_wp2_with fail
    refine (hcall4.out _).mono ?_; rintro e w6 ⟨rfl, rfl⟩
    go_wp2_with fail
    refine (hcall5.out _).mono ?_; rintro e w6 ⟨rfl, rfl⟩
    go_wp2_with fail
    go_ret
    exact ⟨rfl, hB⟩
theorem utfShort_walk (a0 : Option Addr) (len0 cap0 : Nat) (z0 : List Int) (a1 : Int) (w : World) (w0 : IsRow .u32 w a0 len0 cap0 z0) (w1 : (Lit.int .u16 a1).wf = true) :
    Calls Try.prog 7 #[.slice a0 len0 cap0, .int .u16 a1] w fun e w' => e = .returned (.bool true) ∧ Below w.heap.size w w' :=
  utfShort_core _ a1 (u16_bd a1 w1).1 (u16_bd a1 w1).2 w w0.in32
end Go.Proofs.Ytkabkkgaalimmaa
