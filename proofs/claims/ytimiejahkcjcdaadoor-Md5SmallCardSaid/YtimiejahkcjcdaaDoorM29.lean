/- Read and Text, plainly; Read's contract. -/
import Derived.Test.YtimiejahkcjcdaaDoorMEq
import Derived.Test.YtimiejahkcjcdaaDoorM25
import Derived.Test.YtimiejahkcjcdaaDoorM15
import Derived.Test.YtimiejahkcjcdaaDoorM16
namespace Go.Proofs.YtimiejahkcjcdaaDoor
open Go.RowKit

theorem hx_vx0 : ∀ n, n < 256 → vx (UInt8.ofNat n) < 16 → hx (vx (UInt8.ofNat n)) = UInt8.ofNat n := by decide +kernel
theorem hx_vx (c : UInt8) (h : vx c < 16) : hx (vx c) = c := by
  have := hx_vx0 c.toNat c.toNat_lt
  rw [UInt8.ofNat_toNat] at this
  exact this h
theorem vx_hx : ∀ n, n < 16 → vx (hx n) = n := by decide +kernel
theorem vr_vx0 : ∀ n, n < 256 → vx (UInt8.ofNat n) < 16 → vr (UInt8.ofNat n) = vx (UInt8.ofNat n) := by decide +kernel
theorem vr_vx (c : UInt8) (h : vx c < 16) : vr c = vx c := by
  have := vr_vx0 c.toNat c.toNat_lt
  rw [UInt8.ofNat_toNat] at this
  exact this h
theorem okk_at (s : ByteArray) : ∀ m k, k < m → okk s m = true → vx (sb s k) < 16
  | 0, k, h, _ => absurd h (by omega)
  | m + 1, k, h, e => by
    rw [okk, Bool.and_eq_true] at e
    rcases Nat.lt_or_ge k m with h' | h'
    · exact okk_at s m k h' e.1
    · obtain rfl : k = m := by omega
      exact of_decide_eq_true e.2
theorem okk_of (s : ByteArray) : ∀ m, (∀ k, k < m → vx (sb s k) < 16) → okk s m = true
  | 0, _ => rfl
  | m + 1, h => by rw [okk, okk_of s m (fun k hk => h k (by omega)), Bool.true_and]; exact decide_eq_true (h m (by omega))
theorem rdk_succ (s : ByteArray) (k j : Nat) : rdk s (k + 1) j = if j = k / 2 then UInt8.ofNat ((rdk s k (k / 2)).toNat * 16 % 256 + vx (sb s k)) else rdk s k j := rfl
theorem rrk_succ (s : ByteArray) (k j : Nat) : rrk s (k + 1) j = if j = k / 2 then UInt8.ofNat ((rrk s k (k / 2)).toNat * 16 + vr (sb s k)) else rrk s k j := rfl
theorem rrk_rdk (s : ByteArray) : ∀ k, okk s k = true → rrk s k = rdk s k
  | 0, _ => rfl
  | k + 1, h => by
    have hk := okk_at s (k + 1) k (by omega) h
    rw [okk, Bool.and_eq_true] at h
    funext j
    rw [rrk_succ, rdk_succ, rrk_rdk s k h.1, vr_vx _ hk]
    by_cases hj : j = k / 2
    · rw [if_pos hj, if_pos hj]
      apply UInt8.toNat_inj.1
      rw [UInt8.toNat_ofNat', UInt8.toNat_ofNat']
      omega
    · rw [if_neg hj, if_neg hj]
theorem rdk_val (s : ByteArray) : ∀ k, okk s k = true → (∀ j, 2 * j + 2 ≤ k → (rdk s k j).toNat = vx (sb s (2 * j)) * 16 + vx (sb s (2 * j + 1))) ∧ (∀ j, k = 2 * j + 1 → (rdk s k j).toNat = vx (sb s (2 * j))) ∧ (∀ j, k ≤ 2 * j → (rdk s k j).toNat = 0)
  | 0, _ => ⟨fun j h => by omega, fun j h => by omega, fun j _ => rfl⟩
  | k + 1, h => by
    have hk := okk_at s (k + 1) k (by omega) h
    rw [okk, Bool.and_eq_true] at h
    obtain ⟨h1, h2, h3⟩ := rdk_val s k h.1
    refine ⟨fun j hj => ?_, fun j hj => ?_, fun j hj => ?_⟩
    · rw [rdk_succ]
      by_cases e : j = k / 2
      · rw [if_pos e]
        obtain rfl : k = 2 * j + 1 := by omega
        have := h2 j rfl
        have hv := okk_at s (2 * j + 1) (2 * j) (by omega) h.1
        rw [← e, this, UInt8.toNat_ofNat']
        omega
      · rw [if_neg e]
        exact h1 j (by omega)
    · obtain rfl : k = 2 * j := by omega
      rw [rdk_succ, if_pos (by omega), show 2 * j / 2 = j by omega, h3 j (by omega), UInt8.toNat_ofNat']
      omega
    · rw [rdk_succ, if_neg (by omega)]
      exact h3 j (by omega)
theorem txt_get (d : Nat → UInt8) : ∀ k j b, j < k → b < 2 → (txt d k)[2 * j + b]? = some (hx (nib (d j).toNat b))
  | 0, j, b, h, _ => by omega
  | k + 1, j, b, h, hb => by
    have hl := txt_len d k
    rw [txt, List.append_assoc]
    rcases Nat.lt_or_ge j k with h' | h'
    · rw [List.getElem?_append_left (by omega)]
      exact txt_get d k j b h' hb
    · obtain rfl : j = k := by omega
      rw [List.getElem?_append_right (by omega), hl]
      rcases (show b = 0 ∨ b = 1 by omega) with rfl | rfl
      · rw [show 2 * j + 0 - 2 * j = 0 by omega]; rfl
      · rw [show 2 * j + 1 - 2 * j = 1 by omega]; rfl
theorem nib_lt' (x : UInt8) (b : Nat) : nib x.toNat b < 16 := nib_lt _ _ (by have := x.toNat_lt; omega)
/-- What is written is read. -/
theorem read_of_txt (s : ByteArray) (d : Nat → UInt8) (h : s.data.toList = txt d 16) : s.size = 32 ∧ okk s 32 = true ∧ ∀ j, j < 16 → rdk s 32 j = d j := by
  have hl := congrArg List.length h
  rw [txt_len] at hl
  have hs : s.size = 32 := by simpa using hl
  have hsb : ∀ j b, j < 16 → b < 2 → sb s (2 * j + b) = hx (nib (d j).toNat b) := by
    intro j b hj hb
    have := txt_get d 16 j b hj hb
    rw [← h] at this
    unfold sb
    rw [dif_pos (by omega)]
    have h2 := List.getElem?_eq_getElem (l := s.data.toList) (i := 2 * j + b) (by simp; show _ < s.size; omega)
    rw [this] at h2
    have h3 := (Option.some.inj h2).symm
    rw [← h3]
    rfl
  have hok : okk s 32 = true := okk_of s 32 (fun k hk => by
    have := hsb (k / 2) (k % 2) (by omega) (by omega)
    rw [show 2 * (k / 2) + k % 2 = k by omega] at this
    rw [this, vx_hx _ (nib_lt' _ _)]
    exact nib_lt' _ _)
  refine ⟨hs, hok, fun j hj => ?_⟩
  apply UInt8.toNat_inj.1
  rw [(rdk_val s 32 hok).1 j (by omega)]
  have e0 := hsb j 0 hj (by omega)
  have e1 := hsb j 1 hj (by omega)
  rw [Nat.add_zero] at e0
  rw [e0, e1, vx_hx _ (nib_lt' _ _), vx_hx _ (nib_lt' _ _)]
  simp only [nib, if_true, if_false, show ¬ (1 = 0) by omega]
  omega
/-- What is read is the text of what it gives. -/
theorem txt_of_read (s : ByteArray) (hs : s.size = 32) (hok : okk s 32 = true) : txt (rdk s 32) 16 = s.data.toList := by
  apply List.ext_getElem?
  intro i
  have hl : s.data.toList.length = 32 := by simpa using hs
  rcases Nat.lt_or_ge i 32 with hi | hi
  · obtain ⟨j, b, rfl, hj, hb⟩ : ∃ j b, i = 2 * j + b ∧ j < 16 ∧ b < 2 := ⟨i / 2, i % 2, by omega, by omega, by omega⟩
    rw [txt_get (rdk s 32) 16 j b hj hb, List.getElem?_eq_getElem (by omega)]
    have hv := (rdk_val s 32 hok).1 j (by omega)
    have v0 := okk_at s 32 (2 * j) (by omega) hok
    have v1 := okk_at s 32 (2 * j + 1) (by omega) hok
    have hn : nib ((rdk s 32 j).toNat) b = vx (sb s (2 * j + b)) := by
      rw [hv]
      rcases (show b = 0 ∨ b = 1 by omega) with rfl | rfl
      · show nib _ 0 = vx (sb s (2 * j))
        rw [nib, if_pos rfl]; omega
      · rw [nib, if_neg (by omega)]; omega
    rw [hn, hx_vx _ (okk_at s 32 (2 * j + b) hi hok), ← sb_eq s (2 * j + b) (by omega)]
    rfl
  · rw [List.getElem?_eq_none (by rw [txt_len]; omega), List.getElem?_eq_none (by omega)]
theorem read_any (s : ByteArray) (hs : s.size ≤ 4611686018427387904) (w : World) : Calls Tryd.prog 23 #[.string s] w fun e w' => e = .returned (.tuple #[dgv (rdE s), .int .i64 (rdN s)]) ∧ Below w.heap.size w w' := by
  by_cases h : s.size = 32
  · cases hok : okk s 32 with
    | true => exact read_good s h hok w
    | false => exact read_bad s h hok w
  · have e1 : rdE s = fun _ => 0 := by rw [rdE, if_neg (fun e => h e.1)]
    have e2 : rdN s = 30 := by rw [rdN, if_neg (fun e => h e.1)]
    rw [e1, e2]
    exact read_short s hs h w
theorem read_to (s : ByteArray) (hs : s.size ≤ 4611686018427387904) (d : Nat → UInt8) (n : Int) (hd : d = rdE s) (hn : n = rdN s) (w : World) :
    Calls Tryd.prog 23 #[.string s] w fun e w' => e = .returned (.tuple #[.agg #[e8 d 0, e8 d 1, e8 d 2, e8 d 3, e8 d 4, e8 d 5, e8 d 6, e8 d 7, e8 d 8, e8 d 9, e8 d 10, e8 d 11, e8 d 12, e8 d 13, e8 d 14, e8 d 15], .int .i64 n]) ∧ Below w.heap.size w w' := by
  subst hd hn; exact read_any s hs w
/-- The reference's Read gives the same. -/
theorem rread_to (s : ByteArray) (hs : s.size ≤ 4611686018427387904) (d : Nat → UInt8) (n : Int) (hd : d = rdE s) (hn : n = rdN s) (w : World) :
    Calls Tryd.prog 38 #[.string s] w fun e w' => (∃ d' : Nat → UInt8, eqD d d' = true ∧ e = .returned (.tuple #[.agg #[e8 d' 0, e8 d' 1, e8 d' 2, e8 d' 3, e8 d' 4, e8 d' 5, e8 d' 6, e8 d' 7, e8 d' 8, e8 d' 9, e8 d' 10, e8 d' 11, e8 d' 12, e8 d' 13, e8 d' 14, e8 d' 15], .int .i64 n])) ∧ Below w.heap.size w w' := by
  subst hd hn
  cases hb : ((⟨(txt (rrE s) 16).toArray⟩ : ByteArray).toList == s.toList) with
  | true =>
    have h1 : s.data.toList = txt (rrE s) 16 := by
      have := beq_iff_eq.1 hb
      rw [ByteArray.toList_eq, ByteArray.toList_eq] at this
      simpa using this.symm
    obtain ⟨hs2, hok, _⟩ := read_of_txt s _ h1
    have e1 : rdE s = rrE s := by rw [rdE, if_pos ⟨hs2, hok⟩, rrE, hs2, show min 32 32 = 32 from rfl, rrk_rdk s 32 hok]
    have e2 : rdN s = 0 := by rw [rdN, if_pos ⟨hs2, hok⟩]
    rw [e1, e2]
    exact (rread_yes s hs _ rfl _ rfl hb w).mono fun e w' ⟨he, hw⟩ => ⟨⟨_, eqD_same _, he⟩, hw⟩
  | false =>
    have hno : ¬ (s.size = 32 ∧ okk s 32 = true) := by
      rintro ⟨hs2, hok⟩
      have e1 : rrE s = rdk s 32 := by rw [rrE, hs2, show min 32 32 = 32 from rfl, rrk_rdk s 32 hok]
      have h2 := txt_of_read s hs2 hok
      rw [e1] at hb
      have : ((⟨(txt (rdk s 32) 16).toArray⟩ : ByteArray).toList == s.toList) = true := by
        rw [beq_iff_eq, ByteArray.toList_eq, ByteArray.toList_eq]
        simpa using h2
      rw [this] at hb
      cases hb
    have e1 : rdE s = fun _ => 0 := by rw [rdE, if_neg hno]
    have e2 : rdN s = 30 := by rw [rdN, if_neg hno]
    rw [e1, e2]
    exact (rread_no s hs _ rfl _ rfl hb w).mono fun e w' ⟨he, hw⟩ => ⟨⟨_, eqD_same _, he⟩, hw⟩
end Go.Proofs.YtimiejahkcjcdaaDoor
