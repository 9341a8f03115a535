/- Plain facts on what Read, Check, points and Cut compute: no program in sight. -/
import Derived.Test.YtkabkkgaalimmaaV18
namespace Go.Proofs.Ytkabkkgaalimmaa

/-- A byte of a list as a number. -/
def gi (l : List UInt8) (i : Nat) : Int := ((l.getD i 0).toNat : Int)
theorem gi_lo (l : List UInt8) (i : Nat) : 0 ≤ gi l i := Int.natCast_nonneg _
theorem gi_hi (l : List UInt8) (i : Nat) : gi l i < 256 := by unfold gi; have := (l.getD i 0).toNat_lt; omega
def bad1 (l : List UInt8) (i : Nat) : Bool := (i == 1 && !sec (gi l 0) (gi l i)) || decide (gi l i < 128) || decide (192 ≤ gi l i)
def decl (l : List UInt8) (n i : Nat) (x : Int) : Int × Int × Int :=
  if i < n then if i < l.length then if bad1 l i then (0, 0, 11) else decl l n (i + 1) (x * 64 + gi l i % 64) else (0, 0, 10) else (x, (n : Int), 0)
termination_by n - i
/-- What Read returns of what is left. -/
def dec (l : List UInt8) : Int × Int × Int :=
  if l = [] then (0, 0, 6) else if hdn (gi l 0) = 0 then (0, 0, 11) else decl l (hdn (gi l 0)) 1 (hdx (gi l 0))
theorem decl_end (l : List UInt8) (n i : Nat) (x : Int) (h : ¬ i < n) : decl l n i x = (x, (n : Int), 0) := by rw [decl, if_neg h]
theorem decl_short (l : List UInt8) (n i : Nat) (x : Int) (h : i < n) (h2 : ¬ i < l.length) : decl l n i x = (0, 0, 10) := by rw [decl, if_pos h, if_neg h2]
theorem decl_bad (l : List UInt8) (n i : Nat) (x : Int) (h : i < n) (h2 : i < l.length) (h3 : bad1 l i = true) : decl l n i x = (0, 0, 11) := by rw [decl, if_pos h, if_pos h2, if_pos h3]
theorem decl_next (l : List UInt8) (n i : Nat) (x : Int) (h : i < n) (h2 : i < l.length) (h3 : bad1 l i = false) : decl l n i x = decl l n (i + 1) (x * 64 + gi l i % 64) := by rw [decl, if_pos h, if_pos h2, if_neg (by simp [h3])]

theorem byt_drop (s : ByteArray) (k i : Nat) : byt s (k + i) = gi (s.data.toList.drop k) i := by
  unfold byt gi; simp [List.getD_eq_getElem?_getD, List.getElem?_drop]
theorem size_list (s : ByteArray) : s.size = s.data.toList.length := by simp
theorem rdl_decl (s : ByteArray) (k n : Nat) : ∀ (m i : Nat) (x : Int), m = n - i → rdl s k n i x = decl (s.data.toList.drop k) n i x := by
  intro m
  have hl : (s.data.toList.drop k).length = s.size - k := by rw [List.length_drop, size_list]
  have h0 : byt s k = gi (s.data.toList.drop k) 0 := by have := byt_drop s k 0; simpa using this
  have hb : ∀ i, badAt s k i = bad1 (s.data.toList.drop k) i := fun i => by unfold badAt bad1; rw [byt_drop, h0]
  induction m with
  | zero => intro i x hm; rw [rdl_end _ _ _ _ _ (by omega), decl_end _ _ _ _ (by omega)]
  | succ m ih =>
    intro i x hm
    by_cases hs : k + i < s.size
    · cases hc : badAt s k i with
      | true => rw [rdl_bad _ _ _ _ _ (by omega) hs hc, decl_bad _ _ _ _ (by omega) (by omega) (by rw [← hb, hc])]
      | false => rw [rdl_next _ _ _ _ _ (by omega) hs hc, decl_next _ _ _ _ (by omega) (by omega) (by rw [← hb, hc]), byt_drop, ih _ _ (by omega)]
    · rw [rdl_short _ _ _ _ _ (by omega) hs, decl_short _ _ _ _ (by omega) (by omega)]
theorem rd_dec (s : ByteArray) (k : Nat) (h : k ≤ s.size) : rd s k = dec (s.data.toList.drop k) := by
  have hl : (s.data.toList.drop k).length = s.size - k := by rw [List.length_drop, size_list]
  have h0 : byt s k = gi (s.data.toList.drop k) 0 := by have := byt_drop s k 0; simpa using this
  unfold rd dec
  rw [if_neg (by omega)]
  by_cases he : k = s.size
  · rw [if_pos (by omega), if_pos (List.eq_nil_of_length_eq_zero (by omega))]
  · rw [if_neg (by omega), if_neg (show ¬ s.data.toList.drop k = [] from fun hn => by rw [hn] at hl; simp at hl; omega)]
    rw [show (k : Int).toNat = k from Int.toNat_natCast k, rdl_decl s k _ _ 1 _ rfl, h0]

theorem b8_nat (n : Int) (h0 : 0 ≤ n) (h1 : n < 256) : ((b8 n).toNat : Int) = n := by
  unfold b8; rw [UInt8.toNat_ofNat']; omega
theorem b8_of (a : UInt8) : b8 (a.toNat : Int) = a := by
  unfold b8; simp
theorem gi_0 (a : UInt8) (t : List UInt8) : gi (a :: t) 0 = a.toNat := rfl
theorem gi_1 (a b : UInt8) (t : List UInt8) : gi (a :: b :: t) 1 = b.toNat := rfl
theorem gi_2 (a b c : UInt8) (t : List UInt8) : gi (a :: b :: c :: t) 2 = c.toNat := rfl
theorem gi_3 (a b c d : UInt8) (t : List UInt8) : gi (a :: b :: c :: d :: t) 3 = d.toNat := rfl
theorem sec_yes (f c : Int) (h0 : 128 ≤ c) (h1 : c < 192) (h2 : f = 224 → 160 ≤ c) (h3 : f = 237 → c < 160) (h4 : f = 240 → 144 ≤ c) (h5 : f = 244 → c < 144) : sec f c = true := by
  unfold sec
  rw [if_neg (by omega)]
  split
  · simp; exact h2 ‹_›
  · split
    · simp; exact h3 ‹_›
    · split
      · simp; exact h4 ‹_›
      · split
        · simp; exact h5 ‹_›
        · rfl
theorem sec_of (f c : Int) (h : sec f c = true) : 128 ≤ c ∧ c < 192 ∧ (f = 224 → 160 ≤ c) ∧ (f = 237 → c < 160) ∧ (f = 240 → 144 ≤ c) ∧ (f = 244 → c < 144) := by
  unfold sec at h
  split at h
  · cases h
  · split at h
    · simp at h; omega
    · split at h
      · simp at h; omega
      · split at h
        · simp at h; omega
        · split at h
          · simp at h; omega
          · omega
theorem bad1_no1 (l : List UInt8) (h : sec (gi l 0) (gi l 1) = true) : bad1 l 1 = false := by
  have := sec_of _ _ h
  unfold bad1
  rw [h, decide_eq_false (by omega), decide_eq_false (by omega)]; rfl
theorem bad1_no (l : List UInt8) (i : Nat) (hi : i ≠ 1) (h1 : 128 ≤ gi l i) (h2 : gi l i < 192) : bad1 l i = false := by
  unfold bad1
  rw [decide_eq_false (by omega), decide_eq_false (by omega)]; simp [hi]
theorem bad1_of (l : List UInt8) (i : Nat) (h : bad1 l i = false) : 128 ≤ gi l i ∧ gi l i < 192 ∧ (i = 1 → sec (gi l 0) (gi l 1) = true) := by
  unfold bad1 at h
  simp only [Bool.or_eq_false_iff, decide_eq_false_iff_not] at h
  refine ⟨by omega, by omega, fun e => ?_⟩
  subst e
  have := h.1.1
  simpa using this

set_option maxRecDepth 10000 in
/-- A form is read. -/
theorem dec_frm (x : Int) (hp : isPt x) (t : List UInt8) : dec (frm x ++ t) = (x, ((frm x).length : Int), 0) := by
  obtain ⟨h0, h1, h2⟩ := hp
  unfold frm
  split
  · rename_i c
    unfold dec
    rw [if_neg (by simp)]
    have g0 : gi ([b8 x] ++ t) 0 = x := b8_nat _ (by omega) (by omega)
    rw [g0, show hdn x = 1 by unfold hdn; rw [if_pos c], if_neg (by omega), decl_end _ _ _ _ (by omega), show hdx x = x by unfold hdx; rw [if_pos c]]
    rfl
  · split
    · rename_i c c2
      unfold dec
      rw [if_neg (by simp)]
      have g0 : gi ([b8 (192 + x / 64), b8 (128 + x % 64)] ++ t) 0 = 192 + x / 64 := b8_nat _ (by omega) (by omega)
      have g1 : gi ([b8 (192 + x / 64), b8 (128 + x % 64)] ++ t) 1 = 128 + x % 64 := b8_nat _ (by omega) (by omega)
      rw [g0, show hdn (192 + x / 64) = 2 by unfold hdn; (repeat' split) <;> omega, if_neg (by omega), show hdx (192 + x / 64) = x / 64 by unfold hdx; (repeat' split) <;> omega]
      rw [decl_next _ _ _ _ (by omega) (by simp) (bad1_no1 _ (by rw [g0, g1]; apply sec_yes <;> omega)), decl_end _ _ _ _ (by omega), g1]
      rw [show x / 64 * 64 + (128 + x % 64) % 64 = x by omega]
      rfl
    · split
      · rename_i c c2 c3
        unfold dec
        rw [if_neg (by simp)]
        have g0 : gi ([b8 (224 + x / 4096), b8 (128 + x / 64 % 64), b8 (128 + x % 64)] ++ t) 0 = 224 + x / 4096 := b8_nat _ (by omega) (by omega)
        have g1 : gi ([b8 (224 + x / 4096), b8 (128 + x / 64 % 64), b8 (128 + x % 64)] ++ t) 1 = 128 + x / 64 % 64 := b8_nat _ (by omega) (by omega)
        have g2 : gi ([b8 (224 + x / 4096), b8 (128 + x / 64 % 64), b8 (128 + x % 64)] ++ t) 2 = 128 + x % 64 := b8_nat _ (by omega) (by omega)
        rw [g0, show hdn (224 + x / 4096) = 3 by unfold hdn; (repeat' split) <;> omega, if_neg (by omega), show hdx (224 + x / 4096) = x / 4096 by unfold hdx; (repeat' split) <;> omega]
        rw [decl_next _ _ _ _ (by omega) (by simp) (bad1_no1 _ (by rw [g0, g1]; apply sec_yes <;> omega)), decl_next _ _ _ _ (by omega) (by simp) (bad1_no _ 2 (by omega) (by omega) (by omega)), decl_end _ _ _ _ (by omega), g1, g2]
        rw [show (x / 4096 * 64 + (128 + x / 64 % 64) % 64) * 64 + (128 + x % 64) % 64 = x by omega]
        rfl
      · rename_i c c2 c3
        unfold dec
        rw [if_neg (by simp)]
        have g0 : gi ([b8 (240 + x / 262144), b8 (128 + x / 4096 % 64), b8 (128 + x / 64 % 64), b8 (128 + x % 64)] ++ t) 0 = 240 + x / 262144 := b8_nat _ (by omega) (by omega)
        have g1 : gi ([b8 (240 + x / 262144), b8 (128 + x / 4096 % 64), b8 (128 + x / 64 % 64), b8 (128 + x % 64)] ++ t) 1 = 128 + x / 4096 % 64 := b8_nat _ (by omega) (by omega)
        have g2 : gi ([b8 (240 + x / 262144), b8 (128 + x / 4096 % 64), b8 (128 + x / 64 % 64), b8 (128 + x % 64)] ++ t) 2 = 128 + x / 64 % 64 := b8_nat _ (by omega) (by omega)
        have g3 : gi ([b8 (240 + x / 262144), b8 (128 + x / 4096 % 64), b8 (128 + x / 64 % 64), b8 (128 + x % 64)] ++ t) 3 = 128 + x % 64 := b8_nat _ (by omega) (by omega)
        rw [g0, show hdn (240 + x / 262144) = 4 by unfold hdn; (repeat' split) <;> omega, if_neg (by omega), show hdx (240 + x / 262144) = x / 262144 by unfold hdx; (repeat' split) <;> omega]
        rw [decl_next _ _ _ _ (by omega) (by simp) (bad1_no1 _ (by rw [g0, g1]; apply sec_yes <;> omega)), decl_next _ _ _ _ (by omega) (by simp) (bad1_no _ 2 (by omega) (by omega) (by omega)), decl_next _ _ _ _ (by omega) (by simp) (bad1_no _ 3 (by omega) (by omega) (by omega)), decl_end _ _ _ _ (by omega), g1, g2, g3]
        rw [show ((x / 262144 * 64 + (128 + x / 4096 % 64) % 64) * 64 + (128 + x / 64 % 64) % 64) * 64 + (128 + x % 64) % 64 = x by omega]
        rfl

theorem ok_next {l : List UInt8} {n i : Nat} {x y m : Int} (hi : i < n) (h : decl l n i x = (y, m, 0)) : i < l.length ∧ bad1 l i = false ∧ decl l n (i + 1) (x * 64 + gi l i % 64) = (y, m, 0) := by
  by_cases hl : i < l.length
  · cases hb : bad1 l i with
    | true => rw [decl_bad _ _ _ _ hi hl hb] at h; simp at h
    | false => rw [decl_next _ _ _ _ hi hl hb] at h; exact ⟨hl, rfl, h⟩
  · rw [decl_short _ _ _ _ hi hl] at h; simp at h
theorem ok_end {l : List UInt8} {n i : Nat} {x y m : Int} (hi : ¬ i < n) (h : decl l n i x = (y, m, 0)) : y = x ∧ m = n := by
  rw [decl_end _ _ _ _ hi] at h; simp at h; exact ⟨h.1.symm, h.2.symm⟩

set_option maxRecDepth 10000 in
/-- What is read is a form. -/
theorem dec_of (l : List UInt8) (x n : Int) (h : dec l = (x, n, 0)) : isPt x ∧ n = ((frm x).length : Int) ∧ ∃ t, l = frm x ++ t := by
  unfold dec at h
  split at h
  · simp at h
  · rename_i hne
    split at h
    · simp at h
    · rename_i hh
      match l, hne with
      | a :: t, _ =>
        have ha := a.toNat_lt
        rw [gi_0] at h hh
        rcases (show (a.toNat : Int) < 128 ∨ (128 ≤ (a.toNat : Int) ∧ (a.toNat : Int) < 194) ∨ (194 ≤ (a.toNat : Int) ∧ (a.toNat : Int) < 224) ∨ (224 ≤ (a.toNat : Int) ∧ (a.toNat : Int) < 240) ∨ (240 ≤ (a.toNat : Int) ∧ (a.toNat : Int) < 245) ∨ 245 ≤ (a.toNat : Int) by omega) with g | ⟨g, g2⟩ | ⟨g, g2⟩ | ⟨g, g2⟩ | ⟨g, g2⟩ | g
        · rw [show hdn a.toNat = 1 by unfold hdn; rw [if_pos g], show hdx a.toNat = a.toNat by unfold hdx; rw [if_pos g]] at h
          obtain ⟨rfl, rfl⟩ := ok_end (by omega) h
          have hf : frm (a.toNat : Int) = [a] := by unfold frm; rw [if_pos g, b8_of]
          exact ⟨⟨by omega, by omega, by omega⟩, by rw [hf]; rfl, t, by rw [hf]; rfl⟩
        · exact absurd (by unfold hdn; (repeat' split) <;> omega) hh
        · rw [show hdn a.toNat = 2 by unfold hdn; (repeat' split) <;> omega, show hdx a.toNat = a.toNat % 32 by unfold hdx; (repeat' split) <;> omega] at h
          obtain ⟨hl, hb, h⟩ := ok_next (by omega) h
          obtain ⟨rfl, rfl⟩ := ok_end (by omega) h
          match t, hl with
          | b :: t, _ =>
            have hb' := b.toNat_lt
            obtain ⟨b1, b2, b3⟩ := bad1_of _ _ hb
            rw [gi_1] at b1 b2 ⊢
            have hf : frm ((a.toNat : Int) % 32 * 64 + b.toNat % 64) = [a, b] := by
              unfold frm
              rw [if_neg (by omega), if_pos (by omega)]
              rw [show 192 + ((a.toNat : Int) % 32 * 64 + b.toNat % 64) / 64 = a.toNat by omega, show 128 + ((a.toNat : Int) % 32 * 64 + b.toNat % 64) % 64 = b.toNat by omega, b8_of, b8_of]
            exact ⟨⟨by omega, by omega, by omega⟩, by rw [hf]; rfl, t, by rw [hf]; rfl⟩
        · rw [show hdn a.toNat = 3 by unfold hdn; (repeat' split) <;> omega, show hdx a.toNat = a.toNat % 16 by unfold hdx; (repeat' split) <;> omega] at h
          obtain ⟨hl, hb, h⟩ := ok_next (by omega) h
          obtain ⟨hl2, hb2, h⟩ := ok_next (by omega) h
          obtain ⟨rfl, rfl⟩ := ok_end (by omega) h
          match t, hl, hl2 with
          | b :: c :: t, _, _ =>
            have hb' := b.toNat_lt
            have hc' := c.toNat_lt
            obtain ⟨b1, b2, b3⟩ := bad1_of _ _ hb
            obtain ⟨c1, c2, _⟩ := bad1_of _ _ hb2
            have hs := sec_of _ _ (b3 rfl)
            rw [gi_0, gi_1] at hs
            rw [gi_1] at b1 b2 ⊢
            rw [gi_2] at c1 c2 ⊢
            have hf : frm (((a.toNat : Int) % 16 * 64 + b.toNat % 64) * 64 + c.toNat % 64) = [a, b, c] := by
              unfold frm
              rw [if_neg (by omega), if_neg (by omega), if_pos (by omega)]
              rw [show 224 + (((a.toNat : Int) % 16 * 64 + b.toNat % 64) * 64 + c.toNat % 64) / 4096 = a.toNat by omega, show 128 + (((a.toNat : Int) % 16 * 64 + b.toNat % 64) * 64 + c.toNat % 64) / 64 % 64 = b.toNat by omega, show 128 + (((a.toNat : Int) % 16 * 64 + b.toNat % 64) * 64 + c.toNat % 64) % 64 = c.toNat by omega, b8_of, b8_of, b8_of]
            exact ⟨⟨by omega, by omega, by omega⟩, by rw [hf]; rfl, t, by rw [hf]; rfl⟩
        · rw [show hdn a.toNat = 4 by unfold hdn; (repeat' split) <;> omega, show hdx a.toNat = a.toNat % 8 by unfold hdx; (repeat' split) <;> omega] at h
          obtain ⟨hl, hb, h⟩ := ok_next (by omega) h
          obtain ⟨hl2, hb2, h⟩ := ok_next (by omega) h
          obtain ⟨hl3, hb3, h⟩ := ok_next (by omega) h
          obtain ⟨rfl, rfl⟩ := ok_end (by omega) h
          match t, hl, hl2, hl3 with
          | b :: c :: d :: t, _, _, _ =>
            have hb' := b.toNat_lt
            have hc' := c.toNat_lt
            have hd' := d.toNat_lt
            obtain ⟨b1, b2, b3⟩ := bad1_of _ _ hb
            obtain ⟨c1, c2, _⟩ := bad1_of _ _ hb2
            obtain ⟨d1, d2, _⟩ := bad1_of _ _ hb3
            have hs := sec_of _ _ (b3 rfl)
            rw [gi_0, gi_1] at hs
            rw [gi_1] at b1 b2 ⊢
            rw [gi_2] at c1 c2 ⊢
            rw [gi_3] at d1 d2 ⊢
            have hf : frm ((((a.toNat : Int) % 8 * 64 + b.toNat % 64) * 64 + c.toNat % 64) * 64 + d.toNat % 64) = [a, b, c, d] := by
              unfold frm
              rw [if_neg (by omega), if_neg (by omega), if_neg (by omega)]
              rw [show 240 + ((((a.toNat : Int) % 8 * 64 + b.toNat % 64) * 64 + c.toNat % 64) * 64 + d.toNat % 64) / 262144 = a.toNat by omega, show 128 + ((((a.toNat : Int) % 8 * 64 + b.toNat % 64) * 64 + c.toNat % 64) * 64 + d.toNat % 64) / 4096 % 64 = b.toNat by omega, show 128 + ((((a.toNat : Int) % 8 * 64 + b.toNat % 64) * 64 + c.toNat % 64) * 64 + d.toNat % 64) / 64 % 64 = c.toNat by omega, show 128 + ((((a.toNat : Int) % 8 * 64 + b.toNat % 64) * 64 + c.toNat % 64) * 64 + d.toNat % 64) % 64 = d.toNat by omega, b8_of, b8_of, b8_of, b8_of]
            exact ⟨⟨by omega, by omega, by omega⟩, by rw [hf]; rfl, t, by rw [hf]; rfl⟩
        · exact absurd (by unfold hdn; (repeat' split) <;> omega) hh

/-- The number that bytes would be. -/
def polI : List UInt8 → Int
  | [a] => a.toNat
  | [a, b] => 64 * ((a.toNat : Int) - 192) + b.toNat - 128
  | [a, b, c] => 4096 * ((a.toNat : Int) - 224) + 64 * ((b.toNat : Int) - 128) + c.toNat - 128
  | [a, b, c, d] => 262144 * ((a.toNat : Int) - 240) + 4096 * ((b.toNat : Int) - 128) + 64 * ((c.toNat : Int) - 128) + d.toNat - 128
  | _ => -1
def valR (l : List UInt8) : Int := if isPt (polI l) ∧ frm (polI l) = l then polI l else -1
def padR (l : List UInt8) (n : Nat) : List UInt8 := l ++ List.replicate (n - l.length) 128
def BegP (l : List UInt8) : Prop := ∃ n, l.length < n ∧ n ≤ 4 ∧ (0 ≤ valR (padR (l ++ [128]) n) ∨ 0 ≤ valR (padR (l ++ [191]) n))

set_option maxRecDepth 10000 in
theorem pol_frm (x : Int) (hp : isPt x) : polI (frm x) = x := by
  obtain ⟨h0, h1, h2⟩ := hp
  unfold frm
  split
  · show ((b8 x).toNat : Int) = x
    exact b8_nat _ (by omega) (by omega)
  · split
    · show 64 * (((b8 (192 + x / 64)).toNat : Int) - 192) + (b8 (128 + x % 64)).toNat - 128 = x
      rw [b8_nat _ (by omega) (by omega), b8_nat _ (by omega) (by omega)]; omega
    · split
      · show 4096 * (((b8 (224 + x / 4096)).toNat : Int) - 224) + 64 * (((b8 (128 + x / 64 % 64)).toNat : Int) - 128) + (b8 (128 + x % 64)).toNat - 128 = x
        rw [b8_nat _ (by omega) (by omega), b8_nat _ (by omega) (by omega), b8_nat _ (by omega) (by omega)]; omega
      · show 262144 * (((b8 (240 + x / 262144)).toNat : Int) - 240) + 4096 * (((b8 (128 + x / 4096 % 64)).toNat : Int) - 128) + 64 * (((b8 (128 + x / 64 % 64)).toNat : Int) - 128) + (b8 (128 + x % 64)).toNat - 128 = x
        rw [b8_nat _ (by omega) (by omega), b8_nat _ (by omega) (by omega), b8_nat _ (by omega) (by omega), b8_nat _ (by omega) (by omega)]; omega
theorem val_frm (x : Int) (hp : isPt x) : valR (frm x) = x := by
  unfold valR; rw [pol_frm x hp, if_pos ⟨hp, rfl⟩]
theorem val_of (l : List UInt8) (h : 0 ≤ valR l) : isPt (valR l) ∧ frm (valR l) = l := by
  unfold valR at h ⊢
  split
  · rename_i c; exact c
  · rename_i c; rw [if_neg c] at h; omega

theorem ref_yes (l : List UInt8) (n : Nat) (hn : n ≤ l.length) (h : 0 ≤ valR (l.take n)) : dec l = (valR (l.take n), (n : Int), 0) := by
  obtain ⟨h1, h2⟩ := val_of _ h
  have hl : l = frm (valR (l.take n)) ++ l.drop n := by rw [h2]; exact (List.take_append_drop n l).symm
  have := dec_frm _ h1 (l.drop n)
  rw [← hl] at this
  rw [this, h2]
  simp; omega
theorem decl_all (l : List UInt8) (n : Nat) (hn : n ≤ l.length) : ∀ (m i : Nat) (x : Int), m = n - i → (∀ j, i ≤ j → j < n → bad1 l j = false) → ∃ y, decl l n i x = (y, (n : Int), 0) := by
  intro m
  induction m with
  | zero => intro i x hm _; exact ⟨x, decl_end _ _ _ _ (by omega)⟩
  | succ m ih =>
    intro i x hm hb
    rw [decl_next _ _ _ _ (by omega) (by omega) (hb i (Nat.le_refl _) (by omega))]
    exact ih (i + 1) _ (by omega) (fun j h1 h2 => hb j (by omega) h2)
theorem decl_pre (l : List UInt8) (n : Nat) (hn : l.length < n) : ∀ (m i : Nat) (x : Int), m = l.length - i → i ≤ l.length → (∀ j, i ≤ j → j < l.length → bad1 l j = false) → decl l n i x = (0, 0, 10) := by
  intro m
  induction m with
  | zero => intro i x hm hi _; exact decl_short _ _ _ _ (by omega) (by omega)
  | succ m ih =>
    intro i x hm hi hb
    rw [decl_next _ _ _ _ (by omega) (by omega) (hb i (Nat.le_refl _) (by omega))]
    exact ih (i + 1) _ (by omega) (by omega) (fun j h1 h2 => hb j (by omega) h2)
theorem ok_all (l : List UInt8) (n : Nat) : ∀ (m i : Nat) (x y k : Int), m = n - i → i ≤ n → decl l n i x = (y, k, 0) → k = n ∧ n ≤ max l.length i ∧ ∀ j, i ≤ j → j < n → bad1 l j = false := by
  intro m
  induction m with
  | zero => intro i x y k hm hi h; exact ⟨(ok_end (by omega) h).2, by omega, fun j h1 h2 => by omega⟩
  | succ m ih =>
    intro i x y k hm hi h
    obtain ⟨h1, h2, h3⟩ := ok_next (by omega) h
    obtain ⟨a, b, c⟩ := ih (i + 1) _ y k (by omega) (by omega) h3
    refine ⟨a, by omega, fun j g1 g2 => ?_⟩
    by_cases e : j = i
    · rw [e]; exact h2
    · exact c j (by omega) g2
theorem err_all (l : List UInt8) (n : Nat) : ∀ (m i : Nat) (x : Int), m = n - i → i ≤ l.length → (∃ y, decl l n i x = (y, (n : Int), 0)) ∨ decl l n i x = (0, 0, 11) ∨ (decl l n i x = (0, 0, 10) ∧ l.length < n ∧ ∀ j, i ≤ j → j < l.length → bad1 l j = false) := by
  intro m
  induction m with
  | zero => intro i x hm _; exact .inl ⟨x, decl_end _ _ _ _ (by omega)⟩
  | succ m ih =>
    intro i x hm hi
    by_cases hl : i < l.length
    · cases hb : bad1 l i with
      | true => exact .inr (.inl (decl_bad _ _ _ _ (by omega) hl hb))
      | false =>
        rw [decl_next _ _ _ _ (by omega) hl hb]
        rcases ih (i + 1) (x * 64 + gi l i % 64) (by omega) (by omega) with h | h | ⟨h1, h2, h3⟩
        · exact .inl h
        · exact .inr (.inl h)
        · refine .inr (.inr ⟨h1, h2, fun j g1 g2 => ?_⟩)
          by_cases e : j = i
          · rw [e]; exact hb
          · exact h3 j (by omega) g2
    · exact .inr (.inr ⟨decl_short _ _ _ _ (by omega) hl, by omega, fun j _ _ => by omega⟩)
theorem gi_app (l r : List UInt8) (i : Nat) (h : i < l.length) : gi (l ++ r) i = gi l i := by
  unfold gi; rw [List.getD_eq_getElem?_getD, List.getD_eq_getElem?_getD, List.getElem?_append_left h]
theorem bad_app (l r : List UInt8) (i : Nat) (h : i < l.length) : bad1 (l ++ r) i = bad1 l i := by
  unfold bad1; rw [gi_app l r i h, gi_app l r 0 (by omega)]
theorem dec_cons (l : List UInt8) (h : l ≠ []) (n : Nat) (hn : hdn (gi l 0) = n) (h0 : n ≠ 0) : dec l = decl l n 1 (hdx (gi l 0)) := by
  unfold dec; rw [if_neg h, if_neg (by omega), hn]
theorem dec_form (l : List UInt8) (h : l ≠ []) (hn : hdn (gi l 0) = 0) : dec l = (0, 0, 11) := by
  unfold dec; rw [if_neg h, if_pos hn]
theorem len_pos {l : List UInt8} (h : l ≠ []) : 1 ≤ l.length := by
  cases l with
  | nil => exact absurd rfl h
  | cons => simp
/-- What Read says where it reads nothing. -/
theorem dec_err (l : List UInt8) (h : l ≠ []) : (∃ x n, dec l = (x, n, 0)) ∨ dec l = (0, 0, 11) ∨ dec l = (0, 0, 10) := by
  by_cases hn : hdn (gi l 0) = 0
  · exact .inr (.inl (dec_form l h hn))
  · rw [dec_cons l h _ rfl hn]
    rcases err_all l (hdn (gi l 0)) _ 1 (hdx (gi l 0)) rfl (len_pos h) with ⟨y, h⟩ | h | ⟨h, _⟩
    · exact .inl ⟨_, _, h⟩
    · exact .inr (.inl h)
    · exact .inr (.inr h)
theorem short_of (l : List UInt8) (h : l ≠ []) (hd : dec l = (0, 0, 10)) : l.length < hdn (gi l 0) ∧ ∀ j, 1 ≤ j → j < l.length → bad1 l j = false := by
  by_cases hn : hdn (gi l 0) = 0
  · rw [dec_form l h hn] at hd; simp at hd
  · rw [dec_cons l h _ rfl hn] at hd
    rcases err_all l (hdn (gi l 0)) _ 1 (hdx (gi l 0)) rfl (len_pos h) with ⟨y, e⟩ | e | ⟨_, e⟩
    · rw [e] at hd; simp at hd
    · rw [e] at hd; simp at hd
    · exact e
theorem pad_len (l : List UInt8) (n : Nat) (h : l.length ≤ n) : (padR l n).length = n := by
  unfold padR; simp; omega
theorem gi_pad (l : List UInt8) (n i : Nat) (h : l.length ≤ i) (h2 : i < n) : gi (padR l n) i = 128 := by
  unfold gi padR
  rw [List.getD_eq_getElem?_getD, List.getElem?_append_right h, List.getElem?_replicate, if_pos (by omega)]; rfl
theorem gi_last (l : List UInt8) (b : UInt8) : gi (l ++ [b]) l.length = b.toNat := by
  unfold gi; rw [List.getD_eq_getElem?_getD, List.getElem?_append_right (Nat.le_refl _)]; simp
theorem beg_of (l : List UInt8) (h : l ≠ []) (hd : dec l = (0, 0, 10)) : l.length < 4 ∧ BegP l := by
  obtain ⟨h1, h2⟩ := short_of l h hd
  have h4 := hdn_le (gi l 0)
  have hl := len_pos h
  obtain ⟨b, hb, hbs⟩ : ∃ b : UInt8, (b = 128 ∨ b = 191) ∧ (l.length = 1 → sec (gi l 0) b.toNat = true) := by
    by_cases c : gi l 0 = 224 ∨ gi l 0 = 240
    · exact ⟨191, .inr rfl, fun _ => by apply sec_yes <;> first | (intro; decide) | decide | (intro; omega)⟩
    · exact ⟨128, .inl rfl, fun _ => by apply sec_yes <;> first | (intro; decide) | decide | (intro; omega)⟩
  have key : 0 ≤ valR (padR (l ++ [b]) (hdn (gi l 0))) := by
    have hpl : (padR (l ++ [b]) (hdn (gi l 0))).length = hdn (gi l 0) := pad_len _ _ (by simp; omega)
    have hne : padR (l ++ [b]) (hdn (gi l 0)) ≠ [] := fun e => by rw [e] at hpl; simp at hpl; omega
    have hg : ∀ i, i < l.length → gi (padR (l ++ [b]) (hdn (gi l 0))) i = gi l i := fun i hi => by
      unfold padR; rw [gi_app _ _ _ (by simp; omega), gi_app _ _ _ hi]
    have hg2 : gi (padR (l ++ [b]) (hdn (gi l 0))) l.length = b.toNat := by
      unfold padR; rw [gi_app _ _ _ (by simp), gi_last]
    have h0 := hg 0 (by omega)
    have hbb : 128 ≤ (b.toNat : Int) ∧ (b.toNat : Int) < 192 := by rcases hb with rfl | rfl <;> decide
    obtain ⟨y, hy⟩ := decl_all (padR (l ++ [b]) (hdn (gi l 0))) (hdn (gi l 0)) (by omega) _ 1 (hdx (gi l 0)) rfl (fun j g1 g2 => by
      by_cases e1 : j < l.length
      · rw [← h2 j g1 e1]; unfold bad1; rw [h0, hg j e1]
      · by_cases e2 : j = l.length
        · subst e2
          by_cases e3 : l.length = 1
          · rw [e3] at hg2 ⊢; exact bad1_no1 _ (by rw [h0, hg2]; exact hbs e3)
          · exact bad1_no _ _ e3 (by rw [hg2]; exact hbb.1) (by rw [hg2]; exact hbb.2)
        · have e4 := gi_pad (l ++ [b]) (hdn (gi l 0)) j (by simp; omega) g2
          exact bad1_no _ _ (by omega) (by rw [e4]; omega) (by rw [e4]; omega))
    have hd2 : dec (padR (l ++ [b]) (hdn (gi l 0))) = (y, ((hdn (gi l 0) : Nat) : Int), 0) := by
      rw [dec_cons _ hne (hdn (gi l 0)) (by rw [h0]) (by omega), h0]; exact hy
    obtain ⟨p1, p2, t, p3⟩ := dec_of _ _ _ hd2
    have ht : t = [] := by
      have := congrArg List.length p3
      rw [hpl, List.length_append] at this
      exact List.eq_nil_of_length_eq_zero (by omega)
    rw [p3, ht, List.append_nil, val_frm y p1]
    exact p1.1
  refine ⟨by omega, hdn (gi l 0), h1, h4, ?_⟩
  rcases hb with rfl | rfl
  · exact .inl key
  · exact .inr key
theorem beg_to (l : List UInt8) (h : l ≠ []) (hb : BegP l) : dec l = (0, 0, 10) := by
  obtain ⟨n, h1, h2, h3⟩ := hb
  obtain ⟨b, hv⟩ : ∃ b : UInt8, 0 ≤ valR (padR (l ++ [b]) n) := by
    rcases h3 with h3 | h3
    · exact ⟨_, h3⟩
    · exact ⟨_, h3⟩
  have hl := len_pos h
  have hpl : (padR (l ++ [b]) n).length = n := pad_len _ _ (by simp; omega)
  obtain ⟨r, hr⟩ : ∃ r, padR (l ++ [b]) n = l ++ r := ⟨[b] ++ List.replicate (n - (l ++ [b]).length) 128, by unfold padR; simp⟩
  obtain ⟨p1, p2⟩ := val_of _ hv
  have hd := dec_frm _ p1 []
  rw [List.append_nil, p2, hpl] at hd
  have hne : padR (l ++ [b]) n ≠ [] := fun e => by rw [e] at hpl; simp at hpl; omega
  rw [hr] at hd hne
  have h0 : gi (l ++ r) 0 = gi l 0 := gi_app _ _ _ (by omega)
  by_cases hn : hdn (gi l 0) = 0
  · rw [dec_form _ hne (by rw [h0, hn])] at hd; simp at hd
  · rw [dec_cons _ hne (hdn (gi l 0)) (by rw [h0]) hn] at hd
    obtain ⟨q1, q2, q3⟩ := ok_all (l ++ r) (hdn (gi l 0)) _ 1 _ _ _ rfl (by omega) hd
    rw [dec_cons l h _ rfl hn]
    exact decl_pre l _ (by omega) _ 1 _ rfl hl (fun j g1 g2 => by rw [← bad_app l r j g2]; exact q3 j g1 (by omega))
theorem ref_no (l : List UInt8) (h : l ≠ []) (hv : ∀ n, 1 ≤ n → n ≤ 4 → n ≤ l.length → ¬ 0 ≤ valR (l.take n)) : (l.length < 4 ∧ BegP l → dec l = (0, 0, 10)) ∧ (¬ (l.length < 4 ∧ BegP l) → dec l = (0, 0, 11)) := by
  refine ⟨fun hb => beg_to l h hb.2, fun hb => ?_⟩
  rcases dec_err l h with ⟨x, n, e⟩ | e | e
  · obtain ⟨p1, p2, t, p3⟩ := dec_of _ _ _ e
    exfalso
    refine hv (frm x).length (frm_pos x) (frm_len x) (by rw [p3]; simp) ?_
    have : l.take (frm x).length = frm x := by rw [p3]; simp
    rw [this, val_frm x p1]
    exact p1.1
  · exact e
  · exact absurd (beg_of l h e) hb

/-! What is left behind a beginning of forms. -/
theorem frms_cons (x : Int) (L : List Int) : frms (x :: L) = frm x ++ frms L := by simp [frms]
theorem frms_app (L M : List Int) : frms (L ++ M) = frms L ++ frms M := by simp [frms]
theorem parts : ∀ (m : Nat) (l : List UInt8), l.length ≤ m → ∃ L t, (∀ x ∈ L, isPt x) ∧ l = frms L ++ t ∧ (dec t).2.2 ≠ 0 := by
  intro m
  induction m with
  | zero =>
    intro l h
    exact ⟨[], [], fun x h => (by cases h), by rw [List.eq_nil_of_length_eq_zero (Nat.le_zero.1 h)]; rfl, by decide⟩
  | succ m ih =>
    intro l h
    by_cases hd : (dec l).2.2 = 0
    · obtain ⟨x, n, e⟩ : ∃ x n, dec l = (x, n, 0) := ⟨(dec l).1, (dec l).2.1, by rw [← hd]⟩
      obtain ⟨p1, p2, t, p3⟩ := dec_of _ _ _ e
      have hp := frm_pos x
      obtain ⟨L, u, a, b, c⟩ := ih t (by rw [p3] at h; simp at h; omega)
      refine ⟨x :: L, u, fun y hy => ?_, by rw [p3, frms_cons, b, List.append_assoc], c⟩
      rcases List.mem_cons.1 hy with rfl | hy
      · exact p1
      · exact a y hy
    · exact ⟨[], l, fun x h => (by cases h), rfl, hd⟩
theorem parts' (l : List UInt8) : ∃ L t, (∀ x ∈ L, isPt x) ∧ l = frms L ++ t ∧ (dec t).2.2 ≠ 0 := parts _ l (Nat.le_refl _)

theorem rd_at (s : ByteArray) (A t : List UInt8) (h : s.data.toList = A ++ t) : rd s (A.length : Nat) = dec t := by
  have hs := size_list s
  rw [rd_dec s A.length (by rw [hs, h]; simp), h]; simp
theorem ckf_parts (s : ByteArray) (t : List UInt8) (hd : (dec t).2.2 ≠ 0) : ∀ (L : List Int) (A : List UInt8) (f : Nat), (∀ x ∈ L, isPt x) → s.data.toList = A ++ (frms L ++ t) → s.size - A.length < f →
    ckf s f A.length = (((A ++ frms L).length : Int), if t = [] then 0 else (dec t).2.2) := by
  intro L
  have hsz := size_list s
  induction L with
  | nil =>
    intro A f _ hs hf
    obtain ⟨f, rfl⟩ : ∃ g, f = g + 1 := ⟨f - 1, by omega⟩
    have hs' : s.data.toList = A ++ t := hs
    rw [ckf, rd_at s A t hs']
    by_cases ht : t = []
    · subst ht
      rw [if_neg (by rw [hsz, hs']; simp), if_pos rfl]
      simp [frms]
    · have := len_pos ht
      rw [if_pos (by rw [hsz, hs']; simp; omega), if_neg hd, if_neg ht]
      simp [frms]
  | cons x L ih =>
    intro A f hg hs hf
    obtain ⟨f, rfl⟩ : ∃ g, f = g + 1 := ⟨f - 1, by omega⟩
    have hp := frm_pos x
    have hs' : s.data.toList = A ++ (frm x ++ (frms L ++ t)) := by rw [hs, frms_cons, List.append_assoc]
    have hlen : A.length + (frm x).length ≤ s.size := by rw [hsz, hs']; simp
    rw [ckf, rd_at s A _ hs', dec_frm x (hg x (by simp)), if_pos (by omega), if_pos rfl]
    have := ih (A ++ frm x) f (fun y hy => hg y (by simp [hy])) (by rw [hs', List.append_assoc]) (by rw [List.length_append]; omega)
    rw [List.length_append] at this
    rw [show A.length + ((frm x).length : Int).toNat = A.length + (frm x).length by omega, this, frms_cons, List.append_assoc]
theorem ck_parts (s : ByteArray) (L : List Int) (t : List UInt8) (hL : ∀ x ∈ L, isPt x) (hs : s.data.toList = frms L ++ t) (hd : (dec t).2.2 ≠ 0) : ck s = (((frms L).length : Int), if t = [] then 0 else (dec t).2.2) :=
  ckf_parts s t hd L [] (s.size + 1) hL hs (by simp)
/-- The offsets and the code points. -/
def offs : Nat → List Int → List (Int × Int)
  | _, [] => []
  | k, x :: L => ((k : Int), x) :: offs (k + (frm x).length) L
theorem ptf_parts (s : ByteArray) (t : List UInt8) (hd : (dec t).2.2 ≠ 0) : ∀ (L : List Int) (A : List UInt8) (f : Nat), (∀ x ∈ L, isPt x) → s.data.toList = A ++ (frms L ++ t) → s.size - A.length < f →
    ptf s f A.length = offs A.length L := by
  intro L
  have hsz := size_list s
  induction L with
  | nil =>
    intro A f _ hs hf
    obtain ⟨f, rfl⟩ : ∃ g, f = g + 1 := ⟨f - 1, by omega⟩
    have hs' : s.data.toList = A ++ t := hs
    rw [ptf, rd_at s A t hs']
    split
    · first | rfl | (rw [if_neg hd]; rfl)
    · rfl
  | cons x L ih =>
    intro A f hg hs hf
    obtain ⟨f, rfl⟩ : ∃ g, f = g + 1 := ⟨f - 1, by omega⟩
    have hp := frm_pos x
    have hs' : s.data.toList = A ++ (frm x ++ (frms L ++ t)) := by rw [hs, frms_cons, List.append_assoc]
    have hlen : A.length + (frm x).length ≤ s.size := by rw [hsz, hs']; simp
    rw [ptf, rd_at s A _ hs', dec_frm x (hg x (by simp)), if_pos (by omega), if_pos rfl]
    have := ih (A ++ frm x) f (fun y hy => hg y (by simp [hy])) (by rw [hs', List.append_assoc]) (by rw [List.length_append]; omega)
    rw [List.length_append] at this
    rw [show A.length + ((frm x).length : Int).toNat = A.length + (frm x).length by omega, this, offs]
theorem pts_parts (s : ByteArray) (L : List Int) (t : List UInt8) (hL : ∀ x ∈ L, isPt x) (hs : s.data.toList = frms L ++ t) (hd : (dec t).2.2 ≠ 0) : pts s = offs 0 L :=
  ptf_parts s t hd L [] (s.size + 1) hL hs (by simp)
theorem offs_snd : ∀ (L : List Int) (k : Nat), (offs k L).map (·.2) = L
  | [], _ => rfl
  | x :: L, k => by rw [offs, List.map_cons, offs_snd L]
theorem offs_len : ∀ (L : List Int) (k : Nat), (offs k L).length = L.length
  | [], _ => rfl
  | x :: L, k => by rw [offs, List.length_cons, offs_len L]; rfl
/-- Where what is cut to n bytes ends. -/
def cutk (n : Int) : List Int → Nat → Nat
  | [], k => k
  | x :: L, k => if ((k + (frm x).length : Nat) : Int) ≤ n then cutk n L (k + (frm x).length) else k
theorem cutl_cutk (n : Int) : ∀ (L : List Int) (x : Int) (k : Nat), (k : Int) ≤ n → n < ((k + (frms (x :: L)).length : Nat) : Int) → cutl (offs (k + (frm x).length) L) n k = cutk n (x :: L) k := by
  intro L
  induction L with
  | nil =>
    intro x k h1 h2
    rw [cutk, if_neg (by simp [frms] at h2; omega)]; rfl
  | cons y L ih =>
    intro x k h1 h2
    rw [offs, cutl, cutk]
    simp only []
    by_cases c : n < ((k + (frm x).length : Nat) : Int)
    · rw [if_pos c, if_neg (by omega)]
    · rw [if_neg c, if_pos (by omega)]
      exact ih y (k + (frm x).length) (by omega) (by rw [frms_cons, List.length_append] at h2; omega)
theorem cutE_cutk (s : ByteArray) (L : List Int) (hL : ∀ x ∈ L, isPt x) (hs : s.data.toList = frms L) (n : Int) (h0 : 0 ≤ n) (hn : n < s.size) : cutE s n = cutk n L 0 := by
  unfold cutE
  rw [pts_parts s L [] hL (by rw [hs, List.append_nil]) (by decide)]
  have hsz := size_list s
  rw [hs] at hsz
  cases L with
  | nil => have h9 : s.size = 0 := by rw [hsz]; rfl
           omega
  | cons x L =>
    have := cutl_cutk n L x 0 (by omega) (by omega)
    rw [← this]
    show (if n < ((0 : Nat) : Int) then 0 else cutl (offs (0 + (frm x).length) L) n ((0 : Nat) : Int)) = _
    rw [if_neg (by omega)]
theorem cutk_all (n : Int) : ∀ (L : List Int) (k : Nat), ((k + (frms L).length : Nat) : Int) ≤ n → cutk n L k = k + (frms L).length := by
  intro L
  induction L with
  | nil => intro k _; simp [cutk, frms]
  | cons x L ih =>
    intro k h
    rw [frms_cons, List.length_append] at h ⊢
    rw [cutk, if_pos (by omega), ih _ (by omega)]; omega
theorem cutk_split (n : Int) : ∀ (L : List Int) (k : Nat), ∃ M N, L = M ++ N ∧ cutk n L k = k + (frms M).length ∧ ((k : Int) ≤ n → ((k + (frms M).length : Nat) : Int) ≤ n) ∧ (∀ y N', N = y :: N' → n < ((k + (frms M).length + (frm y).length : Nat) : Int)) := by
  intro L
  induction L with
  | nil => intro k; exact ⟨[], [], rfl, by simp [cutk, frms], fun h => by simpa [frms] using h, fun y N' h => by cases h⟩
  | cons x L ih =>
    intro k
    by_cases c : ((k + (frm x).length : Nat) : Int) ≤ n
    · obtain ⟨M, N, a, b, d, e⟩ := ih (k + (frm x).length)
      refine ⟨x :: M, N, by rw [a]; rfl, by rw [cutk, if_pos c, b, frms_cons, List.length_append]; omega, fun _ => ?_, fun y N' h => ?_⟩
      · have := d c; rw [frms_cons, List.length_append]; omega
      · have := e y N' h; rw [frms_cons, List.length_append]; omega
    · refine ⟨[], x :: L, rfl, by rw [cutk, if_neg c]; simp [frms], fun h => by simpa [frms] using h, fun y N' h => ?_⟩
      cases h
      simp [frms]; omega
def endk (n : Int) : List Int → Nat → Nat → Nat
  | [], _, e => e
  | x :: L, k, e => endk n L (k + (frm x).length) (if ((k + (frm x).length : Nat) : Int) ≤ n then k + (frm x).length else e)
theorem endk_over (n : Int) : ∀ (L : List Int) (k e : Nat), n < (k : Int) → endk n L k e = e := by
  intro L
  induction L with
  | nil => intro k e _; rfl
  | cons x L ih => intro k e h; rw [endk, if_neg (by omega)]; exact ih _ _ (by omega)
theorem endk_cutk (n : Int) : ∀ (L : List Int) (k : Nat), endk n L k k = cutk n L k := by
  intro L
  induction L with
  | nil => intro k; rfl
  | cons x L ih =>
    intro k
    rw [endk, cutk]
    split
    · exact ih _
    · exact endk_over n L _ _ (by omega)
end Go.Proofs.Ytkabkkgaalimmaa
