/- The contracts of gaugerref01 Form, Read and Check over the translation (turned from the seat utf). -/
import Derived.Test.YtiapkindbbbdpaaGreatDoorK12
import Derived.Deep.QuietTactic
import Derived.BigQuiet
namespace Go.Proofs.YtiapkindbbbdpaaGreatDoor
open Go.RowKit
def isPt (x : Int) : Prop := 0 ≤ x ∧ x ≤ 1114111 ∧ (x < 55296 ∨ 57343 < x)
instance (x : Int) : Decidable (isPt x) := by unfold isPt; infer_instance
/-- What the body of a round keeps: the iterator's variable. -/
def KeepsS (Bs : Nat) (s : ByteArray) (W W' : World) : Prop :=
  W.cell? ⟨Bs, 0, none⟩ = some (.string s) → W'.cell? ⟨Bs, 0, none⟩ = some (.string s)
theorem KeepsS.refl (Bs : Nat) (s : ByteArray) (W : World) : KeepsS Bs s W W := id
theorem KeepsS.trans {Bs : Nat} {s : ByteArray} {A B C : World} (h : KeepsS Bs s A B) (k : KeepsS Bs s B C) : KeepsS Bs s A C := fun x => k (h x)
theorem on_trans {w a b : World} (h : Below w.heap.size w a) (k : Below a.heap.size a b) : Below w.heap.size w b := h.trans (k.mono h.size)
theorem below_drewN {B : Nat} {a w : World} (h : Below B a w) (n : Nat) : Below B a (w.drewN n) := h.trans ⟨rfl, rfl, rfl, Nat.le_refl _, fun _ _ => rfl⟩
theorem u8_wrap (n : Int) (h0 : 0 ≤ n) (h1 : n < 256) : IntKind.u8.wrap n = n := by rw [IntKind.wrap_u8]; omega
def b8 (n : Int) : UInt8 := UInt8.ofNat n.toNat
theorem enc_b8 (n : Int) (h0 : 0 ≤ n) (h1 : n < 256) : Value.int .u8 n = enc8 (b8 n) := by
  unfold enc8 b8; rw [UInt8.toNat_ofNat']; congr 1; omega
/-- The form of a code point. -/
def frm (x : Int) : List UInt8 :=
  if x < 128 then [b8 x] else if x < 2048 then [b8 (192 + x / 64), b8 (128 + x % 64)] else if x < 65536 then [b8 (224 + x / 4096), b8 (128 + x / 64 % 64), b8 (128 + x % 64)] else [b8 (240 + x / 262144), b8 (128 + x / 4096 % 64), b8 (128 + x / 64 % 64), b8 (128 + x % 64)]
set_option maxHeartbeats 1000000 in
theorem rpoint_any (x : Int) (w : World) : Calls Tryz.prog 111 #[.int .i64 x] w fun e w' => e = .returned (.bool (decide (isPt x))) ∧ w = w' := by
  rcases (show x < 0 ∨ (0 ≤ x ∧ x < 55296) ∨ (55296 ≤ x ∧ x ≤ 57343) ∨ (57343 < x ∧ x ≤ 1114111) ∨ 1114111 < x by omega) with h | ⟨h, h'⟩ | ⟨h, h'⟩ | ⟨h, h'⟩ | h
  · rw [show decide (isPt x) = false from decide_eq_false (by unfold isPt; omega)]
    have t1 : decide (0 ≤ x) = false := decide_eq_false (by omega)
    have t2 : decide (x < 1114112) = true := decide_eq_true (by omega)
    have t3 : decide (x < 55296) = true := decide_eq_true (by omega)
    have t4 : decide (57343 < x) = false := decide_eq_false (by omega)
    go_enter Tryz.func111, Tryz.ntmps111
    go_wp2_with fail
    go_ret
    exact ⟨rfl, rfl⟩
  · rw [show decide (isPt x) = true from decide_eq_true (by unfold isPt; omega)]
    have t1 : decide (0 ≤ x) = true := decide_eq_true (by omega)
    have t2 : decide (x < 1114112) = true := decide_eq_true (by omega)
    have t3 : decide (x < 55296) = true := decide_eq_true (by omega)
    have t4 : decide (57343 < x) = false := decide_eq_false (by omega)
    go_enter Tryz.func111, Tryz.ntmps111
    go_wp2_with fail
    go_ret
    exact ⟨rfl, rfl⟩
  · rw [show decide (isPt x) = false from decide_eq_false (by unfold isPt; omega)]
    have t1 : decide (0 ≤ x) = true := decide_eq_true (by omega)
    have t2 : decide (x < 1114112) = true := decide_eq_true (by omega)
    have t3 : decide (x < 55296) = false := decide_eq_false (by omega)
    have t4 : decide (57343 < x) = false := decide_eq_false (by omega)
    go_enter Tryz.func111, Tryz.ntmps111
    go_wp2_with fail
    go_ret
    exact ⟨rfl, rfl⟩
  · rw [show decide (isPt x) = true from decide_eq_true (by unfold isPt; omega)]
    have t1 : decide (0 ≤ x) = true := decide_eq_true (by omega)
    have t2 : decide (x < 1114112) = true := decide_eq_true (by omega)
    have t3 : decide (x < 55296) = false := decide_eq_false (by omega)
    have t4 : decide (57343 < x) = true := decide_eq_true (by omega)
    go_enter Tryz.func111, Tryz.ntmps111
    go_wp2_with fail
    go_ret
    exact ⟨rfl, rfl⟩
  · rw [show decide (isPt x) = false from decide_eq_false (by unfold isPt; omega)]
    have t1 : decide (0 ≤ x) = true := decide_eq_true (by omega)
    have t2 : decide (x < 1114112) = false := decide_eq_false (by omega)
    have t3 : decide (x < 55296) = false := decide_eq_false (by omega)
    have t4 : decide (57343 < x) = true := decide_eq_true (by omega)
    go_enter Tryz.func111, Tryz.ntmps111
    go_wp2_with fail
    go_ret
    exact ⟨rfl, rfl⟩
theorem row_lit (w : World) (xs : List Value) (n : Nat) (hn : xs.length = n) (hpos : n ≤ 1000) : Row (w.alloc (.cells xs.toArray 5)) (.slice (some ⟨w.heap.size, 0, none⟩) n n) xs := by
  subst hn
  refine .inr ⟨w.heap.size, 0, xs.length, rfl, by simp, Nat.le_refl _, by unfold maxLen; omega, fun i hi => ?_⟩
  simp [World.cell?, World.alloc, -World.alloc_eq, hi]

set_option maxRecDepth 100000 in
set_option maxHeartbeats 1000000 in
theorem form_any (x : Int) (hp : isPt x) (w : World) :
    Calls Tryz.prog 112 #[.int .i64 x] w fun e w' => (∃ v, e = .returned v ∧ Row w' v ((frm x).map enc8)) ∧ Below w.heap.size w w' := by
  obtain ⟨h0, hx, _⟩ := hp
  rcases (show x < 128 ∨ (128 ≤ x ∧ x < 2048) ∨ (2048 ≤ x ∧ x < 65536) ∨ 65536 ≤ x by omega) with h1 | ⟨h1, h2⟩ | ⟨h1, h2⟩ | h1
  · have hcells : Hid ((frm x).map enc8 = [.int .u8 (x)]) := by
      show _ = _
      unfold frm; rw [if_pos h1, enc_b8 (x) (by omega) (by omega)]; rfl
    have q1 := u8_wrap x (by omega) (by omega)
    go_enter Tryz.func112, Tryz.ntmps112
    go_wp2_with fail
    go_ret
    refine ⟨⟨_, rfl, ?_⟩, (Below.refl _ _).alloc (Nat.le_refl _) _⟩
    rw [hcells.out]; exact row_lit w _ 1 rfl (by omega)
  · have hcells : Hid ((frm x).map enc8 = [.int .u8 (192 + x / 64), .int .u8 (128 + x % 64)]) := by
      show _ = _
      unfold frm; rw [if_neg (by omega), if_pos h2, enc_b8 (192 + x / 64) (by omega) (by omega), enc_b8 (128 + x % 64) (by omega) (by omega)]; rfl
    have q1 := u8_wrap (192 + x / 64) (by omega) (by omega)
    have q2 := u8_wrap (128 + x % 64) (by omega) (by omega)
    go_enter Tryz.func112, Tryz.ntmps112
    go_wp2_with fail
    go_ret
    refine ⟨⟨_, rfl, ?_⟩, (Below.refl _ _).alloc (Nat.le_refl _) _⟩
    rw [hcells.out]; exact row_lit w _ 2 rfl (by omega)
  · have hcells : Hid ((frm x).map enc8 = [.int .u8 (224 + x / 4096), .int .u8 (128 + x / 64 % 64), .int .u8 (128 + x % 64)]) := by
      show _ = _
      unfold frm; rw [if_neg (by omega), if_neg (by omega), if_pos h2, enc_b8 (224 + x / 4096) (by omega) (by omega), enc_b8 (128 + x / 64 % 64) (by omega) (by omega), enc_b8 (128 + x % 64) (by omega) (by omega)]; rfl
    have q1 := u8_wrap (224 + x / 4096) (by omega) (by omega)
    have q2 := u8_wrap (128 + x / 64 % 64) (by omega) (by omega)
    have q3 := u8_wrap (128 + x % 64) (by omega) (by omega)
    go_enter Tryz.func112, Tryz.ntmps112
    go_wp2_with fail
    go_ret
    refine ⟨⟨_, rfl, ?_⟩, (Below.refl _ _).alloc (Nat.le_refl _) _⟩
    rw [hcells.out]; exact row_lit w _ 3 rfl (by omega)
  · have hcells : Hid ((frm x).map enc8 = [.int .u8 (240 + x / 262144), .int .u8 (128 + x / 4096 % 64), .int .u8 (128 + x / 64 % 64), .int .u8 (128 + x % 64)]) := by
      show _ = _
      unfold frm; rw [if_neg (by omega), if_neg (by omega), if_neg (by omega), enc_b8 (240 + x / 262144) (by omega) (by omega), enc_b8 (128 + x / 4096 % 64) (by omega) (by omega), enc_b8 (128 + x / 64 % 64) (by omega) (by omega), enc_b8 (128 + x % 64) (by omega) (by omega)]; rfl
    have q1 := u8_wrap (240 + x / 262144) (by omega) (by omega)
    have q2 := u8_wrap (128 + x / 4096 % 64) (by omega) (by omega)
    have q3 := u8_wrap (128 + x / 64 % 64) (by omega) (by omega)
    have q4 := u8_wrap (128 + x % 64) (by omega) (by omega)
    go_enter Tryz.func112, Tryz.ntmps112
    go_wp2_with fail
    go_ret
    refine ⟨⟨_, rfl, ?_⟩, (Below.refl _ _).alloc (Nat.le_refl _) _⟩
    rw [hcells.out]; exact row_lit w _ 4 rfl (by omega)
theorem frm_len (x : Int) : (frm x).length ≤ 4 := by unfold frm; (repeat' split) <;> simp
theorem frm_pos (x : Int) : 1 ≤ (frm x).length := by unfold frm; (repeat' split) <;> simp
/-- A byte of a list as a number. -/
def gi (l : List UInt8) (i : Nat) : Int := ((l.getD i 0).toNat : Int)
def bad1 (l : List UInt8) (i : Nat) : Bool := (i == 1 && !sec (gi l 0) (gi l i)) || decide (gi l i < 128) || decide (192 ≤ gi l i)
def decl (l : List UInt8) (n i : Nat) (x : Int) : Int × Int × Int :=
  if i < n then if i < l.length then if bad1 l i then (0, 0, 11) else decl l n (i + 1) (x * 64 + gi l i % 64) else (0, 0, 10) else (x, (n : Int), 0)
termination_by n - i
/-- What Read returns of what is left. -/
def dec (l : List UInt8) : Int × Int × Int :=
  if l = [] then (0, 0, 6) else if hdn (gi l 0) = 0 then (0, 0, 11) else decl l (hdn (gi l 0)) 1 (hdx (gi l 0))
theorem decl_end (l : List UInt8) (n i : Nat) (x : Int) (h : ¬ i < n) : decl l n i x = (x, (n : Int), 0) := by rw [decl, if_neg h]
theorem decl_short (l : List UInt8) (n i : Nat) (x : Int) (h : i < n) (h2 : ¬ i < l.length) : decl l n i x = (0, 0, 10) := by rw [decl, if_pos h, if_neg h2]
theorem decl_bad (l : List UInt8) (n i : Nat) (x : Int) (h : i < n) (h2 : i < l.length) (h3 : bad1 l i = true) : decl l n i x = (0, 0, 11) := by rw [decl, if_pos h, if_pos h2, if_pos h3]
theorem decl_next (l : List UInt8) (n i : Nat) (x : Int) (h : i < n) (h2 : i < l.length) (h3 : bad1 l i = false) : decl l n i x = decl l n (i + 1) (x * 64 + gi l i % 64) := by rw [decl, if_pos h, if_pos h2, if_neg (by simp [h3])]

theorem byt_drop (s : ByteArray) (k i : Nat) : byt s (k + i) = gi (s.data.toList.drop k) i := by
  unfold byt gi; simp [List.getD_eq_getElem?_getD, List.getElem?_drop]
theorem size_list (s : ByteArray) : s.size = s.data.toList.length := by simp
theorem rdl_decl (s : ByteArray) (k n : Nat) : ∀ (m i : Nat) (x : Int), m = n - i → rdl s k n i x = decl (s.data.toList.drop k) n i x := by
  intro m
  have hl : (s.data.toList.drop k).length = s.size - k := by rw [List.length_drop, size_list]
  have h0 : byt s k = gi (s.data.toList.drop k) 0 := by have := byt_drop s k 0; simpa using this
  have hb : ∀ i, badAt s k i = bad1 (s.data.toList.drop k) i := fun i => by unfold badAt bad1; rw [byt_drop, h0]
  induction m with
  | zero => intro i x hm; rw [rdl_end _ _ _ _ _ (by omega), decl_end _ _ _ _ (by omega)]
  | succ m ih =>
    intro i x hm
    by_cases hs : k + i < s.size
    · cases hc : badAt s k i with
      | true => rw [rdl_bad _ _ _ _ _ (by omega) hs hc, decl_bad _ _ _ _ (by omega) (by omega) (by rw [← hb, hc])]
      | false => rw [rdl_next _ _ _ _ _ (by omega) hs hc, decl_next _ _ _ _ (by omega) (by omega) (by rw [← hb, hc]), byt_drop, ih _ _ (by omega)]
    · rw [rdl_short _ _ _ _ _ (by omega) hs, decl_short _ _ _ _ (by omega) (by omega)]
theorem rd_dec (s : ByteArray) (k : Nat) (h : k ≤ s.size) : rd s k = dec (s.data.toList.drop k) := by
  have hl : (s.data.toList.drop k).length = s.size - k := by rw [List.length_drop, size_list]
  have h0 : byt s k = gi (s.data.toList.drop k) 0 := by have := byt_drop s k 0; simpa using this
  unfold rd dec
  rw [if_neg (by omega)]
  by_cases he : k = s.size
  · rw [if_pos (by omega), if_pos (List.eq_nil_of_length_eq_zero (by omega))]
  · rw [if_neg (by omega), if_neg (show ¬ s.data.toList.drop k = [] from fun hn => by rw [hn] at hl; simp at hl; omega)]
    rw [show (k : Int).toNat = k from Int.toNat_natCast k, rdl_decl s k _ _ 1 _ rfl, h0]

theorem b8_nat (n : Int) (h0 : 0 ≤ n) (h1 : n < 256) : ((b8 n).toNat : Int) = n := by
  unfold b8; rw [UInt8.toNat_ofNat']; omega
theorem b8_of (a : UInt8) : b8 (a.toNat : Int) = a := by
  unfold b8; simp
theorem gi_0 (a : UInt8) (t : List UInt8) : gi (a :: t) 0 = a.toNat := rfl
theorem gi_1 (a b : UInt8) (t : List UInt8) : gi (a :: b :: t) 1 = b.toNat := rfl
theorem gi_2 (a b c : UInt8) (t : List UInt8) : gi (a :: b :: c :: t) 2 = c.toNat := rfl
theorem gi_3 (a b c d : UInt8) (t : List UInt8) : gi (a :: b :: c :: d :: t) 3 = d.toNat := rfl
theorem sec_yes (f c : Int) (h0 : 128 ≤ c) (h1 : c < 192) (h2 : f = 224 → 160 ≤ c) (h3 : f = 237 → c < 160) (h4 : f = 240 → 144 ≤ c) (h5 : f = 244 → c < 144) : sec f c = true := by
  unfold sec
  rw [if_neg (by omega)]
  split
  · simp; exact h2 ‹_›
  · split
    · simp; exact h3 ‹_›
    · split
      · simp; exact h4 ‹_›
      · split
        · simp; exact h5 ‹_›
        · rfl
theorem sec_of (f c : Int) (h : sec f c = true) : 128 ≤ c ∧ c < 192 ∧ (f = 224 → 160 ≤ c) ∧ (f = 237 → c < 160) ∧ (f = 240 → 144 ≤ c) ∧ (f = 244 → c < 144) := by
  unfold sec at h
  split at h
  · cases h
  · split at h
    · simp at h; omega
    · split at h
      · simp at h; omega
      · split at h
        · simp at h; omega
        · split at h
          · simp at h; omega
          · omega
theorem bad1_no1 (l : List UInt8) (h : sec (gi l 0) (gi l 1) = true) : bad1 l 1 = false := by
  have := sec_of _ _ h
  unfold bad1
  rw [h, decide_eq_false (by omega), decide_eq_false (by omega)]; rfl
theorem bad1_no (l : List UInt8) (i : Nat) (hi : i ≠ 1) (h1 : 128 ≤ gi l i) (h2 : gi l i < 192) : bad1 l i = false := by
  unfold bad1
  rw [decide_eq_false (by omega), decide_eq_false (by omega)]; simp [hi]
theorem bad1_of (l : List UInt8) (i : Nat) (h : bad1 l i = false) : 128 ≤ gi l i ∧ gi l i < 192 ∧ (i = 1 → sec (gi l 0) (gi l 1) = true) := by
  unfold bad1 at h
  simp only [Bool.or_eq_false_iff, decide_eq_false_iff_not] at h
  refine ⟨by omega, by omega, fun e => ?_⟩
  subst e
  have := h.1.1
  simpa using this

set_option maxRecDepth 10000 in
/-- A form is read. -/
theorem dec_frm (x : Int) (hp : isPt x) (t : List UInt8) : dec (frm x ++ t) = (x, ((frm x).length : Int), 0) := by
  obtain ⟨h0, h1, h2⟩ := hp
  unfold frm
  split
  · rename_i c
    unfold dec
    rw [if_neg (by simp)]
    have g0 : gi ([b8 x] ++ t) 0 = x := b8_nat _ (by omega) (by omega)
    rw [g0, show hdn x = 1 by unfold hdn; rw [if_pos c], if_neg (by omega), decl_end _ _ _ _ (by omega), show hdx x = x by unfold hdx; rw [if_pos c]]
    rfl
  · split
    · rename_i c c2
      unfold dec
      rw [if_neg (by simp)]
      have g0 : gi ([b8 (192 + x / 64), b8 (128 + x % 64)] ++ t) 0 = 192 + x / 64 := b8_nat _ (by omega) (by omega)
      have g1 : gi ([b8 (192 + x / 64), b8 (128 + x % 64)] ++ t) 1 = 128 + x % 64 := b8_nat _ (by omega) (by omega)
      rw [g0, show hdn (192 + x / 64) = 2 by unfold hdn; (repeat' split) <;> omega, if_neg (by omega), show hdx (192 + x / 64) = x / 64 by unfold hdx; (repeat' split) <;> omega]
      rw [decl_next _ _ _ _ (by omega) (by simp) (bad1_no1 _ (by rw [g0, g1]; apply sec_yes <;> omega)), decl_end _ _ _ _ (by omega), g1]
      rw [show x / 64 * 64 + (128 + x % 64) % 64 = x by omega]
      rfl
    · split
      · rename_i c c2 c3
        unfold dec
        rw [if_neg (by simp)]
        have g0 : gi ([b8 (224 + x / 4096), b8 (128 + x / 64 % 64), b8 (128 + x % 64)] ++ t) 0 = 224 + x / 4096 := b8_nat _ (by omega) (by omega)
        have g1 : gi ([b8 (224 + x / 4096), b8 (128 + x / 64 % 64), b8 (128 + x % 64)] ++ t) 1 = 128 + x / 64 % 64 := b8_nat _ (by omega) (by omega)
        have g2 : gi ([b8 (224 + x / 4096), b8 (128 + x / 64 % 64), b8 (128 + x % 64)] ++ t) 2 = 128 + x % 64 := b8_nat _ (by omega) (by omega)
        rw [g0, show hdn (224 + x / 4096) = 3 by unfold hdn; (repeat' split) <;> omega, if_neg (by omega), show hdx (224 + x / 4096) = x / 4096 by unfold hdx; (repeat' split) <;> omega]
        rw [decl_next _ _ _ _ (by omega) (by simp) (bad1_no1 _ (by rw [g0, g1]; apply sec_yes <;> omega)), decl_next _ _ _ _ (by omega) (by simp) (bad1_no _ 2 (by omega) (by omega) (by omega)), decl_end _ _ _ _ (by omega), g1, g2]
        rw [show (x / 4096 * 64 + (128 + x / 64 % 64) % 64) * 64 + (128 + x % 64) % 64 = x by omega]
        rfl
      · rename_i c c2 c3
        unfold dec
        rw [if_neg (by simp)]
        have g0 : gi ([b8 (240 + x / 262144), b8 (128 + x / 4096 % 64), b8 (128 + x / 64 % 64), b8 (128 + x % 64)] ++ t) 0 = 240 + x / 262144 := b8_nat _ (by omega) (by omega)
        have g1 : gi ([b8 (240 + x / 262144), b8 (128 + x / 4096 % 64), b8 (128 + x / 64 % 64), b8 (128 + x % 64)] ++ t) 1 = 128 + x / 4096 % 64 := b8_nat _ (by omega) (by omega)
        have g2 : gi ([b8 (240 + x / 262144), b8 (128 + x / 4096 % 64), b8 (128 + x / 64 % 64), b8 (128 + x % 64)] ++ t) 2 = 128 + x / 64 % 64 := b8_nat _ (by omega) (by omega)
        have g3 : gi ([b8 (240 + x / 262144), b8 (128 + x / 4096 % 64), b8 (128 + x / 64 % 64), b8 (128 + x % 64)] ++ t) 3 = 128 + x % 64 := b8_nat _ (by omega) (by omega)
        rw [g0, show hdn (240 + x / 262144) = 4 by unfold hdn; (repeat' split) <;> omega, if_neg (by omega), show hdx (240 + x / 262144) = x / 262144 by unfold hdx; (repeat' split) <;> omega]
        rw [decl_next _ _ _ _ (by omega) (by simp) (bad1_no1 _ (by rw [g0, g1]; apply sec_yes <;> omega)), decl_next _ _ _ _ (by omega) (by simp) (bad1_no _ 2 (by omega) (by omega) (by omega)), decl_next _ _ _ _ (by omega) (by simp) (bad1_no _ 3 (by omega) (by omega) (by omega)), decl_end _ _ _ _ (by omega), g1, g2, g3]
        rw [show ((x / 262144 * 64 + (128 + x / 4096 % 64) % 64) * 64 + (128 + x / 64 % 64) % 64) * 64 + (128 + x % 64) % 64 = x by omega]
        rfl

theorem ok_next {l : List UInt8} {n i : Nat} {x y m : Int} (hi : i < n) (h : decl l n i x = (y, m, 0)) : i < l.length ∧ bad1 l i = false ∧ decl l n (i + 1) (x * 64 + gi l i % 64) = (y, m, 0) := by
  by_cases hl : i < l.length
  · cases hb : bad1 l i with
    | true => rw [decl_bad _ _ _ _ hi hl hb] at h; simp at h
    | false => rw [decl_next _ _ _ _ hi hl hb] at h; exact ⟨hl, rfl, h⟩
  · rw [decl_short _ _ _ _ hi hl] at h; simp at h
theorem ok_end {l : List UInt8} {n i : Nat} {x y m : Int} (hi : ¬ i < n) (h : decl l n i x = (y, m, 0)) : y = x ∧ m = n := by
  rw [decl_end _ _ _ _ hi] at h; simp at h; exact ⟨h.1.symm, h.2.symm⟩

set_option maxRecDepth 10000 in
/-- What is read is a form. -/
theorem dec_of (l : List UInt8) (x n : Int) (h : dec l = (x, n, 0)) : isPt x ∧ n = ((frm x).length : Int) ∧ ∃ t, l = frm x ++ t := by
  unfold dec at h
  split at h
  · simp at h
  · rename_i hne
    split at h
    · simp at h
    · rename_i hh
      match l, hne with
      | a :: t, _ =>
        have ha := a.toNat_lt
        rw [gi_0] at h hh
        rcases (show (a.toNat : Int) < 128 ∨ (128 ≤ (a.toNat : Int) ∧ (a.toNat : Int) < 194) ∨ (194 ≤ (a.toNat : Int) ∧ (a.toNat : Int) < 224) ∨ (224 ≤ (a.toNat : Int) ∧ (a.toNat : Int) < 240) ∨ (240 ≤ (a.toNat : Int) ∧ (a.toNat : Int) < 245) ∨ 245 ≤ (a.toNat : Int) by omega) with g | ⟨g, g2⟩ | ⟨g, g2⟩ | ⟨g, g2⟩ | ⟨g, g2⟩ | g
        · rw [show hdn a.toNat = 1 by unfold hdn; rw [if_pos g], show hdx a.toNat = a.toNat by unfold hdx; rw [if_pos g]] at h
          obtain ⟨rfl, rfl⟩ := ok_end (by omega) h
          have hf : frm (a.toNat : Int) = [a] := by unfold frm; rw [if_pos g, b8_of]
          exact ⟨⟨by omega, by omega, by omega⟩, by rw [hf]; rfl, t, by rw [hf]; rfl⟩
        · exact absurd (by unfold hdn; (repeat' split) <;> omega) hh
        · rw [show hdn a.toNat = 2 by unfold hdn; (repeat' split) <;> omega, show hdx a.toNat = a.toNat % 32 by unfold hdx; (repeat' split) <;> omega] at h
          obtain ⟨hl, hb, h⟩ := ok_next (by omega) h
          obtain ⟨rfl, rfl⟩ := ok_end (by omega) h
          match t, hl with
          | b :: t, _ =>
            have hb' := b.toNat_lt
            obtain ⟨b1, b2, b3⟩ := bad1_of _ _ hb
            rw [gi_1] at b1 b2 ⊢
            have hf : frm ((a.toNat : Int) % 32 * 64 + b.toNat % 64) = [a, b] := by
              unfold frm
              rw [if_neg (by omega), if_pos (by omega)]
              rw [show 192 + ((a.toNat : Int) % 32 * 64 + b.toNat % 64) / 64 = a.toNat by omega, show 128 + ((a.toNat : Int) % 32 * 64 + b.toNat % 64) % 64 = b.toNat by omega, b8_of, b8_of]
            exact ⟨⟨by omega, by omega, by omega⟩, by rw [hf]; rfl, t, by rw [hf]; rfl⟩
        · rw [show hdn a.toNat = 3 by unfold hdn; (repeat' split) <;> omega, show hdx a.toNat = a.toNat % 16 by unfold hdx; (repeat' split) <;> omega] at h
          obtain ⟨hl, hb, h⟩ := ok_next (by omega) h
          obtain ⟨hl2, hb2, h⟩ := ok_next (by omega) h
          obtain ⟨rfl, rfl⟩ := ok_end (by omega) h
          match t, hl, hl2 with
          | b :: c :: t, _, _ =>
            have hb' := b.toNat_lt
            have hc' := c.toNat_lt
            obtain ⟨b1, b2, b3⟩ := bad1_of _ _ hb
            obtain ⟨c1, c2, _⟩ := bad1_of _ _ hb2
            have hs := sec_of _ _ (b3 rfl)
            rw [gi_0, gi_1] at hs
            rw [gi_1] at b1 b2 ⊢
            rw [gi_2] at c1 c2 ⊢
            have hf : frm (((a.toNat : Int) % 16 * 64 + b.toNat % 64) * 64 + c.toNat % 64) = [a, b, c] := by
              unfold frm
              rw [if_neg (by omega), if_neg (by omega), if_pos (by omega)]
              rw [show 224 + (((a.toNat : Int) % 16 * 64 + b.toNat % 64) * 64 + c.toNat % 64) / 4096 = a.toNat by omega, show 128 + (((a.toNat : Int) % 16 * 64 + b.toNat % 64) * 64 + c.toNat % 64) / 64 % 64 = b.toNat by omega, show 128 + (((a.toNat : Int) % 16 * 64 + b.toNat % 64) * 64 + c.toNat % 64) % 64 = c.toNat by omega, b8_of, b8_of, b8_of]
            exact ⟨⟨by omega, by omega, by omega⟩, by rw [hf]; rfl, t, by rw [hf]; rfl⟩
        · rw [show hdn a.toNat = 4 by unfold hdn; (repeat' split) <;> omega, show hdx a.toNat = a.toNat % 8 by unfold hdx; (repeat' split) <;> omega] at h
          obtain ⟨hl, hb, h⟩ := ok_next (by omega) h
          obtain ⟨hl2, hb2, h⟩ := ok_next (by omega) h
          obtain ⟨hl3, hb3, h⟩ := ok_next (by omega) h
          obtain ⟨rfl, rfl⟩ := ok_end (by omega) h
          match t, hl, hl2, hl3 with
          | b :: c :: d :: t, _, _, _ =>
            have hb' := b.toNat_lt
            have hc' := c.toNat_lt
            have hd' := d.toNat_lt
            obtain ⟨b1, b2, b3⟩ := bad1_of _ _ hb
            obtain ⟨c1, c2, _⟩ := bad1_of _ _ hb2
            obtain ⟨d1, d2, _⟩ := bad1_of _ _ hb3
            have hs := sec_of _ _ (b3 rfl)
            rw [gi_0, gi_1] at hs
            rw [gi_1] at b1 b2 ⊢
            rw [gi_2] at c1 c2 ⊢
            rw [gi_3] at d1 d2 ⊢
            have hf : frm ((((a.toNat : Int) % 8 * 64 + b.toNat % 64) * 64 + c.toNat % 64) * 64 + d.toNat % 64) = [a, b, c, d] := by
              unfold frm
              rw [if_neg (by omega), if_neg (by omega), if_neg (by omega)]
              rw [show 240 + ((((a.toNat : Int) % 8 * 64 + b.toNat % 64) * 64 + c.toNat % 64) * 64 + d.toNat % 64) / 262144 = a.toNat by omega, show 128 + ((((a.toNat : Int) % 8 * 64 + b.toNat % 64) * 64 + c.toNat % 64) * 64 + d.toNat % 64) / 4096 % 64 = b.toNat by omega, show 128 + ((((a.toNat : Int) % 8 * 64 + b.toNat % 64) * 64 + c.toNat % 64) * 64 + d.toNat % 64) / 64 % 64 = c.toNat by omega, show 128 + ((((a.toNat : Int) % 8 * 64 + b.toNat % 64) * 64 + c.toNat % 64) * 64 + d.toNat % 64) % 64 = d.toNat by omega, b8_of, b8_of, b8_of, b8_of]
            exact ⟨⟨by omega, by omega, by omega⟩, by rw [hf]; rfl, t, by rw [hf]; rfl⟩
        · exact absurd (by unfold hdn; (repeat' split) <;> omega) hh

/-- The number that bytes would be. -/
def polI : List UInt8 → Int
  | [a] => a.toNat
  | [a, b] => 64 * ((a.toNat : Int) - 192) + b.toNat - 128
  | [a, b, c] => 4096 * ((a.toNat : Int) - 224) + 64 * ((b.toNat : Int) - 128) + c.toNat - 128
  | [a, b, c, d] => 262144 * ((a.toNat : Int) - 240) + 4096 * ((b.toNat : Int) - 128) + 64 * ((c.toNat : Int) - 128) + d.toNat - 128
  | _ => -1
def valR (l : List UInt8) : Int := if isPt (polI l) ∧ frm (polI l) = l then polI l else -1
def padR (l : List UInt8) (n : Nat) : List UInt8 := l ++ List.replicate (n - l.length) 128
def BegP (l : List UInt8) : Prop := ∃ n, l.length < n ∧ n ≤ 4 ∧ (0 ≤ valR (padR (l ++ [128]) n) ∨ 0 ≤ valR (padR (l ++ [191]) n))

set_option maxRecDepth 10000 in
theorem pol_frm (x : Int) (hp : isPt x) : polI (frm x) = x := by
  obtain ⟨h0, h1, h2⟩ := hp
  unfold frm
  split
  · show ((b8 x).toNat : Int) = x
    exact b8_nat _ (by omega) (by omega)
  · split
    · show 64 * (((b8 (192 + x / 64)).toNat : Int) - 192) + (b8 (128 + x % 64)).toNat - 128 = x
      rw [b8_nat _ (by omega) (by omega), b8_nat _ (by omega) (by omega)]; omega
    · split
      · show 4096 * (((b8 (224 + x / 4096)).toNat : Int) - 224) + 64 * (((b8 (128 + x / 64 % 64)).toNat : Int) - 128) + (b8 (128 + x % 64)).toNat - 128 = x
        rw [b8_nat _ (by omega) (by omega), b8_nat _ (by omega) (by omega), b8_nat _ (by omega) (by omega)]; omega
      · show 262144 * (((b8 (240 + x / 262144)).toNat : Int) - 240) + 4096 * (((b8 (128 + x / 4096 % 64)).toNat : Int) - 128) + 64 * (((b8 (128 + x / 64 % 64)).toNat : Int) - 128) + (b8 (128 + x % 64)).toNat - 128 = x
        rw [b8_nat _ (by omega) (by omega), b8_nat _ (by omega) (by omega), b8_nat _ (by omega) (by omega), b8_nat _ (by omega) (by omega)]; omega
theorem val_frm (x : Int) (hp : isPt x) : valR (frm x) = x := by
  unfold valR; rw [pol_frm x hp, if_pos ⟨hp, rfl⟩]
theorem val_of (l : List UInt8) (h : 0 ≤ valR l) : isPt (valR l) ∧ frm (valR l) = l := by
  unfold valR at h ⊢
  split
  · rename_i c; exact c
  · rename_i c; rw [if_neg c] at h; omega

theorem ref_yes (l : List UInt8) (n : Nat) (hn : n ≤ l.length) (h : 0 ≤ valR (l.take n)) : dec l = (valR (l.take n), (n : Int), 0) := by
  obtain ⟨h1, h2⟩ := val_of _ h
  have hl : l = frm (valR (l.take n)) ++ l.drop n := by rw [h2]; exact (List.take_append_drop n l).symm
  have := dec_frm _ h1 (l.drop n)
  rw [← hl] at this
  rw [this, h2]
  simp; omega
theorem decl_all (l : List UInt8) (n : Nat) (hn : n ≤ l.length) : ∀ (m i : Nat) (x : Int), m = n - i → (∀ j, i ≤ j → j < n → bad1 l j = false) → ∃ y, decl l n i x = (y, (n : Int), 0) := by
  intro m
  induction m with
  | zero => intro i x hm _; exact ⟨x, decl_end _ _ _ _ (by omega)⟩
  | succ m ih =>
    intro i x hm hb
    rw [decl_next _ _ _ _ (by omega) (by omega) (hb i (Nat.le_refl _) (by omega))]
    exact ih (i + 1) _ (by omega) (fun j h1 h2 => hb j (by omega) h2)
theorem decl_pre (l : List UInt8) (n : Nat) (hn : l.length < n) : ∀ (m i : Nat) (x : Int), m = l.length - i → i ≤ l.length → (∀ j, i ≤ j → j < l.length → bad1 l j = false) → decl l n i x = (0, 0, 10) := by
  intro m
  induction m with
  | zero => intro i x hm hi _; exact decl_short _ _ _ _ (by omega) (by omega)
  | succ m ih =>
    intro i x hm hi hb
    rw [decl_next _ _ _ _ (by omega) (by omega) (hb i (Nat.le_refl _) (by omega))]
    exact ih (i + 1) _ (by omega) (by omega) (fun j h1 h2 => hb j (by omega) h2)
theorem ok_all (l : List UInt8) (n : Nat) : ∀ (m i : Nat) (x y k : Int), m = n - i → i ≤ n → decl l n i x = (y, k, 0) → k = n ∧ n ≤ max l.length i ∧ ∀ j, i ≤ j → j < n → bad1 l j = false := by
  intro m
  induction m with
  | zero => intro i x y k hm hi h; exact ⟨(ok_end (by omega) h).2, by omega, fun j h1 h2 => by omega⟩
  | succ m ih =>
    intro i x y k hm hi h
    obtain ⟨h1, h2, h3⟩ := ok_next (by omega) h
    obtain ⟨a, b, c⟩ := ih (i + 1) _ y k (by omega) (by omega) h3
    refine ⟨a, by omega, fun j g1 g2 => ?_⟩
    by_cases e : j = i
    · rw [e]; exact h2
    · exact c j (by omega) g2
theorem err_all (l : List UInt8) (n : Nat) : ∀ (m i : Nat) (x : Int), m = n - i → i ≤ l.length → (∃ y, decl l n i x = (y, (n : Int), 0)) ∨ decl l n i x = (0, 0, 11) ∨ (decl l n i x = (0, 0, 10) ∧ l.length < n ∧ ∀ j, i ≤ j → j < l.length → bad1 l j = false) := by
  intro m
  induction m with
  | zero => intro i x hm _; exact .inl ⟨x, decl_end _ _ _ _ (by omega)⟩
  | succ m ih =>
    intro i x hm hi
    by_cases hl : i < l.length
    · cases hb : bad1 l i with
      | true => exact .inr (.inl (decl_bad _ _ _ _ (by omega) hl hb))
      | false =>
        rw [decl_next _ _ _ _ (by omega) hl hb]
        rcases ih (i + 1) (x * 64 + gi l i % 64) (by omega) (by omega) with h | h | ⟨h1, h2, h3⟩
        · exact .inl h
        · exact .inr (.inl h)
        · refine .inr (.inr ⟨h1, h2, fun j g1 g2 => ?_⟩)
          by_cases e : j = i
          · rw [e]; exact hb
          · exact h3 j (by omega) g2
    · exact .inr (.inr ⟨decl_short _ _ _ _ (by omega) hl, by omega, fun j _ _ => by omega⟩)
theorem gi_app (l r : List UInt8) (i : Nat) (h : i < l.length) : gi (l ++ r) i = gi l i := by
  unfold gi; rw [List.getD_eq_getElem?_getD, List.getD_eq_getElem?_getD, List.getElem?_append_left h]
theorem bad_app (l r : List UInt8) (i : Nat) (h : i < l.length) : bad1 (l ++ r) i = bad1 l i := by
  unfold bad1; rw [gi_app l r i h, gi_app l r 0 (by omega)]
theorem dec_cons (l : List UInt8) (h : l ≠ []) (n : Nat) (hn : hdn (gi l 0) = n) (h0 : n ≠ 0) : dec l = decl l n 1 (hdx (gi l 0)) := by
  unfold dec; rw [if_neg h, if_neg (by omega), hn]
theorem dec_form (l : List UInt8) (h : l ≠ []) (hn : hdn (gi l 0) = 0) : dec l = (0, 0, 11) := by
  unfold dec; rw [if_neg h, if_pos hn]
theorem len_pos {l : List UInt8} (h : l ≠ []) : 1 ≤ l.length := by
  cases l with
  | nil => exact absurd rfl h
  | cons => simp
/-- What Read says where it reads nothing. -/
theorem dec_err (l : List UInt8) (h : l ≠ []) : (∃ x n, dec l = (x, n, 0)) ∨ dec l = (0, 0, 11) ∨ dec l = (0, 0, 10) := by
  by_cases hn : hdn (gi l 0) = 0
  · exact .inr (.inl (dec_form l h hn))
  · rw [dec_cons l h _ rfl hn]
    rcases err_all l (hdn (gi l 0)) _ 1 (hdx (gi l 0)) rfl (len_pos h) with ⟨y, h⟩ | h | ⟨h, _⟩
    · exact .inl ⟨_, _, h⟩
    · exact .inr (.inl h)
    · exact .inr (.inr h)
theorem short_of (l : List UInt8) (h : l ≠ []) (hd : dec l = (0, 0, 10)) : l.length < hdn (gi l 0) ∧ ∀ j, 1 ≤ j → j < l.length → bad1 l j = false := by
  by_cases hn : hdn (gi l 0) = 0
  · rw [dec_form l h hn] at hd; simp at hd
  · rw [dec_cons l h _ rfl hn] at hd
    rcases err_all l (hdn (gi l 0)) _ 1 (hdx (gi l 0)) rfl (len_pos h) with ⟨y, e⟩ | e | ⟨_, e⟩
    · rw [e] at hd; simp at hd
    · rw [e] at hd; simp at hd
    · exact e
theorem pad_len (l : List UInt8) (n : Nat) (h : l.length ≤ n) : (padR l n).length = n := by
  unfold padR; simp; omega
theorem gi_pad (l : List UInt8) (n i : Nat) (h : l.length ≤ i) (h2 : i < n) : gi (padR l n) i = 128 := by
  unfold gi padR
  rw [List.getD_eq_getElem?_getD, List.getElem?_append_right h, List.getElem?_replicate, if_pos (by omega)]; rfl
theorem gi_last (l : List UInt8) (b : UInt8) : gi (l ++ [b]) l.length = b.toNat := by
  unfold gi; rw [List.getD_eq_getElem?_getD, List.getElem?_append_right (Nat.le_refl _)]; simp
theorem beg_of (l : List UInt8) (h : l ≠ []) (hd : dec l = (0, 0, 10)) : l.length < 4 ∧ BegP l := by
  obtain ⟨h1, h2⟩ := short_of l h hd
  have h4 := hdn_le (gi l 0)
  have hl := len_pos h
  obtain ⟨b, hb, hbs⟩ : ∃ b : UInt8, (b = 128 ∨ b = 191) ∧ (l.length = 1 → sec (gi l 0) b.toNat = true) := by
    by_cases c : gi l 0 = 224 ∨ gi l 0 = 240
    · exact ⟨191, .inr rfl, fun _ => by apply sec_yes <;> first | (intro; decide) | decide | (intro; omega)⟩
    · exact ⟨128, .inl rfl, fun _ => by apply sec_yes <;> first | (intro; decide) | decide | (intro; omega)⟩
  have key : 0 ≤ valR (padR (l ++ [b]) (hdn (gi l 0))) := by
    have hpl : (padR (l ++ [b]) (hdn (gi l 0))).length = hdn (gi l 0) := pad_len _ _ (by simp; omega)
    have hne : padR (l ++ [b]) (hdn (gi l 0)) ≠ [] := fun e => by rw [e] at hpl; simp at hpl; omega
    have hg : ∀ i, i < l.length → gi (padR (l ++ [b]) (hdn (gi l 0))) i = gi l i := fun i hi => by
      unfold padR; rw [gi_app _ _ _ (by simp; omega), gi_app _ _ _ hi]
    have hg2 : gi (padR (l ++ [b]) (hdn (gi l 0))) l.length = b.toNat := by
      unfold padR; rw [gi_app _ _ _ (by simp), gi_last]
    have h0 := hg 0 (by omega)
    have hbb : 128 ≤ (b.toNat : Int) ∧ (b.toNat : Int) < 192 := by rcases hb with rfl | rfl <;> decide
    obtain ⟨y, hy⟩ := decl_all (padR (l ++ [b]) (hdn (gi l 0))) (hdn (gi l 0)) (by omega) _ 1 (hdx (gi l 0)) rfl (fun j g1 g2 => by
      by_cases e1 : j < l.length
      · rw [← h2 j g1 e1]; unfold bad1; rw [h0, hg j e1]
      · by_cases e2 : j = l.length
        · subst e2
          by_cases e3 : l.length = 1
          · rw [e3] at hg2 ⊢; exact bad1_no1 _ (by rw [h0, hg2]; exact hbs e3)
          · exact bad1_no _ _ e3 (by rw [hg2]; exact hbb.1) (by rw [hg2]; exact hbb.2)
        · have e4 := gi_pad (l ++ [b]) (hdn (gi l 0)) j (by simp; omega) g2
          exact bad1_no _ _ (by omega) (by rw [e4]; omega) (by rw [e4]; omega))
    have hd2 : dec (padR (l ++ [b]) (hdn (gi l 0))) = (y, ((hdn (gi l 0) : Nat) : Int), 0) := by
      rw [dec_cons _ hne (hdn (gi l 0)) (by rw [h0]) (by omega), h0]; exact hy
    obtain ⟨p1, p2, t, p3⟩ := dec_of _ _ _ hd2
    have ht : t = [] := by
      have := congrArg List.length p3
      rw [hpl, List.length_append] at this
      exact List.eq_nil_of_length_eq_zero (by omega)
    rw [p3, ht, List.append_nil, val_frm y p1]
    exact p1.1
  refine ⟨by omega, hdn (gi l 0), h1, h4, ?_⟩
  rcases hb with rfl | rfl
  · exact .inl key
  · exact .inr key
theorem beg_to (l : List UInt8) (h : l ≠ []) (hb : BegP l) : dec l = (0, 0, 10) := by
  obtain ⟨n, h1, h2, h3⟩ := hb
  obtain ⟨b, hv⟩ : ∃ b : UInt8, 0 ≤ valR (padR (l ++ [b]) n) := by
    rcases h3 with h3 | h3
    · exact ⟨_, h3⟩
    · exact ⟨_, h3⟩
  have hl := len_pos h
  have hpl : (padR (l ++ [b]) n).length = n := pad_len _ _ (by simp; omega)
  obtain ⟨r, hr⟩ : ∃ r, padR (l ++ [b]) n = l ++ r := ⟨[b] ++ List.replicate (n - (l ++ [b]).length) 128, by unfold padR; simp⟩
  obtain ⟨p1, p2⟩ := val_of _ hv
  have hd := dec_frm _ p1 []
  rw [List.append_nil, p2, hpl] at hd
  have hne : padR (l ++ [b]) n ≠ [] := fun e => by rw [e] at hpl; simp at hpl; omega
  rw [hr] at hd hne
  have h0 : gi (l ++ r) 0 = gi l 0 := gi_app _ _ _ (by omega)
  by_cases hn : hdn (gi l 0) = 0
  · rw [dec_form _ hne (by rw [h0, hn])] at hd; simp at hd
  · rw [dec_cons _ hne (hdn (gi l 0)) (by rw [h0]) hn] at hd
    obtain ⟨q1, q2, q3⟩ := ok_all (l ++ r) (hdn (gi l 0)) _ 1 _ _ _ rfl (by omega) hd
    rw [dec_cons l h _ rfl hn]
    exact decl_pre l _ (by omega) _ 1 _ rfl hl (fun j g1 g2 => by rw [← bad_app l r j g2]; exact q3 j g1 (by omega))
theorem ref_no (l : List UInt8) (h : l ≠ []) (hv : ∀ n, 1 ≤ n → n ≤ 4 → n ≤ l.length → ¬ 0 ≤ valR (l.take n)) : (l.length < 4 ∧ BegP l → dec l = (0, 0, 10)) ∧ (¬ (l.length < 4 ∧ BegP l) → dec l = (0, 0, 11)) := by
  refine ⟨fun hb => beg_to l h hb.2, fun hb => ?_⟩
  rcases dec_err l h with ⟨x, n, e⟩ | e | e
  · obtain ⟨p1, p2, t, p3⟩ := dec_of _ _ _ e
    exfalso
    refine hv (frm x).length (frm_pos x) (frm_len x) (by rw [p3]; simp) ?_
    have : l.take (frm x).length = frm x := by rw [p3]; simp
    rw [this, val_frm x p1]
    exact p1.1
  · exact e
  · exact absurd (beg_of l h e) hb

/-! What is left behind a beginning of forms. -/
theorem rpoint_to (x : Int) (b : Bool) (h : decide (isPt x) = b) (w : World) : Calls Tryz.prog 111 #[.int .i64 x] w fun e w' => e = .returned (.bool b) ∧ w = w' := by
  have := rpoint_any x w; rwa [h] at this
theorem row_conv {w : World} {v : Value} {l : List UInt8} (h : Row w v (l.map enc8)) (hl : 1 ≤ l.length) : (convert 27 9 v).run Tryz.prog w = .ok (.string ⟨l.toArray⟩) w := by
  rcases h with ⟨a, c, _, rfl, h0⟩ | ⟨b, off, cap, rfl, _, _, _, hc⟩
  · obtain rfl : l = [] := by simpa using h0
    simp at hl
  · rw [show (l.map enc8).length = l.length by simp]
    refine run_convert_bytes_back w 27 9 5 ⟨b, off, none⟩ cap l Tryz.underlying27 Tryz.underlying5 Tryz.underlying9 (fun j hj => ?_)
    rw [show (⟨b, off, none⟩ : Addr).add j = ⟨b, off + j, none⟩ by simp [Addr.add], hc j (by simpa using hj)]
    simp [enc8]
theorem toList_data (s : ByteArray) : s.toList = s.data.toList := ByteArray.toList_eq s
theorem strEq_ne (l : List UInt8) (s : ByteArray) (h : ¬ l = s.data.toList) : (l == s.toList) = false := by
  rw [toList_data, beq_eq_false_iff_ne]; exact h
theorem strEq_eq (l : List UInt8) (s : ByteArray) (h : l = s.data.toList) : (⟨l.toArray⟩ : ByteArray) = s := by
  rw [h]
theorem below_quiet {w w3 : World} {n : Nat} (h : Below (w.drewN n).heap.size (w.drewN n) w3) : Below w.heap.size w w3 := (below_drewN (Below.refl _ w) n).trans (h.mono (by simp))
def Rets (r : Int) (w : World) (e : Ending) (w' : World) : Prop := e = .returned (.int .i64 r) ∧ Below w.heap.size w w'

set_option maxRecDepth 100000 in
set_option maxHeartbeats 1000000 in
theorem value_1 (s : ByteArray) (x : Int) (hs : s.size = 1) (a : Int) (ha : byt s 0 = a) (hx : x = a) (w : World) :
    Calls Tryz.prog 96 #[.string s] w (Rets (if isPt x ∧ frm x = s.data.toList then x else -1) w) := by
  obtain ⟨R, hR⟩ : ∃ R : Int, Hid (R = if isPt x ∧ frm x = s.data.toList then x else -1) := ⟨_, rfl⟩
  rw [← hR.out]
  have la := byt_lo s 0
  have ua := byt_hi s 0
  have hB0 := byt_eq s 0 (by omega)
  rw [ha] at la ua hB0
  have z1 : ((s.size : Int) == 1) = true := by rw [hs]; rfl
  have z2 : ((s.size : Int) == 2) = false := by rw [hs]; rfl
  have z3 : ((s.size : Int) == 3) = false := by rw [hs]; rfl
  have z4 : ((s.size : Int) == 4) = false := by rw [hs]; rfl
  have g0 : 0 < s.size := by omega
  replace hs := Lib.hid hs
  replace ha := Lib.hid ha
  subst hx
  by_cases hp : isPt x
  · have hpt := Lib.hid hp
    clear hp
    go_enter Tryz.func96, Tryz.ntmps96
    go_wp2_with fail
    refine (rpoint_to x true (decide_eq_true hpt.out) _).mono ?_; rintro e w2 ⟨rfl, rfl⟩
    go_wp2_with fail
    refine (form_any x hpt.out _).mono ?_; rintro e w3 ⟨⟨v3, rfl, hr3⟩, hb3⟩
    have hcv := row_conv hr3 (frm_pos x)
    replace hr3 := Lib.hid hr3
    by_cases hq : frm x = s.data.toList
    · have hsq := strEq_eq _ _ hq
      rw [hsq] at hcv
      have hr : R = x := by rw [hR.out, if_pos ⟨hpt.out, hq⟩]
      subst hr
      replace hq := Lib.hid hq
      replace hsq := Lib.hid hsq
      go_wp2_with fail
      go_ret
      exact ⟨rfl, hb3⟩
    · have hsq := strEq_ne _ _ hq
      have hr : R = -1 := by rw [hR.out, if_neg (fun h => hq h.2)]
      subst hr
      replace hq := Lib.hid hq
      go_wp2_with fail
      go_ret
      exact ⟨rfl, hb3⟩
  · have hr : R = -1 := by rw [hR.out, if_neg (fun h => hp h.1)]
    subst hr
    have hpt := Lib.hid hp
    clear hp
    go_enter Tryz.func96, Tryz.ntmps96
    go_wp2_with fail
    refine (rpoint_to x false (decide_eq_false hpt.out) _).mono ?_; rintro e w2 ⟨rfl, rfl⟩
    go_wp2_with fail
    go_ret
    exact ⟨rfl, Below.refl _ _⟩
set_option maxRecDepth 100000 in
set_option maxHeartbeats 1000000 in
theorem value_2 (s : ByteArray) (x : Int) (hs : s.size = 2) (a b : Int) (ha : byt s 0 = a) (hb : byt s 1 = b) (hx : x = 64 * (a - 192) + b - 128) (w : World) :
    Calls Tryz.prog 96 #[.string s] w (Rets (if isPt x ∧ frm x = s.data.toList then x else -1) w) := by
  obtain ⟨R, hR⟩ : ∃ R : Int, Hid (R = if isPt x ∧ frm x = s.data.toList then x else -1) := ⟨_, rfl⟩
  rw [← hR.out]
  have la := byt_lo s 0
  have ua := byt_hi s 0
  have hB0 := byt_eq s 0 (by omega)
  rw [ha] at la ua hB0
  have lb := byt_lo s 1
  have ub := byt_hi s 1
  have hB1 := byt_eq s 1 (by omega)
  rw [hb] at lb ub hB1
  have z1 : ((s.size : Int) == 1) = false := by rw [hs]; rfl
  have z2 : ((s.size : Int) == 2) = true := by rw [hs]; rfl
  have z3 : ((s.size : Int) == 3) = false := by rw [hs]; rfl
  have z4 : ((s.size : Int) == 4) = false := by rw [hs]; rfl
  have g0 : 0 < s.size := by omega
  have g1 : 1 < s.size := by omega
  replace hs := Lib.hid hs
  replace ha := Lib.hid ha
  replace hb := Lib.hid hb
  have hX := Lib.hid hx
  have hxs : 64 * (a - 192) + b - 128 = x := hx.symm
  clear hx
  by_cases hp : isPt x
  · have hpt := Lib.hid hp
    clear hp
    go_enter Tryz.func96, Tryz.ntmps96
    go_wp2_with fail
    go_quiet (fail)
    go_wp2_with fail
    refine (rpoint_to x true (decide_eq_true hpt.out) _).mono ?_; rintro e w2 ⟨rfl, rfl⟩
    go_wp2_with fail
    refine (form_any x hpt.out _).mono ?_; rintro e w3 ⟨⟨v3, rfl, hr3⟩, hb3⟩
    have hcv := row_conv hr3 (frm_pos x)
    replace hr3 := Lib.hid hr3
    replace hb3 := below_quiet hb3
    by_cases hq : frm x = s.data.toList
    · have hsq := strEq_eq _ _ hq
      rw [hsq] at hcv
      have hr : R = x := by rw [hR.out, if_pos ⟨hpt.out, hq⟩]
      subst hr
      replace hq := Lib.hid hq
      replace hsq := Lib.hid hsq
      go_wp2_with fail
      go_ret
      exact ⟨rfl, hb3⟩
    · have hsq := strEq_ne _ _ hq
      have hr : R = -1 := by rw [hR.out, if_neg (fun h => hq h.2)]
      subst hr
      replace hq := Lib.hid hq
      go_wp2_with fail
      go_ret
      exact ⟨rfl, hb3⟩
  · have hr : R = -1 := by rw [hR.out, if_neg (fun h => hp h.1)]
    subst hr
    have hpt := Lib.hid hp
    clear hp
    go_enter Tryz.func96, Tryz.ntmps96
    go_wp2_with fail
    go_quiet (fail)
    go_wp2_with fail
    refine (rpoint_to x false (decide_eq_false hpt.out) _).mono ?_; rintro e w2 ⟨rfl, rfl⟩
    go_wp2_with fail
    go_ret
    exact ⟨rfl, below_drewN (Below.refl _ _) _⟩
set_option maxRecDepth 100000 in
set_option maxHeartbeats 1000000 in
theorem value_3 (s : ByteArray) (x : Int) (hs : s.size = 3) (a b c : Int) (ha : byt s 0 = a) (hb : byt s 1 = b) (hc : byt s 2 = c) (hx : x = 4096 * (a - 224) + 64 * (b - 128) + c - 128) (w : World) :
    Calls Tryz.prog 96 #[.string s] w (Rets (if isPt x ∧ frm x = s.data.toList then x else -1) w) := by
  obtain ⟨R, hR⟩ : ∃ R : Int, Hid (R = if isPt x ∧ frm x = s.data.toList then x else -1) := ⟨_, rfl⟩
  rw [← hR.out]
  have la := byt_lo s 0
  have ua := byt_hi s 0
  have hB0 := byt_eq s 0 (by omega)
  rw [ha] at la ua hB0
  have lb := byt_lo s 1
  have ub := byt_hi s 1
  have hB1 := byt_eq s 1 (by omega)
  rw [hb] at lb ub hB1
  have lc := byt_lo s 2
  have uc := byt_hi s 2
  have hB2 := byt_eq s 2 (by omega)
  rw [hc] at lc uc hB2
  have z1 : ((s.size : Int) == 1) = false := by rw [hs]; rfl
  have z2 : ((s.size : Int) == 2) = false := by rw [hs]; rfl
  have z3 : ((s.size : Int) == 3) = true := by rw [hs]; rfl
  have z4 : ((s.size : Int) == 4) = false := by rw [hs]; rfl
  have g0 : 0 < s.size := by omega
  have g1 : 1 < s.size := by omega
  have g2 : 2 < s.size := by omega
  replace hs := Lib.hid hs
  replace ha := Lib.hid ha
  replace hb := Lib.hid hb
  replace hc := Lib.hid hc
  have hX := Lib.hid hx
  have hxs : 4096 * (a - 224) + 64 * (b - 128) + c - 128 = x := hx.symm
  clear hx
  by_cases hp : isPt x
  · have hpt := Lib.hid hp
    clear hp
    go_enter Tryz.func96, Tryz.ntmps96
    go_wp2_with fail
    go_quiet (fail)
    go_wp2_with fail
    refine (rpoint_to x true (decide_eq_true hpt.out) _).mono ?_; rintro e w2 ⟨rfl, rfl⟩
    go_wp2_with fail
    refine (form_any x hpt.out _).mono ?_; rintro e w3 ⟨⟨v3, rfl, hr3⟩, hb3⟩
    have hcv := row_conv hr3 (frm_pos x)
    replace hr3 := Lib.hid hr3
    replace hb3 := below_quiet hb3
    by_cases hq : frm x = s.data.toList
    · have hsq := strEq_eq _ _ hq
      rw [hsq] at hcv
      have hr : R = x := by rw [hR.out, if_pos ⟨hpt.out, hq⟩]
      subst hr
      replace hq := Lib.hid hq
      replace hsq := Lib.hid hsq
      go_wp2_with fail
      go_ret
      exact ⟨rfl, hb3⟩
    · have hsq := strEq_ne _ _ hq
      have hr : R = -1 := by rw [hR.out, if_neg (fun h => hq h.2)]
      subst hr
      replace hq := Lib.hid hq
      go_wp2_with fail
      go_ret
      exact ⟨rfl, hb3⟩
  · have hr : R = -1 := by rw [hR.out, if_neg (fun h => hp h.1)]
    subst hr
    have hpt := Lib.hid hp
    clear hp
    go_enter Tryz.func96, Tryz.ntmps96
    go_wp2_with fail
    go_quiet (fail)
    go_wp2_with fail
    refine (rpoint_to x false (decide_eq_false hpt.out) _).mono ?_; rintro e w2 ⟨rfl, rfl⟩
    go_wp2_with fail
    go_ret
    exact ⟨rfl, below_drewN (Below.refl _ _) _⟩
set_option maxRecDepth 100000 in
set_option maxHeartbeats 1000000 in
theorem value_4 (s : ByteArray) (x : Int) (hs : s.size = 4) (a b c d : Int) (ha : byt s 0 = a) (hb : byt s 1 = b) (hc : byt s 2 = c) (hd : byt s 3 = d) (hx : x = 262144 * (a - 240) + 4096 * (b - 128) + 64 * (c - 128) + d - 128) (w : World) :
    Calls Tryz.prog 96 #[.string s] w (Rets (if isPt x ∧ frm x = s.data.toList then x else -1) w) := by
  obtain ⟨R, hR⟩ : ∃ R : Int, Hid (R = if isPt x ∧ frm x = s.data.toList then x else -1) := ⟨_, rfl⟩
  rw [← hR.out]
  have la := byt_lo s 0
  have ua := byt_hi s 0
  have hB0 := byt_eq s 0 (by omega)
  rw [ha] at la ua hB0
  have lb := byt_lo s 1
  have ub := byt_hi s 1
  have hB1 := byt_eq s 1 (by omega)
  rw [hb] at lb ub hB1
  have lc := byt_lo s 2
  have uc := byt_hi s 2
  have hB2 := byt_eq s 2 (by omega)
  rw [hc] at lc uc hB2
  have ld := byt_lo s 3
  have ud := byt_hi s 3
  have hB3 := byt_eq s 3 (by omega)
  rw [hd] at ld ud hB3
  have z1 : ((s.size : Int) == 1) = false := by rw [hs]; rfl
  have z2 : ((s.size : Int) == 2) = false := by rw [hs]; rfl
  have z3 : ((s.size : Int) == 3) = false := by rw [hs]; rfl
  have z4 : ((s.size : Int) == 4) = true := by rw [hs]; rfl
  have g0 : 0 < s.size := by omega
  have g1 : 1 < s.size := by omega
  have g2 : 2 < s.size := by omega
  have g3 : 3 < s.size := by omega
  replace hs := Lib.hid hs
  replace ha := Lib.hid ha
  replace hb := Lib.hid hb
  replace hc := Lib.hid hc
  replace hd := Lib.hid hd
  have hX := Lib.hid hx
  have hxs : 262144 * (a - 240) + 4096 * (b - 128) + 64 * (c - 128) + d - 128 = x := hx.symm
  clear hx
  by_cases hp : isPt x
  · have hpt := Lib.hid hp
    clear hp
    go_enter Tryz.func96, Tryz.ntmps96
    go_wp2_with fail
    go_quiet (fail)
    go_wp2_with fail
    refine (rpoint_to x true (decide_eq_true hpt.out) _).mono ?_; rintro e w2 ⟨rfl, rfl⟩
    go_wp2_with fail
    refine (form_any x hpt.out _).mono ?_; rintro e w3 ⟨⟨v3, rfl, hr3⟩, hb3⟩
    have hcv := row_conv hr3 (frm_pos x)
    replace hr3 := Lib.hid hr3
    replace hb3 := below_quiet hb3
    by_cases hq : frm x = s.data.toList
    · have hsq := strEq_eq _ _ hq
      rw [hsq] at hcv
      have hr : R = x := by rw [hR.out, if_pos ⟨hpt.out, hq⟩]
      subst hr
      replace hq := Lib.hid hq
      replace hsq := Lib.hid hsq
      go_wp2_with fail
      go_ret
      exact ⟨rfl, hb3⟩
    · have hsq := strEq_ne _ _ hq
      have hr : R = -1 := by rw [hR.out, if_neg (fun h => hq h.2)]
      subst hr
      replace hq := Lib.hid hq
      go_wp2_with fail
      go_ret
      exact ⟨rfl, hb3⟩
  · have hr : R = -1 := by rw [hR.out, if_neg (fun h => hp h.1)]
    subst hr
    have hpt := Lib.hid hp
    clear hp
    go_enter Tryz.func96, Tryz.ntmps96
    go_wp2_with fail
    go_quiet (fail)
    go_wp2_with fail
    refine (rpoint_to x false (decide_eq_false hpt.out) _).mono ?_; rintro e w2 ⟨rfl, rfl⟩
    go_wp2_with fail
    go_ret
    exact ⟨rfl, below_drewN (Below.refl _ _) _⟩
theorem byt_get (s : ByteArray) (l : List UInt8) (h : s.data.toList = l) (k : Nat) : byt s k = ((l.getD k 0).toNat : Int) := by unfold byt; rw [h]
theorem value_any (s : ByteArray) (h1 : 1 ≤ s.size) (h4 : s.size ≤ 4) (w : World) : Calls Tryz.prog 96 #[.string s] w (Rets (valR s.data.toList) w) := by
  have hz := size_list s
  obtain ⟨l, hl⟩ : ∃ l, s.data.toList = l := ⟨_, rfl⟩
  have hv : valR s.data.toList = if isPt (polI l) ∧ frm (polI l) = s.data.toList then polI l else -1 := by rw [hl]; rfl
  rw [hv]
  rw [hl] at hz
  match l, hl with
  | [], hl => exact absurd (show s.size = 0 from hz) (by omega)
  | [a], hl => exact value_1 s _ (by simpa using hz) _ (byt_get s _ hl 0) rfl w
  | [a, b], hl => exact value_2 s _ (by simpa using hz) _ _ (byt_get s _ hl 0) (byt_get s _ hl 1) rfl w
  | [a, b, c], hl => exact value_3 s _ (by simpa using hz) _ _ _ (byt_get s _ hl 0) (byt_get s _ hl 1) (byt_get s _ hl 2) rfl w
  | [a, b, c, d], hl => exact value_4 s _ (by simpa using hz) _ _ _ _ (byt_get s _ hl 0) (byt_get s _ hl 1) (byt_get s _ hl 2) (byt_get s _ hl 3) rfl w
  | a :: b :: c :: d :: e :: t, hl => rw [List.length_cons, List.length_cons, List.length_cons, List.length_cons, List.length_cons] at hz; omega
theorem value_to (s : ByteArray) (h1 : 1 ≤ s.size) (h4 : s.size ≤ 4) (x : Int) (hx : valR s.data.toList = x) (w : World) : Calls Tryz.prog 96 #[.string s] w fun e w' => e = .returned (.int .i64 x) ∧ Below w.heap.size w w' := by
  rw [← hx]; exact value_any s h1 h4 w
/-- 'string([]byte{c})'. -/
theorem conv_lit (w : World) (c : UInt8) (n : Int) (h : n = c.toNat) : (convert 27 9 (.slice (some ⟨w.heap.size, 0, none⟩) 1 1)).run Tryz.prog (w.alloc (.cells #[.int .u8 n] 5)) = .ok (.string ⟨#[c]⟩) (w.alloc (.cells #[.int .u8 n] 5)) := by
  subst h
  exact run_convert_bytes_back (w.alloc (.cells #[.int .u8 (c.toNat : Int)] 5)) 27 9 5 ⟨w.heap.size, 0, none⟩ 1 [c] Tryz.underlying27 Tryz.underlying5 Tryz.underlying9 (fun j hj => by
    obtain rfl : j = 0 := by simpa using hj
    simp [Addr.add, go_sem])
def BegN (l : List UInt8) (n : Nat) : Prop := ∀ m, l.length < m → m < n → ¬ 0 ≤ valR (padR (l ++ [128]) m) ∧ ¬ 0 ≤ valR (padR (l ++ [191]) m)
theorem app_list (s t : ByteArray) : (s ++ t).data.toList = s.data.toList ++ t.data.toList := by simp
theorem app_size (s t : ByteArray) : (s ++ t).size = s.size + t.size := by simp
def RetB (P : Prop) (w : World) (e : Ending) (w' : World) : Prop := ∃ b, e = .returned (.bool b) ∧ (b = true ↔ P) ∧ Below w.heap.size w w'
def PadT (l : List UInt8) (b : UInt8) (n : Nat) (s5 : Value) (g : Nat) : Prop := ∃ t : ByteArray, s5 = .string t ∧ t.size + g = n ∧ l.length < t.size ∧ t.data.toList = padR (l ++ [b]) t.size
theorem pad_step (l : List UInt8) (n : Nat) (h : l.length ≤ n) : padR l (n + 1) = padR l n ++ [128] := by
  unfold padR; rw [show n + 1 - l.length = (n - l.length) + 1 by omega, List.replicate_succ', List.append_assoc]
theorem pad_self (l : List UInt8) : padR l l.length = l := by unfold padR; simp

set_option maxRecDepth 100000 in
set_option maxHeartbeats 2000000 in
theorem begins_any (s : ByteArray) (h1 : 1 ≤ s.size) (h3 : s.size ≤ 3) (w : World) :
    Calls Tryz.prog 97 #[.string s] w (RetB (BegP s.data.toList) w) := by
  obtain ⟨l, hl⟩ : ∃ l, Hid (s.data.toList = l) := ⟨_, rfl⟩
  have hz : Hid (s.size = l.length) := by show s.size = _; rw [size_list s, hl.out]
  rw [hl.out]
  have k8 := fun (W : World) => conv_lit W 128 128 rfl
  have k9 := fun (W : World) => conv_lit W 191 191 rfl
  go_enter Tryz.func97, Tryz.ntmps97
  go_wp2_with fail
  go_loopg [3] (5 - s.size) (fun g s3 wr => ∃ n : Nat, s.size < n ∧ n ≤ 5 ∧ n + g = 6 ∧ s3 = .int .i64 n ∧ Hid (BegN l n) ∧ Below w.heap.size w wr)
  case atStart => exact ⟨s.size + 1, by omega, by omega, by omega, by go_num, fun m a b => by have := hz.out; omega, Below.refl _ _⟩
  case round =>
    obtain ⟨n, hn1, hn2, hg, rfl, hbn, hb⟩ := hrel
    by_cases hn4 : n ≤ 4
    · have t1 : decide ((n : Int) ≤ 4) = true := decide_eq_true (by omega)
      go_wp2_with fail
      go_loopg [4] 2 (fun g s4 wi => ∃ i : Nat, i ≤ 2 ∧ i + g = 2 ∧ s4 = .int .i64 i ∧ Hid (BegN l n) ∧ Hid (1 ≤ i → ¬ 0 ≤ valR (padR (l ++ [128]) n)) ∧ Hid (2 ≤ i → ¬ 0 ≤ valR (padR (l ++ [191]) n)) ∧ Below w.heap.size w wi)
      case atStart => exact ⟨0, by omega, by omega, rfl, hbn, fun h => by omega, fun h => by omega, hb⟩
      case round =>
        obtain ⟨i, hi1, hi2, rfl, hbn, hv1, hv2, hb⟩ := hrel
        rcases (show i = 0 ∨ i = 1 ∨ i = 2 by omega) with rfl | rfl | rfl
        · have t2 : decide (((0 : Nat) : Int) < 2) = true := by decide
          rw [show ((0 : Nat) : Int) = 0 from rfl]
          have q0 : IntKind.u8.wrap 128 = 128 := by decide
          go_wp2_with fail
          go_loopg [5] (n - (s.size + 1)) (fun g s5 wp => Hid (PadT l 128 n s5 g) ∧ Below w.heap.size w wp)
          case atStart =>
            have e1 : (s ++ ⟨#[128]⟩ : ByteArray).size = s.size + 1 := app_size s ⟨#[128]⟩
            refine ⟨⟨_, rfl, by omega, by have := hz.out; omega, ?_⟩, hb.alloc hb.size _⟩
            rw [e1, hz.out, app_list, hl.out]
            exact (by have := pad_self (l ++ [128]); rw [List.length_append] at this; exact this.symm)
          case round =>
            obtain ⟨hp, hb⟩ := hrel
            obtain ⟨t, rfl, ht1, ht2, ht3⟩ := hp.out
            have hT := Lib.hid ht3
            clear ht3 hp
            by_cases hlt : t.size < n
            · have t3 : decide (t.size < n) = true := decide_eq_true hlt
              go_wp2_with fail
              go_roundg (gk - 1)
              case measure => omega
              case rel =>
                have e1 : (t ++ ⟨#[128]⟩ : ByteArray).size = t.size + 1 := app_size t ⟨#[128]⟩
                refine ⟨⟨_, rfl, by omega, by omega, ?_⟩, hb.alloc hb.size _⟩
                rw [e1, app_list, hT.out, pad_step _ _ (by simp; omega)]
            · obtain hte : t.size = n := by omega
              have t3 : decide (t.size < n) = false := decide_eq_false hlt
              obtain ⟨v, hv⟩ : ∃ v, Hid (valR t.data.toList = v) := ⟨valR t.data.toList, rfl⟩
              have hpv : Hid (valR (padR (l ++ [128]) n) = v) := by show _ = _; rw [← hv.out, hT.out, hte]
              have hcall := Lib.hid (fun W => value_to t (by omega) (by omega) v hv.out W)
              replace hte := Lib.hid hte
              go_wp2_with fail
              refine (hcall.out _).mono ?_; rintro e w3 ⟨rfl, hb3⟩
              replace hb := on_trans hb hb3
              by_cases hvp : 0 ≤ v
              · have t4 : decide (0 ≤ v) = true := decide_eq_true hvp
                go_wp2_with fail
                go_ret
                refine ⟨true, rfl, ⟨fun _ => ⟨n, by have := hz.out; omega, hn4, .inl (by rw [hpv.out]; exact hvp)⟩, fun _ => rfl⟩, hb⟩
              · have t4 : decide (0 ≤ v) = false := decide_eq_false hvp
                go_wp2_with fail
                go_roundg 1
                case measure => omega
                case rel => exact ⟨1, by omega, by omega, rfl, hbn, fun _ => by rw [hpv.out]; exact hvp, fun h => by omega, hb⟩
        · have t2 : decide (((1 : Nat) : Int) < 2) = true := by decide
          rw [show ((1 : Nat) : Int) = 1 from rfl]
          have q1 : IntKind.u8.wrap 191 = 191 := by decide
          go_wp2_with fail
          go_loopg [5] (n - (s.size + 1)) (fun g s5 wp => Hid (PadT l 191 n s5 g) ∧ Below w.heap.size w wp)
          case atStart =>
            have e1 : (s ++ ⟨#[191]⟩ : ByteArray).size = s.size + 1 := app_size s ⟨#[191]⟩
            refine ⟨⟨_, rfl, by omega, by have := hz.out; omega, ?_⟩, hb.alloc hb.size _⟩
            rw [e1, hz.out, app_list, hl.out]
            exact (by have := pad_self (l ++ [191]); rw [List.length_append] at this; exact this.symm)
          case round =>
            obtain ⟨hp, hb⟩ := hrel
            obtain ⟨t, rfl, ht1, ht2, ht3⟩ := hp.out
            have hT := Lib.hid ht3
            clear ht3 hp
            by_cases hlt : t.size < n
            · have t3 : decide (t.size < n) = true := decide_eq_true hlt
              go_wp2_with fail
              go_roundg (gk - 1)
              case measure => omega
              case rel =>
                have e1 : (t ++ ⟨#[128]⟩ : ByteArray).size = t.size + 1 := app_size t ⟨#[128]⟩
                refine ⟨⟨_, rfl, by omega, by omega, ?_⟩, hb.alloc hb.size _⟩
                rw [e1, app_list, hT.out, pad_step _ _ (by simp; omega)]
            · obtain hte : t.size = n := by omega
              have t3 : decide (t.size < n) = false := decide_eq_false hlt
              obtain ⟨v, hv⟩ : ∃ v, Hid (valR t.data.toList = v) := ⟨valR t.data.toList, rfl⟩
              have hpv : Hid (valR (padR (l ++ [191]) n) = v) := by show _ = _; rw [← hv.out, hT.out, hte]
              have hcall := Lib.hid (fun W => value_to t (by omega) (by omega) v hv.out W)
              replace hte := Lib.hid hte
              go_wp2_with fail
              refine (hcall.out _).mono ?_; rintro e w3 ⟨rfl, hb3⟩
              replace hb := on_trans hb hb3
              by_cases hvp : 0 ≤ v
              · have t4 : decide (0 ≤ v) = true := decide_eq_true hvp
                go_wp2_with fail
                go_ret
                refine ⟨true, rfl, ⟨fun _ => ⟨n, by have := hz.out; omega, hn4, .inr (by rw [hpv.out]; exact hvp)⟩, fun _ => rfl⟩, hb⟩
              · have t4 : decide (0 ≤ v) = false := decide_eq_false hvp
                go_wp2_with fail
                go_roundg 0
                case measure => omega
                case rel => exact ⟨2, by omega, by omega, rfl, hbn, fun _ => hv1.out (by omega), fun _ => by rw [hpv.out]; exact hvp, hb⟩
        · have t2 : decide (((2 : Nat) : Int) < 2) = false := by decide
          rw [show ((2 : Nat) : Int) = 2 from rfl]
          go_wp2_with fail
          go_roundg (5 - n)
          case measure => omega
          case rel =>
            refine ⟨n + 1, by omega, by omega, by omega, by go_num, fun m a b => ?_, hb⟩
            by_cases e : m = n
            · rw [e]; exact ⟨by have := hv1.out (by omega); omega, by have := hv2.out (by omega); omega⟩
            · exact hbn.out m a (by omega)
    · have t1 : decide ((n : Int) ≤ 4) = false := decide_eq_false (by omega)
      go_wp2_with fail
      go_ret
      refine ⟨false, rfl, ⟨(fun h => by cases h), fun ⟨m, a, b, c⟩ => ?_⟩, hb⟩
      have := hbn.out m a (by omega)
      rcases c with c | c
      · exact absurd c this.1
      · exact absurd c this.2
theorem extract_list (s : ByteArray) (a b : Nat) : (s.extract a b).data.toList = (s.data.toList.drop a).take (b - a) := by
  simp [ByteArray.data_extract, Array.toList_extract, List.extract]
theorem extract_len (s : ByteArray) (a b : Nat) (h : b ≤ s.size) : (s.extract a b).size = b - a := by
  rw [ByteArray.size_extract]; omega
def Ret3 (r : Int × Int × Int) (w : World) (e : Ending) (w' : World) : Prop := e = .returned (.tuple #[.int .i64 r.1, .int .i64 r.2.1, .int .i64 r.2.2]) ∧ Below w.heap.size w w'
theorem ret3_of {r : Int × Int × Int} {w w' : World} {e : Ending} {a b c : Int} (h : r = (a, b, c)) (he : e = .returned (.tuple #[.int .i64 a, .int .i64 b, .int .i64 c])) (hb : Below w.heap.size w w') : Ret3 r w e w' := by
  unfold Ret3; rw [h]; exact ⟨he, hb⟩
theorem begins_to (s : ByteArray) (h1 : 1 ≤ s.size) (h3 : s.size ≤ 3) (l : List UInt8) (hl : s.data.toList = l) (w : World) :
    Calls Tryz.prog 97 #[.string s] w (RetB (BegP l) w) := by rw [← hl]; exact begins_any s h1 h3 w

set_option maxRecDepth 100000 in
set_option maxHeartbeats 2000000 in
theorem rread_any (s : ByteArray) (hs : s.size ≤ 4611686018427387904) (at' : Int) (w : World) :
    Calls Tryz.prog 81 #[.string s, .int .i64 at'] w (Ret3 (rd s at') w) := by
  by_cases c1 : at' < 0 ∨ (s.size : Int) < at'
  · have hr : Hid (rd s at' = (0, 0, 2)) := by show _ = _; unfold rd; rw [if_pos c1]
    by_cases c2 : at' < 0
    · have t1 : decide (at' < 0) = true := decide_eq_true c2
      go_enter Tryz.func81, Tryz.ntmps81
      go_wp2_with fail
      go_ret3
      exact ret3_of hr.out rfl (Below.refl _ _)
    · have t1 : decide (at' < 0) = false := decide_eq_false c2
      have t2 : decide ((s.size : Int) < at') = true := decide_eq_true (by omega)
      go_enter Tryz.func81, Tryz.ntmps81
      go_wp2_with fail
      go_ret3
      exact ret3_of hr.out rfl (Below.refl _ _)
  · obtain ⟨k, rfl⟩ := Int.eq_ofNat_of_zero_le (show 0 ≤ at' by omega)
    have t1 : decide ((k : Int) < 0) = false := decide_eq_false (by omega)
    have t2 : decide (s.size < k) = false := decide_eq_false (by omega)
    by_cases c2 : k = s.size
    · subst c2
      have hr : Hid (rd s s.size = (0, 0, 6)) := by show _ = _; unfold rd; rw [if_neg c1, if_pos rfl]
      go_enter Tryz.func81, Tryz.ntmps81
      go_wp2_with fail
      go_ret3
      exact ret3_of hr.out rfl (Below.refl _ _)
    · have hlt : k < s.size := by omega
      have t3 : ((k : Int) == (s.size : Int)) = false := by simp; omega
      obtain ⟨l, hl⟩ : ∃ l, Hid (s.data.toList.drop k = l) := ⟨s.data.toList.drop k, rfl⟩
      obtain ⟨R, hR⟩ : ∃ R, Hid (R = rd s k) := ⟨rd s k, rfl⟩
      have hd : Hid (R = dec l) := by show _ = _; rw [hR.out, rd_dec s k (by omega), hl.out]
      have hll : l.length = s.size - k := by rw [← hl.out, List.length_drop, size_list]
      have hne : Hid (l ≠ []) := fun e => by rw [e] at hll; simp at hll; omega
      rw [← hR.out]
      clear c1 hR
      go_enter Tryz.func81, Tryz.ntmps81
      go_wp2_with fail
      go_loopg [7] 4 (fun g s7 wr => ∃ n : Nat, 1 ≤ n ∧ n ≤ 5 ∧ n + g = 5 ∧ s7 = .int .i64 n ∧ Hid (∀ m, 1 ≤ m → m < n → m ≤ l.length → ¬ 0 ≤ valR (l.take m)) ∧ Below w.heap.size w wr)
      case atStart => exact ⟨1, by omega, by omega, by omega, rfl, (fun m a b => by omega), Below.refl _ _⟩
      case round =>
        obtain ⟨n, hn1, hn5, hg, rfl, hno, hb⟩ := hrel
        by_cases hn : n ≤ 4 ∧ k + n ≤ s.size
        · obtain ⟨hn4, hkn⟩ := hn
          have t4 : decide ((n : Int) ≤ 4) = true := decide_eq_true (by omega)
          have t5 : decide ((k : Int) + (n : Int) ≤ (s.size : Int)) = true := decide_eq_true (by omega)
          have hx : (s.extract k (k + n)).data.toList = l.take n := by rw [extract_list, hl.out, Nat.add_sub_cancel_left]
          have hxs : (s.extract k (k + n)).size = n := by rw [extract_len _ _ _ hkn]; omega
          obtain ⟨v, hv⟩ : ∃ v, Hid (valR (l.take n) = v) := ⟨valR (l.take n), rfl⟩
          have hcall := Lib.hid (fun W => value_to (s.extract k (k + n)) (by omega) (by omega) v (by rw [hx]; exact hv.out) W)
          clear hx hxs
          go_wp2_with fail
          refine (hcall.out _).mono ?_; rintro e w3 ⟨rfl, hb3⟩
          replace hb := on_trans hb hb3
          by_cases hvp : 0 ≤ v
          · have t6 : decide (0 ≤ v) = true := decide_eq_true hvp
            have hfin : Hid (R = (v, (n : Int), 0)) := by
              show _ = _
              rw [hd.out, ref_yes l n (by omega) (by rw [hv.out]; exact hvp), hv.out]
            go_wp2_with fail
            go_ret3
            exact ret3_of hfin.out rfl hb
          · have t6 : decide (0 ≤ v) = false := decide_eq_false hvp
            go_wp2_with fail
            go_roundg (gk - 1)
            case measure => omega
            case rel =>
              refine ⟨n + 1, by omega, by omega, by omega, by go_num, fun m a b c => ?_, hb⟩
              by_cases e : m = n
              · rw [e, hv.out]; exact hvp
              · exact hno.out m a (by omega) c
        · have hno2 : Hid (∀ m, 1 ≤ m → m ≤ 4 → m ≤ l.length → ¬ 0 ≤ valR (l.take m)) := fun m a b c => hno.out m a (by omega) c
          have t5 : decide ((n : Int) ≤ 4) = false ∨ decide ((n : Int) ≤ 4) = true ∧ decide ((k : Int) + (n : Int) ≤ (s.size : Int)) = false := by
            by_cases h4 : n ≤ 4
            · exact .inr ⟨decide_eq_true (by omega), decide_eq_false (by omega)⟩
            · exact .inl (decide_eq_false (by omega))
          have t7 : IntKind.i64.wrap ((s.size : Int) - k) = (s.size : Int) - k := by rw [IntKind.wrap_i64]; omega
          obtain ⟨r1, r2⟩ := ref_no l hne.out hno2.out
          by_cases h4 : l.length < 4
          · have t6 : decide ((s.size : Int) - k < 4) = true := decide_eq_true (by omega)
            have hx : (s.extract k s.size).data.toList = l := by rw [extract_list, hl.out, List.take_of_length_le (by omega)]
            have hxs : (s.extract k s.size).size = l.length := by rw [extract_len _ _ _ (Nat.le_refl _)]; omega
            have hpos : 1 ≤ l.length := by omega
            have hcall := Lib.hid (fun W => begins_to (s.extract k s.size) (by omega) (by omega) l hx W)
            have r1' : Hid (BegP l → R = (0, 0, 10)) := fun h => by rw [hd.out]; exact r1 ⟨h4, h⟩
            have r2' : Hid (¬ BegP l → R = (0, 0, 11)) := fun h => by rw [hd.out]; exact r2 (fun c => h c.2)
            clear r1 r2 hx hxs
            rcases t5 with t5 | ⟨t5, t5'⟩
            all_goals
              go_wp2_with fail
              refine (hcall.out _).mono ?_; rintro e w3 ⟨b, rfl, hbb, hb3⟩
              replace hb := on_trans hb hb3
              replace hbb := Lib.hid hbb
              cases b with
              | true =>
                have hfin := Lib.hid (r1'.out (hbb.out.1 rfl))
                go_wp2_with fail
                go_ret3
                exact ret3_of hfin.out rfl hb
              | false =>
                have hfin := Lib.hid (r2'.out (fun c => by have := hbb.out.2 c; cases this))
                go_wp2_with fail
                go_ret3
                exact ret3_of hfin.out rfl hb
          · have t6 : decide ((s.size : Int) - k < 4) = false := decide_eq_false (by omega)
            have hfin : Hid (R = (0, 0, 11)) := by
              show _ = _
              rw [hd.out]; exact r2 (fun c => h4 c.1)
            clear r1 r2
            rcases t5 with t5 | ⟨t5, t5'⟩
            all_goals
              go_wp2_with fail
              go_ret3
              exact ret3_of hfin.out rfl hb
theorem rread_to (s : ByteArray) (hs : s.size ≤ 4611686018427387904) (k x n e : Int) (h : rd s k = (x, n, e)) (w : World) :
    Calls Tryz.prog 81 #[.string s, .int .i64 k] w fun e' w' => e' = .returned (.tuple #[.int .i64 x, .int .i64 n, .int .i64 e]) ∧ Below w.heap.size w w' := by
  have := rread_any s hs k w
  unfold Ret3 at this
  rw [h] at this
  exact this
def Ret2 (r : Int × Int) (w : World) (e : Ending) (w' : World) : Prop := e = .returned (.tuple #[.int .i64 r.1, .int .i64 r.2]) ∧ Below w.heap.size w w'
theorem ret2_of {r : Int × Int} {w w' : World} {e : Ending} {a b : Int} (h : (a, b) = r) (he : e = .returned (.tuple #[.int .i64 a, .int .i64 b])) (hb : Below w.heap.size w w') : Ret2 r w e w' := by
  unfold Ret2; rw [← h]; exact ⟨he, hb⟩

set_option maxRecDepth 100000 in
set_option maxHeartbeats 400000 in
theorem rcheck_any (s : ByteArray) (hs : s.size ≤ 4611686018427387904) (w : World) :
    Calls Tryz.prog 66 #[.string s] w (Ret2 (ck s) w) := by
  obtain ⟨R, hR⟩ : ∃ R, Hid (R = ck s) := ⟨ck s, rfl⟩
  rw [← hR.out]
  go_enter Tryz.func66, Tryz.ntmps66
  go_wp2_with fail
  go_loopg [4] (s.size) (fun g sk wr => ∃ k f : Nat, k ≤ s.size ∧ s.size - k < f ∧ k + g = s.size ∧ sk = .int .i64 k ∧ Hid (ckf s f k = R) ∧ Below w.heap.size w wr)
  case atStart => exact ⟨0, s.size + 1, by omega, by omega, by omega, rfl, hR.out.symm, Below.refl _ _⟩
  case round =>
    obtain ⟨k, f, hk, hf, hg, rfl, hc, hb⟩ := hrel
    obtain ⟨f, rfl⟩ : ∃ g, f = g + 1 := ⟨f - 1, by omega⟩
    by_cases hlt : k < s.size
    · obtain ⟨x, n, e, hr⟩ := ex3 (rd s k)
      have t1 : decide (k < s.size) = true := decide_eq_true (by omega)
      have hc' := hc.out
      rw [ckf, if_pos hlt, hr.out] at hc'
      by_cases he : e = 0
      · have hn := rd_ok s k x n e hr.out he
        subst he
        rw [if_pos rfl] at hc'
        replace hc' := Lib.hid hc'
        go_wp2_with fail
        refine (rread_to s hs k x n 0 hr.out _).mono ?_; rintro e w1 ⟨rfl, hb1⟩
        replace hb := on_trans hb hb1
        go_wp2_with fail
        go_roundg (gk - n.toNat)
        case measure => omega
        case rel => exact ⟨k + n.toNat, f, by omega, by omega, by omega, by go_num, hc'.out, hb⟩
      · rw [if_neg he] at hc'
        replace hc' := Lib.hid hc'
        have t2 : (e != 0) = true := by simpa using he
        go_wp2_with fail
        refine (rread_to s hs k x n e hr.out _).mono ?_; rintro e w1 ⟨rfl, hb1⟩
        replace hb := on_trans hb hb1
        go_wp2_with fail
        go_ret2
        exact ret2_of hc'.out rfl hb
    · obtain rfl : k = s.size := by omega
      have hc' := hc.out
      rw [ckf, if_neg hlt] at hc'
      replace hc' := Lib.hid hc'
      go_wp2_with fail
      go_ret2
      exact ret2_of hc'.out rfl hb
end Go.Proofs.YtiapkindbbbdpaaGreatDoor
