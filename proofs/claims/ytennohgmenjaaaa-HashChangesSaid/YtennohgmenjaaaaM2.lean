/- Plain laws of texts of hashes: hexadecimal digits, what is written is read back. -/
import Derived.Test.YtennohgmenjaaaaW5
import Derived.Test.YtennohgmenjaaaaShelf
namespace Go.Proofs.Ytennohgmenjaaaa

/-- What a digit counts; 16 where it is none. -/
def hexv (c : UInt8) : Nat := if 48 ≤ c.toNat ∧ c.toNat ≤ 57 then c.toNat - 48 else if 97 ≤ c.toNat ∧ c.toNat ≤ 102 then c.toNat - 87 else 16
def isHex (l : List UInt8) : Prop := ∀ c ∈ l, hexv c < 16
theorem all_bytes {p : UInt8 → Prop} [DecidablePred p] (h : ∀ n : Fin 256, p (UInt8.ofNat n.val)) (c : UInt8) : p c := by
  have := h ⟨c.toNat, c.toNat_lt⟩
  rwa [UInt8.ofNat_toNat] at this
def digitsL : List UInt8 := [48, 49, 50, 51, 52, 53, 54, 55, 56, 57, 97, 98, 99, 100, 101, 102]
set_option maxRecDepth 100000 in
theorem index_yes (c : UInt8) (h : hexv c < 16) : Lib.indexByte digitsL c = (hexv c : Int) := by
  revert h
  exact all_bytes (p := fun c => hexv c < 16 → Lib.indexByte digitsL c = (hexv c : Int)) (by decide) c
set_option maxRecDepth 100000 in
theorem index_no (c : UInt8) (h : ¬ hexv c < 16) : Lib.indexByte digitsL c = -1 := by
  revert h
  exact all_bytes (p := fun c => ¬ hexv c < 16 → Lib.indexByte digitsL c = -1) (by decide) c
set_option maxRecDepth 100000 in
theorem hexd_hexv (c : UInt8) (h : hexv c < 16) : hexd (hexv c) = c := by
  revert h
  exact all_bytes (p := fun c => hexv c < 16 → hexd (hexv c) = c) (by decide) c
theorem hexv_hexd (n : Nat) (h : n < 16) : hexv (hexd n) = n := by
  have : ∀ m : Fin 16, hexv (hexd m.val) = m.val := by decide
  exact this ⟨n, h⟩
theorem hexd_inj {m n : Nat} (hm : m < 16) (hn : n < 16) (h : hexd m = hexd n) : m = n := by
  rw [← hexv_hexd m hm, ← hexv_hexd n hn, h]

/-- What digits count, the first one most. -/
def numv (l : List UInt8) : Nat := l.foldl (fun n c => n * 16 + hexv c) 0
theorem numv_snoc (l : List UInt8) (c : UInt8) : numv (l ++ [c]) = numv l * 16 + hexv c := by simp [numv]
theorem snoc_ind {α : Type} {p : List α → Prop} (h0 : p []) (h1 : ∀ l c, p l → p (l ++ [c])) (l : List α) : p l := by
  have : ∀ m : List α, p m.reverse := by
    intro m
    induction m with
    | nil => exact h0
    | cons c m ih => rw [List.reverse_cons]; exact h1 _ _ ih
  have := this l.reverse
  rwa [List.reverse_reverse] at this
theorem numv_lt (l : List UInt8) : isHex l → numv l < 16 ^ l.length := by
  refine snoc_ind (p := fun l => isHex l → numv l < 16 ^ l.length) (by simp [numv]) ?_ l
  intro l c ih h
  have h1 := ih (fun x hx => h x (by simp [hx]))
  have h2 := h c (by simp)
  rw [numv_snoc, List.length_append, List.length_singleton, Nat.pow_succ]; omega
theorem numv_digit (l : List UInt8) : isHex l → ∀ j (hj : j < l.length), numv l / 16 ^ j % 16 = hexv (l[l.length - 1 - j]'(by omega)) := by
  refine snoc_ind (p := fun l => isHex l → ∀ j (hj : j < l.length), numv l / 16 ^ j % 16 = hexv (l[l.length - 1 - j]'(by omega))) (fun _ j hj => by simp at hj) ?_ l
  intro l c ih h j hj
  have h2 := h c (by simp)
  rw [numv_snoc]
  cases j with
  | zero =>
    have e : (l ++ [c])[(l ++ [c]).length - 1 - 0]'(by omega) = c := by
      rw [List.getElem_append_right (by simp)]; simp
    rw [e, Nat.pow_zero, Nat.div_one]; omega
  | succ j =>
    have hj' : j < l.length := by simpa using hj
    have h3 := ih (fun x hx => h x (by simp [hx])) j hj'
    have e : (l ++ [c])[(l ++ [c]).length - 1 - (j + 1)]'(by omega) = l[l.length - 1 - j]'(by omega) := by
      rw [List.getElem_append_left (by simp; omega)]
      congr 1; simp; omega
    rw [e, ← h3, Nat.pow_succ, Nat.mul_comm (16 ^ j) 16, ← Nat.div_div_eq_div_mul]
    congr 2; omega

/-- The number that Read gathers. -/
def rdv (l : List UInt8) : BitVec 64 := l.foldl (fun h c => h * 16#64 ||| BitVec.ofNat 64 (hexv c)) 0#64
theorem rdv_snoc (l : List UInt8) (c : UInt8) : rdv (l ++ [c]) = rdv l * 16#64 ||| BitVec.ofNat 64 (hexv c) := by simp [rdv]
theorem rdv_numv (l : List UInt8) : isHex l → l.length ≤ 16 → (rdv l).toNat = numv l := by
  refine snoc_ind (p := fun l => isHex l → l.length ≤ 16 → (rdv l).toNat = numv l) (fun _ _ => rfl) ?_ l
  intro l c ih h hl
  have hl' : l.length ≤ 15 := by simpa using hl
  have h2 := h c (by simp)
  have h3 := ih (fun x hx => h x (by simp [hx])) (by omega)
  have h4 := numv_lt l (fun x hx => h x (by simp [hx]))
  have h5 : 16 ^ l.length ≤ 16 ^ 15 := Nat.pow_le_pow_right (by decide) hl'
  rw [rdv_snoc, numv_snoc, BitVec.toNat_or, BitVec.toNat_mul, h3, BitVec.toNat_ofNat, BitVec.toNat_ofNat]
  have e1 : numv l * (16 % 2 ^ 64) % 2 ^ 64 = numv l <<< 4 := by rw [Nat.shiftLeft_eq]; omega
  have e2 : hexv c % 2 ^ 64 = hexv c := by omega
  rw [e1, e2, ← Nat.shiftLeft_add_eq_or_of_lt (by omega), Nat.shiftLeft_eq]

theorem text_of_numv (h : BitVec 64) (l : List UInt8) (hl : l.length = 16) (hx : isHex l) (e : h.toNat = numv l) : text h = l := by
  apply List.ext_getElem (by rw [text_length, hl])
  intro i h1 h2
  have hi : i < 16 := by omega
  simp only [text, List.getElem_map, List.getElem_range, nib, e]
  have := numv_digit l hx (15 - i) (by omega)
  rw [this]
  have e2 : l[l.length - 1 - (15 - i)]'(by omega) = l[i] := by congr 1; omega
  rw [e2]
  exact hexd_hexv _ (hx _ (List.getElem_mem h2))
theorem text_rdv (l : List UInt8) (hl : l.length = 16) (hx : isHex l) : text (rdv l) = l := text_of_numv _ l hl hx (rdv_numv l hx (by omega))
theorem text_hex (h : BitVec 64) : isHex (text h) := by
  intro c hc
  simp only [text, List.mem_map] at hc
  obtain ⟨i, _, rfl⟩ := hc
  rw [hexv_hexd _ (nib_lt _ _)]; exact nib_lt _ _
/-- The last n digits of a number. -/
def tail16 (n m : Nat) : List UInt8 := (List.range n).map fun i => hexd (m / 16 ^ (n - 1 - i) % 16)
theorem tail16_succ (n m : Nat) : tail16 (n + 1) m = tail16 n (m / 16) ++ [hexd (m % 16)] := by
  unfold tail16
  rw [List.range_succ, List.map_append]
  congr 1
  · apply List.map_congr_left
    intro i hi
    have hi' : i < n := by simpa using hi
    rw [show n + 1 - 1 - i = (n - 1 - i) + 1 by omega, Nat.pow_succ, Nat.mul_comm, ← Nat.div_div_eq_div_mul]
  · simp
theorem numv_tail16 (n : Nat) : ∀ m, numv (tail16 n m) = m % 16 ^ n := by
  induction n with
  | zero => intro m; simp [tail16, numv]; omega
  | succ n ih =>
    intro m
    rw [tail16_succ, numv_snoc, ih, hexv_hexd _ (Nat.mod_lt _ (by decide)), Nat.pow_succ, Nat.mul_comm (16 ^ n) 16, Nat.mod_mul]
    omega
theorem text_tail16 (h : BitVec 64) : text h = tail16 16 h.toNat := rfl
theorem rdv_text (h : BitVec 64) : rdv (text h) = h := by
  apply BitVec.eq_of_toNat_eq
  rw [rdv_numv _ (text_hex h) (by rw [text_length]; omega), text_tail16, numv_tail16]
  exact Nat.mod_eq_of_lt h.isLt
theorem text_inj {g h : BitVec 64} : text g = text h ↔ g = h := by
  constructor
  · intro e; rw [← rdv_text g, ← rdv_text h, e]
  · rintro rfl; rfl
/-- A string is a text of a hash just if it has 16 hexadecimal digits. -/
theorem text_iff (l : List UInt8) (h : BitVec 64) : text h = l ↔ l.length = 16 ∧ isHex l ∧ h = rdv l := by
  constructor
  · rintro rfl; exact ⟨text_length h, text_hex h, (rdv_text h).symm⟩
  · rintro ⟨h1, h2, rfl⟩; exact text_rdv l h1 h2
end Go.Proofs.Ytennohgmenjaaaa
