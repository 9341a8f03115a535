/- Plain laws of the hash: steps, steps back, powers; no program. -/
import Derived.Test.YtennohgmenjaaaaU
namespace Go.Proofs.Ytennohgmenjaaaa

def prime : BitVec 64 := 1099511628211#64
def offset : BitVec 64 := 14695981039346656037#64
def inv : BitVec 64 := 14886173955864302971#64
theorem inv_prime : inv * prime = 1#64 := by decide
theorem prime_inv : prime * inv = 1#64 := by decide

/-- A step with a byte. -/
def hstep (h : BitVec 64) (c : UInt8) : BitVec 64 := (h ^^^ zx c) * prime
def hadd (h : BitVec 64) (l : List UInt8) : BitVec 64 := l.foldl hstep h
/-- A step back. -/
def bstep (h : BitVec 64) (c : UInt8) : BitVec 64 := h * inv ^^^ zx c
def hback (h : BitVec 64) (l : List UInt8) : BitVec 64 := l.foldl bstep h

theorem hadd_snoc (h : BitVec 64) (l : List UInt8) (c : UInt8) : hadd h (l ++ [c]) = hstep (hadd h l) c := by simp [hadd]
theorem hback_snoc (h : BitVec 64) (l : List UInt8) (c : UInt8) : hback h (l ++ [c]) = bstep (hback h l) c := by simp [hback]
theorem hadd_append (h : BitVec 64) (l k : List UInt8) : hadd h (l ++ k) = hadd (hadd h l) k := by simp [hadd]
theorem hadd_nil (h : BitVec 64) : hadd h [] = h := rfl

theorem bstep_hstep (h : BitVec 64) (c : UInt8) : bstep (hstep h c) c = h := by
  unfold bstep hstep
  rw [BitVec.mul_assoc, prime_inv, BitVec.mul_one, BitVec.xor_assoc, BitVec.xor_self, BitVec.xor_zero]
theorem hstep_bstep (h : BitVec 64) (c : UInt8) : hstep (bstep h c) c = h := by
  unfold bstep hstep
  rw [BitVec.xor_assoc, BitVec.xor_self, BitVec.xor_zero, BitVec.mul_assoc, inv_prime, BitVec.mul_one]
theorem hback_hadd (l : List UInt8) : ∀ h, hback (hadd h l) l.reverse = h := by
  induction l with
  | nil => intro h; rfl
  | cons c l ih =>
    intro h
    rw [List.reverse_cons, hback_snoc]
    show bstep (hback (hadd (hstep h c) l) l.reverse) c = h
    rw [ih, bstep_hstep]
theorem hadd_hback (l : List UInt8) : ∀ h, hadd (hback h l.reverse) l = h := by
  induction l with
  | nil => intro h; rfl
  | cons c l ih =>
    intro h
    rw [List.reverse_cons, hback_snoc]
    show hadd (hstep (bstep (hback h l.reverse) c) c) l = h
    rw [hstep_bstep, ih]
theorem hadd_inj (l : List UInt8) {g h : BitVec 64} : hadd g l = hadd h l ↔ g = h := by
  constructor
  · intro e
    have := congrArg (fun x => hback x l.reverse) e
    simpa only [hback_hadd] using this
  · rintro rfl; rfl
theorem hstep_inj {g h : BitVec 64} (c : UInt8) : hstep g c = hstep h c ↔ g = h := hadd_inj [c]
theorem zx_inj {c d : UInt8} (h : zx c = zx d) : c = d := by
  have h' := congrArg BitVec.toNat h
  simp only [zx, BitVec.toNat_setWidth, UInt8.toNat_toBitVec] at h'
  have := c.toNat_lt; have := d.toNat_lt
  exact UInt8.toNat_inj.1 (by omega)
theorem zx_toNat (c : UInt8) : (zx c).toNat = c.toNat := by
  have := c.toNat_lt
  simp only [zx, BitVec.toNat_setWidth, UInt8.toNat_toBitVec]; omega
theorem hstep_byte {h : BitVec 64} {c d : UInt8} (e : hstep h c = hstep h d) : c = d := by
  have := congrArg (· * inv) e
  unfold hstep at this
  simp only [BitVec.mul_assoc, prime_inv, BitVec.mul_one] at this
  refine zx_inj ?_
  have h2 := congrArg (h ^^^ ·) this
  simpa only [← BitVec.xor_assoc, BitVec.xor_self, BitVec.zero_xor] using h2
/-- Which byte leads from one hash to another. -/
theorem hstep_to (h to : BitVec 64) (c : UInt8) : hstep h c = to ↔ zx c = to * inv ^^^ h := by
  constructor
  · rintro rfl
    unfold hstep
    rw [BitVec.mul_assoc, prime_inv, BitVec.mul_one, BitVec.xor_comm h, BitVec.xor_assoc, BitVec.xor_self, BitVec.xor_zero]
  · intro e
    unfold hstep
    rw [e, BitVec.xor_comm h, BitVec.xor_assoc, BitVec.xor_self, BitVec.xor_zero, BitVec.mul_assoc, inv_prime, BitVec.mul_one]

/-- After n steps with the byte 0. -/
def pw (n : Nat) : BitVec 64 := prime ^ n
theorem pw_zero : pw 0 = 1#64 := by unfold pw; rfl
theorem pw_add (m n : Nat) : pw (m + n) = pw m * pw n := by unfold pw; exact BitVec.pow_add
theorem pw_one : pw 1 = prime := by decide
theorem pw_even (n : Nat) (h : n % 2 = 0) : pw (n / 2) * pw (n / 2) = pw n := by rw [← pw_add]; congr 1; omega
theorem pw_odd (n : Nat) (h : n % 2 = 1) : pw (n / 2) * pw (n / 2) * prime = pw n := by rw [← pw_add, ← pw_one, ← pw_add]; congr 1; omega
theorem zx_zero : zx 0 = 0#64 := by decide
theorem hadd_zeros (n : Nat) : ∀ h, hadd h (List.replicate n 0) = h * pw n := by
  induction n with
  | zero => intro h; rw [pw_zero, BitVec.mul_one]; rfl
  | succ n ih =>
    intro h
    rw [List.replicate_succ]
    show hadd (hstep h 0) _ = _
    rw [ih, hstep, zx_zero, BitVec.xor_zero, Nat.add_comm n 1, pw_add, pw_one, BitVec.mul_assoc]

/-- The reference's step: the lowest byte by itself. -/
theorem nat_xor_low (n c : Nat) (hc : c < 256) : n ^^^ c = n - n % 256 + (n % 256 ^^^ c) := by
  have h1 : (n ^^^ c) / 256 = n / 256 := by
    have := Nat.xor_div_two_pow (a := n) (b := c) (n := 8)
    rw [show (2:Nat)^8 = 256 from rfl] at this
    rw [this, Nat.div_eq_of_lt hc, Nat.xor_zero]
  have h2 : (n ^^^ c) % 256 = n % 256 ^^^ c := by
    have := Nat.xor_mod_two_pow (a := n) (b := c) (n := 8)
    rw [show (2:Nat)^8 = 256 from rfl] at this
    rw [this, Nat.mod_eq_of_lt hc]
  have h3 := Nat.div_add_mod (n ^^^ c) 256
  have h4 := Nat.div_add_mod n 256
  omega
theorem ref_step (h : BitVec 64) (c : UInt8) : (h - h % 256#64 + BitVec.ofNat 64 (h.toNat % 256 ^^^ c.toNat)) = h ^^^ zx c := by
  apply BitVec.eq_of_toNat_eq
  have hc := c.toNat_lt
  have h1 : h.toNat % 256 ^^^ c.toNat < 256 := Nat.xor_lt_two_pow (n := 8) (by omega) (by omega)
  have h2 := nat_xor_low h.toNat c.toNat hc
  have h3 := h.isLt
  have h4 : (h ^^^ zx c).toNat = h.toNat ^^^ c.toNat := by rw [BitVec.toNat_xor, zx_toNat]
  have h5 := (h ^^^ zx c).isLt
  have h6 : (h % 256#64).toNat = h.toNat % 256 := by rw [BitVec.toNat_umod]; rfl
  rw [h4, h2] at *
  simp only [BitVec.toNat_add, BitVec.toNat_sub, h6, BitVec.toNat_ofNat]
  omega

/-- The reference's step back, bit by bit. -/
theorem half_uniq (x h : BitVec 64) (e : x * prime = h) : x = h * inv := by
  rw [← e, BitVec.mul_assoc, prime_inv, BitVec.mul_one]

end Go.Proofs.Ytennohgmenjaaaa
