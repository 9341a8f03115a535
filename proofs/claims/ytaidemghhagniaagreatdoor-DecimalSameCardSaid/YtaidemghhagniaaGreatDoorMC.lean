/- DecimalSame: the texts. -/
import Derived.Test.YtaidemghhagniaaGreatDoorHP
namespace Go.Proofs.YtaidemghhagniaaGreatDoor
open Go Go.RowKit
set_option linter.unusedVariables false
theorem dval_zz (Z : List UInt8) (h : ∀ c ∈ Z, c = 48) : dval Z = 0 := dval_zeros Z h
theorem digL_z (Z : List UInt8) (h : ∀ c ∈ Z, c = 48) : DigL Z := fun c hc => by rw [h c hc]; decide
theorem same_facts (d Z : List UInt8) (hd : DigL d) (h1 : 1 ≤ d.length) (h2 : d.length ≤ 70) (hZ : ∀ c ∈ Z, c = 48) (hZl : Z.length ≤ 30) (k m j : Nat) (hk : k ≤ d.length) (hm : m ≤ d.length) (hj : j ≤ 2) (ex : Int) (hex : ex.natAbs ≤ 400) :
    ∃ r : Nat, r ≤ INF ∧ ∀ W, PGlb W →
      Calls Tryz.prog 16 #[.string (BS ((((d.take k ++ [46]) ++ d.drop k) ++ [101]) ++ Lib.itoa ex))] W (PsRet (r : Int) 0 W) ∧
      Calls Tryz.prog 16 #[.string (BS ((((((Z ++ d.take k) ++ [46]) ++ d.drop k) ++ Z) ++ [69]) ++ Lib.itoa ex))] W (PsRet (r : Int) 0 W) ∧
      Calls Tryz.prog 16 #[.string (BS ((((d.take m ++ [46]) ++ d.drop m) ++ [101]) ++ Lib.itoa (ex + k - m)))] W (PsRet (r : Int) 0 W) ∧
      Calls Tryz.prog 16 #[.string (BS (((((([43] ++ d.take m) ++ [46]) ++ d.drop m) ++ Z) ++ [101]) ++ Lib.itoa (ex + k - m)))] W (PsRet (r : Int) 0 W) ∧
      (0 ≤ ex → Calls Tryz.prog 16 #[.string (BS ((((d.take k ++ [46]) ++ d.drop k) ++ [101, 43, 48, 48].take (2 + j)) ++ Lib.itoa ex))] W (PsRet (r : Int) 0 W)) := by
  have tk : ∀ q : Nat, DigL (d.take q) := fun q x hx => hd x (List.mem_of_mem_take hx)
  have dk : ∀ q : Nat, DigL (d.drop q) := fun q x hx => hd x (List.mem_of_mem_drop hx)
  have app : ∀ A B : List UInt8, DigL A → DigL B → DigL (A ++ B) := fun A B hA hB x hx => by
    rcases List.mem_append.1 hx with h | h
    · exact hA x h
    · exact hB x h
  have hz := digL_z Z hZ
  have lk : ∀ q : Nat, q ≤ d.length → (d.drop q).length + q = d.length := fun q hq => by rw [List.length_drop]; omega
  have vk : ∀ q : Nat, dval (d.take q ++ d.drop q) = dval d := fun q => by rw [List.take_append_drop]
  have ne : ∀ q : Nat, d.take q ++ d.drop q ≠ [] := fun q e => by rw [List.take_append_drop] at e; rw [e] at h1; exact absurd h1 (by decide)
  obtain ⟨t1, t2, t3⟩ := itoa_tail 101 (.inl rfl) ex (by omega)
  obtain ⟨s1, s2, s3⟩ := itoa_tail 69 (.inr rfl) ex (by omega)
  obtain ⟨u1, u2, u3⟩ := itoa_tail 101 (.inl rfl) (ex + k - m) (by omega)
  obtain ⟨r, n0⟩ := nx_ex (dval d) (ex - (d.drop k).length)
  have hlk := lk k hk
  have hlm := lk m hm
  have htk : (d.take k).length = k := List.length_take_of_le hk
  have htm : (d.take m).length = m := List.length_take_of_le hm
  refine ⟨r, nx_le_inf n0, fun W hW => ⟨?_, ?_, ?_, ?_, fun h0 => ?_⟩⟩
  · have e : ((((d.take k ++ [46]) ++ d.drop k) ++ [101]) ++ Lib.itoa ex) = [] ++ (d.take k ++ 46 :: (d.drop k ++ (101 :: Lib.itoa ex))) := by simp
    rw [e]
    have h := parse_text [] _ _ _ (tk k) (dk k) (ne k) (.inl rfl) t1 (by simp only [List.length_append, List.length_cons, List.length_nil]; omega) r (by rw [vk, t2]; exact n0) W hW
    rw [if_neg (by decide), Nat.zero_add] at h
    exact h
  · have e : ((((((Z ++ d.take k) ++ [46]) ++ d.drop k) ++ Z) ++ [69]) ++ Lib.itoa ex) = [] ++ ((Z ++ d.take k) ++ 46 :: ((d.drop k ++ Z) ++ (69 :: Lib.itoa ex))) := by simp
    rw [e]
    have hv : dval ((Z ++ d.take k) ++ (d.drop k ++ Z)) = dval d * 10 ^ Z.length := by
      rw [show (Z ++ d.take k) ++ (d.drop k ++ Z) = (Z ++ d) ++ Z by rw [List.append_assoc, ← List.append_assoc (d.take k), List.take_append_drop, List.append_assoc], dval_app, dval_app, dval_zz Z hZ, Nat.zero_mul, Nat.zero_add, Nat.add_zero]
    have hn : NearX (dval ((Z ++ d.take k) ++ (d.drop k ++ Z))) (expL (69 :: Lib.itoa ex) - (d.drop k ++ Z).length) r := by
      rw [hv, s2, List.length_append]
      refine nx_same (y := ex - (((d.drop k).length + Z.length : Nat) : Int)) (by omega) (Int.le_refl _) ?_ n0
      rw [Int.sub_self, show (ex - ((d.drop k).length : Int) - (ex - (((d.drop k).length + Z.length : Nat) : Int))).toNat = Z.length by omega]
      show _ = _ * 1
      omega
    have h := parse_text [] _ _ _ (app _ _ hz (tk k)) (app _ _ (dk k) hz) (fun e => ne k (by
      have h3 := List.append_eq_nil_iff.1 e
      rw [(List.append_eq_nil_iff.1 h3.1).2, (List.append_eq_nil_iff.1 h3.2).1]; rfl)) (.inl rfl) s1 (by simp only [List.length_append, List.length_cons, List.length_nil]; omega) r hn W hW
    rw [if_neg (by decide), Nat.zero_add] at h
    exact h
  · have e : ((((d.take m ++ [46]) ++ d.drop m) ++ [101]) ++ Lib.itoa (ex + k - m)) = [] ++ (d.take m ++ 46 :: (d.drop m ++ (101 :: Lib.itoa (ex + k - m)))) := by simp
    rw [e]
    have hn : NearX (dval (d.take m ++ d.drop m)) (expL (101 :: Lib.itoa (ex + k - m)) - (d.drop m).length) r := by
      rw [vk, u2, show ex + k - m - ((d.drop m).length : Int) = ex - ((d.drop k).length : Int) by omega]; exact n0
    have h := parse_text [] _ _ _ (tk m) (dk m) (ne m) (.inl rfl) u1 (by simp only [List.length_append, List.length_cons, List.length_nil]; omega) r hn W hW
    rw [if_neg (by decide), Nat.zero_add] at h
    exact h
  · have e : ((((((([43] : List UInt8) ++ d.take m) ++ [46]) ++ d.drop m) ++ Z) ++ [101]) ++ Lib.itoa (ex + k - m)) = [43] ++ (d.take m ++ 46 :: ((d.drop m ++ Z) ++ (101 :: Lib.itoa (ex + k - m)))) := by simp
    rw [e]
    have hv : dval (d.take m ++ (d.drop m ++ Z)) = dval d * 10 ^ Z.length := by
      rw [← List.append_assoc, List.take_append_drop, dval_app, dval_zz Z hZ, Nat.add_zero]
    have hn : NearX (dval (d.take m ++ (d.drop m ++ Z))) (expL (101 :: Lib.itoa (ex + k - m)) - (d.drop m ++ Z).length) r := by
      rw [hv, u2, List.length_append]
      refine nx_same (y := ex + k - m - (((d.drop m).length + Z.length : Nat) : Int)) (by omega) (Int.le_refl _) ?_ n0
      rw [Int.sub_self, show (ex - ((d.drop k).length : Int) - (ex + k - m - (((d.drop m).length + Z.length : Nat) : Int))).toNat = Z.length by omega]
      show _ = _ * 1
      omega
    have h := parse_text [43] _ _ _ (tk m) (app _ _ (dk m) hz) (fun e => ne m (by
      have h3 := List.append_eq_nil_iff.1 e
      rw [h3.1, (List.append_eq_nil_iff.1 h3.2).1]; rfl)) (.inr (.inl rfl)) u1 (by simp only [List.length_append, List.length_cons, List.length_nil]; omega) r hn W hW
    rw [if_neg (by decide), Nat.zero_add] at h
    exact h
  · have hi : Lib.itoa ex = Lib.decDigits ex.natAbs := by
      rw [itoa_sg]; unfold sg; rw [if_neg (by omega)]; rfl
    have e4 : ([101, 43, 48, 48] : List UInt8).take (2 + j) = 101 :: 43 :: List.replicate j 48 := by
      have : j = 0 ∨ j = 1 ∨ j = 2 := by omega
      rcases this with rfl | rfl | rfl <;> rfl
    have e : ((((d.take k ++ [46]) ++ d.drop k) ++ ([101, 43, 48, 48] : List UInt8).take (2 + j)) ++ Lib.itoa ex) = [] ++ (d.take k ++ 46 :: (d.drop k ++ (101 :: ([43] ++ (List.replicate j 48 ++ Lib.decDigits ex.natAbs))))) := by rw [e4, hi]; simp
    rw [e]
    have hjz : ∀ c ∈ List.replicate j (48 : UInt8), c = 48 := fun c hc => List.eq_of_mem_replicate hc
    have hdd := app _ _ (digL_z _ hjz) (digs_dig ex.natAbs)
    have l1 : 1 ≤ (Lib.decDigits ex.natAbs).length := List.length_pos_iff.2 (decDigits_ne _)
    have l3 : (Lib.decDigits ex.natAbs).length ≤ 3 := dig_len 3 _ (by decide) (by omega)
    obtain ⟨x1, x2⟩ := exp_read 101 [43] (List.replicate j 48 ++ Lib.decDigits ex.natAbs) (.inl rfl) (.inr (.inl rfl)) hdd (by rw [List.length_append]; omega) (by rw [List.length_append, List.length_replicate]; omega)
    rw [if_neg (by decide), dval_app, dval_zz _ hjz, Nat.zero_mul, Nat.zero_add, dval_digits] at x2
    have hn : NearX (dval (d.take k ++ d.drop k)) (expL (101 :: ([43] ++ (List.replicate j 48 ++ Lib.decDigits ex.natAbs))) - (d.drop k).length) r := by
      rw [vk, x2, show ((ex.natAbs : Nat) : Int) = ex by omega]; exact n0
    have h := parse_text [] _ _ _ (tk k) (dk k) (ne k) (.inl rfl) x1 (by simp only [List.length_append, List.length_cons, List.length_nil, List.length_replicate]; omega) r hn W hW
    rw [if_neg (by decide), Nat.zero_add] at h
    exact h
end Go.Proofs.YtaidemghhagniaaGreatDoor
