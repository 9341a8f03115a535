/- Texts are read back; regions of Md5Parts. -/
import Derived.Test.YtimiejahkcjcdaaDoorM32
import Derived.Test.YtimiejahkcjcdaaDoorM30
namespace Go.Proofs.YtimiejahkcjcdaaDoor
open Go.RowKit

def txB (d : Nat → UInt8) : ByteArray := ⟨(txt d 16).toArray⟩
theorem txB_size (d : Nat → UInt8) : (txB d).size = 32 := by show (txt d 16).toArray.size = 32; rw [List.size_toArray, txt_len]
theorem agg_congr (d c : Nat → UInt8) (h : ∀ j, j < 16 → d j = c j) : (Value.agg #[e8 d 0, e8 d 1, e8 d 2, e8 d 3, e8 d 4, e8 d 5, e8 d 6, e8 d 7, e8 d 8, e8 d 9, e8 d 10, e8 d 11, e8 d 12, e8 d 13, e8 d 14, e8 d 15]) = .agg #[e8 c 0, e8 c 1, e8 c 2, e8 c 3, e8 c 4, e8 c 5, e8 c 6, e8 c 7, e8 c 8, e8 c 9, e8 c 10, e8 c 11, e8 c 12, e8 c 13, e8 c 14, e8 c 15] := by
  simp only [e8, h 0 (by omega), h 1 (by omega), h 2 (by omega), h 3 (by omega), h 4 (by omega), h 5 (by omega), h 6 (by omega), h 7 (by omega), h 8 (by omega), h 9 (by omega), h 10 (by omega), h 11 (by omega), h 12 (by omega), h 13 (by omega), h 14 (by omega), h 15 (by omega)]
theorem read_txt (d : Nat → UInt8) (T : ByteArray) (hT : T = txB d) (w : World) :
    Calls Tryd.prog 23 #[.string T] w fun e w' => e = .returned (.tuple #[.agg #[e8 d 0, e8 d 1, e8 d 2, e8 d 3, e8 d 4, e8 d 5, e8 d 6, e8 d 7, e8 d 8, e8 d 9, e8 d 10, e8 d 11, e8 d 12, e8 d 13, e8 d 14, e8 d 15], .int .i64 0]) ∧ Below w.heap.size w w' := by
  obtain ⟨h1, h2, h3⟩ := read_of_txt T d (by rw [hT]; rfl)
  have h := read_to T (by omega) (rdk T 32) 0 (by rw [rdE, if_pos ⟨h1, h2⟩]) (by rw [rdN, if_pos ⟨h1, h2⟩]) w
  rw [agg_congr _ d h3] at h
  exact h
theorem txt_congr (d c : Nat → UInt8) : ∀ k, (∀ j, j < k → d j = c j) → txt d k = txt c k
  | 0, _ => rfl
  | k + 1, h => by rw [txt, txt, txt_congr d c k (fun j hj => h j (by omega)), h k (by omega)]
theorem toList_beq (a b : ByteArray) : (a.toList == b.toList) = decide (a.data.toList = b.data.toList) := by
  rw [Bool.eq_iff_iff, beq_iff_eq, decide_eq_true_eq]
  have h : ∀ x : ByteArray, x.toList = x.data.toList := fun x => ByteArray.toList_eq x
  rw [h, h]
theorem txB_eq (c d : Nat → UInt8) : ((txB c).toList == (txB d).toList) = eqD c d := by
  rw [toList_beq, Bool.eq_iff_iff, decide_eq_true_eq, eqD_iff]
  constructor
  · intro h i hi
    obtain ⟨_, _, h3⟩ := read_of_txt (txB c) c rfl
    obtain ⟨_, _, h4⟩ := read_of_txt (txB c) d h
    rw [← h3 i hi, h4 i hi]
  · intro h
    exact txt_congr c d 16 h
theorem cut_size (s : ByteArray) : (s.extract 0 (min (s.size : Int) 200).toNat).size ≤ 200 := by
  rw [ByteArray.size_extract]
  omega
theorem cut_self (s : ByteArray) (h : (s.extract 0 (min (s.size : Int) 200).toNat).size = 32) : s.extract 0 (min (s.size : Int) 200).toNat = s := by
  rw [ByteArray.size_extract] at h
  have hs : (min (s.size : Int) 200).toNat = s.size := by omega
  rw [hs]
  exact ByteArray.extract_zero_size
theorem cut_read (s p : ByteArray) (hp : p = s.extract 0 (min (s.size : Int) 200).toNat) : (rdN p = 0 ∧ ((txB (rdE p)).toList != s.toList) = false) ∨ (rdN p = 30 ∧ eqD (rdE p) (fun _ => 0) = true) := by
  by_cases h : p.size = 32 ∧ okk p 32 = true
  · have hps : p = s := by rw [hp]; exact cut_self s (by rw [← hp]; exact h.1)
    refine .inl ⟨by rw [rdN, if_pos h], ?_⟩
    rw [rdE, if_pos h]
    have h2 : ((txB (rdk p 32)).toList == s.toList) = true := by
      rw [toList_beq, decide_eq_true_eq, ← hps, ← txt_of_read p h.1 h.2]
      rfl
    simp [bne, h2]
  · exact .inr ⟨by rw [rdN, if_neg h], by rw [rdE, if_neg h]; exact eqD_same _⟩
theorem eq34z (d : Nat → UInt8) (w : World) : (Op.equalIn 10000 34 (.agg #[e8 d 0, e8 d 1, e8 d 2, e8 d 3, e8 d 4, e8 d 5, e8 d 6, e8 d 7, e8 d 8, e8 d 9, e8 d 10, e8 d 11, e8 d 12, e8 d 13, e8 d 14, e8 d 15]) (.agg #[.int .u8 0, .int .u8 0, .int .u8 0, .int .u8 0, .int .u8 0, .int .u8 0, .int .u8 0, .int .u8 0, .int .u8 0, .int .u8 0, .int .u8 0, .int .u8 0, .int .u8 0, .int .u8 0, .int .u8 0, .int .u8 0])).run Tryd.prog w = .ok (eqD d (fun _ => 0)) w := eq34 d (fun _ => 0) w
end Go.Proofs.YtimiejahkcjcdaaDoor
