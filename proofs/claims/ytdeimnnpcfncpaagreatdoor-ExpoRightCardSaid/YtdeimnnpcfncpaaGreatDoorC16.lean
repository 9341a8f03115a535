/- Parts of the proof: D14. -/
import Derived.Laws.Externs
import Derived.Test.YtdeimnnpcfncpaaGreatDoorC14
import Derived.Test.YtdeimnnpcfncpaaGreatDoorC15
section
namespace Go.Proofs.YtdeimnnpcfncpaaGreatDoor
open Go Go.RowKit
theorem f64b (n : Nat) (w : World) : (callFunc 131 #[.float .f64 n]).run Tryz.prog w = .ok (.value (.int .u64 (n : Int))) w := by
  rw [run_callFunc_extern (e := Extern.MathFloatBits.float64bits) Tryz.func131 (by kernel_rfl) (by kernel_rfl) (by kernel_rfl) (by kernel_rfl)]
  rfl
theorem short_low (s : ByteArray) (hs : s.size ≤ 780) (w : World) : Calls Tryz.prog 130 #[.string s] w fun e w' => e = .returned (.string s) ∧ w = w' := by
  have u1 : decide ((s.size : Int) ≤ 780) = true := decide_eq_true (by omega)
  have u1' : decide (s.size ≤ 780) = true := decide_eq_true hs
  go_enter Tryz.func130, Tryz.ntmps130
  go_wp2_with fail
  go_ret
  exact ⟨rfl, rfl⟩
def PsRet (v e : Int) (w : World) (x : Ending) (w' : World) : Prop := x = .returned (.tuple #[.int .u64 v, .int .i64 e]) ∧ Below w.heap.size w w'
def isNam (l : List UInt8) : Bool := (l == [73, 110, 102]) || (l == [43, 73, 110, 102]) || (l == [45, 73, 110, 102]) || (l == [78, 97, 78])
theorem parse_big (s : ByteArray) (hs : 1200 < s.size) (w : World) : Calls Tryz.prog 73 #[.string s] w (PsRet 0 3 w) := by
  have u1 : decide ((1200 : Int) < (s.size : Int)) = true := decide_eq_true (by omega)
  have u1' : decide (1200 < s.size) = true := decide_eq_true hs
  go_enter Tryz.func73, Tryz.ntmps73
  go_wp2_with fail
  go_ret2
  exact ⟨rfl, Below.refl _ _⟩
theorem no_nam (s : ByteArray) (h : isNam s.data.toList = false) : (s.toList == [73, 110, 102]) = false ∧ (s.toList == [43, 73, 110, 102]) = false ∧ (s.toList == [45, 73, 110, 102]) = false ∧ (s.toList == [78, 97, 78]) = false := by
  rw [ByteArray.toList_eq]
  unfold isNam at h
  simp only [Bool.or_eq_false_iff] at h
  exact ⟨h.1.1.1, h.1.1.2, h.1.2, h.2⟩
theorem parse_no (s : ByteArray) (hs : s.size ≤ 1200) (h1 : isNam s.data.toList = false) (h2 : rightL s.data.toList = false) (w : World) : Calls Tryz.prog 73 #[.string s] w (PsRet 0 210 w) := by
  have u1 : decide ((1200 : Int) < (s.size : Int)) = false := decide_eq_false (by omega)
  have u1' : decide (1200 < s.size) = false := decide_eq_false (by omega)
  obtain ⟨n1, n2, n3, n4⟩ := no_nam s h1
  have c1 := right_any s (by omega) w
  rw [h2] at c1
  replace c1 := Lib.hid c1
  clear h1 h2
  go_enter Tryz.func73, Tryz.ntmps73
  go_wp2_with fail
  refine c1.out.mono ?_; rintro x w1 ⟨rfl, rfl⟩
  go_wp2_with fail
  go_ret2
  exact ⟨rfl, Below.refl _ _⟩
theorem parse_yes (s : ByteArray) (hs : s.size ≤ 780) (h1 : isNam s.data.toList = false) (h2 : rightL s.data.toList = true) (ng : Bool) (v : Nat) (w : World) (hG : PGlb w) (h : ∀ W, FGlb W → Calls Tryz.prog 263 #[.string s] W (AtRet ng v s.size W)) :
    Calls Tryz.prog 73 #[.string s] w (PsRet ((sgw ng + v : Nat) : Int) 0 w) := by
  have u1 : decide ((1200 : Int) < (s.size : Int)) = false := decide_eq_false (by omega)
  have u1' : decide (1200 < s.size) = false := decide_eq_false (by omega)
  obtain ⟨n1, n2, n3, n4⟩ := no_nam s h1
  have c1 := right_any s (by omega) w
  rw [h2] at c1
  replace c1 := Lib.hid c1
  have c2 := Lib.hid (short_low s hs w)
  have c3 := Lib.hid (parse_float s (by omega) ng v w hG h)
  obtain ⟨f, hf⟩ : ∃ f, f = sgw ng + v := ⟨_, rfl⟩
  rw [← hf] at c3 ⊢
  clear h1 h2 hG h hf
  go_enter Tryz.func73, Tryz.ntmps73
  go_wp2_with fail
  refine c1.out.mono ?_; rintro x w1 ⟨rfl, rfl⟩
  go_wp2_with fail
  refine c2.out.mono ?_; rintro x w1 ⟨rfl, rfl⟩
  go_wp2_with fail
  refine c3.out.mono ?_; rintro x w1 ⟨⟨er, rfl⟩, hB⟩
  have hB' := Lib.hid hB
  have hb := f64b f w1
  clear hB
  go_wp2_with fail
  go_ret2
  exact ⟨rfl, hB'.out⟩
def valL (l : List UInt8) : Nat := sgw (ngL l) + v64 (mrun (manP l)).mant (rfExp (mrun (manP l)) (expL (tlL l)))
end Go.Proofs.YtdeimnnpcfncpaaGreatDoor
end
