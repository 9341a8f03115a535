/- Parts of the proof: NG NH. -/
import Derived.Test.YtdeimnnpcfncpaaGreatDoorRows
import Derived.ProofKit
import Derived.LaidMore
import Derived.OpenShut
import Derived.Lib.LaidTab
import Derived.Lib.LaidU8
import Derived.Stop.LaidErr
import Derived.MakeChecks
import Derived.HandedShaped
import Derived.Lay
import Derived.Test.YtdeimnnpcfncpaaGreatDoorC10
import Derived.Test.YtdeimnnpcfncpaaGreatDoorC16
import Derived.Test.YtdeimnnpcfncpaaGreatDoorC20
import Derived.Test.YtdeimnnpcfncpaaGreatDoorC34
section
namespace Go.Proofs.YtdeimnnpcfncpaaGreatDoor
open Go Go.RowKit
set_option linter.unusedVariables false
set_option linter.unusedSimpArgs false
def namV (l : List UInt8) : Nat := if l = [45, 73, 110, 102] then 18442240474082181120 else if l = [78, 97, 78] then 9221120237041090561 else 9218868437227405312
def PrVal (l : List UInt8) (v e : Int) : Prop :=
  (1200 < l.length ∧ v = 0 ∧ e = 3) ∨ (l.length ≤ 1200 ∧ isNam l = true ∧ v = (namV l : Int) ∧ e = 0) ∨ (l.length ≤ 1200 ∧ isNam l = false ∧ rightL l = false ∧ v = 0 ∧ e = 210) ∨
    (l.length ≤ 1200 ∧ isNam l = false ∧ rightL l = true ∧ e = 0 ∧ ∃ r : Nat, NearX (numL l) (powL l) r ∧ v = ((sgw (ngL l) + r : Nat) : Int))
def PrRet (l : List UInt8) (w : World) (x : Ending) (w' : World) : Prop :=
  Below w.heap.size w w' ∧ ∃ v e, PrVal l v e ∧ x = .returned (.tuple #[.int .u64 v, .int .i64 e])
theorem nam_len (l : List UInt8) (h : isNam l = true) : l = [73, 110, 102] ∨ l = [43, 73, 110, 102] ∨ l = [45, 73, 110, 102] ∨ l = [78, 97, 78] := by
  unfold isNam at h
  simp only [Bool.or_eq_true, beq_iff_eq] at h
  rcases h with ((h | h) | h) | h
  · exact .inl h
  · exact .inr (.inl h)
  · exact .inr (.inr (.inl h))
  · exact .inr (.inr (.inr h))
end Go.Proofs.YtdeimnnpcfncpaaGreatDoor
end
section
namespace Go.Proofs.YtdeimnnpcfncpaaGreatDoor
open Go Go.RowKit
set_option linter.unusedVariables false
set_option linter.unusedSimpArgs false
set_option maxRecDepth 100000 in
set_option maxHeartbeats 4000000 in
theorem parse_nam (s : ByteArray) (hs : s.size ≤ 1200) (hn : isNam s.data.toList = true) (w : World) : Calls Tryz.prog 73 #[.string s] w (PsRet (namV s.data.toList : Int) 0 w) := by
  have u1 : decide ((1200 : Int) < (s.size : Int)) = false := decide_eq_false (by omega)
  have u2 : decide (1200 < s.size) = false := decide_eq_false (by omega)
  have hc := nam_len _ hn
  clear hn
  obtain ⟨l, hlE⟩ : ∃ l, l = s.data.toList := ⟨_, rfl⟩
  rw [← hlE] at hc ⊢
  have hst : s.toList = l := by rw [hlE]; exact ByteArray.toList_eq s
  clear hlE
  rcases hc with rfl | rfl | rfl | rfl
  · have e1 : (s.toList == [73, 110, 102]) = true := by rw [hst]; rfl
    clear hst
    go_enter Tryz.func73, Tryz.ntmps73
    go_wp2_with fail
    go_ret2
    exact ⟨rfl, Below.refl _ _⟩
  · have e1 : (s.toList == [73, 110, 102]) = false := by rw [hst]; rfl
    have e2 : (s.toList == [43, 73, 110, 102]) = true := by rw [hst]; rfl
    clear hst
    go_enter Tryz.func73, Tryz.ntmps73
    go_wp2_with fail
    go_ret2
    exact ⟨rfl, Below.refl _ _⟩
  · have e1 : (s.toList == [73, 110, 102]) = false := by rw [hst]; rfl
    have e2 : (s.toList == [43, 73, 110, 102]) = false := by rw [hst]; rfl
    have e3 : (s.toList == [45, 73, 110, 102]) = true := by rw [hst]; rfl
    clear hst
    go_enter Tryz.func73, Tryz.ntmps73
    go_wp2_with fail
    go_ret2
    exact ⟨rfl, Below.refl _ _⟩
  · have e1 : (s.toList == [73, 110, 102]) = false := by rw [hst]; rfl
    have e2 : (s.toList == [43, 73, 110, 102]) = false := by rw [hst]; rfl
    have e3 : (s.toList == [45, 73, 110, 102]) = false := by rw [hst]; rfl
    have e4 : (s.toList == [78, 97, 78]) = true := by rw [hst]; rfl
    clear hst
    go_enter Tryz.func73, Tryz.ntmps73
    go_wp2_with fail
    go_ret2
    exact ⟨rfl, Below.refl _ _⟩
theorem parse_pr (s : ByteArray) (hs : s.size ≤ 780 ∨ 1200 < s.size) (w : World) (hG : PGlb w) : Calls Tryz.prog 73 #[.string s] w (PrRet s.data.toList w) := by
  have hlen := len_size s
  have fin : ∀ v e, PrVal s.data.toList v e → Calls Tryz.prog 73 #[.string s] w (PsRet v e w) → Calls Tryz.prog 73 #[.string s] w (PrRet s.data.toList w) := fun v e h c => c.mono fun x w' ⟨h1, h2⟩ => ⟨h2, v, e, h, h1⟩
  by_cases hb : 1200 < s.size
  · exact fin _ _ (.inl ⟨by omega, rfl, rfl⟩) (parse_big s hb w)
  · have h7 : s.size ≤ 780 := by omega
    cases hn : isNam s.data.toList with
    | true => exact fin _ _ (.inr (.inl ⟨by omega, hn, rfl, rfl⟩)) (parse_nam s (by omega) hn w)
    | false =>
      cases hr : rightL s.data.toList with
      | false => exact fin _ _ (.inr (.inr (.inl ⟨by omega, hn, hr, rfl, rfl⟩))) (parse_no s (by omega) hn hr w)
      | true =>
        obtain ⟨r, h⟩ := nx_ex (numL s.data.toList) (powL s.data.toList)
        exact fin _ _ (.inr (.inr (.inr ⟨by omega, hn, hr, rfl, r, h, rfl⟩))) (parse_near s h7 hn hr r h w hG)
end Go.Proofs.YtdeimnnpcfncpaaGreatDoor
end
