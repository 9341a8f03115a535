/- What the laid tables give the walks; arrays that come in by value. -/
import Derived.Test.YtimiejahkcjcdaaDoorRows
import Derived.Test.YtimiejahkcjcdaaDoorM26
import Derived.ProofKit
import Derived.LaidMore
import Derived.OpenShut
import Derived.Lib.LaidTab
import Derived.Stop.LaidErr
import Derived.MakeChecks
namespace Go.Proofs.YtimiejahkcjcdaaDoor
open Go.RowKit Go.ChangeShapes Go.WideShapes

abbrev LaidL : List (String × DataW Unit) := [("gauger/md5.constants", Rows.laid_gauger_md5_constants), ("gauger/md5.turns", Rows.laid_gauger_md5_turns)]
theorem gK : Tryd.prog.globalNamed "gauger/md5.constants" = some 0 := by kernel_rfl
theorem gT : Tryd.prog.globalNamed "gauger/md5.turns" = some 1 := by kernel_rfl
theorem tK : (Tryd.prog.globals[0]?).map (·.type) = some 88 := by kernel_rfl
theorem tT : (Tryd.prog.globals[1]?).map (·.type) = some 91 := by kernel_rfl
theorem cellsK : Tryd.prog.cellsOf 88 = 64 := by kernel_rfl
theorem cellsT : Tryd.prog.cellsOf 91 = 16 := by kernel_rfl
theorem cells28 : Tryd.prog.cellsOf 28 = 1 := by kernel_rfl
theorem cells3 : Tryd.prog.cellsOf 3 = 1 := by kernel_rfl
theorem cells5 : Tryd.prog.cellsOf 5 = 1 := by kernel_rfl
theorem var_heap {P : Program} {w : World} {n : String} {g : Nat} {cs : Array Value} (hg : P.globalNamed n = some g) (h : w.var? P n = some cs) : ∃ t fr, w.heap[g]? = some (.cells cs t fr) := by
  unfold World.var? at h
  rw [hg] at h
  simp only [Option.bind_some] at h
  split at h
  · rename_i cs' t fr he
    cases h
    exact ⟨t, fr, he⟩
  · cases h
theorem tabs_of_laid {W : World} (h : laidMetH Tryd.prog LaidL W) : Tabs W := by
  rw [MakeChecks.laidMetH_plain _ _ _ (by kernel_rfl)] at h
  have h' : laidMet Tryd.prog (("gauger/md5.constants", Lib.tabData .u32 KsI) :: [("gauger/md5.turns", Lib.tabData .i64 TsI)]) W := h
  have h1 : Lib.TabIs Tryd.prog W "gauger/md5.constants" .u32 KsI := Lib.tabIs_of_head gK tK Tryd.underlying88 Tryd.underlying28 cells28 cellsK h'
  have h2 : Lib.TabIs Tryd.prog W "gauger/md5.turns" .i64 TsI := Lib.tabIs_of_head gT tT Tryd.underlying91 Tryd.underlying3 cells3 cellsT h'.tail
  obtain ⟨t0, f0, e0⟩ := var_heap gK h1
  obtain ⟨t1, f1, e1⟩ := var_heap gT h2
  refine ⟨⟨t0, f0, by rw [KsV_eq]; exact e0⟩, ⟨_, t1, f1, e1⟩, fun i hi => ?_⟩
  rw [cell_heap e1]
  have : i < TsI.length := by rw [show TsI.length = 16 from rfl]; exact hi
  simp [this]
/-- The door's own heap meets the condition. -/
theorem door_met (os : Os) (args : Array Value) : laidMetH Tryd.prog LaidL ((World.doorLaid Tryd.prog 19 os).forCall (fun _ _ => 0) ⟨#[], args, []⟩).memory :=
  laidMetH_of_parts3 (fuel := 8) (laidMet_of_run' 8 (by kernel_rfl) (by kernel_rfl)) (by kernel_rfl) (by kernel_rfl)
def intAt (cs : Array Value) (i : Nat) : Int := match cs[i]? with
  | some (Value.int _ z) => z
  | _ => 0
/-- An array of integers by value. -/
theorem open_arr_ints {H : Type} {enc : TypeId × Value → H} {P : Program} {w w2 : World} {base base2 : Nat} {r : Reach} {sp : Nat → Bool} {held : Bool} {t e : TypeId} {n : Nat} {k : IntKind} {v : Value} {d : DataW H} {p : List MemPlace}
    (ht : P.underlying t = some (.array n e)) (he : P.underlying e = some (.int k)) (hce : P.cellsOf e = 1) (hct : P.cellsOf t = n)
    (hv : Value.okWide P w2 r base2 t v) (h : DataW.Trod enc P w base sp held t v d p) :
    ∃ zs : List Int, zs.length = n ∧ v = .agg (zs.map (Value.int k)).toArray ∧ ∀ i (hi : i < zs.length), (Lit.int k zs[i]).wf = true := by
  have hv' : ∃ cs, v = .agg cs ∧ cs.size = P.cellsOf t := by
    simp only [Value.okWide, ht] at hv
    obtain ⟨cs, h1, h2, _⟩ := hv
    exact ⟨cs, h1, h2⟩
  obtain ⟨cs, rfl, hs⟩ := hv'
  obtain ⟨fuel, hf⟩ := h
  obtain ⟨xs, m, _, _, hl, hn, hel⟩ := DataW.trod_array ht (by simpa [Value.cells] using hf)
  have hcell : ∀ i, i < n → ∃ z : Int, cs[i]? = some (.int k z) ∧ (Lit.int k z).wf = true := by
    intro i hi
    have h1 := hel i hi
    rw [hce, Nat.mul_one, List.getElem?_eq_getElem (by omega)] at h1
    obtain ⟨z, e1, _, e3⟩ := DataW.trod_int he h1
    refine ⟨z, ?_, e3⟩
    have := congrArg (·[0]?) e1
    simpa [List.getElem?_take, List.getElem?_drop] using this
  refine ⟨(List.range n).map fun i => intAt cs i, by simp, ?_, ?_⟩
  · congr 1
    apply Array.ext
    · simp; omega
    · intro i h1 h2
      obtain ⟨z, hz, _⟩ := hcell i (by simpa using h2)
      have : cs[i] = .int k z := by
        have := Array.getElem?_eq_getElem h1
        rw [hz] at this
        exact (Option.some.inj this).symm
      have hi : intAt cs i = z := by unfold intAt; rw [hz]
      simp [hi, this]
  · intro i hi
    obtain ⟨z, hz, hw⟩ := hcell i (by simpa using hi)
    simpa [intAt, hz] using hw
end Go.Proofs.YtimiejahkcjcdaaDoor
