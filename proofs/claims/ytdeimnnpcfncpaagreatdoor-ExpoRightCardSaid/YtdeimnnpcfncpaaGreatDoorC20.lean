/- Parts of the proof: W1 X1 X2 KB. -/
import Derived.Carry
import Derived.Test.YtdeimnnpcfncpaaGreatDoorRows
import Derived.ProofKit
import Derived.LaidMore
import Derived.OpenShut
import Derived.Lib.LaidTab
import Derived.Lib.LaidU8
import Derived.Stop.LaidErr
import Derived.MakeChecks
import Derived.HandedShaped
import Derived.Lay
import Derived.Shelf.Vars
import Derived.Test.YtdeimnnpcfncpaaGreatDoorC03
import Derived.Test.YtdeimnnpcfncpaaGreatDoorC09
import Derived.Test.YtdeimnnpcfncpaaGreatDoorC10
import Derived.Test.YtdeimnnpcfncpaaGreatDoorC12
import Derived.Test.YtdeimnnpcfncpaaGreatDoorC14
import Derived.Test.YtdeimnnpcfncpaaGreatDoorC15
import Derived.Test.YtdeimnnpcfncpaaGreatDoorC16
import Derived.Test.YtdeimnnpcfncpaaGreatDoorC18
import Derived.Test.YtdeimnnpcfncpaaGreatDoorC19
section
namespace Go.Proofs.YtdeimnnpcfncpaaGreatDoor
open Go Go.RowKit
theorem tabIs_on {P : Program} {w w' : World} {n : String} {k : IntKind} {zs : List Int} (h : Lib.TabIs P w n k zs) (hb : Below w.heap.size w w') : Lib.TabIs P w' n k zs := by
  unfold Lib.TabIs World.var? at *
  cases hg : P.globalNamed n with
  | none => rw [hg] at h; cases h
  | some g =>
    rw [hg] at h
    simp only [Option.bind_some] at h ⊢
    have hlt : g < w.heap.size := by
      rcases Nat.lt_or_ge g w.heap.size with h' | h'
      · exact h'
      · rw [Array.getElem?_eq_none h'] at h; cases h
    rw [hb.block g hlt]
    exact h
structure AGlb (w : World) : Prop where
  p : PGlb w
  tab : Lib.TabIs Tryz.prog w "internal/strconv.uint64pow10" .u64 Lib.pow10Tab
theorem AGlb.on {w W : World} (h : AGlb w) (hb : Below w.heap.size w W) : AGlb W := ⟨h.p.on hb, tabIs_on h.tab hb⟩
end Go.Proofs.YtdeimnnpcfncpaaGreatDoor
end
section
namespace Go.Proofs.YtdeimnnpcfncpaaGreatDoor
open Go Go.RowKit
def dgT (c : UInt8) : UInt8 := UInt8.ofNat (48 + c.toNat % 10)
def tx (l : List UInt8) (i : Nat) : List UInt8 := if i = 0 then [48] else (l.take i).map dgT
end Go.Proofs.YtdeimnnpcfncpaaGreatDoor
end
section
namespace Go.Proofs.YtdeimnnpcfncpaaGreatDoor
open Go Go.RowKit
def BS (l : List UInt8) : ByteArray := ⟨l.toArray⟩
theorem BS_size (l : List UInt8) : (BS l).size = l.length := by unfold BS; show l.toArray.size = _; simp
theorem BS_app (a b : List UInt8) : BS a ++ BS b = BS (a ++ b) := by apply ba_ext; simp [BS]
end Go.Proofs.YtdeimnnpcfncpaaGreatDoor
end
section
namespace Go.Proofs.YtdeimnnpcfncpaaGreatDoor
open Go Go.RowKit
structure BGlb (w : World) : Prop where
  a : AGlb w
  m : ∃ m : Int, w.cell? ⟨0, 0, none⟩ = some (.int .i64 m)
theorem BGlb.on {w W : World} (h : BGlb w) (hb : Below w.heap.size w W) : BGlb W := by
  refine ⟨h.a.on hb, ?_⟩
  obtain ⟨m, hm⟩ := h.m
  exact ⟨m, by rw [hb.cell (p := ⟨0, 0, none⟩) (by have := h.a.p.f.big; show 0 < _; omega)]; exact hm⟩
end Go.Proofs.YtdeimnnpcfncpaaGreatDoor
end
