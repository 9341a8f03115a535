/- Steps of regions of this program: loads of arrays, their comparison. -/
import Derived.Test.YtimiejahkcjcdaaDoorMEq
import Derived.Test.YtimiejahkcjcdaaDoorRS
namespace Go.Proofs.YtimiejahkcjcdaaDoor
open Go Go.RowKit

theorem load16 (w : World) (N : Nat) (d : Nat → UInt8) (x : Operand) (o : Oper) (h : B16 w N d) :
    (execOp (fun _ => .pointer (some ⟨N, 0, none⟩)) { o with op := .load 34 x }).run Tryd.prog w = .ok (.value (.agg #[e8 d 0, e8 d 1, e8 d 2, e8 d 3, e8 d 4, e8 d 5, e8 d 6, e8 d 7, e8 d 8, e8 d 9, e8 d 10, e8 d 11, e8 d 12, e8 d 13, e8 d 14, e8 d 15])) w := by
  obtain ⟨x0, x1, x2, x3, x4, x5, x6, x7, x8, x9, x10, x11, x12, x13, x14, x15⟩ := h.cells
  simp [execOp, go_sem, x0, x1, x2, x3, x4, x5, x6, x7, x8, x9, x10, x11, x12, x13, x14, x15]
theorem load4 (w : World) (N : Nat) (s : S4) (x : Operand) (o : Oper) (h : St4 w N s) :
    (execOp (fun _ => .pointer (some ⟨N, 0, none⟩)) { o with op := .load 30 x }).run Tryd.prog w = .ok (.value (.agg #[.int .u32 (U s.a), .int .u32 (U s.b), .int .u32 (U s.c), .int .u32 (U s.d)])) w := by
  obtain ⟨⟨x0, x1, x2, x3⟩, _⟩ := h
  simp [execOp, go_sem, x0, x1, x2, x3]
theorem eql34 {x y : Operand} (d d' : Nat → UInt8) (b : Bool) (h : eqD d d' = b) (w : World) : (do eqGuard .eql 34 x y (.agg #[e8 d 0, e8 d 1, e8 d 2, e8 d 3, e8 d 4, e8 d 5, e8 d 6, e8 d 7, e8 d 8, e8 d 9, e8 d 10, e8 d 11, e8 d 12, e8 d 13, e8 d 14, e8 d 15]) (.agg #[e8 d' 0, e8 d' 1, e8 d' 2, e8 d' 3, e8 d' 4, e8 d' 5, e8 d' 6, e8 d' 7, e8 d' 8, e8 d' 9, e8 d' 10, e8 d' 11, e8 d' 12, e8 d' 13, e8 d' 14, e8 d' 15]); binOp .eql 34 (.agg #[e8 d 0, e8 d 1, e8 d 2, e8 d 3, e8 d 4, e8 d 5, e8 d 6, e8 d 7, e8 d 8, e8 d 9, e8 d 10, e8 d 11, e8 d 12, e8 d 13, e8 d 14, e8 d 15]) (.agg #[e8 d' 0, e8 d' 1, e8 d' 2, e8 d' 3, e8 d' 4, e8 d' 5, e8 d' 6, e8 d' 7, e8 d' 8, e8 d' 9, e8 d' 10, e8 d' 11, e8 d' 12, e8 d' 13, e8 d' 14, e8 d' 15]) : Sem Value).run Tryd.prog w = .ok (.bool b) w := by
  have e := eq34 d d'
  simp [go_sem, e, h]
theorem neq34 {x y : Operand} (d d' : Nat → UInt8) (b : Bool) (h : (!(eqD d d')) = b) (w : World) : (do eqGuard .neq 34 x y (.agg #[e8 d 0, e8 d 1, e8 d 2, e8 d 3, e8 d 4, e8 d 5, e8 d 6, e8 d 7, e8 d 8, e8 d 9, e8 d 10, e8 d 11, e8 d 12, e8 d 13, e8 d 14, e8 d 15]) (.agg #[e8 d' 0, e8 d' 1, e8 d' 2, e8 d' 3, e8 d' 4, e8 d' 5, e8 d' 6, e8 d' 7, e8 d' 8, e8 d' 9, e8 d' 10, e8 d' 11, e8 d' 12, e8 d' 13, e8 d' 14, e8 d' 15]); binOp .neq 34 (.agg #[e8 d 0, e8 d 1, e8 d 2, e8 d 3, e8 d 4, e8 d 5, e8 d 6, e8 d 7, e8 d 8, e8 d 9, e8 d 10, e8 d 11, e8 d 12, e8 d 13, e8 d 14, e8 d 15]) (.agg #[e8 d' 0, e8 d' 1, e8 d' 2, e8 d' 3, e8 d' 4, e8 d' 5, e8 d' 6, e8 d' 7, e8 d' 8, e8 d' 9, e8 d' 10, e8 d' 11, e8 d' 12, e8 d' 13, e8 d' 14, e8 d' 15]) : Sem Value).run Tryd.prog w = .ok (.bool b) w := by
  have e := eq34 d d'
  simp [go_sem, e, h]
theorem neq30 {x y : Operand} (s r : S4) (b : Bool) (h : (!(decide (s = r))) = b) (w : World) : (do eqGuard .neq 30 x y (.agg #[.int .u32 (U s.a), .int .u32 (U s.b), .int .u32 (U s.c), .int .u32 (U s.d)]) (.agg #[.int .u32 (U r.a), .int .u32 (U r.b), .int .u32 (U r.c), .int .u32 (U r.d)]); binOp .neq 30 (.agg #[.int .u32 (U s.a), .int .u32 (U s.b), .int .u32 (U s.c), .int .u32 (U s.d)]) (.agg #[.int .u32 (U r.a), .int .u32 (U r.b), .int .u32 (U r.c), .int .u32 (U r.d)]) : Sem Value).run Tryd.prog w = .ok (.bool b) w := by
  have e := eq30 s r
  subst h
  simp [go_sem, e]
end Go.Proofs.YtimiejahkcjcdaaDoor
