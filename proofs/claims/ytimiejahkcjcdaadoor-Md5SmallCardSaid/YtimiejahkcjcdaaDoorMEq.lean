/- Arrays of integers compared. -/
import Derived.Test.YtimiejahkcjcdaaDoorM26
import Derived.Laws.StructEq
namespace Go.Proofs.YtimiejahkcjcdaaDoor
open Go.RowKit

theorem all_rangeI : ∀ (xs ys : List Int), xs.length = ys.length → ((List.range xs.length).all fun i => xs.getD i 0 == ys.getD i 0) = (xs == ys)
  | [], [], _ => rfl
  | x :: xs, y :: ys, h => by
    have ih := all_rangeI xs ys (by simpa using h)
    rw [List.length_cons, List.range_succ_eq_map, List.all_cons, List.all_map]
    simp only [List.getD_cons_zero, Function.comp_def, List.getD_cons_succ, ih]
    simp [List.cons_beq_cons]
  | [], _ :: _, h => by simp at h
  | _ :: _, [], h => by simp at h
theorem equalIn_ints {P : Program} (w : World) (k : IntKind) (d : Nat) (t e : TypeId) (n : Nat) (ht : P.underlying t = some (.array n e)) (he : P.underlying e = some (.int k)) (hsz : ∀ w, (sizeOf e).run P w = .ok 1 w)
    (xs ys : List Int) (hx : xs.length = n) (hy : ys.length = n) :
    (Op.equalIn (d + 2) t (.agg (xs.map (Value.int k)).toArray) (.agg (ys.map (Value.int k)).toArray)).run P w = .ok (xs == ys) w := by
  rw [← all_rangeI xs ys (hx.trans hy.symm), hx, List.range_eq_range', Op.equalIn]
  simp only [Sem.run_bind, run_underlying ht, Result.andThen_ok, hsz, Std.Legacy.Range.forIn_eq_forIn_range', Std.Legacy.Range.size, Nat.sub_zero, Nat.add_sub_cancel, Nat.div_one]
  have hl : ∀ i ∈ List.range' 0 n 1, i < n := fun i hi => by simpa using (List.mem_range'_1.1 hi).2
  generalize List.range' 0 n 1 = l at hl ⊢
  induction l with
  | nil => simp
  | cons i l ih =>
    have hi : i < n := hl i (by simp)
    have px : (part e (xs.map (Value.int k)).toArray (i * 1)).run P w = .ok (.int k (xs.getD i 0)) w := by
      simp [part, isAgg, run_underlying he, List.getD, List.getElem?_eq_getElem (show i < xs.length by omega)]
    have py : (part e (ys.map (Value.int k)).toArray (i * 1)).run P w = .ok (.int k (ys.getD i 0)) w := by
      simp [part, isAgg, run_underlying he, List.getD, List.getElem?_eq_getElem (show i < ys.length by omega)]
    have pe : (Op.equalIn (d + 1) e (.int k (xs.getD i 0)) (.int k (ys.getD i 0))).run P w = .ok (xs.getD i 0 == ys.getD i 0) w := run_equalIn_int w d e k k _ _ he
    simp only [List.forIn_cons, Sem.run_bind, px, py, pe, Result.andThen_ok, List.all_cons]
    cases hb : (xs.getD i 0 == ys.getD i 0)
    · simp
    · simp only [Bool.not_true, Bool.false_eq_true, if_false, Sem.run_pure, Result.andThen_ok, Bool.true_and]
      exact ih fun j hj => hl j (by simp [hj])
theorem size28 (w : World) : (sizeOf 28).run Tryd.prog w = .ok 1 w := by kernel_rfl
theorem size5 (w : World) : (sizeOf 5).run Tryd.prog w = .ok 1 w := by kernel_rfl
theorem eq30 (s r : S4) (w : World) : (Op.equalIn 10000 30 (.agg #[.int .u32 (U s.a), .int .u32 (U s.b), .int .u32 (U s.c), .int .u32 (U s.d)]) (.agg #[.int .u32 (U r.a), .int .u32 (U r.b), .int .u32 (U r.c), .int .u32 (U r.d)])).run Tryd.prog w = .ok (decide (s = r)) w := by
  have h := equalIn_ints w .u32 9998 30 28 4 Tryd.underlying30 Tryd.underlying28 size28 [U s.a, U s.b, U s.c, U s.d] [U r.a, U r.b, U r.c, U r.d] rfl rfl
  have e : ([U s.a, U s.b, U s.c, U s.d] == [U r.a, U r.b, U r.c, U r.d]) = decide (s = r) := by
    rw [Bool.eq_iff_iff]
    obtain ⟨a, b, c, d⟩ := s
    obtain ⟨a', b', c', d'⟩ := r
    simp [U_inj]
  rw [e] at h
  exact h
/-- Two digests are the same. -/
def eqD (d d' : Nat → UInt8) : Bool := (List.range 16).all fun i => d i == d' i
theorem eqD_same (d : Nat → UInt8) : eqD d d = true := by simp [eqD]
theorem eqD_iff (d d' : Nat → UInt8) : eqD d d' = true ↔ ∀ i, i < 16 → d i = d' i := by simp [eqD]
theorem eq34 (d d' : Nat → UInt8) (w : World) : (Op.equalIn 10000 34 (.agg #[e8 d 0, e8 d 1, e8 d 2, e8 d 3, e8 d 4, e8 d 5, e8 d 6, e8 d 7, e8 d 8, e8 d 9, e8 d 10, e8 d 11, e8 d 12, e8 d 13, e8 d 14, e8 d 15]) (.agg #[e8 d' 0, e8 d' 1, e8 d' 2, e8 d' 3, e8 d' 4, e8 d' 5, e8 d' 6, e8 d' 7, e8 d' 8, e8 d' 9, e8 d' 10, e8 d' 11, e8 d' 12, e8 d' 13, e8 d' 14, e8 d' 15])).run Tryd.prog w = .ok (eqD d d') w := by
  have h := equalIn_ints w .u8 9998 34 5 16 Tryd.underlying34 Tryd.underlying5 size5 ((List.range 16).map fun i => ((d i).toNat : Int)) ((List.range 16).map fun i => ((d' i).toNat : Int)) rfl rfl
  have e : (((List.range 16).map fun i => ((d i).toNat : Int)) == ((List.range 16).map fun i => ((d' i).toNat : Int))) = eqD d d' := by
    rw [Bool.eq_iff_iff, eqD_iff, beq_iff_eq]
    constructor
    · intro h i hi
      have := congrArg (fun l : List Int => l.getD i 0) h
      simp [hi] at this
      exact UInt8.toNat_inj.1 (by omega)
    · intro h
      apply List.map_congr_left
      intro i hi
      rw [h i (List.mem_range.1 hi)]
  rw [e] at h
  exact h
end Go.Proofs.YtimiejahkcjcdaaDoor
