/- Steps of a region taken from a frame of which only some slots are known. No program in sight. -/
import Derived.Test.YtiapkindbbbdpaaDoorRI
namespace Go.Proofs.YtiapkindbbbdpaaDoor
open Go Go.RowKit
set_option linter.unusedSimpArgs false
set_option linter.unusedVariables false
section
variable {P : Program} {ops : Array Oper} {Q : Exit → Act → World → Prop} {a : Act} {w : World} {K : Act → World → Prop} {i : Nat} {o : Oper}

/-- The guard, if there is one, is met. -/
def Met (ops : Array Oper) (a : Act) (o : Oper) : Prop := Region.wanted o (yielded ops a.tmps) = true
theorem met_none (h : o.guard = none) : Met ops a o := by unfold Met Region.wanted; rw [h]
theorem met_some {j : Nat} {b : Bool} {o' : Oper} {t : Nat} (h : o.guard = some (j, b)) (hj : ops[j]? = some o') (ht : o'.dst = some t) (hv : a.tmps.getD t undef = .bool b) : Met ops a o := by
  have : a.tmps[t]? = some (.bool b) := by
    rcases Nat.lt_or_ge t a.tmps.size with h' | h'
    · simp [h'] at hv; simp [h', hv]
    · simp [Array.getElem?_eq_none h', undef] at hv
  unfold Met Region.wanted
  rw [h]
  simp [yielded, hj, ht, this]

theorem step_run {v : Value} {w' : World} (ho : ops[i]? = some o) (hm : Met ops a o) (hr : (execOp a.eval o).run P w = .ok (.value v) w') (hk : K (a.put o.dst v) w') : wpOp P ops Q i K a w := by
  unfold Met at hm
  unfold wpOp
  simp only [ho, hm, if_true]
  left
  unfold Oper.wp
  rw [hr]
  exact hk

theorem step_move {x : Operand} (ho : ops[i]? = some o) (hm : Met ops a o) (hop : o.op = .move x ∨ o.op = .assign x) (hk : K (a.put o.dst (a.eval x)) w) : wpOp P ops Q i K a w := by
  refine step_run ho hm (v := a.eval x) (w' := w) ?_ hk
  rcases hop with h | h <;> simp [execOp, h]

theorem step_conv {x : Operand} {s d : TypeId} {v : Value} {w' : World} (ho : ops[i]? = some o) (hm : Met ops a o) (hop : o.op = .convert s d x) (hr : (convert s d (a.eval x)).run P w = .ok v w') (hk : K (a.put o.dst v) w') : wpOp P ops Q i K a w := by
  refine step_run ho hm (v := v) (w' := w') ?_ hk
  simp [execOp, hop, hr, Result.andThen]

theorem step_call {f : FuncId} {dst : Option Tmp} {xs : Array Operand} {ats : Array TypeId} {ty : TypeId} {pos : String} {after : Array Edge} {guard : Option (Nat × Bool)}
    (ho : ops[i]? = some { dst, op := .call { callee := .value (.func f), args := xs, argTypes := ats }, type := ty, pos, after, guard }) (hm : Met ops a { dst, op := .call { callee := .value (.func f), args := xs, argTypes := ats }, type := ty, pos, after, guard })
    (args : Array Value) (hargs : #[] ++ xs.map a.eval ++ #[] = args) (hf : (callFunc f args).run P w = .ok (.enter f args) w)
    (hc : Calls P f args w fun e w' => ∃ v, e = .returned v ∧ K (a.put dst v) w') : wpOp P ops Q i K a w := by
  unfold Met at hm
  unfold wpOp
  simp only [ho, hm, if_true]
  left
  unfold Oper.wp
  have : (execOp a.eval { dst, op := .call { callee := .value (.func f), args := xs, argTypes := ats }, type := ty, pos, after, guard }).run P w = .ok (.enter f args) w := by
    show (callFunc f (#[] ++ xs.map a.eval ++ #[])).run P w = _
    rw [hargs, hf]
  rw [this]
  exact hc.mono fun e w' ⟨v, he, hk⟩ => by subst he; exact hk

theorem args1 {x : Operand} {v : Value} (h : a.eval x = v) : #[] ++ #[x].map a.eval ++ #[] = #[v] := by simp [h]
theorem args2 {x y : Operand} {v u : Value} (h : a.eval x = v) (g : a.eval y = u) : #[] ++ #[x, y].map a.eval ++ #[] = #[v, u] := by simp [h, g]

theorem step_pick {c x y : Operand} {b : Bool} (ho : ops[i]? = some o) (hm : Met ops a o) (hop : o.op = .pick c x y) (hc : a.eval c = .bool b) (hk : K (a.put o.dst (if b then a.eval x else a.eval y)) w) : wpOp P ops Q i K a w := by
  refine step_run ho hm (v := if b then a.eval x else a.eval y) (w' := w) ?_ hk
  simp [execOp, hop, hc, asBool, Result.andThen]

theorem step_eql {x y : Operand} {t t2 : TypeId} {m n : Int} (ho : ops[i]? = some o) (hm : Met ops a o) (hop : o.op = .binOp .eql t x y t2) (hx : a.eval x = .int .u64 m) (hy : a.eval y = .int .u64 n)
    (hk : K (a.put o.dst (.bool (m == n))) w) : wpOp P ops Q i K a w := by
  refine step_run ho hm (v := .bool (m == n)) (w' := w) ?_ hk
  simp only [execOp, hop, hx, hy]
  simp [go_sem]
theorem step_neq {x y : Operand} {t t2 : TypeId} {m n : Int} (ho : ops[i]? = some o) (hm : Met ops a o) (hop : o.op = .binOp .neq t x y t2) (hx : a.eval x = .int .u64 m) (hy : a.eval y = .int .u64 n)
    (hk : K (a.put o.dst (.bool (m != n))) w) : wpOp P ops Q i K a w := by
  refine step_run ho hm (v := .bool (m != n)) (w' := w) ?_ hk
  simp only [execOp, hop, hx, hy]
  simp [go_sem]
theorem step_build1 {t : TypeId} {x : Operand} {v : Value} {w' : World} {r : Value} (ho : ops[i]? = some o) (hm : Met ops a o) (hop : o.op = .buildSlice t 1 #[(0, x)]) (hx : a.eval x = v)
    (hr : (Instr.buildSlice t 1 #[(0, v)]).run P w = .ok r w') (hk : K (a.put o.dst r) w') : wpOp P ops Q i K a w := by
  refine step_run ho hm (v := r) (w' := w') ?_ hk
  simp [execOp, hop, hx, hr, Result.andThen]
theorem step_skip {j : Nat} {b : Bool} {o' : Oper} {t : Nat} (ho : ops[i]? = some o) (h : o.guard = some (j, b)) (hj : ops[j]? = some o') (ht : o'.dst = some t) (hv : a.tmps.getD t undef = .bool (!b)) (hk : K (a.put o.dst undef) w) : wpOp P ops Q i K a w := by
  have : a.tmps[t]? = some (.bool (!b)) := by
    rcases Nat.lt_or_ge t a.tmps.size with h' | h'
    · simp [h'] at hv; simp [h', hv]
    · simp [Array.getElem?_eq_none h', undef] at hv
  have hw : Region.wanted o (yielded ops a.tmps) = false := by
    unfold Region.wanted
    rw [h]
    cases b <;> simp [yielded, hj, ht, this]
  unfold wpOp
  simp only [ho, hw, Bool.false_eq_true, if_false]
  exact hk
theorem step_skip_u {j : Nat} {b : Bool} {o' : Oper} {t : Nat} (ho : ops[i]? = some o) (h : o.guard = some (j, b)) (hj : ops[j]? = some o') (ht : o'.dst = some t) (hv : a.tmps.getD t undef = undef) (hk : K (a.put o.dst undef) w) : wpOp P ops Q i K a w := by
  have hw : Region.wanted o (yielded ops a.tmps) = false := by
    unfold Region.wanted
    rw [h]
    rcases Nat.lt_or_ge t a.tmps.size with h' | h'
    · simp [h'] at hv
      simp [yielded, hj, ht, h', hv, undef]
    · simp [yielded, hj, ht, Array.getElem?_eq_none h']
  unfold wpOp
  simp only [ho, hw, Bool.false_eq_true, if_false]
  exact hk
theorem step_len_slice {x : Operand} {t e : TypeId} {ad : Option Addr} {n c : Nat} (ht : P.underlying t = some (.slice e)) (ho : ops[i]? = some o) (hm : Met ops a o) (hop : o.op = .call { callee := .builtin .len, args := #[x], argTypes := #[t] }) (hx : a.eval x = .slice ad n c)
    (hk : K (a.put o.dst (.int .i64 n)) w) : wpOp P ops Q i K a w := by
  refine step_run ho hm (v := .int .i64 n) (w' := w) ?_ hk
  obtain ⟨dst, op, ty, pos, after, guard⟩ := o
  simp only at hop
  subst hop
  generalize a.eval = ρ at hx ⊢
  have ht' : P.underlying t = some (.slice (P.elem t)) := by simp [Program.elem, ht]
  simp [execOp, resolve, hx, go_sem, run_len_slice _ _ _ _ _ _ ht']
theorem step_len_string {x : Operand} {t : TypeId} {s : ByteArray} (ht : P.underlying t = some .string) (ho : ops[i]? = some o) (hm : Met ops a o) (hop : o.op = .call { callee := .builtin .len, args := #[x], argTypes := #[t] }) (hx : a.eval x = .string s)
    (hk : K (a.put o.dst (.int .i64 s.size)) w) : wpOp P ops Q i K a w := by
  refine step_run ho hm (v := .int .i64 s.size) (w' := w) ?_ hk
  obtain ⟨dst, op, ty, pos, after, guard⟩ := o
  simp only at hop
  subst hop
  generalize a.eval = ρ at hx ⊢
  simp [execOp, resolve, hx, go_sem, run_len_string _ _ _ _ ht]
theorem step_load {x : Operand} {t : TypeId} {v : Value} {p : Value} (ho : ops[i]? = some o) (hm : Met ops a o) (hop : o.op = .load t x) (hx : a.eval x = p) (hr : (execOp (fun _ => p) { o with op := .load t x }).run P w = .ok (.value v) w) (hk : K (a.put o.dst v) w) : wpOp P ops Q i K a w := by
  refine step_run ho hm (v := v) (w' := w) ?_ hk
  obtain ⟨dst, op, ty, pos, after, guard⟩ := o
  simp only at hop
  subst hop
  simpa [execOp, hx] using hr
theorem step_bin {x y : Operand} {op : BinOp} {t t2 : TypeId} {u v r : Value} {w' : World} (ho : ops[i]? = some o) (hm : Met ops a o) (hop : o.op = .binOp op t x y t2) (hx : a.eval x = u) (hy : a.eval y = v)
    (hr : (do eqGuard op t x y u v; binOp op t u v : Sem Value).run P w = .ok r w') (hk : K (a.put o.dst r) w') : wpOp P ops Q i K a w := by
  refine step_run ho hm (v := r) (w' := w') ?_ hk
  simp only [execOp, hop, hx, hy]
  rw [Sem.run_bind, hr]
  rfl
theorem step_extract {x : Operand} {n : Nat} {v r : Value} (ho : ops[i]? = some o) (hm : Met ops a o) (hop : o.op = .extract x n) (hx : a.eval x = v) (hr : (Instr.extract v n).run P w = .ok r w)
    (hk : K (a.put o.dst r) w) : wpOp P ops Q i K a w := by
  refine step_run ho hm (v := r) (w' := w) ?_ hk
  simp [execOp, hop, hx, hr, Result.andThen]
theorem step_slice_hi {t : TypeId} {x y : Operand} {v u r : Value} {w' : World} (ho : ops[i]? = some o) (hm : Met ops a o) (hop : o.op = .slice t x none (some y) none) (hx : a.eval x = v) (hy : a.eval y = u)
    (hr : (Instr.sliceAt t v none (some u) none).run P w = .ok r w') (hk : K (a.put o.dst r) w') : wpOp P ops Q i K a w := by
  refine step_run ho hm (v := r) (w' := w') ?_ hk
  simp [execOp, hop, hx, hy, hr, Result.andThen]
theorem step_slice_lo {t : TypeId} {x y : Operand} {v u r : Value} {w' : World} (ho : ops[i]? = some o) (hm : Met ops a o) (hop : o.op = .slice t x (some y) none none) (hx : a.eval x = v) (hy : a.eval y = u)
    (hr : (Instr.sliceAt t v (some u) none none).run P w = .ok r w') (hk : K (a.put o.dst r) w') : wpOp P ops Q i K a w := by
  refine step_run ho hm (v := r) (w' := w') ?_ hk
  simp [execOp, hop, hx, hy, hr, Result.andThen]
theorem step_len {x : Operand} {tys : Array TypeId} {v r : Value} {w' : World} (ho : ops[i]? = some o) (hm : Met ops a o) (hop : o.op = .call { callee := .builtin .len, args := #[x], argTypes := tys }) (hx : a.eval x = v)
    (hr : (execOp (fun _ => v) { o with op := .call { callee := .builtin .len, args := #[x], argTypes := tys } }).run P w = .ok (.value r) w') (hk : K (a.put o.dst r) w') : wpOp P ops Q i K a w := by
  refine step_run ho hm (v := r) (w' := w') ?_ hk
  obtain ⟨dst, op, ty, pos, after, guard⟩ := o
  simp only at hop
  subst hop
  simpa [execOp, resolve, hx] using hr
theorem step_faddr {x : Operand} {t : TypeId} {n : Nat} {v r : Value} (ho : ops[i]? = some o) (hm : Met ops a o) (hop : o.op = .fieldAddr t x n) (hx : a.eval x = v) (hr : (Instr.fieldAt t v n).run P w = .ok r w)
    (hk : K (a.put o.dst r) w) : wpOp P ops Q i K a w := by
  refine step_run ho hm (v := r) (w' := w) ?_ hk
  simp [execOp, hop, hx, hr, Result.andThen]
theorem step_not {x : Operand} {t : TypeId} {b : Bool} (ho : ops[i]? = some o) (hm : Met ops a o) (hop : o.op = .unOp .not t x) (hx : a.eval x = .bool b)
    (hk : K (a.put o.dst (.bool (!b))) w) : wpOp P ops Q i K a w := by
  refine step_run ho hm (v := .bool (!b)) (w' := w) ?_ hk
  simp only [execOp, hop, hx]
  simp [go_sem]
end
end Go.Proofs.YtiapkindbbbdpaaDoor
