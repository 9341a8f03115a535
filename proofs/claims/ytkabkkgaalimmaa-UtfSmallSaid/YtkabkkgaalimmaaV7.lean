/- The contract of utf.Append over the translation. -/
import Derived.Test.YtkabkkgaalimmaaV1
import Derived.Test.YtkabkkgaalimmaaVG
import Derived.Deep.RegionLawGrows
import Derived.Deep.DeepCutAuto
import Derived.Deep.DeepMust
namespace Go.Proofs.Ytkabkkgaalimmaa
open Go.RowKit

theorem step_append_own1 {P : Program} {ops : Array Oper} {o : Oper} {a : Act} {w : World} {K : Act → World → Prop} {Q : Exit → Act → World → Prop} {E : Prop}
    (hg : o.guard = none) (s x : Operand) (t : TypeId) (hop : o.op = Op.call { callee := Callee.builtin Builtin.append, args := #[s, x], argTypes := #[t, t] })
    (e : TypeId) (i : TypeInfo) (z : Value) (bytes : Nat) (h1 : P.underlying t = some (.slice e)) (h2 : P.info? e = some i) (h3 : i.zero = some z) (h4 : i.size = 1) (h5 : i.bytes = bytes) (h6 : z.cells.size = 1)
    (base : Nat) (v : Value) (n : Nat) (xs : List Value) (hs : a.eval s = v) (u : Value) (hown : w.ownsRow base e 1 v n xs) (hx : a.eval x = .slice (some ⟨w.heap.size, 0, none⟩) 1 1) (h1c : u.oneCell' = true)
    (b1 : n + 1 ≤ maxLen) (b2 : (n + 1) * bytes ≤ 140737488355328) (hb : base ≤ w.heap.size)
    (hK : ∀ v' w', w'.ownsRow base e 1 v' (n + 1) (xs ++ [u]) → Below base w w' → w.heap.size ≤ w'.heap.size → (∃ g cap, v' = .slice (some ⟨g, 0, none⟩) (n + 1) cap) → K (a.put o.dst v') w') :
    if Region.wanted o (yielded ops a.tmps) = true then Oper.wp P o a (w.alloc (.cells #[u] e)) K Q else E := by
  have hw : Region.wanted o (yielded ops a.tmps) = true := by simp [Region.wanted, hg]
  rw [if_pos hw]
  obtain ⟨v', w', hrun, r1, r2, _⟩ := run_append_own (P := P) (w.alloc (.cells #[u] e)) base t o.type e i z 1 bytes h1 h2 h3 h4 h5 h6 (by decide) v n xs (hown.alloc _) ⟨w.heap.size, 0, none⟩ 1 1 [u] rfl (cell_one_new _ _ _) (by intro u' hu'; simp at hu'; subst hu'; exact h1c) b1 b2 (by simp; omega)
  unfold Oper.wp
  simp [execOp, hop, resolve, invoke, builtin, hs, hx, hrun, Result.andThen]
  refine hK v' w' r1 ?_ (by have := r2.size; simp at this; omega) ?_
  · refine ((Below.refl base w).alloc hb _).grown r2 (by simp; omega) (fun k e' => ?_)
    exact ((hown.alloc (.cells #[u] e)).lt k e').1
  · rcases r1.2 with ⟨rfl, h0⟩ | ⟨g, cap, cur, rfl, _⟩
    · omega
    · exact ⟨g, cap, rfl⟩

def i64w (x : Int) : Value := .int .u8 x
theorem index5 (w : World) (hd : Int) (k : Int) (h : (k = 2 ∧ hd = 192) ∨ (k = 3 ∧ hd = 224) ∨ (k = 4 ∧ hd = 240)) :
    (Instr.index 82 (.agg #[.int .u8 0, .int .u8 0, .int .u8 192, .int .u8 224, .int .u8 240]) (.int .i64 k)).run Try.prog w = .ok (.int .u8 hd) w := by
  rcases h with ⟨rfl, rfl⟩ | ⟨rfl, rfl⟩ | ⟨rfl, rfl⟩ <;> kernel_rfl

theorem info5 : (Try.prog.info? 5).map (fun i => (i.zero, i.size, i.bytes)) = some (some (.int .u8 0), 1, 1) := by kernel_rfl
theorem shift_8364_12 (w : World) : (Op.shift .shr .i64 8364 .i64 12).run Try.prog w = .ok (.int .i64 2) w := by kernel_rfl
theorem shift_8364_6 (w : World) : (Op.shift .shr .i64 8364 .i64 6).run Try.prog w = .ok (.int .i64 130) w := by kernel_rfl
theorem shift_8364_0 (w : World) : (Op.shift .shr .i64 8364 .i64 0).run Try.prog w = .ok (.int .i64 8364) w := by kernel_rfl
theorem shift_1114111_18 (w : World) : (Op.shift .shr .i64 1114111 .i64 18).run Try.prog w = .ok (.int .i64 4) w := by kernel_rfl
theorem shift_1114111_12 (w : World) : (Op.shift .shr .i64 1114111 .i64 12).run Try.prog w = .ok (.int .i64 271) w := by kernel_rfl
theorem shift_1114111_6 (w : World) : (Op.shift .shr .i64 1114111 .i64 6).run Try.prog w = .ok (.int .i64 17407) w := by kernel_rfl
theorem shift_1114111_0 (w : World) : (Op.shift .shr .i64 1114111 .i64 0).run Try.prog w = .ok (.int .i64 1114111) w := by kernel_rfl
theorem wrap_1 : IntKind.i64.wrap 1 = 1 := by decide
theorem wrap_2 : IntKind.i64.wrap 2 = 2 := by decide
theorem wrap_3 : IntKind.i64.wrap 3 = 3 := by decide
theorem wrap_12 : IntKind.i64.wrap 12 = 12 := by decide
theorem wrap_18 : IntKind.i64.wrap 18 = 18 := by decide

set_option maxRecDepth 100000 in
set_option maxHeartbeats 1000000 in
theorem append_3 (w : World) :
    Calls Try.prog 29 #[.slice none 0 0, .int .i64 8364] w fun e w' => (∃ v, e = .returned (.tuple #[v, .int .i64 0]) ∧ w'.ownsRow w.heap.size 5 1 v 3 [.int .u8 226, .int .u8 130, .int .u8 172]) ∧ Below w.heap.size w w' := by
  obtain ⟨inf, hi, hz0, hz1, hz2⟩ := info_parts info5
  go_enter Try.func29, Try.ntmps29
  go_wp2_with fail
  refine (size_yes 8364 (by decide) _).mono ?_; rintro e w1 ⟨rfl, rfl⟩
  rw [show szI 8364 = 3 by decide]
  have hix := index5 w.drew 224 3 (by omega)
  have hsh := shift_8364_12 w.drew
  have hw2 := wrap_2
  have hw12 := wrap_12
  go_upto_region 6 with (fail)
  go_region_law (refine step_append_own1 rfl (.tmp 24) (.tmp 35) 22 rfl 5 inf (.int .u8 0) 1 Try.underlying22 hi hz0 hz1 hz2 rfl w.heap.size (.slice none 0 0) 0 [] rfl (.int .u8 226) (World.ownsRow_nil w.drew _ 5 1) rfl rfl (by unfold maxLen; omega) (by omega) (by simp) ?_; intro v' w' hown hb hsz hv)
  clear hix hsh
  have hown1 := Lib.hid hown
  obtain ⟨g1, cap1, rfl⟩ := hv
  clear hown
  replace hb : Below w.heap.size w w' := (show Below w.heap.size w w.drew from (Below.refl _ _).drew).trans hb
  have hsz1 : w.heap.size ≤ w'.heap.size := by simpa using hsz
  clear hsz
  go_wp2_with fail
  refine wp_loop_rounds 3 ?_
  rw [rounds_succ]
  have s1 := shift_8364_6 w'
  have a1 : bits .and .i64 130 63 = 2 := by decide
  go_wp2_with (at_builtin; go_must (refine app_one rfl (.tmp 43) (.tmp 51) 22 rfl (u := .int .u8 130) w.heap.size (.int .u8 0) 1 Try.underlying22 info5 rfl (.slice (some ⟨g1, 0, none⟩) (0 + 1) cap1) 1 _ rfl rfl hown1.out rfl (by omega) (by omega) (by omega) ?_); rintro v2 w2 hown2' hb2 hs2 _ hv2; have hown2 := Lib.hid hown2'; clear hown2')
  replace hb := hb.trans hb2
  have hsz2 : w.heap.size ≤ w2.heap.size := Nat.le_trans hsz1 hs2
  clear s1 a1
  obtain ⟨g2, cap2, rfl⟩ := hv2
  rw [rounds_succ]
  have s2 := shift_8364_0 w2
  have a2 : bits .and .i64 8364 63 = 44 := by decide
  go_wp2_with (at_builtin; go_must (refine app_one rfl (.tmp 43) (.tmp 51) 22 rfl (u := .int .u8 172) w.heap.size (.int .u8 0) 1 Try.underlying22 info5 rfl (.slice (some ⟨g2, 0, none⟩) (1 + 1) cap2) 2 _ rfl rfl hown2.out rfl (by omega) (by omega) (by omega) ?_); rintro v3 w3 hown3' hb3 hs3 _ hv3; have hown3 := Lib.hid hown3'; clear hown3')
  replace hb := hb.trans hb3
  have hsz3 : w.heap.size ≤ w3.heap.size := Nat.le_trans hsz2 hs3
  clear s2 a2
  obtain ⟨g3, cap3, rfl⟩ := hv3
  rw [rounds_succ]
  go_wp2_with fail
  go_ret2
  exact ⟨⟨_, rfl, by simpa using hown3.out⟩, hb⟩
set_option maxRecDepth 100000 in
set_option maxHeartbeats 1000000 in
theorem append_4 (w : World) :
    Calls Try.prog 29 #[.slice none 0 0, .int .i64 1114111] w fun e w' => (∃ v, e = .returned (.tuple #[v, .int .i64 0]) ∧ w'.ownsRow w.heap.size 5 1 v 4 [.int .u8 244, .int .u8 143, .int .u8 191, .int .u8 191]) ∧ Below w.heap.size w w' := by
  obtain ⟨inf, hi, hz0, hz1, hz2⟩ := info_parts info5
  go_enter Try.func29, Try.ntmps29
  go_wp2_with fail
  refine (size_yes 1114111 (by decide) _).mono ?_; rintro e w1 ⟨rfl, rfl⟩
  rw [show szI 1114111 = 4 by decide]
  have hix := index5 w.drew 240 4 (by omega)
  have hsh := shift_1114111_18 w.drew
  have hw2 := wrap_3
  have hw12 := wrap_18
  go_upto_region 6 with (fail)
  go_region_law (refine step_append_own1 rfl (.tmp 24) (.tmp 35) 22 rfl 5 inf (.int .u8 0) 1 Try.underlying22 hi hz0 hz1 hz2 rfl w.heap.size (.slice none 0 0) 0 [] rfl (.int .u8 244) (World.ownsRow_nil w.drew _ 5 1) rfl rfl (by unfold maxLen; omega) (by omega) (by simp) ?_; intro v' w' hown hb hsz hv)
  clear hix hsh
  have hown1 := Lib.hid hown
  obtain ⟨g1, cap1, rfl⟩ := hv
  clear hown
  replace hb : Below w.heap.size w w' := (show Below w.heap.size w w.drew from (Below.refl _ _).drew).trans hb
  have hsz1 : w.heap.size ≤ w'.heap.size := by simpa using hsz
  clear hsz
  go_wp2_with fail
  refine wp_loop_rounds 4 ?_
  rw [rounds_succ]
  have s1 := shift_1114111_12 w'
  have a1 : bits .and .i64 271 63 = 15 := by decide
  go_wp2_with (at_builtin; go_must (refine app_one rfl (.tmp 43) (.tmp 51) 22 rfl (u := .int .u8 143) w.heap.size (.int .u8 0) 1 Try.underlying22 info5 rfl (.slice (some ⟨g1, 0, none⟩) (0 + 1) cap1) 1 _ rfl rfl hown1.out rfl (by omega) (by omega) (by omega) ?_); rintro v2 w2 hown2' hb2 hs2 _ hv2; have hown2 := Lib.hid hown2'; clear hown2')
  replace hb := hb.trans hb2
  have hsz2 : w.heap.size ≤ w2.heap.size := Nat.le_trans hsz1 hs2
  clear s1 a1
  obtain ⟨g2, cap2, rfl⟩ := hv2
  rw [rounds_succ]
  have s2 := shift_1114111_6 w2
  have a2 : bits .and .i64 17407 63 = 63 := by decide
  go_wp2_with (at_builtin; go_must (refine app_one rfl (.tmp 43) (.tmp 51) 22 rfl (u := .int .u8 191) w.heap.size (.int .u8 0) 1 Try.underlying22 info5 rfl (.slice (some ⟨g2, 0, none⟩) (1 + 1) cap2) 2 _ rfl rfl hown2.out rfl (by omega) (by omega) (by omega) ?_); rintro v3 w3 hown3' hb3 hs3 _ hv3; have hown3 := Lib.hid hown3'; clear hown3')
  replace hb := hb.trans hb3
  have hsz3 : w.heap.size ≤ w3.heap.size := Nat.le_trans hsz2 hs3
  clear s2 a2
  obtain ⟨g3, cap3, rfl⟩ := hv3
  rw [rounds_succ]
  have s3 := shift_1114111_0 w3
  have a3 : bits .and .i64 1114111 63 = 63 := by decide
  go_wp2_with (at_builtin; go_must (refine app_one rfl (.tmp 43) (.tmp 51) 22 rfl (u := .int .u8 191) w.heap.size (.int .u8 0) 1 Try.underlying22 info5 rfl (.slice (some ⟨g3, 0, none⟩) (2 + 1) cap3) 3 _ rfl rfl hown3.out rfl (by omega) (by omega) (by omega) ?_); rintro v4 w4 hown4' hb4 hs4 _ hv4; have hown4 := Lib.hid hown4'; clear hown4')
  replace hb := hb.trans hb4
  have hsz4 : w.heap.size ≤ w4.heap.size := Nat.le_trans hsz3 hs4
  clear s3 a3
  obtain ⟨g4, cap4, rfl⟩ := hv4
  rw [rounds_succ]
  go_wp2_with fail
  go_ret2
  exact ⟨⟨_, rfl, by simpa using hown4.out⟩, hb⟩
end Go.Proofs.Ytkabkkgaalimmaa
