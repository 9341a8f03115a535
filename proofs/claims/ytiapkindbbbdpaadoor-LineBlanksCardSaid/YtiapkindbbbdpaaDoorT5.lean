/- The contract of the function literal of LineBlanks. -/
import Derived.Test.YtiapkindbbbdpaaDoorT4
import Derived.Test.YtiapkindbbbdpaaDoorRS
namespace Go.Proofs.YtiapkindbbbdpaaDoor
open Go.RowKit
set_option linter.unusedSimpArgs false
set_option linter.unusedVariables false

/-- Blanks, one at least. -/
def blS (b : ByteArray) : Prop := 1 ≤ b.size ∧ b.size ≤ 3 ∧ ∀ c ∈ b.data.toList, c = 32 ∨ c = 9
/-- What w returns. -/
def BlRet (w : World) (e : Ending) (w' : World) : Prop := (∃ b, e = .returned (.string b) ∧ blS b) ∧ Below w.heap.size w w'
theorem bl1 : blS ⟨#[32]⟩ := by unfold blS; decide
theorem bl2 : blS ⟨#[9]⟩ := by unfold blS; decide
theorem bl3 : blS ⟨#[32, 32, 9]⟩ := by unfold blS; decide
theorem bl4 : blS ⟨#[32, 9, 32]⟩ := by unfold blS; decide
/-- The blanks of the table. -/
def blT (r : Nat) : ByteArray := if r = 0 then ⟨#[32]⟩ else if r = 1 then ⟨#[9]⟩ else if r = 2 then ⟨#[32, 32, 9]⟩ else ⟨#[32, 9, 32]⟩
def blC : Array Value := #[.string ⟨#[32]⟩, .string ⟨#[9]⟩, .string ⟨#[32, 32, 9]⟩, .string ⟨#[32, 9, 32]⟩]
def BlB (N : Nat) (W : World) : Prop := W.heap[N]? = some (.cells blC 9 (0, 0))
theorem BlB.on {N : Nat} {W W' : World} (h : BlB N W) (hb : Below W.heap.size W W') : BlB N W' := (hb.block N (Array.getElem?_eq_some_iff.1 h).1).trans h
theorem blB_cell {N : Nat} {W : World} (h : BlB N W) (r : Nat) (hr : r < 4) : W.cell? ⟨N, r, none⟩ = some (.string (blT r)) := by
  rw [Lib.cell_of_heap h]
  rcases (by omega : r = 0 ∨ r = 1 ∨ r = 2 ∨ r = 3) with rfl | rfl | rfl | rfl <;> rfl
theorem blT_ok (r : Nat) : blS (blT r) := by
  unfold blT
  split
  · exact bl1
  · split
    · exact bl2
    · split
      · exact bl3
      · exact bl4
theorem el57 : Tryd.prog.elem 57 = 5 := by kernel_rfl
theorem el46 : Tryd.prog.elem 46 = 9 := by kernel_rfl
theorem idx57 (b off n c j : Nat) (h : j < n) (w : World) : (Instr.indexAt 57 (.slice (some ⟨b, off, none⟩) n c) (.int .i64 j)).run Tryd.prog w = .ok (.pointer (some ⟨b, off + j, none⟩)) w := by
  rw [run_indexAt_slice w 57 ⟨b, off, none⟩ n c .i64 j (by rw [el57]; exact Tryd.underlying57), if_pos ⟨by omega, by omega⟩, el57, show (sizeOf 5).run Tryd.prog w = .ok 1 w by kernel_rfl]
  simp [Addr.add, Result.andThen]
theorem idx46 (b n c j : Nat) (h : j < n) (w : World) : (Instr.indexAt 46 (.slice (some ⟨b, 0, none⟩) n c) (.int .u8 j)).run Tryd.prog w = .ok (.pointer (some ⟨b, j, none⟩)) w := by
  rw [run_indexAt_slice w 46 ⟨b, 0, none⟩ n c .u8 j (by rw [el46]; exact Tryd.underlying46), if_pos ⟨by omega, by omega⟩, el46, show (sizeOf 9).run Tryd.prog w = .ok 1 w by kernel_rfl]
  simp only [Addr.add, Result.andThen, Nat.mul_one, Int.toNat_natCast, Nat.zero_add]
  split
  · rename_i e; subst e; rfl
  · rfl
theorem step_idx {P : Program} {ops : Array Oper} {Q : Exit → Act → World → Prop} {a : Act} {w : World} {K : Act → World → Prop} {i : Nat} {o : Oper} {x y : Operand} {t : TypeId} {v u r : Value} (ho : ops[i]? = some o) (hm : Met ops a o) (hop : o.op = .indexAddr t x y) (hx : a.eval x = v) (hy : a.eval y = u) (hr : (Instr.indexAt t v u).run P w = .ok r w)
    (hk : K (a.put o.dst r) w) : wpOp P ops Q i K a w := by
  refine step_run ho hm (v := r) (w' := w) ?_ hk
  simp [execOp, hop, hx, hy, hr, Result.andThen]
set_option maxRecDepth 100000 in
set_option maxHeartbeats 4000000 in
theorem bl_any (M i : Nat) (a : Option Addr) (n c : Nat) (zs : List Int) (hi : i ≤ 1000) (w : World) (hM : w.cell? ⟨M, 0, none⟩ = some (.slice a n c)) (hr : Row w (.slice a n c) (zs.map (Value.int .u8))) (hz : ∀ z ∈ zs, 0 ≤ z ∧ z < 256) :
    Calls Tryd.prog 27 #[.int .i64 i, .pointer (some ⟨M, 0, none⟩)] w (BlRet w) := by
  rcases hr with ⟨a', c', _, hv, h0⟩ | ⟨b, off, cap, hv, hb, h1, h2, hc⟩
  · obtain ⟨rfl, rfl, rfl⟩ := (Value.slice.injEq ..).mp hv
    go_enter Tryd.func27, Tryd.ntmps27
    go_wp2_with fail
    go_ret
    exact ⟨⟨_, rfl, bl1⟩, Below.refl _ _⟩
  · obtain ⟨rfl, hn, rfl⟩ := (Value.slice.injEq ..).mp hv
    rw [List.length_map] at hn h1
    subst hn
    unfold maxLen at h2
    by_cases hz0 : zs.length = 0
    · have t1 : ((zs.length : Int) == 0) = true := by rw [beq_iff_eq]; omega
      go_enter Tryd.func27, Tryd.ntmps27
      go_wp2_with fail
      go_ret
      exact ⟨⟨_, rfl, bl1⟩, Below.refl _ _⟩
    · have t1 : ((zs.length : Int) == 0) = false := by rw [beq_eq_false_iff_ne]; omega
      obtain ⟨j, hj⟩ : ∃ j, Hid (i % zs.length = j) := ⟨_, Lib.hid rfl⟩
      have hjl : j < zs.length := by rw [← hj.out]; exact Nat.mod_lt _ (by omega)
      have k1 := hc j (by rw [List.length_map]; exact hjl)
      rw [List.getElem_map] at k1
      obtain ⟨z0, hz1⟩ := hz _ (List.getElem_mem hjl)
      generalize zs[j] = z at k1 z0 hz1
      have e1 : (i : Int).tmod (zs.length : Int) = (j : Int) := by rw [← hj.out]; rfl
      obtain ⟨r, hr⟩ : ∃ r : Nat, z.tmod 4 = (r : Int) := ⟨(z.tmod 4).toNat, by rw [Int.tmod_eq_emod_of_nonneg z0]; omega⟩
      have hr4 : r < 4 := by rw [Int.tmod_eq_emod_of_nonneg z0] at hr; omega
      have hmx : zs.length ≤ 9223372036854775807 := by omega
      have u1 : decide (j < zs.length) = true := decide_eq_true hjl
      have hMl : M < w.heap.size := by
        rcases Nat.lt_or_ge M w.heap.size with h | h
        · exact h
        · unfold World.cell? at hM
          rw [Array.getElem?_eq_none h] at hM
          cases hM
      clear hv hj hc hz
      go_enter Tryd.func27, Tryd.ntmps27
      go_upto_region 3 with (fail)
      refine wp_region_facts (fun ix v W => match ix with | 0 => (∃ N, v = .slice (some ⟨N, 0, none⟩) 4 4 ∧ BlB N W) | 1 => v = .slice (some ⟨b, off, none⟩) zs.length c | 2 => v = .int .i64 i | 3 => v = .slice (some ⟨b, off, none⟩) zs.length c | 4 => v = .int .i64 zs.length | 5 => v = .int .i64 j | 6 => v = .pointer (some ⟨b, off + j, none⟩) | 7 => v = .int .u8 z | 8 => v = .int .u8 r | 9 => (∃ N, v = .pointer (some ⟨N, r, none⟩) ∧ BlB N W) | 10 => v = .string (blT r) | _ => v = .string (blT r))
        (by kernel_rfl) (by kernel_rfl) (by decide +kernel) (by kernel_rfl) (by intro ix v A B h hb; rcases ix with _ | _ | _ | _ | _ | _ | _ | _ | _ | _ | _ | ix <;> first | exact h | (obtain ⟨N, e, g⟩ := h; exact ⟨N, e, g.on hb⟩)) ?_ ?_
      · intro ix
        rcases ix with _ | _ | _ | _ | _ | _ | _ | _ | _ | _ | _ | _ | ix
        all_goals intro o ho a wa hba hout hsz hpre
        all_goals cases ho
        all_goals have q0 : a.tmps.getD 0 undef = .int .i64 i := (hout 0 (by decide +kernel)).trans rfl
        all_goals have q1 : a.tmps.getD 1 undef = .pointer (some ⟨M, 0, none⟩) := (hout 1 (by decide +kernel)).trans rfl
        all_goals clear hout hsz
        · refine step_run rfl (met_none rfl) (v := .slice (some ⟨wa.heap.size, 0, none⟩) 4 4) (w' := wa.alloc (.cells blC 9)) (by simp [execOp, go_sem, blC]) ⟨_, rfl, (Below.refl _ _).alloc (Nat.le_refl _) _, _, rfl, World.alloc_heap_new _ _⟩
        · have hm := (hba.cell (p := ⟨M, 0, none⟩) hMl).trans hM
          exact step_load rfl (met_none rfl) rfl q1 (by simp [go_sem, hm]) ⟨_, rfl, Below.refl _ _, rfl⟩
        · exact step_move rfl (met_none rfl) (.inl rfl) ⟨_, rfl, Below.refl _ _, q0⟩
        · have hm := (hba.cell (p := ⟨M, 0, none⟩) hMl).trans hM
          exact step_load rfl (met_none rfl) rfl q1 (by simp [go_sem, hm]) ⟨_, rfl, Below.refl _ _, rfl⟩
        · have p10 : a.tmps.getD 10 undef = .slice (some ⟨b, off, none⟩) zs.length c := hpre ⟨3, .data⟩ (by simp) rfl _ rfl
          exact step_len_slice Tryd.underlying57 rfl (met_none rfl) rfl p10 ⟨_, rfl, Below.refl _ _, rfl⟩
        · have p9 : a.tmps.getD 9 undef = .int .i64 i := hpre ⟨2, .data⟩ (by simp) rfl _ rfl
          have p11 : a.tmps.getD 11 undef = .int .i64 zs.length := hpre ⟨4, .data⟩ (by simp) rfl _ rfl
          exact step_bin rfl (met_none rfl) rfl p9 p11 (r := .int .i64 j) (w' := wa) (by simp [go_sem, hz0, e1]) ⟨_, rfl, Below.refl _ _, rfl⟩
        · have p8 : a.tmps.getD 8 undef = .slice (some ⟨b, off, none⟩) zs.length c := hpre ⟨1, .data⟩ (by simp) rfl _ rfl
          have p12 : a.tmps.getD 12 undef = .int .i64 j := hpre ⟨5, .data⟩ (by simp) rfl _ rfl
          exact step_idx rfl (met_none rfl) rfl p8 p12 (idx57 _ _ _ _ _ hjl _) ⟨_, rfl, Below.refl _ _, rfl⟩
        · have p13 : a.tmps.getD 13 undef = .pointer (some ⟨b, off + j, none⟩) := hpre ⟨6, .data⟩ (by simp) rfl _ rfl
          have hm := (hba.cell (p := ⟨b, off + j, none⟩) hb).trans k1
          exact step_load rfl (met_none rfl) rfl p13 (by simp [go_sem, hm]) ⟨_, rfl, Below.refl _ _, rfl⟩
        · have p14 : a.tmps.getD 14 undef = .int .u8 z := hpre ⟨7, .data⟩ (by simp) rfl _ rfl
          exact step_bin rfl (met_none rfl) rfl p14 rfl (r := .int .u8 r) (w' := wa) (by simp [go_sem, hr]) ⟨_, rfl, Below.refl _ _, rfl⟩
        · have p7 : (∃ N, (a.tmps.getD 7 undef) = .slice (some ⟨N, 0, none⟩) 4 4 ∧ BlB N wa) := hpre ⟨0, .data⟩ (by simp) rfl _ rfl
          have p15 : a.tmps.getD 15 undef = .int .u8 r := hpre ⟨8, .data⟩ (by simp) rfl _ rfl
          obtain ⟨N, hn1, hn2⟩ := p7
          exact step_idx rfl (met_none rfl) rfl hn1 p15 (idx46 _ _ _ _ hr4 _) ⟨_, rfl, Below.refl _ _, N, rfl, hn2⟩
        · have p16 : (∃ N, (a.tmps.getD 16 undef) = .pointer (some ⟨N, r, none⟩) ∧ BlB N wa) := hpre ⟨9, .data⟩ (by simp) rfl _ rfl
          obtain ⟨N, hn1, hn2⟩ := p16
          have hm := blB_cell hn2 r hr4
          exact step_load rfl (met_none rfl) rfl hn1 (by simp [go_sem, hm]) ⟨_, rfl, Below.refl _ _, rfl⟩
        · have p17 : a.tmps.getD 17 undef = .string (blT r) := hpre ⟨10, .data⟩ (by simp) rfl _ rfl
          exact step_move rfl (met_none rfl) (.inr rfl) ⟨_, rfl, Below.refl _ _, p17⟩
      · intro a wa hba hF ha
        have f0 : (∃ N, (a.tmps.getD 7 undef) = .slice (some ⟨N, 0, none⟩) 4 4 ∧ BlB N wa) := hF 0 _ rfl
        have f1 : a.tmps.getD 8 undef = .slice (some ⟨b, off, none⟩) zs.length c := hF 1 _ rfl
        have f2 : a.tmps.getD 9 undef = .int .i64 i := hF 2 _ rfl
        have f3 : a.tmps.getD 10 undef = .slice (some ⟨b, off, none⟩) zs.length c := hF 3 _ rfl
        have f4 : a.tmps.getD 11 undef = .int .i64 zs.length := hF 4 _ rfl
        have f5 : a.tmps.getD 12 undef = .int .i64 j := hF 5 _ rfl
        have f6 : a.tmps.getD 13 undef = .pointer (some ⟨b, off + j, none⟩) := hF 6 _ rfl
        have f7 : a.tmps.getD 14 undef = .int .u8 z := hF 7 _ rfl
        have f8 : a.tmps.getD 15 undef = .int .u8 r := hF 8 _ rfl
        have f9 : (∃ N, (a.tmps.getD 16 undef) = .pointer (some ⟨N, r, none⟩) ∧ BlB N wa) := hF 9 _ rfl
        have f10 : a.tmps.getD 17 undef = .string (blT r) := hF 10 _ rfl
        have f11 : a.tmps.getD 3 undef = .string (blT r) := hF 11 _ rfl
        clear hF
        obtain ⟨fv0, hu0⟩ : ∃ u, u = a.tmps.getD 7 undef := ⟨_, rfl⟩
        rw [← hu0] at f0
        obtain ⟨fv9, hu9⟩ : ∃ u, u = a.tmps.getD 16 undef := ⟨_, rfl⟩
        rw [← hu9] at f9
        simp only [List.foldl, fillFrom, ← hu0, f1, f2, f3, f4, f5, f6, f7, f8, ← hu9, f10, f11] at ha
        clear f1 f2 f3 f4 f5 f6 f7 f8 f10 f11 hu0 hu9
        subst ha
        simp only [Act.put, List.setIfInBounds_toArray, List.set_cons_succ, List.set_cons_zero]
        go_wp2_with fail
        go_ret
        exact ⟨⟨_, rfl, blT_ok r⟩, hba⟩
end Go.Proofs.YtiapkindbbbdpaaDoor
