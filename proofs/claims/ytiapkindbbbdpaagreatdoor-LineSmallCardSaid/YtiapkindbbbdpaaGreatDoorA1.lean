/- The contract of gaugerref22.Write in the quoted form. -/
import Derived.Test.YtiapkindbbbdpaaGreatDoorR2
import Derived.Test.YtiapkindbbbdpaaGreatDoorQ1
import Derived.Lib.AppendStr
namespace Go.Proofs.YtiapkindbbbdpaaGreatDoor
open Go Go.RowKit
set_option linter.unusedVariables false

theorem row_lit2 (w : World) (e : TypeId) (u1 u2 : Value) : Row (w.alloc (.cells #[u1, u2] e)) (.slice (some ⟨w.heap.size, 0, none⟩) 2 2) [u1, u2] := by
  refine .inr ⟨w.heap.size, 0, 2, rfl, by simp, Nat.le_refl _, by unfold maxLen; omega, fun i hi => ?_⟩
  have hi : i < 2 := hi
  rcases (by omega : i = 0 ∨ i = 1) with rfl | rfl <;> simp [World.cell?, World.alloc, -World.alloc_eq]
/-- 'append(out, x, y)': out the call's own. -/
theorem app_two {P : Program} {ops : Array Oper} {rest : List Oper} {o : Oper} {a : Act} {Q : Exit → Act → World → Prop} {w : World} (hgd : o.guard = none) (s x : Operand) (t : TypeId)
    (ho : o.op = .call { callee := .builtin .append, args := #[s, x], argTypes := #[t, t] })
    {e : TypeId} {u1 u2 : Value} (base : Nat) (z : Value) (bytes : Nat) (ht : P.underlying t = some (.slice e)) (hinfo : (P.info? e).map (fun i => (i.zero, i.size, i.bytes)) = some (some z, 1, bytes)) (hzs : z.cells.size = 1)
    (v : Value) (n : Nat) (xs : List Value) (hs : a.eval s = v) (hx : a.eval x = .slice (some ⟨w.heap.size, 0, none⟩) 2 2) (hown : w.ownsRow base e 1 v n xs) (hu1 : u1.oneCell' = true) (hu2 : u2.oneCell' = true)
    (hb1 : 1 ≤ bytes) (hbytes : (n + 2) * bytes ≤ 140737488355328) (hbase : base ≤ w.heap.size)
    (h : ∀ v' w', w'.ownsRow base e 1 v' (n + 2) (xs ++ [u1, u2]) → Below base w w' → (∃ a c, v' = .slice a (n + 2) c) → wpList P ops Q rest (a.put o.dst v') w') :
    wpList P ops Q (o :: rest) a (w.alloc (.cells #[u1, u2] e)) := by
  refine app_all hgd s x t ho base e z bytes ht hinfo hzs v n xs hs _ [u1, u2] hx (hown.alloc _) (row_lit2 w e u1 u2) (by intro c hc; simp at hc; rcases hc with rfl | rfl <;> assumption) hb1 hbytes (by simp; omega) ?_
  intro v' w' h1 h2 _ _
  exact h v' w' h1 (((Below.refl base w).alloc hbase _).trans h2) (own_shape h1)
/-- 'append(out, s...)' of a string: out the call's own. -/
theorem app_str {P : Program} {ops : Array Oper} {rest : List Oper} {o : Oper} {a : Act} {Q : Exit → Act → World → Prop} {w : World} (hgd : o.guard = none) (sl x : Operand) (t u : TypeId)
    (ho : o.op = .call { callee := .builtin .append, args := #[sl, x], argTypes := #[t, u] })
    (base : Nat) (e : TypeId) (ht : P.underlying t = some (.slice e)) (hu : P.underlying u = some .string) (hinfo : (P.info? e).map (fun i => (i.zero, i.size, i.bytes)) = some (some (.int .u8 0), 1, 1))
    (v : Value) (n : Nat) (l : List UInt8) (hs : a.eval sl = v) (hown : w.ownsRow base e 1 v n (l.map enc8)) (s : ByteArray) (hx : a.eval x = .string s)
    (hbytes : n + s.size ≤ 140737488355328) (hbase : base ≤ w.heap.size)
    (h : ∀ v' w', w'.ownsRow base e 1 v' (n + s.size) ((l ++ s.data.toList).map enc8) → Below base w w' → (∃ a c, v' = .slice a (n + s.size) c) → wpList P ops Q rest (a.put o.dst v') w') : wpList P ops Q (o :: rest) a w := by
  obtain ⟨i, hi, hz0, hz1, hz2⟩ := info_parts hinfo
  refine Lib.wpList_append_own_string w hgd sl x t u ho base e i ht hu hi hz0 hz1 hz2 v n _ hs hown s hx (by unfold maxLen; omega) hbytes hbase ?_
  intro v' w' h1 h2 _
  have hc : Lib.strCells s = s.data.toList.map enc8 := by
    rfl
  rw [hc, ← List.map_append] at h1
  exact h v' w' h1 ((Below.refl base w).grown h2 hbase (fun k e' => (hown.lt k e').1)) (own_shape h1)
theorem quL_next (l : List UInt8) (i : Nat) (c : UInt8) (h : i < l.length) (hc : l.getD i 0 = c) : quL (l.take (i + 1)) = quL (l.take i) ++ encq c := by
  unfold quL
  rw [List.take_add_one, List.getElem?_eq_getElem h, List.flatMap_append]
  rw [List.getD_eq_getElem?_getD, List.getElem?_eq_getElem h, Option.getD_some] at hc
  rw [hc]
  simp
theorem encq_le (c : UInt8) : (encq c).length ≤ 2 := by
  unfold encq
  (repeat' split) <;> simp
set_option maxRecDepth 100000 in
set_option maxHeartbeats 2000000 in
theorem rwrite_any (s : ByteArray) (hs : s.size ≤ 65536) (w : World) :
    Calls Tryz.prog 44 #[.string s, .int .i64 2] w fun r w' => r = .returned (.tuple #[.string ⟨(34 :: quL s.data.toList ++ [34]).toArray⟩, .int .i64 0]) ∧ Below w.heap.size w w' := by
  have hz : Hid (s.data.toList.length = s.size) := by show _ = _; simp
  have t0 : decide (65536 < (s.size : Int)) = false := decide_eq_false (by omega)
  have I0 : Hid (w.ownsRow w.heap.size 5 1 (.slice none 0 0) 0 (([] : List UInt8).map enc8)) := ⟨rfl, .inl ⟨rfl, rfl⟩⟩
  obtain ⟨E, hE⟩ : ∃ E : ByteArray, Hid (⟨(34 :: quL s.data.toList ++ [34]).toArray⟩ = E) := ⟨_, Lib.hid rfl⟩
  rw [hE.out]
  go_enter Tryz.func44, Tryz.ntmps44
  go_wp2_with (at_builtin; go_must (refine app_one rfl (.tmp 13) (.tmp 14) 27 rfl (u := .int .u8 34) w.heap.size (.int .u8 0) 1 Tryz.underlying27 info5r rfl _ 0 _ rfl rfl I0.out rfl (by omega) (by omega) (Nat.le_refl _) ?_); rintro v2 w3 hown2' hb2 hs2 _ hv3; have hown2 := Lib.hid hown2'; clear hown2')
  go_loopg [6, 7] (s.size + 1) (fun g s6 s7 wx => ∃ (i : Nat) (acc : List UInt8), i + g = s.size + 1 ∧ i ≤ s.size ∧ acc.length ≤ 2 * i + 1 ∧ s7 = .int .i64 i ∧ Hid (acc = 34 :: quL (s.data.toList.take i)) ∧ Hid (wx.ownsRow w.heap.size 5 1 s6 acc.length (acc.map enc8)) ∧ Hid (Below w.heap.size w wx))
  case atStart => exact ⟨0, [34], by omega, by omega, by simp, rfl, Lib.hid rfl, hown2, Lib.hid hb2⟩
  case round =>
    clear I0 t0 hown2 hb2
    obtain ⟨i, acc, hg, hi, hal, rfl, hA, I, B⟩ := hrel
    obtain ⟨a6, c6, rfl⟩ := own_shape I.out
    have hBs := B.out.size
    by_cases hlt : i < s.size
    · have t1 : decide (i < s.size) = true := decide_eq_true hlt
      have hli : i < s.data.toList.length := by rw [hz.out]; exact hlt
      obtain ⟨c, hc, hB⟩ := byt_u s i hlt
      have hq := Lib.hid (quL_next _ i c hli hc.out)
      by_cases g1 : c = 92
      · subst g1
        rw [show (((92 : UInt8).toNat : Int)) = 92 from rfl] at hB
        have hA2 : Hid (acc ++ [92, 92] = 34 :: quL (s.data.toList.take (i + 1))) := by show _ = _; rw [hq.out, hA.out]; rfl
        clear hA hq hc
        go_wp2_with (at_builtin; go_must (refine app_two rfl (.tmp 36) (.tmp 40) 27 rfl (u1 := .int .u8 92) (u2 := .int .u8 92) w.heap.size (.int .u8 0) 1 Tryz.underlying27 info5r rfl _ acc.length _ rfl rfl I.out rfl rfl (by omega) (by omega) hBs ?_); rintro v2 w3 hown2' hb2 hv3; have hown2 := Lib.hid hown2'; clear hown2')
        go_roundg (gk - 1)
        case measure => omega
        case rel => exact ⟨i + 1, acc ++ [92, 92], by omega, by omega, by simp; omega, by go_num, hA2, by have := hown2.out; rw [List.map_append, List.length_append]; exact Lib.hid this, Lib.hid (B.out.trans hb2)⟩
      · by_cases g2 : c = 34
        · subst g2
          rw [show (((34 : UInt8).toNat : Int)) = 34 from rfl] at hB
          have hA2 : Hid (acc ++ [92, 34] = 34 :: quL (s.data.toList.take (i + 1))) := by show _ = _; rw [hq.out, hA.out]; rfl
          clear hA hq hc
          go_wp2_with (at_builtin; go_must (refine app_two rfl (.tmp 36) (.tmp 40) 27 rfl (u1 := .int .u8 92) (u2 := .int .u8 34) w.heap.size (.int .u8 0) 1 Tryz.underlying27 info5r rfl _ acc.length _ rfl rfl I.out rfl rfl (by omega) (by omega) hBs ?_); rintro v2 w3 hown2' hb2 hv3; have hown2 := Lib.hid hown2'; clear hown2')
          go_roundg (gk - 1)
          case measure => omega
          case rel => exact ⟨i + 1, acc ++ [92, 34], by omega, by omega, by simp; omega, by go_num, hA2, by have := hown2.out; rw [List.map_append, List.length_append]; exact Lib.hid this, Lib.hid (B.out.trans hb2)⟩
        · have s1 : ((c.toNat : Int) == 92) = false := ne_byt c 92 _ rfl g1
          have s2 : ((c.toNat : Int) == 34) = false := ne_byt c 34 _ rfl g2
          by_cases g3 : c = 10
          · subst g3
            rw [show (((10 : UInt8).toNat : Int)) = 10 from rfl] at hB s1 s2
            have hA2 : Hid (acc ++ [92, 110] = 34 :: quL (s.data.toList.take (i + 1))) := by show _ = _; rw [hq.out, hA.out]; rfl
            clear hA hq hc
            go_wp2_with (at_builtin; go_must (refine app_two rfl (.tmp 46) (.tmp 47) 27 rfl (u1 := .int .u8 92) (u2 := .int .u8 110) w.heap.size (.int .u8 0) 1 Tryz.underlying27 info5r rfl _ acc.length _ rfl rfl I.out rfl rfl (by omega) (by omega) hBs ?_); rintro v2 w3 hown2' hb2 hv3; have hown2 := Lib.hid hown2'; clear hown2')
            go_roundg (gk - 1)
            case measure => omega
            case rel => exact ⟨i + 1, acc ++ [92, 110], by omega, by omega, by simp; omega, by go_num, hA2, by have := hown2.out; rw [List.map_append, List.length_append]; exact Lib.hid this, Lib.hid (B.out.trans hb2)⟩
          · have s3 : ((c.toNat : Int) == 10) = false := ne_byt c 10 _ rfl g3
            have hA2 : Hid (acc ++ [c] = 34 :: quL (s.data.toList.take (i + 1))) := by show _ = _; rw [hq.out, hA.out]; unfold encq; rw [if_neg g1, if_neg g3, if_neg g2]; rfl
            clear hA hq hc
            go_wp2_with (at_builtin; go_must (refine app_one rfl (.tmp 49) (.tmp 53) 27 rfl (u := .int .u8 (c.toNat : Int)) w.heap.size (.int .u8 0) 1 Tryz.underlying27 info5r rfl _ acc.length _ rfl rfl I.out rfl (by omega) (by omega) hBs ?_); rintro v2 w3 hown2' hb2 hs2 _ hv3; have hown2 := Lib.hid hown2'; clear hown2')
            go_roundg (gk - 1)
            case measure => omega
            case rel => exact ⟨i + 1, acc ++ [c], by omega, by omega, by simp; omega, by go_num, hA2, by have := hown2.out; rw [List.map_append, List.length_append]; exact Lib.hid this, Lib.hid (B.out.trans hb2)⟩
    · obtain rfl : i = s.size := by omega
      have t1 : decide (s.size < s.size) = false := decide_eq_false (by omega)
      have hA2 : Hid (⟨(acc ++ [34]).toArray⟩ = E) := by
        show _ = _
        rw [← hE.out, hA.out, List.take_of_length_le (by rw [hz.out]; exact Nat.le_refl _)]
      go_wp2_with (at_builtin; go_must (refine app_one rfl (.tmp 57) (.tmp 58) 27 rfl (u := .int .u8 34) w.heap.size (.int .u8 0) 1 Tryz.underlying27 info5r rfl _ acc.length _ rfl rfl I.out rfl (by omega) (by omega) hBs ?_); rintro v2 w3 hown2' hb2 hs2 _ hv3; have hown2 := Lib.hid hown2'; clear hown2')
      obtain ⟨g, c3, rfl⟩ := hv3
      have hcv : (convert 27 9 (.slice (some ⟨g, 0, none⟩) (acc.length + 1) c3)).run Tryz.prog w3 = .ok (.string E) w3 := by
        have h1 : w3.ownsRow w.heap.size 5 1 (.slice (some ⟨g, 0, none⟩) (acc.length + 1) c3) (acc.length + 1) ((acc ++ [34]).map enc8) := by
          have := hown2.out
          rw [List.map_append]
          exact this
        have := conv_owned Tryz.underlying27 Tryz.underlying5 Tryz.underlying9 h1
        rw [hA2.out] at this
        exact this
      have hbf := Lib.hid (B.out.trans hb2)
      clear hA hA2 I hown2 hb2
      go_wp2_with fail
      rw [hcv]
      simp only [Result.andThen_ok]
      go_wp2_with fail
      go_ret2
      exact ⟨rfl, hbf.out⟩
end Go.Proofs.YtiapkindbbbdpaaGreatDoor
