/- The contract of writes: what is compared with the reference, of at most 20 lines. -/
import Derived.Test.YtiapkindbbbdpaaGreatDoorA4
import Derived.Test.YtiapkindbbbdpaaGreatDoorR6
import Derived.Deep.RegionHeld3
namespace Go.Proofs.YtiapkindbbbdpaaGreatDoor
open Go Go.RowKit
set_option linter.unusedVariables false

abbrev WV := List Wd × Value
def LokT (B : Nat) (W : World) (A : List WV) : Prop := ∀ x ∈ A, W.ownsRow B 54 2 x.2 x.1.length (wcells x.1)
theorem LokT.on {B : Nat} {W W' : World} {A : List WV} (h : LokT B W A) (hb : Below W.heap.size W W') : LokT B W' A := fun x hx => owns_on (h x hx) hb
theorem lokT_app {B : Nat} {W w' : World} {A : List WV} {v : Value} {n : Nat} {xs : List Value} (h : LokT B W A) (hv : W.ownsRow B 48 1 v n xs) (hr : ∀ row, v.ownBlock ≠ some row → row < W.heap.size → w'.heap[row]? = W.heap[row]?) : LokT B w' A := by
  intro x hx
  refine owns_heap (h x hx) fun g cur hg _ _ => hr g ?_ (Array.getElem?_eq_some_iff.1 hg).1
  intro e
  rcases hv.2 with ⟨rfl, _⟩ | ⟨g', cap, cur', rfl, _, h3, _⟩
  · simp [Value.ownBlock] at e
  · simp [Value.ownBlock] at e
    subst e
    rw [hg] at h3
    simp at h3
theorem mrow_of {B : Nat} {W : World} {v : Value} {A : List WV} (h : LokT B W A) (hv : W.ownsRow B 48 1 v A.length (A.map (·.2))) : MRow W v (A.map (·.1)) := by
  have hv' := hv
  rcases hv.2 with ⟨h1, h2⟩ | ⟨g, cap, cur, h1, h2, h3, h4, h5, h6, h7⟩
  · exact .inl ⟨none, 0, fun _ => rfl, by rw [h1], by rw [List.eq_nil_of_length_eq_zero h2]; rfl⟩
  · refine .inr ⟨g, 0, cap, by rw [List.length_map]; exact h1, (Array.getElem?_eq_some_iff.1 h3).1, by simpa using h4, h5, fun i hi => ?_⟩
    rw [List.length_map] at hi
    refine ⟨(A[i]).2, ?_, ?_⟩
    · subst h1
      rw [Nat.zero_add, hv'.cellAt i (by omega), List.getElem?_map, List.getElem?_eq_getElem hi]; rfl
    · have := h _ (List.getElem_mem hi)
      rw [List.getElem_map]
      exact WRow.of_owned96 this
theorem info48 : (Tryz.prog.info? 48).map (fun i => (i.zero, i.size, i.bytes)) = some (some (.slice none 0 0), 1, 24) := by kernel_rfl
/-- 'append([]Word{}, words...)'. -/
theorem app_words {ops : Array Oper} {rest : List Oper} {o : Oper} {a : Act} {Q : Exit → Act → World → Prop} {w : World} (hgd : o.guard = none) (s x : Operand)
    (ho : o.op = .call { callee := .builtin .append, args := #[s, x], argTypes := #[30, 30] })
    (base : Nat) (hs : a.eval s = .slice (some ⟨w.heap.size, 0, none⟩) 0 0) (u : Value) (ws : List Wd) (hx : a.eval x = u) (hrow : WRow w u ws) (hl : ws.length ≤ 1000) (hbase : base ≤ w.heap.size)
    (h : ∀ v' w', w'.ownsRow base 29 2 v' ws.length (wcells ws) → Below base w w' → wpList Tryz.prog ops Q rest (a.put o.dst v') w') :
    wpList Tryz.prog ops Q (o :: rest) a (w.alloc (.cells #[] 29)) := by
  obtain ⟨i, hi, hz0, hz1, hz2⟩ := info_parts info31
  have hown : (w.alloc (.cells #[] 29)).ownsRow base 29 2 (.slice (some ⟨w.heap.size, 0, none⟩) 0 0) 0 [] := World.ownsRow_lit w #[] 0 hbase (by unfold maxLen; omega) rfl
  have hbase2 : base ≤ (w.alloc (.cells #[] 29)).heap.size := by simp; omega
  have hB0 : Below base w (w.alloc (.cells #[] 29)) := (Below.refl _ _).alloc hbase _
  have hone : ∀ c ∈ wcells ws, c.oneCell' = true := by
    intro c hc
    obtain ⟨p, _, hp⟩ := List.mem_flatMap.1 hc
    simp [wcell] at hp
    rcases hp with rfl | rfl <;> rfl
  have hrow2 := hrow.on ((Below.refl w.heap.size w).alloc (Nat.le_refl _) (.cells #[] 29))
  rcases hrow2 with ⟨a', c', hac, rfl, rfl⟩ | ⟨b, off, cap, rfl, hlt, h1, h2, hc⟩
  · cases a' with
    | none =>
      rw [hac rfl] at hx
      refine wpList_append_own_none hgd s x 30 ho base 29 i 2 Tryz.underlying30 hi _ 0 [] hs hown hx (h _ _ ?_ hB0)
      exact hown
    | some ad =>
      refine wpList_append_own _ hgd s x 30 ho base 29 i _ 2 24 Tryz.underlying30 hi hz0 hz1 hz2 rfl (by decide) _ 0 [] hs hown ad 0 c' [] hx (by simp) (by intro j c hj; simp at hj) (by simp) (by unfold maxLen; omega) (by omega) hbase2 ?_
      intro v' w' hown' hg _
      exact h v' w' hown' (hB0.grown hg hbase2 (fun k e' => (hown.lt k e').1))
  · refine wpList_append_own _ hgd s x 30 ho base 29 i _ 2 24 Tryz.underlying30 hi hz0 hz1 hz2 rfl (by decide) _ 0 [] hs hown ⟨b, off, none⟩ ws.length cap (wcells ws) hx (wcells_len ws) ?_ hone (by unfold maxLen; omega) (by omega) hbase2 ?_
    · intro j c hj
      rw [show (⟨b, off, none⟩ : Addr).add j = ⟨b, off + j, none⟩ by simp [Addr.add]]
      have hjl : j < ws.length * 2 := by
        rw [← wcells_len]; exact (List.getElem?_eq_some_iff.1 hj).1
      obtain ⟨k, hk⟩ : ∃ k, j = k * 2 ∨ j = k * 2 + 1 := ⟨j / 2, by omega⟩
      obtain ⟨q0, q1⟩ := hc k (by omega)
      obtain ⟨r0, r1⟩ := wcells_at ws k (by omega)
      rcases hk with rfl | rfl
      · rw [q0, ← hj, r0]
      · rw [← Nat.add_assoc, q1, ← hj, r1]
    · intro v' w' hown' hg _
      refine h v' w' ?_ (hB0.grown hg hbase2 (fun k e' => (hown.lt k e').1))
      rw [Nat.zero_add, List.nil_append] at hown'; exact hown'
theorem keep2 {W W' : World} {N : Nat} {u v : Value} (h : W.cell? ⟨N, 0, none⟩ = some u ∧ W.cell? ⟨N, 1, none⟩ = some v) (hb : Below W.heap.size W W') : W'.cell? ⟨N, 0, none⟩ = some u ∧ W'.cell? ⟨N, 1, none⟩ = some v := by
  have hN : N < W.heap.size := by obtain ⟨o, ho, _⟩ := cells_of_cell h.1; exact (Array.getElem?_eq_some_iff.1 ho).1
  exact ⟨(hb.cell (p := ⟨N, 0, none⟩) hN).trans h.1, (hb.cell (p := ⟨N, 1, none⟩) hN).trans h.2⟩
theorem below2 {W W1 W2 W3 : World} (h : Below W.heap.size W W1) (a : Below W1.drew.heap.size W1.drew W2) (b : Below W2.heap.size W2 W3) : Below W.heap.size W W3 :=
  h.drew.trans ((a.trans (b.mono a.size)).mono h.drew.size)
def WsI (w : World) (A : List WV) (n : Nat) (v : Value) (W : World) : Prop := LokT w.heap.size W A ∧ W.ownsRow w.heap.size 48 1 v n (A.map (·.2)) ∧ Below w.heap.size w W ∧ A.length = n
def Okl (ws : List Wd) : Prop := ws.length ≤ 70 ∧ ∀ p ∈ ws, p.1.length ≤ 300
theorem MRow.len_le {W : World} {v : Value} {Ls : List (List Wd)} (h : MRow W v Ls) : Ls.length ≤ 9223372036854775807 := by
  rcases h with ⟨_, _, _, _, h⟩ | ⟨b, off, cap, _, _, h1, h2, _⟩
  · rw [h]; simp
  · unfold maxLen at h2; omega
set_option maxRecDepth 100000 in
set_option maxHeartbeats 8000000 in
theorem writes_any (v : Value) (Ls : List (List Wd)) (w : World) (hv : MRow w v Ls) : Calls Tryz.prog 5 #[v] w fun e w' => e = .returned (.bool true) ∧ Below w.heap.size w w' := by
  obtain ⟨a, c, rfl⟩ := hv.shape
  have hlm := hv.len_le
  replace hv := Lib.hid hv
  have E31 := Lib.hid eq31
  by_cases h20 : 20 < Ls.length
  · have t1 : decide (20 < (Ls.length : Int)) = true := decide_eq_true (by omega)
    have t1' : decide (20 < Ls.length) = true := decide_eq_true h20
    go_enter Tryz.func5, Tryz.ntmps5
    go_wp2_with fail
    go_ret
    exact ⟨rfl, Below.refl _ _⟩
  have t1 : decide (20 < (Ls.length : Int)) = false := decide_eq_false (by omega)
  have t1' : decide (20 < Ls.length) = false := decide_eq_false h20
  have I0 : Hid (WsI w [] 0 (.slice none 0 0) w) := Lib.hid ⟨(fun x hx => by cases hx), ⟨rfl, .inl ⟨rfl, rfl⟩⟩, Below.refl _ _, rfl⟩
  go_enter Tryz.func5, Tryz.ntmps5
  go_wp2_with fail
  clear t1 t1'
  go_loopg [3, 28] (Ls.length + 1) (fun g s3 s28 wx => ∃ (i : Nat) (A : List WV), i + g = Ls.length + 1 ∧ s28 = .int .i64 i ∧ i ≤ Ls.length ∧ Hid (A.map (·.1) = Ls.take i) ∧ Hid (∀ ws ∈ Ls.take i, Okl ws) ∧ Hid (WsI w A i s3 wx))
  case atStart => exact ⟨0, [], by omega, rfl, by omega, Lib.hid rfl, Lib.hid (by simp), I0⟩
  case round =>
    clear I0
    obtain ⟨i, A, hg, rfl, hi, hA, hO, I⟩ := hrel
    obtain ⟨a3, c3, rfl⟩ := own_shape I.out.2.1
    by_cases hlt : i < Ls.length
    · have t1 : decide (i < Ls.length) = true := decide_eq_true hlt
      have t1' : decide ((i : Int) < (Ls.length : Int)) = true := decide_eq_true (by omega)
      obtain ⟨b, off, a2, c2, rfl, x0, hw⟩ := (hv.out.on I.out.2.2.1).at' i hlt
      obtain ⟨ws, hws⟩ : ∃ ws, Hid (Ls[i] = ws) := ⟨_, Lib.hid rfl⟩
      have htk : Hid (Ls.take (i + 1) = Ls.take i ++ [ws]) := by show _ = _; rw [List.take_add_one, List.getElem?_eq_getElem hlt, hws.out]; rfl
      rw [hws.out] at x0 hw
      have hwm := hw.len_le
      replace hw := Lib.hid hw
      clear hws
      by_cases h70 : 70 < ws.length
      · have t2 : decide (70 < (ws.length : Int)) = true := decide_eq_true (by omega)
        have t2' : decide (70 < ws.length) = true := decide_eq_true h70
        go_wp2_with fail
        go_ret
        exact ⟨rfl, I.out.2.2.1⟩
      have t2 : decide (70 < (ws.length : Int)) = false := decide_eq_false (by omega)
      have t2' : decide (70 < ws.length) = false := decide_eq_false h70
      go_wp2_with fail
      clear t2 t2' t1 t1' x0
      obtain ⟨wo, hwo⟩ : ∃ wo : World, wo = wr := ⟨_, rfl⟩
      subst hwo
      go_loopg [37] (ws.length + 1) (fun g s37 wx => ∃ (k : Nat), k + g = ws.length + 1 ∧ s37 = .int .i64 k ∧ k ≤ ws.length ∧ Hid (∀ p ∈ ws.take k, p.1.length ≤ 300) ∧ Hid (Below wo.heap.size wo wx))
      case atStart => exact ⟨0, by omega, rfl, by omega, Lib.hid (by simp), Lib.hid (Below.refl _ _)⟩
      case round =>
        obtain ⟨k, hg2, rfl, hk, hP, B⟩ := hrel
        by_cases hlt2 : k < ws.length
        · have t2 : decide (k < ws.length) = true := decide_eq_true hlt2
          have t2' : decide ((k : Int) < (ws.length : Int)) = true := decide_eq_true (by omega)
          obtain ⟨b2, off2, rfl, y0, y1⟩ := (hw.out.on B.out).at' k hlt2
          obtain ⟨p, hp⟩ : ∃ p, Hid (ws[k] = p) := ⟨_, Lib.hid rfl⟩
          rw [hp.out] at y0 y1
          have htk2 : Hid (ws.take (k + 1) = ws.take k ++ [p]) := by show _ = _; rw [List.take_add_one, List.getElem?_eq_getElem hlt2, hp.out]; rfl
          obtain ⟨s, hs⟩ : ∃ s : ByteArray, Hid (⟨p.1.toArray⟩ = s) := ⟨_, Lib.hid rfl⟩
          have hsl : Hid (s.size = p.1.length) := by show _ = _; rw [← hs.out, ba_size]
          rw [hs.out] at y0
          clear hp hs
          go_upto_region 12 with (fail)
          show Code.wp _ _ _ _ (wr.alloc (.cells #[.string s, .bool p.2] 29))
          have hwd := Lib.hid (wd_new wr s p.2)
          replace B := Lib.hid (B.out.alloc B.out.size (.cells #[.string s, .bool p.2] 29))
          clear y0 y1
          generalize wr.alloc (.cells #[.string s, .bool p.2] 29) = W1 at hwd B ⊢
          generalize wr.heap.size = N at hwd ⊢
          obtain ⟨⟨y0, y1⟩, _⟩ := hwd.out.cells
          by_cases h300 : 300 < s.size
          · have t3 : decide (300 < (s.size : Int)) = true := decide_eq_true (by omega)
            have t3' : decide (300 < s.size) = true := decide_eq_true h300
            go_wp2_with fail
            go_ret
            exact ⟨rfl, I.out.2.2.1.trans (B.out.mono I.out.2.2.1.size)⟩
          · have t3 : decide (300 < (s.size : Int)) = false := decide_eq_false (by omega)
            have t3' : decide (300 < s.size) = false := decide_eq_false h300
            have hP2 : Hid (∀ p ∈ ws.take (k + 1), p.1.length ≤ 300) := by
              intro p' hp'
              rw [htk2.out, List.mem_append, List.mem_singleton] at hp'
              rcases hp' with h | rfl
              · exact hP.out _ h
              · rw [← hsl.out]; omega
            clear hP htk2 hsl
            go_wp2_with fail
            go_roundg (gk - 1)
            case measure => omega
            case rel => exact ⟨k + 1, by omega, by go_num, by omega, hP2, B⟩
        · obtain rfl : k = ws.length := by omega
          have t2 : decide (ws.length < ws.length) = false := decide_eq_false (by omega)
          have t2' : decide ((ws.length : Int) < (ws.length : Int)) = false := decide_eq_false (by omega)
          have hO2 : Hid (∀ ws ∈ Ls.take (i + 1), Okl ws) := by
            intro ws' h'
            rw [htk.out, List.mem_append, List.mem_singleton] at h'
            rcases h' with h | rfl
            · exact hO.out _ h
            · refine ⟨by omega, ?_⟩
              have := hP.out
              rw [List.take_of_length_le (Nat.le_refl _)] at this
              exact this
          have htc := Lib.hid (fun (W : World) (h : Below wo.heap.size wo W) => turned_any _ ws (by omega) W (hw.out.on h))
          clear hP hO hw
          go_wp2_with fail
          refine (htc.out _ B.out).mono ?_; rintro x w2 ⟨⟨v2, rfl, J⟩, hb⟩
          clear htc
          obtain ⟨a9, c9, rfl⟩ := own_shape J
          have I2 := Lib.hid (owns_on (owns_on I.out.2.1 B.out) hb)
          have hL2 := Lib.hid ((I.out.1.on B.out).on hb)
          have B2 := Lib.hid (I.out.2.2.1.trans ((B.out.trans (hb.mono B.out.size)).mono I.out.2.2.1.size))
          have J2 := Lib.hid (owns_mono J (Nat.le_trans I.out.2.2.1.size B.out.size))
          have hBs := B2.out.size
          have hAl := I.out.2.2.2
          replace hAl := Lib.hid hAl
          have hbe : Hid (∀ W, Below w2.heap.size w2 W → w2.heap.size ≤ W.heap.size) := Lib.hid (fun W h => h.size)
          clear J hb B I
          go_wp2_with (at_builtin; go_must (refine app_one rfl (.tmp 46) (.tmp 49) 47 rfl (u := .slice a9 ws.length c9) w.heap.size (.slice none 0 0) 24 Tryz.underlying47 info48 rfl _ i _ rfl rfl I2.out rfl (by omega) (by omega) hBs ?_); rintro v6 w6 hown6' hb6 hs6 hr6 hv6; have hown6 := Lib.hid hown6'; clear hown6')
          go_roundg (Ls.length + 1 - (i + 1))
          case measure => omega
          case rel =>
            refine ⟨i + 1, A ++ [(ws, .slice a9 ws.length c9)], by omega, by go_num, by omega, ?_, hO2, Lib.hid ⟨?_, ?_, B2.out.trans hb6, ?_⟩⟩
            · exact Lib.hid (by rw [List.map_append, hA.out, htk.out]; rfl)
            · have h1 := lokT_app hL2.out I2.out hr6
              intro x hx
              rcases List.mem_append.1 hx with h | h
              · exact h1 x h
              · rw [List.mem_singleton] at h
                subst h
                have := lokT_app (A := [(ws, .slice a9 ws.length c9)]) (fun x hx => by rw [List.mem_singleton] at hx; subst hx; exact J2.out) I2.out hr6
                exact this _ (by simp)
            · have := hown6.out
              rw [List.map_append]; exact this
            · rw [List.length_append, hAl.out]; rfl
    · obtain rfl : i = Ls.length := by omega
      have t1 : decide (Ls.length < Ls.length) = false := decide_eq_false (by omega)
      have t1' : decide ((Ls.length : Int) < (Ls.length : Int)) = false := decide_eq_false (by omega)
      have hok : Hid (∀ ws ∈ Ls, Okl ws) := by
        have := hO.out
        rw [List.take_of_length_le (Nat.le_refl _)] at this
        exact Lib.hid this
      have hm : Hid (MRow wr (.slice a3 Ls.length c3) Ls) := by
        have h := I.out
        have e1 := hA.out
        rw [List.take_of_length_le (Nat.le_refl _)] at e1
        have := mrow_of h.1 (by rw [h.2.2.2]; exact h.2.1)
        rw [e1] at this
        exact Lib.hid this
      have hv2 := Lib.hid (hv.out.on I.out.2.2.1)
      have B0 := Lib.hid I.out.2.2.1
      clear hA hO I hv
      go_wp2_with fail
      clear t1 t1'
      obtain ⟨wo, hwo⟩ : ∃ wo : World, wo = wr := ⟨_, rfl⟩
      subst hwo
      go_loopg [54] (Ls.length + 1) (fun g s54 wx => ∃ (i : Nat), i + g = Ls.length + 1 ∧ s54 = .int .i64 i ∧ i ≤ Ls.length ∧ Hid (Below wo.heap.size wo wx))
      case atStart => exact ⟨0, by omega, rfl, by omega, Lib.hid (Below.refl _ _)⟩
      case round =>
        obtain ⟨i, hg2, rfl, hi2, B⟩ := hrel
        by_cases hlt : i < Ls.length
        · have t1 : decide (i < Ls.length) = true := decide_eq_true hlt
          have t1' : decide ((i : Int) < (Ls.length : Int)) = true := decide_eq_true (by omega)
          obtain ⟨b, off, a2, c2, rfl, x0, hw⟩ := (hv2.out.on B.out).at' i hlt
          obtain ⟨b4, off4, a4, c4, rfl, y0, hw4⟩ := (hm.out.on B.out).at' i hlt
          obtain ⟨ws, hws⟩ : ∃ ws, Hid (Ls[i] = ws) := ⟨_, Lib.hid rfl⟩
          have hwk := hok.out _ (List.getElem_mem hlt)
          rw [hws.out] at x0 hw y0 hw4 hwk
          obtain ⟨hw70, hw300⟩ := hwk
          have hwm := hw.len_le
          have hBs := B.out.size
          have hwr := hw
          replace hw := Lib.hid hw
          replace hw4 := Lib.hid hw4
          replace hw300 := Lib.hid hw300
          replace hwr := Lib.hid hwr
          clear hws
          go_upto_region 20 with (fail)
          go_wp2_with (at_builtin; go_must (refine app_words rfl (.tmp 59) (.tmp 60) rfl wr.heap.size rfl _ ws rfl hwr.out (by omega) (Nat.le_refl _) ?_); rintro v7 w7 hown7' hb7; have hown7 := Lib.hid hown7'; clear hown7')
          obtain ⟨a7, c7, rfl⟩ := own_shape hown7.out
          have hr7 := WRow.of_owned hown7.out
          obtain ⟨e, T, hj⟩ : ∃ e T, Hid (joinF ws = (e, T)) := ⟨_, _, Lib.hid rfl⟩
          have hsz : ∀ p ∈ ws, p.1.length ≤ 100000 := fun p hp => Nat.le_trans (hw300.out p hp) (by omega)
          have hTl : T.length ≤ 65536 := by have := joinF_len ws; rw [hj.out] at this; exact this
          have hbl : b < wr.heap.size := by obtain ⟨o, ho, _⟩ := cells_of_cell x0; exact (Array.getElem?_eq_some_iff.1 ho).1
          have hb4l : b4 < wr.heap.size := by obtain ⟨o, ho, _⟩ := cells_of_cell y0; exact (Array.getElem?_eq_some_iff.1 ho).1
          have hjc := Lib.hid (join_any _ ws (by omega) e T hsz hj.out w7 hr7)
          have hrj := Lib.hid (fun (W : World) (h : Below wr.heap.size wr W) => rjoin_any _ ws (by omega) e T hsz hj.out W (hw4.out.on h))
          have hsm := Lib.hid (fun (W : World) (h : Below wr.heap.size wr W) (h7 : Below w7.heap.size w7 W) => same_any _ _ ws ws W (hr7.on h7) (hw.out.on h))
          rw [decide_eq_true rfl] at hsm
          have hy := Lib.hid (fun (W : World) (h : Below wr.heap.size wr W) => ((h.cell (p := ⟨b4, off4 + i, none⟩) hb4l).trans y0))
          obtain ⟨u, hu⟩ : ∃ u : ByteArray, Hid (⟨T.toArray⟩ = u) := ⟨_, Lib.hid rfl⟩
          have hus : u.size ≤ 65536 := by rw [← hu.out, ba_size]; exact hTl
          unfold JRet at hjc
          unfold RJRet at hrj
          rw [hu.out] at hjc hrj
          have B7 := Lib.hid hb7
          have hq1 : (u.toList != u.toList) = false := by simp
          have hq2 : (e != e) = false := by simp
          replace hsz := Lib.hid hsz
          clear x0 y0 hr7 hown7 hb7 hj hu hTl hwr
          go_wp2_with fail
          refine (hjc.out).mono ?_; rintro x w8 ⟨rfl, hb8⟩
          have B8 := Lib.hid (B7.out.trans (hb8.mono B7.out.size))
          have y1 := hy.out _ B8.out
          have hjr := Lib.hid (hrj.out _ B8.out)
          have hb8' := Lib.hid hb8
          clear hb8 hjc hrj
          go_wp2_with fail
          refine (hjr.out).mono ?_; rintro x w9 ⟨rfl, hb9⟩
          have B9 := Lib.hid (B8.out.trans (hb9.mono B8.out.size))
          have hsr := Lib.hid (hsm.out _ B9.out (hb8'.out.trans (hb9.mono hb8'.out.size)))
          clear y1 hjr hb9 hb8' hsm
          go_wp2_with fail
          refine (hsr.out).mono ?_; rintro x w10 ⟨rfl, hb10⟩
          have BA := Lib.hid (B.out.trans ((B9.out.trans (hb10.mono B9.out.size)).mono hBs))
          have BB := Lib.hid (B9.out.trans (hb10.mono B9.out.size))
          clear hsr hb10 B7 B8 B9
          go_wp2_with fail
          obtain ⟨wp, hwp⟩ : ∃ wp : World, wp = wr := ⟨_, rfl⟩
          subst hwp
          clear hq1 hq2 hus
          go_loopg [91] (ws.length + 1) (fun g s91 wx => ∃ (k : Nat), k + g = ws.length + 1 ∧ s91 = .int .i64 k ∧ k ≤ ws.length ∧ Hid (Below wp.heap.size wp wx))
          case atStart => exact ⟨0, by omega, rfl, by omega, BB⟩
          case round =>
            clear BA BB
            obtain ⟨k, hg3, rfl, hk, BB⟩ := hrel
            by_cases hlt2 : k < ws.length
            · have t2 : decide (k < ws.length) = true := decide_eq_true hlt2
              have t2' : decide ((k : Int) < (ws.length : Int)) = true := decide_eq_true (by omega)
              obtain ⟨b2, off2, rfl, y0, y1⟩ := (hw.out.on BB.out).at' k hlt2
              obtain ⟨p, hp⟩ : ∃ p, Hid (ws[k] = p) := ⟨_, Lib.hid rfl⟩
              rw [hp.out] at y0 y1
              obtain ⟨s, hs⟩ : ∃ s : ByteArray, Hid (⟨p.1.toArray⟩ = s) := ⟨_, Lib.hid rfl⟩
              obtain ⟨q, hq⟩ : ∃ q, Hid (p.2 = q) := ⟨_, Lib.hid rfl⟩
              have hsl : s.size ≤ 100000 := by rw [← hs.out, ba_size]; exact hsz.out p (by rw [← hp.out]; exact List.getElem_mem hlt2)
              rw [hs.out] at y0
              rw [hq.out] at y1
              obtain ⟨r, hr⟩ : ∃ r, Hid (rightF s q = r) := ⟨_, Lib.hid rfl⟩
              have hc1 := Lib.hid (fun W => right_to s q (by omega) r hr.out W)
              have hc2 := Lib.hid (fun W => rright_to s q (by omega) r hr.out W)
              have hne : (r != r) = false := by simp
              clear hp hs hq hr
              go_upto_region 28 with (fail)
              show Code.wp _ _ _ _ (wr.alloc (.cells #[.string s, .bool q] 29))
              have hwd := Lib.hid (wd_new wr s q)
              replace BB := Lib.hid (BB.out.alloc BB.out.size (.cells #[.string s, .bool q] 29))
              clear y0 y1
              generalize wr.alloc (.cells #[.string s, .bool q] 29) = W1 at hwd BB ⊢
              generalize wr.heap.size = N at hwd ⊢
              obtain ⟨x01, _⟩ := hwd.out.cells
              go_region_held3 (fun w' => w'.cell? ⟨N, 0, none⟩ = some (.string s) ∧ w'.cell? ⟨N, 1, none⟩ = some (.bool q))
                (first | go_keep | (with_reducible exact keep2 (by assumption) hbA) | (with_reducible exact keep2 (by assumption) hbB) | (with_reducible exact keep2 ⟨by assumption, by assumption⟩ hbA) | (with_reducible exact keep2 ⟨by assumption, by assumption⟩ hbB))
                (first | (go_at_call 14; refine (hc1.out _).mono ?_; rintro e w2 ⟨rfl, hbA⟩) | (go_at_call 21; refine (hc2.out _).mono ?_; rintro e w2 ⟨rfl, hbB⟩))
              all_goals go_wp2_with fail
              all_goals go_roundg (gk - 1)
              case measure => omega
              case rel => exact ⟨k + 1, by omega, by go_num, by omega, by first | exact Lib.hid (below2 BB.out hbA hbB) | exact Lib.hid (below2 BB.out hbB hbA)⟩
            · obtain rfl : k = ws.length := by omega
              have t2 : decide (ws.length < ws.length) = false := decide_eq_false (by omega)
              have t2' : decide ((ws.length : Int) < (ws.length : Int)) = false := decide_eq_false (by omega)
              go_wp2_with fail
              go_roundg (Ls.length + 1 - (i + 1))
              case measure => omega
              case rel => exact ⟨i + 1, by omega, by go_num, by omega, Lib.hid (B.out.trans (BB.out.mono hBs))⟩
        · obtain rfl : i = Ls.length := by omega
          have t1 : decide (Ls.length < Ls.length) = false := decide_eq_false (by omega)
          have t1' : decide ((Ls.length : Int) < (Ls.length : Int)) = false := decide_eq_false (by omega)
          have h := hv2.out.on B.out
          have hlk : ∀ ws ∈ Ls, ws.length ≤ 1000 ∧ ∀ p ∈ ws, p.1.length ≤ 100000 := fun ws hws => ⟨Nat.le_trans (hok.out ws hws).1 (by omega), fun p hp => Nat.le_trans ((hok.out ws hws).2 p hp) (by omega)⟩
          obtain ⟨e, n, T, hW⟩ : ∃ e n T, Hid (writeF Ls = (e, n, T)) := ⟨_, _, _, Lib.hid rfl⟩
          have hwc := Lib.hid (write_to _ Ls hlk (by omega) e n T hW.out wr h)
          have hrc := Lib.hid (fun (W : World) (hb : Below wr.heap.size wr W) => rwriteL_to _ Ls hlk (by omega) e n T hW.out W ((hm.out.on B.out).on hb))
          obtain ⟨u, hu⟩ : ∃ u : ByteArray, Hid (⟨T.toArray⟩ = u) := ⟨_, Lib.hid rfl⟩
          unfold WRet at hwc hrc
          rw [hu.out] at hwc hrc
          have hq1 : (u.toList == u.toList) = true := by simp
          have hq2 : (e == e) = true := by simp
          have hq3 : (n == n) = true := by simp
          clear hu hW hlk h
          go_wp2_with fail
          refine (hwc.out).mono ?_; rintro x w3 ⟨rfl, hb3⟩
          have hrd := Lib.hid (hrc.out _ hb3)
          replace hb3 := Lib.hid hb3
          clear hwc hrc
          go_wp2_with fail
          refine (hrd.out).mono ?_; rintro x w4 ⟨rfl, hb4⟩
          replace hb4 := Lib.hid hb4
          clear hrd
          go_wp2_with fail
          go_ret
          exact ⟨rfl, B0.out.trans (((B.out.trans ((hb3.out.trans (hb4.out.mono hb3.out.size)).mono B.out.size))).mono B0.out.size)⟩
end Go.Proofs.YtiapkindbbbdpaaGreatDoor
