/- The contract of gaugerref25.Split over the translation. -/
import Derived.Test.YtiapkindbbbdpaaGreatDoorR3
namespace Go.Proofs.YtiapkindbbbdpaaGreatDoor
open Go.RowKit

theorem trim_at (l : List UInt8) (j : Nat) (h : blF l j = true) : j < l.length ∧ Lib.trimLeftS (l.drop j) [32, 9] = Lib.trimLeftS (l.drop (j + 1)) [32, 9] := by
  unfold blF at h
  rw [Bool.and_eq_true] at h
  have hj : j < l.length := by simpa using h.1
  refine ⟨hj, ?_⟩
  rw [drop_cons l j hj]
  unfold Lib.trimLeftS
  rw [List.dropWhile_cons, if_pos]
  have h2 := h.2
  rw [Bool.or_eq_true, beq_iff_eq, beq_iff_eq] at h2
  rcases h2 with e | e <;> rw [e] <;> decide
theorem trim_stop (l : List UInt8) (j : Nat) (h : blF l j = false) : Lib.trimLeftS (l.drop j) [32, 9] = l.drop j := by
  rcases Nat.lt_or_ge j l.length with hj | hj
  · unfold blF at h
    rw [decide_eq_true hj, Bool.true_and] at h
    rw [drop_cons l j hj]
    unfold Lib.trimLeftS
    rw [List.dropWhile_cons, if_neg]
    rw [Bool.or_eq_false_iff, beq_eq_false_iff_ne, beq_eq_false_iff_ne] at h
    intro hc
    simp at hc
    rcases hc with e | e
    · exact h.1 e
    · exact h.2 e
  · rw [List.drop_of_length_le hj]; rfl
theorem info96 : (Tryz.prog.info? 54).map (fun i => (i.zero, i.size, i.bytes)) = some (some (.agg #[.string ⟨#[]⟩, .bool false]), 2, 24) := by kernel_rfl
theorem quF_two (l : List UInt8) (h : (quF l).1 = 0) : 2 ≤ (quF l).2.2 := by
  unfold quF at h ⊢
  split
  · simp
  · rename_i g; rw [if_neg g] at h; exact absurd h g
theorem wcells_snoc (ws : List Wd) (t : List UInt8) (q : Bool) : wcells (ws ++ [(t, q)]) = wcells ws ++ #[Value.string ⟨t.toArray⟩, .bool q].toList := by simp [wcells, wcell]
/-- A word of the reference in a block of its own. -/
def WdR (W : World) (b : Nat) (t : ByteArray) (q : Bool) : Prop := W.heap[b]? = some (.cells #[.string t, .bool q] 54 (0, 0))
theorem WdR.cells {W : World} {b : Nat} {t : ByteArray} {q : Bool} (h : WdR W b t q) : (W.cell? ⟨b, 0, none⟩ = some (.string t) ∧ W.cell? ⟨b, 1, none⟩ = some (.bool q)) ∧ W.frozen? ⟨b, 0, none⟩ = false ∧ W.frozen? ⟨b, 1, none⟩ = false := by
  rw [Lib.cell_of_heap h, Lib.cell_of_heap h]
  exact ⟨⟨rfl, rfl⟩, Lib.frozen_of_heap h 0, Lib.frozen_of_heap h 1⟩
theorem WdR.block {W W' : World} {b : Nat} {t : ByteArray} {q : Bool} (h : WdR W b t q) (hb : Below W.heap.size W W') : WdR W' b t q := (hb.block b (Array.getElem?_eq_some_iff.1 h).1).trans h
theorem WdR.res {W : World} {b : Nat} {t : ByteArray} {q : Bool} (h : WdR W b t q) (t2 : ByteArray) (q2 : Bool) : WdR (resW W b (.string t2) (.bool q2)) b t2 q2 := by
  unfold WdR resW World.setCell at *
  simp [Array.getElem?_modify, h]
theorem WdR.set0 {W : World} {b : Nat} {t : ByteArray} {q : Bool} (h : WdR W b t q) (t2 : ByteArray) : WdR (W.setCell ⟨b, 0, none⟩ (.string t2)) b t2 q := by
  unfold WdR World.setCell at *
  simp [Array.getElem?_modify, h]
theorem wdR_new (W : World) (t : ByteArray) (q : Bool) : WdR (W.alloc (.cells #[.string t, .bool q] 54)) W.heap.size t q := World.alloc_heap_new _ _
theorem WdR.lt {W : World} {b : Nat} {t : ByteArray} {q : Bool} (h : WdR W b t q) : b < W.heap.size := (Array.getElem?_eq_some_iff.1 h).1
/-- An owned row stays where another block of another type is written. -/
theorem owns_other {W : World} {base e k n c o : Nat} {v u : Value} {xs : List Value} (h : W.ownsRow base e k v n xs) (hne : v.ownBlock ≠ some c) : (W.setCell ⟨c, o, none⟩ u).ownsRow base e k v n xs :=
  owns_heap h fun g _ _ _ hv => Below.heap_setCell W ⟨c, o, none⟩ u g (show ¬ g = c by intro e; subst e; exact hne hv)
theorem own_lt {W : World} {base e k n : Nat} {v : Value} {xs : List Value} (h : W.ownsRow base e k v n xs) : ∀ g, v.ownBlock = some g → g < W.heap.size := by
  rcases h.2 with ⟨rfl, _⟩ | ⟨g', cap, cur, rfl, _, h3, _⟩
  · intro g hg; simp [Value.ownBlock] at hg
  · intro g hg
    simp [Value.ownBlock] at hg
    subst hg
    exact (Array.getElem?_eq_some_iff.1 h3).1
theorem endsF_drop (l : List UInt8) (j k : Nat) (h : j ≤ k) : endsF (l.drop j) (k - j) = endsF l k := by
  unfold endsF
  rw [List.length_drop, List.getD_eq_getElem?_getD, List.getElem?_drop, Nat.add_sub_cancel' h, ← List.getD_eq_getElem?_getD]
  congr 1
  exact decide_eq_decide.2 (by omega)
theorem blF_end (l : List UInt8) (k : Nat) : endsF l k = (decide (l.length ≤ k) || blF l k || l.getD k 0 == 35) := by
  unfold endsF blF endc
  rcases Nat.lt_or_ge k l.length with h | h
  · rw [decide_eq_true h, Bool.true_and]; simp only [Bool.or_assoc]
  · rw [decide_eq_true h]; rfl
set_option maxRecDepth 100000 in
set_option maxHeartbeats 4000000 in
theorem rsplit_any (s : ByteArray) (e : Int) (ws0 : List Wd) (h : splitF s.data.toList = (e, ws0)) (w : World) (hs0 : s.size ≤ 4611686018427387904) :
    Calls Tryz.prog 24 #[.string s] w fun x w' => (∃ v, x = .returned (.tuple #[v, .int .i64 e]) ∧ w'.ownsRow w.heap.size 54 2 v ws0.length (wcells ws0)) ∧ Below w.heap.size w w' := by
  have hz : Hid (s.data.toList.length = s.size) := by show _ = _; simp
  unfold splitF at h
  rw [hz.out] at h
  by_cases hl : 65536 < s.size
  · rw [if_pos hl] at h
    simp only [Prod.mk.injEq] at h
    obtain ⟨rfl, rfl⟩ := h
    have t1 : decide (65536 < (s.size : Int)) = true := decide_eq_true (by omega)
    go_enter Tryz.func24, Tryz.ntmps24
    go_wp2_with fail
    go_ret2
    exact ⟨⟨_, rfl, ⟨rfl, .inl ⟨rfl, rfl⟩⟩⟩, Below.refl _ _⟩
  · rw [if_neg hl] at h
    have t0 : decide (65536 < (s.size : Int)) = false := decide_eq_false (by omega)
    have I0 : Hid (w.ownsRow w.heap.size 54 2 (.slice none 0 0) 0 (wcells [])) := ⟨rfl, .inl ⟨rfl, rfl⟩⟩
    replace h := Lib.hid h
    go_enter Tryz.func24, Tryz.ntmps24
    go_wp2_with fail
    go_loopg [4, 5] (s.size + 1) (fun g s4 s5 wx => ∃ (i : Nat) (ws : List Wd), s5 = .int .i64 i ∧ i ≤ s.size ∧ s.size - i < g ∧ ws.length ≤ 64 ∧ Hid (splitN g (s.data.toList.drop i) ws = (e, ws0)) ∧ Hid (wx.ownsRow w.heap.size 54 2 s4 ws.length (wcells ws)) ∧ Hid (Below w.heap.size w wx))
    case atStart => exact ⟨0, [], rfl, by omega, by omega, by simp, h, I0, Below.refl _ _⟩
    case round =>
      clear h I0 t0
      obtain ⟨i, ws, rfl, hi, hg, hw64, hR, I, B⟩ := hrel
      obtain ⟨g, rfl⟩ : ∃ g, gk = g + 1 := ⟨gk - 1, by omega⟩
      obtain ⟨l2, hl2⟩ : ∃ l2, Hid (Lib.trimLeftS (s.data.toList.drop i) [32, 9] = l2) := ⟨_, Lib.hid rfl⟩
      go_wp2_with fail
      go_loop [5] (fun s5 => ∃ j : Nat, i ≤ j ∧ j ≤ s.size ∧ s5 = .int .i64 j ∧ Hid (Lib.trimLeftS (s.data.toList.drop j) [32, 9] = l2)) (fun v => s.size - (intOf v).toNat)
      case atStart => exact ⟨i, by omega, hi, rfl, hl2⟩
      case round =>
        obtain ⟨j, hij, hj, rfl, hT⟩ := hrel
        obtain ⟨b, hb⟩ : ∃ b, Hid (blF s.data.toList j = b) := ⟨_, Lib.hid rfl⟩
        have hbl := Lib.hid (blank_to s hs0 j b hb.out)
        cases b with
        | true =>
          obtain ⟨hjl, hT2⟩ := trim_at _ _ hb.out
          rw [hz.out] at hjl
          rw [hT.out] at hT2
          replace hT2 := Lib.hid hT2.symm
          clear hb hl2
          go_wp2_with fail
          refine (hbl.out _).mono ?_; rintro r w2 ⟨rfl, rfl⟩
          clear hbl
          go_wp2_with fail
          go_round
          case measure => simp [intOf]; omega
          case rel => exact ⟨j + 1, by omega, by omega, by go_num, hT2⟩
        | false =>
          have hT2 := trim_stop _ _ hb.out
          rw [hT.out] at hT2
          have hR' := hR.out
          rw [splitN, hl2.out] at hR'
          obtain rfl : l2 = s.data.toList.drop j := hT2
          clear hT hb hl2 hR
          go_wp2_with fail
          refine (hbl.out _).mono ?_; rintro r w2 ⟨rfl, rfl⟩
          clear hbl
          by_cases hend : j = s.size
          · subst hend
            rw [if_pos (.inl (List.drop_of_length_le (by rw [hz.out]; exact Nat.le_refl _)))] at hR'
            simp only [Prod.mk.injEq] at hR'
            obtain ⟨rfl, rfl⟩ := hR'
            go_wp2_with fail
            go_ret2
            exact ⟨⟨_, rfl, I.out⟩, B.out⟩
          · have hlt : j < s.size := by omega
            have hjl : j < s.data.toList.length := by rw [hz.out]; exact hlt
            have te : ((j : Int) == (s.size : Int)) = false := by simp; omega
            have te2 : (j == s.size) = false := by simp; omega
            have hne : s.data.toList.drop j ≠ [] := fun h => by have := congrArg List.length h; rw [List.length_drop, hz.out] at this; simp at this; omega
            obtain ⟨c, hc, hB⟩ := byt_u s j hlt
            have hd0 : (s.data.toList.drop j).getD 0 0 = c := by rw [drop_cons _ _ hjl, List.getD_cons_zero]; exact hc.out
            by_cases h35 : c = 35
            · subst h35
              rw [if_pos (.inr hd0)] at hR'
              simp only [Prod.mk.injEq] at hR'
              obtain ⟨rfl, rfl⟩ := hR'
              rw [show (((35 : UInt8).toNat : Int)) = 35 from rfl] at hB
              clear hc hd0 hne
              go_wp2_with fail
              go_ret2
              exact ⟨⟨_, rfl, I.out⟩, B.out⟩
            · rw [if_neg (by rintro (h | h); exact hne h; exact h35 (hd0.symm.trans h))] at hR'
              have s35 : ((c.toNat : Int) == 35) = false := ne_byt c 35 _ rfl h35
              obtain ⟨en, t, q, r, hn⟩ : ∃ e t q r, Hid (nextF (s.data.toList.drop j) = (e, t, q, r)) := ⟨_, _, _, _, rfl⟩
              rw [hn.out] at hR'
              simp only at hR'
              replace hR' := Lib.hid hR'
              replace hd0 := Lib.hid hd0
              go_upto_region 10 with (fail)
              obtain ⟨a4, c4, rfl⟩ := own_shape I.out
              show Code.wp _ _ _ _ (wr.alloc (.cells #[.string ⟨#[]⟩, .bool false] 54))
              have hwd := Lib.hid (wdR_new wr ⟨#[]⟩ false)
              have hnb : Hid ((Value.slice a4 ws.length c4).ownBlock ≠ some wr.heap.size) := Lib.hid (fun h => absurd (own_lt I.out _ h) (Nat.lt_irrefl _))
              replace I := Lib.hid (World.ownsRow.alloc I.out (.cells #[.string ⟨#[]⟩, .bool false] 54))
              have hNW := B.out.size
              replace B := Lib.hid (B.out.alloc B.out.size (.cells #[.string ⟨#[]⟩, .bool false] 54))
              generalize wr.alloc (.cells #[.string ⟨#[]⟩, .bool false] 54) = W1 at hwd I B ⊢
              generalize wr.heap.size = N at hwd hnb hNW ⊢
              by_cases h34 : c = 34
              · subst h34
                obtain ⟨eq, tq, nq, hq⟩ : ∃ e t n, Hid (quF (s.data.toList.drop j) = (e, t, n)) := ⟨_, _, _, rfl⟩
                have hn' := hn.out
                unfold nextF at hn'
                rw [if_pos hd0.out, hq.out] at hn'
                simp only at hn'
                replace hn' := Lib.hid hn'
                have hqc := Lib.hid (fun W => rquote_any s (by omega) j hlt hc.out eq tq nq hq.out W)
                rw [show (((34 : UInt8).toNat : Int)) = 34 from rfl] at hB s35
                clear hn hc hd0
                go_wp2_with fail
                refine (hqc.out _).mono ?_; rintro x w2 ⟨⟨k, rfl, hk⟩, hb⟩
                replace hk := Lib.hid hk
                replace hwd := Lib.hid (hwd.out.block hb)
                replace I := Lib.hid (owns_on I.out hb)
                replace B := Lib.hid (B.out.trans (hb.mono B.out.size))
                clear hqc hb hB s35
                by_cases he0 : eq = 0
                · subst he0
                  replace hk := Lib.hid (hk.out rfl)
                  obtain ⟨bv, hbv⟩ : ∃ b, Hid (rightF ⟨tq.toArray⟩ true = b) := ⟨_, Lib.hid rfl⟩
                  have hle := quF_le (s.data.toList.drop j) (by rw [hq.out])
                  rw [hq.out] at hle
                  simp only [List.length_drop, hz.out] at hle
                  have hkle : k ≤ s.size := by have := hk.out; omega
                  have hnq2 := quF_two (s.data.toList.drop j) (by rw [hq.out])
                  rw [hq.out] at hnq2
                  simp only at hnq2
                  have hvc := Lib.hid (fun W => rvalid_to ⟨tq.toArray⟩ (by rw [ba_size]; omega) bv hbv.out W)
                  cases bv with
                  | false =>
                    have h1 := hn'.out
                    rw [if_pos (.inr hbv.out)] at h1
                    simp only [Prod.mk.injEq] at h1
                    obtain ⟨rfl, rfl, rfl, rfl⟩ := h1
                    have e1 := hR'.out
                    rw [if_pos (by decide)] at e1
                    simp only [Prod.mk.injEq] at e1
                    obtain ⟨rfl, rfl⟩ := e1
                    clear hq hbv hn' hR' hk
                    go_wp2_with fail
                    refine (hvc.out _).mono ?_; rintro x w3 ⟨rfl, hb⟩
                    go_wp2_with fail
                    go_ret2
                    exact ⟨⟨_, rfl, ⟨rfl, .inl ⟨rfl, rfl⟩⟩⟩, B.out.trans (hb.mono B.out.size)⟩
                  | true =>
                    have h1 := hn'.out
                    rw [if_neg (by rintro (h | h); exact h rfl; rw [hbv.out] at h; cases h)] at h1
                    obtain ⟨be, hbe⟩ : ∃ b, Hid (endsF (s.data.toList.drop j) nq = b) := ⟨_, Lib.hid rfl⟩
                    have hbe2 : Hid (endsF s.data.toList k = be) := by
                      show _ = _
                      rw [← endsF_drop _ j k (by have := hk.out; omega), show k - j = nq by have := hk.out; omega]; exact hbe.out
                    rw [hbe.out] at h1
                    replace h1 := Lib.hid h1
                    clear hn' hbv hq
                    go_wp2_with fail
                    refine (hvc.out _).mono ?_; rintro x w3 ⟨rfl, hb⟩
                    replace hwd := Lib.hid (hwd.out.block hb)
                    replace I := Lib.hid (owns_on I.out hb)
                    replace B := Lib.hid (B.out.trans (hb.mono B.out.size))
                    clear hvc hb
                    go_upto_region 14 with (fail)
                    go_cut [64] (fun s64 wx => s64 = .bool (!be) ∧ w3 = wx)
                    case first =>
                      rw [blF_end, hz.out] at hbe2
                      by_cases hks : k < s.size
                      · have tk : decide (k < s.size) = true := decide_eq_true hks
                        obtain ⟨b, hb⟩ : ∃ b, Hid (blF s.data.toList k = b) := ⟨_, Lib.hid rfl⟩
                        have hbl := Lib.hid (blank_to s hs0 k b hb.out)
                        obtain ⟨c2, hc2, hB2⟩ := byt_u s k hks
                        have h3 := hbe2.out
                        rw [decide_eq_false (by omega), hb.out, hc2.out, Bool.false_or] at h3
                        replace h3 := Lib.hid h3
                        clear hbe2 hb hc2
                        cases b with
                        | true =>
                          obtain rfl : be = true := by rw [← h3.out]; rfl
                          clear h3
                          go_wp2_with fail
                          refine (hbl.out _).mono ?_; rintro r w2 ⟨rfl, rfl⟩
                          go_wp2_with fail
                          go_meet
                          exact ⟨rfl, rfl⟩
                        | false =>
                          by_cases g35 : c2 = 35
                          · subst g35
                            obtain rfl : be = true := by rw [← h3.out]; rfl
                            rw [show (((35 : UInt8).toNat : Int)) = 35 from rfl] at hB2
                            clear h3
                            go_wp2_with fail
                            refine (hbl.out _).mono ?_; rintro r w2 ⟨rfl, rfl⟩
                            go_wp2_with fail
                            go_meet
                            exact ⟨rfl, rfl⟩
                          · obtain rfl : be = false := by rw [← h3.out]; simpa using g35
                            have s2' : ((c2.toNat : Int) == 35) = false := ne_byt c2 35 _ rfl g35
                            have s2 : ((c2.toNat : Int) != 35) = true := by rw [bne, s2']; rfl
                            clear h3 s2'
                            go_wp2_with fail
                            refine (hbl.out _).mono ?_; rintro r w2 ⟨rfl, rfl⟩
                            go_wp2_with fail
                            go_meet
                            exact ⟨rfl, rfl⟩
                      · have tk : decide (k < s.size) = false := decide_eq_false hks
                        obtain rfl : be = true := by rw [← hbe2.out, decide_eq_true (by omega)]; rfl
                        clear hbe2
                        go_wp2_with fail
                        go_meet
                        exact ⟨rfl, rfl⟩
                    case rest =>
                      obtain ⟨rfl, rfl⟩ := hcut
                      clear hbe hbe2
                      cases be with
                      | false =>
                        have h2 := h1.out
                        rw [if_pos rfl] at h2
                        simp only [Prod.mk.injEq] at h2
                        obtain ⟨rfl, rfl, rfl, rfl⟩ := h2
                        have e1 := hR'.out
                        rw [if_pos (by decide)] at e1
                        simp only [Prod.mk.injEq] at e1
                        obtain ⟨rfl, rfl⟩ := e1
                        clear h1 hR' hk
                        go_wp2_with fail
                        go_ret2
                        exact ⟨⟨_, rfl, ⟨rfl, .inl ⟨rfl, rfl⟩⟩⟩, B.out⟩
                      | true =>
                        have h2 := h1.out
                        rw [if_neg (by decide)] at h2
                        simp only [Prod.mk.injEq] at h2
                        obtain ⟨rfl, rfl, rfl, rfl⟩ := h2
                        have e1 := hR'.out
                        rw [if_neg (by decide), List.drop_drop, show j + nq = k from hk.out.symm] at e1
                        replace e1 := Lib.hid e1
                        have hjk : j < k := by
                          have := hk.out
                          omega
                        clear h1 hR' hk
                        obtain ⟨⟨x0, x1⟩, x2, x3⟩ := hwd.out.cells
                        go_upto_region 17 with (fail)
                        show Code.wp _ _ _ _ (resW w3 N (.string ⟨tq.toArray⟩) (.bool true))
                        replace I := Lib.hid (show (resW w3 N (.string ⟨tq.toArray⟩) (.bool true)).ownsRow _ _ _ _ _ _ from owns_other (owns_other I.out hnb.out) hnb.out)
                        replace B := Lib.hid (resW_below (v0 := .string ⟨tq.toArray⟩) (v1 := .bool true) B.out hNW)
                        replace hwd := Lib.hid (hwd.out.res ⟨tq.toArray⟩ true)
                        clear x0 x1 x2 x3
                        generalize resW w3 N (.string ⟨tq.toArray⟩) (.bool true) = W4 at hwd I B ⊢
                        have hBs := B.out.size
                        obtain ⟨⟨x0, x1⟩, _⟩ := hwd.out.cells
                        by_cases h64 : 64 ≤ ws.length
                        · have t5 : ((ws.length : Int) == 64) = true := by simp; omega
                          have e2 := e1.out
                          rw [if_pos h64] at e2
                          simp only [Prod.mk.injEq] at e2
                          obtain ⟨rfl, rfl⟩ := e2
                          clear e1
                          go_wp2_with fail
                          go_ret2
                          exact ⟨⟨_, rfl, ⟨rfl, .inl ⟨rfl, rfl⟩⟩⟩, B.out⟩
                        · have t5 : ((ws.length : Int) == 64) = false := by simp; omega
                          have e2 := e1.out
                          rw [if_neg h64] at e2
                          replace e2 := Lib.hid e2
                          clear e1
                          go_wp2_with (at_builtin; go_must (refine app_el rfl (.tmp 99) (.tmp 101) 48 rfl 2 #[.string ⟨tq.toArray⟩, .bool true] rfl (by decide) w.heap.size (.agg #[.string ⟨#[]⟩, .bool false]) 24 Tryz.underlying48 info96 rfl _ ws.length (wcells ws) rfl rfl I.out (by intro u hu; simp at hu; rcases hu with rfl | rfl <;> rfl) (by decide) (by omega) hBs ?_); rintro v2 w5 hown2' hb5 _ _ _; have hown2 := Lib.hid hown2'; clear hown2')
                          go_roundg g
                          case measure => omega
                          case rel => exact ⟨k, ws ++ [(tq, true)], rfl, hkle, by omega, by simp; omega, e2, Lib.hid (by have := hown2.out; rw [List.length_append, wcells_snoc]; exact this), Lib.hid (B.out.trans hb5)⟩
                · have h1 := hn'.out
                  rw [if_pos (.inl he0)] at h1
                  simp only [Prod.mk.injEq] at h1
                  obtain ⟨rfl, rfl, rfl, rfl⟩ := h1
                  have e1 := hR'.out
                  rw [if_pos (by decide)] at e1
                  simp only [Prod.mk.injEq] at e1
                  obtain ⟨rfl, rfl⟩ := e1
                  have te0 : (eq != 0) = true := by simpa using he0
                  clear hq hn' hR' hk he0
                  go_wp2_with fail
                  go_ret2
                  exact ⟨⟨_, rfl, ⟨rfl, .inl ⟨rfl, rfl⟩⟩⟩, B.out⟩
              · have hn' := hn.out
                unfold nextF at hn'
                rw [if_neg (fun h => h34 (hd0.out.symm.trans h))] at hn'
                have s34 : ((c.toNat : Int) == 34) = false := ne_byt c 34 _ rfl h34
                replace hn' := Lib.hid hn'
                clear hn hc hd0
                go_wp2_with fail
                clear hB s34 s35 te te2
                go_loop [5] (fun s5 => ∃ k : Nat, j ≤ k ∧ k ≤ s.size ∧ s5 = .int .i64 k ∧ Hid (((s.data.toList.drop j).take (k - j)).all (fun c => !endc c) = true)) (fun v => s.size - (intOf v).toNat)
                case atStart => exact ⟨j, by omega, by omega, rfl, Lib.hid (by rw [Nat.sub_self]; rfl)⟩
                case round =>
                  obtain ⟨k, hjk, hkle, rfl, hA⟩ := hrel
                  obtain ⟨be, hbe2⟩ : ∃ b, Hid (endsF s.data.toList k = b) := ⟨_, Lib.hid rfl⟩
                  have hbe := hbe2
                  go_upto_region 19 with (fail)
                  go_cut [84] from 69 to 86 (fun s84 wx => s84 = .bool (!be) ∧ W1 = wx)
                  case first =>
                    rw [blF_end, hz.out] at hbe2
                    by_cases hks : k < s.size
                    · have tk : decide (k < s.size) = true := decide_eq_true hks
                      obtain ⟨b, hb⟩ : ∃ b, Hid (blF s.data.toList k = b) := ⟨_, Lib.hid rfl⟩
                      have hbl := Lib.hid (blank_to s hs0 k b hb.out)
                      obtain ⟨c2, hc2, hB2⟩ := byt_u s k hks
                      have h3 := hbe2.out
                      rw [decide_eq_false (by omega), hb.out, hc2.out, Bool.false_or] at h3
                      replace h3 := Lib.hid h3
                      clear hbe hbe2 hb hc2 hA
                      cases b with
                      | true =>
                        obtain rfl : be = true := by rw [← h3.out]; rfl
                        clear h3
                        go_wp2_with fail
                        refine (hbl.out _).mono ?_; rintro r w2 ⟨rfl, rfl⟩
                        go_wp2_with fail
                        go_meet
                        exact ⟨rfl, rfl⟩
                      | false =>
                        by_cases g35 : c2 = 35
                        · subst g35
                          obtain rfl : be = true := by rw [← h3.out]; rfl
                          rw [show (((35 : UInt8).toNat : Int)) = 35 from rfl] at hB2
                          clear h3
                          go_wp2_with fail
                          refine (hbl.out _).mono ?_; rintro r w2 ⟨rfl, rfl⟩
                          go_wp2_with fail
                          go_meet
                          exact ⟨rfl, rfl⟩
                        · obtain rfl : be = false := by rw [← h3.out]; simpa using g35
                          have s2' : ((c2.toNat : Int) == 35) = false := ne_byt c2 35 _ rfl g35
                          have s2 : ((c2.toNat : Int) != 35) = true := by rw [bne, s2']; rfl
                          clear h3 s2'
                          go_wp2_with fail
                          refine (hbl.out _).mono ?_; rintro r w2 ⟨rfl, rfl⟩
                          go_wp2_with fail
                          go_meet
                          exact ⟨rfl, rfl⟩
                    · have tk : decide (k < s.size) = false := decide_eq_false hks
                      obtain rfl : be = true := by rw [← hbe2.out, decide_eq_true (by omega)]; rfl
                      clear hbe2 hbe hA
                      go_wp2_with fail
                      go_meet
                      exact ⟨rfl, rfl⟩
                  case rest =>
                    obtain ⟨rfl, rfl⟩ := hcut
                    cases be with
                    | false =>
                      obtain ⟨hks, hec⟩ := not_end _ _ hbe.out
                      rw [hz.out] at hks
                      have hA2 : Hid (((s.data.toList.drop j).take (k + 1 - j)).all (fun c => !endc c) = true) := by
                        show _ = _
                        rw [show k + 1 - j = k - j + 1 by omega, all_take _ _ _ (by rw [List.length_drop, hz.out]; omega), hA.out, List.getD_eq_getElem?_getD, List.getElem?_drop, Nat.add_sub_cancel' hjk, ← List.getD_eq_getElem?_getD, hec]
                        rfl
                      clear hA hbe hec
                      go_wp2_with fail
                      go_round
                      case measure => simp [intOf]; omega
                      case rel => exact ⟨k + 1, by omega, by omega, by go_num, hA2⟩
                    | true =>
                      have hwn := wordN_eq (s.data.toList.drop j) (k - j) hA.out (by rw [List.length_drop, hz.out]; omega) (by rw [endsF_drop _ _ _ hjk]; exact hbe.out)
                      have h1 := hn'.out
                      rw [hwn] at h1
                      obtain ⟨u, hu⟩ : ∃ u, Hid (s.extract j k = u) := ⟨_, Lib.hid rfl⟩
                      have hud : Hid (u = ⟨((s.data.toList.drop j).take (k - j)).toArray⟩) := Lib.hid (ba_ext (by rw [← hu.out]; exact ba_drop_take s j k))
                      have huz : u.size ≤ s.size := by rw [← hu.out, ByteArray.size_extract]; omega
                      have hul : u.size = k - j := by rw [← hu.out, ByteArray.size_extract]; omega
                      rw [← hud.out] at h1
                      obtain ⟨bv, hbv⟩ : ∃ b, Hid (bareF u = b) := ⟨_, Lib.hid rfl⟩
                      rw [hbv.out] at h1
                      replace h1 := Lib.hid h1
                      have hbc := Lib.hid (fun W => rbare_to u (by omega) bv hbv.out W)
                      have u1 : decide ((j : Int) ≤ (k : Int)) = true := decide_eq_true (by omega)
                      have u2 : decide (j ≤ k) = true := decide_eq_true (by omega)
                      have u3 : decide (k ≤ s.size) = true := decide_eq_true (by omega)
                      obtain ⟨⟨x0, x1⟩, x2, x3⟩ := hwd.out.cells
                      clear hA hbe hn' hwn
                      go_upto_region 22 with (fail)
                      rw [hu.out]
                      show Code.wp _ _ _ _ (W1.setCell ⟨N, 0, none⟩ (.string u))
                      replace I := Lib.hid (owns_other (c := N) (o := 0) (u := .string u) I.out hnb.out)
                      replace B := Lib.hid (B.out.setCell (p := ⟨N, 0, none⟩) hNW (.string u))
                      replace hwd := Lib.hid (hwd.out.set0 u)
                      clear x0 x1 x2 x3
                      generalize W1.setCell ⟨N, 0, none⟩ (.string u) = W3 at hwd I B ⊢
                      obtain ⟨⟨x0, x1⟩, _⟩ := hwd.out.cells
                      cases bv with
                      | false =>
                        have h2 := h1.out
                        rw [if_pos rfl] at h2
                        simp only [Prod.mk.injEq] at h2
                        obtain ⟨rfl, rfl, rfl, rfl⟩ := h2
                        have e1 := hR'.out
                        rw [if_pos (by decide)] at e1
                        simp only [Prod.mk.injEq] at e1
                        obtain ⟨rfl, rfl⟩ := e1
                        clear h1 hR' hud hbv
                        go_wp2_with fail
                        refine (hbc.out _).mono ?_; rintro x w3 ⟨rfl, hb⟩
                        go_wp2_with fail
                        go_ret2
                        exact ⟨⟨_, rfl, ⟨rfl, .inl ⟨rfl, rfl⟩⟩⟩, B.out.trans (hb.mono B.out.size)⟩
                      | true =>
                        have h2 := h1.out
                        rw [if_neg (by decide)] at h2
                        simp only [Prod.mk.injEq] at h2
                        obtain ⟨rfl, rfl, rfl, rfl⟩ := h2
                        have e1 := hR'.out
                        rw [if_neg (by decide), List.drop_drop, Nat.add_sub_cancel' hjk] at e1
                        replace e1 := Lib.hid e1
                        have hjk2 : j < k := by
                          have := hbv.out
                          unfold bareF at this
                          simp only [Bool.and_eq_true, decide_eq_true_eq] at this
                          omega
                        clear h1 hR' hbv
                        go_wp2_with fail
                        refine (hbc.out _).mono ?_; rintro x w3 ⟨rfl, hb⟩
                        replace hwd := Lib.hid (hwd.out.block hb)
                        replace I := Lib.hid (owns_on I.out hb)
                        replace B := Lib.hid (B.out.trans (hb.mono B.out.size))
                        clear hbc hb x0 x1
                        have hud2 := Lib.hid hud.out.symm
                        have hBs := B.out.size
                        obtain ⟨⟨x0, x1⟩, _⟩ := hwd.out.cells
                        by_cases h64 : 64 ≤ ws.length
                        · have t5 : ((ws.length : Int) == 64) = true := by simp; omega
                          have e2 := e1.out
                          rw [if_pos h64] at e2
                          simp only [Prod.mk.injEq] at e2
                          obtain ⟨rfl, rfl⟩ := e2
                          clear e1
                          go_wp2_with fail
                          go_ret2
                          exact ⟨⟨_, rfl, ⟨rfl, .inl ⟨rfl, rfl⟩⟩⟩, B.out⟩
                        · have t5 : ((ws.length : Int) == 64) = false := by simp; omega
                          have e2 := e1.out
                          rw [if_neg h64] at e2
                          replace e2 := Lib.hid e2
                          clear e1
                          go_wp2_with (at_builtin; go_must (refine app_el rfl (.tmp 99) (.tmp 101) 48 rfl 2 #[.string u, .bool false] rfl (by decide) w.heap.size (.agg #[.string ⟨#[]⟩, .bool false]) 24 Tryz.underlying48 info96 rfl _ ws.length (wcells ws) rfl rfl I.out (by intro u hu; simp at hu; rcases hu with rfl | rfl <;> rfl) (by decide) (by omega) hBs ?_); rintro v2 w5 hown2' hb5 _ _ _; have hown2 := Lib.hid hown2'; clear hown2')
                          go_roundg g
                          case measure => omega
                          case rel => exact ⟨k, ws ++ [((s.data.toList.drop j).take (k - j), false)], rfl, hkle, by omega, by simp; omega, e2, Lib.hid (by have := hown2.out; rw [List.length_append, wcells_snoc, hud2.out]; exact this), Lib.hid (B.out.trans hb5)⟩
end Go.Proofs.YtiapkindbbbdpaaGreatDoor
