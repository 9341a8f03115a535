/- The contract of line.Split over the translation. -/
import Derived.Test.YtiapkindbbbdpaaGreatDoorK8
import Derived.Shelf.Strings.SlTrimAscii
namespace Go.Proofs.YtiapkindbbbdpaaGreatDoor
open Go.RowKit

/-- 'append(out, x)': one more element, of several cells, out of the call's own. -/
theorem app_el {P : Program} {ops : Array Oper} {rest : List Oper} {o : Oper} {a : Act} {Q : Exit → Act → World → Prop} {w : World} (hgd : o.guard = none) (s x : Operand) (t : TypeId)
    (ho : o.op = .call { callee := .builtin .append, args := #[s, x], argTypes := #[t, t] })
    {e : TypeId} (k : Nat) (C : Array Value) (hC : C.size = k) (hk : 0 < k) (base : Nat) (z : Value) (bytes : Nat) (ht : P.underlying t = some (.slice e)) (hinfo : (P.info? e).map (fun i => (i.zero, i.size, i.bytes)) = some (some z, k, bytes)) (hzs : z.cells.size = k)
    (v : Value) (n : Nat) (xs : List Value) (hs : a.eval s = v) (hx : a.eval x = .slice (some ⟨w.heap.size, 0, none⟩) 1 1) (hown : w.ownsRow base e k v n xs) (hu : ∀ u ∈ C.toList, u.oneCell' = true)
    (hb1 : 1 ≤ bytes) (hbytes : (n + 1) * bytes ≤ 140737488355328) (hbase : base ≤ w.heap.size)
    (h : ∀ v' w', w'.ownsRow base e k v' (n + 1) (xs ++ C.toList) → Below base w w' → w.heap.size ≤ w'.heap.size → (∀ row, v.ownBlock ≠ some row → row < w.heap.size → w'.heap[row]? = w.heap[row]?) → (∃ g cap, v' = .slice (some ⟨g, 0, none⟩) (n + 1) cap) → wpList P ops Q rest (a.put o.dst v') w') :
    wpList P ops Q (o :: rest) a (w.alloc (.cells C e)) := by
  obtain ⟨i, hi, hz0, hz1, hz2⟩ := info_parts hinfo
  have hn : n + 1 ≤ (n + 1) * bytes := Nat.le_mul_of_pos_right _ hb1
  refine wpList_append_own _ hgd s x t ho base e i z k bytes ht hi hz0 hz1 hz2 hzs hk v n xs hs (hown.alloc _) ⟨w.heap.size, 0, none⟩ 1 1 C.toList hx (by simp [hC]) ?_ hu (by unfold maxLen; omega) (by omega) (by simp; omega) ?_
  · intro j u hj
    rw [show (⟨w.heap.size, 0, none⟩ : Addr).add j = ⟨w.heap.size, j, none⟩ by simp [Addr.add]; omega, Lib.cell_of_heap (World.alloc_heap_new _ _)]
    simpa using hj
  intro v' w' hown' hg hnil
  have hsz : w.heap.size + 1 ≤ w'.heap.size := by have := hg.size; simpa using this
  refine h v' w' hown' ?_ (by omega) ?_ ?_
  · refine ((Below.refl base w).alloc hbase _).grown hg (by simp; omega) (fun k e' => ?_)
    exact ((hown.alloc (.cells C e)).lt k e').1
  · intro row hrow hlt
    rw [hg.block row (by simp; omega) (fun e' => hrow e'.symm)]
    exact Below.heap_alloc _ _ _ hlt
  · rcases hown'.2 with ⟨rfl, h0⟩ | ⟨g, cap, cur, rfl, _⟩
    · omega
    · exact ⟨g, cap, rfl⟩
theorem owns_on {w w' : World} {base e k n : Nat} {v : Value} {xs : List Value} (h : w.ownsRow base e k v n xs) (hb : Below w.heap.size w w') : w'.ownsRow base e k v n xs := by
  refine ⟨h.1, ?_⟩
  rcases h.2 with h' | ⟨g, cap, cur, h1, h2, h3, h4⟩
  · exact .inl h'
  · exact .inr ⟨g, cap, cur, h1, h2, (hb.block g (Array.getElem?_eq_some_iff.1 h3).1).trans h3, h4⟩
/-- A word. -/
abbrev Wd := List UInt8 × Bool
def wcell (p : Wd) : List Value := [.string ⟨p.1.toArray⟩, .bool p.2]
def wcells (ws : List Wd) : List Value := ws.flatMap wcell
theorem wcells_len : ∀ ws : List Wd, (wcells ws).length = ws.length * 2
  | [] => rfl
  | p :: ws => by
    have := wcells_len ws
    simp only [wcells, List.flatMap_cons, List.length_append, List.length_cons] at this ⊢
    simp only [wcell, List.length_cons, List.length_nil]
    omega
theorem wcells_at : ∀ (ws : List Wd) (i : Nat) (h : i < ws.length), (wcells ws)[i * 2]? = some (.string ⟨ws[i].1.toArray⟩) ∧ (wcells ws)[i * 2 + 1]? = some (.bool ws[i].2)
  | [], i, h => by simp at h
  | p :: ws, 0, h => ⟨rfl, rfl⟩
  | p :: ws, i + 1, h => by
    have := wcells_at ws i (by simpa using h)
    rw [show (i + 1) * 2 = i * 2 + 2 by omega]
    exact this
/-- A slice of words. -/
def WRow (W : World) (v : Value) (ws : List Wd) : Prop :=
  (∃ a c, (a = none → c = 0) ∧ v = .slice a 0 c ∧ ws = []) ∨ ∃ b off cap, v = .slice (some ⟨b, off, none⟩) ws.length cap ∧ b < W.heap.size ∧ ws.length ≤ cap ∧ cap ≤ maxLen ∧ ∀ i (h : i < ws.length), W.cell? ⟨b, off + i * 2, none⟩ = some (.string ⟨ws[i].1.toArray⟩) ∧ W.cell? ⟨b, off + i * 2 + 1, none⟩ = some (.bool ws[i].2)
theorem WRow.on {W W' : World} {v : Value} {ws : List Wd} (h : WRow W v ws) (hb : Below W.heap.size W W') : WRow W' v ws := by
  rcases h with h | ⟨b, off, cap, h1, h2, h3, h4, h5⟩
  · exact .inl h
  · exact .inr ⟨b, off, cap, h1, Nat.lt_of_lt_of_le h2 hb.size, h3, h4, fun i hi => ⟨(hb.cell (p := ⟨b, off + i * 2, none⟩) h2).trans (h5 i hi).1, (hb.cell (p := ⟨b, off + i * 2 + 1, none⟩) h2).trans (h5 i hi).2⟩⟩
theorem WRow.of_owned {W : World} {base : Nat} {v : Value} {ws : List Wd} (h : W.ownsRow base 29 2 v ws.length (wcells ws)) : WRow W v ws := by
  rcases h.2 with ⟨h1, h2⟩ | ⟨g, cap, cur, h1, h2, h3, h4, h5, h6, h7⟩
  · exact .inl ⟨none, 0, fun _ => rfl, by rw [h1], List.eq_nil_of_length_eq_zero h2⟩
  · refine .inr ⟨g, 0, cap, h1, (Array.getElem?_eq_some_iff.1 h3).1, h4, h5, fun i hi => ?_⟩
    have hc : ∀ j, j < ws.length * 2 → W.cell? ⟨g, j, none⟩ = (wcells ws)[j]? := fun j hj => by
      rw [Lib.cell_of_heap h3, ← h7, List.getElem?_take_of_lt hj]
      simp
    rw [Nat.zero_add, hc _ (by omega), hc _ (by omega)]
    exact wcells_at ws i hi
theorem info31 : (Tryz.prog.info? 29).map (fun i => (i.zero, i.size, i.bytes)) = some (some (.agg #[.string ⟨#[]⟩, .bool false]), 2, 24) := by kernel_rfl
/-- Split: the error, and the words. -/
def splitN : Nat → List UInt8 → List Wd → Int × List Wd
  | 0, _, _ => (0, [])
  | f + 1, l, ws =>
    if Lib.trimLeftS l [32, 9] = [] ∨ (Lib.trimLeftS l [32, 9]).getD 0 0 = 35 then (0, ws)
    else if (nextF (Lib.trimLeftS l [32, 9])).1 ≠ 0 then ((nextF (Lib.trimLeftS l [32, 9])).1, [])
    else if 64 ≤ ws.length then (5, [])
    else splitN f (nextF (Lib.trimLeftS l [32, 9])).2.2.2 (ws ++ [((nextF (Lib.trimLeftS l [32, 9])).2.1, (nextF (Lib.trimLeftS l [32, 9])).2.2.1)])
def splitF (l : List UInt8) : Int × List Wd := if 65536 < l.length then (3, []) else splitN (l.length + 1) l []
theorem trim_to (s : ByteArray) (w : World) : Calls Tryz.prog 37 #[.string s, .string ⟨#[32, 9]⟩] w fun e w' => e = .returned (.string ⟨(Lib.trimLeftS s.data.toList [32, 9]).toArray⟩) ∧ Below w.heap.size w w' :=
  Any.strings_TrimLeft_laid Tryz.lays161 (by kernel_rfl) s ⟨#[32, 9]⟩ w (by decide) (ascii_of_all (by decide))
theorem next_lt (l : List UInt8) (t r : List UInt8) (q : Bool) (h : nextF l = (0, t, q, r)) (hl : l ≠ []) : r.length < l.length := by
  unfold nextF at h
  have hp : 0 < l.length := List.length_pos_iff.2 hl
  by_cases h1 : l.getD 0 0 = 34
  · rw [if_pos h1] at h
    split at h
    · simp at h
    · rename_i h2
      split at h
      · simp at h
      · simp only [Prod.mk.injEq] at h
        rw [← h.2.2.2, List.length_drop]
        have : 2 ≤ (quF l).2.2 := by
          have h3 : (quF l).1 = 0 := Decidable.byContradiction fun h4 => h2 (.inl h4)
          unfold quF at h3 ⊢
          split
          · simp
          · rename_i g; rw [if_neg g] at h3; exact absurd h3 g
        omega
  · rw [if_neg h1] at h
    split at h
    · simp at h
    · rename_i h2
      simp only [Prod.mk.injEq] at h
      rw [← h.2.2.2, List.length_drop]
      have : 0 < wordN l := by
        rcases Nat.eq_zero_or_pos (wordN l) with h3 | h3
        · rw [h3] at h2
          exact absurd (by rw [List.take_zero]; unfold bareF; rfl) h2
        · exact h3
      omega
theorem trim_len (l : List UInt8) : (Lib.trimLeftS l [32, 9]).length ≤ l.length := by
  unfold Lib.trimLeftS
  exact (List.dropWhile_sublist _).length_le
theorem own_shape {W : World} {base e k n : Nat} {v : Value} {xs : List Value} (h : W.ownsRow base e k v n xs) : ∃ a c, v = .slice a n c := by
  rcases h.2 with ⟨h1, h2⟩ | ⟨g, cap, cur, h1, _⟩
  · exact ⟨_, _, by rw [h1, h2]⟩
  · exact ⟨_, _, h1⟩
theorem ba_size (l : List UInt8) : (⟨l.toArray⟩ : ByteArray).size = l.length := by show l.toArray.size = _; simp
set_option maxRecDepth 100000 in
set_option maxHeartbeats 2000000 in
theorem split_any (s : ByteArray) (w : World) : Calls Tryz.prog 10 #[.string s] w fun x w' => (∃ v, x = .returned (.tuple #[v, .int .i64 (splitF s.data.toList).1]) ∧ w'.ownsRow w.heap.size 29 2 v (splitF s.data.toList).2.length (wcells (splitF s.data.toList).2)) ∧ Below w.heap.size w w' := by
  have hz : s.data.toList.length = s.size := by simp
  by_cases hl : 65536 < s.size
  · rw [show splitF s.data.toList = (3, []) by unfold splitF; rw [if_pos (by omega)]]
    have t1 : decide (65536 < (s.size : Int)) = true := decide_eq_true (by omega)
    go_enter Tryz.func10, Tryz.ntmps10
    go_wp2_with fail
    go_ret2
    exact ⟨⟨_, rfl, ⟨rfl, .inl ⟨rfl, rfl⟩⟩⟩, Below.refl _ _⟩
  · have t1 : decide (65536 < (s.size : Int)) = false := decide_eq_false (by omega)
    obtain ⟨R, hR⟩ : ∃ R, Hid (splitN (s.size + 1) s.data.toList [] = R) := ⟨_, rfl⟩
    rw [show splitF s.data.toList = R by unfold splitF; rw [if_neg (by omega), hz, hR.out]]
    have I0 : Hid (w.ownsRow w.heap.size 29 2 (.slice none 0 0) 0 (wcells [])) := ⟨rfl, .inl ⟨rfl, rfl⟩⟩
    go_enter Tryz.func10, Tryz.ntmps10
    go_wp2_with fail
    go_loopg [0, 4] (s.size + 1) (fun g s0 s4 wx => ∃ (l : List UInt8) (ws : List Wd), s0 = .string ⟨l.toArray⟩ ∧ l.length < g ∧ l.length ≤ 65536 ∧ ws.length ≤ 64 ∧ Hid (splitN g l ws = R) ∧ Hid (wx.ownsRow w.heap.size 29 2 s4 ws.length (wcells ws)) ∧ Hid (Below w.heap.size w wx))
    case atStart =>
      refine ⟨s.data.toList, [], ?_, by omega, by omega, by simp, hR, I0, Below.refl _ _⟩
      cases s; simp
    case round =>
      clear hR I0
      obtain ⟨l, ws, rfl, hg, hl2, hw64, hR, I, B⟩ := hrel
      obtain ⟨g, rfl⟩ : ∃ g, gk = g + 1 := ⟨gk - 1, by omega⟩
      have hR' := hR.out
      rw [splitN] at hR'
      have htl := trim_len l
      have hcall := trim_to ⟨l.toArray⟩
      rw [show (⟨l.toArray⟩ : ByteArray).data.toList = l by simp] at hcall
      generalize Lib.trimLeftS l [32, 9] = l2 at hR' htl hcall
      replace hcall := Lib.hid hcall
      by_cases he : l2 = []
      · subst he
        rw [if_pos (.inl rfl)] at hR'
        subst hR'
        clear hR
        go_wp2_with fail
        refine (hcall.out _).mono ?_; rintro x w2 ⟨rfl, hb⟩
        have hB := B.out.trans (hb.mono B.out.size)
        have hI := owns_on I.out hb
        clear hb
        go_wp2_with fail
        go_ret2
        exact ⟨⟨_, rfl, hI⟩, hB⟩
      · have hp : 0 < l2.length := List.length_pos_iff.2 he
        obtain ⟨s2, hs2⟩ : ∃ s2 : ByteArray, Hid (s2 = ⟨l2.toArray⟩) := ⟨_, rfl⟩
        have hd2 : Hid (s2.data.toList = l2) := by show _ = _; rw [hs2.out]
        have hz2 : s2.size = l2.length := by rw [hs2.out, ba_size]
        have h0 : 0 < s2.size := by omega
        have hcall2 : Hid (∀ W : World, Calls Tryz.prog 37 #[.string ⟨l.toArray⟩, .string ⟨#[32, 9]⟩] W fun e w' => e = .returned (.string s2) ∧ Below W.heap.size W w') := by rw [hs2.out]; exact hcall.out
        clear hcall
        have hB := byt_eq s2 0 h0
        obtain ⟨c, hc⟩ : ∃ c, Hid (l2.getD 0 0 = c) := ⟨_, rfl⟩
        rw [show byt s2 0 = (c.toNat : Int) by unfold byt; rw [hd2.out, hc.out]] at hB
        have t2 : s2.toList.isEmpty = false := by
          rw [hs2.out, ByteArray.toList_eq]
          simpa using he
        rw [hc.out] at hR'
        by_cases hc35 : c = 35
        · subst hc35
          rw [if_pos (.inr rfl)] at hR'
          subst hR'
          rw [show (((35 : UInt8).toNat : Int)) = 35 from rfl] at hB
          clear hR hc hd2
          go_wp2_with fail
          refine (hcall2.out _).mono ?_; rintro x w2 ⟨rfl, hb⟩
          have hB9 := B.out.trans (hb.mono B.out.size)
          have hI := owns_on I.out hb
          clear hb hcall2
          go_wp2_with fail
          go_ret2
          exact ⟨⟨_, rfl, hI⟩, hB9⟩
        · have s1 : ((c.toNat : Int) == 35) = false := ne_byt c 35 _ rfl hc35
          rw [if_neg (by rintro (h | h); exact he h; exact hc35 h)] at hR'
          obtain ⟨e, t, q, r, hn⟩ : ∃ e t q r, Hid (nextF l2 = (e, t, q, r)) := ⟨_, _, _, _, rfl⟩
          rw [hn.out] at hR'
          simp only at hR'
          have hnx := Lib.hid (fun W => next_any s2 (by omega) h0 e t r q (by rw [hd2.out]; exact hn.out) W)
          by_cases he0 : e = 0
          · subst he0
            have hlt := next_lt l2 t r q hn.out he
            rw [if_neg (by simp)] at hR'
            by_cases h64 : 64 ≤ ws.length
            · have t5 : decide (64 ≤ (ws.length : Int)) = true := decide_eq_true (by omega)
              rw [if_pos h64] at hR'
              subst hR'
              clear hR hc hn hd2
              go_wp2_with fail
              refine (hcall2.out _).mono ?_; rintro x w2 ⟨rfl, hb⟩
              replace B := Lib.hid (B.out.trans (hb.mono B.out.size))
              replace I := Lib.hid (owns_on I.out hb)
              clear hb hcall2
              go_wp2_with fail
              refine (hnx.out _).mono ?_; rintro x w3 ⟨rfl, hb⟩
              replace B := Lib.hid (B.out.trans (hb.mono B.out.size))
              clear hb hnx
              obtain ⟨a4, c4, rfl⟩ := own_shape I.out
              clear I
              go_wp2_with fail
              go_ret2
              exact ⟨⟨_, rfl, ⟨rfl, .inl ⟨rfl, rfl⟩⟩⟩, B.out.alloc B.out.size _⟩
            · have t5 : decide (64 ≤ (ws.length : Int)) = false := decide_eq_false (by omega)
              rw [if_neg h64] at hR'
              replace hR' := Lib.hid hR'
              clear hR hc hn hd2
              go_wp2_with fail
              refine (hcall2.out _).mono ?_; rintro x w2 ⟨rfl, hb⟩
              replace B := Lib.hid (B.out.trans (hb.mono B.out.size))
              replace I := Lib.hid (owns_on I.out hb)
              clear hb hcall2
              go_wp2_with fail
              refine (hnx.out _).mono ?_; rintro x w3 ⟨rfl, hb⟩
              replace B := Lib.hid (B.out.trans (hb.mono B.out.size))
              replace I := Lib.hid (owns_on I.out hb)
              clear hb hnx
              obtain ⟨a4, c4, rfl⟩ := own_shape I.out
              go_upto_region 8 with (fail)
              show Code.wp _ _ _ _ (w3.alloc (.cells #[.string ⟨t.toArray⟩, .bool q] 29))
              have hwd := Lib.hid (wd_new w3 ⟨t.toArray⟩ q)
              replace I := Lib.hid (World.ownsRow.alloc I.out (.cells #[.string ⟨t.toArray⟩, .bool q] 29))
              replace B := Lib.hid (B.out.alloc B.out.size (.cells #[.string ⟨t.toArray⟩, .bool q] 29))
              generalize w3.alloc (.cells #[.string ⟨t.toArray⟩, .bool q] 29) = w4 at hwd I B ⊢
              generalize w3.heap.size = N at hwd ⊢
              obtain ⟨⟨x0, x1⟩, _⟩ := hwd.out.cells
              have hBs := B.out.size
              go_wp2_with (at_builtin; go_must (refine app_el rfl (.tmp 37) (.tmp 39) 30 rfl 2 #[.string ⟨t.toArray⟩, .bool q] rfl (by decide) w.heap.size (.agg #[.string ⟨#[]⟩, .bool false]) 24 Tryz.underlying30 info31 rfl _ ws.length (wcells ws) rfl rfl I.out (by intro u hu; simp at hu; rcases hu with rfl | rfl <;> rfl) (by decide) (by omega) hBs ?_); rintro v2 w5 hown2' hb5 _ _ _; have hown2 := Lib.hid hown2'; clear hown2')
              go_roundg g
              case measure => omega
              case rel =>
                refine ⟨r, ws ++ [(t, q)], rfl, by omega, by omega, by simp; omega, hR', ?_, B.out.trans hb5⟩
                show w5.ownsRow _ _ _ _ _ _
                have := hown2.out
                rw [List.length_append, wcells, List.flatMap_append]
                simpa [wcell, wcells] using this
          · have t3 : (e == 0) = false := by simpa using he0
            have t4 : (e != 0) = true := by simpa using he0
            rw [if_pos he0] at hR'
            subst hR'
            clear hR hc hn hd2
            go_wp2_with fail
            refine (hcall2.out _).mono ?_; rintro x w2 ⟨rfl, hb⟩
            replace B := Lib.hid (B.out.trans (hb.mono B.out.size))
            clear hb hcall2 I
            go_wp2_with fail
            refine (hnx.out _).mono ?_; rintro x w3 ⟨rfl, hb⟩
            replace B := Lib.hid (B.out.trans (hb.mono B.out.size))
            clear hb hnx
            go_wp2_with fail
            go_ret2
            exact ⟨⟨_, rfl, ⟨rfl, .inl ⟨rfl, rfl⟩⟩⟩, B.out.alloc B.out.size _⟩
end Go.Proofs.YtiapkindbbbdpaaGreatDoor
