/- Exact's closures. -/
import Derived.Test.YtaidemghhagniaaGreatDoorD1
import Derived.Test.YtaidemghhagniaaGreatDoorJ3
import Derived.Test.YtaidemghhagniaaGreatDoorF19
import Derived.Lib.Hide
import Derived.OneCell
namespace Go.Proofs.YtaidemghhagniaaGreatDoor
open Go Go.RowKit
theorem own_store {w : World} {B e g n cap : Nat} {xs : List Value} (h : w.ownsRow B e 1 (.slice (some ⟨g, 0, none⟩) n cap) n xs) (i : Nat) (u : Value) : (w.setCell ⟨g, i, none⟩ u).ownsRow B e 1 (.slice (some ⟨g, 0, none⟩) n cap) n (xs.set i u) := by
  refine ⟨by rw [List.length_set]; exact h.1, .inr ?_⟩
  rcases h.2 with ⟨h0, _⟩ | ⟨g', cap', cur, hv, hb, hg, h1, h2, h3, h4⟩
  · cases h0
  · cases hv
    refine ⟨g, cap, cur.setIfInBounds i u, rfl, hb, ?_, h1, h2, by simp [h3], ?_⟩
    · simp [World.setCell, Array.getElem?_modify, hg]
    · rw [Array.toList_setIfInBounds, List.take_set, h4]
/-- Exact's number (of which so many digits are behind the point), in the variables nb and bb. -/
structure NumAt (w : World) (B nb bb : Nat) (l : List UInt8) (k : Nat) : Prop where
  row : ∃ g cap, RowT w B 5 g l.length cap (l.map enc8) ∧ w.heap[nb]? = some (.cells #[.slice (some ⟨g, 0, none⟩) l.length cap] 37 (0, 0))
  beh : w.heap[bb]? = some (.cells #[.int .i64 (k : Int)] 3 (0, 0))
theorem info5 : (Tryz.prog.info? 5).map (fun i => (i.zero, i.size, i.bytes)) = some (some (.int .u8 0), 1, 1) := by kernel_rfl
theorem cell_of_heap {w : World} {b : Nat} {v : Value} {t : TypeId} (h : w.heap[b]? = some (.cells #[v] t (0, 0))) : w.cell? ⟨b, 0, none⟩ = some v := by
  unfold World.cell?; rw [h]; rfl
theorem own_frozen {w : World} {B e g n cap : Nat} {xs : List Value} (h : w.ownsRow B e 1 (.slice (some ⟨g, 0, none⟩) n cap) n xs) (i : Nat) : w.frozen? ⟨g, i, none⟩ = false := by
  rcases h.2 with ⟨h0, _⟩ | ⟨g', cap', cur, hv, _, hg, _⟩
  · cases h0
  · cases hv
    unfold World.frozen?
    simp only [hg]
    simp
theorem RowT.row {w : World} {B e g n cap : Nat} {xs : List Value} {v : Value} (h : RowT w B e g n cap xs) (hv : v = .slice (some ⟨g, 0, none⟩) n cap) : Row w v xs := by
  subst hv
  refine .inr ⟨g, 0, cap, by rw [h.len], h.lt, by rw [h.len]; exact h.cap1, h.cap2, fun i hi => ?_⟩
  rw [Nat.zero_add, h.cell i (by rw [← h.len]; exact hi), List.getElem?_eq_getElem hi]
theorem row_one (B : Nat) (w : World) (u : Value) (h : B ≤ w.heap.size) : (w.alloc (.cells #[u] 5)).ownsRow B 5 1 (.slice (some ⟨w.heap.size, 0, none⟩) 1 1) 1 [u] :=
  ⟨rfl, .inr ⟨w.heap.size, 1, #[u], rfl, h, by show (w.heap.push _)[_]? = _; exact Array.getElem?_push_size, Nat.le_refl _, by decide, rfl, rfl⟩⟩
theorem own_block {W : World} {B e n : Nat} {v : Value} {xs : List Value} (h : W.ownsRow B e 1 v n xs) (h0 : 0 < n) : ∃ g cap, v = .slice (some ⟨g, 0, none⟩) n cap := by
  rcases h.2 with ⟨_, h1⟩ | ⟨g, cap, cur, h1, _⟩
  · omega
  · exact ⟨g, cap, h1⟩
theorem keep_at {w w3 : World} {a : Nat} {o : Obj} {c n cap : Nat} {x : Obj} (hk : ∀ row, (Value.slice (some ⟨a, 0, none⟩) n cap).ownBlock ≠ some row → row < (w.alloc o).heap.size → w3.heap[row]? = (w.alloc o).heap[row]?) (h1 : a ≠ c) (h2 : c < w.heap.size) (h3 : w.heap[c]? = some x) : w3.heap[c]? = some x := by
  rw [hk c (fun e => h1 (Option.some.inj e)) (by simp; omega), Below.heap_alloc _ _ _ h2, h3]
theorem frozen_of {w : World} {b : Nat} {v : Value} {t : TypeId} (h : w.heap[b]? = some (.cells #[v] t (0, 0))) : w.frozen? ⟨b, 0, none⟩ = false := by
  unfold World.frozen?; simp only [h]; simp
theorem own_ne {w : World} {B e g n cap b : Nat} {xs : List Value} {v : Value} {t : TypeId} (h : w.ownsRow B e 1 (.slice (some ⟨g, 0, none⟩) n cap) n xs) (hb : w.heap[b]? = some (.cells #[v] t (0, 0))) (hne : e ≠ t) : g ≠ b := by
  rcases h.2 with ⟨h0, _⟩ | ⟨g', cap', cur, hv, _, hg, _⟩
  · cases h0
  · cases hv
    intro e; rw [e, hb] at hg
    simp only [Option.some.injEq, Obj.cells.injEq] at hg
    exact hne hg.2.1.symm
theorem set_heap {w : World} {b : Nat} {v : Value} {t : TypeId} (h : w.heap[b]? = some (.cells #[v] t (0, 0))) (u : Value) : (w.setCell ⟨b, 0, none⟩ u).heap[b]? = some (.cells #[u] t (0, 0)) := by
  simp [World.setCell, Array.getElem?_modify, h]
theorem enc8_all {l : List UInt8} : ∀ c ∈ l.map enc8, c.oneCell' = true := by
  intro c hc
  obtain ⟨x, _, rfl⟩ := List.mem_map.1 hc
  exact enc8_one x
theorem set_mid (l T : List UInt8) (i : Nat) (h : i < l.length) (u : UInt8) : (l.take (i + 1) ++ T).set i u = l.take i ++ u :: T := by
  rw [List.take_add_one, List.getElem?_eq_getElem h]
  show (l.take i ++ [l[i]] ++ T).set i u = _
  have hl : (l.take i).length = i := List.length_take_of_le (by omega)
  rw [List.append_assoc, List.set_append_right _ _ (by omega), hl, Nat.sub_self]
  rfl
theorem heap_oth {A : World} {a : Addr} {k : Nat} (v : Value) (h : k ≠ a.block) : (A.setCell a v).heap[k]? = A.heap[k]? := Below.heap_setCell _ a v k h
set_option maxRecDepth 100000 in
set_option maxHeartbeats 2000000 in
theorem double_any (B nb bb : Nat) (l : List UInt8) (k : Nat) (w : World) (hl : l.length ≤ 2000) (hd : DigL l) (h : NumAt w B nb bb l k) (hb1 : B ≤ nb) (hne : nb ≠ bb) :
    Calls Tryz.prog 29 #[.pointer (some ⟨nb, 0, none⟩)] w fun e w' => e = .returned (.tuple #[]) ∧ NumAt w' B nb bb (dblL l) k ∧ Below B w w' := by
  obtain ⟨⟨g, cap, hrow, hnb⟩, hbb⟩ := h
  have c1 := cell_of_heap hnb
  obtain ⟨n, hn⟩ : ∃ n, n = l.length := ⟨_, rfl⟩
  rw [← hn] at hrow c1 hl
  have D0 : Hid (l.drop n = []) := Lib.hid (by rw [hn]; exact List.drop_length)
  have I0 : Hid (RowT w B 5 g n cap ((l.take n ++ (dblC (l.drop n)).1).map enc8)) := Lib.hid (by
    rw [D0.out, show l.take n = l by rw [hn, List.take_length]]
    show RowT w B 5 g n cap ((l ++ []).map enc8)
    rw [List.append_nil]; exact hrow)
  have hgn : g ≠ nb := hrow.ne hnb (by decide)
  have hgb : g ≠ bb := hrow.ne hbb (by decide)
  have hgB : B ≤ g := hrow.low
  replace hn := Lib.hid hn
  replace hrow := Lib.hid hrow
  replace hnb := Lib.hid hnb
  replace hbb := Lib.hid hbb
  go_enter Tryz.func29, Tryz.ntmps29
  go_wp2_with fail
  go_loopg [1, 2, 3] (n + 1) (fun gk s1 s2 s3 wx => ∃ (j : Nat), j < gk ∧ j ≤ n ∧ s1 = .int .u8 ((dblC (l.drop j)).2 : Int) ∧ s2 = .int .i64 ((j : Int) - 1) ∧ Hid (RowT wx B 5 g n cap ((l.take j ++ (dblC (l.drop j)).1).map enc8)) ∧ Hid (wx.heap[nb]? = w.heap[nb]?) ∧ Hid (wx.heap[bb]? = w.heap[bb]?) ∧ Hid (Below B w wx))
  case atStart => exact ⟨n, by omega, by omega, by rw [D0.out]; rfl, by go_num, I0, Lib.hid rfl, Lib.hid rfl, Lib.hid (Below.refl _ _)⟩
  case round =>
    obtain ⟨j, hjg, hjn, rfl, rfl, I, N1, N2, BB⟩ := hrel
    have hnbw : Hid (wr.heap[nb]? = some (.cells #[.slice (some ⟨g, 0, none⟩) n cap] 37 (0, 0))) := Lib.hid (by rw [N1.out, hnb.out, ← hn.out])
    have hc1 : wr.cell? ⟨nb, 0, none⟩ = some (.slice (some ⟨g, 0, none⟩) n cap) := cell_of_heap hnbw.out
    clear I0 D0 c1
    by_cases hj : j = 0
    · subst hj
      rw [List.drop_zero] at I ⊢
      rw [List.take_zero, List.nil_append] at I
      rw [show (((0 : Nat) : Int) - 1) = -1 from rfl]
      obtain ⟨d1, d2, d3⟩ := dblC_bd l hd
      have hdef : dblL l = if (dblC l).2 = 0 then (dblC l).1 else UInt8.ofNat (48 + (dblC l).2) :: (dblC l).1 := rfl
      obtain ⟨r, hr⟩ : ∃ r, r = (dblC l).2 := ⟨_, rfl⟩
      obtain ⟨T, hT⟩ : ∃ T, T = (dblC l).1 := ⟨_, rfl⟩
      rw [← hr, ← hT] at hdef
      rw [← hr] at d1 ⊢
      rw [← hT] at I d3
      by_cases hr0 : r = 0
      · rw [if_pos hr0] at hdef
        subst hr0
        rw [show ((0 : Nat) : Int) = 0 from rfl]
        have hfin : Hid (NumAt wr B nb bb (dblL l) k ∧ Below B w wr) := Lib.hid ⟨⟨⟨g, cap, by rw [hdef, d3, ← hn.out]; exact I.out, by rw [hdef, d3, ← hn.out]; exact hnbw.out⟩, by rw [N2.out]; exact hbb.out⟩, BB.out⟩
        clear hdef d1 d2 d3 hr hT hjg hjn
        go_wp2_with fail
        go_end0
        exact ⟨rfl, hfin.out⟩
      · obtain rfl : r = 1 := by omega
        rw [if_neg (by decide)] at hdef
        rw [show ((1 : Nat) : Int) = 1 from rfl]
        have hsz : nb < wr.heap.size := by
          rcases Nat.lt_or_ge nb wr.heap.size with h | h
          · exact h
          · have := hnbw.out; rw [Array.getElem?_eq_none h] at this; cases this
        have hsb : bb < wr.heap.size := by
          rcases Nat.lt_or_ge bb wr.heap.size with h | h
          · exact h
          · have := N2.out; rw [Array.getElem?_eq_none h, hbb.out] at this; cases this
        clear hr hT hjg hjn
        replace hdef := Lib.hid hdef
        replace d3 := Lib.hid d3
        have hI1 : (wr.alloc (.cells #[.int .u8 49] 5)).ownsRow B 5 1 (.slice (some ⟨wr.heap.size, 0, none⟩) 1 1) 1 [.int .u8 49] := row_one B wr (.int .u8 49) (by omega)
        have hI2 : Row (wr.alloc (.cells #[.int .u8 49] 5)) (.slice (some ⟨g, 0, none⟩) n cap) (T.map enc8) := by
          exact RowT.row (I.out.oth (Below.heap_alloc _ _ _ I.out.lt)) rfl
        have hlen : Hid ((T.map enc8).length = n) := Lib.hid (by rw [List.length_map, d3.out, hn.out])
        have hbig : (1 + (T.map enc8).length) * 1 ≤ 140737488355328 := by rw [hlen.out]; omega
        have hBs : B ≤ (wr.alloc (.cells #[.int .u8 49] 5)).heap.size := by simp; omega
        replace hI1 := Lib.hid hI1
        replace hI2 := Lib.hid hI2
        replace hbig := Lib.hid hbig
        go_wp2_with (at_builtin; go_must (refine app_all rfl (.tmp 31) (.tmp 32) 37 rfl B 5 (.int .u8 0) 1 Tryz.underlying37 info5 rfl _ 1 _ rfl _ _ rfl hI1.out hI2.out enc8_all (by omega) hbig.out hBs ?_); rintro v2 w3 hown' hb3 hkeep _; rw [hlen.out] at hown'; obtain ⟨g2, cap2, rfl⟩ := own_block hown' (by omega); have q1 := keep_at hkeep (by omega) hsz hnbw.out; have q2 := keep_at hkeep (by omega) hsb (N2.out.trans hbb.out); have q3 := cell_of_heap q1; have q4 := frozen_of q1; have Q1 := Lib.hid q1; have Q2 := Lib.hid q2; have hown := Lib.hid hown'; have hb4 := Lib.hid hb3; clear hown' hb3 hkeep q1 q2)
        go_end0
        have hg2 : g2 ≠ nb := own_ne hown.out Q1.out (by decide)
        have hdl : (dblL l).length = 1 + n := by rw [hdef.out, List.length_cons, d3.out, ← hn.out, Nat.add_comm]
        have hmap : (dblL l).map enc8 = [.int .u8 49] ++ T.map enc8 := by rw [hdef.out]; rfl
        refine ⟨rfl, ⟨⟨g2, cap2, ?_, ?_⟩, ?_⟩, ?_⟩
        · rw [hdl, hmap]
          exact (RowT.of_own hown.out).oth (heap_oth _ hg2)
        · rw [hdl]; exact set_heap Q1.out _
        · rw [heap_oth _ (Ne.symm hne)]; exact Q2.out
        · exact (BB.out.trans (((Below.refl B wr).alloc (by omega) _).trans hb4.out)).setCell hb1 _
    · obtain ⟨i, rfl⟩ : ∃ i, j = i + 1 := ⟨j - 1, by omega⟩
      rw [show (((i + 1 : Nat) : Int) - 1) = (i : Int) by omega]
      have hil : i < l.length := by rw [← hn.out]; omega
      have hfz := I.out.frozen i (Nat.lt_of_lt_of_le (by omega) I.out.cap1)
      have hat := dblC_at l i hil
      have hbd := dblC_bd (l.drop (i + 1)) (fun x hx => hd x (List.mem_of_mem_drop hx))
      have hcell : wr.cell? ⟨g, i, none⟩ = some (enc8 (l.getD i 0)) := by
        rw [I.out.cell i (by omega)]
        rw [List.getElem?_map, List.getElem?_append_left (by rw [List.length_take]; omega), List.getElem?_take, if_pos (by omega), List.getElem?_eq_getElem hil, List.getD_eq_getElem?_getD, List.getElem?_eq_getElem hil]; rfl
      have hx := hd (l.getD i 0) (by rw [List.getD_eq_getElem?_getD, List.getElem?_eq_getElem hil]; exact List.getElem_mem _)
      obtain ⟨c, hc⟩ : ∃ c, c = l.getD i 0 := ⟨_, rfl⟩
      obtain ⟨r, hr⟩ : ∃ r, r = (dblC (l.drop (i + 1))).2 := ⟨_, rfl⟩
      rw [← hc] at hat hcell hx
      rw [← hr] at hat hbd ⊢
      obtain ⟨x, hxc⟩ : ∃ x, x = c.toNat := ⟨_, rfl⟩
      have hcell2 : wr.cell? ⟨g, i, none⟩ = some (.int .u8 (x : Int)) := by rw [hcell, hxc]; rfl
      rw [← hxc] at hx hat
      obtain ⟨hx1, hx2⟩ := hx
      have hr1 := hbd.1
      obtain ⟨y, hy⟩ : ∃ y, y = 2 * (x - 48) + r := ⟨_, rfl⟩
      have y1 : (2 : Int) * ((x : Int) - 48) + (r : Int) = (y : Int) := by omega
      have y2 : y ≤ 19 := by omega
      rw [← hy] at hat
      have x1 : (48 : Int) ≤ x := by omega
      have x2 : (x : Int) ≤ 57 := by omega
      have r1 : (r : Int) ≤ 1 := by omega
      have i1 : decide ((0 : Int) ≤ (i : Int)) = true := decide_eq_true (by omega)
      replace hat := Lib.hid hat
      replace hbd := Lib.hid hbd
      replace hil := Lib.hid hil
      clear hcell hc hr hxc hy
      go_wp2_with fail
      have hnext : ∀ v : Value, v = .int .u8 (48 + (y : Int) % 10) → Hid (RowT (wr.setCell ⟨g, i, none⟩ v) B 5 g n cap ((l.take i ++ (dblC (l.drop i)).1).map enc8)) := by
        intro v hv
        have := I.out.store i v
        rw [hat.out]
        have he : v = enc8 (UInt8.ofNat (48 + y % 10)) := by rw [hv]; unfold enc8; rw [ofNat_to _ (by omega)]; rfl
        rw [he] at this ⊢
        rw [← List.map_set, set_mid l _ i hil.out] at this
        exact Lib.hid this
      go_roundg (gk - 1)
      case measure => omega
      case rel => exact ⟨i, by omega, by omega, by rw [hat.out]; go_num, by go_num, hnext _ rfl, Lib.hid ((heap_oth _ (Ne.symm hgn)).trans N1.out), Lib.hid ((heap_oth _ (Ne.symm hgb)).trans N2.out), Lib.hid (BB.out.setCell hgB _)⟩
theorem set_hlv (A l : List UInt8) (i : Nat) (hA : A.length = i) (h : i < l.length) (u : UInt8) : (A ++ l.drop i).set i u = (A ++ [u]) ++ l.drop (i + 1) := by
  rw [List.drop_eq_getElem_cons h, List.set_append_right _ _ (by omega), hA, Nat.sub_self]
  show A ++ (u :: l.drop (i + 1)) = _
  rw [List.append_assoc]; rfl
set_option maxRecDepth 100000 in
set_option maxHeartbeats 2000000 in
theorem halve_any (B nb bb : Nat) (l : List UInt8) (k : Nat) (w : World) (hl : l.length ≤ 2000) (hk : k ≤ 2000) (hd : DigL l) (h : NumAt w B nb bb l k) (hb1 : B ≤ nb) (hb2 : B ≤ bb) (hne : nb ≠ bb) :
    Calls Tryz.prog 30 #[.pointer (some ⟨nb, 0, none⟩), .pointer (some ⟨bb, 0, none⟩)] w fun e w' => e = .returned (.tuple #[]) ∧ NumAt w' B nb bb (hlvL l) (k + hlvK l) ∧ Below B w w' := by
  obtain ⟨⟨g, cap, hrow, hnb⟩, hbb⟩ := h
  have c1 := cell_of_heap hnb
  obtain ⟨n, hn⟩ : ∃ n, n = l.length := ⟨_, rfl⟩
  rw [← hn] at hrow c1 hl
  have hgn : g ≠ nb := hrow.ne hnb (by decide)
  have hgb : g ≠ bb := hrow.ne hbb (by decide)
  have hgB : B ≤ g := hrow.low
  have I0 : Hid (RowT w B 5 g n cap ((([] : List UInt8) ++ l.drop 0).map enc8)) := Lib.hid (by rw [List.drop_zero, List.nil_append]; exact hrow)
  replace hn := Lib.hid hn
  replace hrow := Lib.hid hrow
  replace hnb := Lib.hid hnb
  replace hbb := Lib.hid hbb
  go_enter Tryz.func30, Tryz.ntmps30
  go_wp2_with fail
  go_loopg [2, 3, 4, 7] (n + 1) (fun gk s2 s3 s4 s7 wx => ∃ (i r : Nat) (A : List UInt8), n - i < gk ∧ i ≤ n ∧ r ≤ 1 ∧ s2 = .int .u8 (r : Int) ∧ s7 = .int .i64 (i : Int) ∧ Hid (A.length = i) ∧ Hid (hlvC 0 l = (A ++ (hlvC r (l.drop i)).1, (hlvC r (l.drop i)).2)) ∧ Hid (RowT wx B 5 g n cap ((A ++ l.drop i).map enc8)) ∧ Hid (wx.heap[nb]? = w.heap[nb]?) ∧ Hid (wx.heap[bb]? = w.heap[bb]?) ∧ Hid (Below B w wx))
  case atStart => exact ⟨0, 0, [], by omega, by omega, by omega, rfl, rfl, Lib.hid rfl, Lib.hid (by rw [List.drop_zero]; rfl), I0, Lib.hid rfl, Lib.hid rfl, Lib.hid (Below.refl _ _)⟩
  case round =>
    obtain ⟨i, r, A, hig, hin, hr1, rfl, rfl, hA, hC, I, N1, N2, BB⟩ := hrel
    have hnbw : Hid (wr.heap[nb]? = some (.cells #[.slice (some ⟨g, 0, none⟩) n cap] 37 (0, 0))) := Lib.hid (by rw [N1.out, hnb.out, ← hn.out])
    have hc1 : wr.cell? ⟨nb, 0, none⟩ = some (.slice (some ⟨g, 0, none⟩) n cap) := cell_of_heap hnbw.out
    clear I0 c1
    by_cases hlt : i < n
    · have hil : i < l.length := by rw [← hn.out]; exact hlt
      have hat := hlvC_at r l i hil
      have hcell : wr.cell? ⟨g, i, none⟩ = some (enc8 (l.getD i 0)) := by
        rw [I.out.cell i (by omega)]
        rw [List.getElem?_map, List.getElem?_append_right (by rw [hA.out]; exact Nat.le_refl _), hA.out, Nat.sub_self, List.getElem?_drop, Nat.add_zero, List.getElem?_eq_getElem hil, List.getD_eq_getElem?_getD, List.getElem?_eq_getElem hil]; rfl
      have hfz := I.out.frozen i (Nat.lt_of_lt_of_le (by omega) I.out.cap1)
      have hx := hd (l.getD i 0) (by rw [List.getD_eq_getElem?_getD, List.getElem?_eq_getElem hil]; exact List.getElem_mem _)
      obtain ⟨c, hc⟩ : ∃ c, c = l.getD i 0 := ⟨_, rfl⟩
      rw [← hc] at hat hcell hx
      obtain ⟨x, hxc⟩ : ∃ x, x = c.toNat := ⟨_, rfl⟩
      have hcell2 : wr.cell? ⟨g, i, none⟩ = some (.int .u8 (x : Int)) := by rw [hcell, hxc]; rfl
      rw [← hxc] at hx hat
      obtain ⟨hx1, hx2⟩ := hx
      obtain ⟨y, hy⟩ : ∃ y, y = 10 * r + (x - 48) := ⟨_, rfl⟩
      have y1 : (10 : Int) * (r : Int) + (x : Int) - 48 = (y : Int) := by omega
      have y2 : y ≤ 19 := by omega
      rw [← hy] at hat
      have x1 : (48 : Int) ≤ x := by omega
      have x2 : (x : Int) ≤ 57 := by omega
      have r1 : (r : Int) ≤ 1 := by omega
      have i1 : decide ((i : Int) < (n : Int)) = true := decide_eq_true (by omega)
      have i1' : decide (i < n) = true := decide_eq_true hlt
      have hC2 : Hid (hlvC 0 l = ((A ++ [UInt8.ofNat (48 + y / 2)]) ++ (hlvC (y % 2) (l.drop (i + 1))).1, (hlvC (y % 2) (l.drop (i + 1))).2)) := Lib.hid (by
        have := hC.out
        rw [hat] at this
        rw [this, List.append_assoc]; rfl)
      replace hil := Lib.hid hil
      have hA2 : Hid ((A ++ [UInt8.ofNat (48 + y / 2)]).length = i + 1) := Lib.hid (by rw [List.length_append, hA.out]; rfl)
      clear hcell hc hxc hy hat hC
      go_wp2_with fail
      have hnext : ∀ v : Value, v = .int .u8 (48 + (y : Int) / 2) → Hid (RowT (wr.setCell ⟨g, i, none⟩ v) B 5 g n cap (((A ++ [UInt8.ofNat (48 + y / 2)]) ++ l.drop (i + 1)).map enc8)) := by
        intro v hv
        have := I.out.store i v
        have he : v = enc8 (UInt8.ofNat (48 + y / 2)) := by rw [hv]; unfold enc8; rw [ofNat_to _ (by omega)]; rfl
        rw [he] at this ⊢
        rw [← List.map_set, set_hlv A l i hA.out hil.out] at this
        exact Lib.hid this
      go_roundg (gk - 1)
      case measure => omega
      case rel => exact ⟨i + 1, y % 2, A ++ [UInt8.ofNat (48 + y / 2)], by omega, by omega, by omega, by go_num, by go_num, hA2, hC2, hnext _ rfl, Lib.hid ((heap_oth _ (Ne.symm hgn)).trans N1.out), Lib.hid ((heap_oth _ (Ne.symm hgb)).trans N2.out), Lib.hid (BB.out.setCell hgB _)⟩
    · obtain rfl : i = n := by omega
      have hdr : l.drop i = [] := List.drop_of_length_le (by rw [hn.out]; exact Nat.le_refl _)
      have hC' := hC.out
      have I' := I.out
      rw [hdr] at hC' I'
      have i1 : decide ((i : Int) < (i : Int)) = false := decide_eq_false (by omega)
      rw [List.append_nil] at I'
      change hlvC 0 l = (A ++ [], r) at hC'
      rw [List.append_nil] at hC'
      have hdef : hlvL l = if r = 0 then A else A ++ [53] := by unfold hlvL; rw [hC']
      have hdeK : hlvK l = if r = 0 then 0 else 1 := by unfold hlvK; rw [hC']
      clear hC I hdr hC'
      by_cases hr0 : r = 0
      · rw [if_pos hr0] at hdef hdeK
        subst hr0
        rw [show ((0 : Nat) : Int) = 0 from rfl]
        have hfin : Hid (NumAt wr B nb bb (hlvL l) (k + hlvK l) ∧ Below B w wr) := Lib.hid ⟨⟨⟨g, cap, by rw [hdef, hA.out]; exact I', by rw [hdef, hA.out]; exact hnbw.out⟩, by rw [hdeK, N2.out]; exact hbb.out⟩, BB.out⟩
        clear hdef hdeK hig I'
        go_wp2_with fail
        go_end0
        exact ⟨rfl, hfin.out⟩
      · obtain rfl : r = 1 := by omega
        rw [if_neg (by decide)] at hdef hdeK
        rw [show ((1 : Nat) : Int) = 1 from rfl]
        have hsz : nb < wr.heap.size := by
          rcases Nat.lt_or_ge nb wr.heap.size with h | h
          · exact h
          · have := hnbw.out; rw [Array.getElem?_eq_none h] at this; cases this
        have hsb : bb < wr.heap.size := by
          rcases Nat.lt_or_ge bb wr.heap.size with h | h
          · exact h
          · have := N2.out; rw [Array.getElem?_eq_none h, hbb.out] at this; cases this
        have hBs : B ≤ wr.heap.size := by omega
        have hk1 : (k : Int) ≤ 2000 := by omega
        clear hig
        replace hdef := Lib.hid hdef
        replace hdeK := Lib.hid hdeK
        replace I' := Lib.hid I'
        go_wp2_with (at_builtin; go_must (refine app_oneT rfl (.tmp 29) (.tmp 30) 37 rfl (u := .int .u8 53) B (.int .u8 0) Tryz.underlying37 info5 rfl g i cap _ rfl rfl I'.out rfl (by omega) hBs ?_); rintro g2 cap2 w3 hown' hb3 hkeep; have q1 := (hkeep nb (Ne.symm hgn) hsz).trans hnbw.out; have q2 := (hkeep bb (Ne.symm hgb) hsb).trans (N2.out.trans hbb.out); have q3 := cell_of_heap q1; have q4 := frozen_of q1; have q5 := cell_of_heap q2; have q6 := frozen_of q2; have Q1 := Lib.hid q1; have Q2 := Lib.hid q2; have hown := Lib.hid hown'; have hb4 := Lib.hid hb3; clear hown' hb3 hkeep q1 q2)
        go_end0
        have hg2 : g2 ≠ nb := hown.out.ne Q1.out (by decide)
        have hg3 : g2 ≠ bb := hown.out.ne Q2.out (by decide)
        have hdl : (hlvL l).length = i + 1 := by rw [hdef.out, List.length_append, hA.out]; rfl
        have hmap : (hlvL l).map enc8 = A.map enc8 ++ [.int .u8 53] := by rw [hdef.out, List.map_append]; rfl
        refine ⟨rfl, ⟨⟨g2, cap2, ?_, ?_⟩, ?_⟩, ?_⟩
        · rw [hdl, hmap]
          exact (hown.out.oth (heap_oth (a := ⟨nb, 0, none⟩) _ hg2)).oth (heap_oth (a := ⟨bb, 0, none⟩) _ hg3)
        · rw [hdl, heap_oth _ hne]; exact set_heap Q1.out _
        · rw [hdeK.out]
          exact set_heap ((heap_oth _ (Ne.symm hne)).trans Q2.out) _
        · exact ((BB.out.trans hb4.out).setCell hb1 _).setCell hb2 _
end Go.Proofs.YtaidemghhagniaaGreatDoor
