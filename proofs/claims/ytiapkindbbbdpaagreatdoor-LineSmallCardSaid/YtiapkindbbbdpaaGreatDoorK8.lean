/- The contract of line.next over the translation. -/
import Derived.Test.YtiapkindbbbdpaaGreatDoorK7
namespace Go.Proofs.YtiapkindbbbdpaaGreatDoor
open Go.RowKit

/-- How many bytes are ahead of the first that ends a word. -/
def wordN (l : List UInt8) : Nat := (l.takeWhile (fun c => !endc c)).length
/-- What next returns: the error, the text, whether it is quoted, the rest. -/
def nextF (l : List UInt8) : Int × List UInt8 × Bool × List UInt8 :=
  if l.getD 0 0 = 34 then
    if (quF l).1 ≠ 0 ∨ rightF ⟨(quF l).2.1.toArray⟩ true = false then (251, [], false, [])
    else if endsF l (quF l).2.2 = false then (252, [], false, [])
    else (0, (quF l).2.1, true, l.drop (quF l).2.2)
  else if bareF ⟨(l.take (wordN l)).toArray⟩ = false then (250, [], false, []) else (0, l.take (wordN l), false, l.drop (wordN l))
theorem wordN_eq (l : List UInt8) (n : Nat) (h : (l.take n).all (fun c => !endc c) = true) (hn : n ≤ l.length) (he : endsF l n = true) : wordN l = n := by
  unfold wordN
  induction l generalizing n with
  | nil => simp at hn; subst hn; rfl
  | cons c l ih =>
    cases n with
    | zero =>
      have hc : endc c = true := by simpa [endsF] using he
      rw [List.takeWhile_cons, hc]
      rfl
    | succ n =>
      rw [List.take_succ_cons, List.all_cons, Bool.and_eq_true] at h
      rw [List.takeWhile_cons, h.1]
      have := ih n h.2 (by simpa using hn) (by simpa [endsF] using he)
      simp [this]
theorem not_end (l : List UInt8) (n : Nat) (h : endsF l n = false) : n < l.length ∧ endc (l.getD n 0) = false := by
  unfold endsF at h
  rw [Bool.or_eq_false_iff] at h
  exact ⟨by simpa using h.1, h.2⟩
theorem ba_ext {a : ByteArray} {l : List UInt8} (h : a.data.toList = l) : a = ⟨l.toArray⟩ := by subst h; cases a; simp
/-- The world behind a store of a word into a block of two cells. -/
def resW (W : World) (b : Nat) (v0 v1 : Value) : World := (W.setCell ⟨b, 0, none⟩ v0).setCell ⟨b, 1, none⟩ v1
/-- A word in a block of its own. -/
def WdAt (W : World) (b : Nat) (t : ByteArray) (q : Bool) : Prop := W.heap[b]? = some (.cells #[.string t, .bool q] 29 (0, 0))
theorem WdAt.cells {W : World} {b : Nat} {t : ByteArray} {q : Bool} (h : WdAt W b t q) : (W.cell? ⟨b, 0, none⟩ = some (.string t) ∧ W.cell? ⟨b, 1, none⟩ = some (.bool q)) ∧ W.frozen? ⟨b, 0, none⟩ = false ∧ W.frozen? ⟨b, 1, none⟩ = false := by
  rw [Lib.cell_of_heap h, Lib.cell_of_heap h]
  exact ⟨⟨rfl, rfl⟩, Lib.frozen_of_heap h 0, Lib.frozen_of_heap h 1⟩
theorem WdAt.block {W W' : World} {b : Nat} {t : ByteArray} {q : Bool} (h : WdAt W b t q) (hb : Below W.heap.size W W') : WdAt W' b t q := (hb.block b (Array.getElem?_eq_some_iff.1 h).1).trans h
theorem WdAt.res {W : World} {b : Nat} {t : ByteArray} {q : Bool} (h : WdAt W b t q) (t2 : ByteArray) (q2 : Bool) : WdAt (resW W b (.string t2) (.bool q2)) b t2 q2 := by
  unfold WdAt resW World.setCell at *
  simp [Array.getElem?_modify, h]
theorem resW_below {w W : World} {b : Nat} {v0 v1 : Value} (h : Below w.heap.size w W) (hb : w.heap.size ≤ b) : Below w.heap.size w (resW W b v0 v1) :=
  (h.setCell (p := ⟨b, 0, none⟩) hb _).setCell (p := ⟨b, 1, none⟩) hb _
theorem wd_new (W : World) (t : ByteArray) (q : Bool) : WdAt (W.alloc (.cells #[.string t, .bool q] 29)) W.heap.size t q := World.alloc_heap_new _ _
theorem quF_le (l : List UInt8) (h : (quF l).1 = 0) : (quF l).2.2 ≤ l.length ∧ (quF l).2.1.length ≤ l.length := by
  have h2 := rdq_le (l.drop 1)
  rw [List.length_drop] at h2
  unfold quF comb at h ⊢
  generalize rdq (l.drop 1) = R at h h2 ⊢
  by_cases g : R.1 = 0
  · have := h2 g
    simp only [g, if_true, List.nil_append, Nat.zero_add]
    omega
  · simp [g] at h
theorem quF_none (l : List UInt8) (h : (quF l).1 ≠ 0) : (quF l).2.1 = [] := by
  unfold quF at h ⊢
  split
  · rename_i g
    rw [if_pos g] at h
    exact absurd rfl h
  · rfl
theorem quote_to (s : ByteArray) (hs : s.size ≤ 65536) (h0 : 0 < s.size) (hq : s.data.toList.getD 0 0 = 34) (e : Int) (t : List UInt8) (n : Nat) (h : quF s.data.toList = (e, t, n)) (w : World) : Calls Tryz.prog 60 #[.string s, .int .i64 0] w fun x w' => x = .returned (.tuple #[.string ⟨t.toArray⟩, .int .i64 n, .int .i64 e]) ∧ Below w.heap.size w w' := by
  have := quote_any s hs h0 hq w
  rw [h] at this
  exact this
theorem right_to (s : ByteArray) (q : Bool) (hs : s.size ≤ 4611686018427387904) (b : Bool) (h : rightF s q = b) (w : World) : Calls Tryz.prog 14 #[.agg #[.string s, .bool q]] w fun e w' => e = .returned (.bool b) ∧ Below w.heap.size w w' := by
  rw [← h]; exact right_any s q hs w
set_option maxRecDepth 100000 in
set_option maxHeartbeats 2000000 in
theorem next_any (s : ByteArray) (hs : s.size ≤ 65536) (h0 : 0 < s.size) (e : Int) (t r : List UInt8) (q : Bool) (hN : nextF s.data.toList = (e, t, q, r)) (w : World) :
    Calls Tryz.prog 38 #[.string s] w fun x w' => x = .returned (.tuple #[.agg #[.string ⟨t.toArray⟩, .bool q], .string ⟨r.toArray⟩, .int .i64 e]) ∧ Below w.heap.size w w' := by
  replace hN := Lib.hid hN
  have hB := byt_eq s 0 h0
  by_cases hq : s.data.toList.getD 0 0 = 34
  · rw [show byt s 0 = 34 by unfold byt; rw [hq]; rfl] at hB
    obtain ⟨e2, tt, n2, hqu⟩ : ∃ e2 tt n2, Hid (quF s.data.toList = (e2, tt, n2)) := ⟨_, _, _, rfl⟩
    have hNN := hN.out
    unfold nextF at hNN
    rw [if_pos hq, hqu.out] at hNN
    simp only at hNN
    have hc : ((w.alloc (.cells #[.string s] 9)).alloc (.cells #[.string ⟨#[]⟩, .bool false] 29)).cell? ⟨w.heap.size, 0, none⟩ = some (.string s) := by simp [go_sem]
    have hsz : ((w.alloc (.cells #[.string s] 9)).alloc (.cells #[.string ⟨#[]⟩, .bool false] 29)).heap.size = w.heap.size + 2 := by simp
    have hr : Hid (WdAt ((w.alloc (.cells #[.string s] 9)).alloc (.cells #[.string ⟨#[]⟩, .bool false] 29)) (w.alloc (.cells #[.string s] 9)).heap.size ⟨#[]⟩ false) := wd_new _ _ _
    rw [show (w.alloc (.cells #[.string s] 9)).heap.size = w.heap.size + 1 by simp] at hr
    have B0 : Hid (Below w.heap.size w ((w.alloc (.cells #[.string s] 9)).alloc (.cells #[.string ⟨#[]⟩, .bool false] 29))) := ((Below.refl _ _).alloc (Nat.le_refl _) _).alloc (by simp) _
    go_enter Tryz.func38, Tryz.ntmps38
    go_upto_region 3 with (fail)
    generalize ((w.alloc (.cells #[.string s] 9)).alloc (.cells #[.string ⟨#[]⟩, .bool false] 29)) = w0 at hc hr B0 hsz ⊢
    go_wp2_with fail
    refine (quote_to s hs h0 hq e2 tt n2 hqu.out _).mono ?_; rintro x w1 ⟨rfl, hb1⟩
    go_upto_region 5 with (fail)
    show Code.wp _ _ _ _ (w1.alloc (.cells #[.string ⟨tt.toArray⟩, .bool true] 29))
    have hw9 := Lib.hid (wd_new w1 ⟨tt.toArray⟩ true)
    have hb2 := hb1.alloc hb1.size (.cells #[.string ⟨tt.toArray⟩, .bool true] 29)
    replace hr := Lib.hid (hr.out.block hb2)
    replace hc := (hb2.cell (p := ⟨w.heap.size, 0, none⟩) (by simp; omega)).trans hc
    replace B0 := Lib.hid (B0.out.trans (hb2.mono B0.out.size))
    have hne9 : w.heap.size + 1 < w1.heap.size := by have := hb1.size; omega
    clear hb1 hb2 hsz
    generalize w1.alloc (.cells #[.string ⟨tt.toArray⟩, .bool true] 29) = w2 at hw9 hr hc B0 ⊢
    generalize w1.heap.size = N9 at hw9 hne9 ⊢
    by_cases he : e2 = 0
    · subst he
      have hle := quF_le s.data.toList (by rw [hqu.out])
      rw [hqu.out, show s.data.toList.length = s.size by simp] at hle
      simp only at hle
      have hts : (⟨tt.toArray⟩ : ByteArray).size ≤ 4611686018427387904 := by show tt.toArray.size ≤ _; rw [List.size_toArray]; omega
      obtain ⟨bb, hbb⟩ : ∃ bb, Hid (rightF ⟨tt.toArray⟩ true = bb) := ⟨_, rfl⟩
      rw [hbb.out] at hNN
      obtain ⟨⟨x0, x1⟩, _⟩ := hw9.out.cells
      cases bb with
      | false =>
        rw [if_pos (.inr rfl)] at hNN
        simp only [Prod.mk.injEq] at hNN
        obtain ⟨rfl, rfl, rfl, rfl⟩ := hNN
        go_wp2_with fail
        refine (right_to _ true hts false hbb.out _).mono ?_; rintro x w3 ⟨rfl, hb3⟩
        replace hr := Lib.hid (hr.out.block hb3)
        replace B0 := Lib.hid (B0.out.trans (hb3.mono B0.out.size))
        clear hb3 x0 x1 hc hw9
        obtain ⟨⟨d0, d1⟩, f0, f1⟩ := hr.out.cells
        go_wp2_with fail
        show bodyPost _ _ _ _ _ (resW w3 (w.heap.size + 1) (.string ⟨#[]⟩) (.bool false))
        have R := (hr.out.res ⟨#[]⟩ false).cells
        have WB := resW_below (v0 := .string ⟨#[]⟩) (v1 := .bool false) B0.out (show w.heap.size ≤ w.heap.size + 1 by omega)
        generalize resW w3 (w.heap.size + 1) (.string ⟨#[]⟩) (.bool false) = WE at R WB ⊢
        exact bodyPost_ret (v := .tuple #[.agg #[.string ⟨#[]⟩, .bool false], .string ⟨#[]⟩, .int .i64 251]) (by simp [results, Tryz.results38, go_sem, R]) rfl ⟨rfl, WB⟩
      | true =>
        rw [if_neg (by simp)] at hNN
        go_wp2_with fail
        refine (right_to _ true hts true hbb.out _).mono ?_; rintro x w3 ⟨rfl, hb3⟩
        have hl2 : w.heap.size < w2.heap.size := by have := (Array.getElem?_eq_some_iff.1 hr.out).1; omega
        replace hr := Lib.hid (hr.out.block hb3)
        replace hw9 := Lib.hid (hw9.out.block hb3)
        replace hc := (hb3.cell (p := ⟨w.heap.size, 0, none⟩) hl2).trans hc
        replace B0 := Lib.hid (B0.out.trans (hb3.mono B0.out.size))
        clear hb3 x0 x1
        obtain ⟨⟨d0, d1⟩, f0, f1⟩ := hr.out.cells
        obtain ⟨⟨x0, x1⟩, _⟩ := hw9.out.cells
        obtain ⟨be, hbe⟩ : ∃ be, Hid (endsF s.data.toList n2 = be) := ⟨_, rfl⟩
        have hcall := ends_any s n2 w.heap.size w3 hc
        rw [hbe.out] at hcall hNN
        replace hcall := Lib.hid hcall
        cases be with
        | false =>
          rw [if_pos rfl] at hNN
          simp only [Prod.mk.injEq] at hNN
          obtain ⟨rfl, rfl, rfl, rfl⟩ := hNN
          go_wp2_with fail
          refine hcall.out.mono ?_; rintro x w4 ⟨rfl, rfl⟩
          go_wp2_with fail
          show bodyPost _ _ _ _ _ (resW w3 (w.heap.size + 1) (.string ⟨#[]⟩) (.bool false))
          have R := (hr.out.res ⟨#[]⟩ false).cells
          have WB := resW_below (v0 := .string ⟨#[]⟩) (v1 := .bool false) B0.out (show w.heap.size ≤ w.heap.size + 1 by omega)
          generalize resW w3 (w.heap.size + 1) (.string ⟨#[]⟩) (.bool false) = WE at R WB ⊢
          exact bodyPost_ret (v := .tuple #[.agg #[.string ⟨#[]⟩, .bool false], .string ⟨#[]⟩, .int .i64 252]) (by simp [results, Tryz.results38, go_sem, R]) rfl ⟨rfl, WB⟩
        | true =>
          rw [if_neg (by simp)] at hNN
          simp only [Prod.mk.injEq] at hNN
          obtain ⟨rfl, rfl, rfl, rfl⟩ := hNN
          have hrest := Lib.hid (ba_ext (ex_drop s n2))
          have hle1 := hle.1
          go_wp2_with fail
          refine hcall.out.mono ?_; rintro x w4 ⟨rfl, rfl⟩
          go_upto_region 9 with (fail)
          go_region
          go_wp2_with fail
          show bodyPost _ _ _ _ _ (resW w3 (w.heap.size + 1) (.string ⟨tt.toArray⟩) (.bool true)).drew
          have R := (hr.out.res ⟨tt.toArray⟩ true).cells
          have WB := (resW_below (v0 := .string ⟨tt.toArray⟩) (v1 := .bool true) B0.out (show w.heap.size ≤ w.heap.size + 1 by omega)).drew
          have R' : ((resW w3 (w.heap.size + 1) (.string ⟨tt.toArray⟩) (.bool true)).drew.cell? ⟨w.heap.size + 1, 0, none⟩ = some (.string ⟨tt.toArray⟩) ∧ (resW w3 (w.heap.size + 1) (.string ⟨tt.toArray⟩) (.bool true)).drew.cell? ⟨w.heap.size + 1, 1, none⟩ = some (.bool true)) := R.1
          generalize (resW w3 (w.heap.size + 1) (.string ⟨tt.toArray⟩) (.bool true)).drew = WE at R' WB ⊢
          clear R
          exact bodyPost_ret (v := .tuple #[.agg #[.string ⟨tt.toArray⟩, .bool true], .string (s.extract n2 s.size), .int .i64 0]) (by simp [results, Tryz.results38, go_sem, R']) rfl ⟨by rw [hrest.out], WB⟩
    · have t5 : (e2 != 0) = true := by simpa using he
      rw [if_pos (.inl he)] at hNN
      simp only [Prod.mk.injEq] at hNN
      obtain ⟨rfl, rfl, rfl, rfl⟩ := hNN
      obtain ⟨⟨d0, d1⟩, f0, f1⟩ := hr.out.cells
      go_wp2_with fail
      show bodyPost _ _ _ _ _ (resW w2 (w.heap.size + 1) (.string ⟨#[]⟩) (.bool false))
      have R := (hr.out.res ⟨#[]⟩ false).cells
      have WB := resW_below (v0 := .string ⟨#[]⟩) (v1 := .bool false) B0.out (show w.heap.size ≤ w.heap.size + 1 by omega)
      generalize resW w2 (w.heap.size + 1) (.string ⟨#[]⟩) (.bool false) = WE at R WB ⊢
      exact bodyPost_ret (v := .tuple #[.agg #[.string ⟨#[]⟩, .bool false], .string ⟨#[]⟩, .int .i64 251]) (by simp [results, Tryz.results38, go_sem, R]) rfl ⟨rfl, WB⟩
  · have hb : byt s 0 ≠ 34 := by
      unfold byt
      exact fun e => hq (UInt8.toNat_inj.1 (by have : ((34 : UInt8).toNat : Int) = 34 := rfl; omega))
    have t1 : (byt s 0 == 34) = false := by simpa using hb
    have hz : s.data.toList.length = s.size := by simp
    obtain ⟨n0, hn0⟩ : ∃ n, Hid (wordN s.data.toList = n) := ⟨_, rfl⟩
    have hc : ((w.alloc (.cells #[.string s] 9)).alloc (.cells #[.string ⟨#[]⟩, .bool false] 29)).cell? ⟨w.heap.size, 0, none⟩ = some (.string s) := by simp [go_sem]
    have hr : Hid (WdAt ((w.alloc (.cells #[.string s] 9)).alloc (.cells #[.string ⟨#[]⟩, .bool false] 29)) (w.alloc (.cells #[.string s] 9)).heap.size ⟨#[]⟩ false) := wd_new _ _ _
    rw [show (w.alloc (.cells #[.string s] 9)).heap.size = w.heap.size + 1 by simp] at hr
    have B0 : Hid (Below w.heap.size w ((w.alloc (.cells #[.string s] 9)).alloc (.cells #[.string ⟨#[]⟩, .bool false] 29))) := ((Below.refl _ _).alloc (Nat.le_refl _) _).alloc (by simp) _
    go_enter Tryz.func38, Tryz.ntmps38
    go_upto_block 1 with (fail)
    generalize ((w.alloc (.cells #[.string s] 9)).alloc (.cells #[.string ⟨#[]⟩, .bool false] 29)) = w0 at hc hr B0 ⊢
    go_wp2_with fail
    go_loop [10] (fun s10 => ∃ n : Nat, n ≤ s.size ∧ s10 = .int .i64 n ∧ Hid ((s.data.toList.take n).all (fun c => !endc c) = true)) (fun v => s.size - (intOf v).toNat)
    case atStart => exact ⟨0, by omega, rfl, by show _ = _; simp⟩
    case round =>
      obtain ⟨n, hn, rfl, hA⟩ := hrel
      obtain ⟨b, hb⟩ : ∃ b, Hid (endsF s.data.toList n = b) := ⟨_, rfl⟩
      have hcall := ends_any s n w.heap.size w0 hc
      rw [hb.out] at hcall
      replace hcall := Lib.hid hcall
      cases b with
      | false =>
        have hne := not_end _ _ hb.out
        have hA2 := all_take s.data.toList (fun c => !endc c) n hne.1
        rw [hA.out, hne.2] at hA2
        replace hA2 := Lib.hid hA2
        rw [hz] at hne
        clear hA hb
        go_wp2_with fail
        refine hcall.out.mono ?_; rintro x w2 ⟨rfl, rfl⟩
        go_wp2_with fail
        go_round
        case measure => simp [intOf]; omega
        case rel => exact ⟨n + 1, by omega, by go_num, hA2⟩
      | true =>
        have hw := wordN_eq _ n hA.out (by omega) hb.out
        rw [hn0.out] at hw
        subst hw
        clear hA hb
        go_wp2_with fail
        refine hcall.out.mono ?_; rintro x w2 ⟨rfl, rfl⟩
        have hx : s.extract 0 n0 = ⟨(s.data.toList.take n0).toArray⟩ := ba_ext (ex_take s n0)
        have hxs : (s.extract 0 n0).size ≤ 4611686018427387904 := by rw [ByteArray.size_extract]; omega
        have hrest : s.extract n0 s.size = ⟨(s.data.toList.drop n0).toArray⟩ := ba_ext (ex_drop s n0)
        obtain ⟨⟨d0, d1⟩, f0, f1⟩ := hr.out.cells
        have hNN := hN.out
        unfold nextF at hNN
        rw [if_neg hq, hn0.out, ← hx] at hNN
        obtain ⟨bb, hbb⟩ : ∃ bb, Hid (bareF (s.extract 0 n0) = bb) := ⟨_, rfl⟩
        rw [hbb.out] at hNN
        cases bb with
        | false =>
          rw [if_pos rfl] at hNN
          simp only [Prod.mk.injEq] at hNN
          obtain ⟨rfl, rfl, rfl, rfl⟩ := hNN
          replace hx := Lib.hid hx
          clear hrest
          go_wp2_with fail
          refine (bare_to _ hxs false hbb.out _).mono ?_; rintro x w2 ⟨rfl, rfl⟩
          go_wp2_with fail
          show bodyPost _ _ _ _ _ (resW w0 (w.heap.size + 1) (.string ⟨#[]⟩) (.bool false))
          have R := (hr.out.res ⟨#[]⟩ false).cells
          have WB := resW_below (v0 := .string ⟨#[]⟩) (v1 := .bool false) B0.out (show w.heap.size ≤ w.heap.size + 1 by omega)
          generalize resW w0 (w.heap.size + 1) (.string ⟨#[]⟩) (.bool false) = WE at R WB ⊢
          exact bodyPost_ret (v := .tuple #[.agg #[.string ⟨#[]⟩, .bool false], .string ⟨#[]⟩, .int .i64 250]) (by simp [results, Tryz.results38, go_sem, R]) rfl ⟨rfl, WB⟩
        | true =>
          rw [if_neg (by simp)] at hNN
          simp only [Prod.mk.injEq] at hNN
          obtain ⟨rfl, rfl, rfl, rfl⟩ := hNN
          replace hx := Lib.hid hx
          replace hrest := Lib.hid hrest
          go_wp2_with fail
          refine (bare_to _ hxs true hbb.out _).mono ?_; rintro x w2 ⟨rfl, rfl⟩
          go_upto_region 15 with (fail)
          go_region
          go_wp2_with fail
          show bodyPost _ _ _ _ _ (resW w0 (w.heap.size + 1) (.string (s.extract 0 n0)) (.bool false)).drew
          have R := (hr.out.res (s.extract 0 n0) false).cells
          have WB := (resW_below (v0 := .string (s.extract 0 n0)) (v1 := .bool false) B0.out (show w.heap.size ≤ w.heap.size + 1 by omega)).drew
          have R' : ((resW w0 (w.heap.size + 1) (.string (s.extract 0 n0)) (.bool false)).drew.cell? ⟨w.heap.size + 1, 0, none⟩ = some (.string (s.extract 0 n0)) ∧ (resW w0 (w.heap.size + 1) (.string (s.extract 0 n0)) (.bool false)).drew.cell? ⟨w.heap.size + 1, 1, none⟩ = some (.bool false)) := R.1
          generalize (resW w0 (w.heap.size + 1) (.string (s.extract 0 n0)) (.bool false)).drew = WE at R' WB ⊢
          clear R
          exact bodyPost_ret (v := .tuple #[.agg #[.string (s.extract 0 n0), .bool false], .string (s.extract n0 s.size), .int .i64 0]) (by simp [results, Tryz.results38, go_sem, R']) rfl ⟨by rw [hx.out, hrest.out], WB⟩
end Go.Proofs.YtiapkindbbbdpaaGreatDoor
