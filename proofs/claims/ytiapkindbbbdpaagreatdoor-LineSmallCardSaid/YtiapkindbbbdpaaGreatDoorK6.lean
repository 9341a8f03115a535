/- The contracts of escape.pairs and read over the translation. -/
import Derived.Test.YtiapkindbbbdpaaGreatDoorK5
import Derived.BigQuiet
import Derived.Deep.LoopGhost
namespace Go.Proofs.YtiapkindbbbdpaaGreatDoor
open Go.RowKit

/-- What a letter behind a backslash stands for. -/
def esc (x : UInt8) : List UInt8 := if x = 92 then [92] else if x = 110 then [10] else if x = 34 then [34] else []
def comb (p : List UInt8) (k : Nat) (r : Int × List UInt8 × Nat) : Int × List UInt8 × Nat := if r.1 = 0 then (0, p ++ r.2.1, k + r.2.2) else (r.1, [], 0)
/-- What is read up to a quote: the error, the text, the offset. -/
def rdq : List UInt8 → Int × List UInt8 × Nat
  | [] => (222, [], 0)
  | [c] => if c = 10 then (223, [], 0) else if c = 34 then (0, [], 0) else (222, [], 0)
  | c :: x :: t => if c = 10 then (223, [], 0) else if c = 34 then (0, [], 0) else if c = 92 then if esc x = [] then (220, [], 0) else comb (esc x) 2 (rdq t) else comb [c] 1 (rdq (x :: t))
theorem comb_comb (p q : List UInt8) (j k : Nat) (r : Int × List UInt8 × Nat) : comb p j (comb q k r) = comb (p ++ q) (j + k) r := by
  unfold comb
  by_cases h : r.1 = 0
  · simp [h, Nat.add_assoc]
  · simp [h]
theorem drop_cons (l : List UInt8) (i : Nat) (h : i < l.length) : l.drop i = l.getD i 0 :: l.drop (i + 1) := by
  rw [List.drop_eq_getElem_cons h, List.getD_eq_getElem?_getD, List.getElem?_eq_getElem h]
  rfl
theorem rdq_feed (l : List UInt8) (i : Nat) (h : i < l.length) (hc : l.getD i 0 = 10) (p : List UInt8) : comb p i (rdq (l.drop i)) = (223, [], 0) := by
  rw [drop_cons l i h, hc]
  cases l.drop (i + 1) <;> rfl
theorem rdq_quote (l : List UInt8) (i : Nat) (h : i < l.length) (hc : l.getD i 0 = 34) (p : List UInt8) : comb p i (rdq (l.drop i)) = (0, p, i) := by
  rw [drop_cons l i h, hc]
  cases l.drop (i + 1) <;> simp [rdq, comb]
theorem rdq_end (l : List UInt8) (i : Nat) (h : l.length ≤ i) (p : List UInt8) : comb p i (rdq (l.drop i)) = (222, [], 0) := by
  rw [List.drop_of_length_le h]; rfl
theorem rdq_slash_end (l : List UInt8) (i : Nat) (h : i + 1 = l.length) (hc : l.getD i 0 = 92) (p : List UInt8) : comb p i (rdq (l.drop i)) = (222, [], 0) := by
  rw [drop_cons l i (by omega), hc, List.drop_of_length_le (by omega)]; rfl
theorem rdq_slash_no (l : List UInt8) (i : Nat) (h : i + 1 < l.length) (hc : l.getD i 0 = 92) (he : esc (l.getD (i + 1) 0) = []) (p : List UInt8) : comb p i (rdq (l.drop i)) = (220, [], 0) := by
  rw [drop_cons l i (by omega), hc, drop_cons l (i + 1) h, rdq, if_neg (by decide), if_neg (by decide), if_pos rfl, if_pos he]; rfl
theorem rdq_slash (l : List UInt8) (i : Nat) (h : i + 1 < l.length) (hc : l.getD i 0 = 92) (he : esc (l.getD (i + 1) 0) ≠ []) (p : List UInt8) : comb p i (rdq (l.drop i)) = comb (p ++ esc (l.getD (i + 1) 0)) (i + 2) (rdq (l.drop (i + 2))) := by
  rw [drop_cons l i (by omega), hc, drop_cons l (i + 1) h, rdq, if_neg (by decide), if_neg (by decide), if_pos rfl, if_neg he, comb_comb]
theorem rdq_next (l : List UInt8) (i : Nat) (h : i < l.length) (h1 : l.getD i 0 ≠ 10) (h2 : l.getD i 0 ≠ 34) (h3 : l.getD i 0 ≠ 92) (p : List UInt8) : comb p i (rdq (l.drop i)) = comb (p ++ [l.getD i 0]) (i + 1) (rdq (l.drop (i + 1))) := by
  rw [drop_cons l i h, ← comb_comb]
  congr 1
  generalize l.getD i 0 = c at h1 h2 h3 ⊢
  cases l.drop (i + 1) with
  | nil => simp [rdq, h1, h2, comb]
  | cons x t => rw [rdq, if_neg h1, if_neg h2, if_neg h3]

def pairC : Array Value := #[.int .u8 92, .int .u8 92, .int .u8 10, .int .u8 110, .int .u8 34, .int .u8 34]
def pairV : Value := .agg #[.int .u8 92, .int .u8 92, .int .u8 10, .int .u8 110, .int .u8 34, .int .u8 34]
set_option maxHeartbeats 400000 in
theorem pairs_any (w : World) : Calls Tryz.prog 90 #[] w fun e w' => e = .returned (.agg #[.int .u8 92, .int .u8 92, .int .u8 10, .int .u8 110, .int .u8 34, .int .u8 34]) ∧ Below w.heap.size w w' := by
  go_enter Tryz.func90, Tryz.ntmps90
  go_wp2_with fail
  exact bodyPost_ret (v := .agg #[.int .u8 92, .int .u8 92, .int .u8 10, .int .u8 110, .int .u8 34, .int .u8 34]) (by simp [results, Tryz.results90, go_sem]) rfl ⟨rfl, (Below.refl _ _).alloc (Nat.le_refl _) _⟩
/-- The pairs in memory. -/
def PA (N : Nat) (w : World) : Prop := w.heap[N]? = some (.cells pairC 146 (0, 0))
def pcI (j : Nat) : Int := if j = 0 then 92 else if j = 1 then 10 else 34
def plI (j : Nat) : Int := if j = 0 then 92 else if j = 1 then 110 else 34
/-- What is read of a quoted form, while it is read. -/
def RdI (w0 : World) (b N : Nat) (acc : List UInt8) (w : World) : Prop := (BldK w0.heap.size b acc w ∧ PA N w) ∧ Below w0.heap.size w0 w
theorem PA.kept {N b : Nat} {w w' : World} (h : PA N w) (hN : N ≠ b) (hk : Lib.OthersKept 5 (some b) w w') : PA N w' :=
  hk N _ h (fun e => hN (Option.some.inj e)) (fun c fz e => by cases e)
theorem PA.cells {N : Nat} {w : World} (h : PA N w) (j : Nat) (hj : j < 3) : w.cell? ⟨N, j * 2, none⟩ = some (.int .u8 (pcI j)) ∧ w.cell? ⟨N, j * 2 + 1, none⟩ = some (.int .u8 (plI j)) := by
  rw [Lib.cell_of_heap h, Lib.cell_of_heap h]
  rcases (by omega : j = 0 ∨ j = 1 ∨ j = 2) with rfl | rfl | rfl <;> exact ⟨rfl, rfl⟩
theorem RdI.alloc {w0 : World} {b N : Nat} {acc : List UInt8} {w : World} (h : RdI w0 b N acc w) (o : Obj) : RdI w0 b N acc (w.alloc o) := by
  obtain ⟨⟨h1, h2⟩, h3⟩ := h
  exact ⟨⟨h1.alloc o, (Lib.alloc_old w o N (Array.getElem?_eq_some_iff.1 h2).1).trans h2⟩, h3.alloc h3.size _⟩
theorem RdI.drew {w0 : World} {b N : Nat} {acc : List UInt8} {w : World} (h : RdI w0 b N acc w) : RdI w0 b N acc w.drew := ⟨h.1, h.2.drew⟩
theorem wb_r (w0 : World) (b N : Nat) (hN : N ≠ b) (acc : List UInt8) (c : UInt8) (hl : acc.length < 1000000) (w : World) (h : RdI w0 b N acc w) :
    Calls Tryz.prog 91 #[.pointer (some ⟨b, 0, none⟩), .int .u8 (c.toNat : Int)] w fun e w' => e = .returned .nilIface ∧ RdI w0 b N (acc ++ [c]) w' := by
  obtain ⟨⟨h1, h2⟩, h3⟩ := h
  refine (wb_k w0.heap.size b acc c hl w h1 h3.size).mono ?_
  rintro e w' ⟨rfl, g1, g2, g3⟩
  exact ⟨rfl, ⟨g1, h2.kept hN g3⟩, h3.trans g2⟩
theorem ne_byt (c k : UInt8) (n : Int) (hn : (k.toNat : Int) = n) (h : c ≠ k) : ((c.toNat : Int) == n) = false := by
  rw [beq_eq_false_iff_ne]
  exact fun e => h (UInt8.toNat_inj.1 (by omega))
def plU (j : Nat) : UInt8 := if j = 0 then 92 else if j = 1 then 110 else 34
def pcU (j : Nat) : UInt8 := if j = 0 then 92 else if j = 1 then 10 else 34
/-- What the pairs before j have given for a letter, and whether there was one. -/
def outp (x : UInt8) : Nat → List UInt8
  | 0 => []
  | j + 1 => outp x j ++ (if x = plU j then [pcU j] else [])
def fnd (x : UInt8) : Nat → Bool
  | 0 => false
  | j + 1 => fnd x j || decide (x = plU j)
theorem outp_3 (x : UInt8) : outp x 3 = esc x := by
  unfold esc
  by_cases h1 : x = 92
  · subst h1; decide
  · by_cases h2 : x = 110
    · subst h2; decide
    · by_cases h3 : x = 34
      · subst h3; decide
      · simp [outp, plU, h1, h2, h3]
theorem fnd_3 (x : UInt8) : fnd x 3 = decide (esc x ≠ []) := by
  unfold esc
  by_cases h1 : x = 92
  · subst h1; decide
  · by_cases h2 : x = 110
    · subst h2; decide
    · by_cases h3 : x = 34
      · subst h3; decide
      · simp [fnd, plU, h1, h2, h3]
theorem plI_eq (j : Nat) : plI j = ((plU j).toNat : Int) := by unfold plI plU; (repeat' split) <;> rfl
theorem pcI_eq (j : Nat) : pcI j = ((pcU j).toNat : Int) := by unfold pcI pcU; (repeat' split) <;> rfl
theorem outp_len (x : UInt8) : ∀ j, (outp x j).length ≤ j
  | 0 => Nat.le_refl _
  | j + 1 => by
    have := outp_len x j
    simp only [outp, List.length_append]
    split <;> simp <;> omega
theorem rdI_new (w w1 : World) (h : Below (w.alloc (.cells #[.pointer none, .slice none 0 0] 80)).heap.size (w.alloc (.cells #[.pointer none, .slice none 0 0] 80)) w1) : RdI w w.heap.size w1.heap.size [] (w1.alloc (.cells pairC 146)) := by
  have hs : (w.alloc (.cells #[.pointer none, .slice none 0 0] 80)).heap.size = w.heap.size + 1 := by simp
  have hs1 := h.size
  have hb : w1.heap[w.heap.size]? = some (.cells #[.pointer none, .slice none 0 0] 80 (0, 0)) := (h.block w.heap.size (by omega)).trans (World.alloc_heap_new _ _)
  have h1 : BldK w.heap.size w.heap.size [] w1 := .of (.inl ⟨Nat.le_refl _, .slice none 0 0, hb, World.ownsRow_nil _ _ 5 1, by simp [Value.ownBlock]⟩)
  exact ⟨⟨h1.alloc _, World.alloc_heap_new _ _⟩, (((Below.refl _ _).alloc (Nat.le_refl _) _).trans (h.mono (by omega))).alloc (by omega) _⟩
set_option maxRecDepth 100000 in
set_option maxHeartbeats 2000000 in
theorem readq_any (s : ByteArray) (hs : s.size < 900000) (w : World) : Calls Tryz.prog 77 #[.string s, .int .i64 3, .bool true] w fun e w' => e = .returned (.tuple #[.string ⟨(comb [] 0 (rdq s.data.toList)).2.1.toArray⟩, .int .i64 (comb [] 0 (rdq s.data.toList)).2.2, .int .i64 (comb [] 0 (rdq s.data.toList)).1]) ∧ Below w.heap.size w w' := by
  obtain ⟨R, hR⟩ : ∃ R, Hid (comb [] 0 (rdq (s.data.toList.drop 0)) = R) := ⟨_, rfl⟩
  rw [show comb [] 0 (rdq s.data.toList) = R from hR.out]
  have hz : Hid (s.data.toList.length = s.size) := by show _ = _; simp
  go_enter Tryz.func77, Tryz.ntmps77
  go_wp2_with fail
  go_step3
  go_wp2_with fail
  refine (pairs_any _).mono ?_; rintro e w1 ⟨rfl, hb1⟩
  go_wp2_with fail
  go_step3
  show Exit.then _ _ _ _ (w1.alloc (.cells pairC 146))
  have I := Lib.hid (rdI_new w w1 hb1)
  have hN : w1.heap.size ≠ w.heap.size := by have := hb1.size; simp at this; omega
  clear hb1
  generalize w1.alloc (.cells pairC 146) = w2 at I ⊢
  generalize w1.heap.size = N at I hN ⊢
  go_wp2_with fail
  go_loopg [11, 12] (s.size + 1) (fun g s11 s12 wx => ∃ (i : Nat) (acc : List UInt8), i + g = s.size + 1 ∧ s11 = .int .i64 i ∧ s12 = .int .i64 222 ∧ i ≤ s.size ∧ acc.length ≤ i ∧ Hid (comb acc i (rdq (s.data.toList.drop i)) = R) ∧ Hid (RdI w w.heap.size N acc wx))
  case atStart => exact ⟨0, [], by omega, rfl, rfl, by omega, by simp, hR, I⟩
  case round =>
    clear I hR
    obtain ⟨i, acc, hi, rfl, rfl, hin, hal, hR, I⟩ := hrel
    by_cases hlt : i < s.size
    · have t1 : decide (i < s.size) = true := decide_eq_true hlt
      have hB := byt_eq s i hlt
      obtain ⟨c, hc⟩ : ∃ c, Hid (s.data.toList.getD i 0 = c) := ⟨_, rfl⟩
      rw [show byt s i = (c.toNat : Int) by unfold byt; rw [hc.out]] at hB
      have hli : i < s.data.toList.length := by rw [hz.out]; exact hlt
      by_cases g1 : c = 10
      · subst g1
        have e := hR.out
        rw [rdq_feed _ _ hli hc.out] at e
        subst e
        rw [show (((10 : UInt8).toNat : Int)) = 10 from rfl] at hB
        clear hli hc hR
        go_wp2_with fail
        rw [Exit.noGoto_ret]
        go_ret3
        exact ⟨rfl, I.out.2⟩
      · have s1 : ((c.toNat : Int) == 10) = false := ne_byt c 10 _ rfl g1
        by_cases g2 : c = 34
        · subst g2
          have e := hR.out
          rw [rdq_quote _ _ hli hc.out] at e
          subst e
          rw [show (((34 : UInt8).toNat : Int)) = 34 from rfl] at hB
          clear hli hc hR
          go_wp2_with fail
          refine (str_k w.heap.size w.heap.size acc _ rfl _ I.out.1.1 I.out.2.size).mono ?_; rintro e w3 ⟨rfl, _, hb3, _⟩
          have B3 := I.out.2.trans hb3
          go_wp2_with fail
          rw [Exit.noGoto_ret]
          go_ret3
          exact ⟨rfl, B3⟩
        · have s2 : ((c.toNat : Int) == 34) = false := ne_byt c 34 _ rfl g2
          by_cases g3 : c = 92
          · subst g3
            rw [show (((92 : UInt8).toNat : Int)) = 92 from rfl] at hB
            by_cases hend : i + 1 = s.size
            · have e := hR.out
              rw [rdq_slash_end _ _ (by rw [hz.out]; exact hend) hc.out] at e
              subst e
              have t2 : ((i : Int) + 1 == (s.size : Int)) = true := by simp; omega
              clear hli hc hR
              go_wp2_with fail
              rw [Exit.noGoto_ret]
              go_ret3
              exact ⟨rfl, I.out.2⟩
            · have t2 : ((i : Int) + 1 == (s.size : Int)) = false := by simp; omega
              have hlt2 : i + 1 < s.size := by omega
              have hB2 := byt_eq s (i + 1) hlt2
              obtain ⟨x, hx⟩ : ∃ x, Hid (s.data.toList.getD (i + 1) 0 = x) := ⟨_, rfl⟩
              rw [show byt s (i + 1) = (x.toNat : Int) by unfold byt; rw [hx.out]] at hB2
              have t3 : decide (0 ≤ (i : Int) + 1) = true := decide_eq_true (by omega)
              go_wp2_with fail
              go_loopg [14, 55] 3 (fun gj s14 s55 wx => ∃ j : Nat, j + gj = 3 ∧ s55 = .int .i64 j ∧ s14 = .bool (fnd x j) ∧ Hid (RdI w w.heap.size N (acc ++ outp x j) wx))
              case atStart => exact ⟨0, by omega, rfl, rfl, by rw [outp, List.append_nil]; exact I⟩
              case round =>
                clear I
                obtain ⟨j, hj, rfl, rfl, I⟩ := hrel
                by_cases hlj : j < 3
                · have t4 : decide (j < 3) = true := decide_eq_true hlj
                  obtain ⟨k1, k2⟩ := I.out.1.2.cells j hlj
                  rw [pcI_eq] at k1
                  rw [plI_eq] at k2
                  have hI1 := Lib.hid (I.out.alloc (.cells #[.int .u8 ((pcU j).toNat : Int), .int .u8 ((plU j).toNat : Int)] 145))
                  have hol := outp_len x j
                  by_cases he : x = plU j
                  · have s4 : ((x.toNat : Int) == ((plU j).toNat : Int)) = true := by rw [he]; simp
                    have ho : acc ++ outp x j ++ [pcU j] = acc ++ outp x (j + 1) := by rw [outp, if_pos he, List.append_assoc]
                    have hf : fnd x (j + 1) = true := by rw [fnd, decide_eq_true he, Bool.or_true]
                    replace ho := Lib.hid ho
                    clear I
                    go_upto_region 26 with (fail)
                    go_region
                    go_wp2_with fail
                    refine (wb_r w w.heap.size N hN (acc ++ outp x j) (pcU j) (by simp; omega) _ hI1.out.drew).mono ?_; rintro e w3 ⟨rfl, hI3⟩
                    rw [ho.out] at hI3
                    replace hI3 := Lib.hid hI3
                    clear hI1
                    go_wp2_with fail
                    go_roundg (gk - 1)
                    case measure => omega
                    case rel => exact ⟨j + 1, by omega, rfl, by rw [hf], hI3⟩
                  · have s4 : ((x.toNat : Int) == ((plU j).toNat : Int)) = false := ne_byt x _ _ rfl he
                    have ho : acc ++ outp x (j + 1) = acc ++ outp x j := by rw [outp, if_neg he, List.append_nil]
                    have hf : fnd x (j + 1) = fnd x j := by rw [fnd, decide_eq_false he, Bool.or_false]
                    replace ho := Lib.hid ho
                    clear I
                    go_upto_region 26 with (fail)
                    go_region
                    go_wp2_with fail
                    go_roundg (gk - 1)
                    case measure => omega
                    case rel => exact ⟨j + 1, by omega, rfl, by rw [hf], by rw [ho.out]; exact hI1.out.drew⟩
                · obtain rfl : j = 3 := by omega
                  have t4 : decide (3 < 3) = false := rfl
                  rw [outp_3] at I
                  by_cases he : esc x = []
                  · have hf : fnd x 3 = false := by rw [fnd_3, he]; rfl
                    have e := hR.out
                    rw [rdq_slash_no _ _ (by rw [hz.out]; exact hlt2) hc.out (by rw [hx.out]; exact he)] at e
                    subst e
                    clear hli hc hR hx
                    go_wp2_with fail
                    rw [Exit.noGoto_ret]
                    go_ret3
                    exact ⟨rfl, I.out.2⟩
                  · have hf : fnd x 3 = true := by rw [fnd_3]; exact decide_eq_true he
                    have hR2 := rdq_slash _ _ (by rw [hz.out]; exact hlt2) hc.out (by rw [hx.out]; exact he) acc
                    rw [hx.out, hR.out] at hR2
                    replace hR2 := Lib.hid hR2.symm
                    have hel : (esc x).length ≤ 1 := by unfold esc; (repeat' split) <;> simp
                    clear hli hc hR hx
                    go_wp2_with fail
                    go_roundg (s.size + 1 - (i + 2))
                    case measure => omega
                    case rel => exact ⟨i + 2, acc ++ esc x, by omega, by go_num, rfl, by omega, by simp; omega, hR2, I⟩
          · have s3 : ((c.toNat : Int) == 92) = false := ne_byt c 92 _ rfl g3
            have s3' : ((c.toNat : Int) != 92) = true := by rw [bne, s3]; rfl
            have hR2 := Lib.hid (rdq_next _ _ hli (by rw [hc.out]; exact g1) (by rw [hc.out]; exact g2) (by rw [hc.out]; exact g3) acc)
            rw [hc.out, hR.out] at hR2
            replace hR2 := Lib.hid hR2.out.symm
            go_wp2_with fail
            refine (wb_r w w.heap.size N hN acc c (by omega) _ I.out).mono ?_; rintro e w3 ⟨rfl, hI3⟩
            replace hI3 := Lib.hid hI3
            clear I hR
            go_wp2_with fail
            go_roundg (gk - 1)
            case measure => omega
            case rel => exact ⟨i + 1, acc ++ [c], by omega, rfl, rfl, by omega, by simp; omega, hR2, hI3⟩
    · obtain rfl : i = s.size := by omega
      have t1 : decide (s.size < s.size) = false := decide_eq_false (by omega)
      have e := hR.out
      rw [rdq_end _ _ (by rw [hz.out]; omega)] at e
      subst e
      go_wp2_with fail
      rw [Exit.noGoto_ret]
      go_ret3
      exact ⟨rfl, I.out.2⟩
end Go.Proofs.YtiapkindbbbdpaaGreatDoor
