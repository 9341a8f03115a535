/- What DecimalWrong is told with: strings that are no decimals, text, regions in any order. -/
import Derived.Test.YtaidemghhagniaaGreatDoorDG
import Derived.Test.YtaidemghhagniaaGreatDoorD18
import Derived.Carry
import Derived.WalkKit
import Derived.Below
section
namespace Go.Proofs.YtaidemghhagniaaGreatDoor
open Go
def okB (c : UInt8) : Bool := isD c || c == 46 || c == 101 || c == 69 || c == 43 || c == 45
theorem isD_ne46 {c : UInt8} (h : isD c = true) : c ≠ 46 := fun e => by subst e; exact absurd h (by decide)
theorem digs_no46 (l : List UInt8) (h : ∀ c ∈ l, isD c = true) : l.count 46 = 0 := List.count_eq_zero.2 (fun hm => isD_ne46 (h _ hm) rfl)
theorem okB_dig {c : UInt8} (h : isD c = true) : okB c = true := by unfold okB; rw [h]; rfl
theorem take_drop_digN (t : List UInt8) : t = t.take (digN t) ++ t.drop (digN t) := (List.take_append_drop _ _).symm
theorem manL_parts (m : List UInt8) : ∃ D, m = D ++ (manL m).2 ∧ (∀ c ∈ D, okB c = true) ∧ D.count 46 ≤ 1 := by
  have hd := digN_all m
  have hl := take_drop_digN m
  unfold manL
  dsimp only
  split
  · rename_i hr
    refine ⟨m.take (digN m), ?_, fun c hc => okB_dig (hd c hc), by rw [digs_no46 _ hd]; decide⟩
    rw [hr] at hl; exact hl
  · rename_i c t hr
    split
    · rename_i hc
      subst hc
      have ht := digN_all t
      refine ⟨m.take (digN m) ++ 46 :: t.take (digN t), ?_, ?_, ?_⟩
      · rw [hr] at hl
        conv => lhs; rw [hl, take_drop_digN t]
        simp
      · intro c hc
        rw [List.mem_append, List.mem_cons] at hc
        rcases hc with hc | rfl | hc
        · exact okB_dig (hd c hc)
        · rfl
        · exact okB_dig (ht c hc)
      · rw [List.count_append, List.count_cons, digs_no46 _ hd, digs_no46 _ ht]; decide
    · refine ⟨m.take (digN m), ?_, fun c hc => okB_dig (hd c hc), by rw [digs_no46 _ hd]; decide⟩
      rw [hr] at hl; exact hl
theorem sgd_parts (l : List UInt8) : ∃ D, l = D ++ sgd l ∧ (∀ c ∈ D, okB c = true) ∧ D.count 46 = 0 := by
  cases l with
  | nil => exact ⟨[], rfl, (fun c h => by cases h), rfl⟩
  | cons c t =>
    by_cases g : c = 43 ∨ c = 45
    · refine ⟨[c], by rw [sgd, if_pos g]; rfl, fun x hx => ?_, ?_⟩
      · rcases g with rfl | rfl <;> (simp at hx; subst hx; rfl)
      · rcases g with rfl | rfl <;> rfl
    · exact ⟨[], by rw [sgd, if_neg g]; rfl, (fun c h => by cases h), rfl⟩
theorem tail_parts (t : List UInt8) (h : tailL t = true) : (∀ c ∈ t, okB c = true) ∧ t.count 46 = 0 := by
  cases t with
  | nil => exact ⟨(fun c h => by cases h), rfl⟩
  | cons c t =>
    unfold tailL at h
    simp only [Bool.and_eq_true, Bool.or_eq_true, beq_iff_eq, decide_eq_true_eq] at h
    obtain ⟨h1, _, h3⟩ := h
    have hd := digN_full _ h3
    obtain ⟨D, e, o, n⟩ := sgd_parts t
    refine ⟨fun x hx => ?_, ?_⟩
    · rw [List.mem_cons, e, List.mem_append] at hx
      rcases hx with rfl | hx | hx
      · rcases h1 with rfl | rfl <;> rfl
      · exact o x hx
      · exact okB_dig (hd x hx)
    · rw [List.count_cons, e, List.count_append, n, digs_no46 _ hd]
      rcases h1 with rfl | rfl <;> rfl
theorem right_parts (l : List UInt8) (h : rightL l = true) : (∀ c ∈ l, okB c = true) ∧ l.count 46 ≤ 1 := by
  unfold rightL at h
  rw [Bool.and_eq_true] at h
  obtain ⟨D1, e1, o1, n1⟩ := sgd_parts l
  obtain ⟨D2, e2, o2, n2⟩ := manL_parts (sgd l)
  obtain ⟨o3, n3⟩ := tail_parts _ h.2
  generalize (manL (sgd l)).2 = T at *
  rw [e2] at e1
  refine ⟨fun x hx => ?_, ?_⟩
  · rw [e1, List.mem_append, List.mem_append] at hx
    rcases hx with hx | hx | hx
    · exact o1 x hx
    · exact o2 x hx
    · exact o3 x hx
  · rw [e1, List.count_append, List.count_append, n1, n3]; omega
theorem no_dots (l : List UInt8) (h : 2 ≤ l.count 46) : rightL l = false := by
  cases g : rightL l with
  | false => rfl
  | true => have := (right_parts l g).2; omega
theorem no_char (l : List UInt8) (c : UInt8) (hc : c ∈ l) (h : okB c = false) : rightL l = false := by
  cases g : rightL l with
  | false => rfl
  | true => have := (right_parts l g).1 c hc; rw [h] at this; cases this
theorem digN_at (A R : List UInt8) (hA : ∀ c ∈ A, isD c = true) (hR : ∀ c, R.head? = some c → isD c = false) : digN (A ++ R) = A.length := by
  unfold digN
  rw [List.takeWhile_append_of_pos hA]
  cases R with
  | nil => simp
  | cons c t => rw [List.takeWhile_cons, hR c rfl]; simp
theorem manL_at (A B R : List UInt8) (hA : ∀ c ∈ A, isD c = true) (hB : ∀ c ∈ B, isD c = true) (hR : ∀ c, R.head? = some c → isD c = false) : manL (A ++ 46 :: (B ++ R)) = (A.length + B.length, R) := by
  have h1 := digN_at A (46 :: (B ++ R)) hA (fun c hc => by cases hc; rfl)
  have h2 := digN_at B R hB hR
  unfold manL
  dsimp only
  rw [h1, List.drop_left]
  dsimp only
  rw [if_pos rfl, h2, List.drop_left]
theorem sgd_at (A X : List UInt8) (hA : ∀ c ∈ A, isD c = true) : sgd (A ++ 46 :: X) = A ++ 46 :: X := by
  cases A with
  | nil => rfl
  | cons c t =>
    have := hA c (List.mem_cons_self ..)
    show (if c = 43 ∨ c = 45 then _ else _) = _
    rw [if_neg (by rintro (rfl | rfl) <;> exact absurd this (by decide))]
    rfl
theorem right_at (A B R : List UInt8) (hA : ∀ c ∈ A, isD c = true) (hB : ∀ c ∈ B, isD c = true) (hR : ∀ c, R.head? = some c → isD c = false) (hT : tailL R = false) : rightL (A ++ 46 :: (B ++ R)) = false := by
  unfold rightL
  rw [sgd_at A _ hA, manL_at A B R hA hB hR, hT, Bool.and_false]
theorem nam_no46 (l : List UInt8) (h : 46 ∈ l) : isNam l = false := by
  cases g : isNam l with
  | false => rfl
  | true =>
    unfold isNam at g
    simp only [Bool.or_eq_true, beq_iff_eq] at g
    rcases g with ((rfl | rfl) | rfl) | rfl <;> exact absurd h (by decide)
end Go.Proofs.YtaidemghhagniaaGreatDoor
end
section
namespace Go.Proofs.YtaidemghhagniaaGreatDoor
open Go Go.RowKit
def dgT (c : UInt8) : UInt8 := UInt8.ofNat (48 + c.toNat % 10)
def digT (l : List UInt8) : List UInt8 := if l = [] then [48] else l.map dgT
theorem own_zero {w : World} {B e g n cap : Nat} {xs : List Value} (h : w.ownsRow B e 1 (.slice (some ⟨g, 0, none⟩) n cap) n xs) : w.ownsRow B e 1 (.slice (some ⟨g, 0, none⟩) 0 cap) 0 [] := by
  rcases h.2 with ⟨h0, _⟩ | ⟨g', cap', cur, hv, hb, hg, h1, h2, h3, h4⟩
  · cases h0
  · cases hv
    exact ⟨rfl, .inr ⟨g, cap, cur, rfl, hb, hg, Nat.zero_le _, h2, h3, by simp⟩⟩
theorem own_sh {W : World} {B e n : Nat} {v : Value} {xs : List Value} (h : W.ownsRow B e 1 v n xs) : ∃ a c, v = .slice a n c := by
  rcases h.2 with ⟨rfl, rfl⟩ | ⟨g, cap, cur, rfl, _⟩
  · exact ⟨_, _, rfl⟩
  · exact ⟨_, _, rfl⟩
/-- What is written behind the first i bytes. -/
def tx (l : List UInt8) (i : Nat) : List UInt8 := if i = 0 then [48] else (l.take i).map dgT
theorem tx_end (l : List UInt8) : tx l l.length = digT l := by
  unfold tx digT
  cases l with
  | nil => rfl
  | cons c t => rw [if_neg (by simp), if_neg (by simp), List.take_length]
set_option maxRecDepth 100000 in
set_option maxHeartbeats 4000000 in
theorem text_any (a : Option Addr) (c : Nat) (l : List UInt8) (w : World) (h : Row w (.slice a l.length c) (l.map enc8)) (hl : l.length ≤ 1000) :
    Calls Tryz.prog 21 #[.slice a l.length c] w fun e w' => e = .returned (.string ⟨(digT l).toArray⟩) ∧ Below w.heap.size w w' := by
  obtain ⟨n, hn⟩ : ∃ n, n = l.length := ⟨_, rfl⟩
  have hat : ∃ b off, Hid (∀ i, i < n → a = some ⟨b, off, none⟩ ∧ b < w.heap.size ∧ w.cell? ⟨b, off + i, none⟩ = some (.int .u8 ((l.getD i 0).toNat : Int))) := by
    rcases h with ⟨a', c', _, h1, h2⟩ | ⟨b, off, cap, h1, h2, h3, h4, h5⟩
    · refine ⟨0, 0, Lib.hid fun i hi => ?_⟩
      have : l = [] := by simpa using h2
      rw [this] at hn; simp at hn; omega
    · refine ⟨b, off, Lib.hid fun i hi => ?_⟩
      obtain ⟨rfl, _, _⟩ := (Value.slice.injEq ..).mp h1
      refine ⟨rfl, h2, ?_⟩
      rw [h5 i (by rw [List.length_map]; omega), List.getElem_map, List.getD_eq_getElem?_getD, List.getElem?_eq_getElem (by omega)]
      rfl
  obtain ⟨b, off, hat⟩ := hat
  rw [← hn]
  have hnl := Lib.hid hn
  have hn1 : n ≤ 1000 := by omega
  clear h hn hl
  go_enter Tryz.func21, Tryz.ntmps21
  go_upto_block 0 with (fail)
  have I0 : Hid ((w.alloc (.cells #[.int .u8 48] 5)).ownsRow w.heap.size 5 1 (.slice (some ⟨w.heap.size, 0, none⟩) 1 1) (tx l 0).length ((tx l 0).map enc8)) := Lib.hid (row_one w.heap.size w (.int .u8 48) (Nat.le_refl _))
  have B0 : Hid (Below w.heap.size w (w.alloc (.cells #[.int .u8 48] 5))) := Lib.hid ((Below.refl _ _).alloc (Nat.le_refl _) _)
  generalize w.alloc (.cells #[.int .u8 48] 5) = W0 at I0 B0 ⊢
  go_cut [3] (fun s3 wx => Hid (wx.ownsRow w.heap.size 5 1 s3 (digT l).length ((digT l).map enc8)) ∧ Hid (Below w.heap.size w wx))
  case first =>
    go_wp2_with fail
    go_loopg [3, 9] (n + 1) (fun gk s3 s9 wx => ∃ i : Nat, n - i < gk ∧ i ≤ n ∧ s9 = .int .i64 (i : Int) ∧ Hid (wx.ownsRow w.heap.size 5 1 s3 (tx l i).length ((tx l i).map enc8)) ∧ Hid (Below w.heap.size w wx))
    case atStart => exact ⟨0, by omega, by omega, rfl, I0, B0⟩
    case round =>
      clear I0 B0
      obtain ⟨i, hg, hi, rfl, I, B⟩ := hrel
      by_cases hlt : i < n
      · have t1 : decide ((i : Int) < (n : Int)) = true := decide_eq_true (by omega)
        have t1' : decide (i < n) = true := decide_eq_true hlt
        obtain ⟨rfl, hbw, hcell⟩ := hat.out i hlt
        have hc : wr.cell? ⟨b, off + i, none⟩ = some (.int .u8 ((l.getD i 0).toNat : Int)) := by rw [B.out.cell hbw]; exact hcell
        have hBs := B.out.size
        have hsucc : Hid (tx l (i + 1) = (if i = 0 then [] else tx l i) ++ [dgT (l.getD i 0)]) := Lib.hid (by
          unfold tx
          rw [if_neg (by omega), List.take_add_one, List.getElem?_eq_getElem (by rw [← hnl.out]; exact hlt), List.getD_eq_getElem?_getD, List.getElem?_eq_getElem (by rw [← hnl.out]; exact hlt), List.map_append]
          by_cases g : i = 0
          · subst g; rfl
          · rw [if_neg g, if_neg g]; rfl)
        obtain ⟨x, hx⟩ : ∃ x, Hid (x = l.getD i 0) := ⟨_, Lib.hid rfl⟩
        rw [← hx.out] at hc hsucc
        have hxl : x.toNat < 256 := x.toNat_lt
        by_cases h0 : i = 0
        · subst h0
          rw [Nat.add_zero] at hc
          rw [if_pos rfl, List.nil_append] at hsucc
          rw [show tx l 0 = [48] from rfl, show ([48] : List UInt8).length = 1 from rfl] at I
          obtain ⟨g3, cap3, rfl⟩ := own_block I.out (by decide)
          have hc1 : 1 ≤ cap3 := by
            rcases I.out.2 with ⟨h0, _⟩ | ⟨g', cap', cur, hv, _, _, h1, _⟩
            · cases h0
            · cases hv; exact h1
          have I' := Lib.hid (own_zero I.out)
          clear I
          have hx2 : Hid ((48 : Int) + (x.toNat : Int) % 10 = ((dgT x).toNat : Int)) := Lib.hid (by unfold dgT; rw [ofNat_to _ (by omega)]; omega)
          go_wp2_with (at_builtin; go_must (refine app_one rfl (.tmp 18) (.tmp 22) 37 rfl (u := .int .u8 (48 + (x.toNat : Int) % 10)) w.heap.size (.int .u8 0) 1 Tryz.underlying37 info5 rfl _ 0 _ rfl rfl I'.out rfl (by omega) (by omega) hBs ?_); rintro v2 w3 hown2' hb2 hs2 _ hv3; have hown2 := Lib.hid hown2'; clear hown2')
          rw [hx2.out] at hown2
          obtain ⟨g4, cap4, rfl⟩ := hv3
          go_wp2_with fail
          go_roundg (gk - 1)
          case measure => omega
          case rel => exact ⟨1, by omega, by omega, by go_num, by rw [hsucc.out]; exact hown2, Lib.hid (B.out.trans (hb2.mono (Nat.le_refl _)))⟩
        · rw [if_neg h0] at hsucc
          have u3 : ((i : Int) == 0) = false := by simp; exact h0
          obtain ⟨m, hm⟩ : ∃ m, m = (tx l i).length := ⟨_, rfl⟩
          obtain ⟨xs, hxs⟩ : ∃ xs, xs = (tx l i).map enc8 := ⟨_, rfl⟩
          have hm1 : m ≤ 1001 := by rw [hm]; unfold tx; rw [if_neg h0, List.length_map, List.length_take]; omega
          rw [← hm, ← hxs] at I
          obtain ⟨a3, c3, rfl⟩ := own_sh I.out
          replace hm := Lib.hid hm
          replace hxs := Lib.hid hxs
          have hx2 : Hid ((48 : Int) + (x.toNat : Int) % 10 = ((dgT x).toNat : Int)) := Lib.hid (by unfold dgT; rw [ofNat_to _ (by omega)]; omega)
          go_wp2_with (at_builtin; go_must (refine app_one rfl (.tmp 18) (.tmp 22) 37 rfl (u := .int .u8 (48 + (x.toNat : Int) % 10)) w.heap.size (.int .u8 0) 1 Tryz.underlying37 info5 rfl _ m _ rfl rfl I.out rfl (by omega) (by omega) hBs ?_); rintro v2 w3 hown2' hb2 hs2 _ hv3; have hown2 := Lib.hid hown2'; clear hown2')
          rw [hx2.out, hm.out, hxs.out] at hown2
          obtain ⟨g4, cap4, rfl⟩ := hv3
          go_wp2_with fail
          go_roundg (gk - 1)
          case measure => omega
          case rel => exact ⟨i + 1, by omega, by omega, by go_num, by rw [hsucc.out, List.length_append, List.map_append, ← hm.out]; rw [← hm.out] at hown2; exact hown2, Lib.hid (B.out.trans hb2)⟩
      · obtain rfl : i = n := by omega
        have t1 : decide ((i : Int) < (i : Int)) = false := decide_eq_false (by omega)
        rw [hnl.out, tx_end] at I
        go_wp2_with fail
        go_meet
        exact ⟨I, B⟩
  case rest =>
    obtain ⟨I, B⟩ := hcut
    have hc := conv_owned (P := Tryz.prog) (src := 37) (dst := 9) Tryz.underlying37 Tryz.underlying5 Tryz.underlying9 I.out
    go_wp2_with fail
    go_ret
    exact ⟨rfl, B.out⟩
end Go.Proofs.YtaidemghhagniaaGreatDoor
end
section
namespace Go.Proofs.YtaidemghhagniaaGreatDoor
open Go
def sT (d : List UInt8) (k : Nat) : List UInt8 := d.take k ++ [46] ++ d.drop k
def repT (d : List UInt8) : List UInt8 := Lib.repeatL d (1200 / d.length + 1)
def badT (d s : List UInt8) (i : Nat) (b : UInt8) : Nat → List UInt8
  | 0 => (s.take i ++ [46]) ++ s.drop i
  | 1 => [46]
  | 2 => [43]
  | 3 => s ++ [101]
  | 4 => s ++ [101, 43]
  | 5 => s ++ [101, 49, 50, 51, 52, 53, 54]
  | 6 => (s.take i ++ [b]) ++ s.drop i
  | 7 => (s ++ [101, 53]) ++ [b]
  | 8 => s ++ [101, 49, 46, 53]
  | 9 => [43, 45] ++ s
  | 10 => s ++ [45]
  | 11 => [101, 53]
  | _ => repT d ++ [48]
theorem isD_dgT (c : UInt8) : isD (dgT c) = true := by
  rw [isD_iff]; unfold dgT; rw [ofNat_to _ (by omega)]; omega
theorem digT_ok (l : List UInt8) : (∀ c ∈ digT l, isD c = true) ∧ 1 ≤ (digT l).length ∧ (digT l).length ≤ l.length + 1 := by
  unfold digT
  by_cases h : l = []
  · rw [if_pos h]
    exact ⟨fun c hc => by rw [List.mem_singleton] at hc; subst hc; rfl, Nat.le_refl _, by simp⟩
  · rw [if_neg h]
    refine ⟨fun c hc => ?_, ?_, by simp⟩
    · obtain ⟨x, _, rfl⟩ := List.mem_map.1 hc; exact isD_dgT x
    · rw [List.length_map]; exact List.length_pos_iff.2 h
theorem badF (d : List UInt8) (k i j : Nat) (b : UInt8) (hd : ∀ c ∈ d, isD c = true) (hb : okB b = false) (hj : j < 12) : rightL (badT d (sT d k) i b j) = false := by
  have hA : ∀ c ∈ d.take k, isD c = true := fun c hc => hd c (List.mem_of_mem_take hc)
  have hB : ∀ c ∈ d.drop k, isD c = true := fun c hc => hd c (List.mem_of_mem_drop hc)
  have hbD : isD b = false := by
    cases h : isD b with
    | false => rfl
    | true => rw [okB_dig h] at hb; cases hb
  have hs : ∀ R, sT d k ++ R = d.take k ++ 46 :: (d.drop k ++ R) := fun R => by unfold sT; simp
  have h46 : 46 ∈ sT d k := by unfold sT; simp
  have hc46 : 1 ≤ (sT d k).count 46 := List.count_pos_iff.2 h46
  match j, hj with
  | 0, _ =>
    refine no_dots _ ?_
    show 2 ≤ List.count 46 (((sT d k).take i ++ [46]) ++ (sT d k).drop i)
    have : (sT d k).count 46 = ((sT d k).take i).count 46 + ((sT d k).drop i).count 46 := by rw [← List.count_append, List.take_append_drop]
    rw [List.count_append, List.count_append, show List.count 46 [(46 : UInt8)] = 1 from rfl]
    omega
  | 1, _ => exact (by decide : rightL [46] = false)
  | 2, _ => exact (by decide : rightL [43] = false)
  | 3, _ =>
    show rightL (sT d k ++ [101]) = false
    rw [hs]; exact right_at _ _ _ hA hB (fun c hc => by cases hc; rfl) (by decide)
  | 4, _ =>
    show rightL (sT d k ++ [101, 43]) = false
    rw [hs]; exact right_at _ _ _ hA hB (fun c hc => by cases hc; rfl) (by decide)
  | 5, _ =>
    show rightL (sT d k ++ [101, 49, 50, 51, 52, 53, 54]) = false
    rw [hs]; exact right_at _ _ _ hA hB (fun c hc => by cases hc; rfl) (by decide)
  | 6, _ => exact no_char _ b (show b ∈ ((sT d k).take i ++ [b]) ++ (sT d k).drop i by simp) hb
  | 7, _ => exact no_char _ b (show b ∈ (sT d k ++ [101, 53]) ++ [b] by simp) hb
  | 8, _ =>
    refine no_dots _ ?_
    show 2 ≤ List.count 46 (sT d k ++ [101, 49, 46, 53])
    rw [List.count_append, show List.count 46 [(101 : UInt8), 49, 46, 53] = 1 from rfl]
    omega
  | 9, _ =>
    show rightL (43 :: 45 :: sT d k) = false
    unfold rightL
    rw [show sgd (43 :: 45 :: sT d k) = 45 :: sT d k from rfl, show (manL (45 :: sT d k)).1 = 0 from rfl]
    rfl
  | 10, _ =>
    show rightL (sT d k ++ [45]) = false
    rw [hs]; exact right_at _ _ _ hA hB (fun c hc => by cases hc; rfl) (by decide)
  | 11, _ => exact (by decide : rightL [101, 53] = false)
theorem badN (d : List UInt8) (k i j : Nat) (b : UInt8) (hj : j < 12) : isNam (badT d (sT d k) i b j) = false := by
  have h46 : 46 ∈ sT d k := by unfold sT; simp
  match j, hj with
  | 0, _ => exact nam_no46 _ (show 46 ∈ ((sT d k).take i ++ [46]) ++ (sT d k).drop i by simp)
  | 1, _ => exact (by decide : isNam [46] = false)
  | 2, _ => exact (by decide : isNam [43] = false)
  | 3, _ => exact nam_no46 _ (List.mem_append_left _ h46)
  | 4, _ => exact nam_no46 _ (List.mem_append_left _ h46)
  | 5, _ => exact nam_no46 _ (List.mem_append_left _ h46)
  | 6, _ =>
    refine nam_no46 _ (show 46 ∈ ((sT d k).take i ++ [b]) ++ (sT d k).drop i from ?_)
    rw [← List.take_append_drop i (sT d k), List.mem_append] at h46
    rcases h46 with h | h
    · exact List.mem_append_left _ (List.mem_append_left _ h)
    · exact List.mem_append_right _ h
  | 7, _ => exact nam_no46 _ (List.mem_append_left _ (List.mem_append_left _ h46))
  | 8, _ => exact nam_no46 _ (List.mem_append_left _ h46)
  | 9, _ => exact nam_no46 _ (List.mem_append_right _ h46)
  | 10, _ => exact nam_no46 _ (List.mem_append_left _ h46)
  | 11, _ => exact (by decide : isNam [101, 53] = false)
theorem sT_len (d : List UInt8) (k : Nat) : (sT d k).length = d.length + 1 := by
  unfold sT; simp; omega
theorem badL (d : List UInt8) (k i j : Nat) (b : UInt8) (hl : d.length ≤ 50) (hj : j < 12) : (badT d (sT d k) i b j).length ≤ 100 := by
  have h := sT_len d k
  have h2 : ((sT d k).take i).length + ((sT d k).drop i).length = (sT d k).length := by rw [← List.length_append, List.take_append_drop]
  match j, hj with
  | 0, _ => show (((sT d k).take i ++ [46]) ++ (sT d k).drop i).length ≤ 100; rw [List.length_append, List.length_append, List.length_singleton]; omega
  | 1, _ => exact (by decide : ([46] : List UInt8).length ≤ 100)
  | 2, _ => exact (by decide : ([43] : List UInt8).length ≤ 100)
  | 3, _ => show (sT d k ++ [101]).length ≤ 100; rw [List.length_append]; simp; omega
  | 4, _ => show (sT d k ++ [101, 43]).length ≤ 100; rw [List.length_append]; simp; omega
  | 5, _ => show (sT d k ++ [101, 49, 50, 51, 52, 53, 54]).length ≤ 100; rw [List.length_append]; simp; omega
  | 6, _ => show (((sT d k).take i ++ [b]) ++ (sT d k).drop i).length ≤ 100; rw [List.length_append, List.length_append, List.length_singleton]; omega
  | 7, _ => show ((sT d k ++ [101, 53]) ++ [b]).length ≤ 100; rw [List.length_append, List.length_append]; simp; omega
  | 8, _ => show (sT d k ++ [101, 49, 46, 53]).length ≤ 100; rw [List.length_append]; simp; omega
  | 9, _ => show ([43, 45] ++ sT d k).length ≤ 100; rw [List.length_append]; simp; omega
  | 10, _ => show (sT d k ++ [45]).length ≤ 100; rw [List.length_append]; simp; omega
  | 11, _ => exact (by decide : ([101, 53] : List UInt8).length ≤ 100)
theorem repT_len (d : List UInt8) (h1 : 1 ≤ d.length) (h2 : d.length ≤ 50) : 1200 < (repT d ++ [48]).length ∧ (repT d ++ [48]).length ≤ 1300 := by
  unfold repT
  rw [List.length_append, Lib.repeatL_length, List.length_singleton]
  have h3 := Nat.div_add_mod 1200 d.length
  have h4 := Nat.mod_lt 1200 (show 0 < d.length by omega)
  rw [Nat.add_mul, Nat.mul_comm (1200 / d.length)]
  omega
theorem byte_set (n : Nat) (h : n < 256) : (0 ≤ Lib.indexByte [48, 49, 50, 51, 52, 53, 54, 55, 56, 57, 46, 101, 69, 43, 45] n.toUInt8 → okB n.toUInt8 = true) ∧ (Lib.indexByte [48, 49, 50, 51, 52, 53, 54, 55, 56, 57, 46, 101, 69, 43, 45] n.toUInt8 < 0 → okB n.toUInt8 = false) := by
  have : ∀ c : Fin 256, (0 ≤ Lib.indexByte [48, 49, 50, 51, 52, 53, 54, 55, 56, 57, 46, 101, 69, 43, 45] c.val.toUInt8 → okB c.val.toUInt8 = true) ∧ (Lib.indexByte [48, 49, 50, 51, 52, 53, 54, 55, 56, 57, 46, 101, 69, 43, 45] c.val.toUInt8 < 0 → okB c.val.toUInt8 = false) := by decide +kernel
  exact this ⟨n, h⟩
end Go.Proofs.YtaidemghhagniaaGreatDoor
end
section
namespace Go.Proofs.YtaidemghhagniaaGreatDoor
open Go Go.RowKit
section
variable {P : Program} {ops : Array Oper} {md : Region.Mode} {Q : Exit → Act → World → Prop}

def unlisted (l : List Bool) : Nat := (l.filter (!·)).length
theorem unlisted_set : ∀ (l : List Bool) (i : Nat), l[i]? = some false → unlisted (l.set i true) + 1 = unlisted l
  | [], i, h => by simp at h
  | b :: l, 0, h => by simp at h; subst h; simp [unlisted]
  | b :: l, i + 1, h => by
    have := unlisted_set l i (by simpa using h)
    cases b <;> simp [unlisted] at this ⊢ <;> omega
theorem unlisted_zero : ∀ (l : List Bool) (i : Nat), unlisted l = 0 → l[i]? ≠ some false
  | [], i, _ => by simp
  | b :: l, 0, h => by cases b <;> simp [unlisted] at h ⊢
  | b :: l, i + 1, h => by
    have := unlisted_zero l i (by cases b <;> simp [unlisted] at h ⊢; simpa using h)
    simpa using this

theorem wpAny_inv (I : Array Bool → Act → World → Prop)
    (hstep : ∀ listed a w i, I listed a w → i ∈ Region.ready md ops listed → wpOp P ops Q i (I (listed.setIfInBounds i true)) a w)
    (hend : ∀ listed a w, I listed a w → Region.ready md ops listed = [] → Q .normal a w) :
    ∀ (fuel : Nat) (listed : Array Bool) (a : Act) (w : World), unlisted listed.toList ≤ fuel → I listed a w → wpAny P md ops Q fuel listed a w := by
  have hlist : ∀ (listed : Array Bool) i, i ∈ Region.ready md ops listed → listed.toList[i]? = some false := by
    intro listed i hi
    have h0 := (mem_ready.1 hi).1
    rcases Nat.lt_or_ge i listed.size with h' | h'
    · simp [h'] at h0; simp [h', h0]
    · simp [Array.getElem?_eq_none h'] at h0
  intro fuel
  induction fuel with
  | zero =>
    intro listed a w hf hI
    have hr : Region.ready md ops listed = [] := by
      apply List.eq_nil_iff_forall_not_mem.2
      intro i hi
      exact unlisted_zero _ i (by omega) (hlist _ i hi)
    exact ⟨hr, hend _ _ _ hI hr⟩
  | succ fuel ih =>
    intro listed a w hf hI
    refine ⟨fun h => hend _ _ _ hI h, fun i hi => wpOp_mono (fun a' w' h' => ih _ a' w' ?_ h') (hstep _ _ _ _ hI hi)⟩
    have := unlisted_set _ _ (hlist _ i hi)
    rw [Array.toList_setIfInBounds]
    omega

theorem all_listed (hlow : ∀ (i : Nat) (o : Oper), ops[i]? = some o → ∀ e ∈ o.after, e.on < i) (listed : Array Bool) (hsz : listed.size = ops.size) (hr : Region.ready md ops listed = []) :
    ∀ i, i < ops.size → listed.getD i false = true := by
  intro i
  induction i using Nat.strongRecOn with
  | _ i ih =>
    intro hi
    by_cases hl : listed.getD i false = true
    · exact hl
    · exfalso
      have hm : i ∈ Region.ready md ops listed := by
        rw [mem_ready]
        have hi' : i < listed.size := by omega
        refine ⟨by simpa [hi'] using hl, ops[i], by simp [hi], fun e he _ => ih _ (hlow i ops[i] (by simp [hi]) e he) ?_⟩
        have := hlow i ops[i] (by simp [hi]) e he
        omega
      rw [hr] at hm; cases hm

/-- What the slot of an operation holds. -/
def slotOf (a : Act) (o : Oper) : Value := match o.dst with | some t => a.tmps.getD t undef | none => undef

/-- The frame that has in the slots of the operations what 'a' has there. -/
def fillFrom (a : Act) (b : Act) (o : Oper) : Act := match o.dst with | some t => b.put (some t) (a.tmps.getD t undef) | none => b

theorem fill_tmps (a : Act) (t : Nat) : ∀ (l : List Oper) (b : Act), b.tmps.size = a.tmps.size →
    (l.foldl (fillFrom a) b).defers = b.defers ∧ (l.foldl (fillFrom a) b).tmps.size = a.tmps.size ∧
    ((∀ o ∈ l, o.dst ≠ some t) → (l.foldl (fillFrom a) b).tmps[t]? = b.tmps[t]?) ∧ ((∃ o ∈ l, o.dst = some t) ∨ b.tmps[t]? = a.tmps[t]? → (l.foldl (fillFrom a) b).tmps[t]? = a.tmps[t]?)
  | [], b, hs => ⟨rfl, hs, fun _ => rfl, fun h => by rcases h with ⟨o, ho, _⟩ | h; · cases ho
                                                     · exact h⟩
  | o :: l, b, hs => by
    have hs' : (fillFrom a b o).tmps.size = a.tmps.size := by unfold fillFrom; cases o.dst <;> simp [Act.put, hs]
    obtain ⟨h1, h2, h3, h4⟩ := fill_tmps a t l (fillFrom a b o) hs'
    have hd : (fillFrom a b o).defers = b.defers := by unfold fillFrom; cases o.dst <;> simp [Act.put]
    have hne : o.dst ≠ some t → (fillFrom a b o).tmps[t]? = b.tmps[t]? := by
      unfold fillFrom
      cases hdst : o.dst with
      | none => simp
      | some d => intro hn; simp at hn; simp [Act.put, Array.getElem?_setIfInBounds_ne hn]
    have heq : o.dst = some t → (fillFrom a b o).tmps[t]? = a.tmps[t]? := by
      intro hdst
      unfold fillFrom
      rw [hdst]
      rcases Nat.lt_or_ge t a.tmps.size with h' | h'
      · simp [Act.put, h', hs]
      · simp [Act.put, Array.getElem?_eq_none h']; omega
    refine ⟨h1.trans hd, h2, fun hn => ?_, fun h => ?_⟩
    · rw [List.foldl_cons, h3 (fun o' ho' => hn o' (List.mem_cons_of_mem _ ho'))]
      exact hne (hn o (List.mem_cons_self ..))
    · rw [List.foldl_cons]
      apply h4
      rcases h with ⟨o', ho', hd'⟩ | h
      · rcases List.mem_cons.1 ho' with rfl | ho'
        · exact .inr (heq hd')
        · exact .inl ⟨o', ho', hd'⟩
      · by_cases hdst : o.dst = some t
        · exact .inr (heq hdst)
        · exact .inr ((hne hdst).trans h)

theorem fill_eq (a b : Act) (l : List Oper) (hs : a.tmps.size = b.tmps.size) (hd : a.defers = b.defers) (hout : ∀ t, (∀ o ∈ l, o.dst ≠ some t) → a.tmps[t]? = b.tmps[t]?) : a = l.foldl (fillFrom a) b := by
  have h := fun t => fill_tmps a t l b hs.symm
  obtain ⟨tm, df⟩ := a
  have e1 := (h 0).1
  generalize hx : l.foldl (fillFrom ⟨tm, df⟩) b = x at h e1 ⊢
  obtain ⟨tx, dx⟩ := x
  simp only at e1 hd
  rw [e1, hd]
  congr 1
  refine Array.ext_getElem? fun t => ?_
  refine ((h t).2.2.2 ?_).symm
  by_cases hx : ∃ o ∈ l, o.dst = some t
  · exact .inl hx
  · exact .inr (hout t (fun o ho e => hx ⟨o, ho, e⟩)).symm

/-- **Every order, by what each operation leaves.** 'F i v w': what the value of operation number i is to be, kept by whatever leaves the memory that there is alone. -/
theorem wp_region_facts {id : Nat} {l : List Oper} {a0 : Act} {w0 : World} (F : Nat → Value → World → Prop)
    (hm : P.follows .mixedOrders = true)
    (hlow : (List.range l.length).all (fun i => ((l[i]?).map fun o => o.after.all fun e => decide (e.on < i)).getD true) = true)
    (hdist : (l.map (·.dst)).Pairwise (· ≠ ·))
    (hdst : l.all (fun o => (o.dst.map fun d => decide (d < a0.tmps.size)).getD false) = true)
    (hkeep : ∀ i v w w', F i v w → Below w.heap.size w w' → F i v w')
    (hstep : ∀ i o, l[i]? = some o → ∀ a w, Below w0.heap.size w0 w → (∀ t, (∀ o ∈ l, o.dst ≠ some t) → a.tmps.getD t undef = a0.tmps.getD t undef) → a.tmps.size = a0.tmps.size →
      (∀ e ∈ o.after, Region.binds .any e = true → ∀ o', l[e.on]? = some o' → F e.on (slotOf a o') w) →
      wpOp P l.toArray Q i (fun a' w' => ∃ v, a' = a.put o.dst v ∧ Below w.heap.size w w' ∧ F i v w') a w)
    (hend : ∀ a w, Below w0.heap.size w0 w → (∀ i o, l[i]? = some o → F i (slotOf a o) w) → a = l.foldl (fillFrom a) a0 → Q .normal a w) :
    (Code.region id l.toArray true).wp P Q a0 w0 := by
  refine wp_region_any hm ?_
  have hlow' : ∀ (i : Nat) (o : Oper), l.toArray[i]? = some o → ∀ e ∈ o.after, e.on < i := by
    intro i o ho e he
    have hi : i < l.length := by
      rcases Nat.lt_or_ge i l.length with h | h
      · exact h
      · simp [List.getElem?_eq_none h] at ho
    have := List.all_eq_true.1 hlow i (List.mem_range.2 hi)
    simp at ho
    rw [ho] at this
    simp at this
    obtain ⟨k, hk, rfl⟩ := Array.mem_iff_getElem.1 he
    exact this k hk
  have hdd : ∀ (i j : Nat) oi oj t, l[i]? = some oi → l[j]? = some oj → oi.dst = some t → oj.dst = some t → i = j := by
    intro i j oi oj t hi hj e1 e2
    obtain ⟨hi1, hi2⟩ := List.getElem?_eq_some_iff.1 hi
    obtain ⟨hj1, hj2⟩ := List.getElem?_eq_some_iff.1 hj
    rw [List.pairwise_iff_getElem] at hdist
    rcases Nat.lt_trichotomy i j with h | h | h
    · exact absurd (by rw [List.getElem_map, List.getElem_map, hi2, hj2, e1, e2]) (hdist i j (by simpa) (by simpa) h)
    · exact h
    · exact absurd (by rw [List.getElem_map, List.getElem_map, hi2, hj2, e1, e2]) (hdist j i (by simpa) (by simpa) h)
  refine wpAny_inv (I := fun listed a w => listed.size = l.length ∧ a.tmps.size = a0.tmps.size ∧ a.defers = a0.defers ∧ Below w0.heap.size w0 w ∧ (∀ t, (∀ o ∈ l, o.dst ≠ some t) → a.tmps[t]? = a0.tmps[t]?) ∧ (∀ i o, l[i]? = some o → listed.getD i false = true → F i (slotOf a o) w)) ?_ ?_ _ _ _ _ ?_ ?_
  · rintro listed a w i ⟨h1, h2, h3, h4, h5, h6⟩ hi
    obtain ⟨hu, o, ho, haft⟩ := mem_ready.1 hi
    have ho' : l[i]? = some o := by simpa using ho
    refine wpOp_mono ?_ (hstep i o ho' a w h4 (fun t ht => by simp [h5 t ht]) h2 (fun e he hb o' hoe => h6 _ _ hoe (haft e he hb)))
    rintro a' w' ⟨v, rfl, hb, hF⟩
    have hom : o ∈ l := List.mem_of_getElem? ho'
    have hd := List.all_eq_true.1 hdst o hom
    obtain ⟨d, hod, hdlt⟩ : ∃ d, o.dst = some d ∧ d < a0.tmps.size := by
      cases hx : o.dst with
      | none => simp [hx] at hd
      | some d => simp [hx] at hd; exact ⟨d, rfl, hd⟩
    refine ⟨by simp [h1], by rw [hod]; simp [Act.put, h2], by rw [hod]; simp [Act.put, h3], h4.trans (hb.mono h4.size), fun t ht => ?_, fun j oj hj hl => ?_⟩
    · have hne : d ≠ t := fun e => ht o hom (by rw [hod, e])
      rw [hod]; simp only [Act.put]
      rw [Array.getElem?_setIfInBounds_ne hne]
      exact h5 t ht
    · by_cases hij : i = j
      · subst hij
        obtain rfl : o = oj := by rw [ho'] at hj; exact Option.some.inj hj
        have : slotOf (a.put o.dst v) o = v := by simp [slotOf, hod, Act.put, h2, hdlt]
        rw [this]; exact hF
      · rw [getD_set_ne false hij] at hl
        have hF' := hkeep _ _ _ _ (h6 j oj hj hl) hb
        have : slotOf (a.put o.dst v) oj = slotOf a oj := by
          unfold slotOf
          cases hoj : oj.dst with
          | none => rfl
          | some t =>
            have hne : d ≠ t := fun e => hij (hdd i j o oj d ho' hj hod (by rw [hoj, e]))
            rw [hod]; simp [Act.put, Array.getElem?_setIfInBounds_ne hne]
        rw [this]; exact hF'
  · rintro listed a w ⟨h1, h2, h3, h4, h5, h6⟩ hr
    have hal := all_listed hlow' listed (by simpa using h1) hr
    refine hend a w h4 (fun i o ho => h6 i o ho (hal i ?_)) (fill_eq a a0 l h2 h3 h5)
    have := (List.getElem?_eq_some_iff.1 ho).1
    simpa using this
  · rw [show l.toArray.size = l.length by simp, Array.toList_replicate, unlisted]
    exact Nat.le_trans (List.length_filter_le _ _) (by simp)
  · refine ⟨by simp, rfl, rfl, (Below.refl _ _).trans ⟨rfl, rfl, rfl, Nat.le_refl _, fun _ _ => rfl⟩, fun _ _ => rfl, fun i o ho hl => ?_⟩
    have := (List.getElem?_eq_some_iff.1 ho).1
    simp [this] at hl
end
end Go.Proofs.YtaidemghhagniaaGreatDoor
end
section
namespace Go.Proofs.YtaidemghhagniaaGreatDoor
open Go Go.RowKit
set_option linter.unusedSimpArgs false
set_option linter.unusedVariables false
section
variable {P : Program} {ops : Array Oper} {Q : Exit → Act → World → Prop} {a : Act} {w : World} {K : Act → World → Prop} {i : Nat} {o : Oper}

/-- The guard, if there is one, is met. -/
def Met (ops : Array Oper) (a : Act) (o : Oper) : Prop := Region.wanted o (yielded ops a.tmps) = true
theorem met_none (h : o.guard = none) : Met ops a o := by unfold Met Region.wanted; rw [h]
theorem met_some {j : Nat} {b : Bool} {o' : Oper} {t : Nat} (h : o.guard = some (j, b)) (hj : ops[j]? = some o') (ht : o'.dst = some t) (hv : a.tmps.getD t undef = .bool b) : Met ops a o := by
  have : a.tmps[t]? = some (.bool b) := by
    rcases Nat.lt_or_ge t a.tmps.size with h' | h'
    · simp [h'] at hv; simp [h', hv]
    · simp [Array.getElem?_eq_none h', undef] at hv
  unfold Met Region.wanted
  rw [h]
  simp [yielded, hj, ht, this]

theorem step_run {v : Value} {w' : World} (ho : ops[i]? = some o) (hm : Met ops a o) (hr : (execOp a.eval o).run P w = .ok (.value v) w') (hk : K (a.put o.dst v) w') : wpOp P ops Q i K a w := by
  unfold Met at hm
  unfold wpOp
  simp only [ho, hm, if_true]
  left
  unfold Oper.wp
  rw [hr]
  exact hk

theorem step_move {x : Operand} (ho : ops[i]? = some o) (hm : Met ops a o) (hop : o.op = .move x ∨ o.op = .assign x) (hk : K (a.put o.dst (a.eval x)) w) : wpOp P ops Q i K a w := by
  refine step_run ho hm (v := a.eval x) (w' := w) ?_ hk
  rcases hop with h | h <;> simp [execOp, h]

theorem step_conv {x : Operand} {s d : TypeId} {v : Value} {w' : World} (ho : ops[i]? = some o) (hm : Met ops a o) (hop : o.op = .convert s d x) (hr : (convert s d (a.eval x)).run P w = .ok v w') (hk : K (a.put o.dst v) w') : wpOp P ops Q i K a w := by
  refine step_run ho hm (v := v) (w' := w') ?_ hk
  simp [execOp, hop, hr, Result.andThen]

theorem step_call {f : FuncId} {dst : Option Tmp} {xs : Array Operand} {ats : Array TypeId} {ty : TypeId} {pos : String} {after : Array Edge} {guard : Option (Nat × Bool)}
    (ho : ops[i]? = some { dst, op := .call { callee := .value (.func f), args := xs, argTypes := ats }, type := ty, pos, after, guard }) (hm : Met ops a { dst, op := .call { callee := .value (.func f), args := xs, argTypes := ats }, type := ty, pos, after, guard })
    (args : Array Value) (hargs : #[] ++ xs.map a.eval ++ #[] = args) (hf : (callFunc f args).run P w = .ok (.enter f args) w)
    (hc : Calls P f args w fun e w' => ∃ v, e = .returned v ∧ K (a.put dst v) w') : wpOp P ops Q i K a w := by
  unfold Met at hm
  unfold wpOp
  simp only [ho, hm, if_true]
  left
  unfold Oper.wp
  have : (execOp a.eval { dst, op := .call { callee := .value (.func f), args := xs, argTypes := ats }, type := ty, pos, after, guard }).run P w = .ok (.enter f args) w := by
    show (callFunc f (#[] ++ xs.map a.eval ++ #[])).run P w = _
    rw [hargs, hf]
  rw [this]
  exact hc.mono fun e w' ⟨v, he, hk⟩ => by subst he; exact hk

theorem args1 {x : Operand} {v : Value} (h : a.eval x = v) : #[] ++ #[x].map a.eval ++ #[] = #[v] := by simp [h]
theorem args2 {x y : Operand} {v u : Value} (h : a.eval x = v) (g : a.eval y = u) : #[] ++ #[x, y].map a.eval ++ #[] = #[v, u] := by simp [h, g]

theorem step_pick {c x y : Operand} {b : Bool} (ho : ops[i]? = some o) (hm : Met ops a o) (hop : o.op = .pick c x y) (hc : a.eval c = .bool b) (hk : K (a.put o.dst (if b then a.eval x else a.eval y)) w) : wpOp P ops Q i K a w := by
  refine step_run ho hm (v := if b then a.eval x else a.eval y) (w' := w) ?_ hk
  simp [execOp, hop, hc, asBool, Result.andThen]

theorem step_eql {x y : Operand} {t t2 : TypeId} {m n : Int} (ho : ops[i]? = some o) (hm : Met ops a o) (hop : o.op = .binOp .eql t x y t2) (hx : a.eval x = .int .u64 m) (hy : a.eval y = .int .u64 n)
    (hk : K (a.put o.dst (.bool (m == n))) w) : wpOp P ops Q i K a w := by
  refine step_run ho hm (v := .bool (m == n)) (w' := w) ?_ hk
  simp only [execOp, hop, hx, hy]
  simp [go_sem]
theorem step_neq {x y : Operand} {t t2 : TypeId} {m n : Int} (ho : ops[i]? = some o) (hm : Met ops a o) (hop : o.op = .binOp .neq t x y t2) (hx : a.eval x = .int .u64 m) (hy : a.eval y = .int .u64 n)
    (hk : K (a.put o.dst (.bool (m != n))) w) : wpOp P ops Q i K a w := by
  refine step_run ho hm (v := .bool (m != n)) (w' := w) ?_ hk
  simp only [execOp, hop, hx, hy]
  simp [go_sem]
theorem step_build1 {t : TypeId} {x : Operand} {v : Value} {w' : World} {r : Value} (ho : ops[i]? = some o) (hm : Met ops a o) (hop : o.op = .buildSlice t 1 #[(0, x)]) (hx : a.eval x = v)
    (hr : (Instr.buildSlice t 1 #[(0, v)]).run P w = .ok r w') (hk : K (a.put o.dst r) w') : wpOp P ops Q i K a w := by
  refine step_run ho hm (v := r) (w' := w') ?_ hk
  simp [execOp, hop, hx, hr, Result.andThen]
theorem step_skip {j : Nat} {b : Bool} {o' : Oper} {t : Nat} (ho : ops[i]? = some o) (h : o.guard = some (j, b)) (hj : ops[j]? = some o') (ht : o'.dst = some t) (hv : a.tmps.getD t undef = .bool (!b)) (hk : K (a.put o.dst undef) w) : wpOp P ops Q i K a w := by
  have : a.tmps[t]? = some (.bool (!b)) := by
    rcases Nat.lt_or_ge t a.tmps.size with h' | h'
    · simp [h'] at hv; simp [h', hv]
    · simp [Array.getElem?_eq_none h', undef] at hv
  have hw : Region.wanted o (yielded ops a.tmps) = false := by
    unfold Region.wanted
    rw [h]
    cases b <;> simp [yielded, hj, ht, this]
  unfold wpOp
  simp only [ho, hw, Bool.false_eq_true, if_false]
  exact hk
theorem step_skip_u {j : Nat} {b : Bool} {o' : Oper} {t : Nat} (ho : ops[i]? = some o) (h : o.guard = some (j, b)) (hj : ops[j]? = some o') (ht : o'.dst = some t) (hv : a.tmps.getD t undef = undef) (hk : K (a.put o.dst undef) w) : wpOp P ops Q i K a w := by
  have hw : Region.wanted o (yielded ops a.tmps) = false := by
    unfold Region.wanted
    rw [h]
    rcases Nat.lt_or_ge t a.tmps.size with h' | h'
    · simp [h'] at hv
      simp [yielded, hj, ht, h', hv, undef]
    · simp [yielded, hj, ht, Array.getElem?_eq_none h']
  unfold wpOp
  simp only [ho, hw, Bool.false_eq_true, if_false]
  exact hk
theorem step_len_slice {x : Operand} {t e : TypeId} {ad : Option Addr} {n c : Nat} (ht : P.underlying t = some (.slice e)) (ho : ops[i]? = some o) (hm : Met ops a o) (hop : o.op = .call { callee := .builtin .len, args := #[x], argTypes := #[t] }) (hx : a.eval x = .slice ad n c)
    (hk : K (a.put o.dst (.int .i64 n)) w) : wpOp P ops Q i K a w := by
  refine step_run ho hm (v := .int .i64 n) (w' := w) ?_ hk
  obtain ⟨dst, op, ty, pos, after, guard⟩ := o
  simp only at hop
  subst hop
  generalize a.eval = ρ at hx ⊢
  have ht' : P.underlying t = some (.slice (P.elem t)) := by simp [Program.elem, ht]
  simp [execOp, resolve, hx, go_sem, run_len_slice _ _ _ _ _ _ ht']
theorem step_len_string {x : Operand} {t : TypeId} {s : ByteArray} (ht : P.underlying t = some .string) (ho : ops[i]? = some o) (hm : Met ops a o) (hop : o.op = .call { callee := .builtin .len, args := #[x], argTypes := #[t] }) (hx : a.eval x = .string s)
    (hk : K (a.put o.dst (.int .i64 s.size)) w) : wpOp P ops Q i K a w := by
  refine step_run ho hm (v := .int .i64 s.size) (w' := w) ?_ hk
  obtain ⟨dst, op, ty, pos, after, guard⟩ := o
  simp only at hop
  subst hop
  generalize a.eval = ρ at hx ⊢
  simp [execOp, resolve, hx, go_sem, run_len_string _ _ _ _ ht]
theorem step_load {x : Operand} {t : TypeId} {v : Value} {p : Value} (ho : ops[i]? = some o) (hm : Met ops a o) (hop : o.op = .load t x) (hx : a.eval x = p) (hr : (execOp (fun _ => p) { o with op := .load t x }).run P w = .ok (.value v) w) (hk : K (a.put o.dst v) w) : wpOp P ops Q i K a w := by
  refine step_run ho hm (v := v) (w' := w) ?_ hk
  obtain ⟨dst, op, ty, pos, after, guard⟩ := o
  simp only at hop
  subst hop
  simpa [execOp, hx] using hr
theorem step_bin {x y : Operand} {op : BinOp} {t t2 : TypeId} {u v r : Value} {w' : World} (ho : ops[i]? = some o) (hm : Met ops a o) (hop : o.op = .binOp op t x y t2) (hx : a.eval x = u) (hy : a.eval y = v)
    (hr : (do eqGuard op t x y u v; binOp op t u v : Sem Value).run P w = .ok r w') (hk : K (a.put o.dst r) w') : wpOp P ops Q i K a w := by
  refine step_run ho hm (v := r) (w' := w') ?_ hk
  simp only [execOp, hop, hx, hy]
  rw [Sem.run_bind, hr]
  rfl
theorem step_extract {x : Operand} {n : Nat} {v r : Value} (ho : ops[i]? = some o) (hm : Met ops a o) (hop : o.op = .extract x n) (hx : a.eval x = v) (hr : (Instr.extract v n).run P w = .ok r w)
    (hk : K (a.put o.dst r) w) : wpOp P ops Q i K a w := by
  refine step_run ho hm (v := r) (w' := w) ?_ hk
  simp [execOp, hop, hx, hr, Result.andThen]
theorem step_slice_hi {t : TypeId} {x y : Operand} {v u r : Value} {w' : World} (ho : ops[i]? = some o) (hm : Met ops a o) (hop : o.op = .slice t x none (some y) none) (hx : a.eval x = v) (hy : a.eval y = u)
    (hr : (Instr.sliceAt t v none (some u) none).run P w = .ok r w') (hk : K (a.put o.dst r) w') : wpOp P ops Q i K a w := by
  refine step_run ho hm (v := r) (w' := w') ?_ hk
  simp [execOp, hop, hx, hy, hr, Result.andThen]
theorem step_slice_lo {t : TypeId} {x y : Operand} {v u r : Value} {w' : World} (ho : ops[i]? = some o) (hm : Met ops a o) (hop : o.op = .slice t x (some y) none none) (hx : a.eval x = v) (hy : a.eval y = u)
    (hr : (Instr.sliceAt t v (some u) none none).run P w = .ok r w') (hk : K (a.put o.dst r) w') : wpOp P ops Q i K a w := by
  refine step_run ho hm (v := r) (w' := w') ?_ hk
  simp [execOp, hop, hx, hy, hr, Result.andThen]
theorem step_len {x : Operand} {tys : Array TypeId} {v r : Value} {w' : World} (ho : ops[i]? = some o) (hm : Met ops a o) (hop : o.op = .call { callee := .builtin .len, args := #[x], argTypes := tys }) (hx : a.eval x = v)
    (hr : (execOp (fun _ => v) { o with op := .call { callee := .builtin .len, args := #[x], argTypes := tys } }).run P w = .ok (.value r) w') (hk : K (a.put o.dst r) w') : wpOp P ops Q i K a w := by
  refine step_run ho hm (v := r) (w' := w') ?_ hk
  obtain ⟨dst, op, ty, pos, after, guard⟩ := o
  simp only at hop
  subst hop
  simpa [execOp, resolve, hx] using hr
theorem step_faddr {x : Operand} {t : TypeId} {n : Nat} {v r : Value} (ho : ops[i]? = some o) (hm : Met ops a o) (hop : o.op = .fieldAddr t x n) (hx : a.eval x = v) (hr : (Instr.fieldAt t v n).run P w = .ok r w)
    (hk : K (a.put o.dst r) w) : wpOp P ops Q i K a w := by
  refine step_run ho hm (v := r) (w' := w) ?_ hk
  simp [execOp, hop, hx, hr, Result.andThen]
theorem step_not {x : Operand} {t : TypeId} {b : Bool} (ho : ops[i]? = some o) (hm : Met ops a o) (hop : o.op = .unOp .not t x) (hx : a.eval x = .bool b)
    (hk : K (a.put o.dst (.bool (!b))) w) : wpOp P ops Q i K a w := by
  refine step_run ho hm (v := .bool (!b)) (w' := w) ?_ hk
  simp only [execOp, hop, hx]
  simp [go_sem]
end
end Go.Proofs.YtaidemghhagniaaGreatDoor
end
section
namespace Go.Proofs.YtaidemghhagniaaGreatDoor
open Go Go.RowKit
/-- A string of these bytes. -/
def BS (l : List UInt8) : ByteArray := ⟨l.toArray⟩
theorem BS_size (l : List UInt8) : (BS l).size = l.length := by unfold BS; show l.toArray.size = _; simp
theorem BS_data (l : List UInt8) : (BS l).data.toList = l := rfl
theorem BS_app (a b : List UInt8) : BS a ++ BS b = BS (a ++ b) := by apply ba_ext; simp [BS]
theorem run_cat (a b : List UInt8) (x y : Operand) (h : a.length + b.length ≤ 100000) (w : World) : (do eqGuard .add 9 x y (.string (BS a)) (.string (BS b)); binOp .add 9 (.string (BS a)) (.string (BS b)) : Sem Value).run Tryz.prog w = .ok (.string (BS (a ++ b))) w := by
  rw [← BS_app]
  have h1 := BS_size a
  have h2 := BS_size b
  generalize BS a = A at *
  generalize BS b = B at *
  have h3 : A.size ≤ 100000 := by omega
  have h4 : B.size ≤ 100000 := by omega
  go_simp
  omega
theorem run_hi (l : List UInt8) (i : Nat) (h : i ≤ l.length) (w : World) : (Instr.sliceAt 9 (.string (BS l)) none (some (.int .i64 (i : Int))) none).run Tryz.prog w = .ok (.string (BS (l.take i))) w := by
  have h1 : i ≤ (BS l).size := by rw [BS_size]; exact h
  go_simp
  apply ba_ext; simp [BS]
theorem run_lo (l : List UInt8) (i : Nat) (h : i ≤ l.length) (w : World) : (Instr.sliceAt 9 (.string (BS l)) (some (.int .i64 (i : Int))) none none).run Tryz.prog w = .ok (.string (BS (l.drop i))) w := by
  have h1 : i ≤ (BS l).size := by rw [BS_size]; exact h
  go_simp
  rw [BS_size]; apply ba_ext; simp [BS]
  rw [List.take_of_length_le (by simp)]
theorem run_b1 (w : World) (b : UInt8) : (Instr.buildSlice 37 1 #[(0, .int .u8 (b.toNat : Int))]).run Tryz.prog w = .ok (.slice (some ⟨w.heap.size, 0, none⟩) 1 1) (w.alloc (.cells #[.int .u8 (b.toNat : Int)] 5)) := by
  go_simp
theorem run_c1 (w : World) (g : Nat) (b : UInt8) (h : w.cell? ⟨g, 0, none⟩ = some (.int .u8 (b.toNat : Int))) : (convert 37 9 (.slice (some ⟨g, 0, none⟩) 1 1)).run Tryz.prog w = .ok (.string (BS [b])) w :=
  run_convert_bytes_back (P := Tryz.prog) w 37 9 5 ⟨g, 0, none⟩ 1 [b] Tryz.underlying37 Tryz.underlying5 Tryz.underlying9 (fun j hj => by
    obtain rfl : j = 0 := by simpa using hj
    simpa [Addr.add] using h)
theorem run_b13 (w : World) (x0 x1 x2 x3 x4 x5 x6 x7 x8 x9 x10 x11 x12 : ByteArray) : (Instr.buildSlice 38 13 #[(0, .string x0), (1, .string x1), (2, .string x2), (3, .string x3), (4, .string x4), (5, .string x5), (6, .string x6), (7, .string x7), (8, .string x8), (9, .string x9), (10, .string x10), (11, .string x11), (12, .string x12)]).run Tryz.prog w =
    .ok (.slice (some ⟨w.heap.size, 0, none⟩) 13 13) (w.alloc (.cells #[.string x0, .string x1, .string x2, .string x3, .string x4, .string x5, .string x6, .string x7, .string x8, .string x9, .string x10, .string x11, .string x12] 9)) := by
  go_simp
theorem run_quo (n : Nat) (x y : Operand) (h : 1 ≤ n) (h2 : n ≤ 1000) (w : World) : (do eqGuard .quo 3 x y (.int .i64 1200) (.int .i64 (n : Int)); binOp .quo 3 (.int .i64 1200) (.int .i64 (n : Int)) : Sem Value).run Tryz.prog w = .ok (.int .i64 ((1200 / n : Nat) : Int)) w := by
  go_simp
  have h3 : 1200 / n ≤ 1200 := Nat.div_le_self _ _
  have h4 : Int.tdiv 1200 (n : Int) = ((1200 / n : Nat) : Int) := Int.ofNat_tdiv 1200 n
  rw [if_neg (by omega), h4, IntKind.wrap_i64]
  obtain ⟨q, hq⟩ : ∃ q, q = 1200 / n := ⟨_, rfl⟩
  rw [← hq] at h3
  have h5 : ((1200 : Int) / (n : Int)) = (q : Int) := by rw [hq]; rfl
  rw [← hq, h5, show ((q : Int) + 9223372036854775808) % 18446744073709551616 - 9223372036854775808 = q by omega]
theorem run_inc (n : Nat) (x y : Operand) (h2 : n ≤ 10000) (w : World) : (do eqGuard .add 3 x y (.int .i64 (n : Int)) (.int .i64 1); binOp .add 3 (.int .i64 (n : Int)) (.int .i64 1) : Sem Value).run Tryz.prog w = .ok (.int .i64 ((n + 1 : Nat) : Int)) w := by
  go_simp
  rw [IntKind.wrap_i64]
  omega
theorem step_b13 {ops : Array Oper} {Q : Exit → Act → World → Prop} {a : Act} {w : World} {K : Act → World → Prop} {i : Nat} {o : Oper} {X0 X1 X2 X3 X4 X5 X6 X7 X8 X9 X10 X11 X12 : Operand} {y0 y1 y2 y3 y4 y5 y6 y7 y8 y9 y10 y11 y12 : ByteArray} (ho : ops[i]? = some o) (hm : Met ops a o) (hop : o.op = .buildSlice 38 13 #[(0, X0), (1, X1), (2, X2), (3, X3), (4, X4), (5, X5), (6, X6), (7, X7), (8, X8), (9, X9), (10, X10), (11, X11), (12, X12)])
    (h0 : a.eval X0 = .string y0) (h1 : a.eval X1 = .string y1) (h2 : a.eval X2 = .string y2) (h3 : a.eval X3 = .string y3) (h4 : a.eval X4 = .string y4) (h5 : a.eval X5 = .string y5) (h6 : a.eval X6 = .string y6) (h7 : a.eval X7 = .string y7) (h8 : a.eval X8 = .string y8) (h9 : a.eval X9 = .string y9) (h10 : a.eval X10 = .string y10) (h11 : a.eval X11 = .string y11) (h12 : a.eval X12 = .string y12)
    (hk : K (a.put o.dst (.slice (some ⟨w.heap.size, 0, none⟩) 13 13)) (w.alloc (.cells #[.string y0, .string y1, .string y2, .string y3, .string y4, .string y5, .string y6, .string y7, .string y8, .string y9, .string y10, .string y11, .string y12] 9))) : wpOp Tryz.prog ops Q i K a w := by
  refine step_run ho hm (v := .slice (some ⟨w.heap.size, 0, none⟩) 13 13) (w' := w.alloc (.cells #[.string y0, .string y1, .string y2, .string y3, .string y4, .string y5, .string y6, .string y7, .string y8, .string y9, .string y10, .string y11, .string y12] 9)) ?_ hk
  simp [execOp, hop, h0, h1, h2, h3, h4, h5, h6, h7, h8, h9, h10, h11, h12, run_b13, Result.andThen]
end Go.Proofs.YtaidemghhagniaaGreatDoor
end
