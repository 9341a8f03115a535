/- The reference's functions. -/
import Derived.Test.YtaidemghhagniaaGreatDoorJ2
import Derived.Test.YtaidemghhagniaaGreatDoorXA
import Derived.Laws.MakeOwn
import Derived.Laws.OwnMore
import Derived.Deep.RegionLawGrows
import Derived.Lib.ItoaNum
import Derived.RegionTactic
import Derived.ChangeAlike
import Derived.Test.YtaidemghhagniaaGreatDoorFG
import Derived.Test.YtaidemghhagniaaGreatDoorXD
import Derived.Laws.AppendOwnNone
section
namespace Go.Proofs.YtaidemghhagniaaGreatDoor
open Go
/-- The digits of 16 bits, the last one not 0. -/
def bg (n : Nat) : List Nat := if h : n = 0 then [] else n % 65536 :: bg (n / 65536)
termination_by n
decreasing_by omega
def bv : List Nat → Nat | [] => 0 | x :: t => x + 65536 * bv t
def Dg (l : List Nat) : Prop := ∀ x ∈ l, x < 65536
theorem bg_zero : bg 0 = [] := by rw [bg]; rfl
theorem bg_pos (n : Nat) (h : 0 < n) : bg n = n % 65536 :: bg (n / 65536) := by rw [bg, dif_neg (by omega)]
theorem bg_dg (n : Nat) : Dg (bg n) := by
  induction n using Nat.strongRecOn with
  | _ n ih =>
    by_cases h : n = 0
    · subst h; rw [bg_zero]; intro x hx; cases hx
    · rw [bg_pos n (by omega)]
      intro x hx
      rw [List.mem_cons] at hx
      rcases hx with rfl | hx
      · omega
      · exact ih (n / 65536) (by omega) x hx
theorem bv_bg (n : Nat) : bv (bg n) = n := by
  induction n using Nat.strongRecOn with
  | _ n ih =>
    by_cases h : n = 0
    · subst h; rw [bg_zero]; rfl
    · rw [bg_pos n (by omega)]
      show n % 65536 + 65536 * bv (bg (n / 65536)) = n
      rw [ih (n / 65536) (by omega)]; omega
theorem bv_app (a b : List Nat) : bv (a ++ b) = bv a + 65536 ^ a.length * bv b := by
  induction a with
  | nil => simp [bv]
  | cons x t ih =>
    show x + 65536 * bv (t ++ b) = x + 65536 * bv t + 65536 ^ (t.length + 1) * bv b
    rw [ih, Nat.mul_add, Nat.pow_succ, ← Nat.mul_assoc, Nat.mul_comm 65536 (65536 ^ t.length)]; omega
theorem bv_lt (l : List Nat) (h : Dg l) : bv l < 65536 ^ l.length := by
  induction l with
  | nil => exact Nat.one_pos
  | cons x t ih =>
    have h1 := h x (List.mem_cons_self ..)
    have h2 := ih (fun y hy => h y (List.mem_cons_of_mem _ hy))
    show x + 65536 * bv t < 65536 ^ (t.length + 1)
    rw [Nat.pow_succ]; omega
/-- Without zeros at the end. -/
def trN (l : List Nat) : List Nat := bg (bv l)
theorem bg_cons (x y : Nat) (hx : x < 65536) (h : 0 < x + 65536 * y) : bg (x + 65536 * y) = x :: bg y := by
  rw [bg_pos _ h]
  congr 1
  · omega
  · congr 1; omega
theorem trN_keep (l : List Nat) : Dg l → (l = [] ∨ ∃ m x, l = m ++ [x] ∧ x ≠ 0) → trN l = l := by
  induction l with
  | nil => intro _ _; unfold trN bv; exact bg_zero
  | cons x t ih =>
    intro hd h
    obtain ⟨m, y, e, hy⟩ := h.resolve_left (by simp)
    have h1 := hd x (List.mem_cons_self ..)
    have h2 : Dg t := fun z hz => hd z (List.mem_cons_of_mem _ hz)
    have h3 : t = [] ∨ ∃ m x, t = m ++ [x] ∧ x ≠ 0 := by
      cases m with
      | nil => left; simp at e; exact e.2
      | cons a b => right; exact ⟨b, y, by simp at e; exact e.2, hy⟩
    have h4 := ih h2 h3
    unfold trN at *
    show bg (x + 65536 * bv t) = x :: t
    have hpos : 0 < x + 65536 * bv t := by
      cases m with
      | nil => simp at e; obtain ⟨rfl, rfl⟩ := e; simp [bv]; omega
      | cons a b =>
        have : bv t ≠ 0 := by
          intro e0
          rw [e0, bg_zero] at h4
          subst h4
          simp at e
        omega
    rw [bg_cons _ _ h1 hpos, h4]
theorem trN_snoc (m : List Nat) : trN (m ++ [0]) = trN m := by
  unfold trN; rw [bv_app]; simp [bv]
theorem trN_pre (l : List Nat) (h : Dg l) : trN l = l.take (trN l).length := by
  have key : ∀ n (l : List Nat), l.length = n → Dg l → ∃ k, k ≤ l.length ∧ trN l = l.take k ∧ (trN l).length = k := by
    intro n
    induction n with
    | zero => intro l hl _; rw [List.eq_nil_of_length_eq_zero hl]; exact ⟨0, Nat.le_refl _, by unfold trN bv; exact bg_zero, by unfold trN bv; rw [bg_zero]; rfl⟩
    | succ n ih =>
      intro l hl hd
      have hne : l ≠ [] := fun e => by rw [e] at hl; cases hl
      have e := (List.dropLast_concat_getLast hne).symm
      by_cases h0 : l.getLast hne = 0
      · rw [h0] at e
        have hd' : Dg l.dropLast := fun x hx => hd x (List.dropLast_subset _ hx)
        obtain ⟨k, k1, k2, k3⟩ := ih l.dropLast (by rw [List.length_dropLast]; omega) hd'
        rw [List.length_dropLast] at k1
        have e2 : trN l = trN l.dropLast := by conv => lhs; rw [e]
                                               exact trN_snoc _
        refine ⟨k, by omega, ?_, by rw [e2]; exact k3⟩
        rw [e2, k2, List.dropLast_eq_take, List.take_take, Nat.min_eq_left (by omega)]
      · refine ⟨l.length, Nat.le_refl _, ?_, ?_⟩
        · rw [List.take_length]; exact trN_keep l hd (.inr ⟨_, _, e, h0⟩)
        · rw [trN_keep l hd (.inr ⟨_, _, e, h0⟩)]
  obtain ⟨k, _, k2, k3⟩ := key _ l rfl h
  rw [k3]; exact k2
theorem trN_le (l : List Nat) (h : Dg l) : (trN l).length ≤ l.length := by
  have := congrArg List.length (trN_pre l h)
  rw [List.length_take] at this
  omega
end Go.Proofs.YtaidemghhagniaaGreatDoor
end
section
namespace Go.Proofs.YtaidemghhagniaaGreatDoor
open Go Go.RowKit
def encI (x : Nat) : Value := .int .i64 (x : Int)
/-- A number of the reference that can be read. -/
structure NRow (w : World) (a : Option Addr) (c : Nat) (l : List Nat) : Prop where
  row : Row w (.slice a l.length c) (l.map encI)
  at' : ∃ b off, ∀ i, i < l.length → a = some ⟨b, off, none⟩ ∧ b < w.heap.size ∧ w.cell? ⟨b, off + i, none⟩ = some (.int .i64 ((l.getD i 0 : Nat) : Int))
  cap : l.length ≤ c
theorem NRow.of {w : World} {a : Option Addr} {c : Nat} {l : List Nat} (h : Row w (.slice a l.length c) (l.map encI)) : NRow w a c l := by
  refine ⟨h, ?_, ?_⟩
  · rcases h with ⟨a', c', _, h1, h2⟩ | ⟨b, off, cap, h1, h2, h3, h4, h5⟩
    · refine ⟨0, 0, fun i hi => ?_⟩
      have : l = [] := by simpa using h2
      rw [this] at hi; cases hi
    · refine ⟨b, off, fun i hi => ?_⟩
      obtain ⟨rfl, _, _⟩ := (Value.slice.injEq ..).mp h1
      refine ⟨rfl, h2, ?_⟩
      rw [h5 i (by rw [List.length_map]; omega), List.getElem_map, List.getD_eq_getElem?_getD, List.getElem?_eq_getElem hi]
      rfl
  · rcases h with ⟨a', c', _, h1, h2⟩ | ⟨b, off, cap, h1, h2, h3, h4, h5⟩
    · have : l = [] := by simpa using h2
      rw [this]; exact Nat.zero_le _
    · obtain ⟨_, _, rfl⟩ := (Value.slice.injEq ..).mp h1
      rw [List.length_map] at h3; exact h3
theorem NRow.on {w W : World} {a : Option Addr} {c : Nat} {l : List Nat} (h : NRow w a c l) (hb : Below w.heap.size w W) : NRow W a c l := NRow.of (h.row.on hb)
theorem take_last (l : List Nat) (k : Nat) (h : k < l.length) : l.take (k + 1) = l.take k ++ [l.getD k 0] := by
  rw [List.take_add_one, List.getElem?_eq_getElem h, List.getD_eq_getElem?_getD, List.getElem?_eq_getElem h]; rfl
set_option maxRecDepth 100000 in
set_option maxHeartbeats 4000000 in
theorem trim_any (a : Option Addr) (c : Nat) (l : List Nat) (hd : Dg l) (hl : l.length ≤ 100000) (w : World) (h : NRow w a c l) :
    Calls Tryz.prog 107 #[.slice a l.length c] w fun e w' => e = .returned (.slice a (trN l).length c) ∧ w = w' := by
  obtain ⟨b, off, hat⟩ := h.at'
  have hcap := h.cap
  obtain ⟨n, hn⟩ : ∃ n, n = l.length := ⟨_, rfl⟩
  obtain ⟨t, ht⟩ : ∃ t, Hid (t = (trN l).length) := ⟨_, Lib.hid rfl⟩
  rw [← ht.out]
  replace hat := Lib.hid hat
  have hdh := Lib.hid hd
  have hnh := Lib.hid hn
  rw [← hn] at hcap hl ⊢
  clear h hn hd
  go_enter Tryz.func107, Tryz.ntmps107
  go_wp2_with fail
  go_loopg [0] (n + 1) (fun gk s0 wx => ∃ k : Nat, k < gk ∧ k ≤ n ∧ s0 = .slice a k c ∧ Hid (trN (l.take k) = trN l) ∧ w = wx)
  case atStart => exact ⟨n, by omega, by omega, rfl, Lib.hid (by rw [hnh.out, List.take_length]), rfl⟩
  case round =>
    obtain ⟨k, hg, hk, rfl, hT, rfl⟩ := hrel
    have hdk : Hid (Dg (l.take k)) := Lib.hid (fun x hx => hdh.out x (List.mem_of_mem_take hx))
    by_cases h0 : k = 0
    · subst h0
      have e : Hid (t = 0) := Lib.hid (by rw [ht.out, ← hT.out]; show (bg 0).length = 0; rw [bg_zero]; rfl)
      clear hat hT hdk
      go_wp2_with fail
      go_ret
      exact ⟨by rw [e.out]; rfl, rfl⟩
    · obtain ⟨j, rfl⟩ : ∃ j, k = j + 1 := ⟨k - 1, by omega⟩
      obtain ⟨rfl, hbw, hcell⟩ := hat.out j (by rw [← hnh.out]; omega)
      have u1 : decide ((0 : Int) < ((j + 1 : Nat) : Int)) = true := decide_eq_true (by omega)
      have hsn := take_last l j (by rw [← hnh.out]; omega)
      by_cases hz : l.getD j 0 = 0
      · rw [hz] at hcell hsn
        have hT2 : Hid (trN (l.take j) = trN l) := Lib.hid (by rw [← hT.out, hsn, trN_snoc])
        clear hT hdk hsn hz
        go_wp2_with fail
        go_roundg (gk - 1)
        case measure => omega
        case rel => exact ⟨j, by omega, by omega, rfl, hT2, rfl⟩
      · obtain ⟨x, hx⟩ : ∃ x, Hid (x = l.getD j 0) := ⟨_, Lib.hid rfl⟩
        have e : Hid (t = j + 1) := Lib.hid (by
          rw [ht.out, ← hT.out, trN_keep _ hdk.out (.inr ⟨_, _, hsn, hz⟩), List.length_take, ← hnh.out]; omega)
        rw [← hx.out] at hcell hz
        have u2 : ((x : Int) == 0) = false := beq_eq_false_iff_ne.2 (by omega)
        clear hT hdk hsn
        go_wp2_with fail
        go_ret
        exact ⟨by rw [e.out]; rfl, rfl⟩
end Go.Proofs.YtaidemghhagniaaGreatDoor
end
section
namespace Go.Proofs.YtaidemghhagniaaGreatDoor
open Go Go.RowKit
theorem info3 : (Tryz.prog.info? 3).map (fun i => (i.zero, i.size, i.bytes)) = some (some (.int .i64 0), 1, 8) := by kernel_rfl
/-- A number of the call's own. -/
def OB (w : World) (B : Nat) (v : Value) (l : List Nat) : Prop := w.ownsRow B 3 1 v l.length (l.map encI)
theorem OB.shape {w : World} {B : Nat} {v : Value} {l : List Nat} (h : OB w B v l) : ∃ a c, v = .slice a l.length c := own_sh h
theorem OB.nrow {w : World} {B : Nat} {a : Option Addr} {c : Nat} {l : List Nat} (h : OB w B (.slice a l.length c) l) : NRow w a c l := by
  refine NRow.of ?_
  rcases h.2 with ⟨h1, h2⟩ | ⟨g, cap, cur, h1, h2, h3, h4, h5, h6, h7⟩
  · obtain ⟨rfl, _, rfl⟩ := (Value.slice.injEq ..).mp h1
    have : l = [] := List.eq_nil_of_length_eq_zero h2
    subst this
    exact .inl ⟨none, 0, fun _ => rfl, rfl, rfl⟩
  · obtain ⟨rfl, _, rfl⟩ := (Value.slice.injEq ..).mp h1
    refine .inr ⟨g, 0, c, by rw [List.length_map], (Array.getElem?_eq_some_iff.1 h3).1, by rw [List.length_map]; exact h4, h5, fun i hi => ?_⟩
    rw [Nat.zero_add, Lib.cell_of_heap h3]
    have h8 := congrArg (·[i]?) h7
    simp only [List.getElem?_take] at h8
    rw [List.length_map] at hi
    have h9 : (List.map encI l)[i]? = some ((List.map encI l)[i]'(by rw [List.length_map]; exact hi)) := List.getElem?_eq_getElem _
    rw [if_pos (by omega), h9] at h8
    simpa using h8
theorem OB.cut {w : World} {B : Nat} {a : Option Addr} {c : Nat} {l : List Nat} (h : OB w B (.slice a l.length c) l) (m : List Nat) (k : Nat) (hm : m = l.take k) (hk : m.length = k) (hkl : k ≤ l.length) : OB w B (.slice a k c) m := by
  unfold OB
  rw [hk]
  refine ⟨by rw [List.length_map, hk, Nat.mul_one], ?_⟩
  rcases h.2 with ⟨h1, h2⟩ | ⟨g, cap, cur, h1, h2, h3, h4, h5, h6, h7⟩
  · left
    obtain ⟨rfl, _, rfl⟩ := (Value.slice.injEq ..).mp h1
    exact ⟨by rw [show k = 0 by omega], by omega⟩
  · right
    obtain ⟨rfl, _, rfl⟩ := (Value.slice.injEq ..).mp h1
    refine ⟨g, c, cur, rfl, h2, h3, by omega, h5, h6, ?_⟩
    rw [Nat.mul_one] at h7 ⊢
    rw [hm, List.map_take, ← h7, List.take_take, Nat.min_eq_left hkl]
theorem trim_own (a : Option Addr) (c B : Nat) (l : List Nat) (hd : Dg l) (hl : l.length ≤ 100000) (w : World) (h : OB w B (.slice a l.length c) l) :
    Calls Tryz.prog 107 #[.slice a l.length c] w fun e w' => ∃ v, e = .returned v ∧ OB w B v (bg (bv l)) ∧ w = w' := by
  refine (trim_any a c l hd hl w h.nrow).mono ?_
  rintro e w' ⟨rfl, rfl⟩
  exact ⟨_, rfl, h.cut _ _ (trN_pre l hd) rfl (trN_le l hd), rfl⟩
theorem bg_len (j : Nat) : ∀ x, x < 65536 ^ j → (bg x).length ≤ j := by
  induction j with
  | zero => intro x h; rw [Nat.pow_zero] at h; rw [show x = 0 by omega, bg_zero]; exact Nat.le_refl _
  | succ j ih =>
    intro x h
    by_cases h0 : x = 0
    · subst h0; rw [bg_zero]; exact Nat.zero_le _
    · rw [bg_pos x (by omega), List.length_cons]
      have : x / 65536 < 65536 ^ j := by rw [Nat.div_lt_iff_lt_mul (by decide)]; rw [Nat.pow_succ] at h; exact h
      have := ih _ this
      omega
theorem times_step (bo T bt i m x k m0 d q : Nat) (h : bo + T * m = bt * k + m0) (hq : m + x * k = d + 65536 * q) (hi : T = 65536 ^ i) : bo + T * d + 65536 ^ (i + 1) * q = (bt + T * x) * k + m0 := by
  rw [Nat.pow_succ, ← hi, Nat.add_mul, Nat.mul_assoc T x k, Nat.mul_assoc T 65536 q]
  have := congrArg (T * ·) hq
  simp only [Nat.mul_add] at this
  omega
set_option maxRecDepth 100000 in
set_option maxHeartbeats 8000000 in
theorem times_any (a : Option Addr) (c x k m0 : Nat) (hk : k < 65536) (hm0 : m0 < 65536) (hx : (bg x).length ≤ 10000) (w : World) (h : NRow w a c (bg x)) :
    Calls Tryz.prog 86 #[.slice a (bg x).length c, .int .i64 k, .int .i64 m0] w fun e w' => ∃ v, e = .returned v ∧ OB w' w.heap.size v (bg (x * k + m0)) ∧ Below w.heap.size w w' := by
  have hbd := Lib.hid (bg_dg x)
  have hbv := Lib.hid (bv_bg x)
  obtain ⟨l, hl⟩ : ∃ l, l = bg x := ⟨_, rfl⟩
  rw [← hl] at hbd hbv hx h ⊢
  clear hl
  obtain ⟨b, off, hat⟩ := h.at'
  replace hat := Lib.hid hat
  obtain ⟨n, hn⟩ : ∃ n, n = l.length := ⟨_, rfl⟩
  obtain ⟨i3, hi3, hz0, hz1, hz2⟩ := info_parts info3
  obtain ⟨wm, hmk, hown, hgr⟩ := run_make_own (P := Tryz.prog) w w.heap.size 102 3 i3 (.int .i64 0) 1 Tryz.underlying102 hi3 hz0 hz1 .i64 .i64 (n + 2) (by rw [hz2]; omega) (by unfold maxLen; omega) (Nat.le_refl _)
  rw [show (((n + 2 : Nat)) : Int) = (n : Int) + 2 from rfl] at hmk
  have hwb : Hid (Below w.heap.size w wm) := Lib.hid ((Below.refl w.heap.size w).grown hgr (Nat.le_refl _) (fun _ e => by cases e))
  have I0 : Hid (OB wm w.heap.size (.slice (some ⟨w.heap.size, 0, none⟩) 0 (n + 2)) []) := Lib.hid hown
  rw [← hn] at hx ⊢
  have hnh := Lib.hid hn
  clear h hn hown hgr hi3 hz0 hz1 hz2
  go_enter Tryz.func86, Tryz.ntmps86
  go_upto_block 0 with (fail)
  go_cut [2, 7] (fun s2 s7 wx => ∃ m : Nat, s2 = .int .i64 (m : Int) ∧ m < 65536 ∧ ∃ o : List Nat, Hid (OB wx w.heap.size s7 o) ∧ Hid (Dg o) ∧ Hid (bv o + 65536 ^ o.length * m = x * k + m0) ∧ o.length ≤ n ∧ Hid (Below w.heap.size w wx))
  case first =>
    go_wp2_with fail
    go_loopg [2, 7, 8] (n + 1) (fun gk s2 s7 s8 wx => ∃ (i m : Nat) (o : List Nat), n - i < gk ∧ i ≤ n ∧ s8 = .int .i64 (i : Int) ∧ s2 = .int .i64 (m : Int) ∧ m < 65536 ∧ o.length = i ∧ Hid (OB wx w.heap.size s7 o) ∧ Hid (Dg o) ∧ Hid (bv o + 65536 ^ i * m = bv (l.take i) * k + m0) ∧ Hid (Below w.heap.size w wx))
    case atStart => exact ⟨0, m0, [], by omega, by omega, rfl, rfl, hm0, rfl, I0, Lib.hid (fun y hy => by cases hy), Lib.hid (by simp [bv]), hwb⟩
    case round =>
      clear I0 hwb hmk
      obtain ⟨i, m, o, hg, hi, rfl, rfl, hm, hoi, I, hD, hV, B⟩ := hrel
      by_cases hlt : i < n
      · have t1 : decide ((i : Int) < (n : Int)) = true := decide_eq_true (by omega)
        have t1' : decide (i < n) = true := decide_eq_true hlt
        obtain ⟨rfl, hbw, hcell⟩ := hat.out i (by rw [← hnh.out]; exact hlt)
        have hc : wr.cell? ⟨b, off + i, none⟩ = some (.int .i64 ((l.getD i 0 : Nat) : Int)) := by rw [B.out.cell hbw]; exact hcell
        have hBs := B.out.size
        obtain ⟨y, hy⟩ : ∃ y, Hid (y = l.getD i 0) := ⟨_, Lib.hid rfl⟩
        rw [← hy.out] at hc
        have hy6 : y < 65536 := by
          rw [hy.out, List.getD_eq_getElem?_getD, List.getElem?_eq_getElem (by rw [← hnh.out]; exact hlt)]
          exact hbd.out _ (List.getElem_mem _)
        obtain ⟨p, hp⟩ : ∃ p, y * k = p := ⟨_, rfl⟩
        have hpb : p ≤ 4294836225 := by rw [← hp]; exact Nat.mul_le_mul (show y ≤ 65535 by omega) (show k ≤ 65535 by omega)
        have hpI : (y : Int) * (k : Int) = (p : Int) := by rw [← hp]; rfl
        obtain ⟨a7, c7, rfl⟩ := I.out.shape
        have hV2 : Hid (bv (o ++ [(m + p) % 65536]) + 65536 ^ (i + 1) * ((m + p) / 65536) = bv (l.take (i + 1)) * k + m0) := Lib.hid (by
          rw [take_last l i (by rw [← hnh.out]; exact hlt), bv_app, bv_app, ← hy.out, hoi, List.length_take, ← hnh.out, Nat.min_eq_left hi]
          have e1 : ∀ z, bv [z] = z := fun z => by simp [bv]
          rw [e1, e1]
          exact times_step _ _ _ _ m y k m0 _ _ hV.out (by rw [hp]; omega) rfl)
        have hD2 : Hid (Dg (o ++ [(m + p) % 65536])) := Lib.hid (fun z hz => by
          rw [List.mem_append, List.mem_singleton] at hz
          rcases hz with hz | rfl
          · exact hD.out z hz
          · omega)
        have hp2 := Lib.hid hp
        clear hV hD hcell hbw hp
        go_wp2_with (at_builtin; go_must (refine app_one rfl (.tmp 27) (.tmp 30) 102 rfl (u := .int .i64 (((m + p) % 65536 : Nat) : Int)) w.heap.size (.int .i64 0) 8 Tryz.underlying102 info3 rfl _ o.length _ rfl rfl I.out rfl (by omega) (by omega) hBs ?_); rintro v2 w3 hown2' hb2 hs2 _ hv3; have hown2 := Lib.hid hown2'; clear hown2')
        obtain ⟨g4, cap4, rfl⟩ := hv3
        have I2 : Hid (OB w3 w.heap.size (.slice (some ⟨g4, 0, none⟩) (o.length + 1) cap4) (o ++ [(m + p) % 65536])) := Lib.hid (by unfold OB; rw [List.length_append, List.map_append]; exact hown2.out)
        have B2 : Hid (Below w.heap.size w w3) := Lib.hid (B.out.trans hb2)
        clear I hown2 B hb2 hs2
        go_wp2_with fail
        go_roundg (gk - 1)
        case measure => omega
        case rel => exact ⟨i + 1, (m + p) / 65536, o ++ [(m + p) % 65536], by omega, by omega, by go_num, by go_num, by omega, by simp; omega, I2, hD2, hV2, B2⟩
      · obtain rfl : i = n := by omega
        have t1 : decide ((i : Int) < (i : Int)) = false := decide_eq_false (by omega)
        have hV2 : Hid (bv o + 65536 ^ o.length * m = x * k + m0) := Lib.hid (by
          have := hV.out
          rw [hnh.out, List.take_length, hbv.out, ← hnh.out] at this
          rw [hoi]; exact this)
        clear hV
        go_wp2_with fail
        go_meet
        exact ⟨m, rfl, hm, o, I, hD, hV2, by omega, B⟩
  case rest =>
    obtain ⟨m, rfl, hm, o, I, hD, hV, hol, B⟩ := hcut
    clear I0 hwb hmk hat hbd hbv
    go_upto_block 2 with (fail)
    go_cut [7] (fun s7 wx => ∃ o : List Nat, Hid (OB wx w.heap.size s7 o) ∧ Hid (Dg o) ∧ Hid (bv o = x * k + m0) ∧ o.length ≤ n + 70000 ∧ Hid (Below w.heap.size w wx))
    case first =>
      go_wp2_with fail
      go_loopg [2, 7] 65537 (fun gk s2 s7 wx => ∃ (m : Nat) (o : List Nat), m < gk ∧ s2 = .int .i64 (m : Int) ∧ m < 65536 ∧ o.length + m ≤ n + 70000 ∧ Hid (OB wx w.heap.size s7 o) ∧ Hid (Dg o) ∧ Hid (bv o + 65536 ^ o.length * m = x * k + m0) ∧ Hid (Below w.heap.size w wx))
      case atStart => exact ⟨m, o, by omega, rfl, hm, by omega, I, hD, hV, B⟩
      case round =>
        clear I hD hV hol B hm
        clear m o
        obtain ⟨m, o, hg, rfl, hm, hom, I, hD, hV, B⟩ := hrel
        by_cases h0 : 0 < m
        · have t1 : decide ((0 : Int) < (m : Int)) = true := decide_eq_true (by omega)
          have t1' : decide (0 < m) = true := decide_eq_true h0
          have hBs := B.out.size
          obtain ⟨a7, c7, rfl⟩ := I.out.shape
          have hV2 : Hid (bv (o ++ [m % 65536]) + 65536 ^ (o ++ [m % 65536]).length * (m / 65536) = x * k + m0) := Lib.hid (by
            have e1 : bv [m % 65536] = m % 65536 := by simp [bv]
            rw [bv_app, e1, ← hV.out, show m / 65536 = 0 by omega, show m % 65536 = m by omega]; omega)
          have hD2 : Hid (Dg (o ++ [m % 65536])) := Lib.hid (fun z hz => by
            rw [List.mem_append, List.mem_singleton] at hz
            rcases hz with hz | rfl
            · exact hD.out z hz
            · omega)
          clear hV hD
          go_wp2_with (at_builtin; go_must (refine app_one rfl (.tmp 36) (.tmp 39) 102 rfl (u := .int .i64 ((m % 65536 : Nat) : Int)) w.heap.size (.int .i64 0) 8 Tryz.underlying102 info3 rfl _ o.length _ rfl rfl I.out rfl (by omega) (by omega) hBs ?_); rintro v2 w3 hown2' hb2 hs2 _ hv3; have hown2 := Lib.hid hown2'; clear hown2')
          obtain ⟨g4, cap4, rfl⟩ := hv3
          have I2 : Hid (OB w3 w.heap.size (.slice (some ⟨g4, 0, none⟩) (o.length + 1) cap4) (o ++ [m % 65536])) := Lib.hid (by unfold OB; rw [List.length_append, List.map_append]; exact hown2.out)
          have B2 : Hid (Below w.heap.size w w3) := Lib.hid (B.out.trans hb2)
          clear I hown2 B hb2 hs2
          go_wp2_with fail
          go_roundg (gk - 1)
          case measure => omega
          case rel => exact ⟨m / 65536, o ++ [m % 65536], by omega, by go_num, by omega, by simp; omega, I2, hD2, hV2, B2⟩
        · obtain rfl : m = 0 := by omega
          have hV2 : Hid (bv o = x * k + m0) := Lib.hid (by have := hV.out; omega)
          clear hV
          go_wp2_with fail
          go_meet
          exact ⟨o, I, hD, hV2, by omega, B⟩
    case rest =>
      obtain ⟨o, I, hD, hV, hol, B⟩ := hcut
      obtain ⟨a7, c7, rfl⟩ := I.out.shape
      have ct := trim_own a7 c7 w.heap.size o hD.out (by omega) _ I.out
      rw [hV.out] at ct
      replace ct := Lib.hid ct
      clear hV hD I
      go_wp2_with fail
      refine ct.out.mono ?_; rintro e w4 ⟨v, rfl, hO, rfl⟩
      have hOh := Lib.hid hO
      clear ct hO
      go_wp2_with fail
      go_ret
      exact ⟨_, rfl, hOh.out, B.out⟩
end Go.Proofs.YtaidemghhagniaaGreatDoor
end
section
namespace Go.Proofs.YtaidemghhagniaaGreatDoor
open Go Go.RowKit
/-- A number is handed back. -/
def NRet (x : Nat) (w : World) (e : Ending) (w' : World) : Prop := ∃ a c, e = .returned (.slice a (bg x).length c) ∧ NRow w' a c (bg x) ∧ Below w.heap.size w w'
set_option maxRecDepth 100000 in
set_option maxHeartbeats 4000000 in
theorem small_any (n : Nat) (hn : n < 18446744073709551616) (w : World) : Calls Tryz.prog 77 #[.int .u64 n] w (NRet n w) := by
  obtain ⟨L, hL⟩ : ∃ L, Hid (L = bg n) := ⟨_, Lib.hid rfl⟩
  have hLl : Hid (L.length ≤ 4) := Lib.hid (by rw [hL.out]; exact bg_len 4 n hn)
  unfold NRet
  rw [← hL.out]
  have I0 : Hid (OB w w.heap.size (.slice none 0 0) []) := Lib.hid ⟨rfl, .inl ⟨rfl, rfl⟩⟩
  go_enter Tryz.func77, Tryz.ntmps77
  go_wp2_with fail
  go_loopg [0, 3] (n + 1) (fun gk s0 s3 wx => ∃ (m : Nat) (o : List Nat), m < gk ∧ m ≤ n ∧ s0 = .int .u64 (m : Int) ∧ Hid (OB wx w.heap.size s3 o) ∧ Hid (o ++ bg m = L) ∧ o.length ≤ 4 ∧ Hid (Below w.heap.size w wx))
  case atStart => exact ⟨n, [], by omega, by omega, rfl, I0, Lib.hid hL.out.symm, by simp, Lib.hid (Below.refl _ _)⟩
  case round =>
    clear I0
    obtain ⟨m, o, hg, hmn, rfl, I, hV, hol, B⟩ := hrel
    obtain ⟨a7, c7, rfl⟩ := I.out.shape
    by_cases h0 : 0 < m
    · have t1 : decide ((0 : Int) < (m : Int)) = true := decide_eq_true (by omega)
      have t1' : decide (0 < m) = true := decide_eq_true h0
      have hBs := B.out.size
      have hV2 : Hid ((o ++ [m % 65536]) ++ bg (m / 65536) = L) := Lib.hid (by rw [← hV.out, bg_pos m h0, List.append_assoc]; rfl)
      have hol2 : (o ++ [m % 65536]).length ≤ 4 := by
        have := congrArg List.length hV2.out
        rw [List.length_append] at this
        have := hLl.out
        omega
      clear hV
      go_wp2_with (at_builtin; go_must (refine app_one rfl (.tmp 6) (.tmp 10) 102 rfl (u := .int .i64 ((m % 65536 : Nat) : Int)) w.heap.size (.int .i64 0) 8 Tryz.underlying102 info3 rfl _ o.length _ rfl rfl I.out rfl (by omega) (by omega) hBs ?_); rintro v2 w3 hown2' hb2 hs2 _ hv3; have hown2 := Lib.hid hown2'; clear hown2')
      obtain ⟨g4, cap4, rfl⟩ := hv3
      have I2 : Hid (OB w3 w.heap.size (.slice (some ⟨g4, 0, none⟩) (o.length + 1) cap4) (o ++ [m % 65536])) := Lib.hid (by unfold OB; rw [List.length_append, List.map_append]; exact hown2.out)
      have B2 : Hid (Below w.heap.size w w3) := Lib.hid (B.out.trans hb2)
      clear I hown2 B hb2 hs2
      go_wp2_with fail
      go_roundg (gk - 1)
      case measure => omega
      case rel => exact ⟨m / 65536, o ++ [m % 65536], by omega, by omega, by go_num, I2, hV2, hol2, B2⟩
    · obtain rfl : m = 0 := by omega
      have ho : o = L := by have := hV.out; rw [bg_zero, List.append_nil] at this; exact this
      subst ho
      clear hV
      go_wp2_with fail
      go_ret
      exact ⟨_, _, rfl, I.out.nrow, B.out⟩
set_option maxRecDepth 100000 in
set_option maxHeartbeats 4000000 in
theorem power_any (k n : Nat) (hk : k < 65536) (hn : n ≤ 2000) (w : World) : Calls Tryz.prog 79 #[.int .i64 k, .int .i64 n] w (NRet (k ^ n) w) := by
  have I0 : Hid (OB (w.alloc (.cells #[.int .i64 1] 3)) w.heap.size (.slice (some ⟨w.heap.size, 0, none⟩) 1 1) (bg 1)) := Lib.hid (by
    have e : bg 1 = [1] := by rw [bg_pos 1 (by decide), show 1 / 65536 = 0 from rfl, bg_zero]
    unfold OB
    rw [e]
    exact World.ownsRow_lit w #[.int .i64 1] 1 (Nat.le_refl _) (by unfold maxLen; omega) rfl)
  go_enter Tryz.func79, Tryz.ntmps79
  go_upto_block 0 with (fail)
  have N0 : Hid (NRow (w.alloc (.cells #[.int .i64 1] 3)) (some ⟨w.heap.size, 0, none⟩) 1 (bg (k ^ 0))) := Lib.hid (by
    rw [Nat.pow_zero]
    refine OB.nrow (B := w.heap.size) ?_
    have e : bg 1 = [1] := by rw [bg_pos 1 (by decide), show 1 / 65536 = 0 from rfl, bg_zero]
    have := I0.out
    rw [e] at this ⊢
    exact this)
  have hl0 : 1 = (bg (k ^ 0)).length := by rw [Nat.pow_zero, bg_pos 1 (by decide), show 1 / 65536 = 0 from rfl, bg_zero]; rfl
  have B0 : Hid (Below w.heap.size w (w.alloc (.cells #[.int .i64 1] 3))) := Lib.hid ((Below.refl _ _).alloc (Nat.le_refl _) _)
  generalize w.alloc (.cells #[.int .i64 1] 3) = W0 at N0 B0 ⊢
  clear I0
  go_cut [5] (fun s5 wx => ∃ a c, s5 = .slice a (bg (k ^ n)).length c ∧ Hid (NRow wx a c (bg (k ^ n))) ∧ Hid (Below w.heap.size w wx))
  case first =>
    go_wp2_with fail
    go_loopg [5, 6] (n + 1) (fun gk s5 s6 wx => ∃ (i L : Nat) (a : Option Addr) (c : Nat), n - i < gk ∧ i ≤ n ∧ s6 = .int .i64 (i : Int) ∧ s5 = .slice a L c ∧ Hid (L = (bg (k ^ i)).length) ∧ Hid (NRow wx a c (bg (k ^ i))) ∧ Hid (Below w.heap.size w wx))
    case atStart => exact ⟨0, 1, _, _, by omega, by omega, rfl, rfl, Lib.hid hl0, N0, B0⟩
    case round =>
      clear N0 B0 hl0
      obtain ⟨i, L, a, c, hg, hi, rfl, rfl, hL, hN, B⟩ := hrel
      by_cases hlt : i < n
      · have t1 : decide ((i : Int) < (n : Int)) = true := decide_eq_true (by omega)
        have t1' : decide (i < n) = true := decide_eq_true hlt
        have hlen : (bg (k ^ i)).length ≤ 10000 := by
          have h1 : k ^ i < 65536 ^ (i + 1) := Nat.lt_of_le_of_lt (Nat.pow_le_pow_left (show k ≤ 65536 by omega) i) (Nat.pow_lt_pow_right (by decide) (by omega))
          have := bg_len (i + 1) _ h1
          omega
        have ct := times_any a c (k ^ i) k 0 hk (by decide) hlen wr hN.out
        rw [← hL.out, show k ^ i * k + 0 = k ^ (i + 1) from rfl] at ct
        replace ct := Lib.hid ct
        clear hN hL hlen
        go_wp2_with fail
        refine ct.out.mono ?_; rintro e w4 ⟨v, rfl, hO, hb⟩
        obtain ⟨a2, c2, rfl⟩ := hO.shape
        have hN2 := Lib.hid hO.nrow
        have B2 := Lib.hid (B.out.trans (hb.mono B.out.size))
        obtain ⟨L2, hL2⟩ : ∃ L2, Hid (L2 = (bg (k ^ (i + 1))).length) := ⟨_, Lib.hid rfl⟩
        rw [← hL2.out]
        clear ct hO hb B
        go_wp2_with fail
        go_roundg (gk - 1)
        case measure => omega
        case rel => exact ⟨i + 1, L2, a2, c2, by omega, by omega, by go_num, rfl, hL2, hN2, B2⟩
      · obtain rfl : i = n := by omega
        have t1 : decide ((i : Int) < (i : Int)) = false := decide_eq_false (by omega)
        go_wp2_with fail
        go_meet
        exact ⟨a, c, by rw [hL.out], hN, B⟩
  case rest =>
    obtain ⟨a, c, rfl, hN, B⟩ := hcut
    clear N0 B0 hl0
    go_wp2_with fail
    go_ret
    exact ⟨_, _, rfl, hN.out, B.out⟩
end Go.Proofs.YtaidemghhagniaaGreatDoor
end
section
namespace Go.Proofs.YtaidemghhagniaaGreatDoor
open Go Go.RowKit
set_option linter.unusedVariables false
theorem wpOp_of_step {P : Program} {ops : Array Oper} {Q : Exit → Act → World → Prop} {a : Act} {w : World} {K : Act → World → Prop} {i : Nat} {o : Oper} (ho : ops[i]? = some o) (hm : Met ops a o)
    (h : if Region.wanted o (yielded ops a.tmps) = true then Oper.wp P o a w K Q else False) : wpOp P ops Q i K a w := by
  unfold Met at hm
  rw [if_pos hm] at h
  unfold wpOp
  simp only [ho, hm, if_true]
  exact .inl h
theorem bg_shift (q y : Nat) (hy : 0 < y) : List.replicate q 0 ++ bg y = bg (y * 65536 ^ q) := by
  induction q with
  | zero => simp
  | succ q ih =>
    have h0 : 0 < y * 65536 ^ q := Nat.mul_pos hy (Nat.pow_pos (by decide))
    rw [List.replicate_succ, List.cons_append, ih, Nat.pow_succ, ← Nat.mul_assoc]
    rw [bg_pos (y * 65536 ^ q * 65536) (by omega)]
    congr 1
    · omega
    · congr 1; omega
theorem NRow.cells {w : World} {a : Option Addr} {c : Nat} {l : List Nat} (h : NRow w a c l) (hl : 0 < l.length) : ∃ ad, a = some ad ∧ ∀ j u, (l.map encI)[j]? = some u → w.cell? (ad.add j) = some u := by
  obtain ⟨b, off, hat⟩ := h.at'
  refine ⟨⟨b, off, none⟩, (hat 0 hl).1, fun j u hj => ?_⟩
  have hj' : j < l.length := by
    have := (List.getElem?_eq_some_iff.1 hj).1
    simpa using this
  rw [show (⟨b, off, none⟩ : Addr).add j = ⟨b, off + j, none⟩ by simp [Addr.add], (hat j hj').2.2]
  rw [List.getElem?_map, List.getElem?_eq_getElem hj'] at hj
  rw [List.getD_eq_getElem?_getD, List.getElem?_eq_getElem hj']
  exact hj
theorem run_q16 (n : Nat) (x y : Operand) (h : n ≤ 2000) (w : World) : (do eqGuard .quo 3 x y (.int .i64 (n : Int)) (.int .i64 16); binOp .quo 3 (.int .i64 (n : Int)) (.int .i64 16) : Sem Value).run Tryz.prog w = .ok (.int .i64 ((n / 16 : Nat) : Int)) w := by
  go_simp
  rw [IntKind.wrap_i64]
  omega
theorem run_r16 (n : Nat) (x y : Operand) (h : n ≤ 2000) (w : World) : (do eqGuard .rem 3 x y (.int .i64 (n : Int)) (.int .i64 16); binOp .rem 3 (.int .i64 (n : Int)) (.int .i64 16) : Sem Value).run Tryz.prog w = .ok (.int .i64 ((n % 16 : Nat) : Int)) w := by
  go_simp
  exact Int.tmod_eq_emod_of_nonneg (by omega)
theorem run_shl1 (r : Nat) (x y : Operand) (h : r < 16) (w : World) : (do eqGuard .shl 3 x y (.int .i64 1) (.int .i64 (r : Int)); binOp .shl 3 (.int .i64 1) (.int .i64 (r : Int)) : Sem Value).run Tryz.prog w = .ok (.int .i64 ((2 ^ r : Nat) : Int)) w := by
  rcases (by omega : r = 0 ∨ r = 1 ∨ r = 2 ∨ r = 3 ∨ r = 4 ∨ r = 5 ∨ r = 6 ∨ r = 7 ∨ r = 8 ∨ r = 9 ∨ r = 10 ∨ r = 11 ∨ r = 12 ∨ r = 13 ∨ r = 14 ∨ r = 15) with rfl | rfl | rfl | rfl | rfl | rfl | rfl | rfl | rfl | rfl | rfl | rfl | rfl | rfl | rfl | rfl
  all_goals rfl
set_option maxRecDepth 100000 in
set_option maxHeartbeats 4000000 in
theorem moved_any (a : Option Addr) (c x n : Nat) (hn : n ≤ 2000) (hx : (bg x).length ≤ 1000) (hx0 : 0 < x) (w : World) (h : NRow w a c (bg x)) :
    Calls Tryz.prog 76 #[.slice a (bg x).length c, .int .i64 n] w (NRet (x * 2 ^ n) w) := by
  obtain ⟨L, hL⟩ : ∃ L, Hid (L = (bg x).length) := ⟨_, Lib.hid rfl⟩
  have hL0 : 0 < L := by rw [hL.out, bg_pos x hx0]; simp
  have hh := Lib.hid h
  rw [← hL.out] at hx ⊢
  have u1 : ((L : Int) == 0) = false := beq_eq_false_iff_ne.2 (by omega)
  obtain ⟨y, hy⟩ : ∃ y, y = x * 2 ^ (n % 16) := ⟨_, rfl⟩
  have hy0 : 0 < y := by rw [hy]; exact Nat.mul_pos hx0 (Nat.two_pow_pos _)
  have hyq : Hid (List.replicate (n / 16) 0 ++ bg y = bg (x * 2 ^ n)) := Lib.hid (by
    rw [bg_shift _ _ hy0, hy, Nat.mul_assoc, show (65536 : Nat) = 2 ^ 16 from rfl, ← Nat.pow_mul, ← Nat.pow_add]
    congr 2; congr 1; omega)
  have ct : ∀ W, Below w.heap.size w W → Calls Tryz.prog 86 #[.slice a L c, .int .i64 ((2 ^ (n % 16) : Nat) : Int), .int .i64 0] W (fun e w' => ∃ a2 c2, e = .returned (.slice a2 (bg y).length c2) ∧ NRow w' a2 c2 (bg y) ∧ Below W.heap.size W w') := fun W hW => by
    rw [hL.out]
    have hp : 2 ^ (n % 16) < 65536 := Nat.lt_of_lt_of_le (Nat.pow_lt_pow_right (by decide) (Nat.mod_lt n (by decide) : n % 16 < 16)) (by decide)
    refine (times_any a c x (2 ^ (n % 16)) 0 hp (by decide) (by rw [← hL.out]; omega) W (hh.out.on hW)).mono ?_
    rintro e w' ⟨v, rfl, hO, hb⟩
    rw [Nat.add_zero, ← hy] at hO
    obtain ⟨a2, c2, rfl⟩ := hO.shape
    exact ⟨a2, c2, rfl, hO.nrow, hb⟩
  have hyl : 0 < (bg y).length := by rw [bg_pos y hy0]; simp
  have hylen : (bg y).length ≤ 10000 := by
    have h1 := bv_lt _ (bg_dg x)
    rw [bv_bg, ← hL.out] at h1
    have hp : 2 ^ (n % 16) ≤ 65536 := Nat.le_trans (Nat.pow_le_pow_right (by decide) (by omega : n % 16 ≤ 16)) (by decide)
    have h2 : y < 65536 ^ (L + 1) := by
      rw [hy, Nat.pow_succ]
      exact Nat.lt_of_lt_of_le (Nat.mul_lt_mul_of_pos_right h1 (Nat.two_pow_pos _)) (Nat.mul_le_mul_left _ hp)
    have := bg_len (L + 1) y h2
    omega
  obtain ⟨i3, hi3, hz0, hz1, hz2⟩ := info_parts info3
  go_enter Tryz.func76, Tryz.ntmps76
  have hc86 := Tryz.call86
  go_upto_region 3 with (fail)
  go_cut [4] (fun s4 wx => ∃ a3 c3, s4 = .slice a3 (n / 16 + (bg y).length) c3 ∧ Hid (NRow wx a3 c3 (List.replicate (n / 16) 0 ++ bg y)) ∧ Hid (Below w.heap.size w wx))
  case first =>
    clear hL hy hyq u1 hL0 hx hx0 hh h
    refine wp_region_facts (fun k v w => match k with
      | 0 => v = .int .i64 (n : Int) | 1 => v = .int .i64 ((n / 16 : Nat) : Int)
      | 2 => ∃ g, v = .slice (some ⟨g, 0, none⟩) (n / 16) (n / 16) ∧ g < w.heap.size ∧ ∀ j, j < n / 16 → w.cell? ⟨g, j, none⟩ = some (.int .i64 0)
      | 3 => v = .slice a L c | 4 => v = .int .i64 (n : Int) | 5 => v = .int .i64 ((n % 16 : Nat) : Int) | 6 => v = .int .i64 ((2 ^ (n % 16) : Nat) : Int)
      | 7 => ∃ a2 c2, v = .slice a2 (bg y).length c2 ∧ NRow w a2 c2 (bg y)
      | _ => ∃ a3 c3, v = .slice a3 (n / 16 + (bg y).length) c3 ∧ NRow w a3 c3 (List.replicate (n / 16) 0 ++ bg y))
      (by kernel_rfl) (by kernel_rfl) (by decide +kernel) (by kernel_rfl) ?_ ?_ ?_
    · intro k v w w' h hb
      rcases k with _ | _ | _ | _ | _ | _ | _ | _ | _ | _ | k
      · exact h
      · exact h
      · obtain ⟨g, h1, h2, h3⟩ := h; exact ⟨g, h1, Nat.lt_of_lt_of_le h2 hb.size, fun j hj => (hb.cell (p := ⟨g, j, none⟩) h2).trans (h3 j hj)⟩
      · exact h
      · exact h
      · exact h
      · exact h
      · obtain ⟨a2, c2, h1, h2⟩ := h; exact ⟨a2, c2, h1, h2.on hb⟩
      · obtain ⟨a2, c2, h1, h2⟩ := h; exact ⟨a2, c2, h1, h2.on hb⟩
      · obtain ⟨a2, c2, h1, h2⟩ := h; exact ⟨a2, c2, h1, h2.on hb⟩
      · obtain ⟨a2, c2, h1, h2⟩ := h; exact ⟨a2, c2, h1, h2.on hb⟩
    · intro k
      rcases k with _ | _ | _ | _ | _ | _ | _ | _ | _ | _ | k
      all_goals intro o ho a' wa hba hout hsz2 hpre
      all_goals cases ho
      all_goals have q0 : a'.tmps.getD 0 undef = .slice a L c := (hout 0 (by decide +kernel)).trans rfl
      all_goals have q1 : a'.tmps.getD 1 undef = .int .i64 (n : Int) := (hout 1 (by decide +kernel)).trans rfl
      all_goals clear hout hsz2
      · exact step_move rfl (met_none rfl) (.inl rfl) ⟨_, rfl, Below.refl _ _, q1⟩
      · have p : a'.tmps.getD 9 undef = .int .i64 (n : Int) := hpre ⟨0, .data⟩ (by simp) rfl _ rfl
        exact step_bin rfl (met_none rfl) rfl (u := .int .i64 (n : Int)) (v := .int .i64 16) p rfl (run_q16 n _ _ hn wa) ⟨_, rfl, Below.refl _ _, rfl⟩
      · have p : a'.tmps.getD 10 undef = .int .i64 ((n / 16 : Nat) : Int) := hpre ⟨1, .data⟩ (by simp) rfl _ rfl
        obtain ⟨wm, hmk, hown, hgr⟩ := run_make_full (P := Tryz.prog) wa wa.heap.size 102 3 i3 (.int .i64 0) 1 Tryz.underlying102 hi3 hz0 hz1 .i64 .i64 (n / 16) (by rw [hz2]; omega) (by unfold maxLen; omega) (Nat.le_refl _)
        have hr : (execOp a'.eval { dst := some 11, op := .makeSlice 102 (.tmp 10) (.tmp 10), type := 102, pos := "", after := #[], guard := none }).run Tryz.prog wa = .ok (.value (.slice (some ⟨wa.heap.size, 0, none⟩) (n / 16) (n / 16))) wm := by
          obtain ⟨q, hq⟩ : ∃ q, q = n / 16 := ⟨_, rfl⟩
          rw [← hq] at hmk p ⊢
          simp [execOp, show a'.eval (.tmp 10) = _ from p, hmk, Result.andThen]
        refine step_run rfl (met_none rfl) (v := .slice (some ⟨wa.heap.size, 0, none⟩) (n / 16) (n / 16)) (w' := wm) hr ⟨_, rfl, (Below.refl _ _).grown hgr (Nat.le_refl _) (fun _ e => by cases e), wa.heap.size, rfl, ?_, fun j hj => ?_⟩
        · rcases hown.2 with ⟨h1, _⟩ | ⟨g, cap, cur, h1, _, h3, _⟩
          · cases h1
          · cases h1; exact (Array.getElem?_eq_some_iff.1 h3).1
        · rw [hown.cellAt j (by omega)]
          have : (madeCells (Value.int IntKind.i64 0).cells (n / 16 * 1)).toList[j]? = some (.int .i64 0) := by
            simp [madeCells, hj]
            rw [show (Value.int IntKind.i64 0).cells = #[Value.int .i64 0] from rfl]
            simp [Nat.mod_one]
          exact this
      · exact step_move rfl (met_none rfl) (.inl rfl) ⟨_, rfl, Below.refl _ _, q0⟩
      · exact step_move rfl (met_none rfl) (.inl rfl) ⟨_, rfl, Below.refl _ _, q1⟩
      · have p : a'.tmps.getD 13 undef = .int .i64 (n : Int) := hpre ⟨4, .data⟩ (by simp) rfl _ rfl
        exact step_bin rfl (met_none rfl) rfl (u := .int .i64 (n : Int)) (v := .int .i64 16) p rfl (run_r16 n _ _ hn wa) ⟨_, rfl, Below.refl _ _, rfl⟩
      · have p : a'.tmps.getD 14 undef = .int .i64 ((n % 16 : Nat) : Int) := hpre ⟨5, .data⟩ (by simp) rfl _ rfl
        exact step_bin rfl (met_none rfl) rfl (u := .int .i64 1) (v := .int .i64 ((n % 16 : Nat) : Int)) rfl p (run_shl1 (n % 16) _ _ (Nat.mod_lt n (by decide)) wa) ⟨_, rfl, Below.refl _ _, rfl⟩
      · have p3 : a'.tmps.getD 12 undef = .slice a L c := hpre ⟨3, .data⟩ (by simp) rfl _ rfl
        have p6 : a'.tmps.getD 15 undef = .int .i64 ((2 ^ (n % 16) : Nat) : Int) := hpre ⟨6, .data⟩ (by simp) rfl _ rfl
        refine step_call rfl (met_none rfl) #[.slice a L c, .int .i64 ((2 ^ (n % 16) : Nat) : Int), .int .i64 0] (by simp [show a'.eval (.tmp 12) = _ from p3, show a'.eval (.tmp 15) = _ from p6]; rfl) (hc86 _ _) ((ct wa hba).mono ?_)
        rintro e w' ⟨a2, c2, rfl, h1, hb⟩
        exact ⟨_, rfl, _, rfl, hb, a2, c2, rfl, h1⟩
      · obtain ⟨g, p1, p2, p3⟩ : ∃ g, a'.tmps.getD 11 undef = .slice (some ⟨g, 0, none⟩) (n / 16) (n / 16) ∧ g < wa.heap.size ∧ ∀ j, j < n / 16 → wa.cell? ⟨g, j, none⟩ = some (.int .i64 0) := hpre ⟨2, .data⟩ (by simp) rfl _ rfl
        obtain ⟨a2, c2, r1, r2⟩ : ∃ a2 c2, a'.tmps.getD 16 undef = .slice a2 (bg y).length c2 ∧ NRow wa a2 c2 (bg y) := hpre ⟨7, .data⟩ (by simp) rfl _ rfl
        obtain ⟨ad, rfl, hcs⟩ := r2.cells hyl
        refine wpOp_of_step rfl (met_none rfl) (step_append_grows rfl (.tmp 11) (.tmp 16) 102 rfl 3 i3 (.int .i64 0) 1 8 Tryz.underlying102 hi3 hz0 hz1 hz2 rfl (by decide) (some ⟨g, 0, none⟩) (n / 16) (n / 16) ((List.replicate (n / 16) 0).map encI) p1 (fun e => by cases e) (by simp) ?_ ad (bg y).length c2 ((bg y).map encI) r1 (by simp) hcs ?_ (by omega) (by unfold maxLen; omega) (by omega) ?_)
        · intro b hb j u hj
          cases hb
          have hj' : j < n / 16 := by
            have := (List.getElem?_eq_some_iff.1 hj).1
            simpa using this
          rw [show (⟨g, 0, none⟩ : Addr).add j = ⟨g, j, none⟩ by simp [Addr.add]; omega, p3 j hj']
          rw [List.getElem?_map, List.getElem?_replicate, if_pos hj'] at hj
          exact hj
        · intro u hu
          obtain ⟨z, _, rfl⟩ := List.mem_map.1 hu
          rfl
        · intro v' w' hown hgr
          have hO : OB w' wa.heap.size v' (List.replicate (n / 16) 0 ++ bg y) := by
            unfold OB
            rw [List.length_append, List.length_replicate, List.map_append]
            exact hown
          obtain ⟨a3, c3, rfl⟩ := hO.shape
          refine ⟨_, rfl, (Below.refl _ _).grown hgr (Nat.le_refl _) (fun _ e => by cases e), a3, c3, ?_, hO.nrow⟩
          rw [List.length_append, List.length_replicate]
      · obtain ⟨a3, c3, r1, r2⟩ : ∃ a3 c3, a'.tmps.getD 17 undef = .slice a3 (n / 16 + (bg y).length) c3 ∧ NRow wa a3 c3 (List.replicate (n / 16) 0 ++ bg y) := hpre ⟨8, .data⟩ (by simp) rfl _ rfl
        exact step_move rfl (met_none rfl) (.inr rfl) ⟨_, rfl, Below.refl _ _, a3, c3, r1, r2⟩
    · intro a' wb hb hall ha
      have f0 : a'.tmps.getD 9 undef = .int .i64 (n : Int) := hall 0 _ rfl
      have f1 : a'.tmps.getD 10 undef = .int .i64 ((n / 16 : Nat) : Int) := hall 1 _ rfl
      obtain ⟨g2, f2, _, _⟩ : ∃ g, a'.tmps.getD 11 undef = .slice (some ⟨g, 0, none⟩) (n / 16) (n / 16) ∧ g < wb.heap.size ∧ ∀ j, j < n / 16 → wb.cell? ⟨g, j, none⟩ = some (.int .i64 0) := hall 2 _ rfl
      have f3 : a'.tmps.getD 12 undef = .slice a L c := hall 3 _ rfl
      have f4 : a'.tmps.getD 13 undef = .int .i64 (n : Int) := hall 4 _ rfl
      have f5 : a'.tmps.getD 14 undef = .int .i64 ((n % 16 : Nat) : Int) := hall 5 _ rfl
      have f6 : a'.tmps.getD 15 undef = .int .i64 ((2 ^ (n % 16) : Nat) : Int) := hall 6 _ rfl
      obtain ⟨a7, c7, f7, _⟩ : ∃ a2 c2, a'.tmps.getD 16 undef = .slice a2 (bg y).length c2 ∧ NRow wb a2 c2 (bg y) := hall 7 _ rfl
      obtain ⟨a8, c8, f8, _⟩ : ∃ a3 c3, a'.tmps.getD 17 undef = .slice a3 (n / 16 + (bg y).length) c3 ∧ NRow wb a3 c3 (List.replicate (n / 16) 0 ++ bg y) := hall 8 _ rfl
      obtain ⟨a9, c9, f9, r9⟩ : ∃ a3 c3, a'.tmps.getD 4 undef = .slice a3 (n / 16 + (bg y).length) c3 ∧ NRow wb a3 c3 (List.replicate (n / 16) 0 ++ bg y) := hall 9 _ rfl
      simp only [List.foldl, fillFrom, f0, f1, f2, f3, f4, f5, f6, f7, f8, f9] at ha
      clear hall f0 f1 f2 f3 f4 f5 f6 f7 f8 f9
      subst ha
      simp only [Act.put, List.setIfInBounds_toArray, List.set_cons_succ, List.set_cons_zero]
      go_wp2_with fail
      go_meet
      exact ⟨a9, c9, rfl, Lib.hid r9, Lib.hid hb⟩
  case rest =>
    obtain ⟨a3, c3, rfl, hN, B⟩ := hcut
    have hlen : Hid (n / 16 + (bg y).length = (bg (x * 2 ^ n)).length) := Lib.hid (by rw [← hyq.out, List.length_append, List.length_replicate])
    have hN2 := hN.out
    rw [hyq.out] at hN2
    replace hN2 := Lib.hid hN2
    go_wp2_with fail
    go_ret
    exact ⟨a3, c3, by rw [← hlen.out]; rfl, hN2.out, B.out⟩
end Go.Proofs.YtaidemghhagniaaGreatDoor
end
section
namespace Go.Proofs.YtaidemghhagniaaGreatDoor
open Go Go.RowKit
theorem bv_set (o : List Nat) : ∀ (j d : Nat), j < o.length → bv (o.set j d) + 65536 ^ j * o.getD j 0 = bv o + 65536 ^ j * d := by
  induction o with
  | nil => intro j d h; cases h
  | cons x t ih =>
    intro j d h
    cases j with
    | zero => simp [bv]; omega
    | succ j =>
      have := ih j d (by simpa using h)
      show x + 65536 * bv (t.set j d) + 65536 ^ (j + 1) * t.getD j 0 = x + 65536 * bv t + 65536 ^ (j + 1) * d
      rw [Nat.pow_succ, Nat.mul_comm (65536 ^ j) 65536, Nat.mul_assoc, Nat.mul_assoc]
      omega
theorem bv_zeros (n : Nat) : bv (List.replicate n 0) = 0 := by
  induction n with
  | zero => rfl
  | succ n ih => rw [List.replicate_succ]; show 0 + 65536 * bv (List.replicate n 0) = 0; rw [ih]
theorem bv_snoc (m : List Nat) (z : Nat) : bv (m ++ [z]) = bv m + 65536 ^ m.length * z := by
  rw [bv_app]; simp [bv]
theorem below_q {B : Nat} {a w : World} (h : Below B a w) (n : Nat) : Below B a (w.drewN n) := h.trans ⟨rfl, rfl, rfl, Nat.le_refl _, fun _ _ => rfl⟩
/-- One digit times one: T = 65536^(i+k), Y what has been multiplied of the second number. -/
theorem prod_step (bo bo2 T oj d c c2 xi yk R Ti Y Tk : Nat) (h1 : bo2 + T * oj = bo + T * d) (h2 : c + oj + xi * yk = d + 65536 * c2) (h3 : bo + c * T = R + Ti * xi * Y) (hT : T = Ti * Tk) : bo2 + c2 * (T * 65536) = R + Ti * xi * (Y + Tk * yk) := by
  have e1 : T * (c + oj + xi * yk) = T * d + T * (65536 * c2) := by rw [h2, Nat.mul_add]
  rw [Nat.mul_add, Nat.mul_add] at e1
  have e2 : Ti * xi * (Y + Tk * yk) = Ti * xi * Y + T * (xi * yk) := by
    rw [Nat.mul_add, hT]; congr 1; ac_rfl
  have e3 : c2 * (T * 65536) = T * (65536 * c2) := by ac_rfl
  have e4 : c * T = T * c := Nat.mul_comm _ _
  rw [e2, e3]
  rw [e4] at h3
  omega
set_option maxRecDepth 100000 in
set_option maxHeartbeats 8000000 in
theorem product_any (a1 a2 : Option Addr) (c1 c2 x y : Nat) (hx : (bg x).length ≤ 1000) (hy : (bg y).length ≤ 1000) (w : World) (h1 : NRow w a1 c1 (bg x)) (h2 : NRow w a2 c2 (bg y)) :
    Calls Tryz.prog 78 #[.slice a1 (bg x).length c1, .slice a2 (bg y).length c2] w (NRet (x * y) w) := by
  have hx1 := Lib.hid (bg_dg x)
  have hx2 := Lib.hid (bv_bg x)
  have hy1 := Lib.hid (bg_dg y)
  have hy2 := Lib.hid (bv_bg y)
  obtain ⟨X, hX⟩ : ∃ X, X = bg x := ⟨_, rfl⟩
  obtain ⟨Y, hY⟩ : ∃ Y, Y = bg y := ⟨_, rfl⟩
  rw [← hX] at hx1 hx2 hx h1 ⊢
  rw [← hY] at hy1 hy2 hy h2 ⊢
  clear hX hY
  obtain ⟨b1, off1, hat1⟩ := h1.at'
  obtain ⟨b2, off2, hat2⟩ := h2.at'
  replace hat1 := Lib.hid hat1
  replace hat2 := Lib.hid hat2
  obtain ⟨la, hla⟩ : ∃ n, n = X.length := ⟨_, rfl⟩
  obtain ⟨lb, hlb⟩ : ∃ n, n = Y.length := ⟨_, rfl⟩
  rw [← hla] at hx ⊢
  rw [← hlb] at hy ⊢
  replace hla := Lib.hid hla
  replace hlb := Lib.hid hlb
  obtain ⟨i3, hi3, hz0, hz1, hz2⟩ := info_parts info3
  obtain ⟨wm, hmk, hown, hgr⟩ := run_make_full (P := Tryz.prog) w w.heap.size 102 3 i3 (.int .i64 0) 1 Tryz.underlying102 hi3 hz0 hz1 .i64 .i64 (la + lb + 1) (by rw [hz2]; omega) (by unfold maxLen; omega) (Nat.le_refl _)
  rw [show (((la + lb + 1 : Nat)) : Int) = (la : Int) + (lb : Int) + 1 from rfl] at hmk
  have hwb : Hid (Below w.heap.size w wm) := Lib.hid ((Below.refl w.heap.size w).grown hgr (Nat.le_refl _) (fun _ e => by cases e))
  obtain ⟨g, hg⟩ : ∃ g, g = w.heap.size := ⟨_, rfl⟩
  obtain ⟨N, hN⟩ : ∃ N, N = la + lb + 1 := ⟨_, rfl⟩
  have I0 : Hid (wm.ownsRow w.heap.size 3 1 (.slice (some ⟨g, 0, none⟩) N N) N ((List.replicate N 0).map encI)) := Lib.hid (by
    rw [hN, hg]
    have e : (madeCells (Value.int IntKind.i64 0).cells ((la + lb + 1) * 1)).toList = (List.replicate (la + lb + 1) 0).map encI := by
      apply List.ext_getElem?
      intro j
      rw [Nat.mul_one, List.getElem?_map, List.getElem?_replicate]
      by_cases hj : j < la + lb + 1
      · rw [if_pos hj]
        simp [madeCells, hj]
        rw [show (Value.int IntKind.i64 0).cells = #[Value.int .i64 0] from rfl]
        simp [Nat.mod_one, encI]
      · rw [if_neg hj]
        simp [madeCells]; omega
    rw [← e]; exact hown)
  replace hg := Lib.hid hg
  have hgB : w.heap.size ≤ g := by rw [hg.out]; exact Nat.le_refl _
  have hNl : la + lb < N := by omega
  have hNb : N ≤ 3000 := by omega
  replace hN := Lib.hid hN
  clear hown hgr hi3 hz0 hz1 hz2 h1 h2
  go_enter Tryz.func78, Tryz.ntmps78
  go_upto_block 0 with (fail)
  rw [← hg.out, ← hN.out]
  have hget : ∀ (o : List Nat) (wx : World) (j : Nat), j < N → wx.ownsRow w.heap.size 3 1 (.slice (some ⟨g, 0, none⟩) N N) N (o.map encI) → o.length = N ∧ wx.cell? ⟨g, j, none⟩ = some (.int .i64 ((o.getD j 0 : Nat) : Int)) := fun o wx j hj h => by
    have hl : o.length = N := by have := h.1; rw [List.length_map, Nat.mul_one] at this; exact this
    refine ⟨hl, ?_⟩
    rw [h.cellAt j (by omega), List.getElem?_map, List.getElem?_eq_getElem (by omega), List.getD_eq_getElem?_getD, List.getElem?_eq_getElem (by omega)]
    rfl
  replace hget := Lib.hid hget
  go_cut [5] (fun s5 wx => s5 = .slice (some ⟨g, 0, none⟩) N N ∧ ∃ o : List Nat, Hid (wx.ownsRow w.heap.size 3 1 (.slice (some ⟨g, 0, none⟩) N N) N (o.map encI)) ∧ Hid (Dg o) ∧ Hid (bv o = x * y) ∧ Hid (Below w.heap.size w wx))
  case first =>
    go_wp2_with fail
    go_loopg [6] (la + 1) (fun gk s6 wx => ∃ (i : Nat) (o : List Nat), la - i < gk ∧ i ≤ la ∧ s6 = .int .i64 (i : Int) ∧ Hid (wx.ownsRow w.heap.size 3 1 (.slice (some ⟨g, 0, none⟩) N N) N (o.map encI)) ∧ Hid (Dg o) ∧ Hid (bv o = bv (X.take i) * y) ∧ Hid (∀ j, i + lb ≤ j → o.getD j 0 = 0) ∧ Hid (Below w.heap.size w wx))
    case atStart =>
      refine ⟨0, List.replicate N 0, by omega, by omega, rfl, I0, Lib.hid (fun z hz => by rw [List.mem_replicate] at hz; omega), Lib.hid (by rw [bv_zeros]; simp [bv]), Lib.hid (fun j _ => ?_), hwb⟩
      rw [List.getD_eq_getElem?_getD, List.getElem?_replicate]; split <;> rfl
    case round =>
      clear I0 hwb hmk
      obtain ⟨i, o, hgk, hi, rfl, I, hD, hV, hZ, B⟩ := hrel
      by_cases hlt : i < la
      · have t1 : decide ((i : Int) < (la : Int)) = true := decide_eq_true (by omega)
        have t1' : decide (i < la) = true := decide_eq_true hlt
        obtain ⟨rfl, hbw1, hcell1⟩ := hat1.out i (by rw [← hla.out]; exact hlt)
        obtain ⟨xi, hxi⟩ : ∃ z, Hid (z = X.getD i 0) := ⟨_, Lib.hid rfl⟩
        rw [← hxi.out] at hcell1
        have hx6 : xi < 65536 := by
          rw [hxi.out, List.getD_eq_getElem?_getD, List.getElem?_eq_getElem (by rw [← hla.out]; exact hlt)]
          exact hx1.out _ (List.getElem_mem _)
        go_upto_block 2 with (fail)
        go_cut [7] (fun s7 wx => ∃ (c : Nat) (o : List Nat), s7 = .int .i64 (c : Int) ∧ c < 65536 ∧ Hid (wx.ownsRow w.heap.size 3 1 (.slice (some ⟨g, 0, none⟩) N N) N (o.map encI)) ∧ Hid (Dg o) ∧ Hid (bv o + c * 65536 ^ (i + lb) = bv (X.take i) * y + 65536 ^ i * xi * y) ∧ Hid (∀ j, i + lb ≤ j → o.getD j 0 = 0) ∧ Hid (Below w.heap.size w wx))
        case first =>
          go_wp2_with fail
          go_loopg [7, 8] (lb + 1) (fun gq s7 s8 wx => ∃ (k c : Nat) (o : List Nat), lb - k < gq ∧ k ≤ lb ∧ s8 = .int .i64 (k : Int) ∧ s7 = .int .i64 (c : Int) ∧ c < 65536 ∧ Hid (wx.ownsRow w.heap.size 3 1 (.slice (some ⟨g, 0, none⟩) N N) N (o.map encI)) ∧ Hid (Dg o) ∧ Hid (bv o + c * 65536 ^ (i + k) = bv (X.take i) * y + 65536 ^ i * xi * bv (Y.take k)) ∧ Hid (∀ j, i + lb ≤ j → o.getD j 0 = 0) ∧ Hid (Below w.heap.size w wx))
          case atStart => exact ⟨0, 0, o, by omega, by omega, rfl, rfl, by omega, I, hD, Lib.hid (by rw [hV.out]; simp [bv]), hZ, B⟩
          case round =>
            clear I hD hV hZ B
            clear o
            obtain ⟨k, c, o, hgq, hk, rfl, rfl, hc, I, hD, hV, hZ, B⟩ := hrel
            by_cases hkt : k < lb
            · have t2 : decide ((k : Int) < (lb : Int)) = true := decide_eq_true (by omega)
              have t2' : decide (k < lb) = true := decide_eq_true hkt
              obtain ⟨rfl, hbw2, hcell2⟩ := hat2.out k (by rw [← hlb.out]; exact hkt)
              obtain ⟨yk, hyk⟩ : ∃ z, Hid (z = Y.getD k 0) := ⟨_, Lib.hid rfl⟩
              rw [← hyk.out] at hcell2
              have hy6 : yk < 65536 := by
                rw [hyk.out, List.getD_eq_getElem?_getD, List.getElem?_eq_getElem (by rw [← hlb.out]; exact hkt)]
                exact hy1.out _ (List.getElem_mem _)
              obtain ⟨hol, hco⟩ := hget.out o wr (i + k) (by omega) I.out
              obtain ⟨oj, hoj⟩ : ∃ z, Hid (z = o.getD (i + k) 0) := ⟨_, Lib.hid rfl⟩
              rw [← hoj.out] at hco
              have ho6 : oj < 65536 := by
                rw [hoj.out, List.getD_eq_getElem?_getD, List.getElem?_eq_getElem (by omega)]
                exact hD.out _ (List.getElem_mem _)
              have hc1 : wr.cell? ⟨b1, off1 + i, none⟩ = some (.int .i64 (xi : Int)) := by rw [B.out.cell hbw1]; exact hcell1
              have hc2 : wr.cell? ⟨b2, off2 + k, none⟩ = some (.int .i64 (yk : Int)) := by rw [B.out.cell hbw2]; exact hcell2
              have hfz := own_frozen I.out (i + k)
              obtain ⟨p, hp⟩ : ∃ p, xi * yk = p := ⟨_, rfl⟩
              have hpb : p ≤ 4294836225 := by rw [← hp]; exact Nat.mul_le_mul (show xi ≤ 65535 by omega) (show yk ≤ 65535 by omega)
              have hpI : (xi : Int) * (yk : Int) = (p : Int) := by rw [← hp]; rfl
              obtain ⟨s, hs⟩ : ∃ s, s = c + oj + p := ⟨_, rfl⟩
              have hstep : Hid (bv (o.set (i + k) (s % 65536)) + s / 65536 * 65536 ^ (i + (k + 1)) = bv (X.take i) * y + 65536 ^ i * xi * bv (Y.take (k + 1))) := Lib.hid (by
                rw [take_last Y k (by rw [← hlb.out]; exact hkt), ← hyk.out, bv_snoc, List.length_take, ← hlb.out, Nat.min_eq_left hk, show i + (k + 1) = (i + k) + 1 by omega, Nat.pow_succ]
                refine prod_step (bv o) _ (65536 ^ (i + k)) oj (s % 65536) c (s / 65536) xi yk _ (65536 ^ i) _ (65536 ^ k) ?_ (by rw [hp, ← hs]; omega) hV.out (Nat.pow_add _ _ _)
                have := bv_set o (i + k) (s % 65536) (by omega)
                rw [← hoj.out] at this
                exact this)
              have hD2 : Hid (Dg (o.set (i + k) (s % 65536))) := Lib.hid (fun z hz => by
                rcases List.mem_or_eq_of_mem_set hz with h | h
                · exact hD.out z h
                · omega)
              have hZ2 : Hid (∀ j, i + lb ≤ j → (o.set (i + k) (s % 65536)).getD j 0 = 0) := Lib.hid (fun j hj => by
                rw [List.getD_eq_getElem?_getD, List.getElem?_set_ne (by omega), ← List.getD_eq_getElem?_getD]
                exact hZ.out j hj)
              have hI2 : ∀ (W : World) (v : Value), v = .int .i64 ((s % 65536 : Nat) : Int) → W.ownsRow w.heap.size 3 1 (.slice (some ⟨g, 0, none⟩) N N) N (o.map encI) → Hid ((W.setCell ⟨g, i + k, none⟩ v).ownsRow w.heap.size 3 1 (.slice (some ⟨g, 0, none⟩) N N) N ((o.set (i + k) (s % 65536)).map encI)) := fun W v hv hW => by
                have := own_store hW (i + k) v
                rw [hv, show (Value.int .i64 ((s % 65536 : Nat) : Int)) = encI (s % 65536) from rfl, ← List.map_set] at this
                rw [hv]
                exact Lib.hid this
              have hs2 : (c : Int) + (oj : Int) + (p : Int) = (s : Int) := by rw [hs]; rfl
              have hsb : s ≤ 4294967295 := by omega
              replace hget := Lib.hid hget
              replace hI2 := Lib.hid hI2
              clear hV hD hZ hp hs hcell1 hcell2 hbw1 hbw2 hol
              go_upto_region 9 with (fail)
              go_quiet (fail)
              go_wp2_with fail
              go_roundg (gk - 1)
              case measure => omega
              case rel => exact ⟨k + 1, s / 65536, o.set (i + k) (s % 65536), by omega, by omega, by go_num, by go_num, by omega, hI2.out _ _ rfl I.out, hD2, hstep, hZ2, Lib.hid (Below.setCell (p := ⟨g, i + k, none⟩) (below_q B.out _) hgB _)⟩
            · obtain rfl : k = lb := by omega
              have t2 : decide ((k : Int) < (k : Int)) = false := decide_eq_false (by omega)
              have hV2 : Hid (bv o + c * 65536 ^ (i + k) = bv (X.take i) * y + 65536 ^ i * xi * y) := Lib.hid (by
                have := hV.out
                rw [hlb.out, List.take_length, hy2.out, ← hlb.out] at this
                exact this)
              clear hV
              go_wp2_with fail
              go_meet
              exact ⟨c, o, rfl, hc, I, hD, hV2, hZ, B⟩
        case rest =>
          clear I hD hV hZ B
          clear o
          obtain ⟨c, o, rfl, hc, I, hD, hV, hZ, B⟩ := hcut
          obtain ⟨hol, hco⟩ := hget.out o _ (i + lb) (by omega) I.out
          rw [hZ.out (i + lb) (Nat.le_refl _)] at hco
          have hfz := own_frozen I.out (i + lb)
          have hstep : Hid (bv (o.set (i + lb) c) = bv (X.take (i + 1)) * y) := Lib.hid (by
            have h1 := bv_set o (i + lb) c (by omega)
            rw [hZ.out (i + lb) (Nat.le_refl _), Nat.mul_zero, Nat.add_zero] at h1
            rw [h1, take_last X i (by rw [← hla.out]; exact hlt), ← hxi.out, bv_snoc, List.length_take, ← hla.out, Nat.min_eq_left hi, Nat.add_mul, ← hV.out, Nat.mul_comm c])
          have hD2 : Hid (Dg (o.set (i + lb) c)) := Lib.hid (fun z hz => by
            rcases List.mem_or_eq_of_mem_set hz with h | h
            · exact hD.out z h
            · omega)
          have hZ2 : Hid (∀ j, i + 1 + lb ≤ j → (o.set (i + lb) c).getD j 0 = 0) := Lib.hid (fun j hj => by
            rw [List.getD_eq_getElem?_getD, List.getElem?_set_ne (by omega), ← List.getD_eq_getElem?_getD]
            exact hZ.out j (by omega))
          have hI2 : ∀ (W : World) (v : Value), v = .int .i64 (c : Int) → W.ownsRow w.heap.size 3 1 (.slice (some ⟨g, 0, none⟩) N N) N (o.map encI) → Hid ((W.setCell ⟨g, i + lb, none⟩ v).ownsRow w.heap.size 3 1 (.slice (some ⟨g, 0, none⟩) N N) N ((o.set (i + lb) c).map encI)) := fun W v hv hW => by
            have := own_store hW (i + lb) v
            rw [hv, show (Value.int .i64 (c : Int)) = encI c from rfl, ← List.map_set] at this
            rw [hv]
            exact Lib.hid this
          replace hI2 := Lib.hid hI2
          clear hV hD hZ hcell1 hbw1 hol
          go_wp2_with fail
          go_roundg (gk - 1)
          case measure => omega
          case rel => exact ⟨i + 1, o.set (i + lb) c, by omega, by omega, by go_num, hI2.out _ _ rfl I.out, hD2, hstep, hZ2, Lib.hid (B.out.setCell hgB _)⟩
      · obtain rfl : i = la := by omega
        have t1 : decide ((i : Int) < (i : Int)) = false := decide_eq_false (by omega)
        have hV2 : Hid (bv o = x * y) := Lib.hid (by
          have := hV.out
          rw [hla.out, List.take_length, hx2.out] at this
          exact this)
        clear hV
        go_wp2_with fail
        go_meet
        exact ⟨rfl, o, I, hD, hV2, B⟩
  case rest =>
    obtain ⟨rfl, o, I, hD, hV, B⟩ := hcut
    have hol : o.length = N := by have := I.out.1; rw [List.length_map, Nat.mul_one] at this; exact this
    have hO : OB wc w.heap.size (.slice (some ⟨g, 0, none⟩) o.length N) o := by unfold OB; rw [hol]; exact I.out
    have ct := trim_own (some ⟨g, 0, none⟩) N w.heap.size o hD.out (by omega) _ hO
    rw [hV.out, hol] at ct
    replace ct := Lib.hid ct
    clear hV hD I hO hol hmk I0 hwb
    go_wp2_with fail
    refine ct.out.mono ?_; rintro e w4 ⟨v, rfl, hO, rfl⟩
    obtain ⟨a4, c4, rfl⟩ := hO.shape
    have hOh := Lib.hid hO
    clear ct hO
    go_wp2_with fail
    go_ret
    exact ⟨_, _, rfl, hOh.out.nrow, B.out⟩
end Go.Proofs.YtaidemghhagniaaGreatDoor
end
section
namespace Go.Proofs.YtaidemghhagniaaGreatDoor
open Go Go.RowKit
/-- The decimal digits, the lowest one first. -/
def dle (n : Nat) : List UInt8 := if h : n = 0 then [] else UInt8.ofNat (48 + n % 10) :: dle (n / 10)
termination_by n
decreasing_by omega
theorem dle_zero : dle 0 = [] := by rw [dle]; rfl
theorem dle_pos (n : Nat) (h : 0 < n) : dle n = UInt8.ofNat (48 + n % 10) :: dle (n / 10) := by rw [dle, dif_neg (by omega)]
theorem dle_rev (n : Nat) (h : 0 < n) : (dle n).reverse = Lib.decDigits n := by
  induction n using Nat.strongRecOn with
  | _ n ih =>
    rw [dle_pos n h, Lib.decDigits]
    by_cases h10 : n < 10
    · rw [dif_pos h10, show n / 10 = 0 by omega, dle_zero, show n % 10 = n by omega]; rfl
    · rw [dif_neg h10, List.reverse_cons, ih (n / 10) (by omega) (by omega)]
theorem div_step (P r x B : Nat) (h : 10 * P + r = B) : 10 * ((r * 65536 + x) / 10 + 65536 * P) + (r * 65536 + x) % 10 = x + 65536 * B := by omega
theorem drop_at (l : List Nat) (i : Nat) (h : i < l.length) : l.drop i = l.getD i 0 :: l.drop (i + 1) := by
  rw [List.drop_eq_getElem_cons h, List.getD_eq_getElem?_getD, List.getElem?_eq_getElem h]; rfl
theorem own_getI {wx : World} {B g n c : Nat} {o : List Nat} (h : wx.ownsRow B 3 1 (.slice (some ⟨g, 0, none⟩) n c) n (o.map encI)) : o.length = n := by
  have := h.1; rw [List.length_map, Nat.mul_one] at this; exact this
set_option maxRecDepth 100000 in
set_option maxHeartbeats 8000000 in
/-- One division by ten, as the loop of decimal does it. -/
theorem decimal_any (a : Option Addr) (c x : Nat) (hx : (bg x).length ≤ 1000) (hxd : (dle x).length ≤ 5000) (w : World) (h : NRow w a c (bg x)) :
    Calls Tryz.prog 75 #[.slice a (bg x).length c] w fun e w' => ∃ v, e = .returned v ∧ w'.ownsRow w.heap.size 5 1 v (dle x).length ((dle x).reverse.map enc8) ∧ Below w.heap.size w w' := by
  obtain ⟨D, hD⟩ : ∃ D, Hid (D = dle x) := ⟨_, Lib.hid rfl⟩
  rw [← hD.out] at hxd ⊢
  obtain ⟨L0, hL0⟩ : ∃ L, Hid (L = (bg x).length) := ⟨_, Lib.hid rfl⟩
  rw [← hL0.out] at hx ⊢
  have hN0 := Lib.hid h
  have I0 : Hid (w.ownsRow w.heap.size 5 1 (.slice none 0 0) ([] : List UInt8).length (([] : List UInt8).map enc8)) := Lib.hid ⟨rfl, .inl ⟨rfl, rfl⟩⟩
  clear h
  go_enter Tryz.func75, Tryz.ntmps75
  go_upto_block 0 with (fail)
  go_cut [3] (fun s3 wx => Hid (wx.ownsRow w.heap.size 5 1 s3 D.length (D.map enc8)) ∧ Hid (Below w.heap.size w wx))
  case first =>
    go_wp2_with fail
    go_loopg [0, 3] (x + 1) (fun gk s0 s3 wx => ∃ (z L : Nat) (a : Option Addr) (c : Nat) (o : List UInt8), z < gk ∧ s0 = .slice a L c ∧ L ≤ 1000 ∧ Hid (L = (bg z).length) ∧ Hid (NRow wx a c (bg z)) ∧ Hid (o ++ dle z = D) ∧ o.length ≤ 5000 ∧ Hid (wx.ownsRow w.heap.size 5 1 s3 o.length (o.map enc8)) ∧ Hid (Below w.heap.size w wx))
    case atStart => exact ⟨x, L0, a, c, [], by omega, rfl, hx, hL0, hN0, Lib.hid hD.out.symm, by simp, I0, Lib.hid (Below.refl _ _)⟩
    case round =>
      clear I0 hN0 hL0 hx
      clear a c
      obtain ⟨z, L, a, c, o, hgz, rfl, hL1, hL, hN, hoD, hol, I, B⟩ := hrel
      by_cases h0 : 0 < L
      · have hz0 : 0 < z := by
          rcases Nat.eq_zero_or_pos z with e | e
          · rw [hL.out, e, bg_zero] at h0; cases h0
          · exact e
        have t1 : decide ((0 : Int) < (L : Int)) = true := decide_eq_true (by omega)
        have t1' : decide (0 < L) = true := decide_eq_true h0
        obtain ⟨a3, c3, rfl⟩ := own_sh I.out
        have hBs := B.out.size
        obtain ⟨i3, hi3, hz0', hz1, hz2⟩ := info_parts info3
        obtain ⟨wm, hmk, hown, hgr⟩ := run_make_full (P := Tryz.prog) wr wr.heap.size 102 3 i3 (.int .i64 0) 1 Tryz.underlying102 hi3 hz0' hz1 .i64 .i64 L (by rw [hz2]; omega) (by unfold maxLen; omega) (Nat.le_refl _)
        have hwb : Below wr.heap.size wr wm := (Below.refl wr.heap.size wr).grown hgr (Nat.le_refl _) (fun _ e => by cases e)
        obtain ⟨g, hg⟩ : ∃ g, g = wr.heap.size := ⟨_, rfl⟩
        have In : Hid (wm.ownsRow w.heap.size 3 1 (.slice (some ⟨g, 0, none⟩) L L) L ((List.replicate L 0).map encI)) := Lib.hid (by
          rw [hg]
          have e : (madeCells (Value.int IntKind.i64 0).cells (L * 1)).toList = (List.replicate L 0).map encI := by
            apply List.ext_getElem?
            intro j
            rw [Nat.mul_one, List.getElem?_map, List.getElem?_replicate]
            by_cases hj : j < L
            · rw [if_pos hj]
              simp [madeCells, hj]
              rw [show (Value.int IntKind.i64 0).cells = #[Value.int .i64 0] from rfl]
              simp [Nat.mod_one, encI]
            · rw [if_neg hj]
              simp [madeCells]; omega
          rw [← e]
          rcases hown.2 with ⟨q1, _⟩ | ⟨g', cap', cur, q1, q2, q3, q4, q5, q6, q7⟩
          · cases q1
          · exact ⟨hown.1, .inr ⟨g', cap', cur, q1, by cases q1; omega, q3, q4, q5, q6, q7⟩⟩)
        obtain ⟨b, off, hat0⟩ := hN.out.at'
        have hat : Hid (∀ i, i < L → a = some ⟨b, off, none⟩ ∧ b < g ∧ wm.cell? ⟨b, off + i, none⟩ = some (.int .i64 (((bg z).getD i 0 : Nat) : Int))) := Lib.hid (fun i hi => by
          obtain ⟨q1, q2, q3⟩ := hat0 i (by rw [← hL.out]; exact hi)
          exact ⟨q1, by rw [hg]; exact q2, by rw [hwb.cell q2]; exact q3⟩)
        clear hat0
        have Bm := Lib.hid (B.out.trans (hwb.mono B.out.size))
        have Im : Hid (wm.ownsRow w.heap.size 5 1 (.slice a3 o.length c3) o.length (o.map enc8)) := Lib.hid (by
          rcases I.out.2 with ⟨q1, q2⟩ | ⟨g', cap', cur, q1, q2, q3, q4⟩
          · exact ⟨I.out.1, .inl ⟨q1, q2⟩⟩
          · refine ⟨I.out.1, .inr ⟨g', cap', cur, q1, q2, ?_, q4⟩⟩
            rw [hwb.block g' (Array.getElem?_eq_some_iff.1 q3).1]; exact q3)
        have hgn : Hid (∀ g2 cap2 n2, (Value.slice a3 o.length c3) = .slice (some ⟨g2, 0, none⟩) n2 cap2 → g2 < g) := Lib.hid (by
          intro g2 cap2 n2 e
          rcases I.out.2 with ⟨q1, q2⟩ | ⟨g', cap', cur, q1, q2, q3, q4⟩
          · rw [q1] at e; cases e
          · rw [q1] at e
            obtain ⟨e1, _, _⟩ := (Value.slice.injEq ..).mp e
            cases e1
            have := (Array.getElem?_eq_some_iff.1 q3).1
            omega)
        have hgB : w.heap.size ≤ g := by omega
        have hgm : g < wm.heap.size := by
          rcases In.out.2 with ⟨q1, q2⟩ | ⟨g', cap', cur, q1, q2, q3, q4⟩
          · cases q1
          · cases q1; exact (Array.getElem?_eq_some_iff.1 q3).1
        have In2 : Hid (wm.ownsRow g 3 1 (.slice (some ⟨g, 0, none⟩) L L) L ((List.replicate L 0).map encI)) := Lib.hid (by
          rcases In.out.2 with ⟨q1, q2⟩ | ⟨g', cap', cur, q1, q2, q3, q4⟩
          · cases q1
          · exact ⟨In.out.1, .inr ⟨g', cap', cur, q1, by cases q1; exact Nat.le_refl _, q3, q4⟩⟩)
        obtain ⟨Z, hZ⟩ : ∃ Z, Hid (Z = bg z) := ⟨_, Lib.hid rfl⟩
        rw [← hZ.out] at hat
        have hZl : Hid (Z.length = L) := Lib.hid (by rw [hZ.out, hL.out])
        have hgh := Lib.hid hg
        clear hown hgr hi3 hz0' hz1 hz2 hwb I hN In hL hg
        go_upto_block 2 with (fail)
        rw [← hgh.out]
        go_cut [4] (fun s4 wx => ∃ (r : Nat) (nx : List Nat), s4 = .int .i64 (r : Int) ∧ r < 10 ∧ Hid (wx.ownsRow g 3 1 (.slice (some ⟨g, 0, none⟩) L L) L (nx.map encI)) ∧ Hid (Dg nx) ∧ Hid (10 * bv nx + r = z) ∧ Hid (Below g wm wx))
        case first =>
          go_wp2_with fail
          go_loopg [4, 6] (L + 1) (fun gk s4 s6 wx => ∃ (p r : Nat) (nx : List Nat), p < gk ∧ p ≤ L ∧ s6 = .int .i64 ((p : Int) - 1) ∧ s4 = .int .i64 (r : Int) ∧ r < 10 ∧ Hid (wx.ownsRow g 3 1 (.slice (some ⟨g, 0, none⟩) L L) L (nx.map encI)) ∧ Hid (Dg nx) ∧ Hid (10 * bv (nx.drop p) + r = bv (Z.drop p)) ∧ Hid (Below g wm wx))
          case atStart =>
            refine ⟨L, 0, List.replicate L 0, by omega, by omega, rfl, rfl, by omega, In2, Lib.hid (fun y hy => by rw [List.mem_replicate] at hy; omega), Lib.hid ?_, Lib.hid (Below.refl _ _)⟩
            rw [List.drop_of_length_le (by simp), List.drop_of_length_le (by rw [hZl.out]; exact Nat.le_refl _)]
            rfl
          case round =>
            clear In2 hmk
            obtain ⟨p, r, nx, hpg, hpL, rfl, rfl, hr, I, hDn, hV, Bx⟩ := hrel
            by_cases hp0 : 0 < p
            · obtain ⟨q, rfl⟩ : ∃ q, p = q + 1 := ⟨p - 1, by omega⟩
              have e1 : (((q + 1 : Nat) : Int) - 1) = (q : Int) := by omega
              rw [e1]
              have t2 : decide ((0 : Int) ≤ (q : Int)) = true := decide_eq_true (by omega)
              obtain ⟨rfl, hbg, hcell⟩ := hat.out q (by omega)
              have hc1 : wr.cell? ⟨b, off + q, none⟩ = some (.int .i64 ((Z.getD q 0 : Nat) : Int)) := by rw [Bx.out.cell (p := ⟨b, off + q, none⟩) hbg]; exact hcell
              obtain ⟨zq, hzq⟩ : ∃ y, Hid (y = Z.getD q 0) := ⟨_, Lib.hid rfl⟩
              rw [← hzq.out] at hc1
              have hz6 : zq < 65536 := by
                rw [hzq.out, hZ.out, List.getD_eq_getElem?_getD, List.getElem?_eq_getElem (by rw [← hZ.out, hZl.out]; omega)]
                exact bg_dg z _ (List.getElem_mem _)
              have hnl := own_getI I.out
              have hfz := own_frozen I.out q
              obtain ⟨t, ht⟩ : ∃ t, t = r * 65536 + zq := ⟨_, rfl⟩
              have hti : (r : Int) * 65536 + (zq : Int) = (t : Int) := by omega
              have htb : t < 655360 := by omega
              have hnc : wr.cell? ⟨g, q, none⟩ = some (.int .i64 ((nx.getD q 0 : Nat) : Int)) := by
                rw [I.out.cellAt q (by omega), List.getElem?_map, List.getElem?_eq_getElem (by omega), List.getD_eq_getElem?_getD, List.getElem?_eq_getElem (by omega)]
                rfl
              have hV2 : Hid (10 * bv ((nx.set q (t / 10)).drop q) + t % 10 = bv (Z.drop q)) := Lib.hid (by
                rw [drop_at Z q (by rw [hZl.out]; omega), ← hzq.out, drop_at (nx.set q (t / 10)) q (by rw [List.length_set]; omega), List.drop_set_of_lt (by omega)]
                have e3 : (nx.set q (t / 10)).getD q 0 = t / 10 := by
                  rw [List.getD_eq_getElem?_getD, List.getElem?_set_self (by omega)]; rfl
                rw [e3]
                show 10 * (t / 10 + 65536 * bv (nx.drop (q + 1))) + t % 10 = zq + 65536 * bv (Z.drop (q + 1))
                have := div_step (bv (nx.drop (q + 1))) r zq _ hV.out
                rw [ht]; exact this)
              have hD2 : Hid (Dg (nx.set q (t / 10))) := Lib.hid (fun y hy => by
                rcases List.mem_or_eq_of_mem_set hy with h | h
                · exact hDn.out y h
                · omega)
              have hI2 : ∀ (W : World) (v : Value), v = .int .i64 ((t / 10 : Nat) : Int) → W.ownsRow g 3 1 (.slice (some ⟨g, 0, none⟩) L L) L (nx.map encI) → Hid ((W.setCell ⟨g, q, none⟩ v).ownsRow g 3 1 (.slice (some ⟨g, 0, none⟩) L L) L ((nx.set q (t / 10)).map encI)) := fun W v hv hW => by
                have := own_store hW q v
                rw [hv, show (Value.int .i64 ((t / 10 : Nat) : Int)) = encI (t / 10) from rfl, ← List.map_set] at this
                rw [hv]
                exact Lib.hid this
              replace hI2 := Lib.hid hI2
              clear hV hDn ht hcell hnl e1
              go_wp2_with fail
              go_roundg (gk - 1)
              case measure => omega
              case rel => exact ⟨q, t % 10, nx.set q (t / 10), by omega, by omega, by go_num, by go_num, by omega, hI2.out _ _ rfl I.out, hD2, hV2, Lib.hid (Below.setCell (p := ⟨g, q, none⟩) Bx.out (Nat.le_refl g) _)⟩
            · obtain rfl : p = 0 := by omega
              have t2 : decide ((0 : Int) ≤ ((0 : Nat) : Int) - 1) = false := rfl
              have hV2 : Hid (10 * bv nx + r = z) := Lib.hid (by
                have := hV.out
                rw [List.drop_zero, List.drop_zero, hZ.out, bv_bg] at this
                exact this)
              clear hV
              go_wp2_with fail
              go_meet
              exact ⟨r, nx, rfl, hr, I, hDn, hV2, Bx⟩
        case rest =>
          obtain ⟨r, nx, rfl, hr, I, hDn, hV, Bx⟩ := hcut
          clear In2 hmk hat hZ hZl
          have B2 : Hid (Below w.heap.size w wc) := Lib.hid (Bm.out.trans (Bx.out.mono hgB))
          have I2 : Hid (wc.ownsRow w.heap.size 5 1 (.slice a3 o.length c3) o.length (o.map enc8)) := Lib.hid (by
            rcases Im.out.2 with ⟨q1, q2⟩ | ⟨g', cap', cur, q1, q2, q3, q4⟩
            · exact ⟨Im.out.1, .inl ⟨q1, q2⟩⟩
            · refine ⟨Im.out.1, .inr ⟨g', cap', cur, q1, q2, ?_, q4⟩⟩
              rw [Bx.out.block g' (hgn.out g' cap' _ q1)]; exact q3)
          have hnl := own_getI I.out
          have hd : Hid ((48 : Int) + (r : Int) = ((UInt8.ofNat (48 + z % 10)).toNat : Int)) := Lib.hid (by
            rw [ofNat_to _ (by omega)]
            have := hV.out
            omega)
          have hz10 : Hid (bv nx = z / 10) := Lib.hid (by have := hV.out; omega)
          have hoD2 : Hid ((o ++ [UInt8.ofNat (48 + z % 10)]) ++ dle (z / 10) = D) := Lib.hid (by rw [← hoD.out, dle_pos z hz0, List.append_assoc]; rfl)
          have hol2 : (o ++ [UInt8.ofNat (48 + z % 10)]).length ≤ 5000 := by
            have := congrArg List.length hoD2.out
            rw [List.length_append] at this
            omega
          obtain ⟨dg, hdg⟩ : ∃ y, Hid (y = UInt8.ofNat (48 + z % 10)) := ⟨_, Lib.hid rfl⟩
          rw [← hdg.out] at hd hoD2 hol2
          have hBs2 := B2.out.size
          have hgc : Hid (g < wc.heap.size) := Lib.hid (by have := Bx.out.size; omega)
          clear hV Bx Bm B Im hoD
          go_wp2_with (at_builtin; go_must (refine app_one rfl (.tmp 35) (.tmp 39) 37 rfl (u := .int .u8 (48 + (r : Int))) w.heap.size (.int .u8 0) 1 Tryz.underlying37 info5 rfl _ o.length _ rfl rfl I2.out rfl (by omega) (by omega) hBs2 ?_); rintro v2 w3 hown2' hb2 hs2 hkp hv3; have hown2 := Lib.hid hown2'; clear hown2')
          obtain ⟨g4, cap4, rfl⟩ := hv3
          have hO : OB w3 g (.slice (some ⟨g, 0, none⟩) nx.length L) nx := by
            unfold OB
            rw [hnl]
            rcases I.out.2 with ⟨q1, q2⟩ | ⟨g', cap', cur, q1, q2, q3, q4⟩
            · cases q1
            · refine ⟨I.out.1, .inr ⟨g', cap', cur, q1, q2, ?_, q4⟩⟩
              have e2 : g' = g := by cases q1; rfl
              subst e2
              rw [hkp g' (fun e => ?_) hgc.out]
              · exact q3
              · rcases I2.out.2 with ⟨p1, _⟩ | ⟨gg, cc, cu, p1, _⟩
                · rw [p1] at e
                  have e' : (none : Option Nat) = some g' := e
                  cases e'
                · have h9 := hgn.out gg cc _ p1
                  rw [p1] at e
                  have e' : some gg = some g' := e
                  cases e'
                  omega
          have ct := trim_own (some ⟨g, 0, none⟩) L g nx hDn.out (by omega) w3 hO
          rw [hz10.out, hnl] at ct
          replace ct := Lib.hid ct
          have I3 : Hid (w3.ownsRow w.heap.size 5 1 (.slice (some ⟨g4, 0, none⟩) (o.length + 1) cap4) (o ++ [dg]).length ((o ++ [dg]).map enc8)) := Lib.hid (by
            have := hown2.out
            rw [hd.out] at this
            rw [List.length_append, List.map_append]; exact this)
          have B3 := Lib.hid (B2.out.trans hb2)
          clear hO hown2 hkp I I2 B2 hb2 hs2
          go_wp2_with fail
          refine ct.out.mono ?_; rintro e w4 ⟨v, rfl, hOt, rfl⟩
          obtain ⟨a5, c5, rfl⟩ := hOt.shape
          have hN5 := Lib.hid hOt.nrow
          have hl5 := hOt.1
          obtain ⟨L5, hL5⟩ : ∃ L5, Hid (L5 = (bg (z / 10)).length) := ⟨_, Lib.hid rfl⟩
          have hL5b : L5 ≤ 1000 := by
            rw [hL5.out, ← hz10.out]
            have := trN_le nx hDn.out
            unfold trN at this
            omega
          rw [← hL5.out]
          clear ct hOt hl5
          go_wp2_with fail
          go_roundg (gk - 1)
          case measure => omega
          case rel => exact ⟨z / 10, L5, a5, c5, o ++ [dg], by omega, rfl, hL5b, hL5, hN5, hoD2, hol2, I3, B3⟩
      · obtain rfl : L = 0 := by omega
        have hz0 : z = 0 := by
          rcases Nat.eq_zero_or_pos z with e | e
          · exact e
          · have := hL.out
            rw [bg_pos z e] at this; cases this
        have hoE : o = D := by have := hoD.out; rw [hz0, dle_zero, List.append_nil] at this; exact this
        subst hoE
        clear hoD
        go_wp2_with fail
        go_meet
        exact ⟨I, B⟩
  case rest =>
    obtain ⟨I, B⟩ := hcut
    clear I0 hN0 hL0 hx hD
    obtain ⟨n, hn⟩ : ∃ n, Hid (n = D.length) := ⟨_, Lib.hid rfl⟩
    obtain ⟨a3, c3, rfl⟩ := own_sh I.out
    rw [← hn.out] at I hxd ⊢
    go_upto_block 4 with (fail)
    go_cut [3] (fun s3 wx => s3 = .slice a3 n c3 ∧ Hid (wx.ownsRow w.heap.size 5 1 (.slice a3 n c3) n (D.reverse.map enc8)) ∧ Hid (Below w.heap.size w wx))
    case first =>
      go_wp2_with fail
      go_loopg [7] (n + 1) (fun gk s7 wx => ∃ (i : Nat) (q : List UInt8), n / 2 - i < gk ∧ i ≤ n / 2 ∧ s7 = .int .i64 (i : Int) ∧ q.length = n ∧ Hid (wx.ownsRow w.heap.size 5 1 (.slice a3 n c3) n (q.map enc8)) ∧ Hid (∀ j, j < n → q.getD j 0 = if j < i ∨ n - 1 - j < i then D.getD (n - 1 - j) 0 else D.getD j 0) ∧ Hid (Below w.heap.size w wx))
      case atStart => exact ⟨0, D, by omega, by omega, rfl, hn.out.symm, I, Lib.hid (fun j hj => by rw [if_neg (by omega)]), B⟩
      case round =>
        clear I B
        obtain ⟨i, q, hgk, hi, rfl, hql, I, hQ, B⟩ := hrel
        by_cases hlt : i < n / 2
        · have t1 : decide ((i : Int) < ((n / 2 : Nat) : Int)) = true := decide_eq_true (by omega)
          have t1' : decide (i < n / 2) = true := decide_eq_true hlt
          obtain ⟨g, cap, rfl, rfl⟩ : ∃ g cap, a3 = some ⟨g, 0, none⟩ ∧ c3 = cap := by
            rcases I.out.2 with ⟨q1, q2⟩ | ⟨g', cap', cur, q1, _⟩
            · omega
            · cases q1; exact ⟨g', c3, rfl, rfl⟩
          have hat : ∀ j, j < n → wr.cell? ⟨g, j, none⟩ = some (.int .u8 ((q.getD j 0).toNat : Int)) := fun j hj => by
            rw [I.out.cellAt j (by omega), List.getElem?_map, List.getElem?_eq_getElem (by omega), List.getD_eq_getElem?_getD, List.getElem?_eq_getElem (by omega)]
            rfl
          have h1 := hat i (by omega)
          have h2 := hat (n - 1 - i) (by omega)
          have f1 := own_frozen I.out i
          have f2 := own_frozen I.out (n - 1 - i)
          obtain ⟨x1, hx1⟩ : ∃ y, Hid (y = q.getD i 0) := ⟨_, Lib.hid rfl⟩
          obtain ⟨x2, hx2⟩ : ∃ y, Hid (y = q.getD (n - 1 - i) 0) := ⟨_, Lib.hid rfl⟩
          rw [← hx1.out] at h1
          rw [← hx2.out] at h2
          have hI2 : Hid (((wr.setCell ⟨g, i, none⟩ (.int .u8 (x2.toNat : Int))).setCell ⟨g, n - 1 - i, none⟩ (.int .u8 (x1.toNat : Int))).drew.ownsRow w.heap.size 5 1 (.slice (some ⟨g, 0, none⟩) n c3) n (((q.set i x2).set (n - 1 - i) x1).map enc8)) := Lib.hid (by
            have := own_store (own_store I.out i (enc8 x2)) (n - 1 - i) (enc8 x1)
            rw [← List.map_set, ← List.map_set] at this
            exact this)
          have hgB : w.heap.size ≤ g := by
            rcases I.out.2 with ⟨q1, q2⟩ | ⟨g', cap', cur, q1, q2, _⟩
            · cases q1
            · cases q1; exact q2
          have hB2 : Hid (Below w.heap.size w ((wr.setCell ⟨g, i, none⟩ (.int .u8 (x2.toNat : Int))).setCell ⟨g, n - 1 - i, none⟩ (.int .u8 (x1.toNat : Int))).drew) := Lib.hid (Below.drew (Below.setCell (p := ⟨g, n - 1 - i, none⟩) (Below.setCell (p := ⟨g, i, none⟩) B.out hgB _) hgB _))
          have hQ2 : Hid (∀ j, j < n → ((q.set i x2).set (n - 1 - i) x1).getD j 0 = if j < i + 1 ∨ n - 1 - j < i + 1 then D.getD (n - 1 - j) 0 else D.getD j 0) := Lib.hid (fun j hj => by
            have hq1 := hQ.out i (by omega)
            have hq2 := hQ.out (n - 1 - i) (by omega)
            rw [if_neg (by omega)] at hq1
            rw [if_neg (by omega)] at hq2
            rw [← hx1.out] at hq1
            rw [← hx2.out] at hq2
            by_cases e1 : j = n - 1 - i
            · rw [if_pos (by omega), e1, List.getD_eq_getElem?_getD, List.getElem?_set_self (by rw [List.length_set]; omega), show n - 1 - (n - 1 - i) = i by omega]
              exact hq1
            · by_cases e2 : j = i
              · rw [if_pos (by omega), e2, List.getD_eq_getElem?_getD, List.getElem?_set_ne (by omega), List.getElem?_set_self (by omega)]
                exact hq2
              · have hq3 := hQ.out j hj
                rw [List.getD_eq_getElem?_getD, List.getElem?_set_ne (by omega), List.getElem?_set_ne (by omega), ← List.getD_eq_getElem?_getD, hq3]
                by_cases e3 : j < i ∨ n - 1 - j < i
                · rw [if_pos e3, if_pos (by omega)]
                · rw [if_neg e3, if_neg (by omega)])
          clear hat hQ I B hx1 hx2
          go_upto_region 16 with (fail)
          go_region
          all_goals go_wp2_with fail
          all_goals go_roundg (gk - 1)
          case measure => omega
          case rel => exact ⟨i + 1, (q.set i x2).set (n - 1 - i) x1, by omega, by omega, by go_num, by simp [hql], hI2, hQ2, hB2⟩
        · have t1 : decide ((i : Int) < ((n / 2 : Nat) : Int)) = false := decide_eq_false (by omega)
          have t1' : decide (i < n / 2) = false := decide_eq_false hlt
          have hqe : q = D.reverse := by
            apply List.ext_getElem?
            intro j
            by_cases hj : j < n
            · have h1 := hQ.out j hj
              rw [List.getD_eq_getElem?_getD, List.getElem?_eq_getElem (by omega)] at h1
              rw [List.getElem?_eq_getElem (by omega), List.getElem?_reverse (by rw [← hn.out]; exact hj), ← hn.out, List.getElem?_eq_getElem (by rw [← hn.out]; omega)]
              congr 1
              have h2 : q[j]'(by omega) = if j < i ∨ n - 1 - j < i then D.getD (n - 1 - j) 0 else D.getD j 0 := h1
              rw [h2]
              split
              · rw [List.getD_eq_getElem?_getD, List.getElem?_eq_getElem (by rw [← hn.out]; omega)]; rfl
              · have : n - 1 - j = j := by omega
                rw [List.getD_eq_getElem?_getD, List.getElem?_eq_getElem (by rw [← hn.out]; exact hj)]
                simp only [this]; rfl
            · rw [List.getElem?_eq_none (by omega), List.getElem?_eq_none (by rw [List.length_reverse, ← hn.out]; omega)]
          subst hqe
          clear hQ
          go_wp2_with fail
          go_meet
          exact ⟨rfl, I, B⟩
    case rest =>
      obtain ⟨rfl, I, B⟩ := hcut
      have h9 : Hid (wc.ownsRow w.heap.size 5 1 (.slice a3 n c3) D.length (D.reverse.map enc8)) := Lib.hid (by have h8 := I.out; have e := hn.out; rw [e] at h8 ⊢; exact h8)
      go_wp2_with fail
      go_ret
      exact ⟨_, rfl, h9.out, B.out⟩
end Go.Proofs.YtaidemghhagniaaGreatDoor
end
section
namespace Go.Proofs.YtaidemghhagniaaGreatDoor
open Go Go.RowKit
theorem rkind_any (v : Nat) (hv : v < 18446744073709551616) (w : World) : Calls Tryz.prog 43 #[.int .u64 v] w fun e w' => e = .returned (.int .u8 ((kindN v : Nat) : Int)) ∧ w = w' := by
  unfold kindN
  have e1 : (v : Int) / 4503599627370496 % 2048 = ((v / 4503599627370496 % 2048 : Nat) : Int) := by omega
  have e2 : (v : Int) % 4503599627370496 = ((v % 4503599627370496 : Nat) : Int) := by omega
  obtain ⟨x, hx⟩ : ∃ x, x = v / 4503599627370496 % 2048 := ⟨_, rfl⟩
  obtain ⟨y, hy⟩ : ∃ y, y = v % 4503599627370496 := ⟨_, rfl⟩
  rw [← hx] at e1 ⊢
  rw [← hy] at e2 ⊢
  replace hx := Lib.hid hx
  replace hy := Lib.hid hy
  by_cases g1 : x = 2047
  · have u1 : ((x : Int) == 2047) = true := by simp [g1]
    rw [if_pos g1]
    by_cases g2 : y = 0
    · have u2 : decide ((0 : Int) < (y : Int)) = false := decide_eq_false (by omega)
      have u2' : decide (0 < y) = false := decide_eq_false (by omega)
      rw [if_pos g2]
      subst g1
      clear g2
      go_enter Tryz.func43, Tryz.ntmps43
      go_wp2_with fail
      go_ret
      exact ⟨rfl, rfl⟩
    · have u2 : decide ((0 : Int) < (y : Int)) = true := decide_eq_true (by omega)
      have u2' : decide (0 < y) = true := decide_eq_true (by omega)
      rw [if_neg g2]
      subst g1
      clear g2
      go_enter Tryz.func43, Tryz.ntmps43
      go_wp2_with fail
      go_ret
      exact ⟨rfl, rfl⟩
  · have u1 : ((x : Int) == 2047) = false := by simp; omega
    rw [if_neg g1]
    by_cases g2 : 0 < x
    · have u2 : decide ((0 : Int) < (x : Int)) = true := decide_eq_true (by omega)
      have u2' : decide (0 < x) = true := decide_eq_true g2
      rw [if_pos g2]
      clear g1
      go_enter Tryz.func43, Tryz.ntmps43
      go_wp2_with fail
      go_ret
      exact ⟨rfl, rfl⟩
    · have u2 : decide ((0 : Int) < (x : Int)) = false := decide_eq_false (by omega)
      have u2' : decide (0 < x) = false := decide_eq_false g2
      rw [if_neg g2]
      by_cases g3 : 0 < y
      · have u3 : decide ((0 : Int) < (y : Int)) = true := decide_eq_true (by omega)
        have u3' : decide (0 < y) = true := decide_eq_true g3
        rw [if_pos g3]
        clear g1 g2
        go_enter Tryz.func43, Tryz.ntmps43
        go_wp2_with fail
        go_ret
        exact ⟨rfl, rfl⟩
      · have u3 : decide ((0 : Int) < (y : Int)) = false := decide_eq_false (by omega)
        have u3' : decide (0 < y) = false := decide_eq_false g3
        rw [if_neg g3]
        clear g1 g2
        go_enter Tryz.func43, Tryz.ntmps43
        go_wp2_with fail
        go_ret
        exact ⟨rfl, rfl⟩
theorem rparts_any (r : Nat) (hr : r < 9223372036854775808) (w : World) : Calls Tryz.prog 74 #[.int .u64 r] w fun e w' => e = .returned (.tuple #[.int .u64 (fr r : Int), .int .i64 ((ex r : Int) - 1075)]) ∧ w = w' := by
  have e1 : (r : Int) / 4503599627370496 = ((r / 4503599627370496 : Nat) : Int) := by omega
  have e2 : (r : Int) % 4503599627370496 = ((r % 4503599627370496 : Nat) : Int) := by omega
  by_cases h : r < 4503599627370496
  · have hf : fr r = r % 4503599627370496 := by unfold fr; rw [if_pos h]; omega
    have he : ex r = 1 := by unfold ex; rw [if_pos h]
    have u1 : ((r : Int) / 4503599627370496 == 0) = true := by rw [beq_iff_eq]; omega
    have e3 : (r : Int) / 4503599627370496 = 0 := by omega
    rw [hf, he]
    obtain ⟨y, hy⟩ : ∃ y, y = r % 4503599627370496 := ⟨_, rfl⟩
    rw [← hy] at e2 ⊢
    clear hf he h u1 e1
    replace hy := Lib.hid hy
    have e2h := Lib.hid e2
    go_enter Tryz.func74, Tryz.ntmps74
    go_wp2_with fail
    go_ret2
    refine ⟨?_, rfl⟩
    show Ending.returned (.tuple #[.int .u64 ((r : Int) % 4503599627370496), .int .i64 (-1074)]) = _
    rw [e2h.out]; rfl
  · have hf : fr r = 4503599627370496 + r % 4503599627370496 := by unfold fr; rw [if_neg h]
    have he : ex r = r / 4503599627370496 := by unfold ex; rw [if_neg h]
    rw [hf, he]
    obtain ⟨y, hy⟩ : ∃ y, y = r % 4503599627370496 := ⟨_, rfl⟩
    obtain ⟨x, hx⟩ : ∃ x, x = r / 4503599627370496 := ⟨_, rfl⟩
    have hyb : y < 4503599627370496 := by omega
    have hxb : 1 ≤ x ∧ x < 2048 := by omega
    rw [← hy] at e2 ⊢
    rw [← hx] at e1 ⊢
    obtain ⟨hx1, hx2⟩ := hxb
    have u1 : ((x : Int) == 0) = false := by simp; omega
    clear hf he h
    replace hy := Lib.hid hy
    replace hx := Lib.hid hx
    go_enter Tryz.func74, Tryz.ntmps74
    go_wp2_with fail
    go_ret2
    exact ⟨by rw [Int.add_comm (y : Int)]; rfl, rfl⟩
theorem rorder_any (v : Nat) (hv : v < 18446744073709551616) (w : World) : Calls Tryz.prog 73 #[.int .u64 v] w fun e w' => e = .returned (.int .i64 (ordN v)) ∧ w = w' := by
  by_cases h : v < 9223372036854775808
  · rw [ord_lo v h]
    have e1 : (v : Int) / 9223372036854775808 = 0 := by omega
    have e2 : wrap64 (v : Int) = (v : Int) := by unfold wrap64; omega
    go_enter Tryz.func73, Tryz.ntmps73
    go_wp2_with fail
    go_ret
    exact ⟨rfl, rfl⟩
  · have hh : 9223372036854775808 ≤ v := by omega
    rw [ord_hi v hh]
    have e1 : (v : Int) / 9223372036854775808 = 1 := by omega
    obtain ⟨y, hy⟩ : ∃ y, y = v - 9223372036854775808 := ⟨_, rfl⟩
    have e2 : (v : Int) % 9223372036854775808 = (y : Int) := by omega
    have hyb : y < 9223372036854775808 := by omega
    have e3 : (9223372036854775808 : Int) - (v : Int) = -(y : Int) := by omega
    rw [e3]
    replace hy := Lib.hid hy
    clear e3 h
    go_enter Tryz.func73, Tryz.ntmps73
    go_wp2_with fail
    go_ret
    exact ⟨rfl, rfl⟩
end Go.Proofs.YtaidemghhagniaaGreatDoor
end
section
namespace Go.Proofs.YtaidemghhagniaaGreatDoor
open Go Ieee
theorem dval_inj : ∀ (A B : List UInt8), A.length = B.length → DigL A → DigL B → dval A = dval B → A = B := by
  intro A
  induction A with
  | nil => intro B h _ _ _; exact (List.eq_nil_of_length_eq_zero h.symm).symm
  | cons a s ih =>
    intro B h hA hB hv
    cases B with
    | nil => cases h
    | cons b t =>
      obtain ⟨a1, a2, a3⟩ := digL_cons hA
      obtain ⟨b1, b2, b3⟩ := digL_cons hB
      have hl : s.length = t.length := by simpa using h
      rw [dval_cons, dval_cons, hl] at hv
      have l1 := dval_lt s a3
      have l2 := dval_lt t b3
      rw [hl] at l1
      have he : a.toNat - 48 = b.toNat - 48 := by
        generalize 10 ^ t.length = T at *
        rcases Nat.lt_trichotomy (a.toNat - 48) (b.toNat - 48) with g | g | g
        · have : (a.toNat - 48 + 1) * T ≤ (b.toNat - 48) * T := Nat.mul_le_mul_right _ g
          rw [Nat.add_mul] at this; omega
        · exact g
        · have : (b.toNat - 48 + 1) * T ≤ (a.toNat - 48) * T := Nat.mul_le_mul_right _ g
          rw [Nat.add_mul] at this; omega
      have hab : a = b := UInt8.toNat_inj.1 (by omega)
      subst hab
      rw [ih t hl a3 b3 (by omega)]
theorem frac_uniq (A B : List UInt8) (hA : DigL A) (hB : DigL B) (h : dval A * 10 ^ B.length = dval B * 10 ^ A.length) (nB : ∀ m, B ≠ m ++ [48]) (hl : A.length ≤ B.length) : A = B := by
  obtain ⟨k, hk⟩ : ∃ k, B.length = A.length + k := ⟨B.length - A.length, by omega⟩
  have hp : 0 < 10 ^ A.length := Nat.pow_pos (by decide)
  have h2 : dval (A ++ List.replicate k 48) = dval B := by
    rw [dval_app, dval_zeros _ (fun c hc => (List.mem_replicate.1 hc).2), List.length_replicate, Nat.add_zero]
    apply Nat.eq_of_mul_eq_mul_right hp
    rw [← h, hk, Nat.pow_add, Nat.mul_assoc, Nat.mul_comm (10 ^ k)]
  have h3 : A ++ List.replicate k 48 = B := by
    refine dval_inj _ _ (by simp [hk]) ?_ hB h2
    intro c hc
    rw [List.mem_append] at hc
    rcases hc with hc | hc
    · exact hA c hc
    · rw [(List.mem_replicate.1 hc).2]; exact ⟨by decide, by decide⟩
  cases k with
  | zero => simpa using h3
  | succ k =>
    exfalso
    refine nB (A ++ List.replicate k 48) ?_
    rw [← h3, List.replicate_succ', ← List.append_assoc]
theorem text_uniq (W T W2 T2 : List UInt8) (hT : DigL T) (hT2 : DigL T2) (cW : W = Lib.decDigits (dval W)) (cW2 : W2 = Lib.decDigits (dval W2)) (nT : ∀ m, T ≠ m ++ [48]) (nT2 : ∀ m, T2 ≠ m ++ [48])
    (h : dval (W ++ T) * 10 ^ T2.length = dval (W2 ++ T2) * 10 ^ T.length) : W = W2 ∧ T = T2 := by
  have l1 := dval_lt T hT
  have l2 := dval_lt T2 hT2
  have p1 : 0 < 10 ^ T.length := Nat.pow_pos (by decide)
  have p2 : 0 < 10 ^ T2.length := Nat.pow_pos (by decide)
  rw [dval_app, dval_app, Nat.add_mul, Nat.add_mul] at h
  have m1 : dval T * 10 ^ T2.length < 10 ^ T.length * 10 ^ T2.length := Nat.mul_lt_mul_of_pos_right l1 p2
  have m2 : dval T2 * 10 ^ T.length < 10 ^ T.length * 10 ^ T2.length := by rw [Nat.mul_comm (10 ^ T.length)]; exact Nat.mul_lt_mul_of_pos_right l2 p1
  rw [Nat.mul_assoc, Nat.mul_assoc, Nat.mul_comm (10 ^ T2.length) (10 ^ T.length)] at h
  have hw : dval W = dval W2 := by
    generalize 10 ^ T.length * 10 ^ T2.length = Q at *
    rcases Nat.lt_trichotomy (dval W) (dval W2) with g | g | g
    · have : (dval W + 1) * Q ≤ dval W2 * Q := Nat.mul_le_mul_right _ g
      rw [Nat.add_mul] at this; omega
    · exact g
    · have : (dval W2 + 1) * Q ≤ dval W * Q := Nat.mul_le_mul_right _ g
      rw [Nat.add_mul] at this; omega
  refine ⟨by rw [cW, cW2, hw], ?_⟩
  rw [hw] at h
  have h2 : dval T * 10 ^ T2.length = dval T2 * 10 ^ T.length := by omega
  rcases Nat.le_total T.length T2.length with g | g
  · exact frac_uniq T T2 hT hT2 h2 nT2 g
  · exact (frac_uniq T2 T hT2 hT h2.symm nT g).symm
/-- The digits of the reference, filled up with zeros. -/
def padL (n : Nat) (P : List UInt8) : List UInt8 := List.replicate (1 + n - P.length) 48 ++ P
theorem padL_len (n : Nat) (P : List UInt8) : 1 + n ≤ (padL n P).length := by unfold padL; rw [List.length_append, List.length_replicate]; omega
def T2_ (n : Nat) : Nat := 2 ^ n
/-- The reference text is that of Exact. -/
theorem ref_text (s : Bool) (r n : Nat) (hr : r < INF) (he : ex r + n = 1075) (Q : List UInt8) (hQ : Q = padL n ((dle (fr r * 5 ^ n)).reverse)) :
    (if s then [45] else []) ++ (Q.take (Q.length - n) ++ (if Lib.trimRightB (Q.drop (Q.length - n)) 48 = [] then [] else 46 :: Lib.trimRightB (Q.drop (Q.length - n)) 48)) = exactL (sgw s + r) := by
  obtain ⟨W, T, hX, hW, hT, hW0, hv, hTl, hlen, hA, cW, nT⟩ := exact_parts s r hr
  have hPd : DigL (dle (fr r * 5 ^ n)).reverse ∧ dval (dle (fr r * 5 ^ n)).reverse = fr r * 5 ^ n ∧ ((dle (fr r * 5 ^ n)).reverse = [] ∨ ∃ c t, (dle (fr r * 5 ^ n)).reverse = c :: t ∧ c ≠ 48) := by
    rcases Nat.eq_zero_or_pos (fr r * 5 ^ n) with e | e
    · rw [e, dle_zero]; exact ⟨(fun c hc => by cases hc), rfl, .inl rfl⟩
    · rw [dle_rev _ e]; exact ⟨digs_dig _, dval_digits _, .inr (dec_head _ e)⟩
  obtain ⟨hP, hPv, hPh⟩ := hPd
  generalize (dle (fr r * 5 ^ n)).reverse = P at *
  have hQd : DigL Q := by
    rw [hQ]; unfold padL
    intro c hc
    rw [List.mem_append] at hc
    rcases hc with hc | hc
    · rw [(List.mem_replicate.1 hc).2]; exact ⟨by decide, by decide⟩
    · exact hP c hc
  have hQv : dval Q = fr r * 5 ^ n := by
    rw [hQ]; unfold padL
    rw [dval_app, dval_zeros _ (fun c hc => (List.mem_replicate.1 hc).2), Nat.zero_mul, Nat.zero_add, hPv]
  have hQl : 1 + n ≤ Q.length := by rw [hQ]; exact padL_len n P
  have eQ : Q = Q.take (Q.length - n) ++ Q.drop (Q.length - n) := (List.take_append_drop _ _).symm
  obtain ⟨d1, d2⟩ := digL_app (eQ ▸ hQd)
  have hdl : (Q.drop (Q.length - n)).length = n := by rw [List.length_drop]; omega
  obtain ⟨Z, hZ1, hZ2⟩ := trimR_split (Q.drop (Q.length - n))
  obtain ⟨T2, hT2⟩ : ∃ T2, T2 = Lib.trimRightB (Q.drop (Q.length - n)) 48 := ⟨_, rfl⟩
  rw [← hT2] at hZ1 ⊢
  obtain ⟨W2, hW2⟩ : ∃ W2, W2 = Q.take (Q.length - n) := ⟨_, rfl⟩
  rw [← hW2] at d1 ⊢
  have hT2d : DigL T2 := (digL_app (hZ1 ▸ d2)).1
  have hlz : T2.length + Z.length = n := by rw [← List.length_append, ← hZ1]; exact hdl
  have hval2 : dval (W2 ++ T2) * 10 ^ Z.length = fr r * 5 ^ n := by
    have : dval Q = dval W2 * 10 ^ n + dval (Q.drop (Q.length - n)) := by
      conv => lhs; rw [eQ]
      rw [dval_app, hdl, ← hW2]
    rw [dval_app, Nat.add_mul, Nat.mul_assoc, ← Nat.pow_add, hlz, ← hQv, this, hZ1, dval_app, dval_zeros Z hZ2, Nat.add_zero]
  have cW2 : W2 = Lib.decDigits (dval W2) := by
    refine canon _ W2 rfl d1 ?_ ?_
    · intro e
      have := congrArg List.length hW2
      rw [e, List.length_take] at this
      simp at this
      omega
    · by_cases g : P.length < 1 + n
      · right
        have : Q.length = 1 + n := by rw [hQ]; unfold padL; rw [List.length_append, List.length_replicate]; omega
        rw [hW2, List.length_take]; omega
      · left
        have hQP : Q = P := by rw [hQ]; unfold padL; rw [show 1 + n - P.length = 0 by omega]; rfl
        rcases hPh with e | ⟨c, t, e, hc⟩
        · rw [e] at g; simp at g
        · rw [hW2, hQP, e]
          intro e2
          have hk : 0 < (c :: t).length - n := by rw [← e]; omega
          obtain ⟨k, hk2⟩ : ∃ k, (c :: t).length - n = k + 1 := ⟨(c :: t).length - n - 1, by omega⟩
          rw [hk2] at e2
          simp at e2
          exact hc e2
  have key : dval (W ++ T) * 10 ^ T2.length = dval (W2 ++ T2) * 10 ^ T.length := by
    have hz : 0 < 10 ^ Z.length * UU := Nat.mul_pos (Nat.pow_pos (by decide)) U_pos
    apply Nat.eq_of_mul_eq_mul_right hz
    have e1 : dval (W ++ T) * 10 ^ T2.length * (10 ^ Z.length * UU) = dval (W ++ T) * UU * 10 ^ (T2.length + Z.length) := by rw [Nat.pow_add]; generalize UU = U; ac_rfl
    have e2 : dval (W2 ++ T2) * 10 ^ T.length * (10 ^ Z.length * UU) = dval (W2 ++ T2) * 10 ^ Z.length * (10 ^ T.length * UU) := by generalize UU = U; ac_rfl
    rw [e1, e2, hv, hval2, hlz, V_T2]
    have e3 : (10 : Nat) ^ n = T2_ n * 5 ^ n := by unfold T2_; rw [← Nat.mul_pow]
    have e4 : Go.Proofs.YtaidemghhagniaaGreatDoor.T2 (ex r - 1) * T2_ n = UU := by
      unfold T2_
      rw [UU_T2, show (2 : Nat) ^ n = Go.Proofs.YtaidemghhagniaaGreatDoor.T2 n from rfl, T2_add]
      exact congrArg _ (by have : 1 ≤ ex r := by unfold ex; split <;> omega
                           omega)
    rw [e3, ← e4]
    generalize Go.Proofs.YtaidemghhagniaaGreatDoor.T2 (ex r - 1) = A
    generalize T2_ n = B
    ac_rfl
  obtain ⟨q1, q2⟩ := text_uniq W T W2 T2 hT hT2d cW cW2 nT (fun m => by rw [hT2]; exact trimR_last _ m) key
  rw [hX, q1, q2]
end Go.Proofs.YtaidemghhagniaaGreatDoor
end
section
namespace Go.Proofs.YtaidemghhagniaaGreatDoor
open Go Go.RowKit
theorem dle_len (x k : Nat) (h0 : 0 < k) (h : x < T10 k) : (dle x).length ≤ k := by
  rcases Nat.eq_zero_or_pos x with e | e
  · rw [e, dle_zero]; exact Nat.zero_le _
  · rw [← List.length_reverse, dle_rev x e]; exact dig_lenT k x h0 h
def T16 (n : Nat) : Nat := 65536 ^ n
theorem bg_lenT (j x : Nat) (h : x < T16 j) : (bg x).length ≤ j := bg_len j x h
theorem T24_16 : T24 = T16 64 := by unfold T24 T16; decide +kernel
theorem T767_16 : T10 767 < T16 160 := by unfold T10 T16; decide +kernel
theorem T5_16 : T5 1074 < T16 160 := by unfold T5 T16; decide +kernel
/-- A sign, or none. -/
theorem sg_word (s : Bool) (r : Nat) (hr : r < 9223372036854775808) : ((sgw s + r : Nat) : Int) / 9223372036854775808 = (if s then 1 else 0) ∧ ((sgw s + r : Nat) : Int) % 9223372036854775808 = (r : Int) := by
  cases s <;> simp only [sgw, Bool.false_eq_true, if_false, if_true] <;> omega
set_option maxRecDepth 100000 in
set_option maxHeartbeats 8000000 in
/-- .. of a value with a whole number. -/
theorem rexact_hi (s : Bool) (r : Nat) (hr : r < INF) (n : Nat) (he : ex r = 1075 + n) (w : World) :
    Calls Tryz.prog 44 #[.int .u64 ((sgw s + r : Nat) : Int)] w fun e w' => e = .returned (.string (BS (exactL (sgw s + r)))) ∧ Below w.heap.size w w' := by
  have hI : INF = 9218868437227405312 := rfl
  obtain ⟨s1, s2⟩ := sg_word s r (by omega)
  obtain ⟨k4, k3⟩ := kind_low s r hr
  obtain ⟨v, hv⟩ : ∃ v, v = sgw s + r := ⟨_, rfl⟩
  have hvb : v < 18446744073709551616 := by rw [hv]; cases s <;> simp only [sgw, Bool.false_eq_true, if_false, if_true] <;> omega
  rw [← hv] at s1 s2 k4 k3 ⊢
  have ck := Lib.hid (fun W => rkind_any v hvb W)
  have cp := fun W => rparts_any r (by omega) W
  rw [he, show (((1075 + n : Nat)) : Int) - 1075 = (n : Int) by omega] at cp
  replace cp := Lib.hid cp
  have hf := fr_lt r
  have hf0 : 0 < fr r := by
    unfold fr ex at *
    split at he
    · omega
    · rename_i h; rw [if_neg h]; omega
  obtain ⟨f, hfe⟩ : ∃ f, f = fr r := ⟨_, rfl⟩
  have hX : V r = f * 2 ^ n * UU := by
    rw [V_T2, he, ← hfe, show 1075 + n - 1 = 1074 + n by omega, ← T2_add, ← UU_T2]
    show f * (UU * T2 n) = f * T2 n * UU
    generalize UU = U; ac_rfl
  have hex := exact_word s r (f * 2 ^ n) hr hX
  rw [← hv] at hex
  obtain ⟨X, hXe⟩ : ∃ X, X = f * 2 ^ n := ⟨_, rfl⟩
  have hX0 : 0 < X := by rw [hXe]; exact Nat.mul_pos (by omega) (Nat.two_pow_pos _)
  have hXb : X < T24 := by
    have h1 := V_lt hr
    rw [V_inf, hX, ← hXe] at h1
    exact Nat.lt_of_mul_lt_mul_right h1
  have hbl : (bg X).length ≤ 1000 := Nat.le_trans (bg_lenT 64 X (by rw [← T24_16]; exact hXb)) (by decide)
  have hdl : (dle X).length ≤ 311 := dle_len X 311 (by decide) (Nat.lt_of_lt_of_le hXb T24_le)
  have hfl : (bg f).length ≤ 4 := bg_len 4 f (by rw [hfe]; exact Nat.lt_trans hf (by decide))
  have hnb : n ≤ 2000 := by unfold ex at he; split at he <;> omega
  have cs := Lib.hid (fun W => small_any f (by rw [hfe]; omega) W)
  have cm := Lib.hid (fun a c W hN => moved_any a c f n hnb (by omega) (by rw [hfe]; exact hf0) W hN)
  rw [← hXe] at cm
  have cd := Lib.hid (fun a c W hN => decimal_any a c X hbl (by omega) W hN)
  rw [dle_rev X hX0] at cd
  rw [← hfe] at cp
  obtain ⟨D, hD⟩ : ∃ D, D = Lib.decDigits X := ⟨_, rfl⟩
  have hDl : D.length ≤ 311 := by rw [hD, ← dle_rev X hX0, List.length_reverse]; exact hdl
  rw [← hD] at cd
  rw [← hXe, ← hD] at hex
  have hexh := Lib.hid hex
  have u3 : ((kindN v : Int) == 3) = false := by simp; omega
  have u4 : ((kindN v : Int) == 4) = false := by simp; omega
  unfold NRet at cs cm
  clear hex hX hXe hf hf0 hfe he hD hXb hbl hfl hX0 k3 k4 hv
  go_enter Tryz.func44, Tryz.ntmps44
  go_upto_if 11 with (fail)
  go_cut [3] (fun s3 wx => s3 = .string (BS (if s then [45] else [])) ∧ w = wx)
  case first =>
    cases s
    · have q1 : (v : Int) / 9223372036854775808 = 0 := s1
      clear s1
      go_wp2_with fail
      go_meet
      exact ⟨rfl, rfl⟩
    · have q1 : (v : Int) / 9223372036854775808 = 1 := s1
      clear s1
      go_wp2_with fail
      go_meet
      exact ⟨rfl, rfl⟩
  case rest =>
    obtain ⟨rfl, rfl⟩ := hcut
    obtain ⟨G, hG⟩ : ∃ G : List UInt8, Hid (G = if s then [45] else []) := ⟨_, Lib.hid rfl⟩
    rw [← hG.out]
    have hGl : G.length ≤ 1 := by rw [hG.out]; split <;> simp
    have hGs := BS_size G
    clear s1
    go_wp2_with fail
    refine (ck.out _).mono ?_; rintro e w1 ⟨rfl, rfl⟩
    go_wp2_with fail
    refine (ck.out _).mono ?_; rintro e w1 ⟨rfl, rfl⟩
    go_wp2_with fail
    refine (cp.out _).mono ?_; rintro e w1 ⟨rfl, rfl⟩
    clear cp ck u3 u4
    go_wp2_with fail
    refine (cs.out _).mono ?_; rintro e w1 ⟨a1, c1, rfl, hN1, hb⟩
    have B := Lib.hid hb
    obtain ⟨L1, hL1⟩ : ∃ L, Hid (L = (bg f).length) := ⟨_, Lib.hid rfl⟩
    have cm2 := cm.out a1 c1 w1 hN1
    rw [← hL1.out] at cm2 ⊢
    replace cm2 := Lib.hid cm2
    clear cs hb hN1 cm
    go_wp2_with fail
    refine cm2.out.mono ?_; rintro e w2 ⟨a2, c2, rfl, hN2, hb⟩
    replace B := Lib.hid (B.out.trans (hb.mono B.out.size))
    have cd2 := cd.out a2 c2 w2 hN2
    obtain ⟨L2, hL2⟩ : ∃ L, Hid (L = (bg X).length) := ⟨_, Lib.hid rfl⟩
    rw [← hL2.out] at cd2 ⊢
    replace cd2 := Lib.hid cd2
    clear cm2 hb hN2 cd
    go_wp2_with fail
    refine cd2.out.mono ?_; rintro e w3 ⟨v3, rfl, hO, hb⟩
    replace B := Lib.hid (B.out.trans (hb.mono B.out.size))
    obtain ⟨a3, c3, rfl⟩ := own_sh hO
    have hc : (convert 37 9 (.slice a3 (dle X).length c3)).run Tryz.prog w3 = .ok (.string (BS D)) w3 := conv_owned (P := Tryz.prog) Tryz.underlying37 Tryz.underlying5 Tryz.underlying9 hO
    have hDs := BS_size D
    have cat := BS_app G D
    obtain ⟨L3, hL3⟩ : ∃ L, Hid (L = (dle X).length) := ⟨_, Lib.hid rfl⟩
    rw [← hL3.out] at hc ⊢
    clear cd2 hb hO hdl
    go_wp2_with fail
    go_ret
    exact ⟨Eq.trans (b := Ending.returned (.string (BS (G ++ D)))) rfl (by rw [hG.out, hexh.out]), B.out⟩
end Go.Proofs.YtaidemghhagniaaGreatDoor
end
section
namespace Go.Proofs.YtaidemghhagniaaGreatDoor
open Go Go.RowKit
theorem trimR_snoc (m : List UInt8) : Lib.trimRightB (m ++ [48]) 48 = Lib.trimRightB m 48 := by
  unfold Lib.trimRightB; rw [List.reverse_append]; rfl
theorem trimR_keep (m : List UInt8) (c : UInt8) (h : c ≠ 48) : Lib.trimRightB (m ++ [c]) 48 = m ++ [c] := by
  unfold Lib.trimRightB
  rw [List.reverse_append]
  show ((c :: m.reverse).dropWhile (· == 48)).reverse = _
  rw [List.dropWhile_cons, if_neg (by simpa using h)]
  simp
theorem takeU_last (l : List UInt8) (k : Nat) (h : k < l.length) : l.take (k + 1) = l.take k ++ [l.getD k 0] := by
  rw [List.take_add_one, List.getElem?_eq_getElem h, List.getD_eq_getElem?_getD, List.getElem?_eq_getElem h]; rfl
set_option maxRecDepth 100000 in
set_option maxHeartbeats 8000000 in
theorem rexact_lo (s : Bool) (r : Nat) (hr : r < INF) (n : Nat) (he : ex r + n = 1075) (hn1 : 1 ≤ n) (w : World) :
    Calls Tryz.prog 44 #[.int .u64 ((sgw s + r : Nat) : Int)] w fun e w' => e = .returned (.string (BS (exactL (sgw s + r)))) ∧ Below w.heap.size w w' := by
  have hI : INF = 9218868437227405312 := rfl
  obtain ⟨s1, s2⟩ := sg_word s r (by omega)
  obtain ⟨k4, k3⟩ := kind_low s r hr
  have hex := ref_text s r n hr he _ rfl
  obtain ⟨v, hv⟩ : ∃ v, v = sgw s + r := ⟨_, rfl⟩
  have hvb : v < 18446744073709551616 := by rw [hv]; cases s <;> simp only [sgw, Bool.false_eq_true, if_false, if_true] <;> omega
  rw [← hv] at s1 s2 k4 k3 hex ⊢
  have ck := Lib.hid (fun W => rkind_any v hvb W)
  have cp := fun W => rparts_any r (by omega) W
  have hnb : n ≤ 1074 := by have : 1 ≤ ex r := by unfold ex; split <;> omega
                            omega
  rw [show (ex r : Int) - 1075 = -(n : Int) by omega] at cp
  have hf := fr_lt r
  obtain ⟨f, hfe⟩ : ∃ f, f = fr r := ⟨_, rfl⟩
  rw [← hfe] at cp hf hex
  replace cp := Lib.hid cp
  obtain ⟨X, hX⟩ : ∃ X, X = f * 5 ^ n := ⟨_, rfl⟩
  rw [← hX] at hex
  have hXb : X < T10 767 := by
    have h1 : X ≤ f * T5 1074 := by rw [hX]; exact Nat.mul_le_mul_left _ (T5_mono hnb)
    have h2 : f * T5 1074 < 9007199254740992 * T5 1074 := Nat.mul_lt_mul_of_pos_right hf (T5_pos _)
    exact Nat.lt_of_le_of_lt h1 (Nat.lt_of_lt_of_le h2 five_bd)
  have hbl : (bg X).length ≤ 1000 := Nat.le_trans (bg_lenT 160 X (Nat.lt_trans hXb T767_16)) (by decide)
  have hdl : (dle X).length ≤ 767 := dle_len X 767 (by decide) hXb
  have hfl : (bg f).length ≤ 4 := bg_len 4 f (Nat.lt_trans hf (by decide))
  have hpl : (bg (5 ^ n)).length ≤ 1000 := Nat.le_trans (bg_lenT 160 (5 ^ n) (Nat.lt_of_le_of_lt (T5_mono hnb) T5_16)) (by decide)
  have cs := Lib.hid (fun W => small_any f (by omega) W)
  have cw := Lib.hid (fun W => power_any 5 n (by decide) (by omega) W)
  have cm := Lib.hid (fun a1 a2 c1 c2 W h1 h2 => product_any a1 a2 c1 c2 f (5 ^ n) (by omega) hpl W h1 h2)
  rw [← hX] at cm
  have cd := Lib.hid (fun a c W hN => decimal_any a c X hbl (by omega) W hN)
  obtain ⟨P, hP⟩ : ∃ P, P = (dle X).reverse := ⟨_, rfl⟩
  have hPl : P.length = (dle X).length := by rw [hP, List.length_reverse]
  rw [← hP] at cd hex
  obtain ⟨pl, hpl2⟩ : ∃ pl, pl = P.length := ⟨_, rfl⟩
  rw [← hPl, ← hpl2] at cd
  have hplb : pl ≤ 767 := by omega
  have hexh := Lib.hid hex
  have u3 : ((kindN v : Int) == 3) = false := by simp; omega
  have u4 : ((kindN v : Int) == 4) = false := by simp; omega
  have ng : decide ((0 : Int) ≤ -(n : Int)) = false := decide_eq_false (by omega)
  unfold NRet at cs cw cm
  obtain ⟨L5, hL5⟩ : ∃ L, Hid (L = (bg (5 ^ n)).length) := ⟨_, Lib.hid rfl⟩
  obtain ⟨L1, hL1⟩ : ∃ L, Hid (L = (bg f).length) := ⟨_, Lib.hid rfl⟩
  obtain ⟨L2, hL2⟩ : ∃ L, Hid (L = (bg X).length) := ⟨_, Lib.hid rfl⟩
  rw [← hL5.out] at cw
  rw [← hL1.out] at cs
  rw [← hL5.out, ← hL1.out, ← hL2.out] at cm
  rw [← hL2.out] at cd
  replace hpl2 := Lib.hid hpl2
  clear hex hX hf hfe hP hXb hbl hfl k3 k4 hv he hdl hpl hPl
  go_enter Tryz.func44, Tryz.ntmps44
  go_upto_if 11 with (fail)
  go_cut [3] (fun s3 wx => s3 = .string (BS (if s then [45] else [])) ∧ w = wx)
  case first =>
    cases s
    · have q1 : (v : Int) / 9223372036854775808 = 0 := s1
      clear s1
      go_wp2_with fail
      go_meet
      exact ⟨rfl, rfl⟩
    · have q1 : (v : Int) / 9223372036854775808 = 1 := s1
      clear s1
      go_wp2_with fail
      go_meet
      exact ⟨rfl, rfl⟩
  case rest =>
    obtain ⟨rfl, rfl⟩ := hcut
    obtain ⟨G, hG⟩ : ∃ G : List UInt8, Hid (G = if s then [45] else []) := ⟨_, Lib.hid rfl⟩
    rw [← hG.out]
    have hGl : G.length ≤ 1 := by rw [hG.out]; split <;> simp
    have hGs := BS_size G
    clear s1
    go_wp2_with fail
    refine (ck.out _).mono ?_; rintro e w1 ⟨rfl, rfl⟩
    go_wp2_with fail
    refine (ck.out _).mono ?_; rintro e w1 ⟨rfl, rfl⟩
    go_wp2_with fail
    refine (cp.out _).mono ?_; rintro e w1 ⟨rfl, rfl⟩
    clear cp ck u3 u4
    go_wp2_with fail
    refine (cs.out _).mono ?_; rintro e w1 ⟨a1, c1, rfl, hN1, hb⟩
    have B := Lib.hid hb
    replace hN1 := Lib.hid hN1
    clear cs hb
    go_wp2_with fail
    refine (cw.out _).mono ?_; rintro e w2 ⟨a2, c2, rfl, hN2, hb⟩
    replace B := Lib.hid (B.out.trans (hb.mono B.out.size))
    have cm2 := Lib.hid (cm.out a1 a2 c1 c2 w2 (hN1.out.on hb) hN2)
    clear cw hb hN2 hN1 cm
    go_wp2_with fail
    refine cm2.out.mono ?_; rintro e w3 ⟨a3, c3, rfl, hN3, hb⟩
    replace B := Lib.hid (B.out.trans (hb.mono B.out.size))
    have cd2 := Lib.hid (cd.out a3 c3 w3 hN3)
    clear cm2 hb hN3 cd
    go_wp2_with fail
    refine cd2.out.mono ?_; rintro e w4 ⟨v4, rfl, hO, hb⟩
    have hBs3 := B.out.size
    have hO4 : Hid (w4.ownsRow w.heap.size 5 1 v4 pl (P.map enc8)) := Lib.hid (by
      refine ⟨hO.1, ?_⟩
      rcases hO.2 with q | ⟨g, cap, cur, q1, q2, q3⟩
      · exact .inl q
      · exact .inr ⟨g, cap, cur, q1, Nat.le_trans hBs3 q2, q3⟩)
    replace B := Lib.hid (B.out.trans (hb.mono B.out.size))
    clear cd2 hb hO hBs3
    go_upto_block 0 with (fail)
    go_cut [6] (fun s6 wx => Hid (wx.ownsRow w.heap.size 5 1 s6 (padL n P).length ((padL n P).map enc8)) ∧ Hid (Below w.heap.size w wx))
    case first =>
      clear hexh hGs hGl
      go_wp2_with fail
      go_loopg [6] (n + 2) (fun gk s6 wx => ∃ (k L : Nat) (R : List UInt8), (1 + n - pl) - k < gk ∧ k ≤ 1 + n - pl ∧ Hid (R = List.replicate k 48 ++ P) ∧ L = k + pl ∧ Hid (wx.ownsRow w.heap.size 5 1 s6 L (R.map enc8)) ∧ Hid (Below w.heap.size w wx))
      case atStart => exact ⟨0, pl, P, by omega, by omega, Lib.hid rfl, by omega, hO4, B⟩
      case round =>
        clear hO4 B
        obtain ⟨k, L, R, hgk, hk, hR, hL, I, B⟩ := hrel
        obtain ⟨a6, c6, rfl⟩ := own_sh I.out
        have hLb : L ≤ 2000 := by omega
        by_cases hlt : L < 1 + n
        · have t1 : decide ((L : Int) < 1 + (n : Int)) = true := decide_eq_true (by omega)
          have t1' : decide (L < 1 + n) = true := decide_eq_true hlt
          have hBs := B.out.size
          have hRl : R.length = L := by have := I.out.1; rw [List.length_map, Nat.mul_one] at this; exact this
          have hR2 : Hid (48 :: R = List.replicate (k + 1) 48 ++ P) := Lib.hid (by rw [hR.out]; rfl)
          obtain ⟨i5, hi5, hz0, hz1, hz2⟩ := info_parts info5
          have hrow1 : (wr.alloc (.cells #[.int .u8 48] 5)).ownsRow w.heap.size 5 1 (.slice (some ⟨wr.heap.size, 0, none⟩) 1 1) 1 [.int .u8 48] := row_one w.heap.size wr (.int .u8 48) hBs
          have hal : Below wr.heap.size wr (wr.alloc (.cells #[.int .u8 48] 5)) := (Below.refl _ _).alloc (Nat.le_refl _) _
          rcases I.out.2 with ⟨q1, q2⟩ | ⟨g, cap, cur, q1, q2, q3, q4, q5, q6, q7⟩
          · obtain ⟨rfl, _, rfl⟩ := (Value.slice.injEq ..).mp q1
            have hR0 : R = [] := List.eq_nil_of_length_eq_zero (by omega)
            subst q2
            have hk1 := Lib.hid (show k + 1 ≤ 1 + n - pl ∧ (1 + n - pl) - (k + 1) < gk - 1 ∧ 1 = k + 1 + pl ∧ gk - 1 < gk by omega)
            clear hL hgk hk
            have hown3 : Hid ((wr.alloc (.cells #[.int .u8 48] 5)).ownsRow w.heap.size 5 1 (.slice (some ⟨wr.heap.size, 0, none⟩) 1 1) 1 ((48 :: R).map enc8)) := Lib.hid (by rw [hR0]; exact hrow1)
            have B3 := Lib.hid (B.out.trans (hal.mono hBs))
            clear I B hal q1
            go_wp2_with (at_builtin; go_must (refine wpList_append_own_none rfl (.tmp 48) (.tmp 49) 37 rfl w.heap.size 5 i5 1 Tryz.underlying37 hi5 (.slice (some ⟨wr.heap.size, 0, none⟩) 1 1) 1 [.int .u8 48] rfl hrow1 rfl ?_))
            go_roundg (gk - 1)
            case measure => exact hk1.out.2.2.2
            case rel => exact ⟨k + 1, 1, 48 :: R, hk1.out.2.1, hk1.out.1, hR2, hk1.out.2.2.1, hown3, B3⟩
          · obtain ⟨rfl, _, rfl⟩ := (Value.slice.injEq ..).mp q1
            have hnews : ∀ j u, (R.map enc8)[j]? = some u → (wr.alloc (.cells #[.int .u8 48] 5)).cell? ((⟨g, 0, none⟩ : Addr).add j) = some u := by
              intro j u hj
              have hj' : j < R.length := by
                have := (List.getElem?_eq_some_iff.1 hj).1
                simpa using this
              rw [show (⟨g, 0, none⟩ : Addr).add j = ⟨g, j, none⟩ by simp [Addr.add]; omega, hal.cell (p := ⟨g, j, none⟩) (Array.getElem?_eq_some_iff.1 q3).1, I.out.cellAt j (by omega)]
              exact hj
            have hone : ∀ u ∈ R.map enc8, u.oneCell' = true := enc8_all
            clear q1 q2 q3 q4 q5 q6 q7
            go_wp2_with (at_builtin; go_must (refine wpList_append_own _ rfl (.tmp 48) (.tmp 49) 37 rfl w.heap.size 5 i5 (.int .u8 0) 1 1 Tryz.underlying37 hi5 hz0 hz1 hz2 rfl (by decide) (.slice (some ⟨wr.heap.size, 0, none⟩) 1 1) 1 [.int .u8 48] rfl hrow1 ⟨g, 0, none⟩ L c6 (R.map enc8) rfl (by rw [List.length_map, hRl, Nat.mul_one]) hnews hone (by unfold maxLen; omega) (by omega) (Nat.le_trans hBs (by simp)) ?_); rintro v2 w3 hown2' hgr -; have hown2 := Lib.hid hown2'; have hgrh := Lib.hid hgr; clear hown2' hgr)
            obtain ⟨a7, c7, rfl⟩ := own_sh hown2.out
            have hown3 : Hid (w3.ownsRow w.heap.size 5 1 (.slice a7 (1 + L) c7) (1 + L) ((48 :: R).map enc8)) := Lib.hid hown2.out
            have B3 : Hid (Below w.heap.size w w3) := Lib.hid ((B.out.trans (hal.mono hBs)).grown hgrh.out (Nat.le_trans hBs (by simp)) (fun k e => by
              have e' : some wr.heap.size = some k := e
              cases e'; exact hBs))
            clear I B hal hown2 hgrh hnews hrow1
            go_wp2_with fail
            go_roundg (gk - 1)
            case measure => omega
            case rel => exact ⟨k + 1, 1 + L, 48 :: R, by omega, by omega, hR2, by omega, hown3, B3⟩
        · have t1 : decide ((L : Int) < 1 + (n : Int)) = false := decide_eq_false (by omega)
          have t1' : decide (L < 1 + n) = false := decide_eq_false hlt
          have hfin : Hid (wr.ownsRow w.heap.size 5 1 (.slice a6 L c6) (padL n P).length ((padL n P).map enc8)) := Lib.hid (by
            have e : R = padL n P := by
              rw [hR.out]; unfold padL
              rw [show k = 1 + n - P.length by rw [← hpl2.out]; omega]
            have hRl : R.length = L := by have := I.out.1; rw [List.length_map, Nat.mul_one] at this; exact this
            rw [← e, hRl]; exact I.out)
          clear I
          go_wp2_with fail
          go_meet
          exact ⟨hfin, B⟩
    case rest =>
      clear hO4 B
      obtain ⟨I, B⟩ := hcut
      obtain ⟨wo, hwo⟩ : ∃ wo, wo = wc := ⟨_, rfl⟩
      subst hwo
      obtain ⟨Q, hQ⟩ : ∃ Q, Hid (Q = padL n P) := ⟨_, Lib.hid rfl⟩
      have hQl : 1 + n ≤ Q.length := by rw [hQ.out]; exact padL_len n P
      have hQb : Q.length ≤ 2000 := by rw [hQ.out]; unfold padL; rw [List.length_append, List.length_replicate, ← hpl2.out]; omega
      rw [← hQ.out] at I
      obtain ⟨N, hN⟩ : ∃ N, N = Q.length := ⟨_, rfl⟩
      rw [← hN] at I hQl hQb
      obtain ⟨g, cap, rfl⟩ := own_block I.out (by omega)
      have hcapb : N ≤ cap := by
        rcases I.out.2 with ⟨q1, _⟩ | ⟨g', cap', cur, q1, q2, q3, q4, q5⟩
        · cases q1
        · cases q1; exact q4
      have hcapm : cap ≤ maxLen := by
        rcases I.out.2 with ⟨q1, _⟩ | ⟨g', cap', cur, q1, q2, q3, q4, q5, q6⟩
        · cases q1
        · cases q1; exact q5
      have hRT := RowT.of_own I.out
      have pw := hRT.piece hN 0 (N - n) (by omega) 0 cap (.inl rfl)
      have hat : Hid (∀ j, j < n → ∀ W, Below wo.heap.size wo W → W.cell? ⟨g, N - n + j, none⟩ = some (.int .u8 (((Q.drop (N - n)).getD j 0).toNat : Int))) := Lib.hid (fun j hj W hW => by
        rw [hW.cell (p := ⟨g, N - n + j, none⟩) (by
          rcases I.out.2 with ⟨q1, _⟩ | ⟨g', cap', cur, q1, q2, q3, q4⟩
          · cases q1
          · cases q1; exact (Array.getElem?_eq_some_iff.1 q3).1), I.out.cellAt (N - n + j) (by omega), List.getElem?_map, List.getElem?_eq_getElem (by omega), List.getD_eq_getElem?_getD, List.getElem?_drop, List.getElem?_eq_getElem (by omega)]
        rfl)
      have e1 : (N : Int) + -(n : Int) = ((N - n : Nat) : Int) := by omega
      have e2 : ((N : Int) + -(n : Int)).toNat = N - n := by omega
      have hNh := Lib.hid hN
      clear hN hRT
      have hne : ¬ cap = N - n := by omega
      go_upto_region 16 with (fail)
      go_quiet (fail)
      go_upto_block 2 with (fail)
      rw [show N - (N - n) = n by omega]
      obtain ⟨Tp, hTp⟩ : ∃ Tp, Hid (Tp = Q.drop (N - n)) := ⟨_, Lib.hid rfl⟩
      have hTl : Hid (Tp.length = n) := Lib.hid (by rw [hTp.out, List.length_drop, ← hNh.out]; omega)
      rw [← hTp.out] at hat
      clear pw
      go_cut [8] (fun s8 wx => ∃ k, s8 = .slice (some ⟨g, N - n, none⟩) k (cap - (N - n)) ∧ k ≤ n ∧ Hid (Tp.take k = Lib.trimRightB Tp 48) ∧ Hid (Below wo.heap.size wo wx))
      case first =>
        go_wp2_with fail
        go_loopg [8] (n + 1) (fun gk s8 wx => ∃ k, k < gk ∧ k ≤ n ∧ s8 = .slice (some ⟨g, N - n, none⟩) k (cap - (N - n)) ∧ Hid (Lib.trimRightB (Tp.take k) 48 = Lib.trimRightB Tp 48) ∧ Hid (Below wo.heap.size wo wx))
        case atStart => exact ⟨n, by omega, by omega, rfl, Lib.hid (by rw [← hTl.out, List.take_length]), Lib.hid (below_q (Below.refl _ _) _)⟩
        case round =>
          obtain ⟨k, hgk, hk, rfl, hT, hbx⟩ := hrel
          by_cases h0 : k = 0
          · subst h0
            have hT2 : Hid (Tp.take 0 = Lib.trimRightB Tp 48) := Lib.hid (by rw [← hT.out]; rfl)
            clear hT hat
            go_wp2_with fail
            go_meet
            exact ⟨0, rfl, by omega, hT2, hbx⟩
          · obtain ⟨j, rfl⟩ : ∃ j, k = j + 1 := ⟨k - 1, by omega⟩
            have u1 : decide ((0 : Int) < ((j + 1 : Nat) : Int)) = true := decide_eq_true (by omega)
            have hsn := takeU_last Tp j (by rw [hTl.out]; omega)
            have hcell := hat.out j (by omega) wr hbx.out
            have x1 : ((j + 1 : Nat) : Int) - 1 = (j : Int) := by omega
            by_cases hz : Tp.getD j 0 = 48
            · rw [hz] at hcell hsn
              have hcell2 : wr.cell? ⟨g, N - n + j, none⟩ = some (.int .u8 48) := hcell
              have hT2 : Hid (Lib.trimRightB (Tp.take j) 48 = Lib.trimRightB Tp 48) := Lib.hid (by rw [← hT.out, hsn, trimR_snoc])
              clear hT hsn hz hcell
              go_wp2_with fail
              go_roundg (gk - 1)
              case measure => omega
              case rel => exact ⟨j, by omega, by omega, rfl, hT2, hbx⟩
            · have hT2 : Hid (Tp.take (j + 1) = Lib.trimRightB Tp 48) := Lib.hid (by rw [← hT.out, hsn, trimR_keep _ _ hz])
              obtain ⟨x, hx⟩ : ∃ x, x = (Tp.getD j 0).toNat := ⟨_, rfl⟩
              have hx48 : x ≠ 48 := fun e => hz (eq48 (by rw [← hx]; exact e))
              rw [← hx] at hcell
              have u2 : ((x : Int) == 48) = false := beq_eq_false_iff_ne.2 (by omega)
              replace hx := Lib.hid hx
              clear hT hsn hz
              go_wp2_with fail
              go_meet
              exact ⟨j + 1, rfl, hk, hT2, hbx⟩
      case rest =>
        obtain ⟨k, rfl, hk, hT, hbx⟩ := hcut
        have hgw : g < wo.heap.size := by
          rcases I.out.2 with ⟨q1, _⟩ | ⟨g', cap', cur, q1, q2, q3, q4⟩
          · cases q1
          · cases q1; exact (Array.getElem?_eq_some_iff.1 q3).1
        have I2 : wc.ownsRow w.heap.size 5 1 (.slice (some ⟨g, 0, none⟩) N cap) N (Q.map enc8) := by
          rcases I.out.2 with ⟨q1, q2⟩ | ⟨g', cap', cur, q1, q2, q3, q4⟩
          · cases q1
          · refine ⟨I.out.1, .inr ⟨g', cap', cur, q1, q2, ?_, q4⟩⟩
            have e : g' = g := by cases q1; rfl
            rw [hbx.out.block g' (by rw [e]; exact hgw)]; exact q3
        have hRT2 := RowT.of_own I2
        have pw := hRT2.piece hNh.out 0 (N - n) (by rw [← hNh.out]; omega) 0 cap (.inl rfl)
        have pb := hRT2.piece hNh.out (N - n) k (by rw [← hNh.out]; omega) (N - n) (cap - (N - n)) (.inl rfl)
        have B2 : Hid (Below w.heap.size w wc) := Lib.hid (B.out.trans (hbx.out.mono B.out.size))
        rw [List.drop_zero] at pw
        rw [← hTp.out, hT.out] at pb
        obtain ⟨A, hA⟩ : ∃ A, A = Q.take (N - n) := ⟨_, rfl⟩
        obtain ⟨E, hE⟩ : ∃ E, E = Lib.trimRightB Tp 48 := ⟨_, rfl⟩
        rw [← hA] at pw
        rw [← hE] at pb
        have hEk : E.length = k := by rw [hE, ← hT.out, List.length_take, hTl.out]; omega
        have hAl : A.length ≤ 2000 := by rw [hA, List.length_take, ← hNh.out]; omega
        have hfin : Hid (exactL v = G ++ (A ++ (if E = [] then [] else 46 :: E))) := Lib.hid (by
          rw [← hexh.out, ← hQ.out, ← hG.out, ← hNh.out, ← hTp.out, ← hA, ← hE])
        have hAs := BS_size A
        have hEs := BS_size E
        have pw' : (convert 37 9 (.slice (some ⟨g, 0, none⟩) (N - n) cap)).run Tryz.prog wc = .ok (.string (BS A)) wc := pw
        have pb' : (convert 37 9 (.slice (some ⟨g, N - n, none⟩) k (cap - (N - n)))).run Tryz.prog wc = .ok (.string (BS E)) wc := pb
        have cat1 := BS_app G A
        obtain ⟨H1, hH1⟩ : ∃ H1, H1 = G ++ A := ⟨_, rfl⟩
        have hH1s := BS_size H1
        have hH1l : H1.length ≤ 2001 := by rw [hH1, List.length_append]; omega
        rw [← hH1] at cat1
        have hfin2 : Hid (exactL v = H1 ++ (if E = [] then [] else 46 :: E)) := Lib.hid (by rw [hfin.out, hH1, List.append_assoc])
        clear pw pb hRT2 I2 hA hE hT hat hTp hTl hfin hexh hbx hH1 hgw I B
        by_cases h0 : k = 0
        · subst h0
          have hE0 : E = [] := List.eq_nil_of_length_eq_zero hEk
          have hfin3 : Hid (exactL v = H1) := Lib.hid (by rw [hfin2.out, if_pos hE0, List.append_nil])
          clear hfin2 hE0 hEk hEs
          go_wp2_with fail
          go_ret
          exact ⟨Eq.trans (b := Ending.returned (.string (BS H1))) rfl (by rw [hfin3.out]), B2.out⟩
        · have u1 : ((k : Int) == 0) = false := beq_eq_false_iff_ne.2 (by omega)
          have hEn : E ≠ [] := fun e => by rw [e] at hEk; exact h0 hEk.symm
          obtain ⟨H2, hH2⟩ : ∃ H2, H2 = H1 ++ [46] := ⟨_, rfl⟩
          obtain ⟨H3, hH3⟩ : ∃ H3, H3 = H2 ++ E := ⟨_, rfl⟩
          have cat2 : BS H1 ++ (⟨#[46]⟩ : ByteArray) = BS H2 := by rw [hH2]; exact BS_app H1 [46]
          have cat3 : BS H2 ++ BS E = BS H3 := by rw [hH3]; exact BS_app _ _
          have hH2s := BS_size H2
          have hH2l : H2.length ≤ 2002 := by rw [hH2, List.length_append]; simp; omega
          have hfin3 : Hid (exactL v = H3) := Lib.hid (by rw [hfin2.out, if_neg hEn, hH3, hH2, List.append_assoc]; rfl)
          have hEl : E.length ≤ 2000 := by omega
          have hEkh := Lib.hid hEk
          clear hfin2 hEn hEk hH2 hH3
          go_wp2_with fail
          go_ret
          exact ⟨Eq.trans (b := Ending.returned (.string (BS H3))) rfl (by rw [hfin3.out]), B2.out⟩
end Go.Proofs.YtaidemghhagniaaGreatDoor
end
section
namespace Go.Proofs.YtaidemghhagniaaGreatDoor
open Go Go.RowKit Ieee
set_option maxRecDepth 100000 in
theorem rexact_odd (s : Bool) (r : Nat) (hr : r < 9223372036854775808) (k : kindN (sgw s + r) = 4 ∨ kindN (sgw s + r) = 3) (w : World) :
    Calls Tryz.prog 44 #[.int .u64 ((sgw s + r : Nat) : Int)] w fun e w' => e = .returned (.string (BS (exactL (sgw s + r)))) ∧ w = w' := by
  obtain ⟨s1, s2⟩ := sg_word s r hr
  have hs : (9223372036854775808 ≤ sgw s + r) = (s = true) := by
    cases s <;> simp only [sgw, Bool.false_eq_true, if_false, if_true, eq_iff_iff, iff_true, iff_false] <;> omega
  unfold exactL
  simp only [hs]
  obtain ⟨v, hv⟩ : ∃ v, v = sgw s + r := ⟨_, rfl⟩
  have hvb : v < 18446744073709551616 := by rw [hv]; cases s <;> simp only [sgw, Bool.false_eq_true, if_false, if_true] <;> omega
  rw [← hv] at s1 s2 k ⊢
  have ck := fun W => rkind_any v hvb W
  clear hs hv
  rcases k with k | k
  · rw [k] at ck
    rw [if_pos k]
    replace ck := Lib.hid ck
    clear k
    cases s
    · have q1 : (v : Int) / 9223372036854775808 = 0 := s1
      clear s1
      go_enter Tryz.func44, Tryz.ntmps44
      go_wp2_with fail
      refine (ck.out _).mono ?_; rintro e w1 ⟨rfl, rfl⟩
      go_wp2_with fail
      go_ret
      exact ⟨rfl, rfl⟩
    · have q1 : (v : Int) / 9223372036854775808 = 1 := s1
      clear s1
      go_enter Tryz.func44, Tryz.ntmps44
      go_wp2_with fail
      refine (ck.out _).mono ?_; rintro e w1 ⟨rfl, rfl⟩
      go_wp2_with fail
      go_ret
      exact ⟨rfl, rfl⟩
  · rw [k] at ck
    rw [if_neg (by omega), if_pos k]
    replace ck := Lib.hid ck
    clear k
    cases s
    · have q1 : (v : Int) / 9223372036854775808 = 0 := s1
      clear s1
      go_enter Tryz.func44, Tryz.ntmps44
      go_wp2_with fail
      refine (ck.out _).mono ?_; rintro e w1 ⟨rfl, rfl⟩
      go_wp2_with fail
      refine (ck.out _).mono ?_; rintro e w1 ⟨rfl, rfl⟩
      go_wp2_with fail
      go_ret
      exact ⟨rfl, rfl⟩
    · have q1 : (v : Int) / 9223372036854775808 = 1 := s1
      clear s1
      go_enter Tryz.func44, Tryz.ntmps44
      go_wp2_with fail
      refine (ck.out _).mono ?_; rintro e w1 ⟨rfl, rfl⟩
      go_wp2_with fail
      refine (ck.out _).mono ?_; rintro e w1 ⟨rfl, rfl⟩
      go_wp2_with fail
      go_ret
      exact ⟨rfl, rfl⟩
theorem kind_high (s : Bool) (r : Nat) (h1 : INF ≤ r) (hr : r < 9223372036854775808) : kindN (sgw s + r) = 4 ∨ kindN (sgw s + r) = 3 := by
  have hI : INF = 9218868437227405312 := rfl
  unfold kindN
  rw [if_pos (by cases s <;> simp only [sgw, Bool.false_eq_true, if_false, if_true] <;> omega)]
  split
  · exact .inr rfl
  · exact .inl rfl
theorem rexact_any (v : Nat) (hv : v < 18446744073709551616) (w : World) : Calls Tryz.prog 44 #[.int .u64 (v : Int)] w fun e w' => e = .returned (.string (BS (exactL v))) ∧ Below w.heap.size w w' := by
  obtain ⟨s, r, rfl, hr, _, _⟩ := word_split v hv
  by_cases h : r < INF
  · by_cases h2 : 1075 ≤ ex r
    · exact rexact_hi s r h (ex r - 1075) (by omega) w
    · exact rexact_lo s r h (1075 - ex r) (by omega) (by omega) w
  · refine (rexact_odd s r hr (kind_high s r (by omega) hr) w).mono ?_
    rintro e w1 ⟨rfl, rfl⟩
    exact ⟨rfl, Below.refl _ _⟩
theorem rbefore_any (a b : Nat) (ha : a < 18446744073709551616) (hb : b < 18446744073709551616) (w : World) : Calls Tryz.prog 40 #[.int .u64 a, .int .u64 b] w fun e w' => e = .returned (.tuple #[.int .i64 (cmpN a b).1, .int .i64 (cmpN a b).2]) ∧ w = w' := by
  have ka := rkind_any a ha w
  have kb := rkind_any b hb w
  have oa := Lib.hid (rorder_any a ha w)
  have ob := Lib.hid (rorder_any b hb w)
  by_cases na : nanN a = true
  · rw [show cmpN a b = (0, 2) by unfold cmpN; rw [na]; rfl]
    rw [(kind4 a ha).2 na] at ka
    replace ka := Lib.hid ka
    clear na kb oa ob
    go_enter Tryz.func40, Tryz.ntmps40
    go_wp2_with fail
    refine ka.out.mono ?_; rintro e w1 ⟨rfl, rfl⟩
    go_wp2_with fail
    go_ret2
    exact ⟨rfl, rfl⟩
  · have na' : nanN a = false := by simpa using na
    have u1 : ((kindN a : Int) == 4) = false := by
      have := fun h => na ((kind4 a ha).1 h)
      simp; exact_mod_cast this
    obtain ⟨k, hk⟩ : ∃ k, k = kindN a := ⟨_, rfl⟩
    rw [← hk] at ka u1
    replace ka := Lib.hid ka
    clear hk
    by_cases nb : nanN b = true
    · rw [show cmpN a b = (0, 2) by unfold cmpN; rw [nb, Bool.or_true]; rfl]
      rw [(kind4 b hb).2 nb] at kb
      replace kb := Lib.hid kb
      clear na nb na' oa ob
      go_enter Tryz.func40, Tryz.ntmps40
      go_wp2_with fail
      refine ka.out.mono ?_; rintro e w1 ⟨rfl, rfl⟩
      go_wp2_with fail
      refine kb.out.mono ?_; rintro e w1 ⟨rfl, rfl⟩
      go_wp2_with fail
      go_ret2
      exact ⟨rfl, rfl⟩
    · have nb' : nanN b = false := by simpa using nb
      have u2 : ((kindN b : Int) == 4) = false := by
        have := fun h => nb ((kind4 b hb).1 h)
        simp; exact_mod_cast this
      obtain ⟨k2, hk⟩ : ∃ k2, k2 = kindN b := ⟨_, rfl⟩
      rw [← hk] at kb u2
      replace kb := Lib.hid kb
      rw [cmp_num a b na' nb']
      clear hk na nb na' nb'
      obtain ⟨A, hA⟩ : ∃ A, A = ordN a := ⟨_, rfl⟩
      obtain ⟨B, hB⟩ : ∃ B, B = ordN b := ⟨_, rfl⟩
      rw [← hA] at oa ⊢
      rw [← hB] at ob ⊢
      clear hA hB
      dsimp only
      by_cases g1 : A < B
      · rw [if_pos g1]
        have t1 : decide (A < B) = true := decide_eq_true g1
        go_enter Tryz.func40, Tryz.ntmps40
        go_wp2_with fail
        refine ka.out.mono ?_; rintro e w1 ⟨rfl, rfl⟩
        go_wp2_with fail
        refine kb.out.mono ?_; rintro e w1 ⟨rfl, rfl⟩
        go_wp2_with fail
        refine oa.out.mono ?_; rintro e w1 ⟨rfl, rfl⟩
        go_wp2_with fail
        refine ob.out.mono ?_; rintro e w1 ⟨rfl, rfl⟩
        go_wp2_with fail
        go_ret2
        exact ⟨rfl, rfl⟩
      · rw [if_neg g1]
        have t1 : decide (A < B) = false := decide_eq_false g1
        by_cases g2 : B < A
        · rw [if_pos g2]
          have t2 : decide (B < A) = true := decide_eq_true g2
          go_enter Tryz.func40, Tryz.ntmps40
          go_wp2_with fail
          refine ka.out.mono ?_; rintro e w1 ⟨rfl, rfl⟩
          go_wp2_with fail
          refine kb.out.mono ?_; rintro e w1 ⟨rfl, rfl⟩
          go_wp2_with fail
          refine oa.out.mono ?_; rintro e w1 ⟨rfl, rfl⟩
          go_wp2_with fail
          refine ob.out.mono ?_; rintro e w1 ⟨rfl, rfl⟩
          go_wp2_with fail
          refine oa.out.mono ?_; rintro e w1 ⟨rfl, rfl⟩
          go_wp2_with fail
          refine ob.out.mono ?_; rintro e w1 ⟨rfl, rfl⟩
          go_wp2_with fail
          go_ret2
          exact ⟨rfl, rfl⟩
        · rw [if_neg g2]
          have t2 : decide (B < A) = false := decide_eq_false g2
          go_enter Tryz.func40, Tryz.ntmps40
          go_wp2_with fail
          refine ka.out.mono ?_; rintro e w1 ⟨rfl, rfl⟩
          go_wp2_with fail
          refine kb.out.mono ?_; rintro e w1 ⟨rfl, rfl⟩
          go_wp2_with fail
          refine oa.out.mono ?_; rintro e w1 ⟨rfl, rfl⟩
          go_wp2_with fail
          refine ob.out.mono ?_; rintro e w1 ⟨rfl, rfl⟩
          go_wp2_with fail
          refine oa.out.mono ?_; rintro e w1 ⟨rfl, rfl⟩
          go_wp2_with fail
          refine ob.out.mono ?_; rintro e w1 ⟨rfl, rfl⟩
          go_wp2_with fail
          go_ret2
          exact ⟨rfl, rfl⟩
theorem rnext_any (v : Nat) (hv : v < 18446744073709551616) (w : World) : Calls Tryz.prog 41 #[.int .u64 v] w fun e w' => e = .returned (.tuple #[.int .u64 ((nextN v).1 : Int), .int .i64 (nextN v).2]) ∧ w = w' := by
  have ka := rkind_any v hv w
  have oa := rorder_any v hv w
  have hI : INF = 9218868437227405312 := rfl
  unfold nextN
  by_cases g1 : kindN v = 4
  · rw [if_pos g1]
    rw [g1] at ka
    replace ka := Lib.hid ka
    clear g1 oa
    go_enter Tryz.func41, Tryz.ntmps41
    go_wp2_with fail
    refine ka.out.mono ?_; rintro e w1 ⟨rfl, rfl⟩
    go_wp2_with fail
    go_ret2
    exact ⟨rfl, rfl⟩
  · rw [if_neg g1]
    have u1 : ((kindN v : Int) == 4) = false := by simp; exact_mod_cast g1
    have hnv : v % 9223372036854775808 ≤ 9218868437227405312 := by
      have : ¬ nanN v = true := fun h => g1 ((kind4 v hv).2 h)
      have h2 : nanN v = false := by simpa using this
      rw [nan_f, INF_is] at h2; exact h2
    obtain ⟨k, hk⟩ : ∃ k, k = kindN v := ⟨_, rfl⟩
    rw [← hk] at ka u1
    replace ka := Lib.hid ka
    clear g1 hk
    by_cases g2 : v = INF
    · rw [if_pos g2]
      have u2 : ((v : Int) == 9218868437227405312) = true := by rw [g2]; rfl
      clear g2 oa hnv
      go_enter Tryz.func41, Tryz.ntmps41
      go_wp2_with fail
      refine ka.out.mono ?_; rintro e w1 ⟨rfl, rfl⟩
      go_wp2_with fail
      go_ret2
      exact ⟨rfl, rfl⟩
    · rw [if_neg g2]
      have u2 : ((v : Int) == 9218868437227405312) = false := by
        simp only [beq_eq_false_iff_ne, ne_eq]
        exact fun e => g2 (by show v = 9218868437227405312; omega)
      clear g2
      by_cases g3 : v < 9223372036854775808
      · rw [ord_lo v g3] at oa
        rw [if_neg (by omega), if_neg (by omega), if_neg (by omega)]
        obtain ⟨n, hn⟩ : ∃ n : Nat, Hid (n = v + 1) := ⟨_, Lib.hid rfl⟩
        have e1 : (v : Int) + 1 = (n : Int) := by rw [hn.out]; rfl
        have hb : n ≤ 9223372036854775807 := by have := hn.out; omega
        rw [← hn.out]
        replace oa := Lib.hid oa
        have t1 : decide ((n : Int) < 0) = false := decide_eq_false (by omega)
        have t2 : wrap64 ((v : Int) + 1) = (n : Int) := by unfold wrap64; omega
        clear hnv
        go_enter Tryz.func41, Tryz.ntmps41
        go_wp2_with fail
        refine ka.out.mono ?_; rintro e w1 ⟨rfl, rfl⟩
        go_wp2_with fail
        refine oa.out.mono ?_; rintro e w1 ⟨rfl, rfl⟩
        go_wp2_with fail
        go_ret2
        exact ⟨by first | rfl | go_num, rfl⟩
      · rw [ord_hi v (by omega)] at oa
        by_cases h1 : v = 9223372036854775808
        · rw [if_pos h1]
          rw [show (9223372036854775808 : Int) - (v : Int) = 0 by omega] at oa
          replace oa := Lib.hid oa
          clear hnv g3 h1
          go_enter Tryz.func41, Tryz.ntmps41
          go_wp2_with fail
          refine ka.out.mono ?_; rintro e w1 ⟨rfl, rfl⟩
          go_wp2_with fail
          refine oa.out.mono ?_; rintro e w1 ⟨rfl, rfl⟩
          go_wp2_with fail
          go_ret2
          exact ⟨rfl, rfl⟩
        · rw [if_neg h1]
          by_cases h2 : v = 9223372036854775809
          · rw [if_pos h2]
            rw [show (9223372036854775808 : Int) - (v : Int) = -1 by omega] at oa
            replace oa := Lib.hid oa
            clear hnv g3 h1 h2
            go_enter Tryz.func41, Tryz.ntmps41
            go_wp2_with fail
            refine ka.out.mono ?_; rintro e w1 ⟨rfl, rfl⟩
            go_wp2_with fail
            refine oa.out.mono ?_; rintro e w1 ⟨rfl, rfl⟩
            go_wp2_with fail
            go_ret2
            exact ⟨rfl, rfl⟩
          · rw [if_neg h2, if_pos (by omega)]
            obtain ⟨m, hm⟩ : ∃ m : Nat, Hid (v = 9223372036854775809 + m ∧ 1 ≤ m) := ⟨v - 9223372036854775809, Lib.hid ⟨by omega, by omega⟩⟩
            obtain ⟨x, hx⟩ : ∃ x : Int, Hid (x = 9223372036854775808 - (v : Int)) := ⟨_, Lib.hid rfl⟩
            rw [← hx.out] at oa
            replace oa := Lib.hid oa
            have hmb : 1 ≤ m ∧ m < 9223372036854775807 := by have := hm.out; omega
            have hx2 : x = -1 - (m : Int) := by have := hm.out; have := hx.out; omega
            have hres : ((v - 1 : Nat) : Int) = 9223372036854775808 + (m : Int) := by have := hm.out; omega
            have hres2 := Lib.hid hres
            have e1 : x + 1 = -(m : Int) := by omega
            have t1 : decide (-(m : Int) < 0) = true := decide_eq_true (by omega)
            have e2 : - -(m : Int) = (m : Int) := by omega
            have hxb : -9223372036854775808 ≤ x ∧ x < 0 := by omega
            obtain ⟨hxb1, hxb2⟩ := hxb
            obtain ⟨hmb1, hmb2⟩ := hmb
            clear hnv g3 h1 h2 hres hx2
            go_enter Tryz.func41, Tryz.ntmps41
            go_wp2_with fail
            refine ka.out.mono ?_; rintro e w1 ⟨rfl, rfl⟩
            go_wp2_with fail
            refine oa.out.mono ?_; rintro e w1 ⟨rfl, rfl⟩
            go_wp2_with fail
            go_ret2
            refine ⟨?_, rfl⟩
            rw [hres2.out]
            first | rfl | (rw [Int.add_comm]; rfl) | go_num
end Go.Proofs.YtaidemghhagniaaGreatDoor
end
section
namespace Go.Proofs.YtaidemghhagniaaGreatDoor
open Go Go.RowKit Ieee
theorem rep_gen (f x K : Nat) (h : K ≤ x) : f * 2 ^ x = f * 2 ^ (x - K) * 2 ^ K := by
  rw [Nat.mul_assoc, ← Nat.pow_add, Nat.sub_add_cancel h]
theorem whole_rep (f x : Nat) (h : 1074 ≤ x) : f * 2 ^ x = f * 2 ^ (x - 1074) * UU := by unfold UU; exact rep_gen f x 1074 h
theorem whole_atU (s : Bool) (a : Nat) (ha : a < 9223372036854775808) : wholeN (sgw s + a) = if a ≤ W53 ∧ V a % UU = 0 then (if s then -((V a / UU : Nat) : Int) else ((V a / UU : Nat) : Int), true) else (0, false) := by unfold UU; exact whole_at s a ha
theorem V_53U : V W53 = 9007199254740992 * UU := by unfold UU; exact V_53
theorem T2_pos (n : Nat) : 0 < T2 n := by unfold T2; exact Nat.two_pow_pos _
theorem UU_pos : 0 < UU := by rw [UU_T2]; exact T2_pos _
theorem whole_high (s : Bool) (a f x : Nat) (ha : a < 9223372036854775808) (hV : V a = f * 2 ^ x) (h1 : 1074 ≤ x) (h2 : f * 2 ^ (x - 1074) ≤ 9007199254740992) :
    wholeN (sgw s + a) = (if s then -((f * 2 ^ (x - 1074) : Nat) : Int) else ((f * 2 ^ (x - 1074) : Nat) : Int), true) := by
  rw [whole_atU s a ha]
  have h3 := V_53U
  have hU0 := UU_pos
  rw [whole_rep f x h1] at hV
  have hle : a ≤ W53 := by
    rcases Nat.lt_or_ge W53 a with g | g
    · have := V_lt g
      rw [hV, h3] at this
      have := Nat.lt_of_mul_lt_mul_right this
      omega
    · exact g
  rw [hV, Nat.mul_mod_left, Nat.mul_div_cancel _ hU0, if_pos ⟨hle, rfl⟩]
theorem whole_big (s : Bool) (a f x : Nat) (ha : a < 9223372036854775808) (hV : V a = f * 2 ^ x) (h1 : 1074 ≤ x) (h2 : 9007199254740992 < f * 2 ^ (x - 1074)) :
    wholeN (sgw s + a) = (0, false) := by
  rw [whole_atU s a ha]
  have h3 := V_53U
  have hU0 := UU_pos
  rw [whole_rep f x h1] at hV
  refine if_neg ?_
  rintro ⟨g, _⟩
  have := V_mono g
  rw [hV, h3] at this
  have := Nat.le_of_mul_le_mul_right this hU0
  omega
theorem odd_pow (f x K : Nat) (hf : f % 2 = 1) (hx : x < K) : f * 2 ^ x % 2 ^ K ≠ 0 := by
  intro h
  have h1 : 2 ^ K = 2 ^ x * 2 ^ (K - x) := by rw [← Nat.pow_add]; congr 1; omega
  rw [h1, Nat.mul_comm f, Nat.mul_mod_mul_left] at h
  have h2 : f % 2 ^ (K - x) = 0 := by
    rcases Nat.mul_eq_zero.1 h with g | g
    · have := Nat.two_pow_pos x; omega
    · exact g
  have h3 : 2 ∣ 2 ^ (K - x) := ⟨2 ^ (K - x - 1), by rw [← Nat.pow_succ']; congr 1; omega⟩
  have := Nat.dvd_trans h3 (Nat.dvd_of_mod_eq_zero h2)
  omega
theorem low_gen (f x K : Nat) (h1 : x < K) (h2 : f % 2 = 1) (h : f * 2 ^ x % 2 ^ K = 0) : False := odd_pow f x K h2 h1 h
theorem low_U (f x : Nat) (h1 : x < 1074) (h2 : f % 2 = 1) (h : f * 2 ^ x % UU = 0) : False := by unfold UU at h; exact low_gen f x 1074 h1 h2 h
theorem whole_low (s : Bool) (a f x : Nat) (ha : a < 9223372036854775808) (hV : V a = f * 2 ^ x) (h1 : x < 1074) (h2 : f % 2 = 1) :
    wholeN (sgw s + a) = (0, false) := by
  rw [whole_atU s a ha]
  refine if_neg ?_
  rintro ⟨_, g⟩
  rw [hV] at g
  exact low_U f x h1 h2 g
theorem whole_zero (s : Bool) (a f x : Nat) (ha : a < 9223372036854775808) (hV : V a = f * 2 ^ x) (h1 : f = 0) :
    wholeN (sgw s + a) = (0, true) := by
  rw [whole_atU s a ha]
  have h0 : a = 0 := V_inj (by rw [hV, h1, Nat.zero_mul, V_zero])
  subst h0
  rw [V_zero, Nat.zero_mod, Nat.zero_div, if_pos ⟨by decide, rfl⟩]
  cases s <;> rfl
theorem whole_odd (s : Bool) (a : Nat) (ha : a < 9223372036854775808) (h : INF ≤ a) : wholeN (sgw s + a) = (0, false) := by
  rw [whole_at s a ha]
  have hI : (INF : Nat) = 9218868437227405312 := rfl
  have hW : (W53 : Nat) = 4845873199050653696 := rfl
  exact if_neg (fun g => by omega)
theorem quo_lt (f k : Nat) (hk : k ≤ 53) : (9007199254740992 / 2 ^ k < f) ↔ 9007199254740992 < f * 2 ^ k := by
  have hd : 9007199254740992 = 2 ^ (53 - k) * 2 ^ k := by rw [← Nat.pow_add, show 53 - k + k = 53 by omega]
  rw [hd, Nat.mul_div_cancel _ (Nat.two_pow_pos k)]
  exact ⟨fun h => Nat.mul_lt_mul_of_pos_right h (Nat.two_pow_pos k), fun h => Nat.lt_of_mul_lt_mul_right h⟩
set_option maxRecDepth 100000 in
set_option maxHeartbeats 4000000 in
theorem rwhole_any (v : Nat) (hv : v < 18446744073709551616) (w : World) : Calls Tryz.prog 42 #[.int .u64 v] w fun e w' => e = .returned (.tuple #[.int .i64 (wholeN v).1, .bool (wholeN v).2]) ∧ w = w' := by
  obtain ⟨s, a, hva, ha, _, _⟩ := word_split v hv
  have ka := rkind_any v hv w
  by_cases hI : INF ≤ a
  · rw [show wholeN v = (0, false) by rw [hva]; exact whole_odd s a ha hI]
    have hk := kind_high s a hI ha
    rw [← hva] at hk
    have t1 : decide ((3 : Int) ≤ (kindN v : Int)) = true := decide_eq_true (by omega)
    obtain ⟨k, hk2⟩ : ∃ k, k = kindN v := ⟨_, rfl⟩
    rw [← hk2] at ka t1
    replace ka := Lib.hid ka
    clear hk hk2 hva
    go_enter Tryz.func42, Tryz.ntmps42
    go_wp2_with fail
    refine ka.out.mono ?_; rintro e w1 ⟨rfl, rfl⟩
    go_wp2_with fail
    go_ret2
    exact ⟨rfl, rfl⟩
  · have haI : a < INF := by omega
    have hk := kind_low s a haI
    rw [← hva] at hk
    have t1 : decide ((3 : Int) ≤ (kindN v : Int)) = false := by
      refine decide_eq_false ?_
      have : kindN v ≤ 4 := by unfold kindN; (repeat' split) <;> omega
      omega
    obtain ⟨k, hk2⟩ : ∃ k, k = kindN v := ⟨_, rfl⟩
    rw [← hk2] at ka t1
    replace ka := Lib.hid ka
    have cp := rparts_any a ha w
    obtain ⟨wa, wb, hwv⟩ : ∃ wa wb, wholeN v = (wa, wb) := ⟨_, _, rfl⟩
    rw [hwv]
    dsimp only
    obtain ⟨s1, s2⟩ := sg_word s a ha
    rw [← hva] at s1 s2
    have hex : 1 ≤ ex a ∧ ex a ≤ 2046 := by unfold ex; have : (INF : Nat) = 9218868437227405312 := rfl; split <;> omega
    have hf := fr_lt a
    obtain ⟨f0, hf0⟩ : ∃ f0, f0 = fr a := ⟨_, rfl⟩
    obtain ⟨x0, hx0⟩ : ∃ x0, x0 = ex a - 1 := ⟨_, rfl⟩
    have hV : Hid (V a = f0 * 2 ^ x0) := Lib.hid (by rw [hf0, hx0]; rfl)
    rw [← hf0, show (ex a : Int) - 1075 = (x0 : Int) - 1074 by omega] at cp
    rw [← hf0] at hf
    have hx0b : x0 ≤ 2045 := by omega
    replace cp := Lib.hid cp
    rw [hva] at hwv
    replace hwv := Lib.hid hwv
    clear hva
    replace s1 := Lib.hid s1
    clear hI hk hk2 hf0 hx0 hex
    go_enter Tryz.func42, Tryz.ntmps42
    go_wp2_with fail
    refine ka.out.mono ?_; rintro e w1 ⟨rfl, rfl⟩
    go_wp2_with fail
    refine cp.out.mono ?_; rintro e w1 ⟨rfl, rfl⟩
    clear cp ka t1 s2
    go_upto_block 0 with (fail)
    go_cut [4, 5] (fun s4 s5 wx => ∃ f x : Nat, s4 = .int .u64 (f : Int) ∧ s5 = .int .i64 ((x : Int) - 1074) ∧ f < 9007199254740992 ∧ x ≤ 2045 ∧ Hid (V a = f * 2 ^ x) ∧ Hid (1074 ≤ x ∨ f % 2 = 1 ∨ f = 0) ∧ w = wx)
    case first =>
      go_wp2_with fail
      go_loopg [4, 5] (1100) (fun gk s4 s5 wx => ∃ f x : Nat, s4 = .int .u64 (f : Int) ∧ s5 = .int .i64 ((x : Int) - 1074) ∧ f < 9007199254740992 ∧ x ≤ 2045 ∧ Hid (V a = f * 2 ^ x) ∧ 1074 - x < gk ∧ w = wx)
      case atStart => exact ⟨f0, x0, rfl, rfl, by omega, hx0b, hV, by omega, rfl⟩
      case round =>
        obtain ⟨f, x, rfl, rfl, hf2, hx2, hV2, hgk, rfl⟩ := hrel
        have e2 : (f : Int) % 2 = ((f % 2 : Nat) : Int) := by omega
        by_cases g1 : x < 1074
        · have t1 : decide ((x : Int) - 1074 < 0) = true := decide_eq_true (by omega)
          by_cases g2 : f % 2 = 1
          · have e3 : ((f : Int) % 2 == 0) = false := by rw [e2, g2]; rfl
            have hst : Hid (1074 ≤ x ∨ f % 2 = 1 ∨ f = 0) := Lib.hid (.inr (.inl g2))
            clear e2 g2 g1 hgk
            go_wp2_with fail
            go_meet
            exact ⟨f, x, rfl, rfl, hf2, hx2, hV2, hst, rfl⟩
          · have e3 : ((f : Int) % 2 == 0) = true := by rw [e2, show f % 2 = 0 by omega]; rfl
            by_cases g3 : f = 0
            · subst g3
              clear e2 e3 g2 g1 hgk
              go_wp2_with fail
              go_meet
              exact ⟨0, x, rfl, rfl, hf2, hx2, hV2, Lib.hid (.inr (.inr rfl)), rfl⟩
            · have e4 : decide ((0 : Int) < (f : Int)) = true := decide_eq_true (by omega)
              have e4' : 0 < f := by omega
              have e5 : (f : Int) / 2 = ((f / 2 : Nat) : Int) := by omega
              obtain ⟨h, hh⟩ : ∃ h, Hid (h = f / 2 ∧ f = 2 * h) := ⟨f / 2, Lib.hid ⟨rfl, by omega⟩⟩
              have hV3 : Hid (V a = h * 2 ^ (x + 1)) := Lib.hid (by rw [hV2.out, Nat.pow_succ, show f = 2 * h from hh.out.2]; ac_rfl)
              have e6 : (x : Int) - 1074 + 1 = (((x + 1 : Nat) : Int) - 1074) := by omega
              have hh2 : h < 9007199254740992 := by have := hh.out.2; omega
              have hgk2 : 1074 - (x + 1) < gk - 1 ∧ gk - 1 < gk := by omega
              rw [← hh.out.1] at e5
              replace hgk2 := Lib.hid hgk2
              clear e2 g2 g3 hgk hV2 hh
              go_wp2_with fail
              go_roundg (gk - 1)
              case measure => exact hgk2.out.2
              case rel => exact ⟨h, x + 1, by first | rfl | rw [e5], by first | rfl | rw [e6], hh2, by omega, hV3, hgk2.out.1, rfl⟩
        · have t1 : decide ((x : Int) - 1074 < 0) = false := decide_eq_false (by omega)
          have hst : Hid (1074 ≤ x ∨ f % 2 = 1 ∨ f = 0) := Lib.hid (.inl (by omega))
          clear e2 g1 hgk
          go_wp2_with fail
          go_meet
          exact ⟨f, x, rfl, rfl, hf2, hx2, hV2, hst, rfl⟩
    case rest =>
      obtain ⟨f, x, rfl, rfl, hf2, hx2, hV2, hst, rfl⟩ := hcut
      by_cases g0 : f = 0
      · obtain ⟨rfl, rfl⟩ := (Prod.mk.injEq ..).mp ((whole_zero s a f x ha hV2.out g0).symm.trans hwv.out)
        have t1 : ((f : Int) == 0) = true := by rw [g0]; rfl
        subst g0
        clear t1 hst
        go_wp2_with fail
        go_ret2
        exact ⟨rfl, rfl⟩
      · have t1 : ((f : Int) == 0) = false := by simp; omega
        by_cases g1 : x < 1074
        · obtain ⟨rfl, rfl⟩ := (Prod.mk.injEq ..).mp ((whole_low s a f x ha hV2.out g1 (by have := hst.out; omega)).symm.trans hwv.out)
          have t2 : decide ((x : Int) - 1074 < 0) = true := decide_eq_true (by omega)
          clear hst g0 g1
          go_wp2_with fail
          go_ret2
          exact ⟨rfl, rfl⟩
        · have t2 : decide ((x : Int) - 1074 < 0) = false := decide_eq_false (by omega)
          obtain ⟨k, hk⟩ : ∃ k, Hid (x = 1074 + k) := ⟨x - 1074, Lib.hid (by omega)⟩
          by_cases g2 : 53 < k
          · have hb : 9007199254740992 < f * 2 ^ (x - 1074) := by
              have h1 : 1 * 2 ^ 54 ≤ f * 2 ^ (x - 1074) := Nat.mul_le_mul (by omega) (Nat.pow_le_pow_right (by omega) (by have := hk.out; omega))
              omega
            obtain ⟨rfl, rfl⟩ := (Prod.mk.injEq ..).mp ((whole_big s a f x ha hV2.out (by omega) hb).symm.trans hwv.out)
            have t3 : decide ((53 : Int) < (x : Int) - 1074) = true := decide_eq_true (by have := hk.out; omega)
            clear hst g0 g1 g2 hb
            go_wp2_with fail
            go_ret2
            exact ⟨rfl, rfl⟩
          · have t3 : decide ((53 : Int) < (x : Int) - 1074) = false := decide_eq_false (by have := hk.out; omega)
            have hkx : x - 1074 = k := by have := hk.out; omega
            have hkx3 : (x : Int) - 1074 = (k : Int) := by have := hk.out; omega
            have hq := quo_lt f k (by omega)
            have hd : (9007199254740992 : Int) / 2 ^ k = ((9007199254740992 / 2 ^ k : Nat) : Int) := by simp
            have hkb : k ≤ 53 := by omega
            rw [hkx3] at t2 t3
            by_cases g3 : 9007199254740992 < f * 2 ^ k
            · obtain ⟨rfl, rfl⟩ := (Prod.mk.injEq ..).mp ((whole_big s a f x ha hV2.out (by omega) (by rw [hkx]; exact g3)).symm.trans hwv.out)
              have q0 : (9007199254740992 : Int) / 2 ^ k < (f : Int) := by rw [hd]; exact_mod_cast hq.2 g3
              have q1 : decide ((9007199254740992 : Int) / 2 ^ k < (f : Int)) = true := decide_eq_true q0
              have q2 : ¬ (f : Int) ≤ (9007199254740992 : Int) / 2 ^ k := by omega
              clear hst g0 g1 hq hd g2 g3 q0
              go_wp2_with fail
              go_ret2
              exact ⟨rfl, rfl⟩
            · have hwv2 := (whole_high s a f x ha hV2.out (by omega) (by rw [hkx]; omega)).symm.trans hwv.out
              rw [hkx] at hwv2
              obtain ⟨hw1, rfl⟩ := (Prod.mk.injEq ..).mp hwv2
              have q0 : (f : Int) ≤ (9007199254740992 : Int) / 2 ^ k := by
                have : ¬ 9007199254740992 / 2 ^ k < f := fun h => g3 (hq.1 h)
                rw [hd]; exact_mod_cast (by omega : f ≤ 9007199254740992 / 2 ^ k)
              have q1 : decide ((9007199254740992 : Int) / 2 ^ k < (f : Int)) = false := decide_eq_false (by omega)
              obtain ⟨m, hm⟩ : ∃ m, m = f * 2 ^ k := ⟨_, rfl⟩
              have hm2 : (f : Int) * 2 ^ k = (m : Int) := by rw [hm]; push_cast; rfl
              have hmb : m ≤ 9007199254740992 := by omega
              rw [← hm] at hw1
              clear hst g0 g1 hq hd g2 g3 hm hwv2 hwv
              have hs1 := s1.out
              cases s
              · have t5 : (v : Int) / 9223372036854775808 = 0 := hs1
                have hw2 : wa = (m : Int) := hw1.symm
                subst hw2
                clear hs1 hw1
                go_wp2_with fail
                go_ret2
                exact ⟨rfl, rfl⟩
              · have t5 : (v : Int) / 9223372036854775808 = 1 := hs1
                have hw2 : wa = -(m : Int) := hw1.symm
                subst hw2
                clear hs1 hw1
                go_wp2_with fail
                go_ret2
                exact ⟨rfl, rfl⟩
end Go.Proofs.YtaidemghhagniaaGreatDoor
end
