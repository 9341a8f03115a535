/- Parts of the proof: E0 E1 E2 E3. -/
import Derived.Test.YtdeimnnpcfncpaaGreatDoorC10
import Derived.Test.YtdeimnnpcfncpaaGreatDoorC20
import Derived.Test.YtdeimnnpcfncpaaGreatDoorC36
import Derived.Test.YtdeimnnpcfncpaaGreatDoorC28
import Derived.Test.YtdeimnnpcfncpaaGreatDoorC32
import Derived.Test.YtdeimnnpcfncpaaGreatDoorC34
import Derived.Test.YtdeimnnpcfncpaaGreatDoorC33
section
namespace Go.Proofs.YtdeimnnpcfncpaaGreatDoor.X
open Go Go.RowKit
set_option linter.unusedVariables false
set_option linter.unusedSimpArgs false
theorem parF_fast (X : List UInt8) (hl : X.length ≤ 1200) (h1 : isNam X = false) (h2 : rightL X = true) (hF : FastL X) : parF X = some (valL X) := by
  have hz := BS_size X
  have hd : (BS X).data.toList = X := by simp [BS]
  obtain ⟨a, e, H, S, T, hm, hl2⟩ := right_scan2 (BS X) (by omega) (by rw [hd]; exact h2)
  have mo := mv_of H
  have hmv : mv (BS X) a e = numL X := by unfold mv numL; rw [hl2, hd]
  have hx : xpt (mat (BS X) a e) (expL (tlL X)) = powL X := by unfold powL; rw [hm, hd]
  rw [hd] at hm
  have hbd := mat_bd2 H e (Nat.le_of_lt H.lt) (Nat.le_refl _)
  have hn : NearX (numL X) (powL X) (v64 (mrun (manP X)).mant (rfExp (mrun (manP X)) (expL (tlL X)))) := by
    rw [← hmv, ← hx, ← hm]
    cases ht : (mat (BS X) a e).trunc with
    | false => exact nx_short mo hbd.2.1 _ ht
    | true =>
      refine nx_fast mo hbd.2.1 _ ht ?_
      rw [hm]
      rw [hm] at ht
      exact hF ht
  unfold parF
  rw [if_neg (by omega), if_neg (by rw [h1]; decide), if_pos h2, nearV_is hn]
  rfl
theorem parF_exact (a : Nat) (ha : a < 18446744073709551616) (hn : nanN a = false ∨ a = 9221120237041090561) : parF (exactL a) = some a := by
  rcases hn with hn | rfl
  · obtain ⟨s, r, rfl, hr⟩ := split_word a ha hn
    rcases Nat.lt_or_ge r INF with hr' | hr'
    · obtain ⟨W, T, hX, hW, hT, hW0, hl, hA, hTl, k1, k2, k3, k4, k5, k6, k7⟩ := exact_back s r hr'
      rw [parF_fast _ hl k2 k1 k4, k3]
    · obtain rfl := Nat.le_antisymm hr hr'
      cases s
      · rw [exact_pinf]; unfold parF; rw [if_neg (by decide), if_pos (by decide)]; decide +kernel
      · rw [exact_ninf]; unfold parF; rw [if_neg (by decide), if_pos (by decide)]; decide +kernel
  · rw [show exactL 9221120237041090561 = [78, 97, 78] by decide +kernel]
    unfold parF; rw [if_neg (by decide), if_pos (by decide)]; decide +kernel
theorem take_drop_digN (t : List UInt8) : t = t.take (digN t) ++ t.drop (digN t) := (List.take_append_drop _ _).symm
theorem manL_parts (m : List UInt8) : ∃ D, m = D ++ (manL m).2 ∧ (∀ c ∈ D, okB c = true) ∧ D.count 46 ≤ 1 := by
  have hd := digN_all m
  have hl := take_drop_digN m
  unfold manL
  dsimp only
  split
  · rename_i hr
    refine ⟨m.take (digN m), ?_, fun c hc => okB_dig (hd c hc), by rw [digs_no46 _ hd]; decide⟩
    rw [hr] at hl; exact hl
  · rename_i c t hr
    split
    · rename_i hc
      subst hc
      have ht := digN_all t
      refine ⟨m.take (digN m) ++ 46 :: t.take (digN t), ?_, ?_, ?_⟩
      · rw [hr] at hl
        conv => lhs; rw [hl, take_drop_digN t]
        simp
      · intro c hc
        rw [List.mem_append, List.mem_cons] at hc
        rcases hc with hc | rfl | hc
        · exact okB_dig (hd c hc)
        · rfl
        · exact okB_dig (ht c hc)
      · rw [List.count_append, List.count_cons, digs_no46 _ hd, digs_no46 _ ht]; decide
    · refine ⟨m.take (digN m), ?_, fun c hc => okB_dig (hd c hc), by rw [digs_no46 _ hd]; decide⟩
      rw [hr] at hl; exact hl
theorem sgd_parts (l : List UInt8) : ∃ D, l = D ++ sgd l ∧ (∀ c ∈ D, okB c = true) ∧ D.count 46 = 0 := by
  cases l with
  | nil => exact ⟨[], rfl, (fun c h => by cases h), rfl⟩
  | cons c t =>
    by_cases g : c = 43 ∨ c = 45
    · refine ⟨[c], by rw [sgd, if_pos g]; rfl, fun x hx => ?_, ?_⟩
      · rcases g with rfl | rfl <;> (simp at hx; subst hx; rfl)
      · rcases g with rfl | rfl <;> rfl
    · exact ⟨[], by rw [sgd, if_neg g]; rfl, (fun c h => by cases h), rfl⟩
theorem tail_parts (t : List UInt8) (h : tailL t = true) : (∀ c ∈ t, okB c = true) ∧ t.count 46 = 0 := by
  cases t with
  | nil => exact ⟨(fun c h => by cases h), rfl⟩
  | cons c t =>
    unfold tailL at h
    simp only [Bool.and_eq_true, Bool.or_eq_true, beq_iff_eq, decide_eq_true_eq] at h
    obtain ⟨h1, _, h3⟩ := h
    have hd := digN_full _ h3
    obtain ⟨D, e, o, n⟩ := sgd_parts t
    refine ⟨fun x hx => ?_, ?_⟩
    · rw [List.mem_cons, e, List.mem_append] at hx
      rcases hx with rfl | hx | hx
      · rcases h1 with rfl | rfl <;> rfl
      · exact o x hx
      · exact okB_dig (hd x hx)
    · rw [List.count_cons, e, List.count_append, n, digs_no46 _ hd]
      rcases h1 with rfl | rfl <;> rfl
theorem right_parts (l : List UInt8) (h : rightL l = true) : (∀ c ∈ l, okB c = true) ∧ l.count 46 ≤ 1 := by
  unfold rightL at h
  rw [Bool.and_eq_true] at h
  obtain ⟨D1, e1, o1, n1⟩ := sgd_parts l
  obtain ⟨D2, e2, o2, n2⟩ := manL_parts (sgd l)
  obtain ⟨o3, n3⟩ := tail_parts _ h.2
  generalize (manL (sgd l)).2 = T at *
  rw [e2] at e1
  refine ⟨fun x hx => ?_, ?_⟩
  · rw [e1, List.mem_append, List.mem_append] at hx
    rcases hx with hx | hx | hx
    · exact o1 x hx
    · exact o2 x hx
    · exact o3 x hx
  · rw [e1, List.count_append, List.count_append, n1, n3]; omega
theorem okB_nb (c : UInt8) (h : okB c = true) : nb c = true := by
  unfold nb
  have h1 : c ≠ 32 := fun e => by subst e; exact absurd h (by decide)
  have h2 : c ≠ 9 := fun e => by subst e; exact absurd h (by decide)
  simp [h1, h2]
theorem exact_nb (a : Nat) (ha : a < 18446744073709551616) : (exactL a ≠ [] ∧ (∀ c ∈ exactL a, nb c = true) ∧ ∀ c ∈ exactL a, c ≠ 123) ∧ (exactL a).length ≤ 1200 := by
  cases hn : nanN a with
  | true =>
    have hk := (kind4 a ha).2 hn
    have eb : exactL a = [78, 97, 78] := by unfold exactL; rw [if_pos hk]
    rw [eb]; exact ⟨⟨by decide, by decide, by decide⟩, by decide⟩
  | false =>
    obtain ⟨s, r, rfl, hr⟩ := split_word a ha hn
    rcases Nat.lt_or_ge r INF with hr' | hr'
    · obtain ⟨W, T, hX, hW, hT, hW0, hl, hA, hTl, k1, k2, k3, k4, k5, k6, k7⟩ := exact_back s r hr'
      refine ⟨⟨?_, fun c hc => okB_nb c ((right_parts _ k1).1 c hc), fun c hc e => ?_⟩, hl⟩
      case refine_2 =>
        have := (right_parts _ k1).1 c hc
        subst e
        exact absurd this (by decide)
      rw [hX]
      intro e
      have := (List.append_eq_nil_iff.1 e).2
      exact hW0 (List.append_eq_nil_iff.1 this).1
    · obtain rfl := Nat.le_antisymm hr hr'
      cases s
      · rw [exact_pinf]; exact ⟨⟨by decide, by decide, by decide⟩, by decide⟩
      · rw [exact_ninf]; exact ⟨⟨by decide, by decide, by decide⟩, by decide⟩
theorem tb_cons (c : UInt8) (t : List UInt8) (h : nb c = true) : tb (c :: t) = c :: t := by
  unfold tb Lib.trimLeftS
  rw [List.dropWhile_cons_of_neg]
  unfold nb at h
  simpa using h
theorem tb_blank (c : UInt8) (t : List UInt8) (h : nb c = false) : tb (c :: t) = tb t := by
  unfold tb Lib.trimLeftS
  rw [List.dropWhile_cons_of_pos]
  unfold nb at h
  simpa only [Bool.not_eq_false'] using h
theorem tb_app (a r : List UInt8) (h0 : a ≠ []) (h : ∀ c ∈ a, nb c = true) : tb (a ++ r) = a ++ r := by
  cases a with
  | nil => exact absurd rfl h0
  | cons c t => exact tb_cons c _ (h c (List.mem_cons_self ..))
theorem wd_app (a r : List UInt8) (h : ∀ c ∈ a, nb c = true) (hr : ∀ c, r.head? = some c → nb c = false) : wd (a ++ r) = a ∧ wr (a ++ r) = r := by
  unfold wd wr
  induction a with
  | nil =>
    cases r with
    | nil => exact ⟨rfl, rfl⟩
    | cons c t => rw [List.nil_append, List.takeWhile_cons_of_neg (by rw [hr c rfl]; decide), List.dropWhile_cons_of_neg (by rw [hr c rfl]; decide)]; exact ⟨rfl, rfl⟩
  | cons c t ih =>
    have hc := h c (List.mem_cons_self ..)
    obtain ⟨i1, i2⟩ := ih (fun x hx => h x (List.mem_cons_of_mem _ hx))
    rw [List.cons_append, List.takeWhile_cons_of_pos hc, List.dropWhile_cons_of_pos hc, i1, i2]
    exact ⟨rfl, rfl⟩
theorem nm_app (o : UInt8) (a r : List UInt8) (h : ∀ c ∈ a, nch o c = true) (hr : ∀ c, r.head? = some c → nch o c = false) : nm o (a ++ r) = a ∧ nr o (a ++ r) = r := by
  unfold nm nr
  induction a with
  | nil =>
    cases r with
    | nil => exact ⟨rfl, rfl⟩
    | cons c t => rw [List.nil_append, List.takeWhile_cons_of_neg (by rw [hr c rfl]; decide), List.dropWhile_cons_of_neg (by rw [hr c rfl]; decide)]; exact ⟨rfl, rfl⟩
  | cons c t ih =>
    have hc := h c (List.mem_cons_self ..)
    obtain ⟨i1, i2⟩ := ih (fun x hx => h x (List.mem_cons_of_mem _ hx))
    rw [List.cons_append, List.takeWhile_cons_of_pos hc, List.dropWhile_cons_of_pos hc, i1, i2]
    exact ⟨rfl, rfl⟩
theorem named_ch {o : UInt8} {n : List UInt8} (h : namedL o n = true) : n ≠ [] ∧ (∀ c ∈ n, nch o c = true) ∧ n.length ≤ 128 := by
  unfold namedL at h
  simp only [Bool.and_eq_true, decide_eq_true_eq] at h
  obtain ⟨⟨h1, h2⟩, h3, h4⟩ := h
  cases n with
  | nil => simp at h1
  | cons c t =>
    refine ⟨by simp, fun x hx => ?_, h2⟩
    rcases List.mem_cons.1 hx with rfl | hx
    · unfold nch; rw [show ltr o x = true from h3]; rfl
    · have := List.all_eq_true.1 h4 x hx
      exact this
theorem nch_nb {o c : UInt8} (ho : nb o = true) (h : nch o c = true) : nb c = true := by
  cases hb : nb c with
  | true => rfl
  | false =>
    have : c = 32 ∨ c = 9 := by
      unfold nb at hb
      by_cases h3 : c = 32
      · exact .inl h3
      · right; simp at hb; exact hb h3
    rcases this with rfl | rfl
    · have : nch o 32 = ((32 : UInt8) == o) := by unfold nch; rw [show isD 32 = false by decide, Bool.or_false]; unfold ltr; rfl
      rw [this] at h
      rw [beq_iff_eq] at h
      rw [← h] at ho; cases ho
    · have : nch o 9 = ((9 : UInt8) == o) := by unfold nch; rw [show isD 9 = false by decide, Bool.or_false]; unfold ltr; rfl
      rw [this] at h
      rw [beq_iff_eq] at h
      rw [← h] at ho; cases ho
namespace Q
open L
theorem quL_cons (c : UInt8) (t : List UInt8) : quL (c :: t) = encq c ++ quL t := by simp [quL]
theorem rdq_cons_other (c : UInt8) (l : List UInt8) (hl : l ≠ []) (h1 : c ≠ 10) (h2 : c ≠ 34) (h3 : c ≠ 92) : rdq (c :: l) = comb [c] 1 (rdq l) := by
  cases l with
  | nil => exact absurd rfl hl
  | cons x t => rw [rdq, if_neg h1, if_neg h2, if_neg h3]
theorem rdq_quL (t r : List UInt8) : rdq (quL t ++ 34 :: r) = (0, t, (quL t).length) := by
  induction t with
  | nil => cases r <;> rfl
  | cons c t ih =>
    rw [quL_cons, List.append_assoc, List.length_append]
    unfold encq
    by_cases h1 : c = 92
    · subst h1
      show rdq (92 :: 92 :: (quL t ++ 34 :: r)) = _
      rw [rdq, if_neg (by decide), if_neg (by decide), if_pos rfl, if_neg (by decide), ih]
      simp [comb, esc]
    · rw [if_neg h1]
      by_cases h2 : c = 10
      · subst h2
        show rdq (92 :: 110 :: (quL t ++ 34 :: r)) = _
        rw [rdq, if_neg (by decide), if_neg (by decide), if_pos rfl, if_neg (by decide), ih]
        simp [comb, esc]
      · rw [if_neg h2]
        by_cases h3 : c = 34
        · subst h3
          show rdq (92 :: 34 :: (quL t ++ 34 :: r)) = _
          rw [rdq, if_neg (by decide), if_neg (by decide), if_pos rfl, if_neg (by decide), ih]
          simp [comb, esc]
        · rw [if_neg h3]
          show rdq (c :: (quL t ++ 34 :: r)) = _
          rw [rdq_cons_other c _ (by simp) h2 h3 h1, ih]
          simp [comb]
end Q
theorem quo_form (v r : List UInt8) (h : valL8 v = true) : quo (34 :: (L.quL v ++ 34 :: r)) = some (v, r) := by
  have hq : quA (34 :: (L.quL v ++ 34 :: r)) = (0, v, (L.quL v).length + 2) := by
    unfold quA
    rw [if_pos (by simp)]
    unfold L.quF
    rw [show (34 :: (L.quL v ++ 34 :: r) : List UInt8).drop 1 = L.quL v ++ 34 :: r from rfl, Q.rdq_quL]
    simp [L.comb]
  unfold quo
  rw [hq, if_pos ⟨rfl, h⟩]
  show some (v, _) = _
  rw [show (34 :: (L.quL v ++ 34 :: r) : List UInt8).drop ((L.quL v).length + 2) = (L.quL v ++ 34 :: r).drop ((L.quL v).length + 1) from rfl]
  rw [List.drop_append, List.drop_of_length_le (by omega), Nat.add_sub_cancel_left]; rfl
end Go.Proofs.YtdeimnnpcfncpaaGreatDoor.X
end
section
namespace Go.Proofs.YtdeimnnpcfncpaaGreatDoor.X
open Go Go.RowKit
set_option linter.unusedVariables false
set_option linter.unusedSimpArgs false
theorem lbT_app (x : Lb) (r : List UInt8) : lbT x ++ r = x.1 ++ (61 :: (34 :: (L.quL x.2 ++ 34 :: r))) := by
  unfold lbT; simp
theorem nch_61 : nch 95 61 = false := by decide
theorem joinC_two (a b : List UInt8) (t : List (List UInt8)) (r : List UInt8) : joinC (a :: b :: t) ++ r = a ++ (44 :: (joinC (b :: t) ++ r)) := by
  show (a ++ (44 :: joinC (b :: t))) ++ r = _; simp
def OnesOk (o : List Lb) : Prop := ∀ x ∈ o, namedL 95 x.1 = true ∧ valL8 x.2 = true
theorem labF_one (f : Nat) (x : Lb) (r : List UInt8) (out : List Lb) (h1 : namedL 95 x.1 = true) (h2 : valL8 x.2 = true) (hs : (x.1 == sName) = false) (ho : hasL out x.1 = false) (hr : ∃ c t, r = c :: t ∧ nb c = true) :
    labF (f + 1) (lbT x ++ r) out = if (r.head? == some 44) = true then labF f (tb r.tail) (out ++ [x]) else if (r.head? == some 125) = true then labF f r (out ++ [x]) else (231, [], []) := by
  obtain ⟨c1, c2, c3⟩ := named_ch h1
  obtain ⟨a1, a2⟩ := nm_app 95 x.1 (61 :: (34 :: (L.quL x.2 ++ 34 :: r))) c2 (fun c hc => by cases hc; exact nch_61)
  obtain ⟨c, t, rfl, hc⟩ := hr
  rw [lbT_app]
  rw [labF]
  have hh : ((x.1 ++ (61 :: (34 :: (L.quL x.2 ++ 34 :: (c :: t))))).head? == some 125) = false := by
    cases hx : x.1 with
    | nil => exact absurd hx c1
    | cons y s =>
      have := c2 y (by rw [hx]; exact List.mem_cons_self ..)
      simp only [List.cons_append, List.head?_cons]
      rw [beq_eq_false_iff_ne]
      intro e
      cases e
      exact absurd this (by decide)
  rw [if_neg (by rw [hh]; decide), a1, a2, h1]
  rw [tb_cons 61 _ (by decide)]
  rw [if_pos (by rfl)]
  rw [show (61 :: 34 :: (L.quL x.2 ++ 34 :: c :: t) : List UInt8).tail = 34 :: (L.quL x.2 ++ 34 :: c :: t) from rfl, tb_cons 34 _ (by decide), quo_form x.2 (c :: t) h2]
  simp only [hs, ho, Bool.or_self, Bool.false_eq_true, if_false]
  rw [tb_cons c t hc]
theorem named_head {n : List UInt8} (h : namedL 95 n = true) : ∃ c t, n = c :: t ∧ nb c = true := by
  obtain ⟨c1, c2, c3⟩ := named_ch h
  cases n with
  | nil => exact absurd rfl c1
  | cons c t => exact ⟨c, t, rfl, nch_nb (by decide) (c2 c (List.mem_cons_self ..))⟩
theorem join_head (x : Lb) (o : List Lb) (r : List UInt8) (h : namedL 95 x.1 = true) : ∃ c t, joinC ((x :: o).map lbT) ++ r = c :: t ∧ nb c = true := by
  obtain ⟨c, t, e, hc⟩ := named_head h
  cases o with
  | nil =>
    refine ⟨c, t ++ (61 :: (34 :: (L.quL x.2 ++ 34 :: r))), ?_, hc⟩
    show lbT x ++ r = _
    rw [lbT_app, e]; rfl
  | cons y s =>
    refine ⟨c, t ++ (61 :: (34 :: (L.quL x.2 ++ 34 :: (44 :: (joinC ((y :: s).map lbT) ++ r))))), ?_, hc⟩
    show joinC (lbT x :: lbT y :: s.map lbT) ++ r = _
    rw [joinC_two, lbT_app, e]; rfl
theorem labF_join : ∀ (o : List Lb) (f : Nat) (r : List UInt8) (out : List Lb), o ≠ [] → o.length < f → OnesOk o → (∀ x ∈ o, (x.1 == sName) = false) → twiceB (out ++ o) = false →
    labF f (joinC (o.map lbT) ++ 125 :: r) out = (0, out ++ o, r)
  | [], _, _, _, h, _, _, _, _ => absurd rfl h
  | [x], f, r, out, _, hf, hk, hn, ht => by
    obtain ⟨g, rfl⟩ : ∃ g, f = g + 2 := ⟨f - 2, by simp at hf; omega⟩
    obtain ⟨k1, k2⟩ := hk x (List.mem_cons_self ..)
    have ho : hasL out x.1 = false := by
      rw [← Bool.not_eq_true, hasL_iff]
      rintro ⟨y, hy, e⟩
      have h3 := (twice_nodup _).1 ht
      rw [List.map_append, List.nodup_append] at h3
      exact h3.2.2 y.1 (List.mem_map_of_mem hy) x.1 (by simp) e
    show labF (g + 1 + 1) (lbT x ++ 125 :: r) out = _
    rw [labF_one (g + 1) x (125 :: r) out k1 k2 (hn x (List.mem_cons_self ..)) ho ⟨125, r, rfl, by decide⟩]
    rw [if_neg (by simp), if_pos (by simp), labF, if_pos (by simp)]
    rfl
  | x :: y :: t, f, r, out, _, hf, hk, hn, ht => by
    obtain ⟨g, rfl⟩ : ∃ g, f = g + 1 := ⟨f - 1, by simp at hf; omega⟩
    obtain ⟨k1, k2⟩ := hk x (List.mem_cons_self ..)
    have ho : hasL out x.1 = false := by
      rw [← Bool.not_eq_true, hasL_iff]
      rintro ⟨z, hz, e⟩
      have h3 := (twice_nodup _).1 ht
      rw [List.map_append, List.nodup_append] at h3
      exact h3.2.2 z.1 (List.mem_map_of_mem hz) x.1 (by simp) e
    have hk2 : OnesOk (y :: t) := fun z hz => hk z (List.mem_cons_of_mem _ hz)
    show labF (g + 1) (joinC (lbT x :: lbT y :: t.map lbT) ++ 125 :: r) out = _
    rw [joinC_two]
    rw [labF_one g x _ out k1 k2 (hn x (List.mem_cons_self ..)) ho ⟨44, _, rfl, by decide⟩]
    rw [if_pos (by simp), List.tail_cons]
    obtain ⟨c, u, e, hc⟩ := join_head y t (125 :: r) (hk2 y (List.mem_cons_self ..)).1
    have he : joinC (lbT y :: t.map lbT) ++ 125 :: r = c :: u := e
    rw [he, tb_cons c u hc, ← he]
    have := labF_join (y :: t) g r (out ++ [x]) (by simp) (by simp at hf ⊢; omega) hk2 (fun z hz => hn z (List.mem_cons_of_mem _ hz)) (by rw [List.append_assoc]; exact ht)
    rw [List.append_assoc] at this
    exact this
theorem labG_join (o : List Lb) (r : List UInt8) (h0 : o ≠ []) (hk : OnesOk o) (hn : ∀ x ∈ o, (x.1 == sName) = false) (ht : twiceB o = false) : labG (joinC (o.map lbT) ++ 125 :: r) = (0, o, r) := by
  unfold labG
  cases o with
  | nil => exact absurd rfl h0
  | cons x t =>
    obtain ⟨c, u, e, hc⟩ := join_head x t (125 :: r) (hk x (List.mem_cons_self ..)).1
    rw [e, tb_cons c u hc, ← e]
    refine (labF_join (x :: t) _ r [] (by simp) ?_ hk hn (by simpa using ht)).trans (by simp)
    have hl : ∀ (s : List Lb), s.length ≤ (joinC (s.map lbT)).length + 1 := by
      intro s
      induction s with
      | nil => simp
      | cons a s ih =>
        cases s with
        | nil => simp
        | cons b s =>
          have := congrArg List.length (joinC_two (lbT a) (lbT b) (s.map lbT) [])
          simp only [List.append_nil, List.length_append, List.length_cons] at this
          simp only [List.map_cons, List.length_cons] at ih ⊢
          omega
    have := hl (x :: t)
    simp only [List.length_append, List.length_cons] at this ⊢
    omega
theorem bl_lt : ∀ a b : List UInt8, Op.bytesLess a b = true ↔ a < b
  | [], [] => by simp [Op.bytesLess]
  | _ :: _, [] => by simp [Op.bytesLess]
  | [], _ :: _ => by simp [Op.bytesLess]
  | a :: x, b :: y => by
    rw [Op.bytesLess, List.cons_lt_cons_iff, Bool.or_eq_true, Bool.and_eq_true, bl_lt x y, decide_eq_true_iff, beq_iff_eq]
theorem leB_lt (a b : List UInt8) : leB a b = false ↔ b < a := by
  unfold leB
  rw [Bool.or_eq_false_iff, ← Bool.not_eq_true, bl_lt, beq_eq_false_iff_ne]
  constructor
  · rintro ⟨h1, h2⟩
    rcases lt_tri a b with g | g | g
    · exact absurd g h1
    · exact absurd g h2
    · exact g
  · intro h
    exact ⟨fun g => lt_irr _ (lt_tr g h), fun g => by rw [g] at h; exact lt_irr _ h⟩
def LbOk (x : Lb) : Prop := oneL x = 0 ∧ emp x = false
theorem chk_ok : ∀ (ls : List Lb) (i : Nat) (p : Option (List UInt8)), (chk i p ls).2 = 0 ↔ (∀ x ∈ ls, LbOk x) ∧ Inc ls ∧ (∀ n, p = some n → ∀ x, ls.head? = some x → n < x.1)
  | [], i, p => by simp [chk, Inc]
  | x :: t, i, p => by
    rw [chk]
    by_cases h1 : oneL x = 0
    · rw [if_neg (by simpa using h1)]
      by_cases h2 : badO p x = true
      · rw [if_pos h2]
        constructor
        · intro h; cases h
        · rintro ⟨k1, k2, k3⟩
          exfalso
          unfold badO at h2
          rw [Bool.or_eq_true] at h2
          rcases h2 with h2 | h2
          · have := (k1 x (List.mem_cons_self ..)).2
            unfold emp at this
            rw [this] at h2; cases h2
          · cases p with
            | none => cases h2
            | some n =>
              have := (leB_lt x.1 n).2 (k3 n rfl x rfl)
              simp only at h2
              rw [this] at h2; cases h2
      · rw [if_neg h2, chk_ok t (i + 1) (some x.1)]
        have h2' : badO p x = false := by simpa using h2
        unfold badO at h2'
        rw [Bool.or_eq_false_iff] at h2'
        constructor
        · rintro ⟨k1, k2, k3⟩
          refine ⟨fun y hy => ?_, ?_, ?_⟩
          · rcases List.mem_cons.1 hy with rfl | hy
            · exact ⟨h1, h2'.1⟩
            · exact k1 y hy
          · refine List.pairwise_cons.2 ⟨fun y hy => ?_, k2⟩
            cases t with
            | nil => cases hy
            | cons z s =>
              have hz := k3 x.1 rfl z rfl
              rcases List.mem_cons.1 hy with rfl | hy
              · exact hz
              · exact lt_tr hz ((List.pairwise_cons.1 k2).1 y hy)
          · intro n hn y hy
            cases hy
            subst hn
            exact (leB_lt x.1 n).1 h2'.2
        · rintro ⟨k1, k2, k3⟩
          obtain ⟨i1, i2⟩ := List.pairwise_cons.1 k2
          exact ⟨fun y hy => k1 y (List.mem_cons_of_mem _ hy), i2, fun n hn y hy => by
            cases hn
            exact i1 y (List.mem_of_mem_head? hy)⟩
    · rw [if_pos (by simpa using h1)]
      constructor
      · intro h; exact absurd h h1
      · rintro ⟨k1, _⟩; exact absurd (k1 x (List.mem_cons_self ..)).1 h1
theorem right_iff (ls : List Lb) : rightLb ls = true ↔ ls.length ≤ 64 ∧ (∀ x ∈ ls, LbOk x) ∧ Inc ls := by
  unfold rightLb checkL
  rw [beq_iff_eq]
  by_cases h : 64 < ls.length
  · rw [if_pos h]
    constructor
    · intro h; cases h
    · rintro ⟨k, _⟩; omega
  · rw [if_neg h, chk_ok]
    constructor
    · rintro ⟨a, b, _⟩; exact ⟨by omega, a, b⟩
    · rintro ⟨_, a, b⟩; exact ⟨a, b, fun n hn => by cases hn⟩
theorem one_ok {x : Lb} (h : oneL x = 0) : namedL 95 x.1 = true ∧ valL8 x.2 = true := by
  unfold oneL at h
  split at h
  · rename_i g
    split at h
    · rename_i g2; exact ⟨g, g2⟩
    · cases h
  · cases h
theorem first_ok (ls : List Lb) : firstBad ls = 0 ↔ ∀ x ∈ ls, oneL x = 0 := by
  induction ls with
  | nil => simp [firstBad]
  | cons x t ih =>
    unfold firstBad
    by_cases h : oneL x = 0
    · rw [if_pos h, ih]
      constructor
      · intro k y hy
        rcases List.mem_cons.1 hy with rfl | hy
        · exact h
        · exact k y hy
      · intro k y hy; exact k y (List.mem_cons_of_mem _ hy)
    · rw [if_neg h]
      constructor
      · intro k; exact absurd k h
      · intro k; exact absurd (k x (List.mem_cons_self ..)) h
theorem ofF_perm {all ls : List Lb} (hr : rightLb ls = true) (hp : all.Perm ls) : ofF all = (0, ls) := by
  obtain ⟨r1, r2, r3⟩ := (right_iff ls).1 hr
  have f0 : firstBad all = 0 := (first_ok all).2 fun x hx => (r2 x (hp.mem_iff.1 hx)).1
  have t0 : twiceB all = false := by rw [perm_twice hp]; exact inc_nodup _ r3
  have hs : srt all = ls := inc_eq _ _ (srt_inc all t0) r3 (fun x => by rw [srt_mem]; exact hp.mem_iff)
  have hf : ls.filter (fun x => !emp x) = ls := List.filter_eq_self.2 fun x hx => by rw [(r2 x hx).2]; rfl
  unfold ofF
  rw [if_pos f0, if_neg (by rw [t0]; decide), hs, hf, if_neg (by omega)]
theorem ofF_right {all ls : List Lb} (h : ofF all = (0, ls)) : rightLb ls = true ∧ ∀ x, x ∈ ls ↔ x ∈ all ∧ emp x = false := by
  unfold ofF at h
  split at h
  · rename_i f0
    split at h
    · cases h
    · rename_i t0
      split at h
      · cases h
      · rename_i h64
        have e : (srt all).filter (fun x => !emp x) = ls := congrArg Prod.snd h
        have t0' : twiceB all = false := by simpa using t0
        have hm : ∀ x, x ∈ ls ↔ x ∈ all ∧ emp x = false := fun x => by
          rw [← e, List.mem_filter, srt_mem]; simp
        refine ⟨(right_iff ls).2 ⟨by rw [← e]; omega, fun x hx => ⟨(first_ok all).1 f0 x ((hm x).1 hx).1, ((hm x).1 hx).2⟩, ?_⟩, hm⟩
        rw [← e]
        exact (srt_inc all t0').filter _
  · rename_i f0
    exact absurd (congrArg Prod.fst h) f0
theorem inc_get {ls : List Lb} (h : Inc ls) {x : Lb} (hx : x ∈ ls) : getLb ls x.1 = x.2 := by
  induction ls with
  | nil => cases hx
  | cons y t ih =>
    obtain ⟨h1, h2⟩ := List.pairwise_cons.1 h
    unfold getLb
    rw [List.find?_cons]
    rcases List.mem_cons.1 hx with rfl | hx
    · rw [show (x.1 == x.1) = true from beq_self_eq_true _]
    · have hne : (y.1 == x.1) = false := by
        rw [beq_eq_false_iff_ne]; intro e
        have := h1 x hx
        rw [e] at this; exact lt_irr _ this
      rw [hne]
      exact ih h2 hx
theorem get_mem {ls : List Lb} {n : List UInt8} (h : getLb ls n ≠ []) : (n, getLb ls n) ∈ ls := by
  unfold getLb at h ⊢
  cases hf : ls.find? (fun x => x.1 == n) with
  | none => rw [hf] at h; exact absurd rfl h
  | some x =>
    have h1 := List.mem_of_find?_eq_some hf
    have h2 := List.find?_some hf
    have h3 : x.1 = n := by simpa using h2
    show (n, x.2) ∈ ls
    rw [← h3]; exact h1
theorem perm_rest {ls : List Lb} (hi : Inc ls) {n v : List UInt8} (h : (n, v) ∈ ls) : ((n, v) :: ls.filter (fun x => !(x.1 == n))).Perm ls := by
  induction ls with
  | nil => cases h
  | cons y t ih =>
    obtain ⟨h1, h2⟩ := List.pairwise_cons.1 hi
    rcases List.mem_cons.1 h with rfl | h
    · have : ((n, v) :: t).filter (fun x => !(x.1 == n)) = t := by
        rw [List.filter_cons_of_neg (by simp)]
        refine List.filter_eq_self.2 fun x hx => ?_
        have := h1 x hx
        simp only [Bool.not_eq_true', beq_eq_false_iff_ne]
        intro e
        rw [e] at this; exact lt_irr _ this
      rw [this]
    · have hne : (!(y.1 == n)) = true := by
        simp only [Bool.not_eq_true', beq_eq_false_iff_ne]
        intro e
        have := h1 _ h
        rw [e] at this; exact lt_irr _ this
      rw [List.filter_cons_of_pos (p := fun x : Lb => !(x.1 == n)) hne]
      exact (List.Perm.swap _ _ _).trans ((ih h2 h).cons y)
end Go.Proofs.YtdeimnnpcfncpaaGreatDoor.X
end
section
namespace Go.Proofs.YtdeimnnpcfncpaaGreatDoor.X
open Go Go.RowKit
set_option linter.unusedVariables false
set_option linter.unusedSimpArgs false
theorem right_parts4 {s : Smp} (h : rightF s = true) : rightLb s.ls = true ∧ namedL 58 (getLb s.ls sName) = true ∧ (Go.Proofs.YtdeimnnpcfncpaaGreatDoor.kindN s.bits ≠ 4 ∨ s.bits = 9221120237041090561) ∧ (s.st = true ∨ s.t = 0) := by
  unfold rightF at h
  simp only [Bool.and_eq_true, Bool.or_eq_true, Bool.not_eq_true', beq_iff_eq, beq_eq_false_iff_ne] at h
  exact ⟨h.1, h.2.1, h.2.2.1, h.2.2.2⟩
theorem parts4_right {s : Smp} (h1 : rightLb s.ls = true) (h2 : namedL 58 (getLb s.ls sName) = true) (h3 : Go.Proofs.YtdeimnnpcfncpaaGreatDoor.kindN s.bits ≠ 4 ∨ s.bits = 9221120237041090561) (h4 : s.st = true ∨ s.t = 0) : rightF s = true := by
  unfold rightF
  simp only [Bool.and_eq_true, Bool.or_eq_true, Bool.not_eq_true', beq_iff_eq, beq_eq_false_iff_ne]
  exact ⟨h1, h2, h3, h4⟩
theorem itoa_nb (t : Int) (h0 : -9223372036854775808 ≤ t) (h1 : t ≤ 9223372036854775807) : Lib.itoa t ≠ [] ∧ ∀ c ∈ Lib.itoa t, nb c = true := by
  rw [itoa_sg]
  have hd := digs_dig t.natAbs
  obtain ⟨c, r, e, _⟩ := L.dec_head t.natAbs
  refine ⟨?_, fun x hx => ?_⟩
  · rw [e]; simp
  · rw [List.mem_append] at hx
    rcases hx with hx | hx
    · unfold sg at hx
      split at hx
      · simp at hx; subst hx; decide
      · cases hx
    · exact okB_nb x (okB_dig (digL_isD hd x hx))
theorem numF_itoa (t : Int) (h0 : -9223372036854775808 ≤ t) (h1 : t ≤ 9223372036854775807) : numF (Lib.itoa t) = some t := by
  unfold numF atoiN
  rw [L.atoi_itoa t h0 h1]
  simp
theorem readV_line (all : List Lb) (s : Smp) (hb : s.bits < 18446744073709551616) (h0 : -9223372036854775808 ≤ s.t) (h1 : s.t ≤ 9223372036854775807) (hk : Go.Proofs.YtdeimnnpcfncpaaGreatDoor.kindN s.bits ≠ 4 ∨ s.bits = 9221120237041090561) (hst : s.st = true ∨ s.t = 0) :
    readV all (exactL s.bits ++ (if s.st then 32 :: Lib.itoa s.t else [])) = readE all s.bits s.st s.t := by
  obtain ⟨⟨e1, e2, e3⟩, e4⟩ := exact_nb s.bits hb
  obtain ⟨w1, w2⟩ := wd_app (exactL s.bits) (if s.st then 32 :: Lib.itoa s.t else []) e2 (fun c hc => by
    cases hs : s.st with
    | true => rw [hs] at hc; cases hc; decide
    | false => rw [hs] at hc; cases hc)
  have hp := parF_exact s.bits hb (by
    rcases hk with hk | hk
    · left
      cases hn : nanN s.bits with
      | false => rfl
      | true => exact absurd ((kind4 s.bits hb).2 hn) hk
    · exact .inr hk)
  unfold readV
  rw [w1, w2, hp]
  show readT all s.bits _ = _
  cases hs : s.st with
  | false =>
    rcases hst with g | g
    · rw [hs] at g; cases g
    · unfold readT
      rw [if_pos (by rfl), g]
  | true =>
    obtain ⟨i1, i2⟩ := itoa_nb s.t h0 h1
    have ht : tb (32 :: Lib.itoa s.t) = Lib.itoa s.t := by
      rw [tb_blank 32 _ (by decide)]
      have := tb_app (Lib.itoa s.t) [] i1 i2
      rwa [List.append_nil] at this
    obtain ⟨v1, v2⟩ := wd_app (Lib.itoa s.t) [] i2 (fun c hc => by cases hc)
    rw [List.append_nil] at v1 v2
    rw [if_pos rfl, ht]
    unfold readT
    rw [if_neg i1, v1, v2, numF_itoa s.t h0 h1]
    rfl
theorem readF_name (l n r : List UInt8) (hl : l.length ≤ 65536) (h1 : tb l = l) (h2 : nm 58 l = n) (h3 : nr 58 l = r) (hn : namedL 58 n = true) :
    readF l = if ((tb r).head? == some 123) = true then (if (labG (tb r).tail).1 = 0 then readV ((sName, n) :: (labG (tb r).tail).2.1) (tb (labG (tb r).tail).2.2) else ((labG (tb r).tail).1, smp0)) else readV [(sName, n)] (tb (tb r)) := by
  subst h2 h3
  unfold readF
  rw [if_neg (by omega), h1, if_pos hn]
theorem read_line (s : Smp) (hb : s.bits < 18446744073709551616) (h0 : -9223372036854775808 ≤ s.t) (h1 : s.t ≤ 9223372036854775807) (hr : rightF s = true) (hl : (lineT s).length ≤ 65536) : readF (lineT s) = (0, s) := by
  obtain ⟨r1, r2, r3, r4⟩ := right_parts4 hr
  obtain ⟨q1, q2, q3⟩ := (right_iff _).1 r1
  obtain ⟨n1, n2, n3⟩ := named_ch r2
  have hm := get_mem n1
  have hp := perm_rest q3 hm
  have hof := ofF_perm r1 hp
  obtain ⟨⟨e1, e2, e3⟩, e4⟩ := exact_nb s.bits hb
  have hnb : ∀ c ∈ getLb s.ls sName, nb c = true := fun c hc => nch_nb (by decide) (n2 c hc)
  have hv := fun all => readV_line all s hb h0 h1 r3 r4
  have hE : readE ((sName, getLb s.ls sName) :: s.ls.filter (fun x => !(x.1 == sName))) s.bits s.st s.t = (0, s) := by
    unfold readE
    rw [hof]
    simp
  have htx : ∀ u, tb (32 :: (exactL s.bits ++ u)) = exactL s.bits ++ u := fun u => by
    rw [tb_blank 32 _ (by decide), tb_app _ _ e1 e2]
  have hx123 : ∀ u, ¬ ((exactL s.bits ++ u).head? == some 123) = true := fun u => by
    cases hx : exactL s.bits with
    | nil => exact absurd hx e1
    | cons c t =>
      have := e3 c (by rw [hx]; exact List.mem_cons_self ..)
      simpa using this
  by_cases ho : s.ls.filter (fun x => !(x.1 == sName)) = []
  · have hT : lineT s = getLb s.ls sName ++ (32 :: (exactL s.bits ++ (if s.st then 32 :: Lib.itoa s.t else []))) := by
      unfold lineT; dsimp only; rw [ho]; rfl
    rw [ho] at hE
    obtain ⟨m1, m2⟩ := nm_app 58 (getLb s.ls sName) (32 :: (exactL s.bits ++ (if s.st then 32 :: Lib.itoa s.t else []))) n2 (fun c hc => by cases hc; decide)
    rw [← hT] at m1 m2
    have ht : tb (lineT s) = lineT s := by rw [hT]; exact tb_app _ _ n1 hnb
    rw [readF_name _ _ _ hl ht m1 m2 r2, htx, if_neg (hx123 _), tb_app _ _ e1 e2, hv]
    exact hE
  · have hT : lineT s = getLb s.ls sName ++ (123 :: (joinC ((s.ls.filter (fun x => !(x.1 == sName))).map lbT) ++ 125 :: (32 :: (exactL s.bits ++ (if s.st then 32 :: Lib.itoa s.t else []))))) := by
      unfold lineT; dsimp only; rw [if_neg ho]; simp
    obtain ⟨m1, m2⟩ := nm_app 58 (getLb s.ls sName) (123 :: (joinC ((s.ls.filter (fun x => !(x.1 == sName))).map lbT) ++ 125 :: (32 :: (exactL s.bits ++ (if s.st then 32 :: Lib.itoa s.t else []))))) n2 (fun c hc => by cases hc; decide)
    rw [← hT] at m1 m2
    have ht : tb (lineT s) = lineT s := by rw [hT]; exact tb_app _ _ n1 hnb
    have hg := labG_join (s.ls.filter (fun x => !(x.1 == sName))) (32 :: (exactL s.bits ++ (if s.st then 32 :: Lib.itoa s.t else []))) ho
      (fun x hx => one_ok (q2 x (List.mem_filter.1 hx).1).1) (fun x hx => by have := (List.mem_filter.1 hx).2; simpa using this) (inc_nodup _ (q3.filter _))
    rw [readF_name _ _ _ hl ht m1 m2 r2, tb_cons 123 _ (by decide), if_pos (by rfl), List.tail_cons, hg, if_pos rfl]
    show readV _ (tb (32 :: _)) = _
    rw [htx, hv]
    exact hE
theorem near_le {n : Nat} {p : Int} {r : Nat} (h : NearX n p r) : r ≤ INF := h.1
theorem parF_ok {l : List UInt8} {b : Nat} (h : parF l = some b) : b < 18446744073709551616 ∧ (Go.Proofs.YtdeimnnpcfncpaaGreatDoor.kindN b ≠ 4 ∨ b = 9221120237041090561) := by
  have key : ∀ s r, r ≤ INF → sgw s + r < 18446744073709551616 ∧ Go.Proofs.YtdeimnnpcfncpaaGreatDoor.kindN (sgw s + r) ≠ 4 := fun s r hr => by
    have hI : INF < 9223372036854775808 := by decide
    have hlt : sgw s + r < 18446744073709551616 := by unfold sgw; split <;> omega
    refine ⟨hlt, fun hk => ?_⟩
    have hn := (kind4 _ hlt).1 hk
    unfold nanN at hn
    have hn2 := of_decide_eq_true hn
    have : (sgw s + r) % 9223372036854775808 = r := by unfold sgw; split <;> omega
    omega
  unfold parF at h
  split at h
  · cases h
  · split at h
    · rename_i g
      cases h
      rcases nam_len l g with rfl | rfl | rfl | rfl
      · exact ⟨by decide +kernel, .inl (by decide +kernel)⟩
      · exact ⟨by decide +kernel, .inl (by decide +kernel)⟩
      · exact ⟨by decide +kernel, .inl (by decide +kernel)⟩
      · exact ⟨by decide +kernel, .inr (by decide +kernel)⟩
    · split at h
      · cases h
        have := key (ngL l) _ (near_le (nearV_near (numL l) (powL l)))
        exact ⟨this.1, .inl this.2⟩
      · cases h
theorem numF_rng {l : List UInt8} {n : Int} (h : numF l = some n) : -9223372036854775808 ≤ n ∧ n ≤ 9223372036854775807 := by
  unfold numF at h
  cases ha : atoiN l with
  | none => rw [ha] at h; cases h
  | some m =>
    rw [ha] at h
    simp only at h
    split at h
    · cases h
      unfold atoiN at ha
      split at ha
      · rename_i v hv; cases ha; exact atoi_rng l _ hv
      · cases ha
    · cases h
theorem read_right {l : List UInt8} {s : Smp} (h : readF l = (0, s)) : rightF s = true ∧ s.bits < 18446744073709551616 ∧ -9223372036854775808 ≤ s.t ∧ s.t ≤ 9223372036854775807 := by
  have hE : ∀ n more bits st t, namedL 58 n = true → (st = true ∨ t = 0) → (bits < 18446744073709551616 ∧ (Go.Proofs.YtdeimnnpcfncpaaGreatDoor.kindN bits ≠ 4 ∨ bits = 9221120237041090561)) → (-9223372036854775808 ≤ t ∧ t ≤ 9223372036854775807) → readE ((sName, n) :: more) bits st t = (0, s) → rightF s = true ∧ s.bits < 18446744073709551616 ∧ -9223372036854775808 ≤ s.t ∧ s.t ≤ 9223372036854775807 := by
    intro n more bits st t hn hst hb ht h
    unfold readE at h
    split at h
    · rename_i g
      have e : (⟨(ofF ((sName, n) :: more)).2, bits, st, t⟩ : Smp) = s := congrArg Prod.snd h
      subst e
      obtain ⟨o1, o2⟩ := ofF_right (all := (sName, n) :: more) (ls := (ofF ((sName, n) :: more)).2) (by rw [← g])
      have hmem := (o2 (sName, n)).2 ⟨List.mem_cons_self .., by
        obtain ⟨c1, _, _⟩ := named_ch hn
        unfold emp
        cases n with
        | nil => exact absurd rfl c1
        | cons _ _ => rfl⟩
      have hget : getLb (ofF ((sName, n) :: more)).2 sName = n := inc_get ((right_iff _).1 o1).2.2 hmem
      exact ⟨parts4_right o1 (by show namedL 58 (getLb (ofF ((sName, n) :: more)).2 sName) = true; rw [hget]; exact hn) hb.2 hst, hb.1, ht.1, ht.2⟩
    · rename_i g; exact absurd (congrArg Prod.fst h) g
  have hT : ∀ n more bits d, namedL 58 n = true → (bits < 18446744073709551616 ∧ (Go.Proofs.YtdeimnnpcfncpaaGreatDoor.kindN bits ≠ 4 ∨ bits = 9221120237041090561)) → readT ((sName, n) :: more) bits d = (0, s) → rightF s = true ∧ s.bits < 18446744073709551616 ∧ -9223372036854775808 ≤ s.t ∧ s.t ≤ 9223372036854775807 := by
    intro n more bits d hn hb h
    unfold readT at h
    split at h
    · exact hE n more bits false 0 hn (.inr rfl) hb ⟨by decide, by decide⟩ h
    · split at h
      · cases h
      · rename_i m hm
        split at h
        · exact hE n more bits true m hn (.inl rfl) hb (numF_rng hm) h
        · cases h
  have hV : ∀ n more c, namedL 58 n = true → readV ((sName, n) :: more) c = (0, s) → rightF s = true ∧ s.bits < 18446744073709551616 ∧ -9223372036854775808 ≤ s.t ∧ s.t ≤ 9223372036854775807 := by
    intro n more c hn h
    unfold readV at h
    cases hp : parF (wd c) with
    | none => rw [hp] at h; cases h
    | some b => rw [hp] at h; exact hT n more b _ hn (parF_ok hp) h
  unfold readF at h
  split at h
  · cases h
  · split at h
    · rename_i hn
      split at h
      · split at h
        · exact hV _ _ _ hn h
        · rename_i g; exact absurd (congrArg Prod.fst h) g
      · exact hV _ _ _ hn h
    · cases h
end Go.Proofs.YtdeimnnpcfncpaaGreatDoor.X
end
section
namespace Go.Proofs.YtdeimnnpcfncpaaGreatDoor.X
open Go Go.RowKit
set_option linter.unusedVariables false
set_option linter.unusedSimpArgs false
theorem quo_len {l v r : List UInt8} (h : quo l = some (v, r)) : v.length ≤ l.length ∧ r.length ≤ l.length := by
  refine ⟨?_, quo_le h⟩
  unfold quo at h
  split at h
  · rename_i g
    simp only [Option.some.injEq, Prod.mk.injEq] at h
    rw [← h.1]
    have g1 := g.1
    unfold quA at g1 ⊢
    split at g1
    · rename_i g2
      rw [if_pos g2]
      exact (quF_le l g1 (by intro e; rw [e] at g2; simp at g2)).2
    · cases g1
  · cases h
theorem labF_val : ∀ (f : Nat) (l : List UInt8) (out o : List Lb) (r : List UInt8), labF f l out = (0, o, r) → r.length ≤ l.length ∧ ∀ x ∈ o, x ∈ out ∨ x.2.length ≤ l.length
  | 0, l, out, o, r, h => by cases h
  | f + 1, l, out, o, r, h => by
    rw [labF] at h
    split at h
    · cases h
      exact ⟨by rw [List.length_tail]; omega, fun x hx => .inl hx⟩
    · split at h
      · have h1 := nr_le 95 l
        have h2 := tb_le (nr 95 l)
        have h3 := tb_le (tb (nr 95 l)).tail
        rw [List.length_tail] at h3
        cases hq : quo (tb (tb (nr 95 l)).tail) with
        | none => rw [hq] at h; cases h
        | some vr =>
          obtain ⟨v, u⟩ := vr
          obtain ⟨q1, q2⟩ := quo_len hq
          rw [hq] at h
          simp only at h
          have h4 := tb_le u
          split at h
          · cases h
          · split at h
            · have h5 := tb_le (tb u).tail
              rw [List.length_tail] at h5
              obtain ⟨i1, i2⟩ := labF_val f _ _ _ _ h
              refine ⟨by omega, fun x hx => ?_⟩
              rcases i2 x hx with g | g
              · rw [List.mem_append, List.mem_singleton] at g
                rcases g with g | rfl
                · exact .inl g
                · exact .inr (by show v.length ≤ _; omega)
              · exact .inr (by omega)
            · split at h
              · obtain ⟨i1, i2⟩ := labF_val f _ _ _ _ h
                refine ⟨by omega, fun x hx => ?_⟩
                rcases i2 x hx with g | g
                · rw [List.mem_append, List.mem_singleton] at g
                  rcases g with g | rfl
                  · exact .inl g
                  · exact .inr (by show v.length ≤ _; omega)
                · exact .inr (by omega)
              · cases h
      · cases h
theorem labG_val {l : List UInt8} {o : List Lb} {r : List UInt8} (h : labG l = (0, o, r)) : r.length ≤ l.length ∧ ∀ x ∈ o, x.2.length ≤ l.length := by
  have := labF_val _ _ _ _ _ h
  have h2 := tb_le l
  exact ⟨by omega, fun x hx => by
    rcases this.2 x hx with g | g
    · cases g
    · omega⟩
theorem readE_ls {all : List Lb} {b : Nat} {st : Bool} {t : Int} {s : Smp} (h : readE all b st t = (0, s)) : ∀ x ∈ s.ls, x ∈ all := by
  unfold readE at h
  split at h
  · rename_i g
    have e : (⟨(ofF all).2, b, st, t⟩ : Smp) = s := congrArg Prod.snd h
    subst e
    obtain ⟨o1, o2⟩ := ofF_right (all := all) (ls := (ofF all).2) (by rw [← g])
    exact fun x hx => ((o2 x).1 hx).1
  · rename_i g; exact absurd (congrArg Prod.fst h) g
theorem readV_ls {all : List Lb} {c : List UInt8} {s : Smp} (h : readV all c = (0, s)) : ∀ x ∈ s.ls, x ∈ all := by
  unfold readV at h
  cases hp : parF (wd c) with
  | none => rw [hp] at h; cases h
  | some b =>
    rw [hp] at h
    simp only [readT] at h
    split at h
    · exact readE_ls h
    · split at h
      · cases h
      · split at h
        · exact readE_ls h
        · cases h
theorem read_vals {l : List UInt8} {s : Smp} (h : readF l = (0, s)) : ∀ x ∈ s.ls, x.2.length ≤ max l.length 128 := by
  unfold readF at h
  split at h
  · cases h
  · split at h
    · rename_i hn
      have hnl := (named_ch hn).2.2
      split at h
      · split at h
        · rename_i g
          obtain ⟨_, hv⟩ := labG_val (l := (tb (nr 58 (tb l))).tail) (o := (labG (tb (nr 58 (tb l))).tail).2.1) (r := (labG (tb (nr 58 (tb l))).tail).2.2) (by rw [← g])
          have h1 := tb_le l
          have h2 := nr_le 58 (tb l)
          have h3 := tb_le (nr 58 (tb l))
          rw [List.length_tail] at hv
          intro x hx
          rcases List.mem_cons.1 (readV_ls h x hx) with rfl | hx
          · show (nm 58 (tb l)).length ≤ _; omega
          · have := hv x hx; omega
        · rename_i g; exact absurd (congrArg Prod.fst h) g
      · intro x hx
        rcases List.mem_cons.1 (readV_ls h x hx) with rfl | hx
        · show (nm 58 (tb l)).length ≤ _; omega
        · cases hx
    · cases h
theorem joinC_len (M : Nat) : ∀ L : List (List UInt8), (∀ a ∈ L, a.length ≤ M) → (joinC L).length ≤ L.length * (M + 1)
  | [], _ => Nat.zero_le _
  | [a], h => by
    have := h a (List.mem_cons_self ..)
    show a.length ≤ _
    simp; omega
  | a :: b :: t, h => by
    have h1 := h a (List.mem_cons_self ..)
    have ih := joinC_len M (b :: t) (fun x hx => h x (List.mem_cons_of_mem _ hx))
    show (a ++ (44 :: joinC (b :: t))).length ≤ _
    rw [List.length_append, List.length_cons]
    rw [List.length_cons, Nat.succ_mul]
    omega
theorem lineT_len (s : Smp) (hb : s.bits < 18446744073709551616) (h0 : -9223372036854775808 ≤ s.t) (h1 : s.t ≤ 9223372036854775807) (hr : rightF s = true) (K : Nat) (hK : ∀ x ∈ s.ls, x.2.length ≤ K) : (lineT s).length ≤ 1400 + s.ls.length * (132 + 2 * K) := by
  obtain ⟨r1, r2, r3, r4⟩ := right_parts4 hr
  obtain ⟨q1, q2, q3⟩ := (right_iff _).1 r1
  obtain ⟨n1, n2, n3⟩ := named_ch r2
  obtain ⟨_, e4⟩ := exact_nb s.bits hb
  have hi := L.itoa_len s.t h0 h1
  have hj := joinC_len (131 + 2 * K) ((s.ls.filter (fun x => !(x.1 == sName))).map lbT) (fun a ha => by
    obtain ⟨x, hx, rfl⟩ := List.mem_map.1 ha
    have hx1 := (List.mem_filter.1 hx).1
    have := hK x hx1
    have h2 := (named_ch (one_ok (q2 x hx1).1).1).2.2
    have h3 := L.quL_len x.2
    unfold lbT
    simp only [List.length_append, List.length_cons, List.length_nil]
    omega)
  rw [List.length_map] at hj
  have hfl : (s.ls.filter (fun x => !(x.1 == sName))).length ≤ s.ls.length := List.length_filter_le _ _
  have hm : (s.ls.filter (fun x => !(x.1 == sName))).length * (131 + 2 * K + 1) ≤ s.ls.length * (132 + 2 * K) := Nat.mul_le_mul hfl (by omega)
  unfold lineT
  dsimp only
  rw [List.length_append, List.length_append, List.length_cons, List.length_append]
  have a1 : (if s.ls.filter (fun x => !(x.1 == sName)) = [] then ([] : List UInt8) else 123 :: (joinC ((s.ls.filter (fun x => !(x.1 == sName))).map lbT) ++ [125])).length ≤ 2 + s.ls.length * (132 + 2 * K) := by
    split
    · simp
    · rw [List.length_cons, List.length_append]; simp; omega
  have a2 : (if s.st = true then 32 :: Lib.itoa s.t else ([] : List UInt8)).length ≤ 22 := by
    split
    · rw [List.length_cons]; omega
    · simp
  omega
end Go.Proofs.YtdeimnnpcfncpaaGreatDoor.X
end
