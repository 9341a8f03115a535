/- short at any long decimal; Parse against the reference; the walk of DecimalSmall (SA SC ZD NH SD). -/
import Derived.Test.YtaidemghhagniaaGreatDoorHP
import Derived.Test.YtaidemghhagniaaGreatDoorXE
import Derived.Test.YtaidemghhagniaaGreatDoorYA
import Derived.Test.YtaidemghhagniaaGreatDoorW1
import Derived.Test.YtaidemghhagniaaGreatDoorKM
import Derived.Test.YtaidemghhagniaaGreatDoorRB
import Derived.Deep.OwnRows
section

namespace Go.Proofs.YtaidemghhagniaaGreatDoor
set_option linter.unusedVariables false
theorem T2_posN (n : Nat) : 0 < T2 n := by unfold T2; exact Nat.two_pow_pos _
theorem M_bound (r : Nat) (hr : r < INF) : M r < 18014398509481984 * T2 2045 := by
  have h1 := fr_lt r
  have h2 : ex r - 1 ≤ 2045 := by
    have hI : INF = 9218868437227405312 := rfl
    unfold ex; split <;> omega
  unfold M
  have h3 : 2 ^ (ex r - 1) ≤ T2 2045 := T2_mono h2
  have h4 := T2_posN 2045
  generalize T2 2045 = K at *
  exact Nat.lt_of_le_of_lt (Nat.mul_le_mul_left _ h3) (Nat.mul_lt_mul_of_pos_right (by omega) h4)
theorem big779 : 18014398509481984 * T2 970 ≤ T10 779 := by unfold T2 T10; decide +kernel
theorem five779 : 18014398509481984 * T5 1074 ≤ T10 779 := by unfold T5 T10; decide +kernel
theorem UU2_T2 : UU * 2 = T2 1075 := by
  rw [UU_T2, show (2 : Nat) = T2 1 from rfl, T2_add]
theorem UU2_pos : 0 < UU * 2 := by rw [UU2_T2]; exact T2_posN _
/-- No middle lies inside. -/
theorem no_mid (h : Nat) (x : Int) (hh : T10 779 ≤ h) (q : Nat) (hq : q < INF) : M q * 10 ^ (-x).toNat ≤ h * 10 ^ x.toNat * (UU * 2) ∨ (h + 1) * 10 ^ x.toNat * (UU * 2) ≤ M q * 10 ^ (-x).toNat := by
  rw [UU2_T2]
  rcases Int.le_total 0 x with p | p
  · left
    rw [show (-x).toNat = 0 by omega, Nat.pow_zero, Nat.mul_one]
    have h1 := M_bound q hq
    have h2 : T2 2045 = T2 970 * T2 1075 := by rw [T2_add]
    rw [h2, ← Nat.mul_assoc] at h1
    have h3 : 18014398509481984 * T2 970 * T2 1075 ≤ h * 10 ^ x.toNat * T2 1075 := by
      refine Nat.mul_le_mul_right _ (Nat.le_trans big779 (Nat.le_trans hh ?_))
      exact Nat.le_mul_of_pos_right _ (Nat.pow_pos (by decide))
    omega
  · rw [show x.toNat = 0 by omega, Nat.pow_zero, Nat.mul_one, Nat.mul_one]
    obtain ⟨k, hk⟩ : ∃ k, k = (-x).toNat := ⟨_, rfl⟩
    rw [← hk]
    have e1 : M q * 10 ^ k = (2 * fr q + 1) * T2 (ex q - 1 + k) * T5 k := by
      unfold M
      rw [T10_is, T10_25, show (2 : Nat) ^ (ex q - 1) = T2 (ex q - 1) from rfl, ← T2_add]
      simp only [Nat.mul_assoc]
    by_cases hb : 1075 ≤ ex q - 1 + k
    · obtain ⟨j, hj⟩ : ∃ j, ex q - 1 + k = j + 1075 := ⟨ex q - 1 + k - 1075, by omega⟩
      have e2 : M q * 10 ^ k = (2 * fr q + 1) * T2 j * T5 k * T2 1075 := by
        rw [e1, hj, ← T2_add]
        simp only [Nat.mul_assoc, Nat.mul_comm (T5 k)]
      rw [e2]
      generalize (2 * fr q + 1) * T2 j * T5 k = z
      by_cases hz : z ≤ h
      · exact .inl (Nat.mul_le_mul_right _ hz)
      · exact .inr (Nat.mul_le_mul_right _ (by omega))
    · left
      rw [e1]
      have h1 := fr_lt q
      have h2 : T2 (ex q - 1 + k) ≤ T2 1075 := T2_mono (by omega)
      have h3 : T5 k ≤ T5 1074 := T5_mono (by omega)
      have h4 : (2 * fr q + 1) * T2 (ex q - 1 + k) * T5 k ≤ 18014398509481984 * T2 1075 * T5 1074 :=
        Nat.mul_le_mul (Nat.mul_le_mul (by omega) h2) h3
      have h5 : 18014398509481984 * T2 1075 * T5 1074 = 18014398509481984 * T5 1074 * T2 1075 := by
        simp only [Nat.mul_assoc, Nat.mul_comm (T2 1075)]
      refine Nat.le_trans h4 ?_
      rw [h5]
      exact Nat.mul_le_mul_right _ (Nat.le_trans five779 hh)
theorem near_gap {N1 d1 N2 d2 r : Nat} (h : ∀ q, q < INF → (M q * d1 < N1 ∧ M q * d2 < N2) ∨ (N1 < M q * d1 ∧ N2 < M q * d2)) (n : Near N1 d1 r) : Near N2 d2 r := by
  refine ⟨n.1, fun hr => ?_, fun hr => ?_⟩
  · rcases h r hr with ⟨a, b⟩ | ⟨a, b⟩
    · exact absurd (n.2.1 hr).1 (Nat.not_le.2 a)
    · exact ⟨Nat.le_of_lt b, fun e => absurd e (Nat.ne_of_lt b)⟩
  · have hq : r - 1 < INF := by have := n.1; omega
    rcases h (r - 1) hq with ⟨a, b⟩ | ⟨a, b⟩
    · exact ⟨Nat.le_of_lt b, fun e => absurd e.symm (Nat.ne_of_lt b)⟩
    · exact absurd (n.2.2 hr).1 (Nat.not_le.2 a)
theorem side_lo (h v k : Nat) (x : Int) (l : h * 10 ^ k < v) : h * 10 ^ x.toNat * (UU * 2) * 10 ^ (-(x - k)).toNat < v * 10 ^ (x - k).toNat * (UU * 2) * 10 ^ (-x).toNat := by
  have h1 := nx_cmp h (h * 10 ^ k) x (x - k) (x - k) (by omega) (Int.le_refl _) (by
    rw [Int.sub_self, show (x - (x - (k : Int))).toNat = k by omega]; exact Nat.le_of_eq (by simp))
  refine Nat.lt_of_le_of_lt h1 ?_
  refine Nat.mul_lt_mul_of_pos_right ?_ (p10 _)
  refine Nat.mul_lt_mul_of_pos_right ?_ UU2_pos
  exact Nat.mul_lt_mul_of_pos_right l (p10 _)
theorem side_hi (h v k : Nat) (x : Int) (l : v < h * 10 ^ k) : v * 10 ^ (x - k).toNat * (UU * 2) * 10 ^ (-x).toNat < h * 10 ^ x.toNat * (UU * 2) * 10 ^ (-(x - k)).toNat := by
  have h1 := nx_cmp (h * 10 ^ k) h (x - k) x (x - k) (Int.le_refl _) (by omega) (by
    rw [Int.sub_self, show (x - (x - (k : Int))).toNat = k by omega]; exact Nat.le_of_eq (by simp))
  refine Nat.lt_of_lt_of_le ?_ h1
  refine Nat.mul_lt_mul_of_pos_right ?_ (p10 _)
  refine Nat.mul_lt_mul_of_pos_right ?_ UU2_pos
  exact Nat.mul_lt_mul_of_pos_right l (p10 _)
theorem lt_cut {m A D d N : Nat} (h1 : m * D ≤ A) (h2 : A * d < N * D) : m * d < N := by
  refine Nat.lt_of_mul_lt_mul_right (a := D) ?_
  rw [Nat.mul_right_comm]
  exact Nat.lt_of_le_of_lt (Nat.mul_le_mul_right d h1) h2
theorem cut_lt {m A D d N : Nat} (h1 : A ≤ m * D) (h2 : N * D < A * d) : N < m * d := by
  refine Nat.lt_of_mul_lt_mul_right (a := D) ?_
  rw [Nat.mul_right_comm m]
  exact Nat.lt_of_lt_of_le h2 (Nat.mul_le_mul_right d h1)
/-- Two numbers strictly between two neighbours of 780 digits have one nearest value. -/
theorem nx_gap {h v1 v2 k1 k2 : Nat} {x : Int} {r : Nat} (hh : T10 779 ≤ h) (l1 : h * 10 ^ k1 < v1) (u1 : v1 < (h + 1) * 10 ^ k1) (l2 : h * 10 ^ k2 < v2) (u2 : v2 < (h + 1) * 10 ^ k2) (n : NearX v1 (x - k1) r) : NearX v2 (x - k2) r := by
  refine near_gap (fun q hq => ?_) n
  rcases no_mid h x hh q hq with a | a
  · exact .inl ⟨lt_cut a (side_lo h v1 k1 x l1), lt_cut a (side_lo h v2 k2 x l2)⟩
  · exact .inr ⟨cut_lt a (side_hi (h + 1) v1 k1 x u1), cut_lt a (side_hi (h + 1) v2 k2 x u2)⟩
end Go.Proofs.YtaidemghhagniaaGreatDoor
end
section
namespace Go.Proofs.YtaidemghhagniaaGreatDoor
open Go Go.RowKit
set_option linter.unusedVariables false
set_option linter.unusedSimpArgs false
/-- What counts of digits: at most 780, and one more where something follows. -/
def a780 (A : List UInt8) : List UInt8 := if 780 < A.length then (if Lib.trimB (A.drop 780) 48 = [] then A.take 780 else A.take 780 ++ [49]) else A
/-- What short makes of a text of more than 780 bytes. -/
def shG (sn W T : List UInt8) (E : Int) : List UInt8 :=
  if stp (W ++ T) = [] then sn ++ [48] else sn ++ [48, 46] ++ a780 (stp (W ++ T)) ++ [101] ++ Lib.itoa (((stp (W ++ T)).length : Int) + E - (T.length : Int))
theorem ext_from (l : List UInt8) (i : Nat) : (BS l).extract i (BS l).size = BS (l.drop i) := by
  rw [BS_size]; apply ba_ext; simp [BS]
  rw [List.take_of_length_le (by simp)]
theorem ext_to (l : List UInt8) (i : Nat) : (BS l).extract 0 i = BS (l.take i) := by
  apply ba_ext; simp [BS]
theorem any_at (P Q cs : List UInt8) (c : UInt8) (h : ∀ x ∈ P, cs.contains x = false) (hc : cs.contains c = true) : Lib.indexAny (P ++ c :: Q) cs = (P.length : Int) := by
  induction P with
  | nil => show (if cs.contains c then (0 : Int) else _) = _; rw [if_pos hc]; rfl
  | cons x t ih =>
    show (if cs.contains x then (0 : Int) else if Lib.indexAny (t ++ c :: Q) cs == -1 then -1 else Lib.indexAny (t ++ c :: Q) cs + 1) = _
    rw [h x (List.mem_cons_self ..), ih (fun y hy => h y (List.mem_cons_of_mem _ hy))]
    rw [if_neg (by decide), if_neg (by simp), List.length_cons]
    omega
theorem cut_none (W : List UInt8) (hW : ∀ c ∈ W, isD c = true) : Lib.cut W [46] = (W, [], false) := by
  rw [cut_one]
  have h1 : W.takeWhile (· != 46) = W := tw_all W _ (fun c hc => by simpa using isD_ne46 (hW c hc))
  have h2 : W.dropWhile (· != 46) = [] := dw_all W _ (fun c hc => by simpa using isD_ne46 (hW c hc))
  have h3 : (46 : UInt8) ∉ W := fun h => isD_ne46 (hW 46 h) rfl
  rw [h1, h2, decide_eq_false h3]; rfl
theorem uint_dig (V : List UInt8) (h : ∀ c ∈ V, isD c = true) : ∀ a n, a < 10 ^ n → n + V.length ≤ 18 → Lib.parseUint10 a V = .ok (V.foldl (fun e c => e * 10 + (c.toNat - 48)) a) := by
  induction V with
  | nil => intro a n _ _; rfl
  | cons c t ih =>
    intro a n ha hn
    have hc := (isD_iff c).1 (h c (List.mem_cons_self ..))
    have hp : 10 ^ n ≤ 10 ^ 17 := Nat.pow_le_pow_right (by decide) (by simp only [List.length_cons] at hn; omega)
    have hs : a * 10 + (c.toNat - 48) < 10 ^ (n + 1) := by rw [Nat.pow_succ]; omega
    rw [Lib.parseUint10, if_pos hc, if_neg (by omega), if_neg (by omega), List.foldl_cons]
    exact ih (fun x hx => h x (List.mem_cons_of_mem _ hx)) _ (n + 1) hs (by simp only [List.length_cons] at hn; omega)
/-- The exponent behind its letter, as Atoi reads it. -/
theorem atoi_exp (c : UInt8) (u : List UInt8) (h : tailL (c :: u) = true) : Lib.atoiAll u = .ok (expL (c :: u)) := by
  have h' : ((c == 101 || c == 69) && (decide (1 ≤ digN (sgd u)) && decide (digN (sgd u) ≤ 5) && (digN (sgd u) == (sgd u).length))) = true := h
  simp only [Bool.and_eq_true, decide_eq_true_eq, beq_iff_eq] at h'
  obtain ⟨-, ⟨h1, h2⟩, h3⟩ := h'
  have hd := digN_full _ h3
  have hp : Lib.parseMag (sgd u) = .ok (dval (sgd u)) := by
    unfold Lib.parseMag
    rw [if_neg (fun e => by rw [e] at h1; exact absurd h1 (by decide))]
    exact uint_dig (sgd u) hd 0 0 (by decide) (by omega)
  have hv := dval_lt (sgd u) (fun x hx => (isD_iff x).1 (hd x hx))
  have h5 : 10 ^ (sgd u).length ≤ 10 ^ 5 := Nat.pow_le_pow_right (by decide) (by omega)
  have h6 : dval (sgd u) < 100000 := Nat.lt_of_lt_of_le hv h5
  show _ = Lib.NumEnd.ok (if ngL u then -(dval (sgd u) : Int) else (dval (sgd u) : Int))
  cases u with
  | nil => exact absurd h1 (by decide)
  | cons x r =>
    have hsg : sgd (x :: r) = if x.toNat = 43 ∨ x.toNat = 45 then r else x :: r := by
      rw [sgd]
      by_cases g : x = 43 ∨ x = 45
      · rw [if_pos g, if_pos (by rcases g with rfl | rfl; exact .inl rfl; exact .inr rfl)]
      · rw [if_neg g, if_neg (fun e => g (e.imp (fun e => UInt8.toNat_inj.1 e) (fun e => UInt8.toNat_inj.1 e)))]
    unfold Lib.atoiAll
    simp only
    rw [← hsg, hp]
    simp only
    generalize dval (sgd (x :: r)) = D at *
    have hng : ngL (x :: r) = decide (x.toNat = 45) := by
      unfold ngL
      show (some x == some 45) = _
      by_cases g : x = 45
      · subst g; rfl
      · rw [decide_eq_false (fun e : x.toNat = 45 => g (UInt8.toNat_inj.1 e))]
        simpa using g
    rw [hng, if_neg (by omega), if_neg (by omega)]
    by_cases g : x.toNat = 45
    · rw [if_pos g, decide_eq_true g, if_pos rfl]
    · rw [if_neg g, decide_eq_false g, if_neg (by decide)]
theorem tail_low (R : List UInt8) (h : tailL R = true) : ∀ b ∈ R, b.toNat < 128 := fun b hb => okB_low ((tail_parts R h).1 b hb)
theorem a780_len (A : List UInt8) : (a780 A).length ≤ 781 := by
  unfold a780
  split
  · split
    · rw [List.length_take]; omega
    · rw [List.length_append, List.length_take]; simp; omega
  · omega
set_option maxRecDepth 100000 in
set_option maxHeartbeats 8000000 in
theorem short_any (sn W T R D : List UInt8) (hsg : sn = [] ∨ sn = [43] ∨ sn = [45]) (hD : (D = [] ∧ T = []) ∨ D = 46 :: T) (hW : DigL W) (hT : DigL T) (h0 : W ++ T ≠ []) (hR : tailL R = true) (hE : (expL R).natAbs ≤ 99999)
    (h1 : 780 < (sn ++ (W ++ (D ++ R))).length) (h2 : (sn ++ (W ++ (D ++ R))).length ≤ 1200) (w : World) (hG : BGlb w) :
    Calls Tryz.prog 35 #[.string (BS (sn ++ (W ++ (D ++ R))))] w fun e w' => e = .returned (.string (BS (shG sn W T (expL R)))) ∧ Below w.heap.size w w' := by
  obtain ⟨Y, hY⟩ : ∃ Y, Y = W ++ (D ++ R) := ⟨_, rfl⟩
  obtain ⟨P, hP⟩ : ∃ P, P = W ++ D := ⟨_, rfl⟩
  have hYP : Y = P ++ R := by rw [hY, hP, List.append_assoc]
  have hPok : ∀ b ∈ P, isD b = true ∨ b = 46 := by
    intro b hb
    rw [hP, List.mem_append] at hb
    rcases hb with hb | hb
    · exact .inl (digL_isD hW b hb)
    · rcases hD with ⟨rfl, -⟩ | rfl
      · cases hb
      · rcases List.mem_cons.1 hb with rfl | hb
        · exact .inr rfl
        · exact .inl (digL_isD hT b hb)
  have hP0 : P ≠ [] := by
    rw [hP]
    intro e
    obtain ⟨e1, e2⟩ := List.append_eq_nil_iff.1 e
    rcases hD with ⟨-, rfl⟩ | rfl
    · exact h0 (by rw [e1]; rfl)
    · cases e2
  obtain ⟨c, p, hcp⟩ : ∃ c p, P = c :: p := by cases P with | nil => exact absurd rfl hP0 | cons c p => exact ⟨c, p, rfl⟩
  have hcok : c ≠ 43 ∧ c ≠ 45 := by
    rcases hPok c (by rw [hcp]; exact List.mem_cons_self ..) with h | h
    · exact ⟨fun e => by subst e; exact absurd h (by decide), fun e => by subst e; exact absurd h (by decide)⟩
    · subst h; exact ⟨by decide, by decide⟩
  have hy : Y = c :: (p ++ R) := by rw [hYP, hcp]; rfl
  have hPl : P.length ≤ Y.length := by rw [hYP, List.length_append]; omega
  have hlow : ∀ b ∈ Y, b.toNat < 128 := by
    intro b hb
    rw [hYP, List.mem_append] at hb
    rcases hb with hb | hb
    · rcases hPok b hb with h | h
      · have := (isD_iff b).1 h; omega
      · subst h; decide
    · exact tail_low R hR b hb
  rw [← hY] at h1 h2 ⊢
  have hs1 : sn.length ≤ 1 := by rcases hsg with rfl | rfl | rfl <;> decide
  rw [List.length_append] at h1 h2
  have hWT : W.length + T.length ≤ 1200 := by
    have : W.length + T.length ≤ P.length := by
      rw [hP, List.length_append]
      rcases hD with ⟨-, rfl⟩ | rfl <;> simp
    omega
  have hz := BS_size (sn ++ Y)
  rw [List.length_append] at hz
  obtain ⟨X, hX⟩ : ∃ X, X = BS (sn ++ Y) := ⟨_, rfl⟩
  have hxd : X.data.toList = sn ++ Y := by rw [hX]; rfl
  rw [← hX] at hz ⊢
  have hXl : 780 < X.size := by omega
  have hX0 : 0 < X.size := Nat.lt_trans (by decide) hXl
  obtain ⟨b0, hb0, hBx⟩ := bt_u X 0 hX0
  obtain ⟨sb, hsb⟩ : ∃ sb : Bool, Hid ((sb = false → sn = [] ∧ b0 = c) ∧ (sb = true → (sn = [43] ∧ b0 = 43) ∨ (sn = [45] ∧ b0 = 45))) := by
    have h := hb0.out
    unfold bt at h
    rw [hxd, hy] at h
    rcases hsg with rfl | rfl | rfl
    · exact ⟨false, Lib.hid ⟨fun _ => ⟨rfl, h.symm⟩, fun e => (by cases e)⟩⟩
    · exact ⟨true, Lib.hid ⟨fun e => (by cases e), fun _ => .inl ⟨rfl, h.symm⟩⟩⟩
    · exact ⟨true, Lib.hid ⟨fun e => (by cases e), fun _ => .inr ⟨rfl, h.symm⟩⟩⟩
  have hnoE : ∀ b ∈ P, ([101, 69] : List UInt8).contains b = false := fun b hb => by
    rcases hPok b hb with h | h
    · have := (isD_iff b).1 h
      cases hx : ([101, 69] : List UInt8).contains b with
      | false => rfl
      | true => simp at hx; rcases hx with rfl | rfl <;> exact absurd h (by decide)
    · subst h; decide
  have cA := Lib.hid (fun W1 => Tryz.strings_IndexAny_laid (BS Y) ⟨#[101, 69]⟩ W1 (by rw [BS_size]; omega) (by decide) (fun j b hb => hlow b (List.mem_of_getElem? hb)) (fun j b hb => by
      have := List.mem_of_getElem? hb
      simp at this
      rcases this with rfl | rfl <;> decide))
  rw [show (BS Y).data.toList = Y from rfl, show (⟨#[101, 69]⟩ : ByteArray).data.toList = [101, 69] from rfl] at cA
  obtain ⟨dt, hdt⟩ : ∃ dt : Bool, Lib.cut P [46] = (W, T, dt) := by
    rcases hD with ⟨h, h'⟩ | h
    · rw [hP, h, List.append_nil, h']; exact ⟨_, cut_none W (digL_isD hW)⟩
    · rw [hP, h]; exact ⟨_, cut_dot W T (digL_isD hW)⟩
  have cC := Lib.hid (fun (W1 : World) (hW1 : BGlb W1) => (by
    obtain ⟨m, hm⟩ := hW1.m
    have h := Tryz.strings_Cut (BS P) ⟨#[46]⟩ m W1 (by rw [BS_size]; omega) hm
    have e : Lib.cut (BS P).data.toList (⟨#[46]⟩ : ByteArray).data.toList = (W, T, dt) := hdt
    rw [e] at h
    exact h.mono fun e' w' ⟨q1, n, q2⟩ => ⟨q1, show Below W1.heap.size W1 w' from q2 ▸ ⟨rfl, rfl, rfl, Nat.le_refl _, fun _ _ => rfl⟩⟩ : Calls Tryz.prog 68 #[.string (BS P), .string ⟨#[46]⟩] W1 fun e w' => e = .returned (.tuple #[.string (BS W), .string (BS T), .bool dt]) ∧ Below W1.heap.size W1 w'))
  obtain ⟨A, hA⟩ : ∃ A, A = stp (W ++ T) := ⟨_, rfl⟩
  have hAl : A.length ≤ 1200 := by rw [hA]; exact Nat.le_trans (stp_le _) (by rw [List.length_append]; omega)
  have cT := Lib.hid (fun W1 => trimL (W ++ T) W1)
  rw [show Lib.trimLeftB (W ++ T) 48 = A from hA.symm] at cT
  obtain ⟨E, hEe⟩ : ∃ E, E = expL R := ⟨_, rfl⟩
  rw [← hEe] at hE ⊢
  have cN : Hid (∀ c u, R = c :: u → ∀ W1, Calls Tryz.prog 67 #[.string (BS u)] W1 fun e w' => e = .returned (.tuple #[.int .i64 E, .nilIface]) ∧ Below W1.heap.size W1 w') := Lib.hid (fun c u hcu W1 => by
    have hul : u.length ≤ 1200 := by
      have : R.length ≤ Y.length := by rw [hYP, List.length_append]; omega
      rw [hcu, List.length_cons] at this; omega
    refine (Tryz.strconv_Atoi_ok (BS u) (by rw [BS_size]; omega) E (by rw [hEe, hcu]; exact atoi_exp c u (by rw [← hcu]; exact hR)) W1).mono ?_
    rintro e w' ⟨q1, q2⟩
    refine ⟨q1, ?_⟩
    rcases q2 with rfl | ⟨t, rfl⟩
    · exact Below.refl _ _
    · exact ⟨rfl, rfl, rfl, by rw [Lib.bytesWorld_size]; omega, fun k hk => Lib.bytesWorld_at_old W1 5 t k hk⟩)
  have cI := Lib.hid (fun (W1 : World) (hW1 : BGlb W1) => itoa_s ((A.length : Int) + E - (T.length : Int)) (by omega) W1 hW1.a.tab)
  obtain ⟨I, hI⟩ : ∃ I, I = Lib.itoa ((A.length : Int) + E - (T.length : Int)) := ⟨_, rfl⟩
  have hIe := Lib.hid hI
  have hIl : I.length ≤ 30 := by
    rw [hI, itoa_sg, List.length_append]
    have := dig_len 20 ((A.length : Int) + E - (T.length : Int)).natAbs (by decide) (by omega)
    have : (sg ((A.length : Int) + E - (T.length : Int))).length ≤ 1 := by unfold sg; split <;> simp
    omega
  have hGh := Lib.hid hG
  have hfin : Hid (shG sn W T E = if A = [] then sn ++ [48] else sn ++ [48, 46] ++ a780 A ++ [101] ++ I) := Lib.hid (by unfold shG; rw [← hA, ← hI])
  have hXX := Lib.hid hX
  have u1 : decide ((X.size : Int) ≤ 780) = false := decide_eq_false (by omega)
  have u1' : decide (X.size ≤ 780) = false := decide_eq_false (by omega)
  have hYl : Y.length ≤ 1200 := by omega
  have hWl : W.length ≤ 1200 := by omega
  have hTl : T.length ≤ 1200 := by omega
  replace hz := Lib.hid hz
  have hYPh := Lib.hid hYP
  have hRh : Hid (tailL R = true ∧ (R = [] → E = 0)) := Lib.hid ⟨hR, fun e => by rw [hEe, e]; rfl⟩
  have hck := Lib.hid hcok
  have hnoEh := Lib.hid hnoE

  clear hG hX hxd hb0 hI hdt hA hy hPok hcp hcok hlow hYP hR hEe hnoE hsg hD hP hP0 h0 hW hT hY h1 h2
  go_enter Tryz.func35, Tryz.ntmps35
  go_upto_region 4 with (fail)
  go_cut [23] (fun s23 wx => s23 = .bool sb ∧ w = wx)
  case first =>
    cases sb with
    | true =>
      rcases hsb.out.2 rfl with ⟨-, rfl⟩ | ⟨-, rfl⟩
      · rw [show (((43 : UInt8).toNat : Int)) = 43 from rfl] at hBx
        go_wp2_with fail
        go_meet
        exact ⟨rfl, rfl⟩
      · rw [show (((45 : UInt8).toNat : Int)) = 45 from rfl] at hBx
        go_wp2_with fail
        go_meet
        exact ⟨rfl, rfl⟩
    | false =>
      obtain ⟨-, rfl⟩ := hsb.out.1 rfl
      have v1 := ne_bt b0 43 43 rfl hck.out.1
      have v2 := ne_bt b0 45 45 rfl hck.out.2
      go_wp2_with fail
      go_meet
      exact ⟨rfl, rfl⟩
  case rest =>
    obtain ⟨rfl, rfl⟩ := hcut
    clear hBx u1 u1' hck
    go_upto_if 23 with (fail)
    go_cut [0, 3] (fun s0 s3 wx => s0 = .string (BS Y) ∧ s3 = .string (BS sn) ∧ Hid (Below w.heap.size w wx))
    case first =>
      cases sb with
      | true =>
        have hsl : sn.length = 1 := by rcases hsb.out.2 rfl with ⟨h, -⟩ | ⟨h, -⟩ <;> rw [h] <;> rfl
        have e1 : Hid (X.extract 0 1 = BS sn) := Lib.hid (by
          rw [hXX.out]; apply ba_ext
          rcases hsb.out.2 rfl with ⟨h, -⟩ | ⟨h, -⟩ <;> rw [h] <;> simp [BS])
        have e2 : Hid (X.extract 1 X.size = BS Y) := Lib.hid (by
          rw [hz.out, hXX.out]; apply ba_ext
          rcases hsb.out.2 rfl with ⟨h, -⟩ | ⟨h, -⟩ <;> rw [h] <;> simp [BS])
        have hX1 : 1 ≤ X.size := by omega
        clear hsl hsb hfin hXX
        go_upto_region 5 with (fail)
        go_quiet (fail)
        go_wp2_with fail
        go_meet
        exact ⟨by rw [← e2.out], by rw [← e1.out], Lib.hid ⟨rfl, rfl, rfl, Nat.le_refl _, fun _ _ => rfl⟩⟩
      | false =>
        obtain ⟨h, -⟩ := hsb.out.1 rfl
        have e2 : Hid (X = BS Y) := Lib.hid (by rw [hXX.out, h]; rfl)
        have e3 : Hid (sn = []) := Lib.hid h
        clear hsb h
        go_wp2_with fail
        go_meet
        exact ⟨by rw [← e2.out], by rw [e3.out]; rfl, Lib.hid (Below.refl _ _)⟩
    case rest =>
      obtain ⟨rfl, rfl, B0⟩ := hcut
      clear hXX hX0 hXl hz hsb
      have hYs := BS_size Y
      have hPs := BS_size P
      go_wp2_with fail
      refine (cA.out _).mono ?_; rintro e w3 ⟨rfl, hb⟩
      replace B0 := Lib.hid (B0.out.trans (hb.mono B0.out.size))
      clear hb cA
      obtain ⟨ix, hix⟩ : ∃ ix, Hid (ix = Lib.indexAny Y [101, 69]) := ⟨_, Lib.hid rfl⟩
      rw [← hix.out]
      obtain ⟨ei, hei⟩ : ∃ b, decide ((0 : Int) ≤ ix) = b := ⟨_, rfl⟩
      go_upto_if 31 with (fail)
      go_cut [0, 4] (fun s0 s4 wx => s0 = .string (BS P) ∧ s4 = .int .i64 E ∧ Hid (Below w.heap.size w wx))
      case first =>
        cases R with
        | nil =>
          have e0 := hRh.out.2 rfl
          have eY : Hid (Y = P) := Lib.hid (by rw [hYPh.out, List.append_nil])
          have hx : ix = -1 := by rw [hix.out, hYPh.out, List.append_nil]; exact any_none P _ hnoEh.out
          rw [hx] at hei
          obtain rfl : false = ei := hei
          clear hYPh hix hRh hnoEh cC cT cN cI hfin
          go_wp2_with fail
          go_meet
          exact ⟨by rw [eY.out], by rw [e0], B0⟩
        | cons c u =>
          have hc : ([101, 69] : List UInt8).contains c = true := by
            have h : ((c == 101 || c == 69) && _) = true := hRh.out.1
            rw [Bool.and_eq_true] at h
            have h1 := h.1
            simp only [Bool.or_eq_true, beq_iff_eq] at h1
            rcases h1 with rfl | rfl <;> decide
          have hx : ix = (P.length : Int) := by rw [hix.out, hYPh.out]; exact any_at P u _ c hnoEh.out hc
          have hul : Hid (u.length + P.length + 1 = Y.length) := Lib.hid (by rw [hYPh.out, List.length_append, List.length_cons]; omega)
          have e1 : Hid ((BS Y).extract (P.length + 1) Y.length = BS u) := Lib.hid (by
            rw [show Y.length = (BS Y).size from (BS_size Y).symm, ext_from, hYPh.out, List.drop_append, List.drop_of_length_le (by omega), Nat.add_sub_cancel_left]; rfl)
          have e2 : Hid ((BS Y).extract 0 P.length = BS P) := Lib.hid (by
            rw [ext_to, hYPh.out, List.take_left])
          have cN2 := Lib.hid (cN.out c u rfl)
          subst hx
          have hei2 : true = ei := by rw [← hei]; exact (decide_eq_true (by omega)).symm
          subst hei2
          have hb1 : P.length + 1 ≤ Y.length := by have := hul.out; omega
          clear hYPh hix hRh hnoEh cC cT cN cI hfin hc
          go_wp2_with fail
          rw [e1.out]
          refine (cN2.out _).mono ?_; rintro e w4 ⟨rfl, hb⟩
          replace B0 := Lib.hid (B0.out.trans (hb.mono B0.out.size))
          clear hb cN2
          go_wp2_with fail
          go_meet
          exact ⟨by rw [← e2.out], rfl, B0⟩
      case rest =>
        obtain ⟨rfl, rfl, B1⟩ := hcut
        clear B0 hYPh hix hei hRh hnoEh cN
        go_wp2_with fail
        refine (cC.out _ (hGh.out.on B1.out)).mono ?_; rintro e w4 ⟨rfl, hb⟩
        replace B1 := Lib.hid (B1.out.trans (hb.mono B1.out.size))
        clear hb cC
        have cat1 : BS W ++ BS T = BS (W ++ T) := BS_app W T
        have hWs := BS_size W
        have hTs := BS_size T
        go_wp2_with fail
        refine (cT.out _).mono ?_; rintro e w5 ⟨rfl, rfl⟩
        clear cT
        go_upto_if 54 with (fail)
        obtain ⟨bA, hbA⟩ : ∃ b, Hid (A.isEmpty = b) := ⟨_, Lib.hid rfl⟩
        rw [show ({ data := A.toArray } : ByteArray) = BS A from rfl]
        have cat0 : BS sn ++ (⟨#[48]⟩ : ByteArray) = BS (sn ++ [48]) := BS_app _ [48]
        have hss := BS_size sn
        clear cat1 hWs hPs
        by_cases hAe : A = []
        · have hf1 : Hid (shG sn W T E = sn ++ [48]) := Lib.hid (by rw [hfin.out, if_pos hAe])
          have hbt : A.isEmpty = true := by rw [hAe]; rfl
          rw [hbt]
          clear hbA hbt hAe hfin cI
          go_wp2_with fail
          go_ret
          exact ⟨Eq.trans (b := Ending.returned (.string (BS (sn ++ [48])))) rfl (by rw [hf1.out]), B1.out⟩
        · have hf1 : Hid (shG sn W T E = sn ++ [48, 46] ++ a780 A ++ [101] ++ I) := Lib.hid (by rw [hfin.out, if_neg hAe])
          have hbt : A.isEmpty = false := by cases A with | nil => exact absurd rfl hAe | cons x y => rfl
          rw [hbt]
          clear hbA hbt hAe hfin cat0
          have hAs := BS_size A
          have hIs := BS_size I
          have hNl := a780_len A
          have hN : Hid (a780 A = if 780 < A.length then (if Lib.trimB (A.drop 780) 48 = [] then A.take 780 else A.take 780 ++ [49]) else A) := Lib.hid rfl
          obtain ⟨N, hNe⟩ : ∃ N, N = a780 A := ⟨_, rfl⟩
          rw [← hNe] at hNl hN hf1
          have hNs := BS_size N
          clear hNe
          go_upto_region 15 with (fail)
          go_cut [66] (fun s66 wx => s66 = .bool (decide ((780 : Int) < (A.length : Int))) ∧ w4 = wx)
          case first =>
            go_wp2_with fail
            go_meet
            exact ⟨rfl, rfl⟩
          case rest =>
            obtain ⟨rfl, rfl⟩ := hcut
            go_upto_if 66 with (fail)
            go_cut [9] (fun s9 wx => s9 = .string (BS N) ∧ Hid (Below w.heap.size w wx))
            case first =>
              by_cases h7 : 780 < A.length
              · rw [decide_eq_true (show (780 : Int) < (A.length : Int) by omega)]
                obtain ⟨Z, hZ⟩ : ∃ Z, Z = Lib.trimB (A.drop 780) 48 := ⟨_, rfl⟩
                have cZ := Lib.hid (fun W1 => (Tryz.strings_Trim_one (BS (A.drop 780)) 48 (by decide) W1 (by rw [BS_size, List.length_drop]; omega)).mono fun e w' (h : e = .returned (.string ⟨(Lib.trimB (BS (A.drop 780)).data.toList 48).toArray⟩) ∧ (w' = W1 ∨ w' = W1.drew)) => show e = .returned (.string (BS Z)) ∧ Below W1.heap.size W1 w' from ⟨by rw [h.1, hZ]; rfl, by
                  rcases h.2 with rfl | rfl
                  · exact Below.refl _ _
                  · exact Below.drew (Below.refl _ _)⟩)
                have hN2 : Hid (N = if Z = [] then A.take 780 else A.take 780 ++ [49]) := Lib.hid (by rw [hN.out, if_pos h7, hZ])
                have x1 : Hid ((BS A).extract 780 A.length = BS (A.drop 780)) := Lib.hid (by rw [← BS_size A, ext_from])
                have x2 : Hid ((BS A).extract 0 780 = BS (A.take 780)) := Lib.hid (ext_to A 780)
                have h78 : 780 ≤ A.length := by omega
                have hts : Hid ((BS (A.take 780)).size = 780) := Lib.hid (by rw [BS_size, List.length_take]; omega)
                clear hN hZ
                go_wp2_with fail
                rw [x1.out]
                refine (cZ.out _).mono ?_; rintro e w6 ⟨rfl, hb⟩
                replace B1 := Lib.hid (B1.out.trans (hb.mono B1.out.size))
                clear hb cZ
                have cat9 : BS (A.take 780) ++ (⟨#[49]⟩ : ByteArray) = BS (A.take 780 ++ [49]) := BS_app _ [49]
                have hts2 := hts.out
                rw [← x2.out] at cat9 hts2
                have hze : (BS Z).toList.isEmpty = Z.isEmpty := by rw [ByteArray.toList_eq]; rfl
                by_cases hZ0 : Z = []
                · have hzz : (BS Z).toList.isEmpty = true := by rw [hze, hZ0]; rfl
                  have hN3 : Hid (N = A.take 780) := Lib.hid (by rw [hN2.out, if_pos hZ0])
                  clear hZ0 hN2 hze
                  go_wp2_with fail
                  go_meet
                  exact ⟨by rw [hN3.out, x2.out], B1⟩
                · have hzz : (BS Z).toList.isEmpty = false := by
                    rw [hze]
                    cases Z with
                    | nil => exact absurd rfl hZ0
                    | cons x y => rfl
                  have hN3 : Hid (N = A.take 780 ++ [49]) := Lib.hid (by rw [hN2.out, if_neg hZ0])
                  clear hZ0 hN2 hze
                  go_wp2_with fail
                  go_meet
                  exact ⟨by rw [hN3.out], B1⟩
              · rw [decide_eq_false (show ¬ (780 : Int) < (A.length : Int) by omega)]
                have hN2 : Hid (N = A) := Lib.hid (by rw [hN.out, if_neg h7])
                go_wp2_with fail
                go_meet
                exact ⟨by rw [hN2.out], B1⟩
            case rest =>
              obtain ⟨rfl, B2⟩ := hcut
              clear B1 hN
              obtain ⟨L1, hL1⟩ : ∃ L1, L1 = sn ++ [48, 46] := ⟨_, rfl⟩
              obtain ⟨L2, hL2⟩ : ∃ L2, L2 = L1 ++ N := ⟨_, rfl⟩
              obtain ⟨L3, hL3⟩ : ∃ L3, L3 = L2 ++ [101] := ⟨_, rfl⟩
              obtain ⟨L4, hL4⟩ : ∃ L4, L4 = L3 ++ I := ⟨_, rfl⟩
              have cat2 : BS sn ++ (⟨#[48, 46]⟩ : ByteArray) = BS L1 := by rw [hL1]; exact BS_app _ [48, 46]
              have cat3 : BS L1 ++ BS N = BS L2 := by rw [hL2]; exact BS_app _ _
              have cat4 : BS L2 ++ (⟨#[101]⟩ : ByteArray) = BS L3 := by rw [hL3]; exact BS_app _ [101]
              have cat5 : BS L3 ++ BS I = BS L4 := by rw [hL4]; exact BS_app _ _
              have z2 := BS_size L1
              have z3 := BS_size L2
              have z4 := BS_size L3
              have q2 : L1.length ≤ 3 := by rw [hL1, List.length_append]; simp; omega
              have q3 : L2.length ≤ 1300 := by rw [hL2, List.length_append]; omega
              have q4 : L3.length ≤ 1400 := by rw [hL3, List.length_append]; simp; omega
              have hfin4 := Lib.hid (hf1.out.trans (by rw [hL4, hL3, hL2, hL1] : _ = L4))
              clear hL1 hL2 hL3 hL4 hf1 hAs
              go_wp2_with fail
              refine (cI.out _ (hGh.out.on B2.out)).mono ?_; rintro e w6 ⟨rfl, hb⟩
              rw [← hIe.out]
              replace B2 := Lib.hid (B2.out.trans (hb.mono B2.out.size))
              clear hb cI
              go_wp2_with fail
              go_ret
              exact ⟨Eq.trans (b := Ending.returned (.string (BS L4))) rfl (by rw [hfin4.out]), B2.out⟩
end Go.Proofs.YtaidemghhagniaaGreatDoor
end
section
namespace Go.Proofs.YtaidemghhagniaaGreatDoor
open Go Go.RowKit Ieee
set_option maxRecDepth 100000 in
set_option maxHeartbeats 4000000 in
theorem tells_any (a b : Nat) (ha : a < 18446744073709551616) (hb : b < 18446744073709551616) (w : World) (hG : AGlb w) :
    Calls Tryz.prog 20 #[.int .u64 a, .int .u64 b] w fun e w' => e = .returned (.bool true) ∧ Below w.heap.size w w' := by
  have c1 := compare_any a b ha hb w
  have c2 := rbefore_any a b ha hb w
  have c3 := next_any a ha w
  have c4 := rnext_any a ha w
  have c5 := whole_any a ha w
  have c6 := rwhole_any a ha w
  have c7 := kind_any a ha w
  have c8 := rkind_any a ha w
  have c9 := neg_any a ha w
  have cx : Calls Tryz.prog 14 #[.int .u64 a] w fun e w' => e = .returned (.string (BS (exactL a))) ∧ Below w.heap.size w w' := exact_any a ha w hG.tab
  have cy := Lib.hid (fun W => rexact_any a ha W)
  have b1 : bits .xor .u64 (a : Int) 9223372036854775808 = ((negN a : Nat) : Int) := by
    refine Eq.trans (u64_xor_nat a 9223372036854775808 ha (by decide)) ?_
    exact congrArg _ (xor_top a ha)
  obtain ⟨x1, x2, hx⟩ : ∃ x1 x2, cmpN a b = (x1, x2) := ⟨_, _, rfl⟩
  rw [hx] at c1 c2
  obtain ⟨y1, y2, hy⟩ : ∃ x1 x2, nextN a = (x1, x2) := ⟨_, _, rfl⟩
  rw [hy] at c3 c4
  obtain ⟨z1, z2, hz⟩ : ∃ x1 x2, wholeN a = (x1, x2) := ⟨_, _, rfl⟩
  rw [hz] at c5 c6
  obtain ⟨k, hk⟩ : ∃ k, k = kindN a := ⟨_, rfl⟩
  rw [← hk] at c7 c8
  obtain ⟨n, hn⟩ : ∃ n, n = negN a := ⟨_, rfl⟩
  rw [← hn] at c9 b1
  obtain ⟨L, hL⟩ : ∃ L, L = exactL a := ⟨_, rfl⟩
  rw [← hL] at cx cy
  have e1 : (x1 == x1) = true := beq_self_eq_true _
  have e2 : (x2 == x2) = true := beq_self_eq_true _
  have e3 : ((y1 : Int) == (y1 : Int)) = true := beq_self_eq_true _
  have e4 : (y2 == y2) = true := beq_self_eq_true _
  have e5 : (z1 == z1) = true := beq_self_eq_true _
  have e6 : (z2 == z2) = true := beq_self_eq_true _
  have e7 : ((k : Int) == (k : Int)) = true := beq_self_eq_true _
  have e8 : ((n : Int) == (n : Int)) = true := beq_self_eq_true _
  have e9 : ((BS L).toList == (BS L).toList) = true := beq_self_eq_true _
  clear hx hy hz hk hn hL hG
  replace c1 := Lib.hid c1
  replace c2 := Lib.hid c2
  replace c3 := Lib.hid c3
  replace c4 := Lib.hid c4
  replace c5 := Lib.hid c5
  replace c6 := Lib.hid c6
  replace c7 := Lib.hid c7
  replace c8 := Lib.hid c8
  replace c9 := Lib.hid c9
  replace cx := Lib.hid cx
  go_enter Tryz.func20, Tryz.ntmps20
  go_wp2_with fail
  refine c1.out.mono ?_; rintro e w1 ⟨rfl, rfl⟩
  go_wp2_with fail
  refine c2.out.mono ?_; rintro e w1 ⟨rfl, rfl⟩
  go_wp2_with fail
  refine c3.out.mono ?_; rintro e w1 ⟨rfl, rfl⟩
  go_wp2_with fail
  refine c4.out.mono ?_; rintro e w1 ⟨rfl, rfl⟩
  go_wp2_with fail
  refine c5.out.mono ?_; rintro e w1 ⟨rfl, rfl⟩
  go_wp2_with fail
  refine c6.out.mono ?_; rintro e w1 ⟨rfl, rfl⟩
  go_wp2_with fail
  refine c7.out.mono ?_; rintro e w1 ⟨rfl, rfl⟩
  go_wp2_with fail
  refine c8.out.mono ?_; rintro e w1 ⟨rfl, rfl⟩
  go_wp2_with fail
  refine c9.out.mono ?_; rintro e w1 ⟨rfl, rfl⟩
  go_wp2_with fail
  refine cx.out.mono ?_; rintro e w1 ⟨rfl, hb1⟩
  replace hb1 := Lib.hid hb1
  go_wp2_with fail
  refine (cy.out _).mono ?_; rintro e w2 ⟨rfl, hb2⟩
  have B := Lib.hid (hb1.out.trans (hb2.mono hb1.out.size))
  clear hb1 hb2
  go_wp2_with fail
  go_ret
  exact ⟨rfl, B.out⟩
theorem tells_law (a b : Nat) (ha : a < 18446744073709551616) (hb : b < 18446744073709551616) (w : World) (hG : AGlb w) :
    Calls Tryz.prog 6 #[.int .u64 a, .int .u64 b] w fun e w' => e = .returned (.bool true) ∧ Below w.heap.size w w' := by
  have c1 := Lib.hid (tells_any a b ha hb w hG)
  have c2 := Lib.hid (fun W hb => awake_any W (AGlb.on hG hb))
  go_enter Tryz.func6, Tryz.ntmps6
  go_wp2_with fail
  refine c1.out.mono ?_; rintro e w1 ⟨rfl, hb1⟩
  have c3 := Lib.hid (c2.out w1 hb1)
  replace hb1 := Lib.hid hb1
  clear c1 c2
  go_wp2_with fail
  refine c3.out.mono ?_; rintro e w2 ⟨rfl, hb2⟩
  have B := Lib.hid (hb1.out.trans (hb2.mono hb1.out.size))
  clear hb1 hb2 c3
  go_wp2_with fail
  go_ret
  exact ⟨rfl, B.out⟩
theorem decimalTells_walk (a0 a1 : Int) (w : World) (w0 : (Lit.int .u64 a0).wf = true) (w1 : (Lit.int .u64 a1).wf = true) (hG : AGlb w) :
    Calls Tryz.prog 6 #[.int .u64 a0, .int .u64 a1] w fun e w' => e = .returned (.bool true) ∧ Below w.heap.size w w' := by
  obtain ⟨a, rfl, ha⟩ := u64_of w0
  obtain ⟨b, rfl, hb⟩ := u64_of w1
  exact tells_law a b ha hb w hG
end Go.Proofs.YtaidemghhagniaaGreatDoor
end
section
namespace Go.Proofs.YtaidemghhagniaaGreatDoor
open Go Go.RowKit
set_option linter.unusedVariables false
set_option linter.unusedSimpArgs false
set_option maxRecDepth 100000 in
set_option maxHeartbeats 4000000 in
theorem parse_nam (s : ByteArray) (hs : s.size ≤ 1200) (hn : isNam s.data.toList = true) (w : World) : Calls Tryz.prog 16 #[.string s] w (PsRet (namV s.data.toList : Int) 0 w) := by
  have u1 : decide ((1200 : Int) < (s.size : Int)) = false := decide_eq_false (by omega)
  have u2 : decide (1200 < s.size) = false := decide_eq_false (by omega)
  have hc := nam_len _ hn
  clear hn
  obtain ⟨l, hlE⟩ : ∃ l, l = s.data.toList := ⟨_, rfl⟩
  rw [← hlE] at hc ⊢
  have hst : s.toList = l := by rw [hlE]; exact ByteArray.toList_eq s
  clear hlE
  rcases hc with rfl | rfl | rfl | rfl
  · have e1 : (s.toList == [73, 110, 102]) = true := by rw [hst]; rfl
    clear hst
    go_enter Tryz.func16, Tryz.ntmps16
    go_wp2_with fail
    go_ret2
    exact ⟨rfl, Below.refl _ _⟩
  · have e1 : (s.toList == [73, 110, 102]) = false := by rw [hst]; rfl
    have e2 : (s.toList == [43, 73, 110, 102]) = true := by rw [hst]; rfl
    clear hst
    go_enter Tryz.func16, Tryz.ntmps16
    go_wp2_with fail
    go_ret2
    exact ⟨rfl, Below.refl _ _⟩
  · have e1 : (s.toList == [73, 110, 102]) = false := by rw [hst]; rfl
    have e2 : (s.toList == [43, 73, 110, 102]) = false := by rw [hst]; rfl
    have e3 : (s.toList == [45, 73, 110, 102]) = true := by rw [hst]; rfl
    clear hst
    go_enter Tryz.func16, Tryz.ntmps16
    go_wp2_with fail
    go_ret2
    exact ⟨rfl, Below.refl _ _⟩
  · have e1 : (s.toList == [73, 110, 102]) = false := by rw [hst]; rfl
    have e2 : (s.toList == [43, 73, 110, 102]) = false := by rw [hst]; rfl
    have e3 : (s.toList == [45, 73, 110, 102]) = false := by rw [hst]; rfl
    have e4 : (s.toList == [78, 97, 78]) = true := by rw [hst]; rfl
    clear hst
    go_enter Tryz.func16, Tryz.ntmps16
    go_wp2_with fail
    go_ret2
    exact ⟨rfl, Below.refl _ _⟩
/-- Parse, at whatever string but a decimal of more than 780 bytes. -/
theorem parse_pr (s : ByteArray) (hs : s.size ≤ 780 ∨ 1200 < s.size) (w : World) (hG : PGlb w) : Calls Tryz.prog 16 #[.string s] w (PrRet s.data.toList w) := by
  have hlen := len_size s
  have fin : ∀ v e, PrVal s.data.toList v e → Calls Tryz.prog 16 #[.string s] w (PsRet v e w) → Calls Tryz.prog 16 #[.string s] w (PrRet s.data.toList w) := fun v e h c => c.mono fun x w' ⟨h1, h2⟩ => ⟨h2, v, e, h, h1⟩
  by_cases hb : 1200 < s.size
  · exact fin _ _ (.inl ⟨by omega, rfl, rfl⟩) (parse_big s hb w)
  · have h7 : s.size ≤ 780 := by omega
    cases hn : isNam s.data.toList with
    | true => exact fin _ _ (.inr (.inl ⟨by omega, hn, rfl, rfl⟩)) (parse_nam s (by omega) hn w)
    | false =>
      cases hr : rightL s.data.toList with
      | false => exact fin _ _ (.inr (.inr (.inl ⟨by omega, hn, hr, rfl, rfl⟩))) (parse_no s (by omega) hn hr w)
      | true =>
        obtain ⟨r, h⟩ := nx_ex (numL s.data.toList) (powL s.data.toList)
        exact fin _ _ (.inr (.inr (.inr ⟨by omega, hn, hr, rfl, r, h, rfl⟩))) (parse_near s h7 hn hr r h w hG)
set_option maxRecDepth 100000 in
set_option maxHeartbeats 4000000 in
theorem parses_any (s : ByteArray) (hs : s.size ≤ 1300) (hd : s.size ≤ 1200 → dn (digsL s.data.toList) < T10 420) (w : World) (hP : Calls Tryz.prog 16 #[.string s] w (PrRet s.data.toList w)) :
    Calls Tryz.prog 13 #[.string s] w fun e w' => e = .returned (.bool true) ∧ Below w.heap.size w w' := by
  have cR := Lib.hid (fun W => rparse_any s hs hd W)
  have cP := Lib.hid hP
  have hu : Hid (∀ v e v' e', PrVal s.data.toList v e → PrVal s.data.toList v' e' → v = v' ∧ e = e') := Lib.hid (fun v e v' e' h h' => prVal_one h h')
  clear hd hP
  go_enter Tryz.func13, Tryz.ntmps13
  go_wp2_with fail
  refine cP.out.mono ?_; rintro x w1 ⟨hb, v, e, hv, rfl⟩
  have B := Lib.hid hb
  replace hv := Lib.hid hv
  clear hb cP
  go_wp2_with fail
  refine (cR.out _).mono ?_; rintro x w2 ⟨hb, v', e', hv', rfl⟩
  replace B := Lib.hid (B.out.trans (hb.mono B.out.size))
  obtain ⟨h1, h2⟩ := hu.out v e v' e' hv.out hv'
  clear hb cR hv' hv hu
  obtain rfl := h1
  obtain rfl := h2
  go_wp2_with fail
  go_ret
  exact ⟨rfl, B.out⟩
theorem digs420 (l : List UInt8) (h : l.length ≤ 420) : dn (digsL l) < T10 420 :=
  Nat.lt_of_lt_of_le (dn_lt _ (msc_nine false _)) (T10_mono (Nat.le_trans (digsL_len l).1 h))
end Go.Proofs.YtaidemghhagniaaGreatDoor
end
section
namespace Go.Proofs.YtaidemghhagniaaGreatDoor
open Go Go.RowKit
set_option linter.unusedVariables false
set_option linter.unusedSimpArgs false
def zz : List UInt8 := List.replicate 1200 48
theorem zz_len : zz.length = 1200 := List.length_replicate
theorem zz_dig : DigL zz := fun c hc => by rw [List.eq_of_mem_replicate hc]; decide
theorem zz_right : rightL zz = true := by decide +kernel
theorem zz_nam : isNam zz = false := by decide +kernel
theorem zz_num : numL zz = 0 := by decide +kernel
theorem zz_dn : dn (digsL zz) = 0 := by rw [(digs_num zz).1, zz_num]
theorem zz_stp : stp (zz ++ []) = [] := by decide +kernel
theorem val_0 : valL [48] = 0 := by decide +kernel
theorem parse_zz (w : World) (hG : BGlb w) : Calls Tryz.prog 16 #[.string (BS zz)] w (PrRet zz w) := by
  have h := short_any [] zz [] [] [] (.inl rfl) (.inl ⟨rfl, rfl⟩) zz_dig (fun c hc => by cases hc) (fun e => by rw [List.append_nil] at e; have := zz_len; rw [e] at this; cases this) rfl (by decide)
    (by show 780 < ([] ++ (zz ++ ([] ++ []))).length; rw [List.nil_append, List.append_nil, List.append_nil, zz_len]; decide)
    (by show ([] ++ (zz ++ ([] ++ []))).length ≤ 1200; rw [List.nil_append, List.append_nil, List.append_nil, zz_len]; decide) w hG
  rw [List.nil_append, List.append_nil, List.append_nil] at h
  have e : shG [] zz [] (expL []) = [48] := by unfold shG; rw [if_pos zz_stp]; rfl
  rw [e] at h
  have := parse_long (BS zz) (BS [48]) (by rw [BS_size, zz_len]; decide) (by decide) zz_nam zz_right (by decide +kernel) (fun ht => absurd ht (by decide +kernel)) w hG.a.p h
  rw [show (BS [48]).data.toList = [48] from rfl, val_0] at this
  refine this.mono fun x w' ⟨h1, h2⟩ => ⟨h2, 0, 0, .inr (.inr (.inr ⟨by rw [zz_len]; decide, zz_nam, zz_right, rfl, 0, by rw [zz_num]; exact nx_zero _, by decide +kernel⟩)), h1⟩
/-- parses, at whatever text of at most 420 bytes, and of more than 1200. -/
theorem parses_ok (s : ByteArray) (hs : s.size ≤ 420 ∨ (1200 < s.size ∧ s.size ≤ 1300)) (w : World) (hG : AGlb w) : Calls Tryz.prog 13 #[.string s] w fun e w' => e = .returned (.bool true) ∧ Below w.heap.size w w' := by
  have hlen := len_size s
  exact parses_any s (by omega) (fun h => digs420 _ (by omega)) w (parse_pr s (by omega) w hG.p)
theorem T10_pos (n : Nat) : 0 < T10 n := Nat.pow_pos (by decide)
theorem parses_zz (w : World) (hG : BGlb w) : Calls Tryz.prog 13 #[.string (BS zz)] w fun e w' => e = .returned (.bool true) ∧ Below w.heap.size w w' :=
  parses_any (BS zz) (by rw [BS_size, zz_len]; decide) (fun h => by
    rw [show (BS zz).data.toList = zz from rfl, zz_dn]; exact T10_pos 420) w (parse_zz w hG)
def b8 : ByteArray := ⟨#[48, 49, 46, 101, 69, 43, 45, 78]⟩
theorem ix8 (i : Nat) (h : i < 8) : ∃ c : UInt8, ∀ w, (Instr.index 9 (.string ⟨#[48, 49, 46, 101, 69, 43, 45, 78]⟩) (.int .i64 (i : Int))).run Tryz.prog w = .ok (.int .u8 (c.toNat : Int)) w := by
  have hb : i < b8.size := h
  exact ⟨b8[i], fun w => run_ix9 b8 i hb _ rfl w⟩
theorem run_remN (n m : Nat) (x y : Operand) (h : n < 100000) (hm : 0 < m) (hm2 : m < 100000) (w : World) : (do eqGuard .rem 3 x y (.int .i64 (n : Int)) (.int .i64 (m : Int)); binOp .rem 3 (.int .i64 (n : Int)) (.int .i64 (m : Int)) : Sem Value).run Tryz.prog w = .ok (.int .i64 ((n % m : Nat) : Int)) w := by
  have h0 : ((m : Int) == 0) = false := beq_eq_false_iff_ne.2 (by omega)
  have hm3 : m ≠ 0 := by omega
  go_simp
  rfl
theorem run_quoN (n m : Nat) (x y : Operand) (h : n < 100000) (hm : 0 < m) (hm2 : m < 100000) (w : World) : (do eqGuard .quo 3 x y (.int .i64 (n : Int)) (.int .i64 (m : Int)); binOp .quo 3 (.int .i64 (n : Int)) (.int .i64 (m : Int)) : Sem Value).run Tryz.prog w = .ok (.int .i64 ((n / m : Nat) : Int)) w := by
  have h0 : ((m : Int) == 0) = false := beq_eq_false_iff_ne.2 (by omega)
  have hm3 : m ≠ 0 := by omega
  have : n / m ≤ n := Nat.div_le_self _ _
  go_simp
  rw [show (n : Int) / (m : Int) = ((n / m : Nat) : Int) from rfl, IntKind.wrap_i64]
  generalize n / m = q at *
  omega
theorem run_b4 (w : World) (x0 x1 x2 x3 : UInt8) : (Instr.buildSlice 37 4 #[(0, .int .u8 (x0.toNat : Int)), (1, .int .u8 (x1.toNat : Int)), (2, .int .u8 (x2.toNat : Int)), (3, .int .u8 (x3.toNat : Int))]).run Tryz.prog w =
    .ok (.slice (some ⟨w.heap.size, 0, none⟩) 4 4) (w.alloc (.cells #[.int .u8 (x0.toNat : Int), .int .u8 (x1.toNat : Int), .int .u8 (x2.toNat : Int), .int .u8 (x3.toNat : Int)] 5)) := by
  go_simp
theorem step_b4 {ops : Array Oper} {Q : Exit → Act → World → Prop} {a : Act} {w : World} {K : Act → World → Prop} {i : Nat} {o : Oper} {X0 X1 X2 X3 : Operand} {y0 y1 y2 y3 : UInt8} (ho : ops[i]? = some o) (hm : Met ops a o) (hop : o.op = .buildSlice 37 4 #[(0, X0), (1, X1), (2, X2), (3, X3)])
    (h0 : a.eval X0 = .int .u8 (y0.toNat : Int)) (h1 : a.eval X1 = .int .u8 (y1.toNat : Int)) (h2 : a.eval X2 = .int .u8 (y2.toNat : Int)) (h3 : a.eval X3 = .int .u8 (y3.toNat : Int))
    (hk : K (a.put o.dst (.slice (some ⟨w.heap.size, 0, none⟩) 4 4)) (w.alloc (.cells #[.int .u8 (y0.toNat : Int), .int .u8 (y1.toNat : Int), .int .u8 (y2.toNat : Int), .int .u8 (y3.toNat : Int)] 5))) : wpOp Tryz.prog ops Q i K a w := by
  refine step_run ho hm (v := .slice (some ⟨w.heap.size, 0, none⟩) 4 4) ?_ hk
  simp [execOp, hop, h0, h1, h2, h3, run_b4, Result.andThen]
def Q4 (w : World) (g : Nat) (l : List UInt8) : Prop := g < w.heap.size ∧ ∀ j, j < 4 → w.cell? ⟨g, j, none⟩ = some (.int .u8 ((l.getD j 0).toNat : Int))
theorem Q4.on {w W : World} {g : Nat} {l : List UInt8} (h : Q4 w g l) (hb : Below w.heap.size w W) : Q4 W g l := ⟨Nat.lt_of_lt_of_le h.1 hb.size, fun j hj => (hb.cell (p := ⟨g, j, none⟩) h.1).trans (h.2 j hj)⟩
theorem Q4.new (w : World) (x0 x1 x2 x3 : UInt8) : Q4 (w.alloc (.cells #[.int .u8 (x0.toNat : Int), .int .u8 (x1.toNat : Int), .int .u8 (x2.toNat : Int), .int .u8 (x3.toNat : Int)] 5)) w.heap.size [x0, x1, x2, x3] := by
  refine ⟨by simp, fun j hj => ?_⟩
  rw [Lib.cell_of_heap (Array.getElem?_push_size)]
  match j, hj with
  | 0, _ => rfl
  | 1, _ => rfl
  | 2, _ => rfl
  | 3, _ => rfl
theorem Q4.conv {w : World} {g : Nat} {l : List UInt8} (h : Q4 w g l) (hl : l.length = 4) (n c : Nat) (hn : n ≤ 4) : (convert 37 9 (.slice (some ⟨g, 0, none⟩) n c)).run Tryz.prog w = .ok (.string (BS (l.take n))) w := by
  have e : (l.take n).length = n := by rw [List.length_take]; omega
  have := run_convert_bytes_back (P := Tryz.prog) w 37 9 5 ⟨g, 0, none⟩ c (l.take n) Tryz.underlying37 Tryz.underlying5 Tryz.underlying9 (fun k hk => by
    rw [e] at hk
    rw [show (⟨g, 0, none⟩ : Addr).add k = ⟨g, k, none⟩ by simp [Addr.add]; exact fun h => h.symm, h.2 k (by omega), List.getD_eq_getElem?_getD, List.getElem?_eq_getElem (by omega)]
    simp only [List.getElem_take, Option.getD_some])
  rw [e] at this
  exact this
def shortB (v : Value) : Bool := match v with | .string s => decide (s.size ≤ 100) | _ => false
def wordB (v : Value) : Bool := match v with | .int .u64 n => decide (0 ≤ n) && decide (n < 18446744073709551616) | _ => false
def SL (w : World) (g n : Nat) : Prop := g < w.heap.size ∧ ∀ j, j < n → ∃ s : ByteArray, w.cell? ⟨g, j, none⟩ = some (.string s) ∧ s.size ≤ 100
theorem SL.on {w W : World} {g n : Nat} (h : SL w g n) (hb : Below w.heap.size w W) : SL W g n := ⟨Nat.lt_of_lt_of_le h.1 hb.size, fun j hj => by
  obtain ⟨s, h1, h2⟩ := h.2 j hj; exact ⟨s, (hb.cell (p := ⟨g, j, none⟩) h.1).trans h1, h2⟩⟩
theorem SL.new (w : World) (arr : Array Value) (t : TypeId) (h : arr.all shortB = true) : SL (w.alloc (.cells arr t)) w.heap.size arr.size := by
  refine ⟨by simp, fun j hj => ?_⟩
  rw [Lib.cell_of_heap (Array.getElem?_push_size), Array.getElem?_eq_getElem hj]
  have h1 := Array.all_eq_true.1 h j hj
  generalize arr[j] = v at *
  unfold shortB at h1
  split at h1
  · exact ⟨_, rfl, of_decide_eq_true h1⟩
  · cases h1
def WL (w : World) (g n : Nat) : Prop := g < w.heap.size ∧ ∀ j, j < n → ∃ x : Nat, w.cell? ⟨g, j, none⟩ = some (.int .u64 (x : Int)) ∧ x < 18446744073709551616
theorem WL.on {w W : World} {g n : Nat} (h : WL w g n) (hb : Below w.heap.size w W) : WL W g n := ⟨Nat.lt_of_lt_of_le h.1 hb.size, fun j hj => by
  obtain ⟨s, h1, h2⟩ := h.2 j hj; exact ⟨s, (hb.cell (p := ⟨g, j, none⟩) h.1).trans h1, h2⟩⟩
theorem WL.new (w : World) (arr : Array Value) (t : TypeId) (h : arr.all wordB = true) : WL (w.alloc (.cells arr t)) w.heap.size arr.size := by
  refine ⟨by simp, fun j hj => ?_⟩
  rw [Lib.cell_of_heap (Array.getElem?_push_size), Array.getElem?_eq_getElem hj]
  have h1 := Array.all_eq_true.1 h j hj
  generalize arr[j] = v at *
  unfold wordB at h1
  split at h1
  · rename_i n
    rw [Bool.and_eq_true] at h1
    have a := of_decide_eq_true h1.1
    have b := of_decide_eq_true h1.2
    exact ⟨n.toNat, by rw [Int.toNat_of_nonneg a], by omega⟩
  · cases h1
/-- A row of 1201 bytes, of which the first k are '0'. -/
def LZ (w : World) (g k : Nat) : Prop := ∃ cur : Array Value, w.heap[g]? = some (.cells cur 5 (0, 0)) ∧ cur.size = 1201 ∧ (∀ j, j < 1201 → ∃ x, cur[j]? = some x) ∧ ∀ j, j < k → cur[j]? = some (.int .u8 48)
theorem LZ.new (w : World) (cur : Array Value) (h : cur.size = 1201) : LZ (w.alloc (.cells cur 5)) w.heap.size 0 :=
  ⟨cur, Array.getElem?_push_size, h, fun j hj => ⟨_, Array.getElem?_eq_getElem (by omega)⟩, fun j hj => by omega⟩
theorem LZ.set {w : World} {g k : Nat} (h : LZ w g k) (hk : k < 1201) : LZ (w.setCell ⟨g, k, none⟩ (.int .u8 48)) g (k + 1) := by
  obtain ⟨cur, h1, h2, h3, h4⟩ := h
  refine ⟨_, set_cur h1 k _, by rw [Array.size_setIfInBounds]; exact h2, fun j hj => ?_, fun j hj => ?_⟩
  · exact ⟨_, Array.getElem?_eq_getElem (by rw [Array.size_setIfInBounds]; omega)⟩
  · by_cases e : k = j
    · subst e; exact cur_eq _ (h3 k hk).choose_spec
    · rw [cur_ne _ e]; exact h4 j (by omega)
theorem LZ.cell {w : World} {g k : Nat} (h : LZ w g k) (hk : k < 1201) : ∃ x, w.cell? ⟨g, k, none⟩ = some x := by
  obtain ⟨cur, h1, h2, h3, h4⟩ := h
  obtain ⟨x, hx⟩ := h3 k hk
  exact ⟨x, by rw [cell_cur h1, hx]⟩
theorem LZ.fz {w : World} {g k : Nat} (h : LZ w g k) (i : Nat) : w.frozen? ⟨g, i, none⟩ = false := by
  obtain ⟨cur, h1, -⟩ := h
  unfold World.frozen?; simp only [h1]; simp
theorem LZ.lt {w : World} {g k : Nat} (h : LZ w g k) : g < w.heap.size := by
  obtain ⟨cur, h1, -⟩ := h
  exact (Array.getElem?_eq_some_iff.1 h1).1
theorem LZ.on {w W : World} {g k : Nat} (h : LZ w g k) (hb : Below w.heap.size w W) : LZ W g k := by
  have hl := h.lt
  obtain ⟨cur, h1, h2⟩ := h
  exact ⟨cur, (hb.block g hl).trans h1, h2⟩
theorem LZ.conv {w : World} {g : Nat} (h : LZ w g 1201) (n c : Nat) (hn : n ≤ 1201) : (convert 37 9 (.slice (some ⟨g, 0, none⟩) n c)).run Tryz.prog w = .ok (.string (BS (List.replicate n 48))) w := by
  have e : (List.replicate n (48 : UInt8)).length = n := List.length_replicate
  have := run_convert_bytes_back (P := Tryz.prog) w 37 9 5 ⟨g, 0, none⟩ c (List.replicate n 48) Tryz.underlying37 Tryz.underlying5 Tryz.underlying9 (fun k hk => by
    rw [e] at hk
    obtain ⟨cur, h1, h2, h3, h4⟩ := h
    rw [show (⟨g, 0, none⟩ : Addr).add k = ⟨g, k, none⟩ by simp [Addr.add]; exact fun h => h.symm, cell_cur h1, h4 k (by omega), List.getElem_replicate]
    rfl)
  rw [e] at this
  exact this
set_option maxRecDepth 100000 in
set_option maxHeartbeats 8000000 in
theorem small_law (w : World) (hG : BGlb w) : Calls Tryz.prog 7 #[] w fun e w' => e = .returned (.bool true) ∧ Below w.heap.size w w' := by
  have hGG := Lib.hid hG
  clear hG
  go_enter Tryz.func7, Tryz.ntmps7
  go_upto_block 0 with (fail)
  go_cut [1] (fun s1 wx => Hid (Below w.heap.size w wx))
  case first =>
    go_wp2_with fail
    go_loopg [13] (4096 + 1) (fun gk s13 wx => ∃ i : Nat, i ≤ 4096 ∧ 4096 - i < gk ∧ s13 = .int .i64 (i : Int) ∧ Hid (Below w.heap.size w wx))
    case atStart => exact ⟨0, by omega, by omega, rfl, Lib.hid (Below.refl _ _)⟩
    case round =>
      obtain ⟨i, hi, hgk, rfl, B⟩ := hrel
      by_cases hlt : i < 4096
      · have u1 : decide ((i : Int) < 4096) = true := decide_eq_true (by omega)
        obtain ⟨c0, r0⟩ := ix8 (i % 8) (by omega)
        obtain ⟨c1, r1⟩ := ix8 (i / 8 % 8) (by omega)
        obtain ⟨c2, r2⟩ := ix8 (i / 64 % 8) (by omega)
        obtain ⟨c3, r3⟩ := ix8 (i / 512) (by omega)
        go_upto_region 5 with (fail)
        go_cut [3] (fun s3 wx => ∃ g, s3 = .slice (some ⟨g, 0, none⟩) 4 4 ∧ Hid (Q4 wx g [c0, c1, c2, c3]) ∧ Hid (Below w.heap.size w wx))
        case first =>
          refine wp_region_facts2 (fun kq x W => match kq with
              | 0 => x = .string ⟨#[48, 49, 46, 101, 69, 43, 45, 78]⟩
              | 1 => x = .int .i64 (i : Int)
              | 2 => x = .int .i64 ((i % 8 : Nat) : Int)
              | 3 => x = .int .u8 (c0.toNat : Int)
              | 4 => x = .string ⟨#[48, 49, 46, 101, 69, 43, 45, 78]⟩
              | 5 => x = .int .i64 (i : Int)
              | 6 => x = .int .i64 ((i / 8 : Nat) : Int)
              | 7 => x = .int .i64 ((i / 8 % 8 : Nat) : Int)
              | 8 => x = .int .u8 (c1.toNat : Int)
              | 9 => x = .string ⟨#[48, 49, 46, 101, 69, 43, 45, 78]⟩
              | 10 => x = .int .i64 (i : Int)
              | 11 => x = .int .i64 ((i / 64 : Nat) : Int)
              | 12 => x = .int .i64 ((i / 64 % 8 : Nat) : Int)
              | 13 => x = .int .u8 (c2.toNat : Int)
              | 14 => x = .string ⟨#[48, 49, 46, 101, 69, 43, 45, 78]⟩
              | 15 => x = .int .i64 (i : Int)
              | 16 => x = .int .i64 ((i / 512 : Nat) : Int)
              | 17 => x = .int .u8 (c3.toNat : Int)
              | _ => ∃ g, x = .slice (some ⟨g, 0, none⟩) 4 4 ∧ Q4 W g [c0, c1, c2, c3]) (by kernel_rfl) (by kernel_rfl) (by decide +kernel) (by kernel_rfl) ?_ ?_ ?_
          · intro kq x W W' h hb
            rcases kq with _ | _ | _ | _ | _ | _ | _ | _ | _ | _ | _ | _ | _ | _ | _ | _ | _ | _ | _ | _ | kq
            · exact h
            · exact h
            · exact h
            · exact h
            · exact h
            · exact h
            · exact h
            · exact h
            · exact h
            · exact h
            · exact h
            · exact h
            · exact h
            · exact h
            · exact h
            · exact h
            · exact h
            · exact h
            · obtain ⟨g, h1, h2⟩ := h; exact ⟨g, h1, h2.on hb⟩
            · obtain ⟨g, h1, h2⟩ := h; exact ⟨g, h1, h2.on hb⟩
            · obtain ⟨g, h1, h2⟩ := h; exact ⟨g, h1, h2.on hb⟩
          · intro kq
            rcases kq with _ | _ | _ | _ | _ | _ | _ | _ | _ | _ | _ | _ | _ | _ | _ | _ | _ | _ | _ | _ | kq
            all_goals intro o ho a wa hba hout hsz2 hpre
            all_goals cases ho
            all_goals have q1 : a.tmps.getD 1 undef = .string ⟨#[48, 49, 46, 101, 69, 43, 45, 78]⟩ := (hout 1 (by decide +kernel)).trans rfl
            all_goals have q2 : a.tmps.getD 2 undef = .int .i64 (i : Int) := (hout 2 (by decide +kernel)).trans rfl
            all_goals clear hout hsz2
            · exact step_move rfl (met_none rfl) (.inl rfl) ⟨_, rfl, Below.refl _ _, q1⟩
            · exact step_move rfl (met_none rfl) (.inl rfl) ⟨_, rfl, Below.refl _ _, q2⟩
            · have p : a.tmps.getD 17 undef = .int .i64 (i : Int) := hpre ⟨1, .data⟩ (by simp) rfl _ rfl
              exact step_bin rfl (met_none rfl) rfl (u := .int .i64 (i : Int)) (v := .int .i64 8) p rfl (run_remN (i) 8 _ _ (by omega) (by decide) (by decide) wa) ⟨_, rfl, Below.refl _ _, rfl⟩
            · have p : a.tmps.getD 16 undef = .string ⟨#[48, 49, 46, 101, 69, 43, 45, 78]⟩ := hpre ⟨0, .data⟩ (by simp) rfl _ rfl
              have g : a.tmps.getD 18 undef = .int .i64 ((i % 8 : Nat) : Int) := hpre ⟨2, .data⟩ (by simp) rfl _ rfl
              exact step_index rfl (met_none rfl) rfl p g (r0 wa) ⟨_, rfl, Below.refl _ _, rfl⟩
            · exact step_move rfl (met_none rfl) (.inl rfl) ⟨_, rfl, Below.refl _ _, q1⟩
            · exact step_move rfl (met_none rfl) (.inl rfl) ⟨_, rfl, Below.refl _ _, q2⟩
            · have p : a.tmps.getD 21 undef = .int .i64 (i : Int) := hpre ⟨5, .data⟩ (by simp) rfl _ rfl
              exact step_bin rfl (met_none rfl) rfl (u := .int .i64 (i : Int)) (v := .int .i64 8) p rfl (run_quoN (i) 8 _ _ (by omega) (by decide) (by decide) wa) ⟨_, rfl, Below.refl _ _, rfl⟩
            · have p : a.tmps.getD 22 undef = .int .i64 ((i / 8 : Nat) : Int) := hpre ⟨6, .data⟩ (by simp) rfl _ rfl
              exact step_bin rfl (met_none rfl) rfl (u := .int .i64 ((i / 8 : Nat) : Int)) (v := .int .i64 8) p rfl (run_remN (i / 8) 8 _ _ (by omega) (by decide) (by decide) wa) ⟨_, rfl, Below.refl _ _, rfl⟩
            · have p : a.tmps.getD 20 undef = .string ⟨#[48, 49, 46, 101, 69, 43, 45, 78]⟩ := hpre ⟨4, .data⟩ (by simp) rfl _ rfl
              have g : a.tmps.getD 23 undef = .int .i64 ((i / 8 % 8 : Nat) : Int) := hpre ⟨7, .data⟩ (by simp) rfl _ rfl
              exact step_index rfl (met_none rfl) rfl p g (r1 wa) ⟨_, rfl, Below.refl _ _, rfl⟩
            · exact step_move rfl (met_none rfl) (.inl rfl) ⟨_, rfl, Below.refl _ _, q1⟩
            · exact step_move rfl (met_none rfl) (.inl rfl) ⟨_, rfl, Below.refl _ _, q2⟩
            · have p : a.tmps.getD 26 undef = .int .i64 (i : Int) := hpre ⟨10, .data⟩ (by simp) rfl _ rfl
              exact step_bin rfl (met_none rfl) rfl (u := .int .i64 (i : Int)) (v := .int .i64 64) p rfl (run_quoN (i) 64 _ _ (by omega) (by decide) (by decide) wa) ⟨_, rfl, Below.refl _ _, rfl⟩
            · have p : a.tmps.getD 27 undef = .int .i64 ((i / 64 : Nat) : Int) := hpre ⟨11, .data⟩ (by simp) rfl _ rfl
              exact step_bin rfl (met_none rfl) rfl (u := .int .i64 ((i / 64 : Nat) : Int)) (v := .int .i64 8) p rfl (run_remN (i / 64) 8 _ _ (by omega) (by decide) (by decide) wa) ⟨_, rfl, Below.refl _ _, rfl⟩
            · have p : a.tmps.getD 25 undef = .string ⟨#[48, 49, 46, 101, 69, 43, 45, 78]⟩ := hpre ⟨9, .data⟩ (by simp) rfl _ rfl
              have g : a.tmps.getD 28 undef = .int .i64 ((i / 64 % 8 : Nat) : Int) := hpre ⟨12, .data⟩ (by simp) rfl _ rfl
              exact step_index rfl (met_none rfl) rfl p g (r2 wa) ⟨_, rfl, Below.refl _ _, rfl⟩
            · exact step_move rfl (met_none rfl) (.inl rfl) ⟨_, rfl, Below.refl _ _, q1⟩
            · exact step_move rfl (met_none rfl) (.inl rfl) ⟨_, rfl, Below.refl _ _, q2⟩
            · have p : a.tmps.getD 31 undef = .int .i64 (i : Int) := hpre ⟨15, .data⟩ (by simp) rfl _ rfl
              exact step_bin rfl (met_none rfl) rfl (u := .int .i64 (i : Int)) (v := .int .i64 512) p rfl (run_quoN (i) 512 _ _ (by omega) (by decide) (by decide) wa) ⟨_, rfl, Below.refl _ _, rfl⟩
            · have p : a.tmps.getD 30 undef = .string ⟨#[48, 49, 46, 101, 69, 43, 45, 78]⟩ := hpre ⟨14, .data⟩ (by simp) rfl _ rfl
              have g : a.tmps.getD 32 undef = .int .i64 ((i / 512 : Nat) : Int) := hpre ⟨16, .data⟩ (by simp) rfl _ rfl
              exact step_index rfl (met_none rfl) rfl p g (r3 wa) ⟨_, rfl, Below.refl _ _, rfl⟩
            · have p0 : a.tmps.getD 19 undef = .int .u8 (c0.toNat : Int) := hpre ⟨3, .data⟩ (by simp) rfl _ rfl
              have p1 : a.tmps.getD 24 undef = .int .u8 (c1.toNat : Int) := hpre ⟨8, .data⟩ (by simp) rfl _ rfl
              have p2 : a.tmps.getD 29 undef = .int .u8 (c2.toNat : Int) := hpre ⟨13, .data⟩ (by simp) rfl _ rfl
              have p3 : a.tmps.getD 33 undef = .int .u8 (c3.toNat : Int) := hpre ⟨17, .data⟩ (by simp) rfl _ rfl
              exact step_b4 rfl (met_none rfl) rfl p0 p1 p2 p3 ⟨_, rfl, (Below.refl _ _).alloc (Nat.le_refl _) _, _, rfl, Q4.new wa c0 c1 c2 c3⟩
            · obtain ⟨g, p1, p2⟩ : ∃ g, a.tmps.getD 34 undef = .slice (some ⟨g, 0, none⟩) 4 4 ∧ Q4 wa g [c0, c1, c2, c3] := hpre ⟨18, .data⟩ (by simp) rfl _ rfl
              exact step_move rfl (met_none rfl) (.inr rfl) ⟨_, rfl, Below.refl _ _, g, p1, p2⟩
          · intro a W hb hall ha
            have f0 : a.tmps.getD 16 undef = .string ⟨#[48, 49, 46, 101, 69, 43, 45, 78]⟩ := hall 0 _ rfl
            have f1 : a.tmps.getD 17 undef = .int .i64 (i : Int) := hall 1 _ rfl
            have f2 : a.tmps.getD 18 undef = .int .i64 ((i % 8 : Nat) : Int) := hall 2 _ rfl
            have f3 : a.tmps.getD 19 undef = .int .u8 (c0.toNat : Int) := hall 3 _ rfl
            have f4 : a.tmps.getD 20 undef = .string ⟨#[48, 49, 46, 101, 69, 43, 45, 78]⟩ := hall 4 _ rfl
            have f5 : a.tmps.getD 21 undef = .int .i64 (i : Int) := hall 5 _ rfl
            have f6 : a.tmps.getD 22 undef = .int .i64 ((i / 8 : Nat) : Int) := hall 6 _ rfl
            have f7 : a.tmps.getD 23 undef = .int .i64 ((i / 8 % 8 : Nat) : Int) := hall 7 _ rfl
            have f8 : a.tmps.getD 24 undef = .int .u8 (c1.toNat : Int) := hall 8 _ rfl
            have f9 : a.tmps.getD 25 undef = .string ⟨#[48, 49, 46, 101, 69, 43, 45, 78]⟩ := hall 9 _ rfl
            have f10 : a.tmps.getD 26 undef = .int .i64 (i : Int) := hall 10 _ rfl
            have f11 : a.tmps.getD 27 undef = .int .i64 ((i / 64 : Nat) : Int) := hall 11 _ rfl
            have f12 : a.tmps.getD 28 undef = .int .i64 ((i / 64 % 8 : Nat) : Int) := hall 12 _ rfl
            have f13 : a.tmps.getD 29 undef = .int .u8 (c2.toNat : Int) := hall 13 _ rfl
            have f14 : a.tmps.getD 30 undef = .string ⟨#[48, 49, 46, 101, 69, 43, 45, 78]⟩ := hall 14 _ rfl
            have f15 : a.tmps.getD 31 undef = .int .i64 (i : Int) := hall 15 _ rfl
            have f16 : a.tmps.getD 32 undef = .int .i64 ((i / 512 : Nat) : Int) := hall 16 _ rfl
            have f17 : a.tmps.getD 33 undef = .int .u8 (c3.toNat : Int) := hall 17 _ rfl
            obtain ⟨g18, f18, k18⟩ : ∃ g, a.tmps.getD 34 undef = .slice (some ⟨g, 0, none⟩) 4 4 ∧ Q4 W g [c0, c1, c2, c3] := hall 18 _ rfl
            obtain ⟨g19, f19, k19⟩ : ∃ g, a.tmps.getD 3 undef = .slice (some ⟨g, 0, none⟩) 4 4 ∧ Q4 W g [c0, c1, c2, c3] := hall 19 _ rfl
            simp only [List.foldl, fillFrom, f0, f1, f2, f3, f4, f5, f6, f7, f8, f9, f10, f11, f12, f13, f14, f15, f16, f17, f18, f19] at ha
            clear hall f0 f1 f2 f3 f4 f5 f6 f7 f8 f9 f10 f11 f12 f13 f14 f15 f16 f17 f18 f19
            subst ha
            simp only [Act.put, List.setIfInBounds_toArray, List.set_cons_succ, List.set_cons_zero]
            have k19h := Lib.hid k19
            have hbh := Lib.hid (B.out.trans (hb.mono B.out.size))
            clear k18 k19 hb r0 r1 r2 r3
            go_wp2_with fail
            go_meet
            exact ⟨g19, rfl, k19h, hbh⟩
        case rest =>
          clear r0 r1 r2 r3
          obtain ⟨g, rfl, hq, B2⟩ := hcut
          obtain ⟨l, hl⟩ : ∃ l, Hid (l = [c0, c1, c2, c3]) := ⟨_, Lib.hid rfl⟩
          have hl4 : Hid (l.length = 4) := Lib.hid (by rw [hl.out]; rfl)
          rw [← hl.out] at hq
          clear hl B
          obtain ⟨k, hk⟩ : ∃ k : Nat, (i : Int) % 4 = (k : Int) := ⟨i % 4, by omega⟩
          have hk3 : k ≤ 3 := by omega
          have hcv := hq.out.conv hl4.out (1 + k) 4 (by omega)
          have e1 : ((1 : Int) + (k : Int)).toNat = 1 + k := by omega
          have p1 := Lib.hid (fun W (hb : Below w.heap.size w W) => parses_ok (BS (l.take (1 + k))) (.inl (by rw [BS_size, List.length_take]; omega)) W (hGG.out.on hb).a)
          have p2 := Lib.hid (fun W (hb : Below w.heap.size w W) => parses_ok (BS (l.take 4)) (.inl (by rw [BS_size, List.length_take]; omega)) W (hGG.out.on hb).a)
          have hqc := Lib.hid (fun W (hb : Below wc.heap.size wc W) => (hq.out.on hb).conv hl4.out 4 4 (by omega))
          go_wp2_with fail
          rw [hk]
          go_wp2_with fail
          refine (p1.out _ B2.out).mono ?_; rintro e w3 ⟨rfl, hb⟩
          have B3 := Lib.hid (B2.out.trans (hb.mono B2.out.size))
          have hcw := hqc.out w3 hb
          clear hb hcv p1
          go_wp2_with fail
          refine (p2.out _ B3.out).mono ?_; rintro e w4 ⟨rfl, hb⟩
          have B4 := Lib.hid (B3.out.trans (hb.mono B3.out.size))
          clear hb hcw p2
          go_wp2_with fail
          go_roundg (gk - 1)
          case measure => omega
          case rel => exact ⟨i + 1, by omega, by omega, by go_num, B4⟩
      · obtain rfl : i = 4096 := by omega
        go_wp2_with fail
        go_meet
        exact B
  case rest =>
    go_upto_block 2 with (fail)
    go_cut [50] (fun s50 wx => Hid (Below w.heap.size w wx))
    case first =>
      have hS : ∀ arr t, arr.all shortB = true → Hid (SL (wc.alloc (.cells arr t)) wc.heap.size arr.size) := fun arr t h => Lib.hid (SL.new wc arr t h)
      have hB0 : ∀ ob, Hid (Below w.heap.size w (wc.alloc ob)) := fun ob => Lib.hid (hcut.out.alloc hcut.out.size ob)
      have hgs := hcut.out.size
      go_wp2_with fail
      go_loopg [52] (42 + 1) (fun gk s52 wx => ∃ i : Nat, i ≤ 42 ∧ 42 - i < gk ∧ s52 = .int .i64 (i : Int) ∧ Hid (SL wx wc.heap.size 42) ∧ Hid (Below w.heap.size w wx))
      case atStart => exact ⟨0, by omega, by omega, rfl, hS _ _ (by kernel_rfl), hB0 _⟩
      case round =>
        clear hS hB0
        obtain ⟨i, hi, hgk, rfl, hL, B⟩ := hrel
        by_cases hlt : i < 42
        · have u1 : decide ((i : Int) < 42) = true := decide_eq_true (by omega)
          obtain ⟨s, hcell, hs⟩ := hL.out.2 i hlt
          have p := Lib.hid (parses_ok s (.inl (by omega)) wr (hGG.out.on B.out).a)
          go_wp2_with fail
          refine p.out.mono ?_; rintro e w3 ⟨rfl, hb⟩
          have B3 := Lib.hid (B.out.trans (hb.mono B.out.size))
          have hL3 := Lib.hid (hL.out.on hb)
          clear hb p hcell
          go_wp2_with fail
          go_roundg (gk - 1)
          case measure => omega
          case rel => exact ⟨i + 1, by omega, by omega, by go_num, hL3, B3⟩
        · obtain rfl : i = 42 := by omega
          go_wp2_with fail
          go_meet
          exact B
    case rest =>
      have hmk : ∀ W : World, (Instr.makeSlice 37 (.int .i64 1201) (.int .i64 1201)).run Tryz.prog W = .ok (.slice (some ⟨W.heap.size, 0, none⟩) 1201 1201) (W.alloc (.cells (madeCells #[.int .u8 0] 1201) 5)) := fun W =>
        run_make_row' 37 5 (.int .u8 0) 1 Tryz.underlying37 info5 rfl .i64 .i64 1201 (by decide) (by decide) W
      obtain ⟨cur0, hc0⟩ : ∃ c, c = madeCells #[Value.int .u8 0] 1201 := ⟨_, rfl⟩
      rw [← hc0] at hmk
      have hz0 := Lib.hid (LZ.new wc cur0 (by rw [hc0, size_madeCells]))
      have hb0 := Lib.hid (hcut.out.alloc hcut.out.size (.cells cur0 5))
      clear hc0
      have hgz2 : w.heap.size ≤ wc.heap.size := hcut.out.size
      go_upto_block 4 with (fail)
      go_cut [6] (fun s6 wx => s6 = .slice (some ⟨wc.heap.size, 0, none⟩) 1201 1201 ∧ Hid (LZ wx wc.heap.size 1201) ∧ Hid (Below w.heap.size w wx))
      case first =>
        go_wp2_with fail
        go_loopg [63] (1201 + 1) (fun gk s63 wx => ∃ i : Nat, i ≤ 1201 ∧ 1201 - i < gk ∧ s63 = .int .i64 (i : Int) ∧ Hid (LZ wx wc.heap.size i) ∧ Hid (Below w.heap.size w wx))
        case atStart => exact ⟨0, by omega, by omega, rfl, hz0, hb0⟩
        case round =>
          clear hz0 hb0 hmk
          obtain ⟨i, hi, hgk, rfl, hL, B⟩ := hrel
          by_cases hlt : i < 1201
          · have u1 : decide ((i : Int) < 1201) = true := decide_eq_true (by omega)
            obtain ⟨x, hx⟩ := hL.out.cell hlt
            have fz := hL.out.fz i
            have hL2 := Lib.hid (hL.out.set hlt)
            have hB2 := Lib.hid (B.out.setCell (p := ⟨wc.heap.size, i, none⟩) hgz2 (.int .u8 48))
            go_wp2_with fail
            go_roundg (gk - 1)
            case measure => omega
            case rel => exact ⟨i + 1, by omega, by omega, by go_num, hL2, hB2⟩
          · obtain rfl : i = 1201 := by omega
            go_wp2_with fail
            go_meet
            exact ⟨rfl, hL, B⟩
      case rest =>
        clear hz0 hb0 hmk
        obtain ⟨rfl, hL, B⟩ := hcut
        obtain ⟨z1, hz1⟩ : ∃ z : List UInt8, Hid (z = List.replicate 1201 48) := ⟨_, Lib.hid rfl⟩
        obtain ⟨z2, hz2⟩ : ∃ z : List UInt8, Hid (z = zz) := ⟨_, Lib.hid rfl⟩
        have hcv := hL.out.conv 1201 1201 (by omega)
        rw [← hz1.out] at hcv
        have p1 := Lib.hid (fun W (hb : Below w.heap.size w W) => parses_ok (BS z1) (.inr (by rw [BS_size, hz1.out, List.length_replicate]; decide)) W (hGG.out.on hb).a)
        have p2 := Lib.hid (fun W (hb : Below w.heap.size w W) => parses_zz W (hGG.out.on hb))
        rw [← hz2.out] at p2
        have hqc := Lib.hid (fun W hb => (hL.out.on (W := W) hb).conv 1200 1201 (by omega))
        rw [show List.replicate 1200 (48 : UInt8) = z2 from hz2.out.symm] at hqc
        go_wp2_with fail
        refine (p1.out _ B.out).mono ?_; rintro e w3 ⟨rfl, hb⟩
        have hcw := hqc.out w3 hb
        replace B := Lib.hid (B.out.trans (hb.mono B.out.size))
        clear hb hcv p1 hqc hL
        go_wp2_with fail
        refine (p2.out _ B.out).mono ?_; rintro e w4 ⟨rfl, hb⟩
        replace B := Lib.hid (B.out.trans (hb.mono B.out.size))
        clear hb hcw p2
        have hW : ∀ arr t, arr.all wordB = true → Hid (WL (w4.alloc (.cells arr t)) w4.heap.size arr.size) := fun arr t h => Lib.hid (WL.new w4 arr t h)
        have hB0 : ∀ ob, Hid (Below w.heap.size w (w4.alloc ob)) := fun ob => Lib.hid (B.out.alloc B.out.size ob)
        go_wp2_with fail
        go_loopg [84] (13 + 1) (fun gk s84 wx => ∃ i : Nat, i ≤ 13 ∧ 13 - i < gk ∧ s84 = .int .i64 (i : Int) ∧ Hid (WL wx w4.heap.size 13) ∧ Hid (Below w.heap.size w wx))
        case atStart => exact ⟨0, by omega, by omega, rfl, hW _ _ (by kernel_rfl), hB0 _⟩
        case round =>
          clear hW hB0 B
          obtain ⟨i, hi, hgk, rfl, hL, B⟩ := hrel
          by_cases hlt : i < 13
          · have u1 : decide ((i : Int) < 13) = true := decide_eq_true (by omega)
            obtain ⟨x, hcell, hx⟩ := hL.out.2 i hlt
            obtain ⟨G, hG1, hG2⟩ : ∃ G, G < gk ∧ 13 - (i + 1) < G := ⟨gk - 1, by omega, by omega⟩
            have hG1h := Lib.hid hG1
            clear hG1
            go_wp2_with fail
            go_loopg [90] (13 + 1) (fun gk s90 wx => ∃ j : Nat, j ≤ 13 ∧ 13 - j < gk ∧ s90 = .int .i64 (j : Int) ∧ Hid (WL wx w4.heap.size 13) ∧ Hid (Below w.heap.size w wx))
            case atStart => exact ⟨0, by omega, by omega, rfl, hL, B⟩
            case round =>
                clear hL B hcell
                obtain ⟨j, hj, hgk2, rfl, hL, B⟩ := hrel
                by_cases hlt2 : j < 13
                · have u2 : decide ((j : Int) < 13) = true := decide_eq_true (by omega)
                  obtain ⟨y, hcell, hy⟩ := hL.out.2 j hlt2
                  obtain ⟨xo, hxo, hxb⟩ : ∃ xo : Nat, bits .or .u64 (x : Int) 9223372036854775808 = (xo : Int) ∧ xo < 18446744073709551616 :=
                    ⟨x ||| 9223372036854775808, u64_or_nat x 9223372036854775808 hx (by decide), Nat.or_lt_two_pow (n := 64) hx (by decide)⟩
                  obtain ⟨yo, hyo, hyb⟩ : ∃ yo : Nat, bits .or .u64 (y : Int) 9223372036854775808 = (yo : Int) ∧ yo < 18446744073709551616 :=
                    ⟨y ||| 9223372036854775808, u64_or_nat y 9223372036854775808 hy (by decide), Nat.or_lt_two_pow (n := 64) hy (by decide)⟩
                  have t1 := Lib.hid (fun W (hb : Below w.heap.size w W) => tells_any x y hx hy W (hGG.out.on hb).a)
                  have t2 := Lib.hid (fun W (hb : Below w.heap.size w W) => tells_any xo y hxb hy W (hGG.out.on hb).a)
                  have t3 := Lib.hid (fun W (hb : Below w.heap.size w W) => tells_any x yo hx hyb W (hGG.out.on hb).a)
                  have t4 := Lib.hid (fun W (hb : Below w.heap.size w W) => tells_any xo yo hxb hyb W (hGG.out.on hb).a)
                  go_wp2_with fail
                  refine (t1.out _ B.out).mono ?_; rintro e w5 ⟨rfl, hb⟩
                  replace B := Lib.hid (B.out.trans (hb.mono B.out.size))
                  replace hL := Lib.hid (hL.out.on hb)
                  clear hb t1 hcell
                  go_wp2_with fail
                  refine (t2.out _ B.out).mono ?_; rintro e w6 ⟨rfl, hb⟩
                  replace B := Lib.hid (B.out.trans (hb.mono B.out.size))
                  replace hL := Lib.hid (hL.out.on hb)
                  clear hb t2
                  go_wp2_with fail
                  refine (t3.out _ B.out).mono ?_; rintro e w7 ⟨rfl, hb⟩
                  replace B := Lib.hid (B.out.trans (hb.mono B.out.size))
                  replace hL := Lib.hid (hL.out.on hb)
                  clear hb t3
                  go_wp2_with fail
                  refine (t4.out _ B.out).mono ?_; rintro e w8 ⟨rfl, hb⟩
                  replace B := Lib.hid (B.out.trans (hb.mono B.out.size))
                  replace hL := Lib.hid (hL.out.on hb)
                  clear hb t4
                  go_wp2_with fail
                  go_roundg (gk - 1)
                  case measure => omega
                  case rel => exact ⟨j + 1, by omega, by omega, by go_num, hL, B⟩
                · obtain rfl : j = 13 := by omega
                  go_wp2_with fail
                  go_roundg G
                  case measure => exact hG1h.out
                  case rel => exact ⟨i + 1, by omega, by omega, by go_num, hL, B⟩
          · obtain rfl : i = 13 := by omega
            have cA := Lib.hid (awake_any wr (hGG.out.on B.out).a)
            go_wp2_with fail
            refine cA.out.mono ?_; rintro e w5 ⟨rfl, hb⟩
            replace B := Lib.hid (B.out.trans (hb.mono B.out.size))
            clear hb cA
            go_wp2_with fail
            go_ret
            exact ⟨rfl, B.out⟩
theorem decimalSmall_walk (w : World) (hG : BGlb w) : Calls Tryz.prog 7 #[] w fun e w' => e = .returned (.bool true) ∧ Below w.heap.size w w' := small_law w hG
end Go.Proofs.YtaidemghhagniaaGreatDoor
end
