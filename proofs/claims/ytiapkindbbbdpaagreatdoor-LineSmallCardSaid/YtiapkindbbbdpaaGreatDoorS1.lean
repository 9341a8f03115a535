/- Plain facts on the closed strings of LineSmall. -/
import Derived.Test.YtiapkindbbbdpaaGreatDoorP4
import Derived.Test.YtiapkindbbbdpaaGreatDoorT3
import Derived.Test.YtiapkindbbbdpaaGreatDoorK12
import Derived.Lib.Repeat
namespace Go.Proofs.YtiapkindbbbdpaaGreatDoor
set_option linter.unusedVariables false

theorem ck_asc (s : ByteArray) (h : ∀ i, i < s.size → byt s i < 128) : ∀ (f k : Nat), s.size < f + k → k ≤ s.size → (ckf s f k).2 = 0 := by
  intro f
  induction f with
  | zero => intro k h1 h2; omega
  | succ f ih =>
    intro k h1 h2
    unfold ckf
    by_cases hk : k < s.size
    · have hb := h k hk
      have hr : rd s k = (byt s k, 1, 0) := by
        unfold rd
        have e1 : hdn (byt s (k : Int).toNat) = 1 := by rw [Int.toNat_natCast]; unfold hdn; rw [if_pos hb]
        have e2 : hdx (byt s (k : Int).toNat) = byt s k := by rw [Int.toNat_natCast]; unfold hdx; rw [if_pos hb]
        rw [if_neg (by omega), if_neg (by omega), e1, if_neg (by omega), rdl_end _ _ _ _ _ (by omega), e2]
        rfl
      rw [if_pos hk, hr, if_pos rfl]
      show (ckf s f (k + 1)).2 = 0
      exact ih (k + 1) (by omega) (by omega)
    · rw [if_neg hk]
theorem vld_asc (l : List UInt8) (h : ∀ c ∈ l, c < 128) : vld ⟨l.toArray⟩ = true := by
  have hz : (⟨l.toArray⟩ : ByteArray).size = l.length := by simp [ByteArray.size]
  unfold vld ck
  rw [ck_asc _ (fun i hi => ?_) _ 0 (by omega) (by omega)]
  · rfl
  · rw [hz] at hi
    unfold byt
    rw [show (⟨l.toArray⟩ : ByteArray).data.toList = l by simp, List.getD_eq_getElem?_getD, List.getElem?_eq_getElem hi, Option.getD_some]
    have := h _ (List.getElem_mem hi)
    rw [UInt8.lt_iff_toNat_lt] at this
    have : ((l[i].toNat : Nat) : Int) < 128 := by have e : (128 : UInt8).toNat = 128 := rfl; omega
    exact this
theorem bytes_size (l : List UInt8) : (⟨l.toArray⟩ : ByteArray).size = l.length := by simp [ByteArray.size]
/-- n letters x. -/
def xs (n : Nat) : List UInt8 := List.replicate n 120
theorem xs_len (n : Nat) : (xs n).length = n := List.length_replicate
theorem xs_mem {n : Nat} {c : UInt8} (h : c ∈ xs n) : c = 120 := (List.mem_replicate.1 h).2
theorem bare_xs : bareF ⟨(xs 16384).toArray⟩ = true := by
  unfold bareF
  rw [bytes_size, xs_len, vld_asc _ (fun c hc => by rw [xs_mem hc]; decide)]
  simp only [Bool.and_eq_true, decide_eq_true_eq, List.all_eq_true]
  exact ⟨⟨⟨by omega, by omega⟩, trivial⟩, fun c hc => by rw [xs_mem (n := 16384) hc]; decide⟩
theorem bare_long (l : List UInt8) (h : 16384 < l.length) : bareF ⟨l.toArray⟩ = false := by
  unfold bareF
  rw [bytes_size, decide_eq_false (p := l.length ≤ 16384) (by omega)]
  simp
theorem right_long (l : List UInt8) (h : 16384 < l.length) : rightF ⟨l.toArray⟩ true = false := by
  unfold rightF
  rw [if_pos rfl, bytes_size, decide_eq_false (p := l.length ≤ 16384) (by omega)]
  rfl
theorem quL_xs : ∀ n, quL (xs n) = xs n
  | 0 => rfl
  | n + 1 => by
    show quL (120 :: xs n) = 120 :: xs n
    rw [quL_cons, quL_xs n]; rfl
theorem xs_snoc (n : Nat) : xs n ++ [120] = xs (n + 1) := by unfold xs; rw [List.replicate_succ']
theorem xs_head (n : Nat) : (xs (n + 1)).getD 0 0 = 120 := rfl
def ww (n : Nat) : List Wd := List.replicate n ([119], false)
theorem s_many : splitF (Lib.repeatL [119, 32] 64) = (0, ww 64) := by decide +kernel
theorem s_more : splitF (Lib.repeatL [119, 32] 64 ++ [119]) = (5, []) := by decide +kernel
theorem s_note : splitF (Lib.repeatL [119, 32] 64 ++ [35, 32, 120]) = (0, ww 64) := by decide +kernel
theorem j_many : joinF (ww 64) = (0, Lib.trimSuffix (Lib.repeatL [119, 32] 64) [32]) := by decide +kernel
theorem j_more : joinF (ww 64 ++ [([119], false)]) = (5, []) := by decide +kernel
theorem split_one (l : List UInt8) (hl : l.length ≤ 65536) (h1 : l ≠ []) (h2 : l.getD 0 0 ≠ 32 ∧ l.getD 0 0 ≠ 9 ∧ l.getD 0 0 ≠ 35) (e : Int) (he : (nextF l).1 = e) (h0 : e ≠ 0) : splitF l = (e, []) := by
  unfold splitF
  rw [if_neg (by omega)]
  unfold splitN
  have ht : Lib.trimLeftS l [32, 9] = l := trim_none l (fun c r h => by subst h; exact ⟨h2.1, h2.2.1⟩)
  rw [ht, if_neg (by rintro (h | h); exact h1 h; exact h2.2.2 h), he, if_pos h0]
theorem s_quote : splitF (34 :: (xs 16384 ++ [120, 34])) = (251, []) := by
  have hx : (34 :: (xs 16384 ++ [120, 34]) : List UInt8).drop 1 = quL (xs 16385) ++ 34 :: [] := by
    rw [quL_xs]
    show xs 16384 ++ ([120] ++ [34]) = _
    rw [← List.append_assoc, xs_snoc]
  have hq : quF (34 :: (xs 16384 ++ [120, 34])) = (0, xs 16385, (quL (xs 16385)).length + 2) := by
    unfold quF
    rw [hx, rdq_quL]
    unfold comb
    simp
  refine split_one _ ?_ (by simp) ⟨by decide, by decide, by decide⟩ 251 ?_ (by decide)
  · simp only [List.length_cons, List.length_append, xs_len, List.length_nil]; omega
  · have hh : (34 :: (xs 16384 ++ [120, 34]) : List UInt8).getD 0 0 = 34 := rfl
    unfold nextF
    rw [hh, if_pos rfl, hq]
    simp only
    rw [if_pos (.inr (right_long _ (by rw [xs_len]; omega)))]
theorem word_xs (n : Nat) : wordN (xs n) = n := by
  unfold wordN
  rw [tw_all _ _ (fun c hc => by rw [xs_mem hc]; decide), xs_len]
theorem s_bare : splitF (xs 16384 ++ [120]) = (250, []) := by
  rw [xs_snoc]
  have h0 : (xs (16384 + 1)).getD 0 0 = 120 := xs_head _
  refine split_one _ (by rw [xs_len]; omega) ?_ ⟨by rw [h0]; decide, by rw [h0]; decide, by rw [h0]; decide⟩ 250 ?_ (by decide)
  · intro h; have := congrArg List.length h; rw [xs_len] at this; simp at this
  · unfold nextF
    rw [h0, if_neg (by decide)]
    have hw : wordN (xs 16385) = (xs 16385).length := by rw [xs_len]; exact word_xs _
    rw [hw, List.take_of_length_le (Nat.le_refl _), bare_long _ (by rw [xs_len]; omega), if_pos rfl]
theorem s_long : splitF (Lib.repeatL [32] 65537) = (3, []) := by
  unfold splitF
  rw [if_pos (by rw [Lib.repeatL_length]; decide)]
theorem s_blank : splitF (Lib.repeatL [32] 65536) = (0, []) := by
  unfold splitF
  rw [if_neg (by rw [Lib.repeatL_length]; decide)]
  unfold splitN
  have : Lib.trimLeftS (Lib.repeatL [32] 65536) [32, 9] = [] := by
    have h := trim_blank (Lib.repeatL [32] 65536) [] (fun c hc => by
      rw [show ([32] : List UInt8) = List.replicate 1 32 from rfl, Lib.repeatL_replicate] at hc
      exact .inl (List.mem_replicate.1 hc).2)
    rw [List.append_nil] at h
    rw [h]; rfl
  rw [this, if_pos (.inl rfl)]
theorem p_long : parseF (Lib.repeatL [10] 65537) = (3, 0, []) := by
  unfold parseF
  rw [if_pos (by rw [Lib.repeatL_length]; decide)]
theorem lines_feeds : ∀ (n : Nat) (l : List UInt8), linesL (List.replicate n 10 ++ l) = List.replicate n [] ++ linesL l
  | 0, l => rfl
  | n + 1, l => by
    rw [List.replicate_succ, List.cons_append, linesL_cons _ (by simp)]
    rw [List.takeWhile_cons, List.dropWhile_cons]
    simp only [bne_self_eq_false, Bool.false_eq_true, if_false, List.drop_succ_cons, List.drop_zero]
    rw [lines_feeds n l]; rfl
theorem parse_nones (e : Int) (l : List UInt8) (he : (splitF l).1 = e) (h0 : e ≠ 0) : ∀ (n k : Nat), parseN (List.replicate n [] ++ [l]) k [] = (e, k + n + 1, [])
  | 0, k => by
    show parseN [l] k [] = _
    unfold parseN
    rw [he, if_pos h0]
  | n + 1, k => by
    rw [List.replicate_succ, List.cons_append]
    unfold parseN
    have : splitF [] = (0, []) := by decide +kernel
    rw [this, if_neg (by simp)]
    show parseN (List.replicate n [] ++ [l]) (k + 1) [] = _
    rw [parse_nones e l he h0 n (k + 1)]
    congr 2; simp; omega
theorem p_quote : parseF (Lib.repeatL [10] 65535 ++ [34]) = (251, 65536, []) := by
  unfold parseF
  rw [if_neg (by rw [List.length_append, Lib.repeatL_length]; decide), show ([10] : List UInt8) = List.replicate 1 10 from rfl, Lib.repeatL_replicate, Nat.mul_one, lines_feeds]
  rw [linesL_cons _ (by simp)]
  have h1 : ([34] : List UInt8).takeWhile (· != 10) = [34] := by decide
  have h2 : (([34] : List UInt8).dropWhile (· != 10)).drop 1 = [] := by decide
  rw [h1, h2, linesL_nil, parse_nones 251 [34] (by decide +kernel) (by decide) 65535 0]
def big (n : Nat) : List Wd := List.replicate n (xs 16384, false)
theorem right_xs : rightW (xs 16384, false) = true := bare_xs
theorem big_right (n : Nat) : (big n).all rightW = true := by
  rw [List.all_eq_true]; intro p hp
  rw [(List.mem_replicate.1 hp).2]; exact right_xs
theorem big_form (n : Nat) : (big n).map formW = List.replicate n (xs 16384) := by
  unfold big; rw [List.map_replicate]; rfl
theorem tail_len (x : List UInt8) : ∀ n, (Lib.joinTail [32] (List.replicate n x)).length = n * (x.length + 1)
  | 0 => by simp [Lib.joinTail]
  | n + 1 => by
    have := tail_len x n
    unfold Lib.joinTail at this ⊢
    rw [List.replicate_succ, List.map_cons, List.flatten_cons, List.length_append, this, List.length_append, Nat.succ_mul]
    simp; omega
theorem big_len (n : Nat) : (Lib.join ((big (n + 1)).map formW) [32]).length = 16384 + n * 16385 := by
  rw [big_form, List.replicate_succ, Lib.join_cons, List.length_append, tail_len, xs_len]
theorem j_big : joinF (big 9) = (3, []) := by
  unfold joinF
  rw [big_right, if_neg (by simp), if_neg (by simp [big]), if_pos (by rw [big_len 8]; omega)]
theorem j_two : joinF (big 2) = (0, Lib.join ((big 2).map formW) [32]) := by
  unfold joinF
  rw [big_right, if_neg (by simp), if_neg (by simp [big]), if_neg (by rw [big_len 1]; omega)]
theorem w_big : writeF [big 2, big 2, []] = (3, -1, []) := by
  have h0 : joinF [] = (0, []) := by decide +kernel
  have hl := big_len 1
  unfold writeF
  unfold writeN
  rw [j_two, if_neg (by simp)]
  unfold writeN
  rw [j_two, if_neg (by simp)]
  unfold writeN
  rw [h0, if_neg (by simp)]
  unfold writeN
  generalize Lib.join ((big 2).map formW) [32] = T at hl
  have e1 : (T ++ [10]).length = 32770 := by rw [List.length_append, hl]; rfl
  have e2 : (T ++ [10] ++ (T ++ [10])).length = 65540 := by rw [List.length_append, e1]
  simp only [List.length_nil, Nat.zero_le, if_true, List.nil_append]
  simp [hl]
theorem w_word : writeF [big 2, [([], false)], big 9] = (250, 1, []) := by
  have h1 : joinF [([], false)] = (250, []) := by decide +kernel
  unfold writeF
  unfold writeN
  rw [j_two, if_neg (by simp)]
  unfold writeN
  rw [h1, if_pos (by simp)]; rfl
end Go.Proofs.YtiapkindbbbdpaaGreatDoor
