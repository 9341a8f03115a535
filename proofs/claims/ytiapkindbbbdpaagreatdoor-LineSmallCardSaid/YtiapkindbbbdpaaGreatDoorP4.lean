/- Plain facts: what is joined is split again. -/
import Derived.Test.YtiapkindbbbdpaaGreatDoorQ2
namespace Go.Proofs.YtiapkindbbbdpaaGreatDoor

theorem quL_cons (c : UInt8) (t : List UInt8) : quL (c :: t) = encq c ++ quL t := by simp [quL]
theorem rdq_cons_other (c : UInt8) (l : List UInt8) (hl : l ≠ []) (h1 : c ≠ 10) (h2 : c ≠ 34) (h3 : c ≠ 92) : rdq (c :: l) = comb [c] 1 (rdq l) := by
  cases l with
  | nil => exact absurd rfl hl
  | cons x t => rw [rdq, if_neg h1, if_neg h2, if_neg h3]
theorem rdq_quL (t r : List UInt8) : rdq (quL t ++ 34 :: r) = (0, t, (quL t).length) := by
  induction t with
  | nil => cases r <;> rfl
  | cons c t ih =>
    rw [quL_cons, List.append_assoc, List.length_append]
    unfold encq
    by_cases h1 : c = 92
    · subst h1
      show rdq (92 :: 92 :: (quL t ++ 34 :: r)) = _
      rw [rdq, if_neg (by decide), if_neg (by decide), if_pos rfl, if_neg (by decide), ih]
      simp [comb, esc]
    · rw [if_neg h1]
      by_cases h2 : c = 10
      · subst h2
        show rdq (92 :: 110 :: (quL t ++ 34 :: r)) = _
        rw [rdq, if_neg (by decide), if_neg (by decide), if_pos rfl, if_neg (by decide), ih]
        simp [comb, esc]
      · rw [if_neg h2]
        by_cases h3 : c = 34
        · subst h3
          show rdq (92 :: 34 :: (quL t ++ 34 :: r)) = _
          rw [rdq, if_neg (by decide), if_neg (by decide), if_pos rfl, if_neg (by decide), ih]
          simp [comb, esc]
        · rw [if_neg h3]
          show rdq (c :: (quL t ++ 34 :: r)) = _
          rw [rdq_cons_other c _ (by simp) h2 h3 h1, ih]
          simp [comb]
/-- What may stand behind a word. -/
def endR (r : List UInt8) : Prop := r = [] ∨ endc (r.getD 0 0) = true
theorem okc_not (c : UInt8) (h : okc c = true) : endc c = false ∧ c ≠ 34 := by
  unfold okc at h
  rw [Bool.not_eq_true', Bool.or_eq_false_iff, Bool.or_eq_false_iff, Bool.or_eq_false_iff] at h
  obtain ⟨⟨⟨h1, _⟩, h2⟩, h3⟩ := h
  refine ⟨?_, by simpa using h2⟩
  unfold endc
  rw [Bool.or_eq_false_iff, Bool.or_eq_false_iff, beq_eq_false_iff_ne, beq_eq_false_iff_ne]
  refine ⟨⟨?_, ?_⟩, h3⟩
  · rintro rfl; exact absurd h1 (by decide)
  · rintro rfl; exact absurd h1 (by decide)
theorem bareF_list {t : List UInt8} (h : bareF ⟨t.toArray⟩ = true) : t ≠ [] ∧ ∀ c ∈ t, okc c = true := by
  unfold bareF at h
  rw [Bool.and_eq_true, Bool.and_eq_true, Bool.and_eq_true] at h
  obtain ⟨⟨⟨h1, _⟩, _⟩, h2⟩ := h
  refine ⟨?_, ?_⟩
  · rintro rfl
    exact absurd h1 (by decide)
  · exact List.all_eq_true.1 h2
theorem wordN_app (t r : List UInt8) (ht : ∀ c ∈ t, endc c = false) (hr : endR r) : wordN (t ++ r) = t.length := by
  induction t with
  | nil =>
    unfold wordN
    rcases hr with rfl | hr
    · rfl
    · cases r with
      | nil => rfl
      | cons c r =>
        have : endc c = true := hr
        rw [List.nil_append, List.takeWhile_cons, if_neg (by simp [this])]
  | cons c t ih =>
    have h1 := ht c (List.mem_cons_self ..)
    have h2 := ih (fun x hx => ht x (List.mem_cons_of_mem _ hx))
    unfold wordN at h2 ⊢
    rw [List.cons_append, List.takeWhile_cons, if_pos (by simp [h1]), List.length_cons, h2, List.length_cons]
/-- A form is read back. -/
theorem nextF_form (p : Wd) (r : List UInt8) (hp : rightW p = true) (hr : endR r) : nextF (formW p ++ r) = (0, p.1, p.2, r) := by
  obtain ⟨t, q⟩ := p
  unfold rightW at hp
  cases q with
  | false =>
    have hb : bareF ⟨t.toArray⟩ = true := hp
    obtain ⟨h1, h2⟩ := bareF_list hb
    have hw := wordN_app t r (fun c hc => (okc_not c (h2 c hc)).1) hr
    have h0 : (t ++ r).getD 0 0 ≠ 34 := by
      cases t with
      | nil => exact absurd rfl h1
      | cons c t => exact (okc_not c (h2 c (List.mem_cons_self ..))).2
    unfold nextF
    show (if (t ++ r).getD 0 0 = 34 then _ else _) = _
    rw [if_neg h0]
    show (if bareF ⟨((t ++ r).take (wordN (t ++ r))).toArray⟩ = false then _ else (0, (t ++ r).take (wordN (t ++ r)), false, (t ++ r).drop (wordN (t ++ r)))) = _
    rw [hw, List.take_left, List.drop_left, hb, if_neg (by decide)]
  | true =>
    have hq : quF (34 :: (quL t ++ 34 :: r)) = (0, t, (quL t).length + 2) := by
      unfold quF
      rw [List.drop_one, List.tail_cons, rdq_quL]
      simp [comb]
    have hf : formW (t, true) ++ r = 34 :: (quL t ++ 34 :: r) := by simp [formW]
    have hend : endsF (34 :: (quL t ++ 34 :: r)) ((quL t).length + 2) = true := by
      unfold endsF
      rcases hr with rfl | hr
      · simp
      · rw [Bool.or_eq_true]
        right
        have : (34 :: (quL t ++ 34 :: r)).getD ((quL t).length + 2) 0 = r.getD 0 0 := by
          rw [List.getD_eq_getElem?_getD, List.getD_eq_getElem?_getD]
          congr 1
          rw [show (quL t).length + 2 = ((quL t).length + 1) + 1 by omega, List.getElem?_cons_succ, List.getElem?_append_right (by omega), Nat.add_sub_cancel_left]
          rfl
        rw [this]; exact hr
    have hd : (34 :: (quL t ++ 34 :: r)).drop ((quL t).length + 2) = r := by
      rw [List.drop_succ_cons, List.drop_append]
      simp
    unfold nextF
    rw [hf, if_pos (by rfl), hq]
    simp only
    rw [if_neg (by rintro (h | h); exact h rfl; rw [hp] at h; cases h), hend, if_neg (by decide), hd]
theorem trim_blank (b r : List UInt8) (hb : ∀ c ∈ b, c = 32 ∨ c = 9) : Lib.trimLeftS (b ++ r) [32, 9] = Lib.trimLeftS r [32, 9] := by
  induction b with
  | nil => rfl
  | cons c b ih =>
    have h2 := ih (fun x hx => hb x (List.mem_cons_of_mem _ hx))
    unfold Lib.trimLeftS at h2 ⊢
    rw [List.cons_append, List.dropWhile_cons, if_pos, h2]
    rcases hb c (List.mem_cons_self ..) with rfl | rfl <;> decide
theorem trim_none (l : List UInt8) (h : ∀ c r, l = c :: r → c ≠ 32 ∧ c ≠ 9) : Lib.trimLeftS l [32, 9] = l := by
  cases l with
  | nil => rfl
  | cons c r =>
    obtain ⟨h1, h2⟩ := h c r rfl
    unfold Lib.trimLeftS
    rw [List.dropWhile_cons, if_neg]
    intro hc
    simp at hc
    rcases hc with e | e
    · exact h1 e
    · exact h2 e
theorem form_head (p : Wd) (r : List UInt8) (hp : rightW p = true) : ∃ c t, formW p ++ r = c :: t ∧ c ≠ 32 ∧ c ≠ 9 ∧ c ≠ 35 := by
  obtain ⟨t, q⟩ := p
  cases q with
  | false =>
    have hb : bareF ⟨t.toArray⟩ = true := hp
    obtain ⟨h1, h2⟩ := bareF_list hb
    cases t with
    | nil => exact absurd rfl h1
    | cons c t =>
      have h3 := (okc_not c (h2 c (List.mem_cons_self ..))).1
      unfold endc at h3
      rw [Bool.or_eq_false_iff, Bool.or_eq_false_iff, beq_eq_false_iff_ne, beq_eq_false_iff_ne, beq_eq_false_iff_ne] at h3
      exact ⟨c, t ++ r, rfl, h3.1.1, h3.1.2, h3.2⟩
  | true => exact ⟨34, quL t ++ [34] ++ r, by simp [formW], by decide, by decide, by decide⟩
/-- One word is split off. -/
theorem splitN_form (f : Nat) (b : List UInt8) (p : Wd) (r : List UInt8) (acc : List Wd) (hb : ∀ c ∈ b, c = 32 ∨ c = 9) (hp : rightW p = true) (hr : endR r) (h64 : acc.length < 64) :
    splitN (f + 1) (b ++ (formW p ++ r)) acc = splitN f r (acc ++ [p]) := by
  obtain ⟨c, t, h1, h2, h3, h4⟩ := form_head p r hp
  have ht : Lib.trimLeftS (b ++ (formW p ++ r)) [32, 9] = formW p ++ r := by
    rw [trim_blank b _ hb]
    apply trim_none
    intro c' r' e
    rw [h1] at e
    obtain ⟨rfl, rfl⟩ := List.cons.inj e
    exact ⟨h2, h3⟩
  rw [splitN, ht, nextF_form p r hp hr]
  rw [if_neg (by rintro (h | h)
                 · rw [h1] at h; cases h
                 · rw [h1] at h; exact h4 h)]
  simp only
  rw [if_neg (by simp), if_neg (by omega)]
/-- Nothing is left but blanks and a comment. -/
def finR (r : List UInt8) : Prop := Lib.trimLeftS r [32, 9] = [] ∨ (Lib.trimLeftS r [32, 9]).getD 0 0 = 35
theorem splitN_fin (f : Nat) (r : List UInt8) (acc : List Wd) (h : finR r) : splitN (f + 1) r acc = (0, acc) := by
  have h' := h
  unfold finR at h'
  rw [splitN, if_pos h']
theorem finR_end (r : List UInt8) (h : finR r) : endR r := by
  cases r with
  | nil => exact .inl rfl
  | cons c t =>
    right
    show endc c = true
    unfold endc
    by_cases h1 : c = 32
    · subst h1; rfl
    · by_cases h2 : c = 9
      · subst h2; rfl
      · have ht := trim_none (c :: t) (fun c' r' e => by obtain ⟨rfl, rfl⟩ := List.cons.inj e; exact ⟨h1, h2⟩)
        unfold finR at h
        rw [ht] at h
        rcases h with h | h
        · cases h
        · have : c = 35 := h
          subst this; rfl
/-- Words with blanks ahead of each, and what stands behind. -/
def mixF : List (List UInt8 × Wd) → List UInt8 → List UInt8
  | [], e => e
  | (b, p) :: r, e => b ++ (formW p ++ mixF r e)
def mixOk : List (List UInt8 × Wd) → Prop
  | [] => True
  | (b, p) :: r => (∀ c ∈ b, c = 32 ∨ c = 9) ∧ rightW p = true ∧ (∀ x ∈ r, x.1 ≠ []) ∧ mixOk r
theorem mix_end (L : List (List UInt8 × Wd)) (e : List UInt8) (h : mixOk L) (hb : ∀ x ∈ L, x.1 ≠ []) (he : finR e) : endR (mixF L e) := by
  cases L with
  | nil => exact finR_end e he
  | cons x r =>
    obtain ⟨b, p⟩ := x
    have hne := hb (b, p) (List.mem_cons_self ..)
    cases b with
    | nil => exact absurd rfl hne
    | cons c b =>
      right
      show endc c = true
      rcases h.1 c (List.mem_cons_self ..) with rfl | rfl <;> rfl
theorem form_pos (p : Wd) (h : rightW p = true) : 0 < (formW p).length := by
  obtain ⟨c, t, h1, _⟩ := form_head p [] h
  rw [List.append_nil] at h1
  rw [h1]; simp
theorem splitN_mix (L : List (List UInt8 × Wd)) (e : List UInt8) (he : finR e) : ∀ (f : Nat) (acc : List Wd), mixOk L → acc.length + L.length ≤ 64 → (mixF L e).length < f → splitN f (mixF L e) acc = (0, acc ++ L.map (·.2)) := by
  induction L with
  | nil =>
    intro f acc _ _ hf
    obtain ⟨f, rfl⟩ : ∃ g, f = g + 1 := ⟨f - 1, by omega⟩
    rw [mixF, splitN_fin f e acc he, List.map_nil, List.append_nil]
  | cons x r ih =>
    obtain ⟨b, p⟩ := x
    intro f acc hok h64 hf
    obtain ⟨f, rfl⟩ : ∃ g, f = g + 1 := ⟨f - 1, by omega⟩
    have hpos := form_pos p hok.2.1
    rw [mixF, List.length_append, List.length_append] at hf
    rw [List.length_cons] at h64
    rw [mixF, splitN_form f b p _ acc hok.1 hok.2.1 (mix_end r e hok.2.2.2 hok.2.2.1 he) (by omega), ih f (acc ++ [p]) hok.2.2.2 (by simp; omega) (by omega)]
    simp
theorem splitF_mix (L : List (List UInt8 × Wd)) (e : List UInt8) (he : finR e) (hok : mixOk L) (h64 : L.length ≤ 64) (hl : (mixF L e).length ≤ 65536) : splitF (mixF L e) = (0, L.map (·.2)) := by
  unfold splitF
  rw [if_neg (by omega), splitN_mix L e he _ [] hok (by simpa using h64) (by omega)]
  rfl
/-- Words with one blank between them. -/
def spaced : List Wd → List (List UInt8 × Wd)
  | [] => []
  | p :: r => ([], p) :: r.map fun p => ([32], p)
theorem mix_tail (r : List Wd) : mixF (r.map fun p => ([32], p)) [] = Lib.joinTail [32] (r.map formW) := by
  induction r with
  | nil => rfl
  | cons p r ih =>
    rw [List.map_cons, mixF, ih]
    simp [Lib.joinTail]
theorem mix_spaced (ws : List Wd) : mixF (spaced ws) [] = Lib.join (ws.map formW) [32] := by
  cases ws with
  | nil => rfl
  | cons p r =>
    rw [spaced, mixF, mix_tail, List.map_cons, Lib.join_cons]
    rfl
theorem mixOk_tail (r : List Wd) (h : ∀ p ∈ r, rightW p = true) : mixOk (r.map fun p => ([32], p)) := by
  induction r with
  | nil => trivial
  | cons p r ih =>
    refine ⟨fun c hc => .inl (by simpa using hc), h p (List.mem_cons_self ..), ?_, ih (fun x hx => h x (List.mem_cons_of_mem _ hx))⟩
    intro x hx
    obtain ⟨y, _, rfl⟩ := List.mem_map.1 hx
    simp
theorem mixOk_spaced (ws : List Wd) (h : ∀ p ∈ ws, rightW p = true) : mixOk (spaced ws) := by
  cases ws with
  | nil => trivial
  | cons p r =>
    refine ⟨(fun c hc => by cases hc), h p (List.mem_cons_self ..), ?_, mixOk_tail r (fun x hx => h x (List.mem_cons_of_mem _ hx))⟩
    intro x hx
    obtain ⟨y, _, rfl⟩ := List.mem_map.1 hx
    simp
theorem spaced_map (ws : List Wd) : (spaced ws).map (·.2) = ws := by
  cases ws with
  | nil => rfl
  | cons p r =>
    rw [spaced, List.map_cons, List.map_map]
    congr 1
    exact List.map_id' r
theorem spaced_len (ws : List Wd) : (spaced ws).length = ws.length := by
  cases ws with
  | nil => rfl
  | cons p r => simp [spaced]
/-- What is joined is split again. -/
theorem splitF_join (ws : List Wd) (t : List UInt8) (h : joinF ws = (0, t)) : splitF t = (0, ws) := by
  unfold joinF at h
  by_cases h1 : ws.all rightW = false
  · rw [if_pos h1] at h; cases h
  · rw [if_neg h1] at h
    by_cases h2 : 64 < ws.length
    · rw [if_pos h2] at h; cases h
    · rw [if_neg h2] at h
      by_cases h3 : 65536 < (Lib.join (ws.map formW) [32]).length
      · rw [if_pos h3] at h; cases h
      · rw [if_neg h3] at h
        simp only [Prod.mk.injEq, true_and] at h
        subst h
        have hall : ∀ p ∈ ws, rightW p = true := by
          rw [Bool.not_eq_false] at h1
          exact List.all_eq_true.1 h1
        have := splitF_mix (spaced ws) [] (.inl rfl) (mixOk_spaced ws hall) (by rw [spaced_len]; omega) (by rw [mix_spaced]; omega)
        rw [mix_spaced, spaced_map] at this
        exact this
end Go.Proofs.YtiapkindbbbdpaaGreatDoor
