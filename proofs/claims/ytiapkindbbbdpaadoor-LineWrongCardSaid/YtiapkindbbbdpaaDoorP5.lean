/- Plain facts: strings made of the forms of code points are valid. -/
import Derived.Test.YtiapkindbbbdpaaDoorQ2
import Derived.Test.YtiapkindbbbdpaaDoorR1
import Derived.Lib.MapLaws
import Derived.Lib.QuoteLoop
namespace Go.Proofs.YtiapkindbbbdpaaDoor
def frms (L : List Int) : List UInt8 := (L.map frm).flatten
theorem frms_cons (x : Int) (L : List Int) : frms (x :: L) = frm x ++ frms L := by simp [frms]
theorem frms_app (L M : List Int) : frms (L ++ M) = frms L ++ frms M := by simp [frms]
theorem rd_at (s : ByteArray) (A t : List UInt8) (h : s.data.toList = A ++ t) : rd s (A.length : Nat) = dec t := by
  have hs := size_list s
  rw [rd_dec s A.length (by rw [hs, h]; simp), h]; simp
theorem ckf_parts (s : ByteArray) (t : List UInt8) (hd : (dec t).2.2 ≠ 0) : ∀ (L : List Int) (A : List UInt8) (f : Nat), (∀ x ∈ L, isPt x) → s.data.toList = A ++ (frms L ++ t) → s.size - A.length < f →
    ckf s f A.length = (((A ++ frms L).length : Int), if t = [] then 0 else (dec t).2.2) := by
  intro L
  have hsz := size_list s
  induction L with
  | nil =>
    intro A f _ hs hf
    obtain ⟨f, rfl⟩ : ∃ g, f = g + 1 := ⟨f - 1, by omega⟩
    have hs' : s.data.toList = A ++ t := hs
    rw [ckf, rd_at s A t hs']
    by_cases ht : t = []
    · subst ht
      rw [if_neg (by rw [hsz, hs']; simp), if_pos rfl]
      simp [frms]
    · have := len_pos ht
      rw [if_pos (by rw [hsz, hs']; simp; omega), if_neg hd, if_neg ht]
      simp [frms]
  | cons x L ih =>
    intro A f hg hs hf
    obtain ⟨f, rfl⟩ : ∃ g, f = g + 1 := ⟨f - 1, by omega⟩
    have hp := frm_pos x
    have hs' : s.data.toList = A ++ (frm x ++ (frms L ++ t)) := by rw [hs, frms_cons, List.append_assoc]
    have hlen : A.length + (frm x).length ≤ s.size := by rw [hsz, hs']; simp
    rw [ckf, rd_at s A _ hs', dec_frm x (hg x (by simp)), if_pos (by omega), if_pos rfl]
    have := ih (A ++ frm x) f (fun y hy => hg y (by simp [hy])) (by rw [hs', List.append_assoc]) (by rw [List.length_append]; omega)
    rw [List.length_append] at this
    rw [show A.length + ((frm x).length : Int).toNat = A.length + (frm x).length by omega, this, frms_cons, List.append_assoc]
theorem ck_parts (s : ByteArray) (L : List Int) (t : List UInt8) (hL : ∀ x ∈ L, isPt x) (hs : s.data.toList = frms L ++ t) (hd : (dec t).2.2 ≠ 0) : ck s = (((frms L).length : Int), if t = [] then 0 else (dec t).2.2) :=
  ckf_parts s t hd L [] (s.size + 1) hL hs (by simp)
/-- Made of the forms of code points. -/
def good (l : List UInt8) : Prop := ∃ L : List Int, (∀ x ∈ L, isPt x) ∧ l = frms L
theorem good_nil : good [] := ⟨[], (fun x hx => by cases hx), rfl⟩
theorem good_app {l r : List UInt8} (h : good l) (k : good r) : good (l ++ r) := by
  obtain ⟨L, h1, rfl⟩ := h
  obtain ⟨M, k1, rfl⟩ := k
  refine ⟨L ++ M, fun x hx => ?_, (frms_app L M).symm⟩
  rw [List.mem_append] at hx
  rcases hx with hx | hx
  · exact h1 x hx
  · exact k1 x hx
theorem good_one (x : Int) (h : isPt x) : good (frm x) := ⟨[x], fun y hy => by simp at hy; subst hy; exact h, by simp [frms]⟩
theorem vld_good (s : ByteArray) (h : good s.data.toList) : vld s = true := by
  obtain ⟨L, h1, h2⟩ := h
  have := ck_parts s L [] h1 (by rw [List.append_nil]; exact h2) (by decide +kernel)
  unfold vld
  rw [this]
  rfl
theorem enc_frm (x : Int) (h : isPt x) : Lib.encodeRune x = frm x := by
  obtain ⟨h0, h1, h2⟩ := h
  unfold Lib.encodeRune Lib.encodeRuneZ frm
  by_cases a : x < 128
  · rw [if_pos a, if_pos (by omega)]; rfl
  · rw [if_neg a, if_neg (by omega)]
    by_cases b : x < 2048
    · rw [if_pos b, if_pos (by omega)]; rfl
    · rw [if_neg b, if_neg (by omega)]
      by_cases c : x < 65536
      · rw [if_pos c, if_pos (by omega)]; rfl
      · rw [if_neg c, if_neg (by omega), if_pos (by omega)]; rfl
theorem decL_pt (l : List UInt8) : isPt ((Lib.decodeL l).1 : Int) := by
  rw [Lib.decodeL_N]
  have := Lib.decodeN_valid l.length (l.getD 0 0).toNat (l.getD 1 0).toNat (l.getD 2 0).toNat (l.getD 3 0).toNat (l.getD 0 0).toNat_lt
  unfold isPt
  omega
theorem good_take (l : List UInt8) (hne : l ≠ []) (hv : ¬ ((Lib.decodeL l).1 = 65533 ∧ (Lib.decodeL l).2 = 1)) : good (l.take (Lib.decodeL l).2) := by
  rw [← Lib.encode_decode l hne hv, enc_frm _ (decL_pt l)]
  exact good_one _ (decL_pt l)
theorem good_byte (c : UInt8) (h : c.toNat < 128) : good [c] := by
  have h2 : isPt (c.toNat : Int) := by unfold isPt; omega
  have := good_one _ h2
  unfold frm at this
  rw [if_pos (by omega)] at this
  rw [show b8 (c.toNat : Int) = c by unfold b8; simp] at this
  exact this
theorem good_e : good [195, 169] := good_one 233 (by decide)
end Go.Proofs.YtiapkindbbbdpaaDoor
