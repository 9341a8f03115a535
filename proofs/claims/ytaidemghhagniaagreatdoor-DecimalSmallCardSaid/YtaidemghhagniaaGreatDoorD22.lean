/- Pieces of Exact's number as strings; the digits of a word. -/
import Derived.Test.YtaidemghhagniaaGreatDoorD18
import Derived.Test.YtaidemghhagniaaGreatDoorD19
namespace Go.Proofs.YtaidemghhagniaaGreatDoor
open Go Go.RowKit
theorem RowT.piece {w : World} {B g n cap : Nat} {l : List UInt8} (h : RowT w B 5 g n cap (l.map enc8)) (hn : n = l.length) (i j : Nat) (hij : i + j ≤ l.length) (o c : Nat) (ho : o = i ∨ j = 0) :
    (convert 37 9 (.slice (some ⟨g, o, none⟩) j c)).run Tryz.prog w = .ok (.string ⟨((l.drop i).take j).toArray⟩) w := by
  have hl : ((l.drop i).take j).length = j := by rw [List.length_take, List.length_drop]; omega
  have := run_convert_bytes_back (P := Tryz.prog) w 37 9 5 ⟨g, o, none⟩ c ((l.drop i).take j) Tryz.underlying37 Tryz.underlying5 Tryz.underlying9 (fun k hk => by
    rw [hl] at hk
    rcases ho with rfl | rfl
    · have := h.cell (o + k) (by omega)
      rw [List.getElem?_map, List.getElem?_eq_getElem (by omega)] at this
      rw [show (⟨g, o, none⟩ : Addr).add k = ⟨g, o + k, none⟩ by simp [Addr.add], this]
      simp [enc8]
    · omega)
  rw [hl] at this
  exact this
theorem digs_len (F : Nat) (h : F < 18446744073709551616) : (Lib.decDigits F).length ≤ 20 := by
  have : ∀ k F : Nat, 0 < k → F < 10 ^ k → (Lib.decDigits F).length ≤ k := by
    intro k
    induction k with
    | zero => intro F h; omega
    | succ k ih =>
      intro F _ hF
      rw [Lib.decDigits]
      split
      · simp
      · rename_i h10
        have h1 : F / 10 < 10 ^ k := by rw [Nat.div_lt_iff_lt_mul (by decide)]; rw [Nat.pow_succ] at hF; exact hF
        have hk : 0 < k := by
          rcases Nat.eq_zero_or_pos k with rfl | hk
          · simp at hF; omega
          · exact hk
        have := ih (F / 10) hk h1
        simp only [List.length_append, List.length_cons, List.length_nil]
        omega
  exact this 20 F (by decide) (by omega)
theorem digs_dig (F : Nat) : DigL (Lib.decDigits F) := by
  induction F using Nat.strongRecOn with
  | _ F ih =>
    rw [Lib.decDigits]
    split
    · rename_i h
      intro c hc
      rw [List.mem_singleton] at hc
      subst hc
      rw [ofNat_to _ (by omega)]; omega
    · rename_i h
      intro c hc
      rw [List.mem_append] at hc
      rcases hc with hc | hc
      · exact ih (F / 10) (by omega) c hc
      · rw [List.mem_singleton] at hc
        subst hc
        rw [ofNat_to _ (by omega)]; omega
theorem ba_ext' {a b : ByteArray} (h : a.data.toList = b.data.toList) : a = b := by
  cases a with
  | mk x => cases b with
    | mk y => cases x; cases y; simp at h; subst h; rfl
theorem trimL_le (l : List UInt8) : (Lib.trimLeftB l 48).length ≤ l.length := (List.dropWhile_suffix _).length_le
theorem trimR_le (l : List UInt8) : (Lib.trimRightB l 48).length ≤ l.length := by
  unfold Lib.trimRightB
  rw [List.length_reverse]
  exact Nat.le_trans (List.dropWhile_suffix _).length_le (by simp)
theorem trimL (l : List UInt8) (w : World) : Calls Tryz.prog 31 #[.string ⟨l.toArray⟩, .string ⟨#[48]⟩] w fun e w' => e = .returned (.string ⟨(Lib.trimLeftB l 48).toArray⟩) ∧ w = w' :=
  (Tryz.strings_TrimLeft_one ⟨l.toArray⟩ 48 (by decide) w).mono fun e w' h => ⟨h.1, h.2.symm⟩
theorem trimR (l : List UInt8) (hl : l.length ≤ 2000) (w : World) : Calls Tryz.prog 32 #[.string ⟨l.toArray⟩, .string ⟨#[48]⟩] w fun e w' => e = .returned (.string ⟨(Lib.trimRightB l 48).toArray⟩) ∧ w = w' :=
  (Tryz.strings_TrimRight_one ⟨l.toArray⟩ 48 (by decide) w (by show l.toArray.size ≤ _; simp; omega)).mono fun e w' h => ⟨h.1, h.2.symm⟩
theorem emp_iff (l : List UInt8) : ((⟨l.toArray⟩ : ByteArray).toList == []) = decide (l = []) := by
  rw [ByteArray.toList_eq]
  cases l <;> rfl
end Go.Proofs.YtaidemghhagniaaGreatDoor
