/- wp_region_facts where an edge that binds no order may point on. -/
import Derived.Test.YtaidemghhagniaaGreatDoorXA
namespace Go.Proofs.YtaidemghhagniaaGreatDoor
open Go Go.RowKit
section
variable {P : Program} {ops : Array Oper} {md : Region.Mode} {Q : Exit → Act → World → Prop}
theorem all_listed2 (hlow : ∀ (i : Nat) (o : Oper), ops[i]? = some o → ∀ e ∈ o.after, Region.binds md e = true → e.on < i) (listed : Array Bool) (hsz : listed.size = ops.size) (hr : Region.ready md ops listed = []) :
    ∀ i, i < ops.size → listed.getD i false = true := by
  intro i
  induction i using Nat.strongRecOn with
  | _ i ih =>
    intro hi
    by_cases hl : listed.getD i false = true
    · exact hl
    · exfalso
      have hm : i ∈ Region.ready md ops listed := by
        rw [mem_ready]
        have hi' : i < listed.size := by omega
        refine ⟨by simpa [hi'] using hl, ops[i], by simp [hi], fun e he hbd => ih _ (hlow i ops[i] (by simp [hi]) e he hbd) ?_⟩
        have := hlow i ops[i] (by simp [hi]) e he hbd
        omega
      rw [hr] at hm; cases hm

theorem wp_region_facts2 {id : Nat} {l : List Oper} {a0 : Act} {w0 : World} (F : Nat → Value → World → Prop)
    (hm : P.follows .mixedOrders = true)
    (hlow : (List.range l.length).all (fun i => ((l[i]?).map fun o => o.after.all fun e => !(Region.binds .any e) || decide (e.on < i)).getD true) = true)
    (hdist : (l.map (·.dst)).Pairwise (· ≠ ·))
    (hdst : l.all (fun o => (o.dst.map fun d => decide (d < a0.tmps.size)).getD false) = true)
    (hkeep : ∀ i v w w', F i v w → Below w.heap.size w w' → F i v w')
    (hstep : ∀ i o, l[i]? = some o → ∀ a w, Below w0.heap.size w0 w → (∀ t, (∀ o ∈ l, o.dst ≠ some t) → a.tmps.getD t undef = a0.tmps.getD t undef) → a.tmps.size = a0.tmps.size →
      (∀ e ∈ o.after, Region.binds .any e = true → ∀ o', l[e.on]? = some o' → F e.on (slotOf a o') w) →
      wpOp P l.toArray Q i (fun a' w' => ∃ v, a' = a.put o.dst v ∧ Below w.heap.size w w' ∧ F i v w') a w)
    (hend : ∀ a w, Below w0.heap.size w0 w → (∀ i o, l[i]? = some o → F i (slotOf a o) w) → a = l.foldl (fillFrom a) a0 → Q .normal a w) :
    (Code.region id l.toArray true).wp P Q a0 w0 := by
  refine wp_region_any hm ?_
  have hlow' : ∀ (i : Nat) (o : Oper), l.toArray[i]? = some o → ∀ e ∈ o.after, Region.binds .any e = true → e.on < i := by
    intro i o ho e he hbd
    have hi : i < l.length := by
      rcases Nat.lt_or_ge i l.length with h | h
      · exact h
      · simp [List.getElem?_eq_none h] at ho
    have := List.all_eq_true.1 hlow i (List.mem_range.2 hi)
    simp at ho
    rw [ho] at this
    simp at this
    obtain ⟨k, hk, rfl⟩ := Array.mem_iff_getElem.1 he
    have h9 := this k hk
    rcases h9 with h9 | h9
    · rw [h9] at hbd; cases hbd
    · exact h9
  have hdd : ∀ (i j : Nat) oi oj t, l[i]? = some oi → l[j]? = some oj → oi.dst = some t → oj.dst = some t → i = j := by
    intro i j oi oj t hi hj e1 e2
    obtain ⟨hi1, hi2⟩ := List.getElem?_eq_some_iff.1 hi
    obtain ⟨hj1, hj2⟩ := List.getElem?_eq_some_iff.1 hj
    rw [List.pairwise_iff_getElem] at hdist
    rcases Nat.lt_trichotomy i j with h | h | h
    · exact absurd (by rw [List.getElem_map, List.getElem_map, hi2, hj2, e1, e2]) (hdist i j (by simpa) (by simpa) h)
    · exact h
    · exact absurd (by rw [List.getElem_map, List.getElem_map, hi2, hj2, e1, e2]) (hdist j i (by simpa) (by simpa) h)
  refine wpAny_inv (I := fun listed a w => listed.size = l.length ∧ a.tmps.size = a0.tmps.size ∧ a.defers = a0.defers ∧ Below w0.heap.size w0 w ∧ (∀ t, (∀ o ∈ l, o.dst ≠ some t) → a.tmps[t]? = a0.tmps[t]?) ∧ (∀ i o, l[i]? = some o → listed.getD i false = true → F i (slotOf a o) w)) ?_ ?_ _ _ _ _ ?_ ?_
  · rintro listed a w i ⟨h1, h2, h3, h4, h5, h6⟩ hi
    obtain ⟨hu, o, ho, haft⟩ := mem_ready.1 hi
    have ho' : l[i]? = some o := by simpa using ho
    refine wpOp_mono ?_ (hstep i o ho' a w h4 (fun t ht => by simp [h5 t ht]) h2 (fun e he hb o' hoe => h6 _ _ hoe (haft e he hb)))
    rintro a' w' ⟨v, rfl, hb, hF⟩
    have hom : o ∈ l := List.mem_of_getElem? ho'
    have hd := List.all_eq_true.1 hdst o hom
    obtain ⟨d, hod, hdlt⟩ : ∃ d, o.dst = some d ∧ d < a0.tmps.size := by
      cases hx : o.dst with
      | none => simp [hx] at hd
      | some d => simp [hx] at hd; exact ⟨d, rfl, hd⟩
    refine ⟨by simp [h1], by rw [hod]; simp [Act.put, h2], by rw [hod]; simp [Act.put, h3], h4.trans (hb.mono h4.size), fun t ht => ?_, fun j oj hj hl => ?_⟩
    · have hne : d ≠ t := fun e => ht o hom (by rw [hod, e])
      rw [hod]; simp only [Act.put]
      rw [Array.getElem?_setIfInBounds_ne hne]
      exact h5 t ht
    · by_cases hij : i = j
      · subst hij
        obtain rfl : o = oj := by rw [ho'] at hj; exact Option.some.inj hj
        have : slotOf (a.put o.dst v) o = v := by simp [slotOf, hod, Act.put, h2, hdlt]
        rw [this]; exact hF
      · rw [getD_set_ne false hij] at hl
        have hF' := hkeep _ _ _ _ (h6 j oj hj hl) hb
        have : slotOf (a.put o.dst v) oj = slotOf a oj := by
          unfold slotOf
          cases hoj : oj.dst with
          | none => rfl
          | some t =>
            have hne : d ≠ t := fun e => hij (hdd i j o oj d ho' hj hod (by rw [hoj, e]))
            rw [hod]; simp [Act.put, Array.getElem?_setIfInBounds_ne hne]
        rw [this]; exact hF'
  · rintro listed a w ⟨h1, h2, h3, h4, h5, h6⟩ hr
    have hal := all_listed2 hlow' listed (by simpa using h1) hr
    refine hend a w h4 (fun i o ho => h6 i o ho (hal i ?_)) (fill_eq a a0 l h2 h3 h5)
    have := (List.getElem?_eq_some_iff.1 ho).1
    simpa using this
  · rw [show l.toArray.size = l.length by simp, Array.toList_replicate, unlisted]
    exact Nat.le_trans (List.length_filter_le _ _) (by simp)
  · refine ⟨by simp, rfl, rfl, (Below.refl _ _).trans ⟨rfl, rfl, rfl, Nat.le_refl _, fun _ _ => rfl⟩, fun _ _ => rfl, fun i o ho hl => ?_⟩
    have := (List.getElem?_eq_some_iff.1 ho).1
    simp [this] at hl
end
end Go.Proofs.YtaidemghhagniaaGreatDoor
