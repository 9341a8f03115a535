/- What comes in: a slice of slices of words; and LineWrites' walk. -/
import Derived.Test.YtiapkindbbbdpaaGreatDoorKL
import Derived.Test.YtiapkindbbbdpaaGreatDoorA5
import Derived.Test.YtiapkindbbbdpaaGreatDoorK17
import Derived.ChangeSlices
import Derived.SliceStrings
namespace Go.Proofs.YtiapkindbbbdpaaGreatDoor
open Go.RowKit Go.ChangeShapes Go.WideShapes

theorem list_of_all {α : Type} (n : Nat) (P : Nat → α → Prop) (h : ∀ i, i < n → ∃ y, P i y) : ∃ l : List α, l.length = n ∧ ∀ i (hi : i < l.length), P i l[i] := by
  induction n with
  | zero => exact ⟨[], rfl, fun i hi => by simp at hi⟩
  | succ n ih =>
    obtain ⟨l, h1, h2⟩ := ih (fun i hi => h i (by omega))
    obtain ⟨y, hy⟩ := h n (by omega)
    refine ⟨l ++ [y], by simp [h1], fun i hi => ?_⟩
    rw [List.getElem_append]
    split
    · rename_i h3; exact h2 i h3
    · rename_i h3
      have : i = n := by simp at hi; omega
      subst this
      simpa using hy
theorem cells29 : Tryz.prog.cellsOf 29 = 2 := by kernel_rfl
theorem cells30 : Tryz.prog.cellsOf 30 = 1 := by kernel_rfl
theorem cells4' : Tryz.prog.cellsOf 4 = 1 := by kernel_rfl
theorem cells9' : Tryz.prog.cellsOf 9 = 1 := by kernel_rfl
set_option maxRecDepth 100000 in
/-- A slice of words that came in. -/
theorem words_in {H : Type} {enc : TypeId × Value → H} {w : World} {base fuel : Nat} {v : Value} {x : DataW H × List MemPlace}
    (h : DataW.trod enc Tryz.prog w base (fun _ => true) true fuel 30 [v] = some x) : ∃ ws : List Wd, WRow w v ws := by
  rcases DataW.trod_slice Tryz.underlying30 h with ⟨hcs, _⟩ | ⟨a, l, c, elems, rest, n, _, hcs, _, _, hl, hm, hlen, hel, _, _⟩
  · simp at hcs
    subst hcs
    exact ⟨[], .inl ⟨none, 0, fun _ => rfl, rfl, rfl⟩⟩
  · simp at hcs
    subst hcs
    by_cases h0 : l = 0
    · subst h0
      exact ⟨[], .inl ⟨some a, c, (fun h => by cases h), rfl, rfl⟩⟩
    · have key : ∀ i, i < l → ∃ p : Wd, w.cell? (a.add (i * 2)) = some (.string ⟨p.1.toArray⟩) ∧ w.cell? ((a.add (i * 2)).add 1) = some (.bool p.2) := by
        intro i hi
        have h1 := hel i hi
        rw [cells29, List.getElem?_eq_getElem (by omega), Option.bind_eq_some_iff] at h1
        obtain ⟨cs, e1, e2⟩ := h1
        obtain ⟨_, hcl, hat⟩ := World.cells?_some e1
        obtain ⟨xs, n', _, _, _, hxl, hf⟩ := DataW.trod_struct fl31 e2
        rw [fo31] at hf hxl
        match cs, hcl with
        | [c0, c1], _ =>
          have f0 : DataW.trod enc Tryz.prog w base (fun _ => true) true n' 9 ([c0, c1].take (Tryz.prog.cellsOf 9)) = xs[0]? := hf 0 _ rfl
          have f1 : DataW.trod enc Tryz.prog w base (fun _ => true) true n' 4 ([c1].take (Tryz.prog.cellsOf 4)) = xs[1]? := hf 1 _ rfl
          have hx : xs.length = 2 := hxl
          rw [cells9', List.getElem?_eq_getElem (by omega)] at f0
          rw [cells4', List.getElem?_eq_getElem (by omega)] at f1
          obtain ⟨s, g0, _⟩ := DataW.trod_string Tryz.underlying9 f0
          obtain ⟨q, g1, _⟩ := DataW.trod_bool Tryz.underlying4 f1
          simp at g0 g1
          subst g0 g1
          have t0 := hat 0 (by omega)
          have t1 := hat 1 (by omega)
          refine ⟨(s.data.toList, q), ?_, ?_⟩
          · simpa [Addr.add] using t0
          · simpa using t1
      obtain ⟨ws, hr1, hr2⟩ := list_of_all l _ key
      obtain ⟨_, hs0, _⟩ := key 0 (by omega)
      obtain ⟨b, off, spot⟩ := a
      have hspot : spot = none := by simpa [Addr.add] using World.cell?_spot hs0
      subst hspot
      refine ⟨ws, .inr ⟨b, off, c, by rw [hr1], ?_, by omega, hm, fun i hi => ?_⟩⟩
      · obtain ⟨o, ho, _⟩ := cells_of_cell hs0
        have := (Array.getElem?_eq_some_iff.1 ho).1
        simpa [Addr.add] using this
      · have := hr2 i hi
        rw [show (⟨b, off, none⟩ : Addr).add (i * 2) = ⟨b, off + i * 2, none⟩ by simp [Addr.add], show (⟨b, off + i * 2, none⟩ : Addr).add 1 = ⟨b, off + i * 2 + 1, none⟩ by simp [Addr.add]] at this
        exact this
set_option maxRecDepth 100000 in
theorem open_rows_of {H : Type} {enc : TypeId × Value → H} {w w2 : World} {base base2 : Nat} {r : Reach} {a : Option Addr} {len cap : Nat} {d : DataW H} {p : List MemPlace}
    (_hv : Value.okWide Tryz.prog w2 r base2 22 (.slice a len cap)) (h : DataW.Trod enc Tryz.prog w base (fun _ => true) true 22 (.slice a len cap) d p) : ∃ z : List (List Wd), MRow w (.slice a len cap) z := by
  obtain ⟨fuel, hf⟩ := h
  rcases DataW.trod_slice Tryz.underlying22 hf with ⟨hcs, _⟩ | ⟨x, l, c, elems, rest, n, _, hcs, _, _, hl, hm, hlen, hel, _, _⟩
  · simp [Value.cells] at hcs
    obtain ⟨rfl, rfl, rfl⟩ := hcs
    exact ⟨[], .inl ⟨_, _, fun _ => rfl, rfl, rfl⟩⟩
  · simp [Value.cells] at hcs
    obtain ⟨rfl, rfl, rfl⟩ := hcs
    by_cases h0 : len = 0
    · subst h0
      exact ⟨[], .inl ⟨_, _, (fun h => by cases h), rfl, rfl⟩⟩
    · have key : ∀ i, i < len → ∃ ws : List Wd, ∃ vi, w.cell? (x.add i) = some vi ∧ WRow w vi ws := by
        intro i hi
        have h1 := hel i hi
        rw [cells30, Nat.mul_one, List.getElem?_eq_getElem (by omega), Option.bind_eq_some_iff] at h1
        obtain ⟨cs, e1, e2⟩ := h1
        obtain ⟨_, hcl, hat⟩ := World.cells?_some e1
        match cs, hcl with
        | [c0], _ =>
          obtain ⟨ws, hw⟩ := words_in e2
          have t0 := hat 0 (by omega)
          exact ⟨ws, c0, by simpa [Addr.add] using t0, hw⟩
      obtain ⟨v0, hs0⟩ : ∃ v0, w.cell? (x.add 0) = some v0 := by obtain ⟨_, vi, h1, _⟩ := key 0 (by omega); exact ⟨vi, h1⟩
      obtain ⟨rows, hr1, hr2⟩ := list_of_all len _ key
      obtain ⟨b, off, spot⟩ := x
      have hspot : spot = none := by simpa [Addr.add] using World.cell?_spot hs0
      subst hspot
      refine ⟨rows, .inr ⟨b, off, cap, by rw [hr1], ?_, by omega, hm, fun i hi => ?_⟩⟩
      · obtain ⟨o, ho, _⟩ := cells_of_cell hs0
        have := (Array.getElem?_eq_some_iff.1 ho).1
        simpa [Addr.add] using this
      · have := hr2 i hi
        rw [show (⟨b, off, none⟩ : Addr).add i = ⟨b, off + i, none⟩ by simp [Addr.add]] at this
        exact this
set_option maxHeartbeats 1000000 in
theorem lineWrites_walk (a0 : Option Addr) (len0 cap0 : Nat) (z0 : List (List Wd)) (w : World) (w0 : MRow w (.slice a0 len0 cap0) z0) (hG : Glb w) :
    Calls Tryz.prog 3 #[.slice a0 len0 cap0] w fun e w' => e = .returned (.bool true) ∧ Below w.heap.size w w' := by
  have h1 := Lib.hid (writes_any _ z0 w w0)
  have h2 := Lib.hid (fun (W : World) (h : Below w.heap.size w W) => awake_any W (hG.on h))
  clear w0
  go_enter Tryz.func3, Tryz.ntmps3
  go_wp2_with fail
  refine (h1.out).mono ?_; rintro e w1 ⟨rfl, hb⟩
  have h3 := Lib.hid (h2.out _ hb)
  replace hb := Lib.hid hb
  clear h1 h2
  go_wp2_with fail
  refine (h3.out).mono ?_; rintro e w2 ⟨rfl, hb2⟩
  replace hb2 := Lib.hid hb2
  clear h3
  go_wp2_with fail
  go_ret
  exact ⟨rfl, hb.out.trans (hb2.out.mono hb.out.size)⟩
end Go.Proofs.YtiapkindbbbdpaaGreatDoor
