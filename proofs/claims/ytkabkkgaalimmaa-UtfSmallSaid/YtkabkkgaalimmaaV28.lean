/- The contracts of point, made and Pick. -/
import Derived.Test.YtkabkkgaalimmaaV27
namespace Go.Proofs.Ytkabkkgaalimmaa
open Go.RowKit Go.Shelf

def ptOf (n : Int) : Int := if 55296 ≤ n % 1114112 ∧ n % 1114112 ≤ 57343 then n % 1114112 - 55296 else n % 1114112
theorem ptOf_pt (n : Int) (_h : 0 ≤ n) : isPt (ptOf n) := by
  unfold ptOf isPt
  split <;> omega
set_option maxHeartbeats 400000 in
theorem point41 (n : Int) (h0 : 0 ≤ n) (h1 : n ≤ 4294967295) (w : World) : Calls Try.prog 41 #[.int .u32 n] w fun e w' => e = .returned (.int .i64 (ptOf n)) ∧ w = w' := by
  rcases (show n % 1114112 < 55296 ∨ (55296 ≤ n % 1114112 ∧ n % 1114112 ≤ 57343) ∨ (55296 ≤ n % 1114112 ∧ 57343 < n % 1114112) by omega) with g | ⟨g, g2⟩ | ⟨g, g2⟩
  · rw [show ptOf n = n % 1114112 by unfold ptOf; rw [if_neg (by omega)]]
    have t1 : decide (55296 ≤ n % 1114112) = false := decide_eq_false (by omega)
    go_enter Try.func41, Try.ntmps41
    go_wp2_with fail
    go_ret
    exact ⟨rfl, rfl⟩
  · rw [show ptOf n = n % 1114112 - 55296 by unfold ptOf; rw [if_pos ⟨g, g2⟩]]
    have t1 : decide (55296 ≤ n % 1114112) = true := decide_eq_true (by omega)
    have t2 : decide (n % 1114112 ≤ 57343) = true := decide_eq_true (by omega)
    go_enter Try.func41, Try.ntmps41
    go_wp2_with fail
    go_ret
    exact ⟨rfl, rfl⟩
  · rw [show ptOf n = n % 1114112 by unfold ptOf; rw [if_neg (by omega)]]
    have t1 : decide (55296 ≤ n % 1114112) = true := decide_eq_true (by omega)
    have t2 : decide (n % 1114112 ≤ 57343) = false := decide_eq_false (by omega)
    go_enter Try.func41, Try.ntmps41
    go_wp2_with fail
    go_ret
    exact ⟨rfl, rfl⟩

/-- Code points: what made returns. -/
def PtsRow (W : World) (v : Value) (L : List Int) : Prop := Row W v (L.map (Value.int .i64)) ∧ (∀ x ∈ L, isPt x) ∧ L.length ≤ 200
def MadeRet (w : World) (e : Ending) (W' : World) : Prop := (∃ v L, e = .returned v ∧ PtsRow W' v L) ∧ Below w.heap.size w W'

theorem row_cap {w : World} {a : Option Addr} {n c : Nat} {xs : List Value} (h : Row w (.slice a n c) xs) : n ≤ c ∧ (1 ≤ n → c ≤ maxLen) := by
  rcases h with ⟨a', c', _, e, rfl⟩ | ⟨b, off, cap, hv, h1, h2, h3, hc⟩
  · cases e; exact ⟨Nat.zero_le _, fun h => by omega⟩
  · cases hv; exact ⟨h2, fun _ => h3⟩
theorem row_take {w : World} {a : Option Addr} {n c m : Nat} {xs : List Value} (h : Row w (.slice a n c) xs) (hm : m ≤ n) : Row w (.slice a m c) (xs.take m) := by
  rcases h with ⟨a', c', h', e, rfl⟩ | ⟨b, off, cap, hv, h1, h2, h3, hc⟩
  · cases e
    obtain rfl : m = 0 := by omega
    exact .inl ⟨a, c, h', rfl, by simp⟩
  · cases hv
    have hl : (xs.take m).length = m := by rw [List.length_take]; omega
    refine .inr ⟨b, off, c, by rw [hl], h1, by rw [hl]; omega, h3, fun i hi => ?_⟩
    rw [List.getElem_take]
    exact hc i (by rw [hl] at hi; omega)

set_option maxRecDepth 100000 in
set_option maxHeartbeats 1000000 in
theorem made_n (v : Value) (a : Option Addr) (n c : Nat) (Z : List Int) (hv : v = .slice a n c) (hn : n = Z.length) (w : World) (hZ : Row w v (Z.map (Value.int .u32))) (hz : ∀ z ∈ Z, 0 ≤ z ∧ z ≤ 4294967295) :
    Calls Try.prog 19 #[v] w (MadeRet w) := by
  subst hn
  subst hv
  obtain ⟨hcap, hcm⟩ := row_cap hZ
  obtain ⟨Y, hY⟩ : ∃ Y, Hid (Y = Z.take 200) := ⟨Z.take 200, rfl⟩
  have hYl : Y.length ≤ 200 := by rw [hY.out, List.length_take]; omega
  have hYz : Hid (∀ z ∈ Y, 0 ≤ z ∧ z ≤ 4294967295) := fun z h => hz z (by rw [hY.out] at h; exact List.mem_of_mem_take h)
  have HY : Hid (Row w (.slice a Y.length c) (Y.map (Value.int .u32))) := by
    have := row_take (m := Y.length) hZ (by rw [hY.out, List.length_take]; omega)
    rw [← List.map_take] at this
    rw [show Z.take Y.length = Y by rw [hY.out, List.length_take, ← List.take_eq_take_min]] at this
    exact this
  have hmm : Hid (Y.length = if 200 < Z.length then 200 else Z.length) := by show _ = _; rw [hY.out, List.length_take]; split <;> omega
  clear hZ hz hY
  unfold maxLen at hcm
  go_enter Try.func19, Try.ntmps19
  go_upto_region 2 with (fail)
  go_cut [10, 11, 12] (fun s10 s11 s12 wx => s10 = .slice a Y.length c ∧ s11 = .int .i64 Y.length ∧ s12 = .int .i64 0 ∧ wx = w)
  case first =>
    by_cases hlt : 200 < Z.length
    · have hm2 : Hid (Y.length = 200) := by show _ = _; rw [hmm.out, if_pos hlt]
      have g1 : ¬ (Z.length : Int) ≤ 200 := by omega
      have g2 : (200 : Int) ≤ c := by omega
      have g3 : ¬ (c : Int) < 200 := by omega
      go_wp2_with fail
      go_meet
      exact ⟨by rw [hm2.out], by rw [hm2.out]; rfl, rfl, rfl⟩
    · have hm2 : Hid (Y.length = Z.length) := by show _ = _; rw [hmm.out, if_neg hlt]
      have g1 : (Z.length : Int) ≤ 200 := by omega
      go_wp2_with fail
      go_meet
      exact ⟨by rw [hm2.out], by rw [hm2.out], rfl, rfl⟩
  case rest =>
    obtain ⟨rfl, rfl, rfl, rfl⟩ := hcut
    clear hmm hcm hcap
    go_wp2_with fail
    go_loopg [3, 12] (Y.length) (fun g s3 s12 wr => ∃ k : Nat, k + g = Y.length ∧ s12 = .int .i64 k ∧ Hid (wr.ownsRow wc.heap.size 3 1 s3 k (((Y.take k).map ptOf).map (Value.int .i64))) ∧ Below wc.heap.size wc wr)
    case atStart => exact ⟨0, by omega, rfl, World.ownsRow_nil wc _ 3 1, Below.refl _ _⟩
    case round =>
      obtain ⟨k, hg, rfl, hown, hb⟩ := hrel
      by_cases hlt : k < Y.length
      · obtain ⟨b, off, rfl, hbl, hc⟩ := row_cells HY.out (by rw [List.length_map]; omega)
        have hcell := hc k (by rw [List.length_map]; exact hlt)
        rw [List.getElem_map] at hcell
        obtain ⟨z, hz⟩ : ∃ z, Hid (z = Y[k]) := ⟨Y[k], rfl⟩
        rw [← hz.out] at hcell
        replace hcell := (hb.cell (p := ⟨b, off + k, none⟩) hbl).trans hcell
        obtain ⟨hz0, hz1⟩ := hYz.out z (by rw [hz.out]; exact List.getElem_mem hlt)
        clear hc
        have hT := Lib.hid (take_snoc Y k hlt)
        have t1 : decide (k < Y.length) = true := decide_eq_true hlt
        go_wp2_with fail
        refine (point41 z hz0 hz1 _).mono ?_; rintro e w2 ⟨rfl, rfl⟩
        go_wp2_with (at_builtin; go_must (refine app_one rfl (.tmp 16) (.tmp 19) 34 rfl (u := .int .i64 (ptOf z)) wc.heap.size (.int .i64 0) 8 Try.underlying34 info3 rfl _ k _ rfl rfl hown.out rfl (by omega) (by omega) hb.size ?_); rintro v2 w3 hown3' hb3 hs3 _ hv3; have hown3 := Lib.hid hown3'; clear hown3')
        go_roundg (Y.length - (k + 1))
        case measure => omega
        case rel => exact ⟨k + 1, by omega, by go_num, by rw [hT.out, List.map_append, List.map_append, ← hz.out]; exact hown3.out, hb.trans hb3⟩
      · obtain rfl : k = Y.length := by omega
        rw [List.take_length] at hown
        go_wp2_with fail
        go_ret
        refine ⟨⟨_, _, rfl, Row.of_owned hown.out, ?_, by rw [List.length_map]; exact hYl⟩, hb⟩
        intro x hx
        obtain ⟨z, hz, rfl⟩ := List.mem_map.1 hx
        exact ptOf_pt z (hYz.out z hz).1
theorem IsRow.row32 {w : World} {a : Option Addr} {len cap : Nat} {zs : List Int} (h : IsRow .u32 w a len cap zs) : Row w (.slice a len cap) ((zs.take len).map (Value.int .u32)) ∧ (zs.take len).length = len ∧ ∀ z ∈ zs.take len, 0 ≤ z ∧ z ≤ 4294967295 := by
  rcases h with ⟨rfl, rfl, rfl, rfl⟩ | ⟨⟨b, off, spot⟩, rfl, h1, h2, h3, hc, hz⟩
  · exact ⟨.inl ⟨none, 0, fun _ => rfl, rfl, rfl⟩, rfl, fun z h => by simp at h⟩
  · refine ⟨?_, by rw [List.length_take]; omega, fun z h => u32_bd z (hz z (List.mem_of_mem_take h))⟩
    by_cases h0 : len = 0
    · subst h0
      exact .inl ⟨_, cap, (fun h => by cases h), rfl, by simp⟩
    · have hs0 := hc 0 (by omega)
      have hspot : spot = none := by simpa [Addr.add] using World.cell?_spot hs0
      subst hspot
      have hl : ((zs.take len).map (Value.int .u32)).length = len := by simp; omega
      refine .inr ⟨b, off, cap, by rw [hl], ?_, by omega, h2, fun i hi => ?_⟩
      · obtain ⟨o, ho, _⟩ := cells_of_cell hs0
        have := (Array.getElem?_eq_some_iff.1 ho).1
        simpa [Addr.add] using this
      · have hi' : i < zs.length := by rw [hl] at hi; omega
        have := hc i hi'
        rw [show (⟨b, off, none⟩ : Addr).add i = ⟨b, off + i, none⟩ by simp [Addr.add]] at this
        rw [this, List.getD_eq_getElem?_getD, List.getElem?_eq_getElem hi', Option.getD_some]
        simp
/-- A slice of numbers that came in, for made. -/
def In32 (w : World) (v : Value) : Prop := ∃ (a : Option Addr) (n c : Nat) (Z : List Int), v = .slice a n c ∧ n = Z.length ∧ Row w v (Z.map (Value.int .u32)) ∧ ∀ z ∈ Z, 0 ≤ z ∧ z ≤ 4294967295
theorem IsRow.in32 {w : World} {a : Option Addr} {len cap : Nat} {zs : List Int} (h : IsRow .u32 w a len cap zs) : In32 w (.slice a len cap) := by
  obtain ⟨h1, h2, h3⟩ := h.row32
  exact ⟨a, len, cap, zs.take len, rfl, h2.symm, h1, h3⟩
theorem In32.on {W W' : World} {v : Value} (h : In32 W v) (hb : Below W.heap.size W W') : In32 W' v := by
  obtain ⟨a, n, c, Z, h1, h2, h3, h4⟩ := h
  exact ⟨a, n, c, Z, h1, h2, h3.on hb, h4⟩
theorem made_any (v : Value) (w : World) (h : In32 w v) : Calls Try.prog 19 #[v] w fun e W' => (∃ v L, e = .returned v ∧ PtsRow W' v L) ∧ Below w.heap.size w W' := by
  obtain ⟨a, n, c, Z, h1, h2, h3, h4⟩ := h
  exact made_n v a n c Z h1 h2 w h3 h4
theorem PtsRow.on {W W' : World} {v : Value} {L : List Int} (h : PtsRow W v L) (hb : Below W.heap.size W W') : PtsRow W' v L := ⟨h.1.on hb, h.2⟩
/-- The string of code points. -/
def strOf (L : List Int) : ByteArray := ⟨(frms L).toArray⟩
theorem strOf_list (L : List Int) : (strOf L).data.toList = frms L := by simp [strOf]
theorem txR_of (L : List Int) (h : ∀ x ∈ L, isPt x) : txR L = (strOf L, 0) := by unfold txR; rw [if_pos h]; rfl
theorem frms_hi : ∀ (L : List Int), (frms L).length ≤ 4 * L.length
  | [] => by simp [frms]
  | x :: L => by have := frms_hi L; have := frm_len x; rw [frms_cons, List.length_append, List.length_cons]; omega
theorem strOf_size (L : List Int) : (strOf L).size = (frms L).length := by rw [size_list, strOf_list]
theorem text_of (v : Value) (L : List Int) (w : World) (h : PtsRow w v L) : Calls Try.prog 20 #[v] w fun e' w' => e' = .returned (.tuple #[.string (strOf L), .int .i64 0]) ∧ Below w.heap.size w w' :=
  texts_to v L w h.1 (by have := h.2.2; omega) _ _ (txR_of L h.2.1)
end Go.Proofs.Ytkabkkgaalimmaa
