/- Contracts of short and tells, the comparison with the reference at lists of strings. -/
import Derived.Test.YtennohgmenjaaaaW8
import Derived.Test.YtennohgmenjaaaaG2
import Derived.Test.YtennohgmenjaaaaL2
namespace Go.Proofs.Ytennohgmenjaaaa
open Go.RowKit Go.Shelf

theorem Strs.row {W : World} {v : Value} {L : List ByteArray} (h : Strs W v L) : Row W v (L.map .string) := by
  rcases h with ⟨a', c', hac, rfl, rfl⟩ | ⟨b, off, cap, rfl, hlt, h1, h2, hc⟩
  · exact .inl ⟨a', c', hac, rfl, rfl⟩
  · exact .inr ⟨b, off, cap, by simp, hlt, by simpa using h1, h2, fun i hi => by simpa using hc i (by simpa using hi)⟩
theorem Strs.of_row {W : World} {v : Value} {L : List ByteArray} (h : Row W v (L.map .string)) : Strs W v L := by
  rcases h with ⟨a', c', hac, rfl, h⟩ | ⟨b, off, cap, rfl, hlt, h1, h2, hc⟩
  · exact .inl ⟨a', c', hac, rfl, by simpa using h⟩
  · exact .inr ⟨b, off, cap, by simp, hlt, by simpa using h1, h2, fun i hi => by have := hc i (by simpa using hi); rwa [List.getElem_map] at this⟩
theorem Try.info9 : (Try.prog.info? 9).map (fun i => (i.zero, i.size, i.bytes)) = some (some (.string ByteArray.empty), 1, 16) := by kernel_rfl

set_option maxRecDepth 100000 in
set_option maxHeartbeats 400000 in
theorem short_yes (v : Value) (L : List ByteArray) (w : World) (hL : Strs w v L) (hn : L.length ≤ 100) (hs : Hid (∀ s ∈ L, s.size ≤ 300)) :
    Calls Try.prog 21 #[v] w fun e w' => e = .returned (.bool true) ∧ w = w' := by
  rcases hL with ⟨a', c', hac, rfl, rfl⟩ | ⟨b, off, cap, rfl, hlt, h1, h2, hc⟩
  · go_enter Try.func21, Try.ntmps21
    go_wp2
    refine wp_loop_rounds 1 ?_
    rw [rounds_succ]; go_wp2
    go_ret
    exact ⟨rfl, rfl⟩
  · have HC := Lib.hid hc
    clear hc
    go_enter Try.func21, Try.ntmps21
    go_wp2
    go_loop [10] (fun i => ∃ k : Nat, k ≤ L.length ∧ i = .int .i64 k) (fun i => L.length - (intOf i).toNat)
    case atStart => exact ⟨0, by omega, rfl⟩
    case round =>
      obtain ⟨k, hk, rfl⟩ := hrel
      by_cases hlk : k < L.length
      · have hcell := HC.out k hlk
        have hsz := hs.out _ (List.getElem_mem hlk)
        go_wp2
        go_round
        case rel => exact ⟨k + 1, by omega, by go_num⟩
        case measure => simp [intOf]; omega
      · obtain rfl : k = L.length := by omega
        go_wp2
        go_ret
        exact ⟨rfl, rfl⟩
set_option maxRecDepth 100000 in
set_option maxHeartbeats 400000 in
theorem short_no (v : Value) (L : List ByteArray) (w : World) (hL : Strs w v L) (hno : Hid (¬ (L.length ≤ 100 ∧ ∀ s ∈ L, s.size ≤ 300))) :
    Calls Try.prog 21 #[v] w fun e w' => e = .returned (.bool false) ∧ w = w' := by
  rcases hL with ⟨a', c', hac, rfl, rfl⟩ | ⟨b, off, cap, rfl, hlt, h1, h2, hc⟩
  · exact absurd (by simp) hno.out
  · have HC := Lib.hid hc
    clear hc
    by_cases hn : L.length ≤ 100
    · have hex : ∃ k, ∃ h : k < L.length, 300 < L[k].size := by
        refine Classical.byContradiction fun h => hno.out ⟨hn, fun s hs => ?_⟩
        obtain ⟨k, hk, rfl⟩ := List.getElem_of_mem hs
        exact Nat.le_of_not_lt fun h' => h ⟨k, hk, h'⟩
      obtain ⟨m, hm, hbig⟩ := hex
      have HM := Lib.hid hbig
      clear hbig hno
      go_enter Try.func21, Try.ntmps21
      go_wp2
      go_loop [10] (fun i => ∃ k : Nat, k ≤ m ∧ i = .int .i64 k) (fun i => L.length - (intOf i).toNat)
      case atStart => exact ⟨0, by omega, rfl⟩
      case round =>
        obtain ⟨k, hk, rfl⟩ := hrel
        have hlk : k < L.length := by omega
        have hcell := HC.out k hlk
        by_cases hbig : 300 < L[k].size
        · go_wp2
          go_ret
          exact ⟨rfl, rfl⟩
        · have hkm : k < m := by
            rcases Nat.lt_or_ge k m with h | h
            · exact h
            · obtain rfl : k = m := by omega
              exact absurd HM.out hbig
          have hsz : L[k].size ≤ 300 := by omega
          clear hbig
          go_wp2
          go_round
          case rel => exact ⟨k + 1, by omega, by go_num⟩
          case measure => simp [intOf]; omega
    · clear hno
      have hn' : 100 < L.length := by omega
      clear hn
      go_enter Try.func21, Try.ntmps21
      go_wp2
      go_ret
      exact ⟨rfl, rfl⟩

set_option maxRecDepth 100000 in
set_option maxHeartbeats 2000000 in
theorem tells_any (h : BitVec 64) (v : Value) (L : List ByteArray) (w : World) (hL : Strs w v L) (hn : L.length ≤ 1000) (hs : Hid (∀ s ∈ L, s.size ≤ 9223372036854775807)) :
    Calls Try.prog 22 #[.int .u64 (U h), v] w fun e w' => e = .returned (.bool true) ∧ Below w.heap.size w w' := by
  have hlm : (L.map Value.string).length ≤ 1000 := by simpa using hn
  have HL := Lib.hid hL
  rcases hL with ⟨a', c', hac, rfl, rfl⟩ | ⟨b, off, cap, rfl, hlt, h1, h2, hc⟩
  · go_enter Try.func22, Try.ntmps22
    go_wp2_with (at_builtin; go_must (refine app_all rfl (.tmp 8) (.tmp 9) 42 rfl w.heap.size 9 (.string ByteArray.empty) 16 Try.underlying42 Try.info9 rfl (.slice (some ⟨w.heap.size, 0, none⟩) 0 0) 0 [] rfl _ [] rfl (World.ownsRow_lit w #[] 0 (Nat.le_refl _) (by unfold maxLen; omega) rfl) (HL.out.row.on ((Below.refl _ _).alloc (Nat.le_refl _) _)) (by simp [Value.oneCell']) (by omega) (by omega) (by simp) ?_); rintro v1 w1 hown hb _ _; have HO := Lib.hid hown; clear hown; rename_i hx1 hx2; clear hx1 hx2)
    replace hb := (show Below w.heap.size w (w.alloc (.cells #[] 9)) from (Below.refl _ _).alloc (Nat.le_refl _) _).trans hb
    have hst : Strs w1 v1 [] := Strs.of_row (by have := Row.of_owned HO.out; simpa using this)
    refine (parts_any v1 [] w1 hst (fun _ h => by cases h)).mono ?_; rintro e w2 ⟨rfl, h3⟩; replace hb := on_trans hb h3; clear h3
    go_wp2_with fail
    refine (rparts_any _ [] _ (.inl ⟨a', c', hac, rfl, rfl⟩) (fun _ h => by cases h)).mono ?_; rintro e w3 ⟨rfl, rfl⟩
    go_wp2_with fail
    refine wp_loop_rounds 1 ?_
    rw [rounds_succ]; go_wp2
    go_ret
    exact ⟨rfl, hb⟩
  · have HC := Lib.hid hc
    clear hc
    unfold maxLen at h2
    go_enter Try.func22, Try.ntmps22
    go_wp2_with (at_builtin; go_must (refine app_all rfl (.tmp 8) (.tmp 9) 42 rfl w.heap.size 9 (.string ByteArray.empty) 16 Try.underlying42 Try.info9 rfl (.slice (some ⟨w.heap.size, 0, none⟩) 0 0) 0 [] rfl _ (L.map .string) rfl (World.ownsRow_lit w #[] 0 (Nat.le_refl _) (by unfold maxLen; omega) rfl) (HL.out.row.on ((Below.refl _ _).alloc (Nat.le_refl _) _)) (by simp [Value.oneCell']) (by omega) (by omega) (by simp) ?_); rintro v1 w1 hown hb _ _; have HO := Lib.hid hown; clear hown; rename_i hx1 hx2; clear hx1 hx2)
    replace hb := (show Below w.heap.size w (w.alloc (.cells #[] 9)) from (Below.refl _ _).alloc (Nat.le_refl _) _).trans hb
    have hst : Strs w1 v1 L := Strs.of_row (by have := Row.of_owned HO.out; simpa using this)
    have HS := Lib.hid hst
    clear hst
    refine (parts_any v1 L w1 HS.out hs).mono ?_; rintro e w2 ⟨rfl, h3⟩
    have HS2 := Lib.hid (HS.out.on h3)
    replace hb := on_trans hb h3; clear h3
    go_wp2_with fail
    refine (rparts_any _ L _ (HL.out.on hb) hs).mono ?_; rintro e w3 ⟨rfl, rfl⟩
    go_wp2_with fail
    rcases HS2.out with ⟨a', c', -, rfl, hnil⟩ | ⟨g, o2, cp2, rfl, hlt2, -, -, hc2⟩
    · subst hnil
      refine wp_loop_rounds 1 ?_
      rw [rounds_succ]; go_wp2
      go_ret
      exact ⟨rfl, hb⟩
    · have HC2 := Lib.hid hc2
      clear hc2
      go_loopw [18] (fun i wr => ∃ k : Nat, k ≤ L.length ∧ i = .int .i64 k ∧ Below w2.heap.size w2 wr) (fun i _ => L.length - (intOf i).toNat)
      case atStart => exact ⟨0, by omega, rfl, Below.refl _ _⟩
      case round =>
        obtain ⟨k, hk, rfl, hbr⟩ := hrel
        by_cases hlk : k < L.length
        · obtain ⟨s, hsk⟩ : ∃ s, s = L[k] := ⟨_, rfl⟩
          have hcell : wr.cell? ⟨b, off + k, none⟩ = some (.string s) := by rw [hsk]; exact (hbr.cell (p := ⟨b, off + k, none⟩) (Nat.lt_of_lt_of_le hlt hb.size)).trans ((hb.cell (p := ⟨b, off + k, none⟩) hlt).trans (HC.out k hlk))
          have hcell2 : wr.cell? ⟨g, o2 + k, none⟩ = some (.string s) := by rw [hsk]; exact (hbr.cell (p := ⟨g, o2 + k, none⟩) hlt2).trans (HC2.out k hlk)
          have hsz : s.size ≤ 9223372036854775807 := by rw [hsk]; exact hs.out _ (List.getElem_mem hlk)
          clear hsk
          go_wp2_with fail
          refine (sum_any s hsz _).mono ?_; rintro e w4 ⟨rfl, h4⟩; replace hbr := hbr.trans (h4.mono hbr.size); clear h4
          go_wp2_with fail
          rw [offset_lit]
          refine (radd_any _ s hsz _).mono ?_; rintro e w5 ⟨rfl, rfl⟩
          go_wp2_with fail
          refine (add_any _ s hsz _).mono ?_; rintro e w4 ⟨rfl, h4⟩; replace hbr := hbr.trans (h4.mono hbr.size); clear h4
          go_wp2_with fail
          refine (radd_any _ s hsz _).mono ?_; rintro e w5 ⟨rfl, rfl⟩
          go_wp2_with fail
          refine (back_any _ s hsz _).mono ?_; rintro e w4 ⟨rfl, h4⟩; replace hbr := hbr.trans (h4.mono hbr.size); clear h4
          go_wp2_with fail
          refine (rback_any _ s hsz _).mono ?_; rintro e w4 ⟨rfl, h4⟩; replace hbr := hbr.trans (h4.mono hbr.size); clear h4
          go_wp2_with fail
          go_roundw
          case rel => exact ⟨k + 1, by omega, by go_num, hbr⟩
          case measure => simp [intOf]; omega
        · obtain rfl : k = L.length := by omega
          go_wp2
          go_ret
          exact ⟨rfl, on_trans hb hbr⟩

/-- What the walk is told of a slice of strings that came in. -/
def IsStrs (w : World) (a : Option Addr) (len cap : Nat) (ss : List ByteArray) : Prop :=
  (a = none ∧ len = 0 ∧ cap = 0 ∧ ss = []) ∨
  ∃ x, a = some x ∧ len ≤ cap ∧ cap ≤ maxLen ∧ ss.length = cap ∧ (∀ i, i < ss.length → w.cell? (x.add i) = some (.string (ss.getD i ByteArray.empty))) ∧ ∀ s ∈ ss, s.size ≤ maxLen
theorem IsStrs.strs {w : World} {a : Option Addr} {len cap : Nat} {ss : List ByteArray} (h : IsStrs w a len cap ss) : (∃ L : List ByteArray, L.length = len ∧ Strs w (.slice a len cap) L ∧ ∀ s ∈ L, s.size ≤ 9223372036854775807) := by
  rcases h with ⟨rfl, rfl, rfl, rfl⟩ | ⟨⟨b, off, spot⟩, rfl, h1, h2, h3, hc, hz⟩
  · exact ⟨[], rfl, .inl ⟨none, 0, fun _ => rfl, rfl, rfl⟩, fun _ h => by cases h⟩
  · refine ⟨ss.take len, by simp; omega, ?_, fun s hs => hz s (List.mem_of_mem_take hs)⟩
    by_cases h0 : len = 0
    · subst h0
      exact .inl ⟨_, cap, (fun h => by cases h), rfl, by simp⟩
    · have hs0 := hc 0 (by omega)
      have hspot : spot = none := by simpa [Addr.add] using World.cell?_spot hs0
      subst hspot
      have hl : (ss.take len).length = len := by simp; omega
      refine .inr ⟨b, off, cap, by rw [hl], ?_, by omega, h2, fun i hi => ?_⟩
      · obtain ⟨o, ho, _⟩ := cells_of_cell hs0
        have := (Array.getElem?_eq_some_iff.1 ho).1
        simpa [Addr.add] using this
      · have := hc i (by omega)
        rw [show (⟨b, off, none⟩ : Addr).add i = ⟨b, off + i, none⟩ by simp [Addr.add]] at this
        rw [this, List.getElem_take, List.getD_eq_getElem?_getD, List.getElem?_eq_getElem (by omega)]; rfl
set_option maxRecDepth 100000 in
set_option maxHeartbeats 1000000 in
theorem hashTells_walk (a0 : Int) (a1 : Option Addr) (len1 cap1 : Nat) (z1 : List ByteArray) (w : World) (w0 : (Lit.int .u64 a0).wf = true) (w1 : IsStrs w a1 len1 cap1 z1) :
    Calls Try.prog 8 #[.int .u64 a0, .slice a1 len1 cap1] w fun e w' => e = .returned (.bool true) ∧ Below w.heap.size w w' := by
  obtain ⟨h, rfl⟩ := U_ex a0 w0
  obtain ⟨L, hlen, hL, hs⟩ := w1.strs
  clear w0 w1
  have HL := Lib.hid hL
  have HS := Lib.hid hs
  clear hL hs
  by_cases hc : L.length ≤ 100 ∧ ∀ s ∈ L, s.size ≤ 300
  · have h100 := hc.1
    have H3 := Lib.hid hc.2
    clear hc
    go_enter Try.func8, Try.ntmps8
    go_wp2_with fail
    refine (short_yes _ L _ HL.out h100 H3.out).mono ?_; rintro e w2 ⟨rfl, rfl⟩
    go_wp2_with fail
    refine (tells_any h _ L _ HL.out (by omega) HS.out).mono ?_; rintro e w2 ⟨rfl, hb⟩
    go_wp2_with fail
    refine (awake_any _).mono ?_; rintro e w3 ⟨rfl, h3⟩; replace hb := on_trans hb h3; clear h3
    go_wp2_with fail
    go_ret
    exact ⟨rfl, hb⟩
  · have H3 := Lib.hid hc
    clear hc
    go_enter Try.func8, Try.ntmps8
    go_wp2_with fail
    refine (short_no _ L _ HL.out H3.out).mono ?_; rintro e w2 ⟨rfl, rfl⟩
    go_wp2_with fail
    refine (awake_any _).mono ?_; rintro e w3 ⟨rfl, hb⟩
    go_wp2_with fail
    go_ret
    exact ⟨rfl, hb⟩
end Go.Proofs.Ytennohgmenjaaaa
