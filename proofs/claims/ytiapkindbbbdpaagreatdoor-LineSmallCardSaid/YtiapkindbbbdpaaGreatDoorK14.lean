/- The contracts of line.Number and Decimal over the translation. -/
import Derived.Test.YtiapkindbbbdpaaGreatDoorK13
import Derived.Lib.AppendIntMem
namespace Go.Proofs.YtiapkindbbbdpaaGreatDoor
open Go.RowKit

theorem tabIs_on {P : Program} {w w' : World} {n : String} {k : IntKind} {zs : List Int} (h : Lib.TabIs P w n k zs) (hb : Below w.heap.size w w') : Lib.TabIs P w' n k zs := by
  unfold Lib.TabIs World.var? at *
  cases hg : P.globalNamed n with
  | none => rw [hg] at h; cases h
  | some g =>
    rw [hg] at h
    simp only [Option.bind_some] at h ⊢
    have hlt : g < w.heap.size := by
      rcases Nat.lt_or_ge g w.heap.size with h' | h'
      · exact h'
      · rw [Array.getElem?_eq_none h'] at h; cases h
    rw [hb.block g hlt]
    exact h
/-- What the library's variables hold. -/
def Glb (W : World) : Prop := MaxG W ∧ (∃ t p, W.cell? ⟨1, 0, none⟩ = some (.iface t p)) ∧ (∃ t p, W.cell? ⟨2, 0, none⟩ = some (.iface t p)) ∧ Lib.TabIs Tryz.prog W "internal/strconv.uint64pow10" .u64 Lib.pow10Tab ∧ 2 < W.heap.size
theorem Glb.on {w W : World} (h : Glb w) (hb : Below w.heap.size w W) : Glb W := by
  obtain ⟨h0, ⟨t1, p1, h1⟩, ⟨t2, p2, h2⟩, h3, h4⟩ := h
  exact ⟨maxG_below h0 hb, ⟨t1, p1, (hb.cell (p := ⟨1, 0, none⟩) (by show 1 < _; omega)).trans h1⟩, ⟨t2, p2, (hb.cell (p := ⟨2, 0, none⟩) h4).trans h2⟩, tabIs_on h3 hb, Nat.lt_of_lt_of_le h4 hb.size⟩
theorem itoa_to (n : Int) (h0 : -9223372036854775808 ≤ n) (h1 : n ≤ 9223372036854775807) (s : ByteArray) (hs : s = ⟨(Lib.itoa n).toArray⟩) (w : World) (hG : Glb w) :
    Calls Tryz.prog 47 #[.int .i64 n] w fun e w' => e = .returned (.string s) ∧ Below w.heap.size w w' := by
  subst hs
  refine (Tryz.strconv_Itoa n h0 h1 w hG.2.2.2.1).mono ?_
  rintro e w' ⟨rfl, k, os, rfl⟩
  exact ⟨rfl, Lib.below_grow _ w (Nat.le_refl _) k os⟩
theorem atoi_ok (s : ByteArray) (hs : s.size ≤ 281474976710656) (v : Int) (h : Lib.atoiAll s.data.toList = .ok v) (w : World) :
    Calls Tryz.prog 46 #[.string s] w fun e w' => e = .returned (.tuple #[.int .i64 v, .nilIface]) ∧ Below w.heap.size w w' := by
  refine (Tryz.strconv_Atoi_ok s (by omega) v h w).mono ?_
  rintro e w' ⟨rfl, rfl | ⟨t, rfl⟩⟩
  · exact ⟨rfl, Below.refl _ _⟩
  · exact ⟨rfl, rfl, rfl, rfl, by rw [Lib.bytesWorld_size]; omega, fun k hk => Lib.bytesWorld_at_old w 5 t k hk⟩
theorem atoi_bad (s : ByteArray) (hs : s.size ≤ 281474976710656) (h : ∀ v, Lib.atoiAll s.data.toList ≠ .ok v) (w : World) (hG : Glb w) :
    Calls Tryz.prog 46 #[.string s] w fun e w' => (∃ v N, e = .returned (.tuple #[.int .i64 v, .iface 139 (.pointer (some ⟨N, 0, none⟩))])) ∧ Below w.heap.size w w' := by
  obtain ⟨_, ⟨t1, p1, h1⟩, ⟨t2, p2, h2⟩, _⟩ := hG
  match hc : Lib.atoiAll s.data.toList with
  | .ok v => exact absurd hc (h v)
  | Lib.NumEnd.syntax =>
    refine (Tryz.strconv_Atoi_syntax s hs hc _ w h1 (.inr ⟨_, _, rfl⟩)).mono ?_
    rintro e w' ⟨N, rfl, _, _, hb⟩
    exact ⟨⟨_, _, rfl⟩, hb⟩
  | .range =>
    refine (Tryz.strconv_Atoi_range s hs hc _ w h2 (.inr ⟨_, _, rfl⟩)).mono ?_
    rintro e w' ⟨N, rfl, _, _, hb⟩
    exact ⟨⟨_, _, rfl⟩, hb⟩
/-- Number. -/
def numF (l : List UInt8) (least most : Int) : Int × Int := match Lib.atoiAll l with
  | .ok v => if Lib.itoa v = l then if v < least ∨ most < v then (0, 6) else (v, 0) else (0, 2)
  | _ => (0, 2)
theorem atoi_range (l : List UInt8) (v : Int) (h : Lib.atoiAll l = .ok v) : -9223372036854775808 ≤ v ∧ v ≤ 9223372036854775807 := by
  unfold Lib.atoiAll at h
  cases l with
  | nil => cases h
  | cons c r =>
    simp only at h
    split at h
    · cases h
    · cases h
    · split at h
      · cases h
      · split at h
        · cases h
        · simp only [Lib.NumEnd.ok.injEq] at h
          split at h <;> omega
theorem decimal_any (n : Int) (h0 : -9223372036854775808 ≤ n) (h1 : n ≤ 9223372036854775807) (s : ByteArray) (hs : s = ⟨(Lib.itoa n).toArray⟩) (w : World) (hG : Glb w) :
    Calls Tryz.prog 29 #[.int .i64 n] w fun e w' => e = .returned (.string s) ∧ Below w.heap.size w w' := by
  replace hs := Lib.hid hs
  replace hG := Lib.hid hG
  go_enter Tryz.func29, Tryz.ntmps29
  go_wp2_with fail
  refine (itoa_to n h0 h1 s hs.out _ hG.out).mono ?_; rintro e w1 ⟨rfl, hb⟩
  go_wp2_with fail
  go_ret
  exact ⟨rfl, hb⟩
set_option maxRecDepth 100000 in
set_option maxHeartbeats 1000000 in
theorem number_to (s : ByteArray) (hs : s.size ≤ 281474976710656) (least most : Int) (x e : Int) (h : numF s.data.toList least most = (x, e)) (w : World) (hG : Glb w) :
    Calls Tryz.prog 23 #[.string s, .int .i64 least, .int .i64 most] w fun r w' => r = .returned (.tuple #[.int .i64 x, .int .i64 e]) ∧ Below w.heap.size w w' := by
  unfold numF at h
  replace hG := Lib.hid hG
  by_cases hok : ∃ v, Lib.atoiAll s.data.toList = .ok v
  · obtain ⟨v, hv⟩ := hok
    have hr := atoi_range _ v hv
    rw [hv] at h
    simp only at h
    replace hv := Lib.hid hv
    obtain ⟨t, ht⟩ : ∃ t : ByteArray, Hid (t = ⟨(Lib.itoa v).toArray⟩) := ⟨_, rfl⟩
    have htl : Hid (t.toList = Lib.itoa v) := by show _ = _; rw [ht.out, ByteArray.toList_eq]
    have hsl : Hid (s.toList = s.data.toList) := ByteArray.toList_eq s
    go_enter Tryz.func23, Tryz.ntmps23
    go_wp2_with fail
    refine (atoi_ok s hs v hv.out _).mono ?_; rintro r w1 ⟨rfl, hb1⟩
    have hG1 := Lib.hid (hG.out.on hb1)
    go_wp2_with fail
    refine (itoa_to v hr.1 hr.2 t ht.out _ hG1.out).mono ?_; rintro r w2 ⟨rfl, hb2⟩
    have HB := Lib.hid (hb1.trans (hb2.mono hb1.size))
    clear hb1 hb2
    by_cases he : Lib.itoa v = s.data.toList
    · rw [if_pos he] at h
      have q1 : (t.toList == s.toList) = true := by rw [htl.out, hsl.out, he]; simp
      have q2 : (t.toList != s.toList) = false := by rw [bne, q1]; rfl
      by_cases hl : v < least
      · rw [if_pos (.inl hl)] at h
        simp only [Prod.mk.injEq] at h
        obtain ⟨rfl, rfl⟩ := h
        have t1 : decide (v < least) = true := decide_eq_true hl
        clear he htl
        go_wp2_with fail
        go_ret2
        exact ⟨rfl, HB.out⟩
      · have t1 : decide (v < least) = false := decide_eq_false hl
        by_cases hm : most < v
        · rw [if_pos (.inr hm)] at h
          simp only [Prod.mk.injEq] at h
          obtain ⟨rfl, rfl⟩ := h
          have t2 : decide (most < v) = true := decide_eq_true hm
          clear he htl
          go_wp2_with fail
          go_ret2
          exact ⟨rfl, HB.out⟩
        · rw [if_neg (by rintro (h | h); exact hl h; exact hm h)] at h
          simp only [Prod.mk.injEq] at h
          obtain ⟨rfl, rfl⟩ := h
          have t2 : decide (most < v) = false := decide_eq_false hm
          clear he htl
          go_wp2_with fail
          go_ret2
          exact ⟨rfl, HB.out⟩
    · rw [if_neg he] at h
      simp only [Prod.mk.injEq] at h
      obtain ⟨rfl, rfl⟩ := h
      have q1 : (t.toList == s.toList) = false := by rw [htl.out, hsl.out]; simpa using he
      have q2 : (t.toList != s.toList) = true := by rw [bne, q1]; rfl
      clear he htl
      go_wp2_with fail
      go_ret2
      exact ⟨rfl, HB.out⟩
  · have hbad : ∀ v, Lib.atoiAll s.data.toList ≠ .ok v := fun v hv => hok ⟨v, hv⟩
    have h' : (0, 2) = (x, e) := by
      rw [← h]
      split
      · rename_i v hv; exact absurd hv (hbad v)
      · rfl
    simp only [Prod.mk.injEq] at h'
    obtain ⟨rfl, rfl⟩ := h'
    clear h hok
    replace hbad := Lib.hid hbad
    go_enter Tryz.func23, Tryz.ntmps23
    go_wp2_with fail
    refine (atoi_bad s hs hbad.out _ hG.out).mono ?_; rintro r w1 ⟨⟨v, N, rfl⟩, hb1⟩
    go_wp2_with fail
    go_ret2
    exact ⟨rfl, hb1⟩
end Go.Proofs.YtiapkindbbbdpaaGreatDoor
