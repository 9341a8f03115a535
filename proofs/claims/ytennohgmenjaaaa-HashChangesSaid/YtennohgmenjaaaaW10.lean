/- Contracts of hash.Read. -/
import Derived.Test.YtennohgmenjaaaaM2
namespace Go.Proofs.Ytennohgmenjaaaa
open Go.RowKit Go.Shelf
attribute [local go_sem] Oper.semAt_some

theorem index_any (c : UInt8) (w : World) :
    Calls Try.prog 38 #[.string ⟨#[48, 49, 50, 51, 52, 53, 54, 55, 56, 57, 97, 98, 99, 100, 101, 102]⟩, .int .u8 (c.toNat : Int)] w fun e w' => e = .returned (.int .i64 (if hexv c < 16 then (hexv c : Int) else -1)) ∧ w = w' := by
  refine (Try.strings_IndexByte _ _ _).mono ?_
  rintro e w' ⟨rfl, rfl⟩
  refine ⟨?_, rfl⟩
  have e : (c.toNat : Int).toNat.toUInt8 = c := by simp
  rw [e]
  show Ending.returned (.int .i64 (Lib.indexByte digitsL c)) = _
  split
  · rename_i h; rw [index_yes c h]
  · rename_i h; rw [index_no c h]
theorem index_hex (c : UInt8) (h : hexv c < 16) (w : World) :
    Calls Try.prog 38 #[.string ⟨#[48, 49, 50, 51, 52, 53, 54, 55, 56, 57, 97, 98, 99, 100, 101, 102]⟩, .int .u8 (c.toNat : Int)] w fun e w' => e = .returned (.int .i64 (hexv c : Int)) ∧ w = w' := by
  have := index_any c w; rwa [if_pos h] at this
theorem index_bad (c : UInt8) (h : ¬ hexv c < 16) (w : World) :
    Calls Try.prog 38 #[.string ⟨#[48, 49, 50, 51, 52, 53, 54, 55, 56, 57, 97, 98, 99, 100, 101, 102]⟩, .int .u8 (c.toNat : Int)] w fun e w' => e = .returned (.int .i64 (-1)) ∧ w = w' := by
  have := index_any c w; rwa [if_neg h] at this
theorem or_digit (x : BitVec 64) (n : Nat) (_h : n < 16) : bits .or .u64 (U x) (n : Int) = U (x ||| BitVec.ofNat 64 n) := by
  have e : (n : Int) = U (BitVec.ofNat 64 n) := by rw [U, BitVec.toNat_ofNat]; omega
  rw [e, U_or]

theorem read_len (s : ByteArray) (hs : s.size ≠ 16) (w : World) :
    Calls Try.prog 26 #[.string s] w fun e w' => e = .returned (.tuple #[.int .u64 0, .int .i64 20]) ∧ Below w.heap.size w w' := by
  have h : ((s.size : Int) != 16) = true := by rw [bne_iff_ne]; omega
  go_enter Try.func26, Try.ntmps26
  go_wp2_with fail
  go_step3
  go_wp2_with fail
  rw [Exit.noGoto_ret]
  go_ret2
  exact ⟨rfl, Below.refl _ _⟩
theorem wpIn_scope_wide {n : Nat} {P : Program} {c : Code} {Q : Exit → Act → World → Prop} {a : Act} {w : World} (h : c.wpIn Fence.wide n P (Exit.noGoto Q) a w) : (Code.scope c).wpIn Fence.wide n P Q a w :=
  wpIn_wide.2 (wp_scope_straight (wpIn_wide.1 h))

set_option maxRecDepth 100000 in
set_option maxHeartbeats 2000000 in
theorem read_in (s : ByteArray) (hs : s.size = 16) (w : World) :
    CallsIn Fence.wide 9 Try.prog 26 #[.string s] w fun e W' => ((isHex s.data.toList ∧ e = .returned (.tuple #[.int .u64 (U (rdv s.data.toList)), .int .i64 0])) ∨ (¬ isHex s.data.toList ∧ e = .returned (.tuple #[.int .u64 0, .int .i64 20]))) ∧ Below w.heap.size w W' := by
  have hro : Fence.wide.round = none := rfl
  have h1 : 1 ≤ 9 := by omega
  have hs9 : s.size ≤ 9223372036854775807 := by omega
  have h : ((s.size : Int) != 16) = false := by rw [bne_eq_false_iff_eq]; omega
  have hz := Lib.hid hs
  clear hs
  refine callsIn_of_wp_marks Try.func26 rfl trivial ?_ hro
  simp only [Try.ntmps26, List.size_toArray, List.length_cons, List.length_nil, Nat.reduceAdd, Nat.reduceSub, Array.replicate_succ, Array.replicate_zero, List.push_toArray, List.append_toArray, List.nil_append, List.cons_append]
  gi_wp2
  refine wpIn_scope_wide ?_
  gi_wp2
  refine wpIn_label ?_
  gi_wp2_with (refine ⟨trivial, ?_⟩; gi_at_call 31; refine (bytes_in Fence.wide 8 trivial hro _ _ _).mono ?_; rintro e w' ⟨rfl, rfl⟩)
  have c0 := cell_mk w (.int .u64 0) 22
  have c1 := cell_mk (w.alloc (.cells #[.int .u64 0] 22)) (.bool true) 4
  have c2 := cell_mk ((w.alloc (.cells #[.int .u64 0] 22)).alloc (.cells #[.bool true] 4)) (.string s) 9
  have c3 := cell_mk (((w.alloc (.cells #[.int .u64 0] 22)).alloc (.cells #[.bool true] 4)).alloc (.cells #[.string s] 9)) (.bool false) 4
  simp only [World.size_alloc] at c1 c2 c3
  have hB0 : Below w.heap.size w ((((w.alloc (.cells #[.int .u64 0] 22)).alloc (.cells #[.bool true] 4)).alloc (.cells #[.string s] 9)).alloc (.cells #[.bool false] 4)) := ((((Below.refl _ w).alloc (Nat.le_refl _) _).alloc (by simp) _).alloc (by simp; omega) _).alloc (by simp; omega) _
  refine wpIn_rangeFunc_ownF hro h1 (gf := 40) (lb := #[.pointer (some ⟨w.heap.size + 1 + 1, 0, none⟩), .pointer (some ⟨w.heap.size + 1 + 1 + 1, 0, none⟩)]) rfl trivial (enters_of Try.func40 (by kernel_rfl) rfl)
    (bytes_stops Fence.wide 8 trivial hro (by omega) (w.heap.size + 1 + 1) (w.heap.size + 1 + 1 + 1) s false hs9 _ (by simp) (by simp) (cell_on _ c2.1) c3.1) (fun h k => h.trans k) (fun W l o o' _ h1 h2 _ => KeepsB.turn W l o o' h1 h2) (Below.refl _ _) (fun _ => rfl)
    (fun pre W => (isHex pre ∧ W.cell? ⟨w.heap.size, 0, none⟩ = some (.int .u64 (U (rdv pre))) ∧ W.frozen? ⟨w.heap.size, 0, none⟩ = false ∧ W.cell? ⟨w.heap.size + 1, 0, none⟩ = some (.bool true) ∧ W.frozen? ⟨w.heap.size + 1, 0, none⟩ = false) ∧ Below w.heap.size w W)
    (fun c pre W => (c = .exit 0 ∧ ¬ isHex pre ∧ W.cell? ⟨w.heap.size + 1, 0, none⟩ = some (.bool false)) ∧ Below w.heap.size w W)
    (OwnFrom.and (Own.from (fun s A B row hs hg hr => ⟨hs.1, cell_kept hs.2.1 hg hr, (frozen_kept hs.2.1 hg hr).trans hs.2.2.1, cell_kept hs.2.2.2.1 hg hr, (frozen_kept hs.2.2.2.1 hg hr).trans hs.2.2.2.2⟩) _) (ownFrom_below (Nat.le_refl _) (by simp; omega)))
    (fun c => OwnFrom.and (Own.from (fun s A B row hs hg hr => ⟨hs.1, hs.2.1, cell_kept hs.2.2 hg hr⟩) _) (ownFrom_below (Nat.le_refl _) (by simp; omega)))
    ⟨⟨(fun _ h => by cases h), cell_on _ (cell_on _ (cell_on _ c0.1)), frozen_on _ (cell_on _ (cell_on _ c0.1)) (frozen_on _ (cell_on _ c0.1) (frozen_on _ c0.1 c0.2)), cell_on _ (cell_on _ c1.1), frozen_on _ (cell_on _ c1.1) (frozen_on _ c1.1 c1.2)⟩, hB0⟩
    (fun x => { tmps := #[.string s, undef, .int .u64 0, .int .i64 0, .pointer (some ⟨w.heap.size, 0, none⟩), .pointer (some ⟨w.heap.size + 1, 0, none⟩), .int .u8 x.toNat, undef, .string s, .int .i64 s.size, .bool false, .string s, .func (.func 40) #[] #[.pointer (some ⟨w.heap.size + 1 + 1, 0, none⟩), .pointer (some ⟨w.heap.size + 1 + 1 + 1, 0, none⟩)], .int .u8 x.toNat, undef, undef, undef, undef, undef, undef, undef, undef, undef, undef, undef, undef], defers := [] }) ?assign ?body ?done ?stop
  case assign =>
    intro l x W K hK
    gi_wp2
    exact hK
  case body =>
    rintro l pre x W ⟨⟨hx, hc, hf, hk, hkf⟩, hB⟩ _
    by_cases hh : hexv x < 16
    · have HX := Lib.hid hx
      clear hx
      gi_wp2_with (refine ⟨trivial, ?_⟩; gi_at_call 38; refine (CallsIn.inRound l (callsIn_wide.2 (index_hex x hh _))).mono ?_; rintro e w' ⟨rfl, rfl⟩)
      refine ⟨KeepsOthers.setCell _ _ _, KeepsB.set _ _ _ (by omega) (by omega), ⟨?_, ?_, by rw [World.frozen?_setCell]; exact hf, cell_other (by omega) hk, by rw [World.frozen?_setCell]; exact hkf⟩, hB.setCell (p := ⟨w.heap.size, 0, none⟩) (Nat.le_refl _) _⟩
      · intro c hc'
        rcases List.mem_append.1 hc' with h' | h'
        · exact HX.out c h'
        · obtain rfl : c = x := by simpa using h'
          exact hh
      · rw [rdv_snoc, ← or_digit _ _ hh]; exact World.cell?_setCell_same' _ _ _ (by rw [hc]; rfl)
    · have HX := Lib.hid hx
      clear hx
      gi_wp2_with (refine ⟨trivial, ?_⟩; gi_at_call 38; refine (CallsIn.inRound l (callsIn_wide.2 (index_bad x hh _))).mono ?_; rintro e w' ⟨rfl, rfl⟩)
      exact ⟨KeepsOthers.setCell _ _ _, ⟨rfl, (fun h' => hh (h' x (by simp))), World.cell?_setCell_same' _ _ _ (by rw [hk]; rfl)⟩, hB.setCell (p := ⟨w.heap.size + 1, 0, none⟩) (by simp) _⟩
  case done =>
    rintro D ys W hD rfl ⟨⟨hx, hc, -, hk, -⟩, hB⟩ hK
    rw [come_all] at hx hc
    have HX := Lib.hid hx
    clear hx
    gi_wp2
    rw [Exit.noGoto_ret]
    refine ⟨by simp, .inl ⟨_, _, rfl, run_takeDeferred hK, ?_⟩⟩
    exact ⟨_, results_tmp2 rfl _ _ _, .inl ⟨HX.out, rfl⟩, hB.trans (belowK_b (w := w) (Nat.le_refl _) W D _ _ (by simp at hD; omega) hK rfl rfl)⟩
  case stop =>
    rintro D c pre W hD ⟨k, hk16, hpre⟩ ⟨⟨rfl, hx, hk⟩, hB⟩ hK
    have HX : Hid (¬ isHex s.data.toList) := fun h' => hx (fun c hc => h' c (by
      rw [hpre] at hc
      simp only [come, Bool.false_eq_true, if_false] at hc
      exact List.mem_of_mem_take hc))
    clear hx hk16 hpre
    gi_wp2
    rw [Exit.noGoto_ret]
    refine ⟨by simp, .inl ⟨_, _, rfl, run_takeDeferred hK, ?_⟩⟩
    exact ⟨_, results_tmp2 rfl _ _ _, .inr ⟨HX.out, rfl⟩, hB.trans (belowK_b (w := w) (Nat.le_refl _) W D _ _ (by simp at hD; omega) hK rfl rfl)⟩

/-- What Read gives. -/
theorem read_yes (s : ByteArray) (hs : s.size = 16) (hx : Hid (isHex s.data.toList)) (w : World) :
    Calls Try.prog 26 #[.string s] w fun e w' => e = .returned (.tuple #[.int .u64 (U (rdv s.data.toList)), .int .i64 0]) ∧ Below w.heap.size w w' :=
  (callsIn_wide.1 (read_in s hs w)).mono fun _ _ ⟨h, hb⟩ => ⟨by rcases h with h | h; exact h.2; exact absurd hx.out h.1, hb⟩
theorem read_no (s : ByteArray) (hx : Hid (¬ (s.size = 16 ∧ isHex s.data.toList))) (w : World) :
    Calls Try.prog 26 #[.string s] w fun e w' => e = .returned (.tuple #[.int .u64 0, .int .i64 20]) ∧ Below w.heap.size w w' := by
  by_cases hs : s.size = 16
  · exact (callsIn_wide.1 (read_in s hs w)).mono fun _ _ ⟨h, hb⟩ => ⟨by rcases h with h | h; exact absurd ⟨hs, h.1⟩ hx.out; exact h.2, hb⟩
  · exact read_len s hs w
end Go.Proofs.Ytennohgmenjaaaa
