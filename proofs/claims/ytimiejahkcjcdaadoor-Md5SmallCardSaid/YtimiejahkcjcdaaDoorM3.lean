/- The contract of md5.step. -/
import Derived.Test.YtimiejahkcjcdaaDoorM3a
import Derived.RegionTactic
import Derived.BigRegion
import Derived.Deep.QuietTactic
import Derived.BigQuiet
import Derived.Deep.LoopGhost
namespace Go.Proofs.YtimiejahkcjcdaaDoor
open Go.RowKit

/-- What the first loop keeps: the state, the result's place, the words. -/
def StI (w : World) (a b c d : BitVec 32) (l : List UInt8) (k : Nat) (wr : World) : Prop :=
  Below w.heap.size w wr ∧
  (wr.cell? ⟨w.heap.size, 0, none⟩ = some (.int .u32 (U a)) ∧ wr.cell? ⟨w.heap.size, 1, none⟩ = some (.int .u32 (U b)) ∧ wr.cell? ⟨w.heap.size, 2, none⟩ = some (.int .u32 (U c)) ∧ wr.cell? ⟨w.heap.size, 3, none⟩ = some (.int .u32 (U d))) ∧
  (∀ j, j < 4 → (∃ v, wr.cell? ⟨w.heap.size + 1, j, none⟩ = some v) ∧ wr.frozen? ⟨w.heap.size + 1, j, none⟩ = false) ∧
  (∀ j, j < 16 → wr.cell? ⟨w.heap.size + 1 + 1, j, none⟩ = some (.int .u32 (U (mw l k j))) ∧ wr.frozen? ⟨w.heap.size + 1 + 1, j, none⟩ = false)
theorem U_0 : U 0 = 0 := rfl
theorem stI_mk (w : World) (a b c d : BitVec 32) (l : List UInt8) : StI w a b c d l 0 (((w.alloc (.cells #[.int .u32 (U a), .int .u32 (U b), .int .u32 (U c), .int .u32 (U d)] 30)).alloc (.cells #[.int .u32 0, .int .u32 0, .int .u32 0, .int .u32 0] 30)).alloc (.cells #[.int .u32 0, .int .u32 0, .int .u32 0, .int .u32 0, .int .u32 0, .int .u32 0, .int .u32 0, .int .u32 0, .int .u32 0, .int .u32 0, .int .u32 0, .int .u32 0, .int .u32 0, .int .u32 0, .int .u32 0, .int .u32 0] 87)) := by
  refine ⟨(((Below.refl _ w).alloc (Nat.le_refl _) _).alloc (by simp) _).alloc (by simp; omega) _, ⟨?_, ?_, ?_, ?_⟩, fun j hj => ?_, fun j hj => ?_⟩
  · simp [go_sem]
  · simp [go_sem]
  · simp [go_sem]
  · simp [go_sem]
  · rcases (show j = 0 ∨ j = 1 ∨ j = 2 ∨ j = 3 by omega) with rfl | rfl | rfl | rfl <;> simp [go_sem]
  · rw [show mw l 0 j = 0 from rfl, U_0]
    rcases (show j = 0 ∨ j = 1 ∨ j = 2 ∨ j = 3 ∨ j = 4 ∨ j = 5 ∨ j = 6 ∨ j = 7 ∨ j = 8 ∨ j = 9 ∨ j = 10 ∨ j = 11 ∨ j = 12 ∨ j = 13 ∨ j = 14 ∨ j = 15 by omega) with rfl | rfl | rfl | rfl | rfl | rfl | rfl | rfl | rfl | rfl | rfl | rfl | rfl | rfl | rfl | rfl <;> simp [go_sem]
theorem stI_step (w : World) (a b c d : BitVec 32) (l : List UInt8) (k : Nat) (wr : World) (h : StI w a b c d l k wr) (hk : k < 64) :
    StI w a b c d l (k + 1) (wr.setCell ⟨w.heap.size + 1 + 1, k / 4, none⟩ (.int .u32 (U (mw l k (k / 4) ||| zx (l.getD k 0) <<< (k % 4 * 8))))).drew := by
  obtain ⟨h1, ⟨h2, h3, h4, h5⟩, h6, h7⟩ := h
  have ne : ∀ (x : Nat) (y : Nat) (v : Value) (q : Value), x ≠ w.heap.size + 1 + 1 → wr.cell? ⟨x, y, none⟩ = some q → (wr.setCell ⟨w.heap.size + 1 + 1, k / 4, none⟩ v).drew.cell? ⟨x, y, none⟩ = some q := fun x y v q hx hq =>
    (World.cell?_of_block (w := wr) (Below.heap_setCell wr ⟨w.heap.size + 1 + 1, k / 4, none⟩ v x hx)).trans hq
  refine ⟨(h1.setCell (p := ⟨w.heap.size + 1 + 1, k / 4, none⟩) (by show w.heap.size ≤ w.heap.size + 1 + 1; omega) _).drew, ⟨ne _ _ _ _ (by omega) h2, ne _ _ _ _ (by omega) h3, ne _ _ _ _ (by omega) h4, ne _ _ _ _ (by omega) h5⟩, fun j hj => ?_, fun j hj => ?_⟩
  · obtain ⟨⟨v, hv⟩, hf⟩ := h6 j hj
    exact ⟨⟨v, ne _ _ _ _ (by omega) hv⟩, (World.frozen?_of_block (w := wr) (Below.heap_setCell wr ⟨w.heap.size + 1 + 1, k / 4, none⟩ _ (w.heap.size + 1) (by show w.heap.size + 1 ≠ w.heap.size + 1 + 1; omega))).trans hf⟩
  · obtain ⟨hv, hf⟩ := h7 j hj
    obtain ⟨hv4, hf4⟩ := h7 (k / 4) (by omega)
    refine ⟨?_, ?_⟩
    · by_cases e : k / 4 = j
      · subst e
        rw [mw, if_pos rfl]
        exact World.cell?_setCell_same' _ _ _ (by rw [hv4]; rfl)
      · rw [mw, if_neg e]
        exact (World.cell?_setCell_other wr ⟨w.heap.size + 1 + 1, k / 4, none⟩ ⟨w.heap.size + 1 + 1, j, none⟩ _ (fun h => e (congrArg Addr.off h))).trans hv
    · show (wr.setCell _ _).frozen? _ = false
      rw [World.frozen?_setCell]; exact hf
theorem belowN {B : Nat} {a w : World} (h : Below B a w) (n : Nat) : Below B a (w.drewN n) := h.trans ⟨rfl, rfl, rfl, Nat.le_refl _, fun _ _ => rfl⟩
theorem rot_eq (b a f k m : BitVec 32) (t : Nat) : (U b + bits .or .u32 (U (a <<< t + f <<< t + k <<< t + m <<< t)) (U (a + f + k + m) / 2 ^ (32 - t))) % 4294967296 = U (b + rot (a + f + k + m) t) := by
  have h : (0 : Int) ≤ 2 ^ (32 - t) := Int.le_of_lt (Int.pow_pos (by decide))
  have e : U (a + f + k + m) / 2 ^ (32 - t) = U ((a + f + k + m) >>> (32 - t)) := by
    rw [← U_shr, Int.fdiv_eq_ediv_of_nonneg _ h]
  rw [e, ← BitVec.shiftLeft_add_distrib, ← BitVec.shiftLeft_add_distrib, ← BitVec.shiftLeft_add_distrib, U_or, ← IntKind.wrap_u32, U_add]
  rfl
theorem int_u32 {a b : Int} (h : a = b) : Value.int .u32 a = .int .u32 b := by rw [h]
theorem mix_to (i : Nat) (hi : i < 64) (b c d f : BitVec 32) (g : Nat) (hf : f = mixw i b c d) (hg : g = mixg i) (w : World) :
    Calls Tryd.prog 44 #[.int .i64 i, .int .u32 (U b), .int .u32 (U c), .int .u32 (U d)] w fun e w' => e = .returned (.tuple #[.int .u32 (U f), .int .i64 g]) ∧ w = w' := by
  rw [hf, hg]; exact mix_any i hi b c d w
set_option maxRecDepth 100000 in
set_option maxHeartbeats 1000000 in
theorem step_any (a b c d : BitVec 32) (l : List UInt8) (_hl : l.length = 64) (bb off cap : Nat) (w : World) (hb : bb < w.heap.size) (hT : Tabs w) (hc : ∀ i, i < 64 → w.cell? ⟨bb, off + i, none⟩ = some (.int .u8 ((l.getD i 0).toNat : Int))) :
    Calls Tryd.prog 32 #[.agg #[.int .u32 (U a), .int .u32 (U b), .int .u32 (U c), .int .u32 (U d)], .slice (some ⟨bb, off, none⟩) 64 cap] w fun e w' => e = .returned (sv (stepF ⟨a, b, c, d⟩ l)) ∧ Below w.heap.size w w' := by
  have HC := Lib.hid hc
  have HT := Lib.hid hT
  clear hc hT
  go_enter Tryd.func32, Tryd.ntmps32
  go_wp2_with fail
  have hS0 : Hid (StI w a b c d l 0 (((w.alloc (.cells #[.int .u32 (U a), .int .u32 (U b), .int .u32 (U c), .int .u32 (U d)] 30)).alloc (.cells #[.int .u32 0, .int .u32 0, .int .u32 0, .int .u32 0] 30)).alloc (.cells #[.int .u32 0, .int .u32 0, .int .u32 0, .int .u32 0, .int .u32 0, .int .u32 0, .int .u32 0, .int .u32 0, .int .u32 0, .int .u32 0, .int .u32 0, .int .u32 0, .int .u32 0, .int .u32 0, .int .u32 0, .int .u32 0] 87))) := stI_mk w a b c d l
  go_loopg [20] 64 (fun g s20 wr => ∃ k : Nat, k + g = 64 ∧ s20 = .int .i64 k ∧ Hid (StI w a b c d l k wr))
  case atStart => exact ⟨0, by omega, rfl, hS0⟩
  case round =>
    clear hS0
    obtain ⟨k, hk, rfl, hI⟩ := hrel
    by_cases hlt : k < 64
    · have t1 : decide ((k : Int) < 64) = true := decide_eq_true (by omega)
      obtain ⟨x, hx⟩ : ∃ x : UInt8, Hid (x = l.getD k 0) := ⟨_, rfl⟩
      have hcell : wr.cell? ⟨bb, off + k, none⟩ = some (.int .u8 (x.toNat : Int)) := by
        rw [hx.out]; exact (hI.out.1.cell (p := ⟨bb, off + k, none⟩) hb).trans (HC.out k hlt)
      obtain ⟨m0, hm0⟩ : ∃ m, Hid (m = mw l k (k / 4)) := ⟨_, rfl⟩
      have hm : wr.cell? ⟨w.heap.size + 1 + 1, k / 4, none⟩ = some (.int .u32 (U m0)) := by rw [hm0.out]; exact (hI.out.2.2.2 (k / 4) (by omega)).1
      have hf : wr.frozen? ⟨w.heap.size + 1 + 1, k / 4, none⟩ = false := (hI.out.2.2.2 (k / 4) (by omega)).2
      have hu : IntKind.u32.wrap (x.toNat : Int) = U (zx x) := U_of_byte x
      go_wp2_with fail
      go_region
      go_wp2_with fail
      go_roundg (gk - 1)
      case measure => omega
      case rel =>
        refine ⟨k + 1, by omega, by go_num, ?_⟩
        have := stI_step w a b c d l k wr hI.out hlt
        rw [← hm0.out, ← hx.out] at this
        exact this
    · obtain rfl : k = 64 := by omega
      clear hk
      have hI0 := hI.out
      have hTw := HT.out.on hI0.1
      obtain ⟨s, hs⟩ : ∃ s : S4, Hid (s = ⟨a, b, c, d⟩) := ⟨_, rfl⟩
      have ea : a = s.a := by rw [hs.out]
      have eb : b = s.b := by rw [hs.out]
      have ec : c = s.c := by rw [hs.out]
      have ed : d = s.d := by rw [hs.out]
      obtain ⟨mm, hmm⟩ : ∃ m : Nat → BitVec 32, Hid (m = mw l 64) := ⟨_, rfl⟩
      obtain ⟨c0, c1, c2, c3⟩ := hI0.2.1
      have hr4 := hI0.2.2.1
      have hm16 : Hid (∀ j, j < 16 → wr.cell? ⟨w.heap.size + 1 + 1, j, none⟩ = some (.int .u32 (U (mm j)))) := fun j hj => by rw [hmm.out]; exact (hI0.2.2.2 j hj).1
      obtain ⟨⟨t0, fr0, hK⟩, _, hT16⟩ := hTw
      replace hT16 := Lib.hid hT16
      have hB := hI0.1
      clear hI hI0 HC
      go_wp2_with fail
      go_quiet (fail)
      go_wp2_with (refine wpList_load_row rfl 88 _ rfl 0 rfl t0 KsV fr0 _ hK Tryd.underlying88 rfl (by kernel_rfl) ?_)
      go_loopg [8, 9, 10, 11, 47] 64 (fun g s8 s9 s10 s11 s47 wx => ∃ (k : Nat) (r : S4) (n : Nat), k + g = 64 ∧ s47 = .int .i64 k ∧ Hid (r = rnds mm k s) ∧ s8 = .int .u32 (U r.a) ∧ s9 = .int .u32 (U r.b) ∧ s10 = .int .u32 (U r.c) ∧ s11 = .int .u32 (U r.d) ∧ wx = wr.drewN n)
      case atStart => exact ⟨0, s, nq, by omega, rfl, rfl, rfl, rfl, rfl, rfl, rfl⟩
      case round =>
        obtain ⟨k, r, n, hk, rfl, hr, rfl, rfl, rfl, rfl, rfl⟩ := hrel
        by_cases hlt : k < 64
        · have t1 : decide ((k : Int) < 64) = true := decide_eq_true (by omega)
          have hix := fun W => idx_K k hlt W
          obtain ⟨g, hg⟩ : ∃ g, Hid (g = mixg k) := ⟨_, rfl⟩
          obtain ⟨f, hf⟩ : ∃ f, Hid (f = mixw k r.b r.c r.d) := ⟨_, rfl⟩
          have hcall := Lib.hid (fun W => mix_to k hlt r.b r.c r.d f g hf.out hg.out W)
          have hg16 : g < 16 := by rw [hg.out]; exact mixg_lt k
          have hm := hm16.out g hg16
          obtain ⟨t, ht⟩ : ∃ t, Hid (t = Tn k) := ⟨_, rfl⟩
          obtain ⟨e1, e2, e3⟩ := Tn_T k hlt
          have htc := hT16.out (k / 16 * 4 + k % 4) (by omega)
          rw [← e1, ← ht.out] at htc
          rw [← ht.out] at e2 e3
          clear e1
          obtain ⟨kw, hkw⟩ : ∃ x, Hid (x = Kw k) := ⟨_, rfl⟩
          rw [← hkw.out] at hix
          obtain ⟨mg, hmg⟩ : ∃ x, Hid (x = mm g) := ⟨_, rfl⟩
          rw [← hmg.out] at hm
          go_wp2_with fail
          refine (hcall.out _).mono ?_; rintro e w2 ⟨rfl, rfl⟩
          go_wp2_with fail
          go_quiet (fail)
          go_wp2_with fail
          go_roundg (gk - 1)
          case measure => omega
          case rel =>
            refine ⟨k + 1, rnd mm k r, _, by omega, by go_num, by show _ = rnds mm (k + 1) s; rw [rnds, hr.out], rfl, ?_, rfl, rfl, rfl⟩
            rw [rot_eq]
            show _ = Value.int .u32 (U (r.b + rot (r.a + mixw k r.b r.c r.d + Kw k + mm (mixg k)) (Tn k)))
            rw [← hf.out, ← hkw.out, ← hg.out, ← hmg.out, ← ht.out]
        · obtain rfl : k = 64 := by omega
          clear hm16 hT16
          obtain ⟨⟨v0, hv0⟩, f0⟩ := hr4 0 (by omega)
          obtain ⟨⟨v1, hv1⟩, f1⟩ := hr4 1 (by omega)
          obtain ⟨⟨v2, hv2⟩, f2⟩ := hr4 2 (by omega)
          obtain ⟨⟨v3, hv3⟩, f3⟩ := hr4 3 (by omega)
          clear hr4
          go_wp2_with fail
          have hw0 : (wr.drewN n).cell? ⟨w.heap.size + 1, 0, none⟩ = some v0 := hv0
          have hw1 : (wr.drewN n).cell? ⟨w.heap.size + 1, 1, none⟩ = some v1 := hv1
          have hw2 : (wr.drewN n).cell? ⟨w.heap.size + 1, 2, none⟩ = some v2 := hv2
          have hw3 : (wr.drewN n).cell? ⟨w.heap.size + 1, 3, none⟩ = some v3 := hv3
          refine bodyPost_ret (v := .agg #[.int .u32 (U (s.a + r.a)), .int .u32 (U (s.b + r.b)), .int .u32 (U (s.c + r.c)), .int .u32 (U (s.d + r.d))]) (by simp [results, Tryd.results32, go_sem, hw0, hw1, hw2, hw3]) rfl ⟨?_, ?_⟩
          · rw [← hs.out]
            show _ = Ending.returned (Value.agg #[.int .u32 (U (s.a + (rnds (mw l 64) 64 s).a)), .int .u32 (U (s.b + (rnds (mw l 64) 64 s).b)), .int .u32 (U (s.c + (rnds (mw l 64) 64 s).c)), .int .u32 (U (s.d + (rnds (mw l 64) 64 s).d))])
            rw [← hmm.out, ← hr.out]
          · have hb0 := belowN hB n
            exact (((hb0.setCell (p := ⟨w.heap.size + 1, 0, none⟩) (by show w.heap.size ≤ w.heap.size + 1; omega) _).setCell (p := ⟨w.heap.size + 1, 1, none⟩) (by show w.heap.size ≤ w.heap.size + 1; omega) _).setCell (p := ⟨w.heap.size + 1, 2, none⟩) (by show w.heap.size ≤ w.heap.size + 1; omega) _).setCell (p := ⟨w.heap.size + 1, 3, none⟩) (by show w.heap.size ≤ w.heap.size + 1; omega) _
end Go.Proofs.YtimiejahkcjcdaaDoor
