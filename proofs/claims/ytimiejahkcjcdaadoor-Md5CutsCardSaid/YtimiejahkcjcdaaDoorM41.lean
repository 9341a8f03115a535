/- The law Md5Cuts. -/
import Derived.Test.YtimiejahkcjcdaaDoorM40
import Derived.Test.YtimiejahkcjcdaaDoorM32
import Derived.Test.YtimiejahkcjcdaaDoorM30
namespace Go.Proofs.YtimiejahkcjcdaaDoor
open Go.RowKit

theorem slice_row {w : World} {b off A B n cap : Nat} {sp : Option Nat} {l : List UInt8} (h : RowB w (.slice (some ⟨b, off, sp⟩) n cap) l) (hn : l.length = n) (hB : B ≤ n) :
    RowB w (.slice (if cap = A then some ⟨b, off, sp⟩ else some ((⟨b, off, sp⟩ : Addr).add A)) (B - A) (cap - A)) ((l.drop A).take (B - A)) := by
  by_cases h0 : B - A = 0
  · rw [h0]
    refine .inl ⟨_, _, fun e => ?_, rfl, by simp⟩
    split at e <;> cases e
  · rcases h with ⟨_, _, _, hv, hl⟩ | ⟨b', o', cp, hv, hlt, h1, h2, hc⟩
    · have : l = [] := by simpa using hl
      rw [this] at hn
      simp at hn
      omega
    · simp only [Value.slice.injEq, Option.some.injEq, Addr.mk.injEq] at hv
      obtain ⟨⟨rfl, rfl, rfl⟩, h3, rfl⟩ := hv
      have h4 : (l.map enc8).length = n := by simpa using hn
      rw [if_neg (by omega), show (⟨b, off, none⟩ : Addr).add A = ⟨b, off + A, none⟩ by cases A <;> rfl]
      have hll : (((l.drop A).take (B - A)).map enc8).length = B - A := by simp; omega
      refine .inr ⟨b, off + A, cap - A, by rw [hll], hlt, by omega, by omega, fun i hi => ?_⟩
      rw [hll] at hi
      have := hc (A + i) (by omega)
      rw [show off + A + i = off + (A + i) by omega, this]
      simp
theorem cut_next (l : List UInt8) (A B : Nat) (h : A ≤ B) : l.take A ++ (l.drop A).take (B - A) = l.take B := by
  have := List.take_add (l := l) (i := A) (j := B - A)
  rw [show A + (B - A) = B by omega] at this
  exact this.symm
/-- A row of u16. -/
def Row16 (w : World) (a : Option Addr) (m : Nat) : Prop := m = 0 ∨ ∃ b o, a = some ⟨b, o, none⟩ ∧ ∀ i, i < m → ∃ z : Nat, z < 65536 ∧ b < w.heap.size ∧ w.cell? ⟨b, o + i, none⟩ = some (.int .u16 z)
theorem row16_of {w : World} {a : Option Addr} {len cap : Nat} {zs : List Int} (h : IsRow .u16 w a len cap zs) (m : Nat) (hm : m ≤ len) : Row16 w a m := by
  by_cases h0 : m = 0
  · exact .inl h0
  obtain ⟨h1, h2, h3, h4⟩ := h.row
  rcases h1 with ⟨_, _, _, hv, hl⟩ | ⟨b, o, cp, hv, hlt, h5, h6, hc⟩
  · have h9 := congrArg List.length hl
    rw [List.length_map, h2, List.length_nil] at h9
    omega
  · simp only [Value.slice.injEq] at hv
    obtain ⟨rfl, _, rfl⟩ := hv
    refine .inr ⟨b, o, rfl, fun i hi => ?_⟩
    have hi2 : i < (zs.take len).length := by omega
    have hw := h4 _ (List.getElem_mem hi2)
    have hw' : 0 ≤ (zs.take len)[i] ∧ (zs.take len)[i] ≤ 65535 := by simpa [Lit.wf, IntKind.min, IntKind.max, IntKind.signed, IntKind.bits] using hw
    refine ⟨(zs.take len)[i].toNat, by omega, hlt, ?_⟩
    have := hc i (by simpa using hi2)
    rw [this]
    rw [List.getElem_map, show (((zs.take len)[i].toNat : Nat) : Int) = (zs.take len)[i] by omega]
set_option maxRecDepth 100000 in
set_option maxHeartbeats 2000000 in
theorem cuts_any (ad : Option Addr) (len cap : Nat) (l0 : List UInt8) (hl0 : l0.length = len) (a1 : Option Addr) (len1 cap1 m : Nat) (hm : m = min len1 40) (hm1 : len1 ≤ cap1) (a2 : Option Addr) (len2 cap2 : Nat) (o0 : List UInt8) (ho0 : o0.length = len2) (w : World) (hr : RowB w (.slice ad len cap) l0) (h16 : Row16 w a1 m) (hro : RowB w (.slice a2 len2 cap2) o0) (hT : Tabs w) :
    Calls Tryd.prog 11 #[.slice ad len cap, .slice a1 len1 cap1, .slice a2 len2 cap2] w fun e w' => e = .returned (.bool true) ∧ Below w.heap.size w w' := by
  have hcap := rowB_cap hr
  have hcap2 := rowB_cap hro
  obtain ⟨n, hn⟩ : ∃ n : Nat, min (len : Int) 1500 = n := ⟨min len 1500, by omega⟩
  obtain ⟨k2, hk2⟩ : ∃ n : Nat, min (len2 : Int) 200 = n := ⟨min len2 200, by omega⟩
  have hmi : min (len1 : Int) 40 = m := by omega
  have hnl : n ≤ len := by omega
  have hnc : n ≤ cap := by omega
  have hn5 : n ≤ 1500 := by omega
  have hk2l : k2 ≤ len2 := by omega
  have hk2c : k2 ≤ cap2 := by omega
  have hk2b : k2 ≤ 200 := by omega
  have hml : m ≤ cap1 := by omega
  obtain ⟨l, hl⟩ : ∃ l, l = l0.take n := ⟨_, rfl⟩
  have HR : Hid (RowB w (.slice ad n cap) l) := by
    have := row_take (hl0 ▸ hr) n (by omega)
    show RowB _ _ _
    rw [hl]; exact this
  have hll : Hid (l.length = n) := by show _ = _; rw [hl]; simp; omega
  obtain ⟨o, ho⟩ : ∃ o, o = o0.take k2 := ⟨_, rfl⟩
  have HO : Hid (RowB w (.slice a2 k2 cap2) o) := by
    have := row_take (ho0 ▸ hro) k2 (by omega)
    show RowB _ _ _
    rw [ho]; exact this
  have hol : Hid (o.length = k2) := by show _ = _; rw [ho]; simp; omega
  have hlk : l.length ≤ 1099511627776 := by rw [hll.out]; omega
  have hT1 := hT.lt
  replace hT := Lib.hid hT
  replace h16 := Lib.hid h16
  clear hl ho hr hro hl0 ho0 hm
  go_enter Tryd.func11, Tryd.ntmps11
  go_wp2_with fail
  refine (newL w).mono ?_; rintro e w1 ⟨D, rfl, hD, hD1, hDL, hb⟩
  have I : Hid (CutI w D [] w1) := ⟨hDL, hb, hD1⟩
  have hD2 : 1 < D := by omega
  have hAp := Lib.hid (fun (v : Value) (x : List UInt8) (h : RowB w v x) => row_apart h hD)
  clear hDL hb hD1
  go_wp2_with fail
  refine (writeL D [] o (.slice a2 k2 cap2) (by rw [hol.out]; simp; omega) _ I.out.2.2 I.out.1 (HO.out.on I.out.2.1) (hAp.out _ _ HO.out) (hT.out.on I.out.2.1) hD2).mono ?_; rintro e w2 ⟨rfl, h1, h2⟩
  replace I := Lib.hid (I.out.only hD h2 h1); clear h1 h2
  go_wp2_with fail
  refine (resetL D _ _ I.out.2.2 I.out.1).mono ?_; rintro e w3 ⟨rfl, h1, h2⟩
  replace I := Lib.hid (I.out.only hD h2 h1); clear h1 h2
  go_wp2_with fail
  refine (lenL D [] _ I.out.1).mono ?_; rintro e w4 ⟨rfl, rfl⟩
  clear HO hol hk2 hk2l hk2c hk2b hcap2
  go_upto_block 0 with (fail)
  go_cut [10] (fun s10 wx => ∃ A : Nat, s10 = .int .i64 A ∧ A ≤ n ∧ Hid (CutI w D (l.take A) wx))
  case first =>
    as_aux_lemma =>
      go_wp2_with fail
      go_loopg [10, 50] m (fun g s10 s50 wx => ∃ i A : Nat, i + g = m ∧ s50 = .int .i64 i ∧ s10 = .int .i64 A ∧ A ≤ n ∧ Hid (CutI w D (l.take A) wx))
      case atStart => exact ⟨0, 0, by omega, rfl, rfl, by omega, I⟩
      case round =>
        clear I
        obtain ⟨i, A, hi, rfl, rfl, hA, I⟩ := hrel
        by_cases hlt : i < m
        · have t1 : decide (i < m) = true := decide_eq_true hlt
          rcases h16.out with h0 | ⟨b1, o1, rfl, hc⟩
          · omega
          · obtain ⟨z, hz, hb1, hzc⟩ := hc i hlt
            have hc0 : wr.cell? ⟨b1, o1 + i, none⟩ = some (.int .u16 z) := (World.cell?_of_block (w := w) (I.out.2.1.block b1 hb1)).trans hzc
            clear hc hzc
            obtain ⟨q, hq⟩ : ∃ q : Nat, (n : Int) - (A : Int) = q := ⟨n - A, by omega⟩
            obtain ⟨r, hr⟩ : ∃ r : Nat, (z : Int) % ((q : Int) + 1) = r := ⟨z % (q + 1), by rw [Int.natCast_emod, Int.natCast_add]; rfl⟩
            have hrq : r ≤ q := by have h9 := Int.emod_lt_of_pos (z : Int) (show (0 : Int) < (q : Int) + 1 by omega); rw [hr] at h9; omega
            obtain ⟨B, hB⟩ : ∃ B : Nat, (A : Int) + (r : Int) = B := ⟨A + r, by omega⟩
            have hAB : A ≤ B := by omega
            have hBn : B ≤ n := by omega
            have hBc : B ≤ cap := by omega
            have hq1 : (q : Int) + 1 ≠ 0 := by omega
            clear hrq
            go_upto_region 14 with (fail)
            go_cut [76] (fun s76 wx => s76 = .bool false ∧ Hid (CutI w D (l.take B) wx))
            case first =>
              replace hB := Lib.hid hB
              replace hr := Lib.hid hr
              replace hq := Lib.hid hq
              have hTB : Hid ((l.take B).length = B) := by show _ = _; rw [List.length_take, hll.out]; omega
              have hnx := Lib.hid (cut_next l A B hAB)
              have hbs : (l.take A).length + ((l.drop A).take (B - A)).length ≤ 1099511627776 := by simp; omega
              replace hbs := Lib.hid hbs
              cases ad with
              | none =>
                have h0 : cap = 0 := by
                  rcases HR.out with ⟨_, _, hac, hv, _⟩ | ⟨_, _, _, hv, _⟩
                  · cases hv; exact hac rfl
                  · cases hv
                obtain rfl : n = 0 := by omega
                obtain rfl : A = 0 := by omega
                obtain rfl : B = 0 := by omega
                subst h0
                have hsr : Hid (RowB w (.slice none 0 0) ((l.drop 0).take (0 - 0))) := .inl ⟨none, 0, (fun _ => rfl), rfl, by simp⟩
                go_wp2_with fail
                refine (writeL D _ _ _ hbs.out _ I.out.2.2 I.out.1 (hsr.out.on I.out.2.1) (hAp.out _ _ hsr.out) (hT.out.on I.out.2.1) hD2).mono ?_; rintro e w5 ⟨rfl, h1, h2⟩
                rw [hnx.out] at h1
                replace I := Lib.hid (I.out.only hD h2 h1); clear h1 h2
                go_wp2_with fail
                refine (lenL D _ _ I.out.1).mono ?_; rintro e w6 ⟨rfl, rfl⟩
                rw [hTB.out]
                go_wp2_with fail
                go_meet
                exact ⟨rfl, I⟩
              | some x =>
                obtain ⟨bb, off, sp⟩ := x
                have hsr := Lib.hid (slice_row (A := A) (B := B) HR.out hll.out hBn)
                by_cases hcA : cap = A
                · rw [if_pos hcA] at hsr
                  have hcT : (cap = A) = True := eq_true hcA
                  replace hcA := Lib.hid hcA
                  go_wp2_with fail
                  refine (writeL D _ _ _ hbs.out _ I.out.2.2 I.out.1 (hsr.out.on I.out.2.1) (hAp.out _ _ hsr.out) (hT.out.on I.out.2.1) hD2).mono ?_; rintro e w5 ⟨rfl, h1, h2⟩
                  rw [hnx.out] at h1
                  replace I := Lib.hid (I.out.only hD h2 h1); clear h1 h2
                  go_wp2_with fail
                  refine (lenL D _ _ I.out.1).mono ?_; rintro e w6 ⟨rfl, rfl⟩
                  rw [hTB.out]
                  go_wp2_with fail
                  go_meet
                  exact ⟨rfl, I⟩
                · rw [if_neg hcA] at hsr
                  go_wp2_with fail
                  refine (writeL D _ _ _ hbs.out _ I.out.2.2 I.out.1 (hsr.out.on I.out.2.1) (hAp.out _ _ hsr.out) (hT.out.on I.out.2.1) hD2).mono ?_; rintro e w5 ⟨rfl, h1, h2⟩
                  rw [hnx.out] at h1
                  replace I := Lib.hid (I.out.only hD h2 h1); clear h1 h2
                  go_wp2_with fail
                  refine (lenL D _ _ I.out.1).mono ?_; rintro e w6 ⟨rfl, rfl⟩
                  rw [hTB.out]
                  go_wp2_with fail
                  go_meet
                  exact ⟨rfl, I⟩
            case rest =>
              clear I
              obtain ⟨rfl, I⟩ := hcut
              clear hq hr hq1 hc0
              by_cases h3 : z % 3 = 0
              · have t3 : (((z : Int) % 3) == 0) = true := by rw [beq_iff_eq]; omega
                have hsl := Lib.hid (sumL D (l.take B) (by simp; omega) (sumF (l.take B)) rfl wc I.out.2.2 I.out.1 (hT.out.on I.out.2.1))
                go_wp2_with fail
                refine hsl.out.mono ?_; rintro e w7 ⟨rfl, hb⟩
                clear hsl
                replace I := Lib.hid (I.out.on hb); clear hb
                go_wp2_with fail
                go_roundg (gk - 1)
                case measure => omega
                case rel => exact ⟨i + 1, B, by omega, rfl, rfl, hBn, I⟩
              · have t3 : (((z : Int) % 3) == 0) = false := beq_eq_false_iff_ne.2 (by omega)
                go_wp2_with fail
                go_roundg (gk - 1)
                case measure => omega
                case rel => exact ⟨i + 1, B, by omega, rfl, rfl, hBn, I⟩
        · obtain rfl : i = m := by omega
          have t1 : decide (i < i) = false := decide_eq_false (by omega)
          go_wp2_with fail
          go_meet
          exact ⟨A, rfl, hA, I⟩
  case rest =>
    clear I h16
    obtain ⟨A, rfl, hA, I⟩ := hcut
    as_aux_lemma =>
      go_upto_region 20 with (fail)
      go_cut [89] (fun s89 wx => s89 = .bool false ∧ Hid (CutI w D l wx))
      case first =>
        have hTB : Hid (l.take n = l) := by show _ = _; rw [List.take_of_length_le (by rw [hll.out]; omega)]
        have hnx := Lib.hid (cut_next l A n hA)
        rw [hTB.out] at hnx
        have hbs : (l.take A).length + ((l.drop A).take (n - A)).length ≤ 1099511627776 := by simp; omega
        replace hbs := Lib.hid hbs
        cases ad with
        | none =>
          have h0 : cap = 0 := by
            rcases HR.out with ⟨_, _, hac, hv, _⟩ | ⟨_, _, _, hv, _⟩
            · cases hv; exact hac rfl
            · cases hv
          obtain rfl : n = 0 := by omega
          obtain rfl : A = 0 := by omega
          subst h0
          have hsr : Hid (RowB w (.slice none 0 0) ((l.drop 0).take (0 - 0))) := .inl ⟨none, 0, (fun _ => rfl), rfl, by simp⟩
          go_wp2_with fail
          refine (writeL D _ _ _ hbs.out _ I.out.2.2 I.out.1 (hsr.out.on I.out.2.1) (hAp.out _ _ hsr.out) (hT.out.on I.out.2.1) hD2).mono ?_; rintro e w5 ⟨rfl, h1, h2⟩
          rw [hnx.out] at h1
          replace I := Lib.hid (I.out.only hD h2 h1); clear h1 h2
          go_wp2_with fail
          go_meet
          exact ⟨rfl, I⟩
        | some x =>
          obtain ⟨bb, off, sp⟩ := x
          have hsr := Lib.hid (slice_row (A := A) (B := n) HR.out hll.out (Nat.le_refl n))
          by_cases hcA : cap = A
          · rw [if_pos hcA] at hsr
            have hcT : (cap = A) = True := eq_true hcA
            replace hcA := Lib.hid hcA
            go_wp2_with fail
            refine (writeL D _ _ _ hbs.out _ I.out.2.2 I.out.1 (hsr.out.on I.out.2.1) (hAp.out _ _ hsr.out) (hT.out.on I.out.2.1) hD2).mono ?_; rintro e w5 ⟨rfl, h1, h2⟩
            rw [hnx.out] at h1
            replace I := Lib.hid (I.out.only hD h2 h1); clear h1 h2
            go_wp2_with fail
            go_meet
            exact ⟨rfl, I⟩
          · rw [if_neg hcA] at hsr
            go_wp2_with fail
            refine (writeL D _ _ _ hbs.out _ I.out.2.2 I.out.1 (hsr.out.on I.out.2.1) (hAp.out _ _ hsr.out) (hT.out.on I.out.2.1) hD2).mono ?_; rintro e w5 ⟨rfl, h1, h2⟩
            rw [hnx.out] at h1
            replace I := Lib.hid (I.out.only hD h2 h1); clear h1 h2
            go_wp2_with fail
            go_meet
            exact ⟨rfl, I⟩
      case rest =>
        clear I
        obtain ⟨rfl, I⟩ := hcut
        obtain ⟨d, hd⟩ : ∃ d, Hid (d = sumF l) := ⟨_, rfl⟩
        clear hn hnc hcap hmi hml hm1
        go_wp2_with fail
        refine (sumL D l hlk d hd.out _ I.out.2.2 I.out.1 (hT.out.on I.out.2.1)).mono ?_; rintro e w6 ⟨rfl, hb⟩
        replace I := Lib.hid (I.out.on hb); clear hb
        have z14 := Lib.hid (B16.mk w6 d 34)
        have g14 : w6.heap.size < (w6.alloc (e16 d 34)).heap.size := by simp
        replace I := Lib.hid (I.out.on ((Below.refl _ _).alloc (Nat.le_refl _) (e16 d 34)))
        go_wp2_with fail
        show Calls _ _ _ (w6.alloc (e16 d 34)) _
        generalize w6.alloc (e16 d 34) = w7 at z14 g14 I ⊢
        generalize w6.heap.size = N14 at z14 g14 ⊢
        refine (sumL D l hlk d hd.out _ I.out.2.2 I.out.1 (hT.out.on I.out.2.1)).mono ?_; rintro e w8 ⟨rfl, hb⟩
        replace I := Lib.hid (I.out.on hb)
        replace z14 := Lib.hid (z14.out.block (hb.block N14 g14))
        replace g14 : N14 < w8.heap.size := Nat.lt_of_lt_of_le g14 hb.size
        clear hb
        have hb2 : Below w8.heap.size w8 (w8.alloc (e16 d 34)) := (Below.refl _ _).alloc (Nat.le_refl _) (e16 d 34)
        have z16 := Lib.hid (B16.mk w8 d 34)
        have g16 : w8.heap.size < (w8.alloc (e16 d 34)).heap.size := by simp
        replace I := Lib.hid (I.out.on hb2)
        replace z14 := Lib.hid (z14.out.block (hb2.block N14 g14))
        replace g14 : N14 < (w8.alloc (e16 d 34)).heap.size := Nat.lt_of_lt_of_le g14 hb2.size
        clear hb2
        go_upto_region 24 with (fail)
        show Code.wp _ _ _ _ (w8.alloc (e16 d 34))
        generalize w8.alloc (e16 d 34) = w9 at z14 g14 z16 g16 I ⊢
        generalize w8.heap.size = N16 at z16 g16 ⊢
        have HT4 := Lib.hid (hT.out.on I.out.2.1)
        have HR4 := Lib.hid (HR.out.on I.out.2.1)
        have h18 := Tryd.call18
        have h30 := Tryd.call30
        have h14 := Tryd.call14
        refine wp_region_facts (fun i v W => match i with | 0 => v = .int .i64 0 | 1 => v = .int .i64 0 | 2 => v = .int .i64 0 | 3 => v = .bool true | 4 => v = .bool true | 5 => v = .agg #[e8 d 0, e8 d 1, e8 d 2, e8 d 3, e8 d 4, e8 d 5, e8 d 6, e8 d 7, e8 d 8, e8 d 9, e8 d 10, e8 d 11, e8 d 12, e8 d 13, e8 d 14, e8 d 15] | 6 => v = .agg #[e8 d 0, e8 d 1, e8 d 2, e8 d 3, e8 d 4, e8 d 5, e8 d 6, e8 d 7, e8 d 8, e8 d 9, e8 d 10, e8 d 11, e8 d 12, e8 d 13, e8 d 14, e8 d 15] | 7 => v = .bool true | 8 => v = .bool true | 9 => v = .bool true | 10 => v = .agg #[e8 d 0, e8 d 1, e8 d 2, e8 d 3, e8 d 4, e8 d 5, e8 d 6, e8 d 7, e8 d 8, e8 d 9, e8 d 10, e8 d 11, e8 d 12, e8 d 13, e8 d 14, e8 d 15] | 11 => v = .slice ad n cap | 12 => v = .agg #[e8 d 0, e8 d 1, e8 d 2, e8 d 3, e8 d 4, e8 d 5, e8 d 6, e8 d 7, e8 d 8, e8 d 9, e8 d 10, e8 d 11, e8 d 12, e8 d 13, e8 d 14, e8 d 15] | 13 => v = .bool true | 14 => v = .bool true | 15 => v = .bool true | 16 => v = .pointer (some ⟨D, 0, none⟩) | 17 => v = .int .i64 (n : Nat) | 18 => v = .slice ad n cap | 19 => v = .int .i64 (n : Nat) | 20 => v = .bool true | 21 => v = .bool true | 22 => v = .bool true | 23 => v = .bool true | 24 => v = .bool true | _ => v = .bool true)
          (by kernel_rfl) (by kernel_rfl) (by decide +kernel) (by kernel_rfl) (fun i v w w' h _ => h) ?_ ?_
        · intro i
          rcases i with _ | _ | _ | _ | _ | _ | _ | _ | _ | _ | _ | _ | _ | _ | _ | _ | _ | _ | _ | _ | _ | _ | _ | _ | _ | _ | i
          all_goals intro o ho a wa hba hout hsz hpre
          all_goals cases ho
          all_goals have q15 : a.tmps.getD 15 undef = .int .i64 0 := (hout 15 (by decide +kernel)).trans rfl
          all_goals have q17 : a.tmps.getD 17 undef = .int .i64 0 := (hout 17 (by decide +kernel)).trans rfl
          all_goals have q14 : a.tmps.getD 14 undef = .pointer (some ⟨N14, 0, none⟩) := (hout 14 (by decide +kernel)).trans rfl
          all_goals have q16 : a.tmps.getD 16 undef = .pointer (some ⟨N16, 0, none⟩) := (hout 16 (by decide +kernel)).trans rfl
          all_goals have q0 : a.tmps.getD 0 undef = .slice ad n cap := (hout 0 (by decide +kernel)).trans rfl
          all_goals have q7 : a.tmps.getD 7 undef = .pointer (some ⟨D, 0, none⟩) := (hout 7 (by decide +kernel)).trans rfl
          all_goals clear hout hsz
          · exact step_move rfl (met_none rfl) (.inl rfl) ⟨_, rfl, Below.refl _ _, q15⟩
          · exact step_move rfl (met_none rfl) (.inl rfl) ⟨_, rfl, Below.refl _ _, q17⟩
          · have p100 : a.tmps.getD 100 undef = .int .i64 0 := hpre ⟨0, .data⟩ (by simp) rfl _ rfl
            have p101 : a.tmps.getD 101 undef = .int .i64 0 := hpre ⟨1, .data⟩ (by simp) rfl _ rfl
            exact step_bin rfl (met_none rfl) rfl p100 p101 (r := .int .i64 0) (w' := wa) (by simp [go_sem]; decide) ⟨_, rfl, Below.refl _ _, rfl⟩
          · have p102 : a.tmps.getD 102 undef = .int .i64 0 := hpre ⟨2, .data⟩ (by simp) rfl _ rfl
            exact step_bin rfl (met_none rfl) rfl p102 rfl (r := .bool true) (w' := wa) (by simp [go_sem]) ⟨_, rfl, Below.refl _ _, rfl⟩
          · have p103 : a.tmps.getD 103 undef = .bool true := hpre ⟨3, .data⟩ (by simp) rfl _ rfl
            exact step_move rfl (met_none rfl) (.inl rfl) ⟨_, rfl, Below.refl _ _, p103⟩
          · have p104 : a.tmps.getD 104 undef = .bool true := hpre ⟨4, .guard⟩ (by simp) rfl _ rfl
            exact step_load rfl (met_some rfl rfl rfl p104) rfl q14 (load16 _ _ _ _ _ (z14.out.block (hba.block N14 g14))) ⟨_, rfl, Below.refl _ _, rfl⟩
          · have p104 : a.tmps.getD 104 undef = .bool true := hpre ⟨4, .guard⟩ (by simp) rfl _ rfl
            exact step_load rfl (met_some rfl rfl rfl p104) rfl q16 (load16 _ _ _ _ _ (z16.out.block (hba.block N16 g16))) ⟨_, rfl, Below.refl _ _, rfl⟩
          · have p104 : a.tmps.getD 104 undef = .bool true := hpre ⟨4, .guard⟩ (by simp) rfl _ rfl
            have p105 : a.tmps.getD 105 undef = .agg #[e8 d 0, e8 d 1, e8 d 2, e8 d 3, e8 d 4, e8 d 5, e8 d 6, e8 d 7, e8 d 8, e8 d 9, e8 d 10, e8 d 11, e8 d 12, e8 d 13, e8 d 14, e8 d 15] := hpre ⟨5, .data⟩ (by simp) rfl _ rfl
            have p106 : a.tmps.getD 106 undef = .agg #[e8 d 0, e8 d 1, e8 d 2, e8 d 3, e8 d 4, e8 d 5, e8 d 6, e8 d 7, e8 d 8, e8 d 9, e8 d 10, e8 d 11, e8 d 12, e8 d 13, e8 d 14, e8 d 15] := hpre ⟨6, .data⟩ (by simp) rfl _ rfl
            exact step_bin rfl (met_some rfl rfl rfl p104) rfl p105 p106 (r := .bool true) (w' := wa) (eql34 d d true (eqD_same d) wa) ⟨_, rfl, Below.refl _ _, rfl⟩
          · have p104 : a.tmps.getD 104 undef = .bool true := hpre ⟨4, .data⟩ (by simp) rfl _ rfl
            have p107 : a.tmps.getD 107 undef = .bool true := hpre ⟨7, .data⟩ (by simp) rfl _ rfl
            exact step_pick rfl (met_none rfl) rfl p104 ⟨_, rfl, Below.refl _ _, p107⟩
          · have p108 : a.tmps.getD 108 undef = .bool true := hpre ⟨8, .data⟩ (by simp) rfl _ rfl
            exact step_move rfl (met_none rfl) (.inl rfl) ⟨_, rfl, Below.refl _ _, p108⟩
          · have p109 : a.tmps.getD 109 undef = .bool true := hpre ⟨9, .guard⟩ (by simp) rfl _ rfl
            exact step_load rfl (met_some rfl rfl rfl p109) rfl q14 (load16 _ _ _ _ _ (z14.out.block (hba.block N14 g14))) ⟨_, rfl, Below.refl _ _, rfl⟩
          · have p109 : a.tmps.getD 109 undef = .bool true := hpre ⟨9, .guard⟩ (by simp) rfl _ rfl
            exact step_move rfl (met_some rfl rfl rfl p109) (.inl rfl) ⟨_, rfl, Below.refl _ _, q0⟩
          · have p109 : a.tmps.getD 109 undef = .bool true := hpre ⟨9, .chain⟩ (by simp) rfl _ rfl
            have p111 : a.tmps.getD 111 undef = .slice ad n cap := hpre ⟨11, .data⟩ (by simp) rfl _ rfl
            refine step_call rfl (met_some rfl rfl rfl p109) _ (args1 p111) (h18 _ _) ((sum_to _ _ _ l hlk d hd.out _ (HT4.out.on hba) (HR4.out.on hba)).mono ?_)
            rintro e w' ⟨rfl, hb⟩
            exact ⟨_, rfl, _, rfl, hb, rfl⟩
          · have p109 : a.tmps.getD 109 undef = .bool true := hpre ⟨9, .guard⟩ (by simp) rfl _ rfl
            have p110 : a.tmps.getD 110 undef = .agg #[e8 d 0, e8 d 1, e8 d 2, e8 d 3, e8 d 4, e8 d 5, e8 d 6, e8 d 7, e8 d 8, e8 d 9, e8 d 10, e8 d 11, e8 d 12, e8 d 13, e8 d 14, e8 d 15] := hpre ⟨10, .data⟩ (by simp) rfl _ rfl
            have p112 : a.tmps.getD 112 undef = .agg #[e8 d 0, e8 d 1, e8 d 2, e8 d 3, e8 d 4, e8 d 5, e8 d 6, e8 d 7, e8 d 8, e8 d 9, e8 d 10, e8 d 11, e8 d 12, e8 d 13, e8 d 14, e8 d 15] := hpre ⟨12, .data⟩ (by simp) rfl _ rfl
            exact step_bin rfl (met_some rfl rfl rfl p109) rfl p110 p112 (r := .bool true) (w' := wa) (eql34 d d true (eqD_same d) wa) ⟨_, rfl, Below.refl _ _, rfl⟩
          · have p109 : a.tmps.getD 109 undef = .bool true := hpre ⟨9, .data⟩ (by simp) rfl _ rfl
            have p113 : a.tmps.getD 113 undef = .bool true := hpre ⟨13, .data⟩ (by simp) rfl _ rfl
            exact step_pick rfl (met_none rfl) rfl p109 ⟨_, rfl, Below.refl _ _, p113⟩
          · have p114 : a.tmps.getD 114 undef = .bool true := hpre ⟨14, .data⟩ (by simp) rfl _ rfl
            exact step_move rfl (met_none rfl) (.inl rfl) ⟨_, rfl, Below.refl _ _, p114⟩
          · have p115 : a.tmps.getD 115 undef = .bool true := hpre ⟨15, .guard⟩ (by simp) rfl _ rfl
            exact step_move rfl (met_some rfl rfl rfl p115) (.inl rfl) ⟨_, rfl, Below.refl _ _, q7⟩
          · have p115 : a.tmps.getD 115 undef = .bool true := hpre ⟨15, .chain⟩ (by simp) rfl _ rfl
            have p116 : a.tmps.getD 116 undef = .pointer (some ⟨D, 0, none⟩) := hpre ⟨16, .data⟩ (by simp) rfl _ rfl
            refine step_call rfl (met_some rfl rfl rfl p115) _ (args1 p116) (h30 _ _) ((lenL D l wa (I.out.on hba).1).mono ?_)
            rintro e w' ⟨rfl, rfl⟩
            exact ⟨_, rfl, _, rfl, Below.refl _ _, by rw [← hll.out]; rfl⟩
          · have p115 : a.tmps.getD 115 undef = .bool true := hpre ⟨15, .guard⟩ (by simp) rfl _ rfl
            exact step_move rfl (met_some rfl rfl rfl p115) (.inl rfl) ⟨_, rfl, Below.refl _ _, q0⟩
          · have p115 : a.tmps.getD 115 undef = .bool true := hpre ⟨15, .guard⟩ (by simp) rfl _ rfl
            have p118 : a.tmps.getD 118 undef = .slice ad n cap := hpre ⟨18, .data⟩ (by simp) rfl _ rfl
            exact step_len_slice Tryd.underlying24 rfl (met_some rfl rfl rfl p115) rfl p118 ⟨_, rfl, Below.refl _ _, rfl⟩
          · have p115 : a.tmps.getD 115 undef = .bool true := hpre ⟨15, .guard⟩ (by simp) rfl _ rfl
            have p117 : a.tmps.getD 117 undef = .int .i64 (n : Nat) := hpre ⟨17, .data⟩ (by simp) rfl _ rfl
            have p119 : a.tmps.getD 119 undef = .int .i64 (n : Nat) := hpre ⟨19, .data⟩ (by simp) rfl _ rfl
            exact step_bin rfl (met_some rfl rfl rfl p115) rfl p117 p119 (r := .bool true) (w' := wa) (by simp [go_sem]) ⟨_, rfl, Below.refl _ _, rfl⟩
          · have p115 : a.tmps.getD 115 undef = .bool true := hpre ⟨15, .data⟩ (by simp) rfl _ rfl
            have p120 : a.tmps.getD 120 undef = .bool true := hpre ⟨20, .data⟩ (by simp) rfl _ rfl
            exact step_pick rfl (met_none rfl) rfl p115 ⟨_, rfl, Below.refl _ _, p120⟩
          · have p121 : a.tmps.getD 121 undef = .bool true := hpre ⟨21, .data⟩ (by simp) rfl _ rfl
            exact step_move rfl (met_none rfl) (.inl rfl) ⟨_, rfl, Below.refl _ _, p121⟩
          · have p122 : a.tmps.getD 122 undef = .bool true := hpre ⟨22, .chain⟩ (by simp) rfl _ rfl
            refine step_call rfl (met_some rfl rfl rfl p122) #[] (by simp) (h14 _ _) ((awake_any wa (HT4.out.on hba)).mono ?_)
            rintro e w' ⟨rfl, hb⟩
            exact ⟨_, rfl, _, rfl, hb, rfl⟩
          · have p122 : a.tmps.getD 122 undef = .bool true := hpre ⟨22, .data⟩ (by simp) rfl _ rfl
            have p123 : a.tmps.getD 123 undef = .bool true := hpre ⟨23, .data⟩ (by simp) rfl _ rfl
            exact step_pick rfl (met_none rfl) rfl p122 ⟨_, rfl, Below.refl _ _, p123⟩
          · have p124 : a.tmps.getD 124 undef = .bool true := hpre ⟨24, .data⟩ (by simp) rfl _ rfl
            exact step_move rfl (met_none rfl) (.inr rfl) ⟨_, rfl, Below.refl _ _, p124⟩
        · intro a wa hba hF ha
          have f0 : a.tmps.getD 100 undef = .int .i64 0 := hF 0 _ rfl
          have f1 : a.tmps.getD 101 undef = .int .i64 0 := hF 1 _ rfl
          have f2 : a.tmps.getD 102 undef = .int .i64 0 := hF 2 _ rfl
          have f3 : a.tmps.getD 103 undef = .bool true := hF 3 _ rfl
          have f4 : a.tmps.getD 104 undef = .bool true := hF 4 _ rfl
          have f5 : a.tmps.getD 105 undef = .agg #[e8 d 0, e8 d 1, e8 d 2, e8 d 3, e8 d 4, e8 d 5, e8 d 6, e8 d 7, e8 d 8, e8 d 9, e8 d 10, e8 d 11, e8 d 12, e8 d 13, e8 d 14, e8 d 15] := hF 5 _ rfl
          have f6 : a.tmps.getD 106 undef = .agg #[e8 d 0, e8 d 1, e8 d 2, e8 d 3, e8 d 4, e8 d 5, e8 d 6, e8 d 7, e8 d 8, e8 d 9, e8 d 10, e8 d 11, e8 d 12, e8 d 13, e8 d 14, e8 d 15] := hF 6 _ rfl
          have f7 : a.tmps.getD 107 undef = .bool true := hF 7 _ rfl
          have f8 : a.tmps.getD 108 undef = .bool true := hF 8 _ rfl
          have f9 : a.tmps.getD 109 undef = .bool true := hF 9 _ rfl
          have f10 : a.tmps.getD 110 undef = .agg #[e8 d 0, e8 d 1, e8 d 2, e8 d 3, e8 d 4, e8 d 5, e8 d 6, e8 d 7, e8 d 8, e8 d 9, e8 d 10, e8 d 11, e8 d 12, e8 d 13, e8 d 14, e8 d 15] := hF 10 _ rfl
          have f11 : a.tmps.getD 111 undef = .slice ad n cap := hF 11 _ rfl
          have f12 : a.tmps.getD 112 undef = .agg #[e8 d 0, e8 d 1, e8 d 2, e8 d 3, e8 d 4, e8 d 5, e8 d 6, e8 d 7, e8 d 8, e8 d 9, e8 d 10, e8 d 11, e8 d 12, e8 d 13, e8 d 14, e8 d 15] := hF 12 _ rfl
          have f13 : a.tmps.getD 113 undef = .bool true := hF 13 _ rfl
          have f14 : a.tmps.getD 114 undef = .bool true := hF 14 _ rfl
          have f15 : a.tmps.getD 115 undef = .bool true := hF 15 _ rfl
          have f16 : a.tmps.getD 116 undef = .pointer (some ⟨D, 0, none⟩) := hF 16 _ rfl
          have f17 : a.tmps.getD 117 undef = .int .i64 (n : Nat) := hF 17 _ rfl
          have f18 : a.tmps.getD 118 undef = .slice ad n cap := hF 18 _ rfl
          have f19 : a.tmps.getD 119 undef = .int .i64 (n : Nat) := hF 19 _ rfl
          have f20 : a.tmps.getD 120 undef = .bool true := hF 20 _ rfl
          have f21 : a.tmps.getD 121 undef = .bool true := hF 21 _ rfl
          have f22 : a.tmps.getD 122 undef = .bool true := hF 22 _ rfl
          have f23 : a.tmps.getD 123 undef = .bool true := hF 23 _ rfl
          have f24 : a.tmps.getD 124 undef = .bool true := hF 24 _ rfl
          have f25 : a.tmps.getD 6 undef = .bool true := hF 25 _ rfl
          clear hF
          simp only [List.foldl, fillFrom, f0, f1, f2, f3, f4, f5, f6, f7, f8, f9, f10, f11, f12, f13, f14, f15, f16, f17, f18, f19, f20, f21, f22, f23, f24, f25] at ha
          clear f0 f1 f2 f3 f4 f5 f6 f7 f8 f9 f10 f11 f12 f13 f14 f15 f16 f17 f18 f19 f20 f21 f22 f23 f24 f25
          subst ha
          simp only [Act.put, List.setIfInBounds_toArray, List.set_cons_succ, List.set_cons_zero]
          have B9 := Lib.hid (I.out.on hba).2.1
          clear hba
          go_wp2_with fail
          go_ret
          exact ⟨rfl, B9.out⟩
/-- The law Md5Cuts. -/
theorem md5Cuts_walk (a0 : Option Addr) (len0 cap0 : Nat) (z0 : List Int) (a1 : Option Addr) (len1 cap1 : Nat) (z1 : List Int) (a2 : Option Addr) (len2 cap2 : Nat) (z2 : List Int) (w : World) (w0 : IsRow .u8 w a0 len0 cap0 z0) (w1 : IsRow .u16 w a1 len1 cap1 z1) (w2 : IsRow .u8 w a2 len2 cap2 z2) (hT : Tabs w) :
    Calls Tryd.prog 11 #[.slice a0 len0 cap0, .slice a1 len1 cap1, .slice a2 len2 cap2] w fun e w' => e = .returned (.bool true) ∧ Below w.heap.size w w' := by
  obtain ⟨l, hl, _, hr⟩ := w0.bytes
  obtain ⟨o, ho, _, hro⟩ := w2.bytes
  have h16 := row16_of w1 (min len1 40) (by omega)
  have hc : len1 ≤ cap1 := by
    rcases w1 with ⟨_, rfl, _, _⟩ | ⟨_, _, h, _⟩
    · omega
    · exact h
  exact cuts_any a0 len0 cap0 l hl a1 len1 cap1 (min len1 40) rfl hc a2 len2 cap2 o ho w hr h16 hro hT
end Go.Proofs.YtimiejahkcjcdaaDoor
