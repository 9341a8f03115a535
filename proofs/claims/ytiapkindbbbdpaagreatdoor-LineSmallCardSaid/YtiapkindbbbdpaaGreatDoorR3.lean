/- The contracts of gaugerref22.ReadQuote and of gaugerref25 blank, valid and Bare over the translation. -/
import Derived.Test.YtiapkindbbbdpaaGreatDoorR2
import Derived.Test.YtiapkindbbbdpaaGreatDoorR1
namespace Go.Proofs.YtiapkindbbbdpaaGreatDoor
open Go.RowKit

theorem scq_34 (l : List UInt8) (i : Nat) (h : i < l.length) (hc : l.getD i 0 = 34) : scq (l.drop i) = (0, 0) := by
  rw [drop_cons l i h, hc]; cases l.drop (i + 1) <;> rfl
theorem scq_10 (l : List UInt8) (i : Nat) (h : i < l.length) (hc : l.getD i 0 = 10) : (scq (l.drop i)).1 = 223 := by
  rw [drop_cons l i h, hc]; cases l.drop (i + 1) <;> rfl
theorem scq_end (l : List UInt8) (i : Nat) (h : l.length ≤ i) : scq (l.drop i) = (222, 0) := by
  rw [List.drop_of_length_le h]; rfl
theorem scq_92_end (l : List UInt8) (i : Nat) (h : i + 1 = l.length) (hc : l.getD i 0 = 92) : scq (l.drop i) = (222, 0) := by
  rw [drop_cons l i (by omega), hc, List.drop_of_length_le (by omega)]; rfl
theorem scq_92_no (l : List UInt8) (i : Nat) (h : i + 1 < l.length) (hc : l.getD i 0 = 92) (he : esc (l.getD (i + 1) 0) = []) : (scq (l.drop i)).1 = 220 := by
  rw [drop_cons l i (by omega), hc, drop_cons l (i + 1) h, scq, if_neg (by decide), if_neg (by decide), if_pos rfl, if_pos he]
theorem scq_92 (l : List UInt8) (i : Nat) (h : i + 1 < l.length) (hc : l.getD i 0 = 92) (he : esc (l.getD (i + 1) 0) ≠ []) : scq (l.drop i) = ((scq (l.drop (i + 2))).1, (scq (l.drop (i + 2))).2 + 2) := by
  rw [drop_cons l i (by omega), hc, drop_cons l (i + 1) h, scq, if_neg (by decide), if_neg (by decide), if_pos rfl, if_neg he]
theorem scq_next (l : List UInt8) (i : Nat) (h : i < l.length) (h1 : l.getD i 0 ≠ 10) (h2 : l.getD i 0 ≠ 34) (h3 : l.getD i 0 ≠ 92) : (scq (l.drop i)).1 = (scq (l.drop (i + 1))).1 ∧ ((scq (l.drop i)).1 = 0 → (scq (l.drop i)).2 = (scq (l.drop (i + 1))).2 + 1) := by
  rw [drop_cons l i h]
  generalize l.getD i 0 = c at h1 h2 h3 ⊢
  cases l.drop (i + 1) with
  | nil => simp [scq, h1, h2]
  | cons x t => rw [scq, if_neg h2, if_neg h1, if_neg h3]; exact ⟨rfl, fun _ => rfl⟩
/-- What the scan for the quote keeps. -/
def ScI (l : List UInt8) (e : Int) (K i : Nat) : Prop := (scq (l.drop i)).1 = e ∧ (e = 0 → i + (scq (l.drop i)).2 = K)
theorem ScI.next {l : List UInt8} {e : Int} {K i : Nat} (H : ScI l e K i) (h : i < l.length) (h1 : l.getD i 0 ≠ 10) (h2 : l.getD i 0 ≠ 34) (h3 : l.getD i 0 ≠ 92) : ScI l e K (i + 1) := by
  obtain ⟨a, b⟩ := scq_next l i h h1 h2 h3
  refine ⟨a ▸ H.1, fun e0 => ?_⟩
  have := H.2 e0
  rw [b (H.1.trans e0)] at this
  omega
theorem ScI.slash {l : List UInt8} {e : Int} {K i : Nat} (H : ScI l e K i) (h : i + 1 < l.length) (hc : l.getD i 0 = 92) (he : esc (l.getD (i + 1) 0) ≠ []) : ScI l e K (i + 2) := by
  have a := scq_92 l i h hc he
  unfold ScI at H
  rw [a] at H
  refine ⟨H.1, fun e0 => ?_⟩
  have := H.2 e0
  simp only at this
  omega
theorem ba_drop_take (s : ByteArray) (i j : Nat) : (s.extract i j).data.toList = (s.data.toList.drop i).take (j - i) := by
  rw [ByteArray.data_extract, Array.toList_extract, List.extract_eq_take_drop]
/-- What ReadQuote of the reference returns. -/
def QRet (t : List UInt8) (e : Int) (p n : Nat) (w : World) (x : Ending) (w' : World) : Prop := (∃ k : Nat, x = .returned (.tuple #[.string ⟨t.toArray⟩, .int .i64 k, .int .i64 e]) ∧ (e = 0 → k = p + n)) ∧ Below w.heap.size w w'
set_option maxRecDepth 100000 in
set_option maxHeartbeats 2000000 in
theorem rquote_any (s : ByteArray) (hs : s.size ≤ 65536) (p : Nat) (hp : p < s.size) (hq : s.data.toList.getD p 0 = 34) (e : Int) (t : List UInt8) (n : Nat) (h : quF (s.data.toList.drop p) = (e, t, n)) (w : World) :
    Calls Tryz.prog 49 #[.string s, .int .i64 p] w (QRet t e p n w) := by
  have hz : Hid (s.data.toList.length = s.size) := by show _ = _; simp
  obtain ⟨K, hK⟩ : ∃ K, Hid (p + 1 + (scq (s.data.toList.drop (p + 1))).2 = K) := ⟨_, Lib.hid rfl⟩
  have hsc := scq_rdq (s.data.toList.drop (p + 1))
  have hsc1 : Hid (ScI s.data.toList e K (p + 1) ∧ (e = 0 → K < s.size ∧ p + n = K + 1 ∧ rdR ((s.data.toList.drop (p + 1)).take (K - (p + 1))) = (0, t)) ∧ (e ≠ 0 → t = [])) := by
    show _ ∧ _
    unfold quF comb at h
    rw [List.drop_drop] at h
    by_cases g : (rdq (s.data.toList.drop (p + 1))).1 = 0
    · obtain ⟨a, b, c⟩ := hsc.2 g
      rw [if_pos g] at h
      simp only [List.nil_append, if_true, Prod.mk.injEq, Nat.zero_add] at h
      obtain ⟨rfl, rfl, rfl⟩ := h
      refine ⟨⟨hsc.1.trans g, fun _ => hK.out⟩, fun _ => ⟨?_, ?_, ?_⟩, fun h => absurd rfl h⟩
      · have := hK.out; rw [List.length_drop, hz.out] at b; omega
      · have := hK.out; omega
      · rw [← c, ← hK.out, Nat.add_sub_cancel_left]
    · rw [if_neg g] at h
      simp only [if_neg g, Prod.mk.injEq] at h
      obtain ⟨rfl, rfl, rfl⟩ := h
      exact ⟨⟨hsc.1, fun h => absurd h g⟩, fun h => absurd h g, fun _ => rfl⟩
  obtain ⟨hS, hOk, hNo⟩ := hsc1.out
  replace hS := Lib.hid hS
  replace hOk := Lib.hid hOk
  replace hNo := Lib.hid hNo
  have t0 : decide (65536 < (s.size : Int)) = false := decide_eq_false (by omega)
  have t1 : decide ((p : Int) < 0) = false := decide_eq_false (by omega)
  have t2 : decide ((s.size : Int) < (p : Int)) = false := decide_eq_false (by omega)
  have t2' : decide (s.size < p) = false := decide_eq_false (by omega)
  have t3 : ((p : Int) == (s.size : Int)) = false := by simp; omega
  have hB := byt_eq s p hp
  rw [show byt s p = 34 by unfold byt; rw [hq]; rfl] at hB
  clear h hsc hsc1 hK hq
  go_enter Tryz.func49, Tryz.ntmps49
  go_wp2_with fail
  clear hB t0 t1 t2 t2' t3
  go_loopg [7] (s.size + 2) (fun g s7 wx => ∃ i : Nat, s.size + 1 - i < g ∧ p + 1 ≤ i ∧ i ≤ s.size + 1 ∧ s7 = .int .i64 i ∧ Hid (ScI s.data.toList e K i) ∧ w = wx)
  case atStart => exact ⟨p + 1, by omega, by omega, by omega, by go_num, hS, rfl⟩
  case round =>
    clear hS
    obtain ⟨i, hg, hpi, hi, rfl, hS, rfl⟩ := hrel
    by_cases hlt : i < s.size
    · have t1 : decide (i < s.size) = true := decide_eq_true hlt
      have hli : i < s.data.toList.length := by rw [hz.out]; exact hlt
      obtain ⟨c, hc, hB⟩ := byt_u s i hlt
      by_cases g2 : c = 34
      · subst g2
        have hS' := hS.out
        unfold ScI at hS'
        rw [scq_34 _ i hli hc.out] at hS'
        obtain ⟨rfl, hk⟩ := hS'
        obtain rfl : i = K := hk rfl
        obtain ⟨_, hn, hrd⟩ := hOk.out rfl
        have hcall := Lib.hid (fun W => rrd_ok (s.extract (p + 1) i) (by rw [ByteArray.size_extract]; omega) t (by rw [ba_drop_take]; exact hrd) W)
        rw [show (((34 : UInt8).toNat : Int)) = 34 from rfl] at hB
        have t4 : decide ((p : Int) + 1 ≤ (i : Int)) = true := decide_eq_true (by omega)
        have t5 : decide (p + 1 ≤ i) = true := decide_eq_true (by omega)
        have t6 : decide ((s.size : Int) ≤ (i : Int)) = false := decide_eq_false (by omega)
        have t7 : decide (i ≤ s.size) = true := decide_eq_true (by omega)
        have t8 : decide (s.size ≤ i) = false := decide_eq_false (by omega)
        clear hS hOk hNo hc hk hrd
        go_wp2_with fail
        refine (hcall.out _).mono ?_; rintro r w2 ⟨rfl, hb⟩
        clear hcall
        go_wp2_with fail
        go_ret3
        exact ⟨⟨i + 1, by first | rfl | go_num, fun _ => by omega⟩, hb⟩
      · have s2' : ((c.toNat : Int) == 34) = false := ne_byt c 34 _ rfl g2
        have s2 : ((c.toNat : Int) != 34) = true := by rw [bne, s2']; rfl
        clear s2'
        by_cases g1 : c = 10
        · subst g1
          have hS' := hS.out.1
          rw [scq_10 _ i hli hc.out] at hS'
          subst hS'
          obtain rfl := hNo.out (by decide)
          rw [show (((10 : UInt8).toNat : Int)) = 10 from rfl] at hB s2
          clear hS hOk hNo hc
          go_wp2_with fail
          go_ret3
          exact ⟨⟨0, rfl, fun h => by cases h⟩, Below.refl _ _⟩
        · have s1 : ((c.toNat : Int) == 10) = false := ne_byt c 10 _ rfl g1
          by_cases g3 : c = 92
          · subst g3
            rw [show (((92 : UInt8).toNat : Int)) = 92 from rfl] at hB s1 s2
            by_cases hend : i + 1 = s.size
            · have hS' := hS.out.1
              rw [scq_92_end _ i (by rw [hz.out]; exact hend) hc.out] at hS'
              simp only at hS'
              subst hS'
              have t4 : decide ((i : Int) + 1 < (s.size : Int)) = false := decide_eq_false (by omega)
              have t5 : decide (i + 1 < s.size) = false := decide_eq_false (by omega)
              clear hS hc
              go_wp2_with fail
              go_roundg (gk - 1)
              case measure => omega
              case rel => exact ⟨i + 2, by omega, by omega, by omega, by go_num, Lib.hid ⟨by rw [scq_end _ _ (by rw [hz.out]; omega)], fun h => by cases h⟩, rfl⟩
            · have hlt2 : i + 1 < s.size := by omega
              have t4 : decide ((i : Int) + 1 < (s.size : Int)) = true := decide_eq_true (by omega)
              have t5 : decide (i + 1 < s.size) = true := decide_eq_true (by omega)
              have t6 : decide (0 ≤ (i : Int) + 1) = true := decide_eq_true (by omega)
              obtain ⟨x, hx, hB2⟩ := byt_u s (i + 1) hlt2
              by_cases hne : esc x = []
              · have hS' := hS.out.1
                rw [scq_92_no _ i (by rw [hz.out]; exact hlt2) hc.out (by rw [hx.out]; exact hne)] at hS'
                subst hS'
                obtain rfl := hNo.out (by decide)
                have hst := Lib.hid (stands_no x hne)
                clear hS hOk hNo hc hx hne
                go_wp2_with fail
                refine (hst.out _).mono ?_; rintro r w2 ⟨rfl, rfl⟩
                clear hst
                go_wp2_with fail
                go_ret3
                exact ⟨⟨0, rfl, fun h => by cases h⟩, Below.refl _ _⟩
              · have hS2 := Lib.hid (hS.out.slash (by rw [hz.out]; exact hlt2) hc.out (by rw [hx.out]; exact hne))
                obtain ⟨y, hy⟩ := esc_one x hne
                have hst := Lib.hid (stands_yes x y hy)
                clear hS hc hx hne hy
                go_wp2_with fail
                refine (hst.out _).mono ?_; rintro r w2 ⟨rfl, rfl⟩
                clear hst
                go_wp2_with fail
                go_roundg (gk - 1)
                case measure => omega
                case rel => exact ⟨i + 2, by omega, by omega, by omega, by go_num, hS2, rfl⟩
          · have s3 : ((c.toNat : Int) == 92) = false := ne_byt c 92 _ rfl g3
            have hS2 := Lib.hid (hS.out.next hli (by rw [hc.out]; exact g1) (by rw [hc.out]; exact g2) (by rw [hc.out]; exact g3))
            clear hS hc g1 g2 g3
            go_wp2_with fail
            go_roundg (gk - 1)
            case measure => omega
            case rel => exact ⟨i + 1, by omega, by omega, by omega, by go_num, hS2, rfl⟩
    · have t1 : decide (i < s.size) = false := decide_eq_false hlt
      have hS' := hS.out.1
      rw [scq_end _ i (by rw [hz.out]; omega)] at hS'
      simp only at hS'
      subst hS'
      obtain rfl := hNo.out (by decide)
      have t6 : decide ((s.size : Int) ≤ (i : Int)) = true := decide_eq_true (by omega)
      have t8 : decide (s.size ≤ i) = true := decide_eq_true (by omega)
      clear hS hOk hNo
      go_wp2_with fail
      go_ret3
      exact ⟨⟨0, rfl, fun h => by cases h⟩, Below.refl _ _⟩
/-- A blank at an offset. -/
def blF (l : List UInt8) (i : Nat) : Bool := decide (i < l.length) && (l.getD i 0 == 32 || l.getD i 0 == 9)
theorem blank_to (s : ByteArray) (_hs : s.size ≤ 4611686018427387904) (i : Nat) (b : Bool) (h : blF s.data.toList i = b) (w : World) : Calls Tryz.prog 48 #[.string s, .int .i64 i] w fun e w' => e = .returned (.bool b) ∧ w = w' := by
  have hz : s.data.toList.length = s.size := by simp
  unfold blF at h
  rw [hz] at h
  clear hz
  by_cases hlt : i < s.size
  · have t1 : decide (i < s.size) = true := decide_eq_true hlt
    obtain ⟨c, hc, hB⟩ := byt_u s i hlt
    rw [t1, Bool.true_and, hc.out] at h
    clear hc
    by_cases g1 : c = 32
    · subst g1
      subst h
      rw [show (((32 : UInt8).toNat : Int)) = 32 from rfl] at hB
      go_enter Tryz.func48, Tryz.ntmps48
      go_wp2_with fail
      go_ret
      exact ⟨rfl, rfl⟩
    · have s1 : ((c.toNat : Int) == 32) = false := ne_byt c 32 _ rfl g1
      by_cases g2 : c = 9
      · subst g2
        subst h
        rw [show (((9 : UInt8).toNat : Int)) = 9 from rfl] at hB s1
        go_enter Tryz.func48, Tryz.ntmps48
        go_wp2_with fail
        go_ret
        exact ⟨rfl, rfl⟩
      · have s2 : ((c.toNat : Int) == 9) = false := ne_byt c 9 _ rfl g2
        rw [beq_eq_false_iff_ne.2 g1, beq_eq_false_iff_ne.2 g2] at h
        subst h
        go_enter Tryz.func48, Tryz.ntmps48
        go_wp2_with fail
        go_ret
        exact ⟨rfl, rfl⟩
  · have t1 : decide (i < s.size) = false := decide_eq_false hlt
    rw [t1] at h
    subst h
    go_enter Tryz.func48, Tryz.ntmps48
    go_wp2_with fail
    go_ret
    exact ⟨rfl, rfl⟩
theorem rvalid_to (s : ByteArray) (hs : s.size ≤ 4611686018427387904) (b : Bool) (h : rightF s true = b) (w : World) : Calls Tryz.prog 45 #[.string s] w fun e w' => e = .returned (.bool b) ∧ Below w.heap.size w w' := by
  unfold rightF at h
  rw [if_pos rfl] at h
  by_cases h2 : 16384 < s.size
  · have t2 : decide (16384 < (s.size : Int)) = true := decide_eq_true (by omega)
    rw [decide_eq_false (by omega)] at h
    subst h
    go_enter Tryz.func45, Tryz.ntmps45
    go_wp2_with fail
    go_ret
    exact ⟨rfl, Below.refl _ _⟩
  · have t2 : decide (16384 < (s.size : Int)) = false := decide_eq_false (by omega)
    rw [decide_eq_true (by omega), Bool.true_and] at h
    unfold vld at h
    obtain ⟨k, e, hck⟩ := ex2 (ck s)
    rw [hck.out] at h
    simp only at h
    replace h := Lib.hid h
    go_enter Tryz.func45, Tryz.ntmps45
    go_wp2_with fail
    refine (rcheck_any s hs _).mono ?_; rintro r w2 hr
    rw [hck.out] at hr
    obtain ⟨rfl, hb⟩ := hr
    go_wp2_with fail
    go_ret
    exact ⟨by rw [← h.out]; rfl, hb⟩
set_option maxRecDepth 100000 in
set_option maxHeartbeats 1000000 in
theorem rbare_to (s : ByteArray) (hs : s.size ≤ 4611686018427387904) (b : Bool) (h : bareF s = b) (w : World) : Calls Tryz.prog 26 #[.string s] w fun e w' => e = .returned (.bool b) ∧ Below w.heap.size w w' := by
  have hz : Hid (s.data.toList.length = s.size) := by show _ = _; simp
  obtain ⟨R, hR⟩ : ∃ R, Hid (s.data.toList.all okc = R) := ⟨_, Lib.hid rfl⟩
  obtain ⟨V, hV⟩ : ∃ V, Hid (rightF s true = V) := ⟨_, Lib.hid rfl⟩
  have hb : Hid (b = (decide (1 ≤ s.size) && V && R)) := by
    show _ = _
    rw [← h, ← hV.out, ← hR.out]
    unfold bareF rightF
    rw [if_pos rfl]
    simp only [Bool.and_assoc]
  clear h
  go_enter Tryz.func26, Tryz.ntmps26
  go_wp2_with fail
  go_loop [3] (fun s3 => ∃ i : Nat, i ≤ s.size ∧ s3 = .int .i64 i ∧ Hid ((s.data.toList.take i).all okc = true)) (fun v => s.size - (intOf v).toNat)
  case atStart => exact ⟨0, by omega, rfl, by show _ = _; simp⟩
  case round =>
    obtain ⟨i, hi, rfl, hA⟩ := hrel
    by_cases hlt : i < s.size
    · have t3 : decide ((i : Int) < s.size) = true := decide_eq_true (by omega)
      have hB := byt_eq s i hlt
      have hO := okc_byt s i
      have hT := Lib.hid (all_take s.data.toList okc i (by rw [hz.out]; exact hlt))
      have hF := Lib.hid (all_bad s.data.toList okc i (by rw [hz.out]; exact hlt))
      rw [hA.out, hO, Bool.true_and] at hT
      rw [hO] at hF
      clear hO
      obtain ⟨c, hc⟩ : ∃ c, c = byt s i := ⟨_, rfl⟩
      rw [← hc] at hB hT hF
      clear hc
      by_cases g1 : c < 33
      · have s1 : decide (c ≤ 32) = true := decide_eq_true (by omega)
        have e0 := hF.out (by rw [decide_eq_true g1]; rfl)
        rw [hR.out] at e0
        have hb' := hb.out
        rw [e0, Bool.and_false] at hb'
        clear hT hF hb
        subst hb'
        go_wp2_with fail
        go_ret
        exact ⟨rfl, Below.refl _ _⟩
      · have s1 : decide (c ≤ 32) = false := decide_eq_false (by omega)
        by_cases g2 : c = 127 ∨ c = 34 ∨ c = 35
        · have e0 := hF.out (by rcases g2 with rfl | rfl | rfl <;> rfl)
          rw [hR.out] at e0
          have hb' := hb.out
          rw [e0, Bool.and_false] at hb'
          clear hT hF hb
          subst hb'
          rcases g2 with rfl | rfl | rfl
          · go_wp2_with fail
            go_ret
            exact ⟨rfl, Below.refl _ _⟩
          · go_wp2_with fail
            go_ret
            exact ⟨rfl, Below.refl _ _⟩
          · go_wp2_with fail
            go_ret
            exact ⟨rfl, Below.refl _ _⟩
        · have s2 : (c == 127) = false := by simp; omega
          have s3 : (c == 34) = false := by simp; omega
          have s4 : (c == 35) = false := by simp; omega
          rw [decide_eq_false (p := c < 33) (by omega), decide_eq_false (p := c = 127) (by omega), decide_eq_false (p := c = 34) (by omega), decide_eq_false (p := c = 35) (by omega)] at hT
          clear hF
          go_wp2_with fail
          go_round
          case measure => simp [intOf]; omega
          case rel => exact ⟨i + 1, by omega, by go_num, hT⟩
    · obtain rfl : i = s.size := by omega
      have t3 : decide ((s.size : Int) < s.size) = false := decide_eq_false (by omega)
      have hA' := hA.out
      rw [List.take_of_length_le (by rw [hz.out]; omega)] at hA'
      rw [hR.out] at hA'
      clear hA
      subst hA'
      by_cases h0 : 0 < s.size
      · have t4 : decide (0 < (s.size : Int)) = true := decide_eq_true (by omega)
        have hb' := hb.out
        rw [decide_eq_true (by omega), Bool.true_and, Bool.and_true] at hb'
        subst hb'
        go_wp2_with fail
        refine (rvalid_to s hs b hV.out _).mono ?_; rintro r w2 ⟨rfl, hb2⟩
        go_wp2_with fail
        go_ret
        exact ⟨rfl, hb2⟩
      · have t4 : decide (0 < (s.size : Int)) = false := decide_eq_false (by omega)
        have hb' := hb.out
        rw [decide_eq_false (by omega), Bool.false_and, Bool.false_and] at hb'
        subst hb'
        go_wp2_with fail
        go_ret
        exact ⟨rfl, Below.refl _ _⟩
end Go.Proofs.YtiapkindbbbdpaaGreatDoor
