/- The contract of tells. -/
import Derived.Test.YtkabkkgaalimmaaV14
import Derived.Test.YtkabkkgaalimmaaUL1
import Derived.Test.YtkabkkgaalimmaaV16
namespace Go.Proofs.Ytkabkkgaalimmaa
open Go.RowKit Go.Shelf

theorem frm_len (x : Int) : (frm x).length ≤ 4 := by unfold frm; (repeat' split) <;> simp
theorem szI_frm (x : Int) : szI x = ((frm x).length : Int) := by unfold szI frm; (repeat' split) <;> simp

def pairR (x y : Int) : Int × Int := if 55296 ≤ x ∧ x < 56320 ∧ 56320 ≤ y ∧ y ≤ 57343 then (65536 + (x - 55296) * 1024 + (y - 56320), 0) else (0, 2)
def splitR (x : Int) : Int × Int × Int := if 65536 ≤ x ∧ x ≤ 1114111 then (55296 + (x - 65536) / 1024, 56320 + (x - 65536) % 1024, 0) else (0, 0, 2)
theorem pair_nm (x y p g : Int) (h : pairR x y = (p, g)) (w : World) : Calls Try.prog 15 #[.int .i64 x, .int .i64 y] w fun e w' => e = .returned (.tuple #[.int .i64 p, .int .i64 g]) ∧ w = w' := by
  unfold pairR at h
  split at h
  · rename_i c; obtain ⟨rfl, rfl⟩ := Prod.mk.inj h; exact pair_yes x y c.1 c.2.1 c.2.2.1 c.2.2.2 w
  · rename_i c; obtain ⟨rfl, rfl⟩ := Prod.mk.inj h; exact pair_no x y c w
theorem rpair_nm (x y p g : Int) (h : pairR x y = (p, g)) (w : World) : Calls Try.prog 34 #[.int .i64 x, .int .i64 y] w fun e w' => e = .returned (.tuple #[.int .i64 p, .int .i64 g]) ∧ w = w' := by
  unfold pairR at h
  split at h
  · rename_i c; obtain ⟨rfl, rfl⟩ := Prod.mk.inj h; exact rpair_yes x y c.1 c.2.1 c.2.2.1 c.2.2.2 w
  · rename_i c; obtain ⟨rfl, rfl⟩ := Prod.mk.inj h; exact rpair_no x y c w
theorem split_nm (x p q g : Int) (h : splitR x = (p, q, g)) (w : World) : Calls Try.prog 16 #[.int .i64 x] w fun e w' => e = .returned (.tuple #[.int .i64 p, .int .i64 q, .int .i64 g]) ∧ w = w' := by
  unfold splitR at h
  split at h
  · rename_i c; obtain ⟨rfl, h2⟩ := Prod.mk.inj h; obtain ⟨rfl, rfl⟩ := Prod.mk.inj h2; exact split_yes x c.1 c.2 w
  · rename_i c; obtain ⟨rfl, h2⟩ := Prod.mk.inj h; obtain ⟨rfl, rfl⟩ := Prod.mk.inj h2; exact split_no x c w
theorem rsplit_nm (x p q g : Int) (h : splitR x = (p, q, g)) (w : World) : Calls Try.prog 35 #[.int .i64 x] w fun e w' => e = .returned (.tuple #[.int .i64 p, .int .i64 q, .int .i64 g]) ∧ w = w' := by
  unfold splitR at h
  split at h
  · rename_i c; obtain ⟨rfl, h2⟩ := Prod.mk.inj h; obtain ⟨rfl, rfl⟩ := Prod.mk.inj h2; exact rsplit_yes x c.1 c.2 w
  · rename_i c; obtain ⟨rfl, h2⟩ := Prod.mk.inj h; obtain ⟨rfl, rfl⟩ := Prod.mk.inj h2; exact rsplit_no x c w
theorem rpoint_yes (x : Int) (h : isPt x) (w : World) : Calls Try.prog 36 #[.int .i64 x] w fun e w' => e = .returned (.bool true) ∧ w = w' := by
  have := rpoint_any x w; rwa [decide_eq_true h] at this
theorem rpoint_no (x : Int) (h : ¬ isPt x) (w : World) : Calls Try.prog 36 #[.int .i64 x] w fun e w' => e = .returned (.bool false) ∧ w = w' := by
  have := rpoint_any x w; rwa [decide_eq_false h] at this

theorem append_fullx (v : Value) (m : Nat) (xs : List Value) (x : Int) (hp : isPt x) (w : World) (hown : Full w v m xs) (hm : m ≤ 1099511627776) :
    Calls Try.prog 29 #[v, .int .i64 x] w fun e w' => (∃ v', e = .returned (.tuple #[v', .int .i64 0]) ∧ w'.ownsRow w.heap.size 5 1 v' (m + (frm x).length) (xs ++ (frm x).map enc8)) ∧ Below w.heap.size w w' ∧ w.heap.size ≤ w'.heap.size := by
  have hx := hp.2.1
  rcases (show x < 128 ∨ (128 ≤ x ∧ x < 2048) ∨ (2048 ≤ x ∧ x < 65536) ∨ 65536 ≤ x by omega) with h1 | ⟨h1, h2⟩ | ⟨h1, h2⟩ | h1
  · rw [show (frm x).length = 1 by unfold frm; rw [if_pos h1]; rfl]
    exact append_full1 v m xs x hp h1 w hown hm
  · rw [show (frm x).length = 2 by unfold frm; rw [if_neg (by omega), if_pos h2]; rfl]
    exact append_full2 v m xs x hp h1 h2 w hown hm
  · rw [show (frm x).length = 3 by unfold frm; rw [if_neg (by omega), if_neg (by omega), if_pos h2]; rfl]
    exact append_full3 v m xs x hp h1 h2 w hown hm
  · rw [show (frm x).length = 4 by unfold frm; rw [if_neg (by omega), if_neg (by omega), if_neg (by omega)]; rfl]
    exact append_full4 v m xs x hp h1 (by omega) w hown hm
theorem frm_pos (x : Int) : 1 ≤ (frm x).length := by unfold frm; (repeat' split) <;> simp
theorem row_form {W : World} {v : Value} {xs : List Value} (h : Row W v xs) (hp : 1 ≤ xs.length) : ∃ b off cap, v = .slice (some ⟨b, off, none⟩) xs.length cap := by
  rcases h with ⟨a, c, _, _, rfl⟩ | ⟨b, off, cap, hv, _⟩
  · simp at hp
  · exact ⟨b, off, cap, hv⟩
theorem one_of_map (l : List UInt8) : ∀ c ∈ l.map enc8, c.oneCell' = true := by
  intro c h
  obtain ⟨z, _, rfl⟩ := List.mem_map.1 h
  rfl

set_option maxRecDepth 100000 in
set_option maxHeartbeats 1000000 in
theorem tells_any (x y : Int) (vb : Value) (lb : List UInt8) (w : World) (hb : Row w vb (lb.map enc8)) :
    Calls Try.prog 13 #[.int .i64 x, .int .i64 y, vb] w fun e w' => e = .returned (.bool true) ∧ Below w.heap.size w w' := by
  have HB := Lib.hid hb
  clear hb
  go_enter Try.func13, Try.ntmps13
  go_upto_region 1 with (fail)
  go_cut [2] (fun s2 wx => ∃ l : List UInt8, Row wx s2 (l.map enc8) ∧ l.length ≤ 100 ∧ wx = w)
  case first =>
    rcases HB.out with ⟨a', c', hac, rfl, hnil⟩ | ⟨b, off, cp, hv, hlt, h1, h2, hc⟩
    · go_wp2_with fail
      go_meet
      exact ⟨[], .inl ⟨_, _, hac, rfl, rfl⟩, by simp, rfl⟩
    · have hll : (lb.map enc8).length = lb.length := by simp
      rw [hll] at hv h1
      subst hv
      have h2' := h2
      unfold maxLen at h2
      rcases (show lb.length ≤ 100 ∨ 100 < lb.length by omega) with hs | hs
      · have hs' : (lb.length : Int) ≤ 100 := by omega
        replace hc := Lib.hid hc
        go_wp2_with fail
        go_meet
        exact ⟨lb, HB.out, hs, rfl⟩
      · have hs' : ¬ (lb.length : Int) ≤ 100 := by omega
        have hrow : Hid (Row w (.slice (some ⟨b, off, none⟩) 100 cp) ((lb.take 100).map enc8)) := by
          show Row _ _ _
          refine .inr ⟨b, off, cp, by simp; omega, hlt, by simp; omega, h2', fun i hi => ?_⟩
          have hi' : i < lb.length := by simp at hi; omega
          rw [hc i (by simpa using hi')]; simp
        replace hc := Lib.hid hc
        go_wp2_with fail
        go_meet
        exact ⟨lb.take 100, hrow.out, by simp; omega, rfl⟩
  case rest =>
    obtain ⟨l, hl, hlen, rfl⟩ := hcut
    clear HB
    have HL := Lib.hid hl
    clear hl
    have hlm : (l.map enc8).length ≤ 100 := by simpa using hlen
    have hone : ∀ c ∈ l.map enc8, c.oneCell' = true := by
      intro c h
      obtain ⟨z, _, rfl⟩ := List.mem_map.1 h
      rfl
    go_wp2_with (at_builtin; go_must (refine app_all rfl (.tmp 28) (.tmp 29) 22 rfl wc.heap.size 5 (.int .u8 0) 1 Try.underlying22 info5 rfl (.slice (some ⟨wc.heap.size, 0, none⟩) 0 0) 0 [] rfl u2 (l.map enc8) rfl (World.ownsRow_lit wc #[] 0 (Nat.le_refl _) (by unfold maxLen; omega) rfl) (HL.out.on ((Below.refl _ _).alloc (Nat.le_refl _) _)) hone (by omega) (by omega) (by simp) ?_); rintro v1 w1 hown hb _ hnn; have HO := Lib.hid hown; clear hown; rename_i hx1; clear hx1; have HN := Lib.hid (show v1 ≠ .slice none 0 0 from fun e => by have := (hnn.1 e).1; cases this); clear hnn)
    replace hb : Below wc.heap.size wc w1 := (show Below wc.heap.size wc (wc.alloc (.cells #[] 5)) from (Below.refl _ _).alloc (Nat.le_refl _) _).trans hb
    have hrow1 : Row w1 v1 (l.map enc8) := by have := Row.of_owned HO.out; simpa using this
    have hb1 := Lib.hid (Bts.of_row hrow1 (by omega))
    have hbL := Lib.hid (Bts.of_row (HL.out.on hb) (by omega))
    obtain ⟨g, cap, hv, hcap, hcm, hfull⟩ : ∃ g cap, v1 = .slice (some ⟨g, 0, none⟩) l.length cap ∧ l.length ≤ cap ∧ cap ≤ maxLen ∧ Hid (Full w1 (.slice (some ⟨g, 0, none⟩) l.length l.length) l.length (l.map enc8)) := by
      have ho := HO.out
      rcases ho.2 with ⟨h, _⟩ | ⟨g, cap, cur, h, _, _, h1, h2, _⟩
      · exact absurd h HN.out
      · refine ⟨g, cap, by rw [h]; simp, by simpa using h1, h2, ⟨g, 0, none⟩, rfl, by simp, fun j u hj => ?_⟩
        have hj' : j < l.length := by have := (List.getElem?_eq_some_iff.1 hj).1; simpa using this
        rw [show (⟨g, 0, none⟩ : Addr).add j = ⟨g, j, none⟩ by simp [Addr.add]; omega]
        subst h
        rw [ho.cellAt j (by simpa using hj')]
        simpa using hj
    unfold maxLen at hcm
    subst hv
    clear HO HN hrow1
    replace HL := Lib.hid (HL.out.on hb)
    obtain ⟨p1, g1, hpr⟩ := ex2 (pairR x y)
    obtain ⟨p2, q2, g2, hsp⟩ := ex3 (splitR x)
    by_cases hp : isPt x
    · have hpt := Lib.hid hp
      have hf4 := frm_len x
      clear hp
      refine (size_yes x hpt.out _).mono ?_; rintro e w3 ⟨rfl, rfl⟩
      go_wp2_with fail
      refine (append_fullx _ l.length (l.map enc8) x hpt.out _ hfull.out (by omega)).mono ?_; rintro e w4 ⟨⟨v4, rfl, ho4⟩, hb4, hs4⟩
      have hbo := Lib.hid (Bts.of_owned (l := l ++ frm x) (by rw [List.map_append]; exact ho4) (by simp; omega))
      clear ho4 hs4
      have hb1' := Lib.hid (hb1.out.on hb4)
      have hbL' := Lib.hid (hbL.out.on hb4)
      have HL4 := Lib.hid (HL.out.on hb4)
      replace hb := on_trans hb hb4
      clear hb1 hbL HL hb4
      go_wp2_with fail
      refine (pair_nm x y p1 g1 hpr.out _).mono ?_; rintro e w3 ⟨rfl, rfl⟩
      go_wp2_with fail
      refine (rpair_nm x y p1 g1 hpr.out _).mono ?_; rintro e w3 ⟨rfl, rfl⟩
      go_wp2_with fail
      refine (split_nm x p2 q2 g2 hsp.out _).mono ?_; rintro e w3 ⟨rfl, rfl⟩
      go_wp2_with fail
      refine (rsplit_nm x p2 q2 g2 hsp.out _).mono ?_; rintro e w3 ⟨rfl, rfl⟩
      go_wp2_with fail
      refine (point_yes x hpt.out _).mono ?_; rintro e w3 ⟨rfl, rfl⟩
      go_wp2_with fail
      refine (rpoint_yes x hpt.out _).mono ?_; rintro e w3 ⟨rfl, rfl⟩
      go_wp2_with fail
      refine (same_yes _ _ l _ hb1'.out hbL'.out).mono ?_; rintro e w3 ⟨rfl, n3, rfl⟩
      go_wp2_with fail
      refine (rpoint_yes x hpt.out _).mono ?_; rintro e w3 ⟨rfl, rfl⟩
      go_wp2_with fail
      refine (form_any x hpt.out _).mono ?_; rintro e w5 ⟨⟨v5, rfl, hr5⟩, hb5⟩
      have hd : Below w4.heap.size w4 (w4.drewN n3) := below_drewN (Below.refl _ _) n3
      replace hb5 : Below w4.heap.size w4 w5 := hd.trans (hb5.mono (by simp))
      clear hd
      obtain ⟨b5, o5, c5, hv5⟩ := row_form hr5 (by simpa using frm_pos x)
      have hl5 : ((frm x).map enc8).length = (frm x).length := by simp
      rw [hl5] at hv5
      subst hv5
      replace hr5 := Lib.hid hr5
      have hsz5 := szI_frm x
      replace hbo := Lib.hid (hbo.out.on hb5)
      replace HL4 := Lib.hid (HL4.out.on hb5)
      replace hb := on_trans hb hb5
      clear hb5 hb1' hbL' hpr hsp
      have hfm : ((frm x).map enc8).length ≤ 4 := by simpa using hf4
      have hq : (szI x == ((frm x).length : Int)) = true := by rw [hsz5]; simp
      clear hsz5
      go_wp2_with (at_builtin; go_must (refine wpList_step fun K hK => ?_; rw [if_pos (show Region.wanted _ _ = true from rfl)]; first
        | (refine app_all_wp (.tmp 141) (.tmp 142) 22 rfl w5.heap.size 5 (.int .u8 0) 1 Try.underlying22 info5 rfl (.slice (some ⟨w5.heap.size, 0, none⟩) 0 0) 0 [] rfl u2 (l.map enc8) rfl (World.ownsRow_lit w5 #[] 0 (Nat.le_refl _) (by unfold maxLen; omega) rfl) (HL4.out.on ((Below.refl _ _).alloc (Nat.le_refl _) _)) hone (by omega) (by omega) (by simp) ?_; intro v6 w6 hown6 hb6 hs6; refine hK _ _ ?_; clear hK K; have HO6 := Lib.hid hown6; clear hown6)
        | (refine app_all_wp (.tmp 143) (.tmp 144) 22 rfl w5.heap.size 5 (.int .u8 0) 1 Try.underlying22 info5 rfl v6 (0 + (l.map enc8).length) ([] ++ l.map enc8) rfl _ ((frm x).map enc8) rfl HO6.out (hr5.out.on (((Below.refl _ _).alloc (Nat.le_refl _) (.cells #[] 5)).trans hb6)) (one_of_map _) (by omega) (by omega) (by simp at hs6; omega) ?_; intro v7 w7 hown7 hb7 hs7; refine hK _ _ ?_; clear hK K; have HO7 := Lib.hid hown7; clear hown7)))
      have hb67 : Below w5.heap.size w5 w7 := (((Below.refl _ _).alloc (Nat.le_refl _) (.cells #[] 5)).trans hb6).trans hb7
      refine (same_yes _ _ (l ++ frm x) _ (hbo.out.on hb67) (Bts.of_owned (l := l ++ frm x) (by simpa [List.map_append] using HO7.out) (by simp; omega))).mono ?_; rintro e w8 ⟨rfl, n8, rfl⟩
      go_wp2_with fail
      go_ret
      exact ⟨rfl, below_drewN (on_trans hb hb67) _⟩
    · have hpt := Lib.hid hp
      clear hp
      refine (size_no x hpt.out _).mono ?_; rintro e w3 ⟨rfl, rfl⟩
      go_wp2_with fail
      refine (append_no _ x hpt.out _).mono ?_; rintro e w3 ⟨rfl, rfl⟩
      go_wp2_with fail
      refine (pair_nm x y p1 g1 hpr.out _).mono ?_; rintro e w3 ⟨rfl, rfl⟩
      go_wp2_with fail
      refine (rpair_nm x y p1 g1 hpr.out _).mono ?_; rintro e w3 ⟨rfl, rfl⟩
      go_wp2_with fail
      refine (split_nm x p2 q2 g2 hsp.out _).mono ?_; rintro e w3 ⟨rfl, rfl⟩
      go_wp2_with fail
      refine (rsplit_nm x p2 q2 g2 hsp.out _).mono ?_; rintro e w3 ⟨rfl, rfl⟩
      go_wp2_with fail
      refine (point_no x hpt.out _).mono ?_; rintro e w3 ⟨rfl, rfl⟩
      go_wp2_with fail
      refine (rpoint_no x hpt.out _).mono ?_; rintro e w3 ⟨rfl, rfl⟩
      go_wp2_with fail
      refine (same_yes _ _ l _ hb1.out hbL.out).mono ?_; rintro e w3 ⟨rfl, n3, rfl⟩
      go_wp2_with fail
      refine (rpoint_no x hpt.out _).mono ?_; rintro e w3 ⟨rfl, rfl⟩
      go_wp2_with fail
      go_ret
      exact ⟨rfl, below_drewN hb _⟩
end Go.Proofs.Ytkabkkgaalimmaa
