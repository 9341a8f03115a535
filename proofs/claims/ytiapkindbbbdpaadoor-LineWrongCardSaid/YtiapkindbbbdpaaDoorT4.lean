/- The walk of the law LineBack. -/
import Derived.Test.YtiapkindbbbdpaaDoorP6
import Derived.Test.YtiapkindbbbdpaaDoorK18
namespace Go.Proofs.YtiapkindbbbdpaaDoor
open Go.RowKit

/-- What the library's variables hold, the tables of UTF-8 too. -/
def Glb2 (W : World) : Prop := Glb W ∧ U8 W
theorem Glb2.on {w W : World} (h : Glb2 w) (hb : Below w.heap.size w W) : Glb2 W := ⟨h.1.on hb, h.2.on h.2.lt hb⟩
theorem contains_no (s : ByteArray) (l : List UInt8) (hs : s.data.toList = l) (h : ∀ x ∈ l, x ≠ 10) (w : World) : Calls Tryd.prog 25 #[.string s, .string ⟨#[10]⟩] w fun e w' => e = .returned (.bool false) ∧ w = w' := by
  have := Tryd.strings_Contains_one s 10 w
  rw [hs, index_no l 10 h] at this
  exact this.mono fun e w' ⟨a, b⟩ => ⟨a, b.symm⟩
theorem count_to (s : ByteArray) (l : List UInt8) (hs : s.data.toList = l) (n : Nat) (h : l.count 10 = n) (w : World) : Calls Tryd.prog 26 #[.string s, .string ⟨#[10]⟩] w fun e w' => e = .returned (.int .i64 n) ∧ w = w' := by
  have := Tryd.strings_Count_one s 10 w
  rw [hs, show Lib.countByte l 10 = n from h] at this
  exact this.mono fun e w' ⟨a, b⟩ => ⟨a, b.symm⟩
theorem ok_bounds {Ls : List (List Wd)} (h : ∀ ws ∈ Ls, okWords ws) : ∀ ws ∈ Ls, ws.length ≤ 1000 ∧ ∀ p ∈ ws, p.1.length ≤ 100000 :=
  fun ws hws => ⟨by have := (h ws hws).1; omega, fun p hp => by have := ((h ws hws).2 p hp).2; omega⟩
theorem numW_len (Ls : List (List Wd)) (k : Nat) : (numW k Ls).length ≤ Ls.length := by
  induction Ls generalizing k with
  | nil => exact Nat.le_refl _
  | cons ws r ih =>
    have := ih (k + 1)
    rw [numW, List.length_append, List.length_cons]
    split
    · simp; omega
    · simp; omega
set_option maxRecDepth 100000 in
set_option maxHeartbeats 4000000 in
theorem back_any (v : Value) (q : Int) (rows : List (List ByteArray)) (w : World) (hv : SRows w v rows) (hG : Glb2 w) :
    Calls Tryd.prog 8 #[v, .int .u16 q] w fun e w' => e = .returned (.bool true) ∧ Below w.heap.size w w' := by
  replace hG := Lib.hid (fun (W : World) (h : Below w.heap.size w W) => hG.on h)
  replace hv := Lib.hid hv
  go_enter Tryd.func8, Tryd.ntmps8
  go_wp2_with fail
  refine (awake_any w (hG.out _ (Below.refl _ _)).1).mono ?_; rintro y w1 ⟨rfl, hb⟩
  have hB := Lib.hid hb
  have hmd := Lib.hid (made_any v q rows w1 (hv.out.on hb) (hG.out _ hB.out).2)
  clear hb hv
  go_wp2_with fail
  refine (hmd.out).mono ?_; rintro y w2 ⟨⟨v5, Ls, rfl, hM, hLn, hok⟩, hb⟩
  obtain ⟨a5, c5, rfl⟩ := hM.shape
  replace hB := Lib.hid (hB.out.trans (hb.mono hB.out.size))
  have hl10 : Ls.length ≤ 10 := by omega
  have hwr := Lib.hid (write_to _ Ls (ok_bounds hok) (by omega) _ _ _ (writeF_ok Ls hok (by omega)) w2 hM)
  replace hM := Lib.hid hM
  replace hok := Lib.hid hok
  clear hmd hb hLn
  go_wp2_with fail
  refine (hwr.out).mono ?_; rintro y w3 ⟨rfl, hb⟩
  replace hB := Lib.hid (hB.out.trans (hb.mono hB.out.size))
  replace hM := Lib.hid (hM.out.on hb)
  obtain ⟨t, ht⟩ : ∃ t : ByteArray, Hid (⟨(textW Ls).toArray⟩ = t) := ⟨_, Lib.hid rfl⟩
  have htd : Hid (t.data.toList = textW Ls) := by show _ = _; rw [← ht.out]
  rw [ht.out]
  have hpc := Lib.hid (parse_to t 0 0 (numW 0 Ls) (by rw [htd.out]; exact parseF_text Ls hok.out (by omega)) w3 (hG.out _ hB.out).1.1)
  clear hwr hb ht
  go_wp2_with fail
  refine (hpc.out).mono ?_; rintro y w4 ⟨⟨v9, rfl, hL⟩, hb⟩
  obtain ⟨a9, c9, rfl⟩ := hL.shape
  replace hL := Lib.hid hL
  replace hB := Lib.hid (hB.out.trans (hb.mono hB.out.size))
  replace hM := Lib.hid (hM.out.on hb)
  clear hpc hb
  have hnl := numW_len Ls 0
  go_wp2_with fail
  go_loopg [12, 50] (Ls.length + 1) (fun g s12 s50 wx => ∃ i : Nat, i + g = Ls.length + 1 ∧ s50 = .int .i64 i ∧ i ≤ Ls.length ∧ s12 = .int .i64 (numW 0 (Ls.take i)).length ∧ Hid (Below w4.heap.size w4 wx))
  case atStart => exact ⟨0, by omega, rfl, by omega, rfl, Lib.hid (Below.refl _ _)⟩
  case round =>
    obtain ⟨i, hg, rfl, hi, rfl, hB2⟩ := hrel
    by_cases hlt : i < Ls.length
    · have t1 : decide (i < Ls.length) = true := decide_eq_true hlt
      have t1' : decide ((i : Int) < (Ls.length : Int)) = true := decide_eq_true (by omega)
      obtain ⟨b, off, a2, c2, rfl, x0, hw⟩ := (hM.out.on hB2.out).at' i hlt
      have hat := Lib.hid (fun (h : Ls[i] ≠ []) => numW_at Ls i hlt h)
      have hnx := Lib.hid (numW_next Ls i hlt)
      have hokw := hok.out _ (List.getElem_mem hlt)
      obtain ⟨ws, hws⟩ : ∃ ws, Hid (Ls[i] = ws) := ⟨_, Lib.hid rfl⟩
      have hwl := ok_bounds hok.out _ (List.getElem_mem hlt)
      rw [hws.out] at x0 hw hokw hwl hat hnx
      obtain ⟨k, hk⟩ : ∃ k, Hid ((numW 0 (Ls.take i)).length = k) := ⟨_, Lib.hid rfl⟩
      rw [hk.out] at hat hnx ⊢
      have hjc := Lib.hid (join_any _ ws hwl.1 _ _ hwl.2 (joinF_ok ws hokw) wr hw)
      have hspl := splitF_line ws hokw
      have hno := Lib.hid (lineW_no10 ws hokw.right)
      obtain ⟨l, hl⟩ : ∃ l, Hid (lineW ws = l) := ⟨_, Lib.hid rfl⟩
      obtain ⟨s, hs⟩ : ∃ s : ByteArray, Hid (⟨l.toArray⟩ = s) := ⟨_, Lib.hid rfl⟩
      rw [hl.out] at hjc hspl hno
      have hsd : Hid (s.data.toList = l) := by show _ = _; rw [← hs.out]
      replace hw := Lib.hid hw
      have hsc := fun W => split_any s W
      rw [hsd.out, hspl] at hsc
      replace hsc := Lib.hid hsc
      clear hws hwl hl hokw hk hspl
      go_wp2_with fail
      refine (hjc.out).mono ?_; rintro y w5 ⟨rfl, hb⟩
      rw [hs.out]
      replace hB2 := Lib.hid (hB2.out.trans (hb.mono hB2.out.size))
      replace hw := Lib.hid (hw.out.on hb)
      clear hjc hb x0 hs
      go_wp2_with fail
      refine (hsc.out w5).mono ?_; rintro y w6 ⟨⟨v6, rfl, hv6⟩, hb⟩
      obtain ⟨a6, c6, rfl⟩ := own_shape hv6
      replace hB2 := Lib.hid (hB2.out.trans (hb.mono hB2.out.size))
      replace hw := Lib.hid (hw.out.on hb)
      have hsm := same_any _ _ ws ws w6 (WRow.of_owned hv6) hw.out
      rw [decide_eq_true rfl] at hsm
      replace hsm := Lib.hid hsm
      clear hsc hb hv6
      go_wp2_with fail
      refine (hsm.out).mono ?_; rintro y w7 ⟨rfl, hb⟩
      replace hB2 := Lib.hid (hB2.out.trans (hb.mono hB2.out.size))
      replace hw := Lib.hid (hw.out.on hb)
      have hcn := Lib.hid (contains_no s l hsd.out hno.out w7)
      clear hsm hb hno hsd
      go_wp2_with fail
      refine (hcn.out).mono ?_; rintro y w8 ⟨rfl, rfl⟩
      clear hcn
      by_cases hne : ws = []
      · subst hne
        have hnx' := hnx.out
        rw [if_pos rfl, Nat.add_zero] at hnx'
        replace hnx' := Lib.hid hnx'
        clear hnx hat hw
        go_wp2_with fail
        go_roundg (gk - 1)
        case measure => omega
        case rel => exact ⟨i + 1, by omega, by go_num, by omega, by rw [hnx'.out]; rfl, hB2⟩
      · have hnx' := hnx.out
        rw [if_neg hne] at hnx'
        replace hnx' := Lib.hid hnx'
        obtain ⟨hkl, hke⟩ := hat.out hne
        have hwl0 : 0 < ws.length := List.length_pos_iff.2 hne
        have u1 : ((ws.length : Int) == 0) = false := by simp; omega
        have u2 : decide ((numW 0 Ls).length ≤ k) = false := decide_eq_false (by omega)
        have u3 : decide (((numW 0 Ls).length : Int) ≤ (k : Int)) = false := decide_eq_false (by omega)
        have u4 : decide (k < (numW 0 Ls).length) = true := decide_eq_true hkl
        obtain ⟨g9, y9, rfl, z0, z1, hw9, q9, r9, rfl⟩ := (hL.out.on hB2.out).at' k hkl
        rw [hke] at z0 z1 hw9
        have z0' : w7.cell? ⟨g9, k * 2, none⟩ = some (.int .i64 ((i : Int) + 1)) := z0
        have hsm := same_any _ _ ws ws w7 hw9 hw.out
        rw [decide_eq_true rfl] at hsm
        replace hsm := Lib.hid hsm
        simp only at z1
        clear hnx hat hw z0 hke hw9
        go_wp2_with fail
        refine (hsm.out).mono ?_; rintro y w9 ⟨rfl, hb⟩
        replace hB2 := Lib.hid (hB2.out.trans (hb.mono hB2.out.size))
        clear hsm hb z0' z1
        go_wp2_with fail
        go_roundg (gk - 1)
        case measure => omega
        case rel => exact ⟨i + 1, by omega, by go_num, by omega, by rw [hnx'.out]; go_num, hB2⟩
    · obtain rfl : i = Ls.length := by omega
      have t1 : decide (Ls.length < Ls.length) = false := decide_eq_false (by omega)
      rw [List.take_of_length_le (Nat.le_refl _)]
      have hct := Lib.hid (count_to t _ htd.out Ls.length (textW_count Ls (fun ws hws => (hok.out ws hws).right)) wr)
      go_wp2_with fail
      refine (hct.out).mono ?_; rintro y w8 ⟨rfl, rfl⟩
      go_wp2_with fail
      go_ret
      exact ⟨rfl, hB.out.trans (hB2.out.mono hB.out.size)⟩
end Go.Proofs.YtiapkindbbbdpaaDoor
