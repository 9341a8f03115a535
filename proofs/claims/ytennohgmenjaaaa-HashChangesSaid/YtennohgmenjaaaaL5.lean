/- The walk of the law HashChanges. -/
import Derived.Test.YtennohgmenjaaaaM3
import Derived.Test.YtennohgmenjaaaaRS2
import Derived.Deep.DeepCutAuto
import Derived.Deep.DeepMust
namespace Go.Proofs.Ytennohgmenjaaaa
open Go.RowKit Go.Shelf

theorem x_size (s : ByteArray) (h : s.size ≤ 2000) : 1 ≤ ((⟨#[120]⟩ : ByteArray) ++ s).size ∧ ((⟨#[120]⟩ : ByteArray) ++ s).size ≤ 2001 := by
  rw [ByteArray.size_append]; show 1 ≤ 1 + s.size ∧ 1 + s.size ≤ 2001; omega

theorem build1 (w : World) (s : ByteArray) : (Instr.buildSlice 42 1 #[(0, .string s)]).run Try.prog w = .ok (.slice (some ⟨w.heap.size, 0, none⟩) 1 1) (w.alloc (.cells #[.string s] 9)) := by
  go_simp
theorem build1_cell (w : World) (s : ByteArray) : (w.alloc (.cells #[.string s] 9)).cell? ⟨w.heap.size, 0, none⟩ = some (.string s) := by
  simp [go_sem]

set_option maxRecDepth 100000 in
set_option maxHeartbeats 2000000 in
theorem hashChanges_walk (a0 : ByteArray) (a1 a2 : Int) (a3 : Option Addr) (len3 cap3 : Nat) (z3 : List ByteArray) (w : World)
    (w0 : a0.size ≤ 9223372036854775807) (w1 : (Lit.int .u16 a1).wf = true) (w2 : (Lit.int .u8 a2).wf = true) (w3 : IsStrs w a3 len3 cap3 z3) :
    Calls Try.prog 9 #[.string a0, .int .u16 a1, .int .u8 a2, .slice a3 len3 cap3] w fun e w' => e = .returned (.bool true) ∧ Below w.heap.size w w' := by
  obtain ⟨k0, k1⟩ := u16_bd a1 w1
  obtain ⟨by', rfl⟩ := B_ex a2 w2
  obtain ⟨L, hlen, hL, hs⟩ := w3.strs
  have HL := Lib.hid hL
  have HS := Lib.hid hs
  clear w1 w2 w3 hL hs
  go_enter Try.func9, Try.ntmps9
  go_upto_region 1 with (fail)
  go_cut [0] (fun s0 wx => ∃ s : ByteArray, s0 = .string s ∧ 1 ≤ s.size ∧ s.size ≤ 2001 ∧ Below w.heap.size w wx)
  case first =>
    have h2 : (a0.extract 0 (min (a0.size : Int) 2000).toNat).size ≤ 2000 := by rw [ByteArray.size_extract]; omega
    go_wp2_with fail
    go_meet
    exact ⟨_, rfl, (x_size _ h2).1, (x_size _ h2).2, Below.refl _ _⟩
  case rest =>
    obtain ⟨s, rfl, ls, lt, hb⟩ := hcut
    clear w0
    obtain ⟨k, hk, hks⟩ : ∃ k : Nat, a1 % (s.size : Int) = k ∧ k < s.size := ⟨(a1 % (s.size : Int)).toNat, by have := Int.emod_nonneg a1 (show (s.size : Int) ≠ 0 by omega); omega, by have := Int.emod_nonneg a1 (show (s.size : Int) ≠ 0 by omega); have := Int.emod_lt_of_pos a1 (show (0 : Int) < s.size by omega); omega⟩
    go_upto_region 3 with (fail)
    rw [hk]
    clear hk k0 k1
    obtain ⟨w1, cap, hcv, hb1, hlt1, hcl, hfz⟩ := to_bytes s wc
    obtain ⟨l, hl⟩ : ∃ l, s.data.toList = l := ⟨_, rfl⟩
    have hls : l.length = s.size := by rw [← hl]; simp
    rw [hl] at hcl
    obtain ⟨c, hc⟩ : ∃ c, c = l[k] := ⟨_, rfl⟩
    have hcell : w1.cell? ⟨wc.heap.size, k, none⟩ = some (.int .u8 (c.toNat : Int)) := by rw [hc]; exact hcl.out k (by omega)
    have hfro := hfz.out k hks
    replace hc := Lib.hid hc
    replace hl := Lib.hid hl
    obtain ⟨d, hdc, hxor⟩ := xor_byte c (max by'.toNat 1) (by omega) (by have := by'.toNat_lt; omega)
    rw [show ((max by'.toNat 1 : Nat) : Int) = max (by'.toNat : Int) 1 by omega] at hxor
    have hks' : (k : Int) < s.size := by omega
    go_upto_region 5 with (fail)
    obtain ⟨t, ht⟩ : ∃ t : ByteArray, t = ⟨(l.set k d).toArray⟩ := ⟨_, rfl⟩
    have hts : t.size = s.size := by rw [ht]; show (l.set k d).toArray.size = _; simp [hls]
    have hne : ∀ g, hadd g t.data.toList ≠ hadd g s.data.toList := by
      intro g
      rw [ht, hl.out]
      exact hadd_set_ne g l k (by omega) d (by rw [← hc.out]; exact hdc)
    obtain ⟨v10, hv10⟩ : ∃ v, v = Value.slice (some ⟨wc.heap.size, 0, none⟩) s.size cap := ⟨_, rfl⟩
    obtain ⟨W2, hW2⟩ : ∃ W, W = w1.setCell ⟨wc.heap.size, k, none⟩ (.int .u8 (d.toNat : Int)) := ⟨_, rfl⟩
    have hsz2 : W2.heap.size = w1.heap.size := by rw [hW2]; simp
    have HCV : Hid (∀ W, Below W2.heap.size W2 W → (convert 34 9 v10).run Try.prog W = .ok (.string t) W) := by
      intro W hW
      rw [hv10, ht, ← hls]
      exact conv_set w1 _ l k d (by omega) cap hcl.out W hlt1 (by rw [← hsz2, ← hW2]; exact hW)
    have hbW : Below w.heap.size w W2 := by
      rw [hW2]; exact on_trans hb (hb1.setCell (p := ⟨wc.heap.size, k, none⟩) (Nat.le_refl _) _)
    rw [← hW2, ← hv10]
    clear hcv hcl hfz hcell hfro hxor hdc hc hks' hls hl ht hsz2 hb1 hlt1 hks
    clear hW2 hv10 hb
    have h17 := Try.call17
    have h15 := Try.call15
    obtain ⟨ns, hns⟩ : ∃ x, Hid (x = hadd offset s.data.toList) := ⟨_, rfl⟩
    obtain ⟨nt, hnt⟩ : ∃ x, Hid (x = hadd offset t.data.toList) := ⟨_, rfl⟩
    obtain ⟨ms, hms⟩ : ∃ x, Hid (x = hadd 5#64 s.data.toList) := ⟨_, rfl⟩
    obtain ⟨mt, hmt⟩ : ∃ x, Hid (x = hadd 5#64 t.data.toList) := ⟨_, rfl⟩
    have hn1 : (U ns == U nt) = false := by rw [U_beq, beq_eq_false_iff_ne, hns.out, hnt.out]; exact fun e => hne _ e.symm
    have hn2 : (U ms == U mt) = false := by rw [U_beq, beq_eq_false_iff_ne, hms.out, hmt.out]; exact fun e => hne _ e.symm
    refine wp_region_facts (fun i v _ => match i with
      | 0 => v = .string s | 1 => v = .int .u64 (U ns) | 2 => v = v10 | 3 => v = .string t | 4 => v = .int .u64 (U nt) | 5 => v = .bool false | 6 => v = .bool false
      | 7 => v = .string s | 8 => v = .int .u64 (U ms) | 9 => v = v10 | 10 => v = .string t | 11 => v = .int .u64 (U mt) | 12 => v = .bool false | _ => v = .bool false)
      (by kernel_rfl) (by kernel_rfl) (by decide +kernel) (by kernel_rfl) (fun i v w w' h _ => h) ?_ ?_
    · intro i
      rcases i with _ | _ | _ | _ | _ | _ | _ | _ | _ | _ | _ | _ | _ | _ | i
      all_goals intro o ho a wa hba hout hsz hpre
      all_goals cases ho
      all_goals have q0 : a.tmps.getD 0 undef = .string s := (hout 0 (by decide +kernel)).trans rfl
      all_goals have q10 : a.tmps.getD 10 undef = v10 := (hout 10 (by decide +kernel)).trans rfl
      all_goals clear hout hsz
      · exact step_move rfl (met_none rfl) (.inl rfl) ⟨_, rfl, Below.refl _ _, q0⟩
      · have p0 : a.tmps.getD 33 undef = .string s := hpre ⟨0, .data⟩ (by simp) rfl _ rfl
        clear hpre
        refine step_call rfl (met_none rfl) _ (args1 p0) (h17 _ _) ((sum_to ns s (by omega) hns.out _).mono ?_)
        rintro e w' ⟨rfl, hb⟩
        exact ⟨_, rfl, _, rfl, hb, rfl⟩
      · exact step_move rfl (met_none rfl) (.inl rfl) ⟨_, rfl, Below.refl _ _, q10⟩
      · have p2 : a.tmps.getD 35 undef = v10 := hpre ⟨2, .data⟩ (by simp) rfl _ rfl
        clear hpre
        refine step_conv rfl (met_none rfl) rfl (v := .string t) (w' := wa) ?_ ⟨_, rfl, Below.refl _ _, rfl⟩
        rw [show a.eval (.tmp 35) = v10 from p2]
        exact HCV.out wa hba
      · have p3 : a.tmps.getD 36 undef = .string t := hpre ⟨3, .data⟩ (by simp) rfl _ rfl
        clear hpre
        refine step_call rfl (met_none rfl) _ (args1 p3) (h17 _ _) ((sum_to nt t (by omega) hnt.out _).mono ?_)
        rintro e w' ⟨rfl, hb⟩
        exact ⟨_, rfl, _, rfl, hb, rfl⟩
      · have p1 : a.tmps.getD 34 undef = .int .u64 (U ns) := hpre ⟨1, .data⟩ (by simp) rfl _ rfl
        have p4 : a.tmps.getD 37 undef = .int .u64 (U nt) := hpre ⟨4, .data⟩ (by simp) rfl _ rfl
        clear hpre
        exact step_eql rfl (met_none rfl) rfl p1 p4 ⟨_, rfl, Below.refl _ _, congrArg Value.bool hn1⟩
      · have p5 : a.tmps.getD 38 undef = .bool false := hpre ⟨5, .data⟩ (by simp) rfl _ rfl
        exact step_move rfl (met_none rfl) (.inl rfl) ⟨_, rfl, Below.refl _ _, p5⟩
      · have p6 : a.tmps.getD 39 undef = .bool false := hpre ⟨6, .guard⟩ (by simp) rfl _ rfl
        exact step_move rfl (met_some rfl rfl rfl p6) (.inl rfl) ⟨_, rfl, Below.refl _ _, q0⟩
      · have p6 : a.tmps.getD 39 undef = .bool false := hpre ⟨6, .guard⟩ (by simp) rfl _ rfl
        have p7 : a.tmps.getD 40 undef = .string s := hpre ⟨7, .data⟩ (by simp) rfl _ rfl
        clear hpre
        refine step_call rfl (met_some rfl rfl rfl p6) _ (args2 (v := .int .u64 5) rfl p7) (h15 _ _) ((add_to 5#64 ms s (by omega) hms.out _).mono ?_)
        rintro e w' ⟨rfl, hb⟩
        exact ⟨_, rfl, _, rfl, hb, rfl⟩
      · have p6 : a.tmps.getD 39 undef = .bool false := hpre ⟨6, .guard⟩ (by simp) rfl _ rfl
        exact step_move rfl (met_some rfl rfl rfl p6) (.inl rfl) ⟨_, rfl, Below.refl _ _, q10⟩
      · have p6 : a.tmps.getD 39 undef = .bool false := hpre ⟨6, .guard⟩ (by simp) rfl _ rfl
        have p9 : a.tmps.getD 42 undef = v10 := hpre ⟨9, .data⟩ (by simp) rfl _ rfl
        clear hpre
        refine step_conv rfl (met_some rfl rfl rfl p6) rfl (v := .string t) (w' := wa) ?_ ⟨_, rfl, Below.refl _ _, rfl⟩
        rw [show a.eval (.tmp 42) = v10 from p9]
        exact HCV.out wa hba
      · have p6 : a.tmps.getD 39 undef = .bool false := hpre ⟨6, .guard⟩ (by simp) rfl _ rfl
        have p10 : a.tmps.getD 43 undef = .string t := hpre ⟨10, .data⟩ (by simp) rfl _ rfl
        clear hpre
        refine step_call rfl (met_some rfl rfl rfl p6) _ (args2 (v := .int .u64 5) rfl p10) (h15 _ _) ((add_to 5#64 mt t (by omega) hmt.out _).mono ?_)
        rintro e w' ⟨rfl, hb⟩
        exact ⟨_, rfl, _, rfl, hb, rfl⟩
      · have p6 : a.tmps.getD 39 undef = .bool false := hpre ⟨6, .guard⟩ (by simp) rfl _ rfl
        have p8 : a.tmps.getD 41 undef = .int .u64 (U ms) := hpre ⟨8, .data⟩ (by simp) rfl _ rfl
        have p11 : a.tmps.getD 44 undef = .int .u64 (U mt) := hpre ⟨11, .data⟩ (by simp) rfl _ rfl
        clear hpre
        exact step_eql rfl (met_some rfl rfl rfl p6) rfl p8 p11 ⟨_, rfl, Below.refl _ _, congrArg Value.bool hn2⟩
      · have p6 : a.tmps.getD 39 undef = .bool false := hpre ⟨6, .data⟩ (by simp) rfl _ rfl
        have p12 : a.tmps.getD 45 undef = .bool false := hpre ⟨12, .data⟩ (by simp) rfl _ rfl
        clear hpre
        exact step_pick rfl (met_none rfl) rfl p6 ⟨_, rfl, Below.refl _ _, p12⟩
    · intro a wa hba hF ha
      have f0 : a.tmps.getD 33 undef = .string s := hF 0 _ rfl
      have f1 : a.tmps.getD 34 undef = .int .u64 (U ns) := hF 1 _ rfl
      have f2 : a.tmps.getD 35 undef = v10 := hF 2 _ rfl
      have f3 : a.tmps.getD 36 undef = .string t := hF 3 _ rfl
      have f4 : a.tmps.getD 37 undef = .int .u64 (U nt) := hF 4 _ rfl
      have f5 : a.tmps.getD 38 undef = .bool false := hF 5 _ rfl
      have f6 : a.tmps.getD 39 undef = .bool false := hF 6 _ rfl
      have f7 : a.tmps.getD 40 undef = .string s := hF 7 _ rfl
      have f8 : a.tmps.getD 41 undef = .int .u64 (U ms) := hF 8 _ rfl
      have f9 : a.tmps.getD 42 undef = v10 := hF 9 _ rfl
      have f10 : a.tmps.getD 43 undef = .string t := hF 10 _ rfl
      have f11 : a.tmps.getD 44 undef = .int .u64 (U mt) := hF 11 _ rfl
      have f12 : a.tmps.getD 45 undef = .bool false := hF 12 _ rfl
      have f13 : a.tmps.getD 46 undef = .bool false := hF 13 _ rfl
      clear hF
      simp only [List.foldl, fillFrom, f0, f1, f2, f3, f4, f5, f6, f7, f8, f9, f10, f11, f12, f13] at ha
      clear f0 f1 f2 f3 f4 f5 f6 f7 f8 f9 f10 f11 f12 f13
      subst ha
      simp only [Act.put, List.setIfInBounds_toArray, List.set_cons_succ, List.set_cons_zero]
      replace hbW := on_trans hbW hba
      have HCV2 : Hid (∀ W, Below wa.heap.size wa W → (convert 34 9 v10).run Try.prog W = .ok (.string t) W) := fun W hW => HCV.out W (on_trans hba hW)
      clear HCV hba h15 h17 hns hnt hms hmt hn1 hn2
      go_upto_region 7 with (fail)
      go_cut [11] (fun v11 wx => ∃ own : List ByteArray, StrsA wx v11 own ∧ own.length ≤ 10 ∧ Hid (∀ s ∈ own, s.size ≤ 9223372036854775807) ∧ Below wa.heap.size wa wx)
      case first =>
        have HLa := Lib.hid (HL.out.on hbW)
        clear HL HCV2 hne
        rcases HLa.out with ⟨a', c', hac, hv, rfl⟩ | ⟨b, off, cp, hv, hlt, h1, h2, hc⟩
        · obtain ⟨rfl, rfl, rfl⟩ : a3 = a' ∧ len3 = 0 ∧ cap3 = c' := by cases hv; exact ⟨rfl, rfl, rfl⟩
          go_wp2_with (at_builtin; go_must (refine app_all rfl (.tmp 47) (.tmp 52) 42 rfl wa.heap.size 9 (.string ByteArray.empty) 16 Try.underlying42 Try.info9 rfl (.slice (some ⟨wa.heap.size, 0, none⟩) 0 0) 0 [] rfl _ [] rfl (World.ownsRow_lit wa #[] 0 (Nat.le_refl _) (by unfold maxLen; omega) rfl) (HLa.out.row.on ((Below.refl _ _).alloc (Nat.le_refl _) _)) (by simp [Value.oneCell']) (by omega) (by simp) (by simp) ?_); rintro v1 w1 hown hb _ hnn; have HO := Lib.hid hown; clear hown; rename_i hx1; clear hx1; have HN := Lib.hid (show v1 ≠ .slice none 0 0 from fun e => by have := (hnn.1 e).1; cases this); clear hnn)
          go_meet
          refine ⟨[], StrsA.of_owned (by simpa using HO.out) HN.out, by simp, (fun _ h => by cases h), (show Below wa.heap.size wa (wa.alloc (.cells #[] 9)) from (Below.refl _ _).alloc (Nat.le_refl _) _).trans hb⟩
        · obtain ⟨rfl, rfl, rfl⟩ : a3 = some ⟨b, off, none⟩ ∧ len3 = L.length ∧ cap3 = cp := by cases hv; exact ⟨rfl, rfl, rfl⟩
          clear hv hlen
          obtain ⟨m, hm⟩ : ∃ m : Nat, min (L.length : Int) 10 = (m : Int) := ⟨min L.length 10, by omega⟩
          have hmL : m ≤ L.length := by omega
          have hm10 : m ≤ 10 := by omega
          unfold maxLen at h2
          have hrow : Hid (Row wa (.slice (some ⟨b, off, none⟩) m cap3) ((L.take m).map .string)) := by
            show Row _ _ _
            refine .inr ⟨b, off, cap3, by simp; omega, hlt, by simp; omega, by unfold maxLen; omega, fun i hi => ?_⟩
            have hi' : i < L.length := by simp at hi; omega
            rw [hc i hi']; simp
          have hlen : (L.take m).length ≤ 10 := by simp; omega
          have hone : ∀ c ∈ (L.take m).map Value.string, c.oneCell' = true := by
            intro c h
            obtain ⟨x, _, rfl⟩ := List.mem_map.1 h
            rfl
          have hlen2 : ((L.take m).map Value.string).length ≤ 10 := by simp; omega
          replace hc := Lib.hid hc
          go_wp2_with (at_builtin; go_must (refine app_all rfl (.tmp 47) (.tmp 52) 42 rfl wa.heap.size 9 (.string ByteArray.empty) 16 Try.underlying42 Try.info9 rfl (.slice (some ⟨wa.heap.size, 0, none⟩) 0 0) 0 [] rfl (.slice (some ⟨b, off, none⟩) m cap3) ((L.take m).map .string) rfl (World.ownsRow_lit wa #[] 0 (Nat.le_refl _) (by unfold maxLen; omega) rfl) (hrow.out.on ((Below.refl _ _).alloc (Nat.le_refl _) _)) hone (by omega) (by omega) (by simp) ?_); rintro v1 w1 hown hb _ hnn; have HO := Lib.hid hown; clear hown; rename_i hx1; clear hx1; have HN := Lib.hid (show v1 ≠ .slice none 0 0 from fun e => by have := (hnn.1 e).1; cases this); clear hnn)
          go_meet
          refine ⟨L.take m, StrsA.of_owned (by simpa using HO.out) HN.out, hlen, (fun s h => HS.out s (List.mem_of_mem_take h)), (show Below wa.heap.size wa (wa.alloc (.cells #[] 9)) from (Below.refl _ _).alloc (Nat.le_refl _) _).trans hb⟩
      case rest =>
        obtain ⟨own, hown, hlo, hso, hb7⟩ := hcut
        replace hbW := on_trans hbW hb7
        have HCV3 : Hid (∀ W, Below wc.heap.size wc W → (convert 34 9 v10).run Try.prog W = .ok (.string t) W) := fun W hW => HCV2.out W (on_trans hb7 hW)
        clear HCV2 hb7
        go_upto_region 8 with (fail)
        obtain ⟨ps, hps⟩ : ∃ x, Hid (x = hparts (s :: own)) := ⟨_, rfl⟩
        obtain ⟨pt, hpt⟩ : ∃ x, Hid (x = hparts (t :: own)) := ⟨_, rfl⟩
        have hn1 : (U ps != U pt) = true := by
          rw [U_bne, bne_iff_ne, hps.out, hpt.out]; exact fun e => hparts_ne s t own hts hne e.symm
        have hsS : Hid (∀ x ∈ s :: own, x.size ≤ 9223372036854775807) := by
          intro x hx
          rcases List.mem_cons.1 hx with rfl | hx
          · omega
          · exact hso.out x hx
        have hsT : Hid (∀ x ∈ t :: own, x.size ≤ 9223372036854775807) := by
          intro x hx
          rcases List.mem_cons.1 hx with rfl | hx
          · omega
          · exact hso.out x hx
        have hown' := Lib.hid hown
        clear hown
        refine wp_region_facts (fun i v w => match i with
          | 0 => v = .string s | 1 => ∃ b, v = .slice (some ⟨b, 0, none⟩) 1 1 ∧ b < w.heap.size ∧ w.cell? ⟨b, 0, none⟩ = some (.string s) | 2 => v = u11 | 3 => StrsA w v (s :: own) | 4 => v = .int .u64 (U ps)
          | 5 => v = v10 | 6 => v = .string t | 7 => ∃ b, v = .slice (some ⟨b, 0, none⟩) 1 1 ∧ b < w.heap.size ∧ w.cell? ⟨b, 0, none⟩ = some (.string t) | 8 => v = u11 | 9 => StrsA w v (t :: own) | 10 => v = .int .u64 (U pt)
          | _ => v = .bool true)
          (by kernel_rfl) (by kernel_rfl) (by decide +kernel) (by kernel_rfl) ?_ ?_ ?_
        · intro i v w w' h hb
          rcases i with _ | _ | _ | _ | _ | _ | _ | _ | _ | _ | _ | i
          · exact h
          · obtain ⟨b, h1, h2, h3⟩ := h
            exact ⟨b, h1, Nat.lt_of_lt_of_le h2 hb.size, (hb.cell (p := ⟨b, 0, none⟩) h2).trans h3⟩
          · exact h
          · exact StrsA.on h hb
          · exact h
          · exact h
          · exact h
          · obtain ⟨b, h1, h2, h3⟩ := h
            exact ⟨b, h1, Nat.lt_of_lt_of_le h2 hb.size, (hb.cell (p := ⟨b, 0, none⟩) h2).trans h3⟩
          · exact h
          · exact StrsA.on h hb
          · exact h
          · exact h
        · intro i
          rcases i with _ | _ | _ | _ | _ | _ | _ | _ | _ | _ | _ | _ | _ | _ | _ | _ | i
          all_goals intro o ho a wa hba hout hsz hpre
          all_goals cases ho
          all_goals have q0 : a.tmps.getD 0 undef = .string s := (hout 0 (by decide +kernel)).trans rfl
          all_goals have q10 : a.tmps.getD 10 undef = v10 := (hout 10 (by decide +kernel)).trans rfl
          all_goals have q11 : a.tmps.getD 11 undef = u11 := (hout 11 (by decide +kernel)).trans rfl
          all_goals clear hout hsz
          · exact step_move rfl (met_none rfl) (.inl rfl) ⟨_, rfl, Below.refl _ _, q0⟩
          · have p0 : a.tmps.getD 54 undef = .string s := hpre ⟨0, .data⟩ (by simp) rfl _ rfl
            clear hpre
            exact step_build1 rfl (met_none rfl) rfl p0 (build1 wa s) ⟨_, rfl, (Below.refl _ _).alloc (Nat.le_refl _) _, _, rfl, by simp, build1_cell wa s⟩
          · exact step_move rfl (met_none rfl) (.inl rfl) ⟨_, rfl, Below.refl _ _, q11⟩
          · obtain ⟨b, h1, h2, h3⟩ : ∃ b, a.tmps.getD 55 undef = .slice (some ⟨b, 0, none⟩) 1 1 ∧ b < wa.heap.size ∧ wa.cell? ⟨b, 0, none⟩ = some (.string s) := hpre ⟨1, .data⟩ (by simp) rfl _ rfl
            have p2 : a.tmps.getD 56 undef = u11 := hpre ⟨2, .data⟩ (by simp) rfl _ rfl
            clear hpre
            exact step_app1 rfl rfl rfl h1 h2 h3 p2 (hown'.out.on hba) hlo (fun v' w' hs hb => ⟨_, rfl, hb, hs⟩)
          · have p3 : StrsA wa (a.tmps.getD 57 undef) (s :: own) := hpre ⟨3, .data⟩ (by simp) rfl _ rfl
            clear hpre
            refine step_call rfl (met_none rfl) _ (args1 rfl) (Try.call23 _ _) ((parts_any _ (s :: own) _ p3.strs hsS).mono ?_)
            rintro e w' ⟨rfl, hb⟩
            exact ⟨_, rfl, _, rfl, hb, congrArg (fun x => Value.int .u64 (U x)) hps.out.symm⟩
          · exact step_move rfl (met_none rfl) (.inl rfl) ⟨_, rfl, Below.refl _ _, q10⟩
          · have p5 : a.tmps.getD 59 undef = v10 := hpre ⟨5, .data⟩ (by simp) rfl _ rfl
            clear hpre
            refine step_conv rfl (met_none rfl) rfl (v := .string t) (w' := wa) ?_ ⟨_, rfl, Below.refl _ _, rfl⟩
            rw [show a.eval (.tmp 59) = v10 from p5]
            exact HCV3.out wa hba
          · have p6 : a.tmps.getD 60 undef = .string t := hpre ⟨6, .data⟩ (by simp) rfl _ rfl
            clear hpre
            exact step_build1 rfl (met_none rfl) rfl p6 (build1 wa t) ⟨_, rfl, (Below.refl _ _).alloc (Nat.le_refl _) _, _, rfl, by simp, build1_cell wa t⟩
          · exact step_move rfl (met_none rfl) (.inl rfl) ⟨_, rfl, Below.refl _ _, q11⟩
          · obtain ⟨b, h1, h2, h3⟩ : ∃ b, a.tmps.getD 61 undef = .slice (some ⟨b, 0, none⟩) 1 1 ∧ b < wa.heap.size ∧ wa.cell? ⟨b, 0, none⟩ = some (.string t) := hpre ⟨7, .data⟩ (by simp) rfl _ rfl
            have p8 : a.tmps.getD 62 undef = u11 := hpre ⟨8, .data⟩ (by simp) rfl _ rfl
            clear hpre
            exact step_app1 rfl rfl rfl h1 h2 h3 p8 (hown'.out.on hba) hlo (fun v' w' hs hb => ⟨_, rfl, hb, hs⟩)
          · have p9 : StrsA wa (a.tmps.getD 63 undef) (t :: own) := hpre ⟨9, .data⟩ (by simp) rfl _ rfl
            clear hpre
            refine step_call rfl (met_none rfl) _ (args1 rfl) (Try.call23 _ _) ((parts_any _ (t :: own) _ p9.strs hsT).mono ?_)
            rintro e w' ⟨rfl, hb⟩
            exact ⟨_, rfl, _, rfl, hb, congrArg (fun x => Value.int .u64 (U x)) hpt.out.symm⟩
          · have p4 : a.tmps.getD 58 undef = .int .u64 (U ps) := hpre ⟨4, .data⟩ (by simp) rfl _ rfl
            have p10 : a.tmps.getD 64 undef = .int .u64 (U pt) := hpre ⟨10, .data⟩ (by simp) rfl _ rfl
            clear hpre
            exact step_neq rfl (met_none rfl) rfl p4 p10 ⟨_, rfl, Below.refl _ _, congrArg Value.bool hn1⟩
          · have p11 : a.tmps.getD 65 undef = .bool true := hpre ⟨11, .data⟩ (by simp) rfl _ rfl
            exact step_move rfl (met_none rfl) (.inl rfl) ⟨_, rfl, Below.refl _ _, p11⟩
          · have p12 : a.tmps.getD 66 undef = .bool true := hpre ⟨12, .guard⟩ (by simp) rfl _ rfl
            clear hpre
            refine step_call (xs := #[]) rfl (met_some rfl rfl rfl p12) #[] (by simp) (Try.call14 _ _) ((awake_any _).mono ?_)
            rintro e w' ⟨rfl, hb⟩
            exact ⟨_, rfl, _, rfl, hb, rfl⟩
          · have p12 : a.tmps.getD 66 undef = .bool true := hpre ⟨12, .data⟩ (by simp) rfl _ rfl
            have p13 : a.tmps.getD 67 undef = .bool true := hpre ⟨13, .data⟩ (by simp) rfl _ rfl
            clear hpre
            exact step_pick rfl (met_none rfl) rfl p12 ⟨_, rfl, Below.refl _ _, p13⟩
          · have p14 : a.tmps.getD 68 undef = .bool true := hpre ⟨14, .data⟩ (by simp) rfl _ rfl
            exact step_move rfl (met_none rfl) (.inr rfl) ⟨_, rfl, Below.refl _ _, p14⟩
        · intro a wa hba hF ha
          have f15 : a.tmps.getD 8 undef = .bool true := hF 15 _ rfl
          clear hF
          simp only [List.foldl, fillFrom, f15] at ha
          clear f15
          generalize a.tmps.getD 54 undef = x54, a.tmps.getD 55 undef = x55, a.tmps.getD 56 undef = x56, a.tmps.getD 57 undef = x57, a.tmps.getD 58 undef = x58, a.tmps.getD 59 undef = x59, a.tmps.getD 60 undef = x60, a.tmps.getD 61 undef = x61, a.tmps.getD 62 undef = x62, a.tmps.getD 63 undef = x63, a.tmps.getD 64 undef = x64, a.tmps.getD 65 undef = x65, a.tmps.getD 66 undef = x66, a.tmps.getD 67 undef = x67, a.tmps.getD 68 undef = x68 at ha
          subst ha
          simp only [Act.put, List.setIfInBounds_toArray, List.set_cons_succ, List.set_cons_zero]
          replace hbW := on_trans hbW hba
          clear hba
          go_wp2_with fail
          go_ret
          exact ⟨rfl, hbW⟩
end Go.Proofs.Ytennohgmenjaaaa
