/- The walk of the law LineWrong. -/
import Derived.Test.YtiapkindbbbdpaaDoorRK
namespace Go.Proofs.YtiapkindbbbdpaaDoor
open Go.RowKit
set_option linter.unusedVariables false

theorem mrow_take {W : World} {a : Option Addr} {c : Nat} {Ls : List (List Wd)} (h : MRow W (.slice a Ls.length c) Ls) (k : Nat) (hk : k ≤ Ls.length) : MRow W (.slice a k c) (Ls.take k) := by
  have hl : (Ls.take k).length = k := by rw [List.length_take]; omega
  rcases h with ⟨h1, h2⟩ | ⟨b, off, cap, h1, h2, h3, h4, h5⟩
  · subst h2
    obtain ⟨rfl, _, rfl⟩ := (Value.slice.injEq ..).mp h1
    obtain rfl : k = 0 := by simpa using hk
    exact .inl ⟨rfl, rfl⟩
  · obtain ⟨rfl, _, rfl⟩ := (Value.slice.injEq ..).mp h1
    refine .inr ⟨b, off, c, by rw [hl], h2, by omega, h4, fun i hi => ?_⟩
    rw [hl] at hi
    obtain ⟨vi, x, y⟩ := h5 i (by omega)
    exact ⟨vi, x, by rw [List.getElem_take]; exact y⟩
theorem size_of_list (a : ByteArray) : a.data.toList.length = a.size := by rw [Array.length_toList]; rfl
theorem formS_len (b : List UInt8) (j : Nat) (h : b.length ≤ 5) : (formS b j).length ≤ 20 := by
  unfold formS
  by_cases h0 : j = 0
  · rw [if_pos h0]; omega
  · rw [if_neg h0]
    by_cases h1 : j = 1
    · rw [if_pos h1]; simp; omega
    · rw [if_neg h1]; simp; omega
theorem formB (B : ByteArray) (j : Nat) : (if j = 0 then B else if j = 1 then ⟨#[120, 32]⟩ ++ B else ⟨#[34, 121, 34, 9]⟩ ++ B ++ ⟨#[32, 122]⟩).data.toList = formS B.data.toList j := by
  unfold formS
  by_cases h0 : j = 0
  · rw [if_pos h0, if_pos h0]
  · rw [if_neg h0, if_neg h0]
    by_cases h1 : j = 1
    · rw [if_pos h1, if_pos h1]; simp
    · rw [if_neg h1, if_neg h1]; simp
def badB (r : Nat) : ByteArray := ⟨(badT r).toArray⟩
theorem badB_size (r : Nat) (hr : r < 6) : (badB r).size ≤ 5 := by unfold badB; rw [ba_size]; exact bad_len r hr
theorem u8_bd {a : Int} (w : (Lit.int .u8 a).wf = true) : 0 ≤ a ∧ a < 256 := by
  have := w
  simp [Lit.wf, IntKind.min, IntKind.max, IntKind.signed, IntKind.bits] at this
  omega
theorem wd_mk {W : World} {n : Nat} {t : List UInt8} {q : Bool} (p : Wd) (hn : n = W.heap.size) (hp : p = (t, q)) : WdAt (W.alloc (.cells #[.string ⟨t.toArray⟩, .bool q] 31)) n ⟨p.1.toArray⟩ p.2 := by
  subst hn hp
  exact wd_new W ⟨t.toArray⟩ q
set_option maxRecDepth 100000 in
set_option maxHeartbeats 8000000 in
theorem wrong_any (v : Value) (q way at' : Int) (rows : List (List ByteArray)) (hw0 : 0 ≤ way) (hw1 : way < 256) (ha0 : 0 ≤ at') (ha1 : at' < 256) (w : World) (hv : SRows w v rows) (hG : Glb2 w) :
    Calls Tryd.prog 7 #[v, .int .u16 q, .int .u8 way, .int .u8 at'] w fun e w' => e = .returned (.bool true) ∧ Below w.heap.size w w' := by
  replace hG := Lib.hid (fun (W : World) (h : Below w.heap.size w W) => hG.on h)
  replace hv := Lib.hid hv
  obtain ⟨r, hr⟩ : ∃ r : Nat, way % 6 = (r : Int) := ⟨(way % 6).toNat, by omega⟩
  have hr6 : r < 6 := by omega
  go_enter Tryd.func7, Tryd.ntmps7
  go_wp2_with fail
  refine (awake_any w (hG.out _ (Below.refl _ _)).1).mono ?_; rintro y w1 ⟨rfl, hb⟩
  have hB := Lib.hid hb
  have hmd := Lib.hid (made_any v q rows w1 (hv.out.on hb) (hG.out _ hB.out).2)
  clear hb hv
  go_wp2_with fail
  refine (hmd.out).mono ?_; rintro y w2 ⟨⟨v9, Ls, rfl, hM, hLn, hok⟩, hb⟩
  obtain ⟨a9, c9, rfl⟩ := hM.shape
  replace hB := Lib.hid (hB.out.trans (hb.mono hB.out.size))
  have hl10 : Ls.length ≤ 10 := by omega
  obtain ⟨k, hk⟩ : ∃ k : Nat, at' % ((Ls.length : Int) + 1) = (k : Int) := ⟨(at' % ((Ls.length : Int) + 1)).toNat, by have := Int.emod_nonneg at' (show ((Ls.length : Int) + 1) ≠ 0 by omega); omega⟩
  have hkl : k ≤ Ls.length := by have := Int.emod_lt_of_pos at' (show 0 < ((Ls.length : Int) + 1) by omega); omega
  have hcap : Ls.length ≤ c9 := by
    rcases hM with ⟨h1, h2⟩ | ⟨b, off, cap, h1, h2, h3, h4, h5⟩
    · rw [h2]; exact Nat.zero_le _
    · obtain ⟨_, _, rfl⟩ := (Value.slice.injEq ..).mp h1; exact h3
  replace hok := Lib.hid hok
  have hokT := Lib.hid (okTake hok.out k)
  have hTl : Hid ((Ls.take k).length = k) := Lib.hid (by rw [List.length_take]; omega)
  have hwr := Lib.hid (write_to _ (Ls.take k) (ok_bounds hokT.out) (by rw [hTl.out]; omega) _ _ _ (writeF_ok _ hokT.out (by rw [hTl.out]; omega)) w2 (mrow_take hM k hkl))
  replace hM := Lib.hid hM
  clear hmd hb hLn
  go_wp2_with fail
  refine (hwr.out).mono ?_; rintro y w3 ⟨rfl, hb⟩
  replace hB := Lib.hid (hB.out.trans (hb.mono hB.out.size))
  replace hM := Lib.hid (hM.out.on hb)
  obtain ⟨T, hT⟩ : ∃ T : ByteArray, Hid (⟨(textW (Ls.take k)).toArray⟩ = T) := ⟨_, Lib.hid rfl⟩
  have hTd : Hid (T.data.toList = textW (Ls.take k)) := by show _ = _; rw [← hT.out]
  have hTz : T.size ≤ 9000 := by
    rw [← hT.out, ba_size]
    have := textW_len _ hokT.out
    rw [hTl.out] at this
    omega
  rw [hT.out]
  clear hwr hb hT
  go_upto_region 8 with (fail)
  clear hk
  go_cut [14] (fun s14 wx => s14 = .string (badB r) ∧ Hid (Below w3.heap.size w3 wx))
  case first =>
    have hal := (Below.refl w3.heap.size w3).alloc (Nat.le_refl _) (.cells #[.string ⟨#[97, 34, 98]⟩, .string ⟨#[34, 97]⟩, .string ⟨#[34, 97, 92, 120, 34]⟩, .string ⟨#[34, 97, 34, 98]⟩, .string ⟨#[255]⟩, .string ⟨#[34, 255, 34]⟩] 9)
    replace hal := Lib.hid hal
    rcases (by omega : r = 0 ∨ r = 1 ∨ r = 2 ∨ r = 3 ∨ r = 4 ∨ r = 5) with rfl | rfl | rfl | rfl | rfl | rfl
    all_goals
      go_wp2_with fail
      go_meet
      exact ⟨rfl, hal⟩
  case rest =>
    obtain ⟨rfl, hb⟩ := hcut
    replace hB := Lib.hid (hB.out.trans (hb.out.mono hB.out.size))
    replace hM := Lib.hid (hM.out.on hb.out)
    clear hb
    go_upto_region 9 with (fail)
    obtain ⟨w4, hw4⟩ : ∃ w4 : World, w4 = wc := ⟨_, rfl⟩
    subst hw4
    go_cut [15] (fun s15 wx => s15 = .int .i64 (wantT r) ∧ Hid (Below w4.heap.size w4 wx))
    case first =>
      have hal := (Below.refl w4.heap.size w4).alloc (Nat.le_refl _) (.cells #[.int .i64 250, .int .i64 251, .int .i64 251, .int .i64 252, .int .i64 250, .int .i64 251] 25)
      replace hal := Lib.hid hal
      rcases (by omega : r = 0 ∨ r = 1 ∨ r = 2 ∨ r = 3 ∨ r = 4 ∨ r = 5) with rfl | rfl | rfl | rfl | rfl | rfl
      all_goals
        go_wp2_with fail
        go_meet
        exact ⟨rfl, hal⟩
    case rest =>
      obtain ⟨rfl, hb⟩ := hcut
      replace hB := Lib.hid (hB.out.trans (hb.out.mono hB.out.size))
      replace hM := Lib.hid (hM.out.on hb.out)
      clear hb
      obtain ⟨w5, hw5⟩ : ∃ w5 : World, w5 = wc := ⟨_, rfl⟩
      subst hw5
      have hbz := badB_size r hr6
      have hne := Lib.hid (want_ne r hr6)
      have hbd : Hid ((badB r).data.toList = badT r) := Lib.hid rfl
      obtain ⟨B, hBq⟩ : ∃ B, Hid (badB r = B) := ⟨_, Lib.hid rfl⟩
      obtain ⟨e, he⟩ : ∃ e, Hid (wantT r = e) := ⟨_, Lib.hid rfl⟩
      rw [hBq.out] at hbd hbz ⊢
      rw [he.out] at hne ⊢
      go_upto_region 11 with (fail)
      obtain ⟨E, hE, hEd⟩ : ∃ E : Nat → ByteArray, Hid (∀ j, j < 3 → (w5.alloc (.cells #[.string B, .string (⟨#[120, 32]⟩ ++ B), .string (⟨#[34, 121, 34, 9]⟩ ++ B ++ ⟨#[32, 122]⟩)] 9)).cell? ⟨w5.heap.size, j, none⟩ = some (.string (E j))) ∧ Hid (∀ j, (E j).data.toList = formS (badT r) j) := by
        refine ⟨fun j => if j = 0 then B else if j = 1 then ⟨#[120, 32]⟩ ++ B else ⟨#[34, 121, 34, 9]⟩ ++ B ++ ⟨#[32, 122]⟩, Lib.hid (fun j hj => ?_), Lib.hid (fun j => ?_)⟩
        · rw [Lib.cell_of_heap (World.alloc_heap_new _ _)]
          rcases (by omega : j = 0 ∨ j = 1 ∨ j = 2) with rfl | rfl | rfl <;> rfl
        · rw [← hbd.out]; exact formB B j
      have hN5 : Hid (w5.heap.size < (w5.alloc (.cells #[.string B, .string (⟨#[120, 32]⟩ ++ B), .string (⟨#[34, 121, 34, 9]⟩ ++ B ++ ⟨#[32, 122]⟩)] 9)).heap.size) := by show _ < _; simp
      replace hB := Lib.hid (hB.out.alloc hB.out.size (.cells #[.string B, .string (⟨#[120, 32]⟩ ++ B), .string (⟨#[34, 121, 34, 9]⟩ ++ B ++ ⟨#[32, 122]⟩)] 9))
      replace hM := Lib.hid (hM.out.on ((Below.refl w5.heap.size w5).alloc (Nat.le_refl _) (.cells #[.string B, .string (⟨#[120, 32]⟩ ++ B), .string (⟨#[34, 121, 34, 9]⟩ ++ B ++ ⟨#[32, 122]⟩)] 9)))
      generalize w5.alloc (.cells #[.string B, .string (⟨#[120, 32]⟩ ++ B), .string (⟨#[34, 121, 34, 9]⟩ ++ B ++ ⟨#[32, 122]⟩)] 9) = W5 at hE hN5 hB hM ⊢
      generalize w5.heap.size = N5 at hE hN5 ⊢
      go_loopg [74] 4 (fun g s74 wx => ∃ j : Nat, j + g = 4 ∧ 1 ≤ g ∧ s74 = .int .i64 j ∧ Hid (Below W5.heap.size W5 wx))
      case atStart => exact ⟨0, by omega, by omega, rfl, Lib.hid (Below.refl _ _)⟩
      case round =>
        obtain ⟨j, hj, hg1, rfl, B5⟩ := hrel
        by_cases hj3 : j < 3
        · have t2 : decide ((j : Int) < 3) = true := decide_eq_true (by omega)
          have y0 := (B5.out.cell (p := ⟨N5, j, none⟩) hN5.out).trans (hE.out j hj3)
          have hd := hEd.out j
          generalize E j = s at y0 hd
          have hsl : s.size ≤ 20 := by
            rw [← size_of_list s, hd]
            have h5 := bad_len r hr6
            exact formS_len _ j h5
          have hsc := split_any s wr
          rw [hd, bad_split r j hr6 hj3, he.out] at hsc
          replace hsc := Lib.hid hsc
          have hpp : parseF (T ++ s ++ ⟨#[10, 34]⟩ : ByteArray).data.toList = (e, k + 1, []) := by
            have h1 := wrong_parse _ hokT.out (by rw [hTl.out]; omega) r j hr6 hj3
            rw [hTl.out, he.out, ← hTd.out, ← hd] at h1
            rw [← h1]
            congr 1
          have p1 : (T ++ s).size ≤ 10000 := by rw [ByteArray.size_append]; omega
          have hpc0 := fun (w' : World) hm => parse_to _ e (k + 1) [] hpp w' hm
          rw [show ((k + 1 : Nat) : Int) = (k : Int) + 1 from rfl] at hpc0
          replace hpc0 := Lib.hid hpc0
          clear hd hpp
          go_wp2_with fail
          refine (hsc.out).mono ?_; rintro y w6 ⟨⟨v6, rfl, hv6⟩, hb⟩
          obtain ⟨a6, c6, rfl⟩ := own_shape hv6
          replace B5 := Lib.hid (B5.out.trans (hb.mono B5.out.size))
          have hpc := Lib.hid (hpc0.out w6 (hG.out _ (hB.out.trans (B5.out.mono hB.out.size))).1.1)
          simp only [List.length_nil]
          clear hsc hb hv6 y0 hpc0
          go_wp2_with fail
          refine (hpc.out).mono ?_; rintro y w7 ⟨⟨v7, rfl, hL⟩, hb⟩
          obtain ⟨a7, c7, rfl⟩ := hL.shape
          replace B5 := Lib.hid (B5.out.trans (hb.mono B5.out.size))
          simp only [List.length_nil]
          clear hpc hb hL p1
          go_wp2_with fail
          go_roundg (4 - (j + 1))
          case measure => omega
          case rel => exact ⟨j + 1, by omega, by omega, by go_num, B5⟩
        · obtain rfl : j = 3 := by omega
          replace hB := Lib.hid (hB.out.trans (B5.out.mono hB.out.size))
          replace hM := Lib.hid (hM.out.on B5.out)
          have hcc : Hid (splitF (⟨#[120, 32, 35]⟩ ++ B : ByteArray).data.toList = (0, [([120], false)])) := by
            have h1 := bad_comment r hr6
            rw [← hbd.out] at h1
            show _ = _
            rw [← h1]
            congr 1
          have hsc := split_any (⟨#[120, 32, 35]⟩ ++ B) wr
          rw [hcc.out] at hsc
          replace hsc := Lib.hid hsc
          clear hcc hE hEd hN5 hj hg1 B5 hbd
          go_wp2_with fail
          refine (hsc.out).mono ?_; rintro y w6 ⟨⟨v6, rfl, hv6⟩, hb⟩
          obtain ⟨a6, c6, rfl⟩ := own_shape hv6
          replace hB := Lib.hid (hB.out.trans (hb.mono hB.out.size))
          replace hM := Lib.hid (hM.out.on hb)
          simp only [List.length_cons, List.length_nil]
          clear hsc hb hv6
          go_upto_region 21 with (fail)
          obtain ⟨w8, hw8⟩ : ∃ w8 : World, w8 = w6 := ⟨_, rfl⟩
          subst hw8
          clear hne
          go_cut [25] (fun s25 wx => ∃ N, s25 = .pointer (some ⟨N, 0, none⟩) ∧ Hid (WdAt wx N ⟨(wrongT r).1.toArray⟩ (wrongT r).2) ∧ Hid (Below w8.heap.size w8 wx))
          case first =>
            have hal := (Below.refl w8.heap.size w8).alloc (Nat.le_refl _) (.cells #[.string ⟨#[]⟩, .bool false, .string ⟨#[97, 32, 98]⟩, .bool false, .string ⟨#[255]⟩, .bool false, .string ⟨#[255]⟩, .bool true, .string ⟨#[35]⟩, .bool false, .string ⟨#[127]⟩, .bool false] 31)
            rcases (by omega : r = 0 ∨ r = 1 ∨ r = 2 ∨ r = 3 ∨ r = 4 ∨ r = 5) with rfl | rfl | rfl | rfl | rfl | rfl
            all_goals
              go_wp2_with fail
              go_meet
              exact ⟨_, rfl, Lib.hid (wd_mk _ (by simp) (by decide)), Lib.hid (hal.alloc (by simp) _)⟩
          case rest =>
            obtain ⟨N, rfl, hN, hb⟩ := hcut
            replace hB := Lib.hid (hB.out.trans (hb.out.mono hB.out.size))
            replace hM := Lib.hid (hM.out.on hb.out)
            clear hb
            have hno := Lib.hid (wrong_no r hr6)
            have hpl := wrong_len r hr6
            obtain ⟨p, hp⟩ : ∃ p, wrongT r = p := ⟨_, rfl⟩
            rw [hp] at hN hno hpl
            obtain ⟨t, q2⟩ := p
            replace hpl : t.length ≤ 5 := hpl
            obtain ⟨⟨hl0, hl1⟩, -⟩ := hN.out.cells
            have hjn := Lib.hid (fun (W : World) v h => join_any v [(([97] : List UInt8), false), (t, q2)] (by simp) 250 [] (by intro p hp; simp at hp; rcases hp with rfl | rfl <;> simp; omega) (wrong_join2 _ hno.out) W h)
            clear hp
            go_upto_region 22 with (fail)
            go_wp2_with fail
            refine (hjn.out _ _ (wrow_lit _ [([97], false), (t, q2)] 2 rfl (by decide))).mono ?_; rintro y w9 ⟨rfl, hb9⟩
            have hbx : Below wc.heap.size wc w9 := Below.trans ((Below.refl _ _).alloc (Nat.le_refl _) _) (hb9.mono (by simp))
            replace hB := Lib.hid (hB.out.trans (hbx.mono hB.out.size))
            replace hM := Lib.hid (hM.out.on hbx)
            replace hN := Lib.hid (hN.out.block hbx)
            clear hjn hb9 hbx hl0 hl1
            go_upto_region 23 with (fail)
            obtain ⟨A, hA1, hA2, hA3⟩ := mrow_list hM.out
            have hAl : A.length = Ls.length := by rw [← hA1, List.length_map]
            have hTk : (A.take k).map (·.1) = Ls.take k := by rw [← hA1, List.map_take]
            have hDk : (A.drop k).map (·.1) = Ls.drop k := by rw [← hA1, List.map_drop]
            have hpk : ((A.take k).map (·.2)).length = k := by rw [List.length_map, List.length_take]; omega
            have hqk : ((A.drop k).map (·.2)).length = Ls.length - k := by rw [List.length_map, List.length_drop]; omega
            have h3 := Lib.hid (fun W => run_hi a9 Ls.length c9 k (by omega) W)
            have h11 := Lib.hid (fun W => run_lo a9 Ls.length c9 k hkl hcap W)
            have hr3 : Hid (Row w9 (.slice a9 k c9) ((A.take k).map (·.2))) := by
              have := row_take (m := k) hA2 hkl
              rw [← List.map_take] at this
              exact this
            have hr11 : Hid (Row w9 (.slice (if c9 = k then a9 else a9.map (·.add k)) (Ls.length - k) (c9 - k)) ((A.drop k).map (·.2))) := by
              have hl : (A.map (·.2)).length = Ls.length := by rw [List.length_map]; exact hAl
              have := row_drop (W := w9) (a := a9) (c := c9) (xs := A.map (·.2)) k (by rw [hl]; exact hA2) (by rw [hl]; exact hkl)
              rw [hl, ← List.map_drop] at this
              exact this
            obtain ⟨u11, hu11⟩ : ∃ u, u = Value.slice (if c9 = k then a9 else a9.map (·.add k)) (Ls.length - k) (c9 - k) := ⟨_, rfl⟩
            rw [← hu11] at h11 hr11
            clear hu11
            have hTw : ∀ x ∈ A.take k, WRow w9 x.2 x.1 := fun x hx => hA3 x (List.mem_of_mem_take hx)
            have hDw : ∀ x ∈ A.drop k, WRow w9 x.2 x.1 := fun x hx => hA3 x (List.mem_of_mem_drop hx)
            have hc23 : ∀ v w, (callFunc 23 #[v]).run Tryd.prog w = .ok (.enter 23 #[v]) w := fun v w => enters_of Tryd.func23 (by kernel_rfl) rfl _ _
            have hW : writeF (Ls.take k ++ [[(t, q2)]] ++ Ls.drop k) = (250, (k : Int), []) := by
              have := writeF_bad (Ls.take k) (Ls.drop k) (t, q2) hno.out hokT.out
              rw [hTl.out] at this
              exact this
            have hbs : ∀ ws ∈ Ls.take k ++ [[(t, q2)]] ++ Ls.drop k, ws.length ≤ 1000 ∧ ∀ p ∈ ws, p.1.length ≤ 100000 := by
              intro ws hws
              rw [List.append_assoc, List.mem_append, List.mem_append] at hws
              rcases hws with h | h | h
              · exact ok_bounds hok.out ws (List.mem_of_mem_take h)
              · obtain rfl := List.mem_singleton.1 h
                refine ⟨by simp, fun p hp => ?_⟩
                obtain rfl := List.mem_singleton.1 hp
                show t.length ≤ 100000; omega
              · exact ok_bounds hok.out ws (List.mem_of_mem_drop h)
            have hLl : (Ls.take k ++ [[(t, q2)]] ++ Ls.drop k).length ≤ 1000000 := by
              simp only [List.length_append, List.length_take, List.length_drop, List.length_cons, List.length_nil]; omega
            clear hA1 hA2 hA3
            refine wp_region_rows (fun j => ([[], [], [], [1, 2], [0, 3], [], [5], [6], [4, 7], [], [], [9, 10], [8, 11], [12], [13], [14], [14], [14], [15], [16], [17]] : List (List Nat)).getD j []) [18, 19, 20] [0, 4, 6, 7, 8, 12] [8, 12]
              (XF w9 ⟨t.toArray⟩ q2 k (.slice a9 Ls.length c9) (.slice a9 k c9) u11 ((A.take k).map (·.2)) (Ls.take k ++ [[(t, q2)]] ++ Ls.drop k))
              (by kernel_rfl) (by kernel_rfl) (by decide +kernel) (by kernel_rfl) (by decide +kernel) (fun j hj => by rw [List.getD_eq_getElem?_getD, List.getElem?_eq_none (show 21 ≤ j from hj)]; rfl) (by decide +kernel) ?_ ?_ ?_ ?_
            · intro i v w w' h hb
              rcases i with _ | _ | _ | _ | _ | _ | _ | _ | _ | _ | _ | _ | _ | _ | _ | _ | _ | _ | _ | _ | _ | i
              all_goals first | exact h | exact owns_on h hb | exact Row.on h hb | exact BW.on h hb | exact MRow.on h hb | exact ⟨h.choose, h.choose_spec.1, owns_on h.choose_spec.2 hb⟩ | exact ⟨h.choose, Row.on h.choose_spec.1 hb, h.choose_spec.2.on hb⟩ | exact ⟨h.choose, owns_on h.choose_spec.1 hb, h.choose_spec.2.on hb⟩
            · intro i v w w' hf _ h _
              rcases i with _ | _ | _ | _ | _ | _ | _ | _ | _ | _ | _ | _ | _ | _ | _ | _ | _ | _ | _ | _ | _ | i
              all_goals first | exact h | (exfalso; revert hf; decide)
            · intro i
              rcases i with _ | _ | _ | _ | _ | _ | _ | _ | _ | _ | _ | _ | _ | _ | _ | _ | _ | _ | _ | _ | _ | i
              all_goals intro o ho a wa hba hout hpre
              all_goals cases ho
              all_goals have q9 : a.tmps.getD 9 undef = .slice a9 Ls.length c9 := (hout 9 (by decide +kernel)).trans rfl
              all_goals have q10 : a.tmps.getD 10 undef = .int .i64 k := (hout 10 (by decide +kernel)).trans rfl
              all_goals have q25 : a.tmps.getD 25 undef = .pointer (some ⟨N, 0, none⟩) := (hout 25 (by decide +kernel)).trans rfl
              all_goals clear hout
              · exact step_build0 rfl (met_none rfl) rfl (run_b0 wa) ⟨_, rfl, (Below.refl _ _).alloc (Nat.le_refl _) _, _, rfl, World.ownsRow_lit wa #[] 0 hba.size (by unfold maxLen; omega) rfl⟩
              · exact step_move rfl (met_none rfl) (.inl rfl) ⟨_, rfl, Below.refl _ _, q9⟩
              · exact step_move rfl (met_none rfl) (.inl rfl) ⟨_, rfl, Below.refl _ _, q10⟩
              · have p1 : a.tmps.getD 148 undef = .slice a9 Ls.length c9 := hpre 1 (by simp) _ rfl
                have p2 : a.tmps.getD 149 undef = .int .i64 k := hpre 2 (by simp) _ rfl
                exact step_slice_hi rfl (met_none rfl) rfl p1 p2 (h3.out wa) ⟨_, rfl, Below.refl _ _, rfl⟩
              · obtain ⟨b, p1, p2⟩ : ∃ b, a.tmps.getD 147 undef = .slice (some ⟨b, 0, none⟩) 0 0 ∧ wa.ownsRow w9.heap.size 36 1 (a.tmps.getD 147 undef) 0 [] := hpre 0 (by simp) _ rfl
                have p3 : a.tmps.getD 150 undef = .slice a9 k c9 := hpre 3 (by simp) _ rfl
                rw [p1] at p2
                refine step_app_new (z := .slice none 0 0) (bytes := 24) rfl rfl rfl Tryd.underlying42 info36 rfl _ ((A.take k).map (·.2)) p1 p2 p3 (hr3.out.on hba) (one_wr hTw) (by omega) (by omega) hba.size ?_
                intro v' w' g1 g2
                exact ⟨_, rfl, g2, by rw [hpk] at g1; exact g1⟩
              · exact step_load rfl (met_none rfl) rfl q25 (run_ld wa N ⟨t.toArray⟩ q2 (hN.out.block hba) _ _) ⟨_, rfl, Below.refl _ _, rfl⟩
              · have p1 : a.tmps.getD 152 undef = .agg #[.string ⟨t.toArray⟩, .bool q2] := hpre 5 (by simp) _ rfl
                exact step_build1 rfl (met_none rfl) rfl p1 (run_b1 wa ⟨t.toArray⟩ q2) ⟨_, rfl, (Below.refl _ _).alloc (Nat.le_refl _) _, _, rfl, wd_new _ _ _⟩
              · obtain ⟨b, p1, p2⟩ : BW ⟨t.toArray⟩ q2 wa (a.tmps.getD 153 undef) := hpre 6 (by simp) _ rfl
                have hbn : Below wa.heap.size wa (wa.alloc (.cells #[.slice (some ⟨b, 0, none⟩) 1 1] 36)) := (Below.refl _ _).alloc (Nat.le_refl _) _
                exact step_build1 rfl (met_none rfl) rfl p1 (run_b2 wa _ 1 1) ⟨_, rfl, hbn, _, row_one wa _ 36, _, rfl, p2.block hbn⟩
              · have p1 : wa.ownsRow w9.heap.size 36 1 (a.tmps.getD 151 undef) k ((A.take k).map (·.2)) := hpre 4 (by simp) _ rfl
                obtain ⟨u, p2, p3⟩ : ∃ u, Row wa (a.tmps.getD 154 undef) [u] ∧ BW ⟨t.toArray⟩ q2 wa u := hpre 7 (by simp) _ rfl
                refine step_app_keep (z := .slice none 0 0) (bytes := 24) rfl rfl rfl Tryd.underlying42 info36 rfl _ _ _ [u] rfl p1 rfl p2 (by obtain ⟨b, rfl, _⟩ := p3; intro c hc; obtain rfl := List.mem_singleton.1 hc; rfl) (by omega) (by simp; omega) hba.size ?_
                intro v' w' g1 g2 g3
                exact ⟨_, rfl, g2, _, g1, p3.keep p1 g3⟩
              · exact step_move rfl (met_none rfl) (.inl rfl) ⟨_, rfl, Below.refl _ _, q9⟩
              · exact step_move rfl (met_none rfl) (.inl rfl) ⟨_, rfl, Below.refl _ _, q10⟩
              · have p1 : a.tmps.getD 156 undef = .slice a9 Ls.length c9 := hpre 9 (by simp) _ rfl
                have p2 : a.tmps.getD 157 undef = .int .i64 k := hpre 10 (by simp) _ rfl
                exact step_slice_lo rfl (met_none rfl) rfl p1 p2 (h11.out wa) ⟨_, rfl, Below.refl _ _, rfl⟩
              · obtain ⟨u, p1, p3⟩ : ∃ u, wa.ownsRow w9.heap.size 36 1 (a.tmps.getD 155 undef) (k + 1) ((A.take k).map (·.2) ++ [u]) ∧ BW ⟨t.toArray⟩ q2 wa u := hpre 8 (by simp) _ rfl
                have p2 : a.tmps.getD 158 undef = u11 := hpre 11 (by simp) _ rfl
                refine step_app_keep (z := .slice none 0 0) (bytes := 24) rfl rfl rfl Tryd.underlying42 info36 rfl _ _ _ ((A.drop k).map (·.2)) rfl p1 p2 (hr11.out.on hba) (one_wr hDw) (by omega) (by omega) hba.size ?_
                intro v' w' g1 g2 g3
                refine ⟨_, rfl, g2, ?_⟩
                have hbw := hba.trans g2
                have hm := mrow_own (W := w') (base := w9.heap.size) (v := v') (A := A.take k ++ [([(t, q2)], u)] ++ A.drop k) ?_ ?_
                · rw [List.map_append, List.map_append, hTk, hDk] at hm
                  exact hm
                · rw [List.map_append, List.map_append]
                  rw [hqk] at g1
                  rw [show (A.take k ++ [([(t, q2)], u)] ++ A.drop k).length = k + 1 + (Ls.length - k) by simp only [List.length_append, List.length_take, List.length_drop, List.length_cons, List.length_nil]; omega]
                  exact g1
                · intro x hx
                  rw [List.append_assoc, List.mem_append, List.mem_append] at hx
                  rcases hx with h | h | h
                  · exact (hTw x h).on hbw
                  · obtain rfl := List.mem_singleton.1 h
                    exact (p3.keep p1 g3).row
                  · exact (hDw x h).on hbw
              · have p1 : MRow wa (a.tmps.getD 159 undef) (Ls.take k ++ [[(t, q2)]] ++ Ls.drop k) := hpre 12 (by simp) _ rfl
                refine step_call rfl (met_none rfl) _ (args1 rfl) (hc23 _ _) ((write_to _ _ hbs hLl _ _ _ hW wa p1).mono ?_)
                rintro e w' ⟨rfl, hb⟩
                exact ⟨_, rfl, _, rfl, hb, rfl⟩
              · have p1 : a.tmps.getD 160 undef = .tuple #[.string ⟨#[]⟩, .int .i64 k, .int .i64 250] := hpre 13 (by simp) _ rfl
                exact step_move rfl (met_none rfl) (.inl rfl) ⟨_, rfl, Below.refl _ _, p1⟩
              · have p1 : a.tmps.getD 146 undef = .tuple #[.string ⟨#[]⟩, .int .i64 k, .int .i64 250] := hpre 14 (by simp) _ rfl
                exact step_extract rfl (met_none rfl) rfl p1 (r := .string ⟨#[]⟩) (by kernel_rfl) ⟨_, rfl, Below.refl _ _, rfl⟩
              · have p1 : a.tmps.getD 146 undef = .tuple #[.string ⟨#[]⟩, .int .i64 k, .int .i64 250] := hpre 14 (by simp) _ rfl
                exact step_extract rfl (met_none rfl) rfl p1 (r := .int .i64 k) (by rfl) ⟨_, rfl, Below.refl _ _, rfl⟩
              · have p1 : a.tmps.getD 146 undef = .tuple #[.string ⟨#[]⟩, .int .i64 k, .int .i64 250] := hpre 14 (by simp) _ rfl
                exact step_extract rfl (met_none rfl) rfl p1 (r := .int .i64 250) (by rfl) ⟨_, rfl, Below.refl _ _, rfl⟩
              · have p1 : a.tmps.getD 161 undef = .string ⟨#[]⟩ := hpre 15 (by simp) _ rfl
                exact step_move rfl (met_none rfl) (.inr rfl) ⟨_, rfl, Below.refl _ _, p1⟩
              · have p1 : a.tmps.getD 162 undef = .int .i64 k := hpre 16 (by simp) _ rfl
                exact step_move rfl (met_none rfl) (.inr rfl) ⟨_, rfl, Below.refl _ _, p1⟩
              · have p1 : a.tmps.getD 163 undef = .int .i64 250 := hpre 17 (by simp) _ rfl
                exact step_move rfl (met_none rfl) (.inr rfl) ⟨_, rfl, Below.refl _ _, p1⟩
            · intro a wa hba hF ha
              have f28 : a.tmps.getD 28 undef = .string ⟨#[]⟩ := hF 18 (by simp) _ rfl
              have f29 : a.tmps.getD 29 undef = .int .i64 k := hF 19 (by simp) _ rfl
              have f30 : a.tmps.getD 30 undef = .int .i64 250 := hF 20 (by simp) _ rfl
              clear hF
              simp only [List.foldl, fillFrom, f28, f29, f30] at ha
              clear f28 f29 f30
              generalize a.tmps.getD 146 undef = z146 at ha
              generalize a.tmps.getD 147 undef = z147 at ha
              generalize a.tmps.getD 148 undef = z148 at ha
              generalize a.tmps.getD 149 undef = z149 at ha
              generalize a.tmps.getD 150 undef = z150 at ha
              generalize a.tmps.getD 151 undef = z151 at ha
              generalize a.tmps.getD 152 undef = z152 at ha
              generalize a.tmps.getD 153 undef = z153 at ha
              generalize a.tmps.getD 154 undef = z154 at ha
              generalize a.tmps.getD 155 undef = z155 at ha
              generalize a.tmps.getD 156 undef = z156 at ha
              generalize a.tmps.getD 157 undef = z157 at ha
              generalize a.tmps.getD 158 undef = z158 at ha
              generalize a.tmps.getD 159 undef = z159 at ha
              generalize a.tmps.getD 160 undef = z160 at ha
              generalize a.tmps.getD 161 undef = z161 at ha
              generalize a.tmps.getD 162 undef = z162 at ha
              generalize a.tmps.getD 163 undef = z163 at ha
              subst ha
              simp only [Act.put, List.setIfInBounds_toArray, List.set_cons_succ, List.set_cons_zero]
              replace hB := Lib.hid (hB.out.trans (hba.mono hB.out.size))
              obtain ⟨⟨hl0, hl1⟩, -⟩ := (hN.out.block hba).cells
              have hrt := Lib.hid (fun W => right_to ⟨t.toArray⟩ q2 (by rw [ba_size]; omega) false hno.out W)
              clear hba h3 h11 hr3 hr11 hc23 hpk hqk hTw hDw hW hbs hLl hM hN hTk hDk hAl
              have hnil : ((⟨#[]⟩ : ByteArray) ++ ⟨#[]⟩).toList = [] := by decide +kernel
              go_wp2_with fail
              refine (hrt.out _).mono ?_; rintro y w10 ⟨rfl, hb10⟩
              replace hB := Lib.hid (hB.out.trans (hb10.mono hB.out.size))
              go_wp2_with fail
              go_ret
              exact ⟨rfl, hB.out⟩
end Go.Proofs.YtiapkindbbbdpaaDoor
