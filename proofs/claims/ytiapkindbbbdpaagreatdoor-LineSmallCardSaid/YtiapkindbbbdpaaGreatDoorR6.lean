/- The contracts of is and of reads; the walk of the law LineReads. -/
import Derived.Test.YtiapkindbbbdpaaGreatDoorR5
import Derived.Test.YtiapkindbbbdpaaGreatDoorK18
namespace Go.Proofs.YtiapkindbbbdpaaGreatDoor
open Go.RowKit

theorem drew_next {w W : World} (h : ∃ n, W = w.drewN n) : ∃ n, W.drew = w.drewN n := by
  obtain ⟨n, rfl⟩ := h
  exact ⟨n + 1, rfl⟩
theorem fo96 : Tryz.prog.fieldsOf 54 = #[{ name := "Text", type := 9, offset := 0, embedded := false, tag := "", pkgPath := "", byteOffset := 0 }, { name := "Quoted", type := 4, offset := 1, embedded := false, tag := "", pkgPath := "", byteOffset := 16 }] := by
  unfold Program.fieldsOf
  rw [Tryz.underlying54]
theorem fl96 : Tryz.prog.underlying 54 = some (.struct (Tryz.prog.fieldsOf 54)) := by rw [fo96]; exact Tryz.underlying54
theorem sh96 : Tryz.prog.stoodInHeld 54 = false := by kernel_rfl
theorem eq96 (s t : ByteArray) (p q : Bool) (w : World) : (Op.equalIn 10000 54 (.agg #[.string s, .bool p]) (.agg #[.string t, .bool q])).run Tryz.prog w = .ok ((s.toList == t.toList) && (p == q)) w := by
  rw [show (10000 : Nat) = 9999 + 1 from rfl, run_equalIn_struct w 9999 54 _ _ fl96 sh96, fo96]
  have h9 := Tryz.underlying9
  have h4 := Tryz.underlying4
  have ps : (part 9 #[.string s, .bool p] 0).run Tryz.prog w = .ok (.string s) w := by simp [part, isAgg, run_underlying h9]
  have pt : (part 9 #[.string t, .bool q] 0).run Tryz.prog w = .ok (.string t) w := by simp [part, isAgg, run_underlying h9]
  have pp : (part 4 #[.string s, .bool p] 1).run Tryz.prog w = .ok (.bool p) w := by simp [part, isAgg, run_underlying h4]
  have pq : (part 4 #[.string t, .bool q] 1).run Tryz.prog w = .ok (.bool q) w := by simp [part, isAgg, run_underlying h4]
  have e1 := run_equalIn_string (P := Tryz.prog) w 9998 9 s t h9
  have e2 := run_equalIn_bool' (P := Tryz.prog) w 9998 4 p q h4
  have hn1 : ("Text" : String) ≠ "_" := by decide
  have hn2 : ("Quoted" : String) ≠ "_" := by decide
  simp only [Op.eqFields, ne_eq, hn1, hn2, not_false_eq_true, if_true, Sem.run_bind, ps, pt, pp, pq, Result.andThen_ok, e1, e2, Sem.run_ite, Sem.run_pure]
  cases (s.toList == t.toList) <;> cases (p == q) <;> rfl
set_option maxRecDepth 100000 in
set_option maxHeartbeats 1000000 in
theorem is_any (va vb : Value) (wa wb : List Wd) (w : World) (ha : WRow w va wa) (hb : WRow w vb wb) : Calls Tryz.prog 27 #[va, vb] w fun e w' => e = .returned (.bool (decide (wa = wb))) ∧ ∃ n, w' = w.drewN n := by
  obtain ⟨R, hR⟩ : ∃ R, Hid (decide (wa = wb) = R) := ⟨_, rfl⟩
  rw [hR.out]
  obtain ⟨aa, ca, rfl⟩ := ha.shape
  obtain ⟨ab, cb, rfl⟩ := hb.shape
  have E96 := eq96
  by_cases hl : wa.length = wb.length
  · have t1 : ((wa.length : Int) != (wb.length : Int)) = false := by simp; omega
    replace ha := Lib.hid ha
    replace hb := Lib.hid hb
    go_enter Tryz.func27, Tryz.ntmps27
    go_wp2_with fail
    go_loopg [13] (wa.length + 1) (fun g s13 wx => ∃ i : Nat, i + g = wa.length + 1 ∧ s13 = .int .i64 i ∧ i ≤ wa.length ∧ Hid (wa.take i = wb.take i) ∧ Hid (Below w.heap.size w wx) ∧ Hid (∃ n, wx = w.drewN n))
    case atStart => exact ⟨0, by omega, rfl, by omega, rfl, Below.refl _ _, Lib.hid ⟨0, rfl⟩⟩
    case round =>
      obtain ⟨i, hi, rfl, hil, hT, hB, hD⟩ := hrel
      by_cases hlt : i < wa.length
      · have t2 : decide (i < wa.length) = true := decide_eq_true hlt
        have t3 : decide (i < wb.length) = true := decide_eq_true (by omega)
        have hlb : i < wb.length := by omega
        have hlm := ha.out.len_le
        have qw : wrap64 ((i : Int) + 1) = ((i + 1 : Nat) : Int) := (IntWalk.wrap64_in _ ⟨by omega, by omega⟩).trans (by omega)
        obtain ⟨ba, oa, rfl, x0, x1⟩ := (ha.out.on hB.out).at' i hlt
        obtain ⟨bb, ob, rfl, y0, y1⟩ := (hb.out.on hB.out).at' i hlb
        obtain ⟨si, hsi⟩ : ∃ s : ByteArray, Hid ((⟨(wa[i]).1.toArray⟩ : ByteArray) = s) := ⟨⟨(wa[i]).1.toArray⟩, Lib.hid rfl⟩
        obtain ⟨ti, hti⟩ : ∃ s : ByteArray, Hid ((⟨(wb[i]).1.toArray⟩ : ByteArray) = s) := ⟨⟨(wb[i]).1.toArray⟩, Lib.hid rfl⟩
        obtain ⟨p, hp⟩ : ∃ p : Bool, Hid ((wa[i]).2 = p) := ⟨(wa[i]).2, Lib.hid rfl⟩
        obtain ⟨q, hq⟩ : ∃ q : Bool, Hid ((wb[i]).2 = q) := ⟨(wb[i]).2, Lib.hid rfl⟩
        rw [hsi.out] at x0
        rw [hti.out] at y0
        rw [hp.out] at x1
        rw [hq.out] at y1
        have hst : Hid ((si.toList == ti.toList) = ((wa[i]).1 == (wb[i]).1)) := by show _ = _; rw [← hsi.out, ← hti.out, ByteArray.toList_eq, ByteArray.toList_eq]
        by_cases he : wa[i] = wb[i]
        · have q1 : (si.toList == ti.toList) = true := by rw [hst.out, he]; simp
          have q2 : (p == q) = true := by rw [← hp.out, ← hq.out, he]; simp
          have hT2 := Lib.hid (take_eq_next wa wb i hT.out hlt hlb he)
          go_upto_region 6 with (fail)
          go_region
          go_wp2_with fail
          go_roundg (gk - 1)
          case measure => omega
          case rel => exact ⟨i + 1, by omega, rfl, by omega, hT2, hB.out.drew, Lib.hid (drew_next hD.out)⟩
        · have q0 : ((si.toList == ti.toList) && (p == q)) = false := by
            rw [hst.out, ← hp.out, ← hq.out, Bool.eq_false_iff]
            intro h
            rw [Bool.and_eq_true] at h
            exact he (Prod.ext (by simpa using h.1) (by simpa using h.2))
          obtain rfl : R = false := by rw [← hR.out]; exact decide_eq_false (fun e => he (by subst e; rfl))
          go_upto_region 6 with (fail)
          go_region
          go_wp2_with fail
          go_ret
          exact ⟨rfl, drew_next hD.out⟩
      · obtain rfl : i = wa.length := by omega
        have t2 : decide (wa.length < wa.length) = false := decide_eq_false (by omega)
        obtain rfl : R = true := by
          rw [← hR.out]
          have := hT.out
          rw [List.take_of_length_le (Nat.le_refl _), List.take_of_length_le (by omega)] at this
          exact decide_eq_true this
        go_wp2_with fail
        go_ret
        exact ⟨rfl, hD.out⟩
  · have t1 : ((wa.length : Int) != (wb.length : Int)) = true := by simp; omega
    obtain rfl : R = false := by rw [← hR.out]; exact decide_eq_false (fun e => hl (by rw [e]))
    go_enter Tryz.func27, Tryz.ntmps27
    go_wp2_with fail
    go_ret
    exact ⟨rfl, 0, rfl⟩
theorem LRow.on {W W' : World} {v : Value} {ls : List (Nat × List Wd)} (h : LRow W v ls) (hb : Below W.heap.size W W') : LRow W' v ls := by
  obtain ⟨B, A, h1, h2, h3⟩ := h
  exact ⟨B, A, h1, fun x hx => owns_on (h2 x hx) hb, owns_on h3 hb⟩
theorem LRowR.on {W W' : World} {v : Value} {ls : List (Nat × List Wd)} (h : LRowR W v ls) (hb : Below W.heap.size W W') : LRowR W' v ls := by
  obtain ⟨B, A, h1, h2, h3⟩ := h
  exact ⟨B, A, h1, fun x hx => owns_on (h2 x hx) hb, owns_on h3 hb⟩
theorem WRow.of_owned96 {W : World} {base : Nat} {v : Value} {ws : List Wd} (h : W.ownsRow base 54 2 v ws.length (wcells ws)) : WRow W v ws := by
  rcases h.2 with ⟨h1, h2⟩ | ⟨g, cap, cur, h1, h2, h3, h4, h5, h6, h7⟩
  · exact .inl ⟨none, 0, fun _ => rfl, by rw [h1], List.eq_nil_of_length_eq_zero h2⟩
  · refine .inr ⟨g, 0, cap, h1, (Array.getElem?_eq_some_iff.1 h3).1, h4, h5, fun i hi => ?_⟩
    have hc : ∀ j, j < ws.length * 2 → W.cell? ⟨g, j, none⟩ = (wcells ws)[j]? := fun j hj => by
      rw [Lib.cell_of_heap h3, ← h7, List.getElem?_take_of_lt hj]
      simp
    rw [Nat.zero_add, hc _ (by omega), hc _ (by omega)]
    exact wcells_at ws i hi
theorem LRowR.shape {W : World} {v : Value} {ls : List (Nat × List Wd)} (h : LRowR W v ls) : ∃ a c, v = .slice a ls.length c := by
  obtain ⟨B, A, rfl, _, h3⟩ := h
  obtain ⟨a, c, hv⟩ := own_shape h3
  exact ⟨a, c, by rw [hv, ofA, List.length_map]⟩
theorem LRowR.at' {W : World} {a : Option Addr} {n c : Nat} {ls : List (Nat × List Wd)} (h : LRowR W (.slice a n c) ls) (i : Nat) (hi : i < ls.length) :
    ∃ g vi, a = some ⟨g, 0, none⟩ ∧ W.cell? ⟨g, i * 2, none⟩ = some (.int .i64 (ls[i]).1) ∧ W.cell? ⟨g, i * 2 + 1, none⟩ = some vi ∧ WRow W vi (ls[i]).2 ∧ ∃ a2 c2, vi = .slice a2 (ls[i]).2.length c2 := by
  obtain ⟨B, A, rfl, h2, h3⟩ := h
  have hiA : i < A.length := by simpa [ofA] using hi
  have hel : (ofA A)[i] = (A[i].1, A[i].2.1) := by simp [ofA]
  rcases h3.2 with ⟨h4, h5⟩ | ⟨g, cap, cur, h4, h5, h6, h7, h8, h9, h10⟩
  · omega
  · cases h4
    have hc : ∀ j, j < A.length * 2 → W.cell? ⟨g, j, none⟩ = (lcells A)[j]? := fun j hj => by
      rw [Lib.cell_of_heap h6, ← h10, List.getElem?_take_of_lt hj]
      simp
    have h11 := lcells_at A i hiA
    have hw := h2 A[i] (List.getElem_mem hiA)
    refine ⟨g, A[i].2.2, rfl, by rw [hc _ (by omega), hel]; exact h11.1, by rw [hc _ (by omega)]; exact h11.2, by rw [hel]; exact WRow.of_owned96 hw, ?_⟩
    obtain ⟨a2, c2, hv⟩ := own_shape hw
    exact ⟨a2, c2, by rw [hel]; exact hv⟩
theorem LRow.len_le {W : World} {v : Value} {ls : List (Nat × List Wd)} (h : LRow W v ls) : ls.length ≤ 9223372036854775807 := by
  obtain ⟨B, A, rfl, _, h3⟩ := h
  rcases h3.2 with ⟨_, h5⟩ | ⟨g, cap, cur, h4, h5, h6, h7, h8, _⟩
  · simp [ofA, List.eq_nil_of_length_eq_zero h5]
  · simp [ofA]; unfold maxLen at h8; omega
set_option maxRecDepth 100000 in
set_option maxHeartbeats 4000000 in
theorem reads_any (s : ByteArray) (hs0 : s.size ≤ 4611686018427387904) (w : World) (hm : MaxG w) : Calls Tryz.prog 7 #[.string s] w fun e w' => e = .returned (.bool true) ∧ Below w.heap.size w w' := by
  by_cases hl : 2000 < s.size
  · have t1 : decide (2000 < (s.size : Int)) = true := decide_eq_true (by omega)
    go_enter Tryz.func7, Tryz.ntmps7
    go_wp2_with fail
    go_ret
    exact ⟨rfl, Below.refl _ _⟩
  · have t1 : decide (2000 < (s.size : Int)) = false := decide_eq_false (by omega)
    obtain ⟨e, ws, hsp⟩ : ∃ e ws, Hid (splitF s.data.toList = (e, ws)) := ⟨_, _, Lib.hid rfl⟩
    obtain ⟨pe, pn, pl, hpp⟩ : ∃ e n l, Hid (parseF s.data.toList = (e, n, l)) := ⟨_, _, _, Lib.hid rfl⟩
    obtain ⟨b, hbr⟩ : ∃ b, Hid (bareF s = b) := ⟨_, Lib.hid rfl⟩
    have hsc := split_any s w
    rw [hsp.out] at hsc
    replace hsc := Lib.hid hsc
    replace hm := Lib.hid hm
    go_enter Tryz.func7, Tryz.ntmps7
    go_wp2_with fail
    refine (hsc.out).mono ?_; rintro x w1 ⟨⟨v1, rfl, hv1⟩, hb⟩
    obtain ⟨a1, c1, rfl⟩ := own_shape hv1
    have hV1 := Lib.hid (WRow.of_owned hv1)
    have hB := Lib.hid hb
    clear hv1 hb hsc
    go_wp2_with fail
    refine (rsplit_any s e ws hsp.out w1 (by omega)).mono ?_; rintro x w2 ⟨⟨v2, rfl, hv2⟩, hb⟩
    obtain ⟨a2, c2, rfl⟩ := own_shape hv2
    have hV2 := Lib.hid (WRow.of_owned96 hv2)
    replace hV1 := Lib.hid (hV1.out.on hb)
    replace hB := Lib.hid (hB.out.trans (hb.mono hB.out.size))
    clear hv2 hb
    go_wp2_with fail
    refine (parse_to s pe pn pl hpp.out w2 (maxG_below hm.out hB.out)).mono ?_; rintro x w3 ⟨⟨v3, rfl, hL3⟩, hb⟩
    obtain ⟨a3, c3, rfl⟩ := hL3.shape
    replace hL3 := Lib.hid hL3
    replace hV1 := Lib.hid (hV1.out.on hb)
    replace hV2 := Lib.hid (hV2.out.on hb)
    replace hB := Lib.hid (hB.out.trans (hb.mono hB.out.size))
    clear hb
    go_wp2_with fail
    refine (rparse_any s (by omega) pe pn pl hpp.out w3).mono ?_; rintro x w4 ⟨⟨v4, rfl, hL4⟩, hb⟩
    obtain ⟨a4, c4, rfl⟩ := hL4.shape
    replace hL4 := Lib.hid hL4
    replace hL3 := Lib.hid (hL3.out.on hb)
    replace hV1 := Lib.hid (hV1.out.on hb)
    replace hV2 := Lib.hid (hV2.out.on hb)
    replace hB := Lib.hid (hB.out.trans (hb.mono hB.out.size))
    clear hb
    go_wp2_with fail
    refine (rbare_to s (by omega) b hbr.out w4).mono ?_; rintro x w5 ⟨rfl, hb⟩
    replace hL4 := Lib.hid (hL4.out.on hb)
    replace hL3 := Lib.hid (hL3.out.on hb)
    replace hV1 := Lib.hid (hV1.out.on hb)
    replace hV2 := Lib.hid (hV2.out.on hb)
    replace hB := Lib.hid (hB.out.trans (hb.mono hB.out.size))
    clear hb
    have hof := of_any s (by omega) w5
    rw [hbr.out] at hof
    replace hof := Lib.hid hof
    go_wp2_with fail
    refine (bare_to s (by omega) b hbr.out w5).mono ?_; rintro x w6 ⟨rfl, rfl⟩
    have E31 := eq31
    go_wp2_with fail
    refine hof.out.mono ?_; rintro x w6 ⟨rfl, hb⟩
    replace hL4 := Lib.hid (hL4.out.on hb)
    replace hL3 := Lib.hid (hL3.out.on hb)
    replace hV1 := Lib.hid (hV1.out.on hb)
    replace hV2 := Lib.hid (hV2.out.on hb)
    replace hB := Lib.hid (hB.out.trans (hb.mono hB.out.size))
    clear hb hof hbr
    have hi := is_any _ _ ws ws w6 hV1.out hV2.out
    rw [decide_eq_true rfl] at hi
    replace hi := Lib.hid hi
    go_wp2_with fail
    refine hi.out.mono ?_; rintro x w7 ⟨rfl, n7, rfl⟩
    have hb : Below w6.heap.size w6 (w6.drewN n7) := below_drewN (Below.refl _ _) _
    replace hL4 := Lib.hid (hL4.out.on hb)
    replace hL3 := Lib.hid (hL3.out.on hb)
    replace hB := Lib.hid (hB.out.trans (hb.mono hB.out.size))
    generalize w6.drewN n7 = W at hL4 hL3 hB ⊢
    clear hi hV1 hV2 hb E31 hsp hpp hm t1
    have hpl := hL3.out.len_le
    go_wp2_with fail
    go_loopg [85] (pl.length + 1) (fun g s85 wx => ∃ i : Nat, i + g = pl.length + 1 ∧ s85 = .int .i64 i ∧ i ≤ pl.length ∧ Hid (∃ n, wx = W.drewN n))
    case atStart => exact ⟨0, by omega, rfl, by omega, Lib.hid ⟨0, rfl⟩⟩
    case round =>
      obtain ⟨i, hg, rfl, hil, hD⟩ := hrel
      by_cases hlt : i < pl.length
      · obtain ⟨hb3, hb4⟩ : Below W.heap.size W wr ∧ True := ⟨by obtain ⟨n, hn⟩ := hD.out; rw [hn]; exact below_drewN (Below.refl _ _) _, trivial⟩
        obtain ⟨g3, y3, rfl, x0, x1, hw3, q3, r3, rfl⟩ := (hL3.out.on hb3).at' i hlt
        obtain ⟨g4, y4, rfl, z0, z1, hw4, q4, r4, rfl⟩ := (hL4.out.on hb3).at' i hlt
        have hic : Hid (∀ m, Calls Tryz.prog 27 #[.slice q3 (pl[i]).2.length r3, .slice q4 (pl[i]).2.length r4] (wr.drewN m) fun e w' => e = .returned (.bool true) ∧ ∃ k, w' = (wr.drewN m).drewN k) := by
          intro m
          have hb := below_drewN (Below.refl wr.heap.size wr) m
          have h := is_any _ _ (pl[i]).2 (pl[i]).2 (wr.drewN m) (hw3.on hb) (hw4.on hb)
          rw [decide_eq_true rfl] at h
          exact h
        generalize (pl[i]).1 = K at x0 z0
        generalize (pl[i]).2.length = L at x1 z1 hic
        have t1 : decide (i < pl.length) = true := decide_eq_true hlt
        have t2 : decide ((i : Int) < (pl.length : Int)) = true := decide_eq_true (by omega)
        clear hw3 hw4 hb3 hb4
        go_wp2_with fail
        go_quiet ((go_at_call 27; exact Calls.quiet_of (hic.out _)))
        go_wp2_with fail
        go_roundg (gk - 1)
        case measure => omega
        case rel => exact ⟨i + 1, by omega, by go_num, by omega, Lib.hid (by obtain ⟨n, hn⟩ := hD.out; rw [hn]; exact ⟨_, World.drewN_drewN ..⟩)⟩
      · obtain rfl : i = pl.length := by omega
        obtain ⟨n, rfl⟩ := hD.out
        have hb2 := Lib.hid (hB.out.trans (below_drewN (Below.refl w.heap.size W) n))
        clear hD
        go_wp2_with fail
        go_ret
        exact ⟨rfl, hb2.out⟩
end Go.Proofs.YtiapkindbbbdpaaGreatDoor
