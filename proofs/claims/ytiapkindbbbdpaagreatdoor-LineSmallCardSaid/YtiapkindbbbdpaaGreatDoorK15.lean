/- Words compared; the contract of same. -/
import Derived.Test.YtiapkindbbbdpaaGreatDoorK14
import Derived.Laws.StructEq
import Derived.BigQuiet
namespace Go.Proofs.YtiapkindbbbdpaaGreatDoor
open Go.RowKit

theorem fo31 : Tryz.prog.fieldsOf 29 = #[{ name := "Text", type := 9, offset := 0, embedded := false, tag := "", pkgPath := "", byteOffset := 0 }, { name := "Quoted", type := 4, offset := 1, embedded := false, tag := "", pkgPath := "", byteOffset := 16 }] := by
  unfold Program.fieldsOf
  rw [Tryz.underlying29]
theorem fl31 : Tryz.prog.underlying 29 = some (.struct (Tryz.prog.fieldsOf 29)) := by rw [fo31]; exact Tryz.underlying29
theorem sh31 : Tryz.prog.stoodInHeld 29 = false := by kernel_rfl
theorem eq31 (s t : ByteArray) (p q : Bool) (w : World) : (Op.equalIn 10000 29 (.agg #[.string s, .bool p]) (.agg #[.string t, .bool q])).run Tryz.prog w = .ok ((s.toList == t.toList) && (p == q)) w := by
  rw [show (10000 : Nat) = 9999 + 1 from rfl, run_equalIn_struct w 9999 29 _ _ fl31 sh31, fo31]
  have h9 := Tryz.underlying9
  have h4 := Tryz.underlying4
  have ps : (part 9 #[.string s, .bool p] 0).run Tryz.prog w = .ok (.string s) w := by simp [part, isAgg, run_underlying h9]
  have pt : (part 9 #[.string t, .bool q] 0).run Tryz.prog w = .ok (.string t) w := by simp [part, isAgg, run_underlying h9]
  have pp : (part 4 #[.string s, .bool p] 1).run Tryz.prog w = .ok (.bool p) w := by simp [part, isAgg, run_underlying h4]
  have pq : (part 4 #[.string t, .bool q] 1).run Tryz.prog w = .ok (.bool q) w := by simp [part, isAgg, run_underlying h4]
  have e1 := run_equalIn_string (P := Tryz.prog) w 9998 9 s t h9
  have e2 := run_equalIn_bool' (P := Tryz.prog) w 9998 4 p q h4
  have hn1 : ("Text" : String) ≠ "_" := by decide
  have hn2 : ("Quoted" : String) ≠ "_" := by decide
  simp only [Op.eqFields, ne_eq, hn1, hn2, not_false_eq_true, if_true, Sem.run_bind, ps, pt, pp, pq, Result.andThen_ok, e1, e2, Sem.run_ite, Sem.run_pure]
  cases (s.toList == t.toList) <;> cases (p == q) <;> rfl
theorem WRow.shape {W : World} {v : Value} {ws : List Wd} (h : WRow W v ws) : ∃ a c, v = .slice a ws.length c := by
  rcases h with ⟨a, c, _, h1, h2⟩ | ⟨b, off, cap, h1, _⟩
  · exact ⟨_, _, by rw [h1, h2]; rfl⟩
  · exact ⟨_, _, h1⟩
theorem WRow.len_le {W : World} {v : Value} {ws : List Wd} (h : WRow W v ws) : ws.length ≤ 9223372036854775807 := by
  rcases h with ⟨_, _, _, _, h2⟩ | ⟨b, off, cap, _, _, h3, h4, _⟩
  · rw [h2]; simp
  · unfold maxLen at h4; omega
theorem WRow.at' {W : World} {a : Option Addr} {n c : Nat} {ws : List Wd} (h : WRow W (.slice a n c) ws) (i : Nat) (hi : i < ws.length) : ∃ b off, a = some ⟨b, off, none⟩ ∧ W.cell? ⟨b, off + i * 2, none⟩ = some (.string ⟨(ws[i]).1.toArray⟩) ∧ W.cell? ⟨b, off + i * 2 + 1, none⟩ = some (.bool (ws[i]).2) := by
  rcases h with ⟨_, _, _, h1, h2⟩ | ⟨b, off, cap, h1, _, _, _, h5⟩
  · rw [h2] at hi; simp at hi
  · cases h1
    exact ⟨b, off, rfl, h5 i hi⟩
theorem take_eq_next {α : Type} (a b : List α) (i : Nat) (h : a.take i = b.take i) (ha : i < a.length) (hb : i < b.length) (he : a[i] = b[i]) : a.take (i + 1) = b.take (i + 1) := by
  rw [List.take_add_one, List.take_add_one, h, List.getElem?_eq_getElem ha, List.getElem?_eq_getElem hb, he]
set_option maxRecDepth 100000 in
set_option maxHeartbeats 1000000 in
theorem same_any (va vb : Value) (wa wb : List Wd) (w : World) (ha : WRow w va wa) (hb : WRow w vb wb) : Calls Tryz.prog 20 #[va, vb] w fun e w' => e = .returned (.bool (decide (wa = wb))) ∧ Below w.heap.size w w' := by
  obtain ⟨R, hR⟩ : ∃ R, Hid (decide (wa = wb) = R) := ⟨_, rfl⟩
  rw [hR.out]
  obtain ⟨aa, ca, rfl⟩ := ha.shape
  obtain ⟨ab, cb, rfl⟩ := hb.shape
  have E31 := eq31
  by_cases hl : wa.length = wb.length
  · have t1 : ((wa.length : Int) != (wb.length : Int)) = false := by simp; omega
    replace ha := Lib.hid ha
    replace hb := Lib.hid hb
    go_enter Tryz.func20, Tryz.ntmps20
    go_wp2_with fail
    go_loopg [13] (wa.length + 1) (fun g s13 wx => ∃ i : Nat, i + g = wa.length + 1 ∧ s13 = .int .i64 i ∧ i ≤ wa.length ∧ Hid (wa.take i = wb.take i) ∧ Hid (Below w.heap.size w wx))
    case atStart => exact ⟨0, by omega, rfl, by omega, rfl, Below.refl _ _⟩
    case round =>
      obtain ⟨i, hi, rfl, hil, hT, hB⟩ := hrel
      by_cases hlt : i < wa.length
      · have t2 : decide (i < wa.length) = true := decide_eq_true hlt
        have t3 : decide (i < wb.length) = true := decide_eq_true (by omega)
        have hlb : i < wb.length := by omega
        have hlm := ha.out.len_le
        have qw : wrap64 ((i : Int) + 1) = ((i + 1 : Nat) : Int) := (IntWalk.wrap64_in _ ⟨by omega, by omega⟩).trans (by omega)
        obtain ⟨ba, oa, rfl, x0, x1⟩ := (ha.out.on hB.out).at' i hlt
        obtain ⟨bb, ob, rfl, y0, y1⟩ := (hb.out.on hB.out).at' i hlb
        obtain ⟨si, hsi⟩ : ∃ s : ByteArray, Hid ((⟨(wa[i]).1.toArray⟩ : ByteArray) = s) := ⟨⟨(wa[i]).1.toArray⟩, Lib.hid rfl⟩
        obtain ⟨ti, hti⟩ : ∃ s : ByteArray, Hid ((⟨(wb[i]).1.toArray⟩ : ByteArray) = s) := ⟨⟨(wb[i]).1.toArray⟩, Lib.hid rfl⟩
        obtain ⟨p, hp⟩ : ∃ p : Bool, Hid ((wa[i]).2 = p) := ⟨(wa[i]).2, Lib.hid rfl⟩
        obtain ⟨q, hq⟩ : ∃ q : Bool, Hid ((wb[i]).2 = q) := ⟨(wb[i]).2, Lib.hid rfl⟩
        rw [hsi.out] at x0
        rw [hti.out] at y0
        rw [hp.out] at x1
        rw [hq.out] at y1
        have hst : Hid ((si.toList == ti.toList) = ((wa[i]).1 == (wb[i]).1)) := by show _ = _; rw [← hsi.out, ← hti.out, ByteArray.toList_eq, ByteArray.toList_eq]
        by_cases he : wa[i] = wb[i]
        · have q1 : (si.toList == ti.toList) = true := by rw [hst.out, he]; simp
          have q2 : (p == q) = true := by rw [← hp.out, ← hq.out, he]; simp
          have hT2 := Lib.hid (take_eq_next wa wb i hT.out hlt hlb he)
          go_upto_region 6 with (fail)
          go_region
          go_wp2_with fail
          go_roundg (gk - 1)
          case measure => omega
          case rel => exact ⟨i + 1, by omega, rfl, by omega, hT2, hB.out.drew⟩
        · have q0 : ((si.toList == ti.toList) && (p == q)) = false := by
            rw [hst.out, ← hp.out, ← hq.out, Bool.eq_false_iff]
            intro h
            rw [Bool.and_eq_true] at h
            exact he (Prod.ext (by simpa using h.1) (by simpa using h.2))
          obtain rfl : R = false := by rw [← hR.out]; exact decide_eq_false (fun e => he (by subst e; rfl))
          go_upto_region 6 with (fail)
          go_region
          go_wp2_with fail
          go_ret
          exact ⟨rfl, hB.out.drew⟩
      · obtain rfl : i = wa.length := by omega
        have t2 : decide (wa.length < wa.length) = false := decide_eq_false (by omega)
        obtain rfl : R = true := by
          rw [← hR.out]
          have := hT.out
          rw [List.take_of_length_le (Nat.le_refl _), List.take_of_length_le (by omega)] at this
          exact decide_eq_true this
        go_wp2_with fail
        go_ret
        exact ⟨rfl, hB.out⟩
  · have t1 : ((wa.length : Int) != (wb.length : Int)) = true := by simp; omega
    obtain rfl : R = false := by rw [← hR.out]; exact decide_eq_false (fun e => hl (by rw [e]))
    go_enter Tryz.func20, Tryz.ntmps20
    go_wp2_with fail
    go_ret
    exact ⟨rfl, Below.refl _ _⟩
end Go.Proofs.YtiapkindbbbdpaaGreatDoor
