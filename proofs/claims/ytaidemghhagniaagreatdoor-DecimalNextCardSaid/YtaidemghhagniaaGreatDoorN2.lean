/- The walk of DecimalNext. -/
import Derived.Test.YtaidemghhagniaaGreatDoorN1
import Derived.Test.YtaidemghhagniaaGreatDoorW1
namespace Go.Proofs.YtaidemghhagniaaGreatDoor
open Go Go.RowKit
set_option maxRecDepth 100000 in
set_option maxHeartbeats 4000000 in
theorem next_law (a b : Nat) (ha : a < 18446744073709551616) (hb : b < 18446744073709551616) (w : World) (hG : AGlb w) :
    Calls Tryz.prog 9 #[.int .u64 a, .int .u64 b] w fun e w' => e = .returned (.bool true) ∧ Below w.heap.size w w' := by
  have haw := Lib.hid (awake_any w hG)
  have ck := Lib.hid (kind_any a ha w)
  by_cases hn : nanN a = true
  · have hk := (kind4 a ha).2 hn
    rw [hk] at ck
    have cn := next_any a ha w
    rw [show nextN a = (0, 2) by unfold nextN; rw [if_pos hk]] at cn
    have c1 := compare_any a b ha hb w
    rw [show cmpN a b = (0, 2) by unfold cmpN; rw [hn]; rfl] at c1
    have c2 := compare_any b a hb ha w
    rw [show cmpN b a = (0, 2) by unfold cmpN; rw [hn, Bool.or_true]; rfl] at c2
    replace cn := Lib.hid cn
    replace c1 := Lib.hid c1
    replace c2 := Lib.hid c2
    clear hk hn
    go_enter Tryz.func9, Tryz.ntmps9
    go_wp2_with fail
    refine ck.out.mono ?_; rintro z w1 ⟨rfl, rfl⟩
    go_wp2_with fail
    refine cn.out.mono ?_; rintro z w1 ⟨rfl, rfl⟩
    go_wp2_with fail
    refine c1.out.mono ?_; rintro z w1 ⟨rfl, rfl⟩
    go_wp2_with fail
    refine c2.out.mono ?_; rintro z w1 ⟨rfl, rfl⟩
    go_wp2_with fail
    refine haw.out.mono ?_; rintro z w1 ⟨rfl, hB⟩
    go_wp2_with fail
    go_ret
    exact ⟨rfl, hB⟩
  · have hn' : nanN a = false := by simpa using hn
    have hk4 : kindN a ≠ 4 := fun h => hn ((kind4 a ha).1 h)
    have u1 : ((kindN a : Int) == 4) = false := by simp; exact_mod_cast hk4
    by_cases hi : a = 9218868437227405312
    · have cn := next_any a ha w
      rw [show nextN a = (0, 6) by unfold nextN; rw [if_neg hk4, INF_is, if_pos hi]] at cn
      replace cn := Lib.hid cn
      have u2 : ((a : Int) == 9218868437227405312) = true := by simp [hi]
      clear hk4 hi hn hn'
      go_enter Tryz.func9, Tryz.ntmps9
      go_wp2_with fail
      refine ck.out.mono ?_; rintro z w1 ⟨rfl, rfl⟩
      go_wp2_with fail
      refine cn.out.mono ?_; rintro z w1 ⟨rfl, rfl⟩
      go_wp2_with fail
      refine haw.out.mono ?_; rintro z w1 ⟨rfl, hB⟩
      go_wp2_with fail
      go_ret
      exact ⟨rfl, hB⟩
    · obtain ⟨n, e1, hnb, hnn, hno, hnx⟩ := next_ok a ha hn' hi
      have cn := next_any a ha w
      rw [e1] at cn
      obtain ⟨m1, m2, m3⟩ := neg_ok n hnb
      have cg := Lib.hid (neg_any n hnb w)
      have c1 := compare_any a n ha hnb w
      rw [cmp_num a n hn' hnn, hno, if_pos (by omega)] at c1
      have hmi : negN n ≠ 9218868437227405312 := by
        intro h
        have : n = 18442240474082181120 := by unfold negN at h; split at h <;> omega
        exact hnx this
      obtain ⟨p, f1, hpb, hpn, hpo, _⟩ := next_ok (negN n) m1 (by rw [m2]; exact hnn) hmi
      have cq := next_any (negN n) m1 w
      rw [f1] at cq
      obtain ⟨q1, q2, q3⟩ := neg_ok p hpb
      have ch := Lib.hid (neg_any p hpb w)
      have c2 := compare_any (negN p) a q1 ha w
      have hsame : ordN (negN p) = ordN a := by rw [q3, hpo, m3, hno]; omega
      rw [cmp_num (negN p) a (by rw [q2]; exact hpn) hn', hsame, if_neg (by omega), if_neg (by omega)] at c2
      have ckb := Lib.hid (kind_any b hb w)
      obtain ⟨x, hx⟩ : ∃ x, x = negN n := ⟨_, rfl⟩
      obtain ⟨y, hy⟩ : ∃ y, y = negN p := ⟨_, rfl⟩
      rw [← hx] at cg cq
      rw [← hy] at ch c2
      replace cn := Lib.hid cn
      replace c1 := Lib.hid c1
      replace c2 := Lib.hid c2
      replace cq := Lib.hid cq
      by_cases gn : nanN b = true
      · rw [(kind4 b hb).2 gn] at ckb
        clear hx hy q1 q2 q3 m1 m2 m3 e1 f1 hno hpo hsame hn hn' hk4 hi hnn hpn hnx hmi gn
        go_enter Tryz.func9, Tryz.ntmps9
        go_wp2_with fail
        refine ck.out.mono ?_; rintro z w1 ⟨rfl, rfl⟩
        go_wp2_with fail
        refine cn.out.mono ?_; rintro z w1 ⟨rfl, rfl⟩
        go_wp2_with fail
        refine c1.out.mono ?_; rintro z w1 ⟨rfl, rfl⟩
        go_wp2_with fail
        refine cg.out.mono ?_; rintro z w1 ⟨rfl, rfl⟩
        go_wp2_with fail
        refine cq.out.mono ?_; rintro z w1 ⟨rfl, rfl⟩
        go_wp2_with fail
        refine ch.out.mono ?_; rintro z w1 ⟨rfl, rfl⟩
        go_wp2_with fail
        refine c2.out.mono ?_; rintro z w1 ⟨rfl, rfl⟩
        go_wp2_with fail
        refine ckb.out.mono ?_; rintro z w1 ⟨rfl, rfl⟩
        go_wp2_with fail
        refine haw.out.mono ?_; rintro z w1 ⟨rfl, hB⟩
        go_wp2_with fail
        go_ret
        exact ⟨rfl, hB⟩
      · have gn' : nanN b = false := by simpa using gn
        have hkb4 : kindN b ≠ 4 := fun h => gn ((kind4 b hb).1 h)
        have u2 : ((kindN b : Int) == 4) = false := by simp; exact_mod_cast hkb4
        have c3 := compare_any b a hb ha w
        have c4 := compare_any b n hb hnb w
        have c5 := compare_any a b ha hb w
        rw [cmp_num b a gn' hn'] at c3
        rw [cmp_num b n gn' hnn, hno] at c4
        rw [cmp_num a b hn' gn'] at c5
        obtain ⟨X, hX⟩ : ∃ X : Int, X = if ordN b < ordN a then -1 else if ordN a < ordN b then 1 else 0 := ⟨_, rfl⟩
        obtain ⟨Y, hY⟩ : ∃ Y : Int, Y = if ordN b < ordN a + 1 then -1 else if ordN a + 1 < ordN b then 1 else 0 := ⟨_, rfl⟩
        obtain ⟨Z, hZ⟩ : ∃ Z : Int, Z = if ordN a < ordN b then -1 else if ordN b < ordN a then 1 else 0 := ⟨_, rfl⟩
        rw [← hX] at c3
        rw [← hY] at c4
        rw [← hZ] at c5
        have hall : (X = -1 ∧ Y = -1 ∧ Z = 1) ∨ (X = 0 ∧ Y = -1 ∧ Z = 0) ∨ (X = 1 ∧ Y = 0 ∧ Z = -1) ∨ (X = 1 ∧ Y = 1 ∧ Z = -1) := by
          rw [hX, hY, hZ]
          generalize ordN a = A
          generalize ordN b = B
          rcases Int.lt_trichotomy A B with l | l | l
          · rcases Int.lt_trichotomy (A + 1) B with l2 | l2 | l2
            · exact .inr (.inr (.inr ⟨by rw [if_neg (by omega), if_pos l], by rw [if_neg (by omega), if_pos l2], by rw [if_pos l]⟩))
            · exact .inr (.inr (.inl ⟨by rw [if_neg (by omega), if_pos l], by rw [if_neg (by omega), if_neg (by omega)], by rw [if_pos l]⟩))
            · omega
          · exact .inr (.inl ⟨by rw [if_neg (by omega), if_neg (by omega)], by rw [if_pos (by omega)], by rw [if_neg (by omega), if_neg (by omega)]⟩)
          · exact .inl ⟨by rw [if_pos l], by rw [if_pos (by omega)], by rw [if_neg (by omega), if_pos l]⟩
        replace c3 := Lib.hid c3
        replace c4 := Lib.hid c4
        replace c5 := Lib.hid c5
        clear hx hy q1 q2 q3 m1 m2 m3 e1 f1 hno hpo hsame hn hn' hk4 hi hnn hpn hnx hmi gn gn' hkb4 hX hY hZ
        go_enter Tryz.func9, Tryz.ntmps9
        go_wp2_with fail
        refine ck.out.mono ?_; rintro z w1 ⟨rfl, rfl⟩
        go_wp2_with fail
        refine cn.out.mono ?_; rintro z w1 ⟨rfl, rfl⟩
        go_wp2_with fail
        refine c1.out.mono ?_; rintro z w1 ⟨rfl, rfl⟩
        go_wp2_with fail
        refine cg.out.mono ?_; rintro z w1 ⟨rfl, rfl⟩
        go_wp2_with fail
        refine cq.out.mono ?_; rintro z w1 ⟨rfl, rfl⟩
        go_wp2_with fail
        refine ch.out.mono ?_; rintro z w1 ⟨rfl, rfl⟩
        go_wp2_with fail
        refine c2.out.mono ?_; rintro z w1 ⟨rfl, rfl⟩
        go_wp2_with fail
        refine ckb.out.mono ?_; rintro z w1 ⟨rfl, rfl⟩
        go_wp2_with fail
        refine c3.out.mono ?_; rintro z w1 ⟨rfl, rfl⟩
        go_wp2_with fail
        refine c4.out.mono ?_; rintro z w1 ⟨rfl, rfl⟩
        go_wp2_with fail
        refine c5.out.mono ?_; rintro z w1 ⟨rfl, rfl⟩
        rcases hall with ⟨rfl, rfl, rfl⟩ | ⟨rfl, rfl, rfl⟩ | ⟨rfl, rfl, rfl⟩ | ⟨rfl, rfl, rfl⟩
        all_goals
          go_wp2_with fail
          refine haw.out.mono ?_; rintro z w1 ⟨rfl, hB⟩
          go_wp2_with fail
          go_ret
          exact ⟨rfl, hB⟩
end Go.Proofs.YtaidemghhagniaaGreatDoor
