/- The contracts of gaugerref22 stands, Read and ReadQuote over the translation. -/
import Derived.Test.YtiapkindbbbdpaaGreatDoorP3
namespace Go.Proofs.YtiapkindbbbdpaaGreatDoor
open Go.RowKit

theorem byt_u (s : ByteArray) (i : Nat) (h : i < s.size) : ∃ c : UInt8, Hid (s.data.toList.getD i 0 = c) ∧ (((s[i]'h).toNat : Int) = (c.toNat : Int)) :=
  ⟨_, Lib.hid rfl, byt_eq s i h⟩
theorem stands_no (x : UInt8) (h : esc x = []) (w : World) : Calls Tryz.prog 70 #[.int .u8 (x.toNat : Int), .bool true] w fun e w' => e = .returned (.tuple #[.int .u8 34, .bool false]) ∧ w = w' := by
  have h1 : x ≠ 92 := fun e => by subst e; simp [esc] at h
  have h2 : x ≠ 110 := fun e => by subst e; simp [esc] at h
  have h3 : x ≠ 34 := fun e => by subst e; simp [esc] at h
  have s1 := ne_byt x 92 _ rfl h1
  have s2 := ne_byt x 110 _ rfl h2
  have s3 := ne_byt x 34 _ rfl h3
  rw [show (((92 : UInt8).toNat : Int)) = 92 from rfl] at s1
  rw [show (((110 : UInt8).toNat : Int)) = 110 from rfl] at s2
  rw [show (((34 : UInt8).toNat : Int)) = 34 from rfl] at s3
  clear h h1 h2 h3
  go_enter Tryz.func70, Tryz.ntmps70
  go_wp2_with fail
  go_ret2
  exact ⟨rfl, rfl⟩
theorem stands_yes (x y : UInt8) (h : esc x = [y]) (w : World) : Calls Tryz.prog 70 #[.int .u8 (x.toNat : Int), .bool true] w fun e w' => e = .returned (.tuple #[.int .u8 (y.toNat : Int), .bool true]) ∧ w = w' := by
  have h' : (x = 92 ∧ y = 92) ∨ (x = 110 ∧ y = 10) ∨ (x = 34 ∧ y = 34) := by
    unfold esc at h
    split at h
    · rename_i e; exact .inl ⟨e, (List.cons.inj h).1.symm⟩
    · split at h
      · rename_i e; exact .inr (.inl ⟨e, (List.cons.inj h).1.symm⟩)
      · split at h
        · rename_i e; exact .inr (.inr ⟨e, (List.cons.inj h).1.symm⟩)
        · cases h
  clear h
  rcases h' with ⟨rfl, rfl⟩ | ⟨rfl, rfl⟩ | ⟨rfl, rfl⟩
  · go_enter Tryz.func70, Tryz.ntmps70
    go_wp2_with fail
    go_ret2
    exact ⟨rfl, rfl⟩
  · go_enter Tryz.func70, Tryz.ntmps70
    go_wp2_with fail
    go_ret2
    exact ⟨rfl, rfl⟩
  · go_enter Tryz.func70, Tryz.ntmps70
    go_wp2_with fail
    go_ret2
    exact ⟨rfl, rfl⟩
theorem esc_one (x : UInt8) (h : esc x ≠ []) : ∃ y, esc x = [y] := by
  unfold esc at h ⊢
  (repeat' split) <;> first | exact ⟨_, rfl⟩ | simp_all
theorem info5r : (Tryz.prog.info? 5).map (fun i => (i.zero, i.size, i.bytes)) = some (some (.int .u8 0), 1, 1) := by kernel_rfl
theorem rdR_at_10 (l : List UInt8) (i : Nat) (h : i < l.length) (hc : l.getD i 0 = 10) : (rdR (l.drop i)).1 = 223 := by
  rw [drop_cons l i h, hc]; cases l.drop (i + 1) <;> rfl
theorem rdR_at_34 (l : List UInt8) (i : Nat) (h : i < l.length) (hc : l.getD i 0 = 34) : (rdR (l.drop i)).1 = 221 := by
  rw [drop_cons l i h, hc]; cases l.drop (i + 1) <;> rfl
theorem rdR_at_end (l : List UInt8) (i : Nat) (h : i + 1 = l.length) (hc : l.getD i 0 = 92) : (rdR (l.drop i)).1 = 220 := by
  rw [drop_cons l i (by omega), hc, List.drop_of_length_le (by omega)]; rfl
theorem rdR_at_no (l : List UInt8) (i : Nat) (h : i + 1 < l.length) (hc : l.getD i 0 = 92) (he : esc (l.getD (i + 1) 0) = []) : (rdR (l.drop i)).1 = 220 := by
  rw [drop_cons l i (by omega), hc, drop_cons l (i + 1) h, rdR, if_neg (by decide), if_neg (by decide), if_pos rfl, if_pos he]
theorem rdR_at_yes (l : List UInt8) (i : Nat) (u : List UInt8) (h : i + 1 < l.length) (hc : l.getD i 0 = 92) (y : UInt8) (he : esc (l.getD (i + 1) 0) = [y]) (hr : rdR (l.drop i) = (0, u)) : ∃ v, u = y :: v ∧ rdR (l.drop (i + 2)) = (0, v) := by
  rw [drop_cons l i (by omega), hc, drop_cons l (i + 1) h, rdR_slash _ _ (by rw [he]; simp), he] at hr
  by_cases g : (rdR (l.drop (i + 1 + 1))).1 = 0
  · rw [if_pos g] at hr
    simp only [Prod.mk.injEq, true_and] at hr
    exact ⟨_, hr.symm, Prod.ext g rfl⟩
  · rw [if_neg g] at hr
    simp only [Prod.mk.injEq] at hr
    exact absurd hr.1 g
theorem rdR_at_other (l : List UInt8) (i : Nat) (u : List UInt8) (h : i < l.length) (h1 : l.getD i 0 ≠ 10) (h2 : l.getD i 0 ≠ 34) (h3 : l.getD i 0 ≠ 92) (hr : rdR (l.drop i) = (0, u)) : ∃ v, u = l.getD i 0 :: v ∧ rdR (l.drop (i + 1)) = (0, v) := by
  rw [drop_cons l i h, rdR_other _ _ h1 h2 h3] at hr
  by_cases g : (rdR (l.drop (i + 1))).1 = 0
  · rw [if_pos g] at hr
    simp only [Prod.mk.injEq, true_and] at hr
    exact ⟨_, hr.symm, Prod.ext g rfl⟩
  · rw [if_neg g] at hr
    simp only [Prod.mk.injEq] at hr
    exact absurd hr.1 g
set_option maxRecDepth 100000 in
set_option maxHeartbeats 2000000 in
theorem rrd_ok (s : ByteArray) (hs : s.size ≤ 65536) (t : List UInt8) (h : rdR s.data.toList = (0, t)) (w : World) :
    Calls Tryz.prog 71 #[.string s, .bool true] w fun r w' => r = .returned (.tuple #[.string ⟨t.toArray⟩, .int .i64 0]) ∧ Below w.heap.size w w' := by
  replace h := Lib.hid h
  have hz : Hid (s.data.toList.length = s.size) := by show _ = _; simp
  have t0 : decide (65536 < (s.size : Int)) = false := decide_eq_false (by omega)
  have I0 : Hid (w.ownsRow w.heap.size 5 1 (.slice none 0 0) 0 (([] : List UInt8).map enc8)) := ⟨rfl, .inl ⟨rfl, rfl⟩⟩
  go_enter Tryz.func71, Tryz.ntmps71
  go_wp2_with fail
  go_loopg [6, 7] (s.size + 1) (fun g s6 s7 wx => ∃ (i : Nat) (acc u : List UInt8), s.size - i < g ∧ i ≤ s.size ∧ acc.length ≤ i ∧ s7 = .int .i64 i ∧ Hid (rdR (s.data.toList.drop i) = (0, u)) ∧ Hid (acc ++ u = t) ∧ Hid (wx.ownsRow w.heap.size 5 1 s6 acc.length (acc.map enc8)) ∧ Hid (Below w.heap.size w wx))
  case atStart => exact ⟨0, [], t, by omega, by omega, by simp, rfl, h, Lib.hid rfl, I0, Lib.hid (Below.refl _ _)⟩
  case round =>
    clear h I0 t0
    obtain ⟨i, acc, u, hg, hi, hal, rfl, hR, hT, I, B⟩ := hrel
    by_cases hlt : i < s.size
    · have t1 : decide (i < s.size) = true := decide_eq_true hlt
      have hli : i < s.data.toList.length := by rw [hz.out]; exact hlt
      obtain ⟨c, hc, hB⟩ := byt_u s i hlt
      have g1 : c ≠ 10 := fun e => by have := rdR_at_10 _ i hli (hc.out.trans e); rw [hR.out] at this; cases this
      have g2 : c ≠ 34 := fun e => by have := rdR_at_34 _ i hli (hc.out.trans e); rw [hR.out] at this; cases this
      have s1 : ((c.toNat : Int) == 10) = false := ne_byt c 10 _ rfl g1
      have s2 : ((c.toNat : Int) == 34) = false := ne_byt c 34 _ rfl g2
      obtain ⟨n6, hn6⟩ : ∃ n6, n6 = acc.length := ⟨_, rfl⟩
      obtain ⟨a6, c6, rfl⟩ := own_shape I.out
      have hBs := B.out.size
      by_cases g3 : c = 92
      · subst g3
        have hend : i + 1 ≠ s.size := fun e => by have := rdR_at_end _ i (by rw [hz.out]; exact e) hc.out; rw [hR.out] at this; cases this
        have hlt2 : i + 1 < s.size := by omega
        have t2 : ((i : Int) + 1 == (s.size : Int)) = false := by simp; omega
        obtain ⟨x, hx, hB2⟩ := byt_u s (i + 1) hlt2
        have hne : esc x ≠ [] := fun e => by have := rdR_at_no _ i (by rw [hz.out]; exact hlt2) hc.out (by rw [hx.out]; exact e); rw [hR.out] at this; cases this
        obtain ⟨y, hy⟩ := esc_one x hne
        obtain ⟨v, hv1, hv2⟩ := rdR_at_yes _ i u (by rw [hz.out]; exact hlt2) hc.out y (by rw [hx.out]; exact hy) hR.out
        replace hv2 := Lib.hid hv2
        have hT2 : Hid ((acc ++ [y]) ++ v = t) := by show _ = _; rw [← hT.out, hv1]; simp
        have hst := Lib.hid (stands_yes x y hy)
        rw [show (((92 : UInt8).toNat : Int)) = 92 from rfl] at hB s1 s2
        have t3 : decide (0 ≤ (i : Int) + 1) = true := decide_eq_true (by omega)
        clear hne hy hv1 hR hT hc hx g1 g2 hn6
        go_wp2_with fail
        refine (hst.out _).mono ?_; rintro r w2 ⟨rfl, rfl⟩
        clear hst
        go_wp2_with (at_builtin; go_must (refine app_one rfl (.tmp 56) (.tmp 58) 27 rfl (u := .int .u8 (y.toNat : Int)) w.heap.size (.int .u8 0) 1 Tryz.underlying27 info5r rfl _ acc.length _ rfl rfl I.out rfl (by omega) (by omega) hBs ?_); rintro v2 w3 hown2' hb2 hs2 _ hv3; have hown2 := Lib.hid hown2'; clear hown2')
        go_roundg (gk - 1)
        case measure => omega
        case rel => exact ⟨i + 2, acc ++ [y], v, by omega, by omega, by simp; omega, by go_num, hv2, hT2, by have := hown2.out; rw [List.map_append, List.length_append]; exact Lib.hid this, Lib.hid (B.out.trans hb2)⟩
      · have s3' : ((c.toNat : Int) == 92) = false := ne_byt c 92 _ rfl g3
        have s3 : ((c.toNat : Int) != 92) = true := by rw [bne, s3']; rfl
        obtain ⟨v, hv1, hv2⟩ := rdR_at_other _ i u hli (by rw [hc.out]; exact g1) (by rw [hc.out]; exact g2) (by rw [hc.out]; exact g3) hR.out
        rw [hc.out] at hv1
        replace hv2 := Lib.hid hv2
        have hT2 : Hid ((acc ++ [c]) ++ v = t) := by show _ = _; rw [← hT.out, hv1]; simp
        clear hv1 hR hT hc g1 g2 g3 hn6
        go_wp2_with (at_builtin; go_must (refine app_one rfl (.tmp 32) (.tmp 36) 27 rfl (u := .int .u8 (c.toNat : Int)) w.heap.size (.int .u8 0) 1 Tryz.underlying27 info5r rfl _ acc.length _ rfl rfl I.out rfl (by omega) (by omega) hBs ?_); rintro v2 w3 hown2' hb2 hs2 _ hv3; have hown2 := Lib.hid hown2'; clear hown2')
        go_roundg (gk - 1)
        case measure => omega
        case rel => exact ⟨i + 1, acc ++ [c], v, by omega, by omega, by simp; omega, by go_num, hv2, hT2, by have := hown2.out; rw [List.map_append, List.length_append]; exact Lib.hid this, Lib.hid (B.out.trans hb2)⟩
    · obtain rfl : i = s.size := by omega
      have hR' := hR.out
      rw [List.drop_of_length_le (by rw [hz.out]; exact Nat.le_refl _), rdR] at hR'
      simp only [Prod.mk.injEq, true_and] at hR'
      subst hR'
      have hT' := hT.out
      rw [List.append_nil] at hT'
      subst hT'
      obtain ⟨a6, c6, rfl⟩ := own_shape I.out
      have hcv : Hid ((convert 27 9 (.slice a6 acc.length c6)).run Tryz.prog wr = .ok (.string ⟨acc.toArray⟩) wr) := conv_owned Tryz.underlying27 Tryz.underlying5 Tryz.underlying9 I.out
      have hcv' := hcv.out
      clear hR hT I
      go_wp2_with fail
      go_ret2
      exact ⟨rfl, B.out⟩
end Go.Proofs.YtiapkindbbbdpaaGreatDoor
