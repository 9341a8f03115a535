/- The contract of made. -/
import Derived.Test.YtiapkindbbbdpaaDoorT1
import Derived.Test.YtiapkindbbbdpaaDoorR6
namespace Go.Proofs.YtiapkindbbbdpaaDoor
open Go.RowKit

/-- A slice of strings. -/
def StrsR (W : World) (v : Value) (ss : List ByteArray) : Prop :=
  (∃ a c, v = .slice a 0 c ∧ ss = []) ∨ ∃ b off cap, v = .slice (some ⟨b, off, none⟩) ss.length cap ∧ b < W.heap.size ∧ ss.length ≤ cap ∧ cap ≤ maxLen ∧ ∀ i (h : i < ss.length), W.cell? ⟨b, off + i, none⟩ = some (.string ss[i])
theorem StrsR.on {W W' : World} {v : Value} {ss : List ByteArray} (h : StrsR W v ss) (hb : Below W.heap.size W W') : StrsR W' v ss := by
  rcases h with h | ⟨b, off, cap, h1, h2, h3, h4, h5⟩
  · exact .inl h
  · exact .inr ⟨b, off, cap, h1, Nat.lt_of_lt_of_le h2 hb.size, h3, h4, fun i hi => (hb.cell (p := ⟨b, off + i, none⟩) h2).trans (h5 i hi)⟩
/-- A slice of slices of strings. -/
def SRows (W : World) (v : Value) (rows : List (List ByteArray)) : Prop :=
  (∃ a c, v = .slice a 0 c ∧ rows = []) ∨ ∃ b off cap, v = .slice (some ⟨b, off, none⟩) rows.length cap ∧ b < W.heap.size ∧ rows.length ≤ cap ∧ cap ≤ maxLen ∧ ∀ i (h : i < rows.length), ∃ vi, W.cell? ⟨b, off + i, none⟩ = some vi ∧ StrsR W vi rows[i]
theorem SRows.on {W W' : World} {v : Value} {rows : List (List ByteArray)} (h : SRows W v rows) (hb : Below W.heap.size W W') : SRows W' v rows := by
  rcases h with h | ⟨b, off, cap, h1, h2, h3, h4, h5⟩
  · exact .inl h
  · refine .inr ⟨b, off, cap, h1, Nat.lt_of_lt_of_le h2 hb.size, h3, h4, fun i hi => ?_⟩
    obtain ⟨vi, a, c⟩ := h5 i hi
    exact ⟨vi, (hb.cell (p := ⟨b, off + i, none⟩) h2).trans a, c.on hb⟩
/-- A slice of slices of words. -/
def MRow (W : World) (v : Value) (Ls : List (List Wd)) : Prop :=
  (v = .slice none 0 0 ∧ Ls = []) ∨ ∃ b off cap, v = .slice (some ⟨b, off, none⟩) Ls.length cap ∧ b < W.heap.size ∧ Ls.length ≤ cap ∧ cap ≤ maxLen ∧ ∀ i (h : i < Ls.length), ∃ vi, W.cell? ⟨b, off + i, none⟩ = some vi ∧ WRow W vi Ls[i]
theorem MRow.on {W W' : World} {v : Value} {Ls : List (List Wd)} (h : MRow W v Ls) (hb : Below W.heap.size W W') : MRow W' v Ls := by
  rcases h with h | ⟨b, off, cap, h1, h2, h3, h4, h5⟩
  · exact .inl h
  · refine .inr ⟨b, off, cap, h1, Nat.lt_of_lt_of_le h2 hb.size, h3, h4, fun i hi => ?_⟩
    obtain ⟨vi, a, c⟩ := h5 i hi
    exact ⟨vi, (hb.cell (p := ⟨b, off + i, none⟩) h2).trans a, c.on hb⟩
theorem MRow.shape {W : World} {v : Value} {Ls : List (List Wd)} (h : MRow W v Ls) : ∃ a c, v = .slice a Ls.length c := by
  rcases h with ⟨h1, h2⟩ | ⟨b, off, cap, h1, _⟩
  · exact ⟨_, _, by rw [h1, h2]; rfl⟩
  · exact ⟨_, _, h1⟩
theorem MRow.at' {W : World} {a : Option Addr} {n c : Nat} {Ls : List (List Wd)} (h : MRow W (.slice a n c) Ls) (i : Nat) (hi : i < Ls.length) :
    ∃ b off a2 c2, a = some ⟨b, off, none⟩ ∧ W.cell? ⟨b, off + i, none⟩ = some (.slice a2 (Ls[i]).length c2) ∧ WRow W (.slice a2 (Ls[i]).length c2) Ls[i] := by
  rcases h with ⟨h1, h2⟩ | ⟨b, off, cap, h1, _, _, _, h5⟩
  · rw [h2] at hi; simp at hi
  · cases h1
    obtain ⟨vi, x, y⟩ := h5 i hi
    obtain ⟨a2, c2, rfl⟩ := y.shape
    exact ⟨b, off, a2, c2, rfl, x, y⟩
/-- Words that are read back: right ones, short ones. -/
def okWords (ws : List Wd) : Prop := ws.length ≤ 10 ∧ ∀ p ∈ ws, rightW p = true ∧ p.1.length ≤ 40
/-- What made returns. -/
def MdRet (n : Nat) (w : World) (e : Ending) (w' : World) : Prop := (∃ v Ls, e = .returned v ∧ MRow w' v Ls ∧ Ls.length = min n 10 ∧ ∀ ws ∈ Ls, okWords ws) ∧ Below w.heap.size w w'
theorem WdAt.set1 {W : World} {b : Nat} {t : ByteArray} {q : Bool} (h : WdAt W b t q) (q2 : Bool) : WdAt (W.setCell ⟨b, 1, none⟩ (.bool q2)) b t q2 := by
  unfold WdAt World.setCell at *
  simp [Array.getElem?_modify, h]
theorem owns_oth {W : World} {base e k n c o : Nat} {v u : Value} {xs : List Value} (h : W.ownsRow base e k v n xs) (hne : v.ownBlock ≠ some c) : (W.setCell ⟨c, o, none⟩ u).ownsRow base e k v n xs :=
  owns_heap h fun g _ _ _ hv => Below.heap_setCell W ⟨c, o, none⟩ u g (show ¬ g = c by intro e; subst e; exact hne hv)
theorem info36 : (Tryd.prog.info? 36).map (fun i => (i.zero, i.size, i.bytes)) = some (some (.slice none 0 0), 1, 24) := by kernel_rfl
theorem shr16 (x : Int) (n : Int) (h : 0 ≤ n) (w : World) : (Op.shift .shr .u16 x .i64 n).run Tryd.prog w = .ok (.int .u16 (x.fdiv (2 ^ (min n.toNat 16)))) w := by
  unfold Op.shift
  rw [if_neg (by omega)]
  rfl
/-- A line in memory: its words and their slice. -/
abbrev Wl := List Wd × Value
/-- What the outer loop keeps. -/
def MdI (w : World) (A : List Wl) (s5 : Value) (W : World) : Prop :=
  (∀ x ∈ A, W.ownsRow w.heap.size 31 2 x.2 x.1.length (wcells x.1) ∧ okWords x.1) ∧ W.ownsRow w.heap.size 36 1 s5 A.length (A.map (·.2)) ∧ Below w.heap.size w W
theorem MdI.on {w : World} {A : List Wl} {s5 : Value} {W W' : World} (h : MdI w A s5 W) (hb : Below W.heap.size W W') : MdI w A s5 W' :=
  ⟨fun x hx => ⟨owns_on (h.1 x hx).1 hb, (h.1 x hx).2⟩, owns_on h.2.1 hb, h.2.2.trans (hb.mono h.2.2.size)⟩
theorem mdI_row {w : World} {A : List Wl} {s5 : Value} {W : World} (h : MdI w A s5 W) : MRow W s5 (A.map (·.1)) := by
  rcases h.2.1.2 with ⟨h1, h2⟩ | ⟨g, cap, cur, h1, h2, h3, h4, h5, h6, h7⟩
  · left
    rw [List.eq_nil_of_length_eq_zero h2]
    exact ⟨h1, rfl⟩
  · right
    refine ⟨g, 0, cap, by rw [List.length_map]; exact h1, (Array.getElem?_eq_some_iff.1 h3).1, by rw [List.length_map]; exact h4, h5, fun i hi => ?_⟩
    rw [List.length_map] at hi
    refine ⟨(A[i]).2, ?_, ?_⟩
    · rw [Nat.zero_add, Lib.cell_of_heap h3]
      have h8 := congrArg (·[i]?) h7
      simp only [List.getElem?_take, List.getElem?_map] at h8
      rw [if_pos (by omega), List.getElem?_eq_getElem hi] at h8
      simpa using h8
    · rw [List.getElem_map]
      exact WRow.of_owned (h.1 A[i] (List.getElem_mem hi)).1
theorem mdI_app {w : World} {A : List Wl} {s5 v5 v8 : Value} {ws : List Wd} {W W' : World} (h : MdI w A s5 W) (hw : W.ownsRow w.heap.size 31 2 v8 ws.length (wcells ws)) (hok : okWords ws)
    (hown : W'.ownsRow w.heap.size 36 1 v5 (A.length + 1) (A.map (·.2) ++ [v8])) (hb : Below w.heap.size W W') (hr : ∀ row, s5.ownBlock ≠ some row → row < W.heap.size → W'.heap[row]? = W.heap[row]?) : MdI w (A ++ [(ws, v8)]) v5 W' := by
  refine ⟨fun x hx => ?_, ?_, h.2.2.trans hb⟩
  · have h1 : W.ownsRow w.heap.size 31 2 x.2 x.1.length (wcells x.1) ∧ okWords x.1 := by
      rw [List.mem_append, List.mem_singleton] at hx
      rcases hx with hx | rfl
      · exact h.1 x hx
      · exact ⟨hw, hok⟩
    refine ⟨owns_heap h1.1 fun g cur hg _ _ => hr g ?_ (Array.getElem?_eq_some_iff.1 hg).1, h1.2⟩
    intro e
    rcases h.2.1.2 with ⟨rfl, _⟩ | ⟨g', cap, cur', rfl, _, h3, _⟩
    · simp [Value.ownBlock] at e
    · simp [Value.ownBlock] at e
      subst e
      rw [hg] at h3
      simp at h3
  · rw [List.length_append, List.map_append]
    exact hown
theorem SRows.at' {W : World} {a : Option Addr} {n c : Nat} {rows : List (List ByteArray)} (h : SRows W (.slice a n c) rows) (i : Nat) (hi : i < rows.length) :
    ∃ b off a2 c2, a = some ⟨b, off, none⟩ ∧ W.cell? ⟨b, off + i, none⟩ = some (.slice a2 (rows[i]).length c2) ∧ StrsR W (.slice a2 (rows[i]).length c2) rows[i] ∧ (rows[i]).length ≤ c2 := by
  rcases h with ⟨_, _, h1, h2⟩ | ⟨b, off, cap, h1, _, _, _, h5⟩
  · rw [h2] at hi; simp at hi
  · cases h1
    obtain ⟨vi, x, y⟩ := h5 i hi
    rcases y with ⟨ya, yc, y1, y2⟩ | ⟨b2, off2, cap2, y1, y3, y4, y5⟩
    · refine ⟨b, off, ya, yc, rfl, ?_, ?_, ?_⟩
      · rw [y2, x, y1]; rfl
      · rw [y2]; exact .inl ⟨_, _, rfl, rfl⟩
      · rw [y2]; exact Nat.zero_le _
    · subst y1
      exact ⟨b, off, _, _, rfl, x, .inr ⟨b2, off2, cap2, rfl, y3, y4, y5⟩, y4⟩
theorem StrsR.at' {W : World} {a : Option Addr} {n c : Nat} {ss : List ByteArray} (h : StrsR W (.slice a n c) ss) (i : Nat) (hi : i < ss.length) : ∃ b off, a = some ⟨b, off, none⟩ ∧ W.cell? ⟨b, off + i, none⟩ = some (.string ss[i]) := by
  rcases h with ⟨_, _, h1, h2⟩ | ⟨b, off, cap, h1, _, _, _, h5⟩
  · rw [h2] at hi; simp at hi
  · cases h1
    exact ⟨b, off, rfl, h5 i hi⟩
theorem right_or (u : ByteArray) (q2 : Bool) (hv : vld u = true) (hz : u.size ≤ 40) (hq : bareF u = false → q2 = true) : rightF u q2 = true := by
  cases q2 with
  | true => unfold rightF; rw [if_pos rfl, decide_eq_true (by omega), hv]; rfl
  | false =>
    cases hb : bareF u with
    | true => exact hb
    | false => exact absurd (hq hb) (by simp)
set_option maxRecDepth 100000 in
set_option maxHeartbeats 4000000 in
theorem made_any (v : Value) (q : Int) (rows : List (List ByteArray)) (w : World) (hv : SRows w v rows) (hT : U8 w) :
    Calls Tryd.prog 22 #[v, .int .u16 q] w (MdRet rows.length w) := by
  obtain ⟨a, c, rfl, hc⟩ : ∃ a c, v = .slice a rows.length c ∧ rows.length ≤ c := by
    rcases hv with ⟨_, _, h1, h2⟩ | ⟨b, off, cap, h1, _, h2, _⟩
    · exact ⟨_, _, by rw [h1, h2]; rfl, by rw [h2]; exact Nat.zero_le _⟩
    · exact ⟨_, _, h1, h2⟩
  obtain ⟨m, hm⟩ : ∃ m, Hid (min rows.length 10 = m) := ⟨_, Lib.hid rfl⟩
  have hm' : (min (rows.length : Int) 10).toNat = m := by rw [← hm.out]; omega
  have hm10 : m ≤ 10 := by have := hm.out; omega
  have hmr : m ≤ rows.length := by have := hm.out; omega
  replace hv := Lib.hid hv
  replace hT := Lib.hid (fun (W : World) (h : Below w.heap.size w W) => hT.on hT.lt h)
  go_enter Tryd.func22, Tryd.ntmps22
  go_wp2_with fail
  clear hm'
  have I0 : Hid (MdI w [] (.slice none 0 0) w) := Lib.hid ⟨(fun x hx => by cases hx), ⟨rfl, .inl ⟨rfl, rfl⟩⟩, Below.refl _ _⟩
  go_loopg [5, 18] (m + 1) (fun g s5 s18 wx => ∃ (i : Nat) (A : List Wl), i + g = m + 1 ∧ s18 = .int .i64 i ∧ i ≤ m ∧ Hid (A.length = i) ∧ Hid (MdI w A s5 wx))
  case atStart => exact ⟨0, [], by omega, rfl, by omega, Lib.hid rfl, I0⟩
  case round =>
    clear I0
    obtain ⟨i, A, hg, rfl, hi, hA, I⟩ := hrel
    obtain ⟨a5, c5, rfl⟩ := own_shape I.out.2.1
    by_cases hlt : i < m
    · have t1 : decide (i < m) = true := decide_eq_true hlt
      have t1' : decide ((i : Int) < (m : Int)) = true := decide_eq_true (by omega)
      obtain ⟨b, off, a2, c2, rfl, x0, hss, hc2⟩ := (hv.out.on I.out.2.2).at' i (by omega)
      obtain ⟨ss, hsq⟩ : ∃ ss, Hid (rows[i]'(by omega) = ss) := ⟨_, Lib.hid rfl⟩
      rw [hsq.out] at x0 hss hc2
      replace hss := Lib.hid hss
      obtain ⟨m2, hm2⟩ : ∃ m2, Hid (min ss.length 10 = m2) := ⟨_, Lib.hid rfl⟩
      have hm2' : (min (ss.length : Int) 10).toNat = m2 := by rw [← hm2.out]; omega
      have hm210 : m2 ≤ 10 := by have := hm2.out; omega
      have hm2r : m2 ≤ ss.length := by have := hm2.out; omega
      have hslt : ss.length ≤ 9223372036854775807 := by
        rcases hss.out with ⟨_, _, _, h2⟩ | ⟨_, _, cap, _, _, h3, h4, _⟩
        · rw [h2]; simp
        · unfold maxLen at h4; omega
      clear hsq hm2
      go_wp2_with fail
      clear hm2' x0 t1 t1'
      obtain ⟨wo, hwo⟩ : ∃ wo : World, wo = wr := ⟨_, rfl⟩
      subst hwo
      have hwo := I.out.2.2.size
      go_loopg [8, 29] (m2 + 1) (fun g s8 s29 wx => ∃ (k : Nat) (ws : List Wd), k + g = m2 + 1 ∧ s29 = .int .i64 k ∧ k ≤ m2 ∧ Hid (ws.length = k) ∧ Hid (∀ p ∈ ws, rightW p = true ∧ p.1.length ≤ 40) ∧ Hid (wx.ownsRow wo.heap.size 31 2 s8 ws.length (wcells ws)) ∧ Hid (Below wo.heap.size wo wx))
      case atStart => exact ⟨0, [], by omega, rfl, by omega, Lib.hid rfl, Lib.hid (by simp), Lib.hid ⟨rfl, .inl ⟨rfl, rfl⟩⟩, Lib.hid (Below.refl _ _)⟩
      case round =>
        obtain ⟨k, ws, hg2, rfl, hk, hwl, hok, J, B⟩ := hrel
        obtain ⟨a8, c8, rfl⟩ := own_shape J.out
        by_cases hlt2 : k < m2
        · have t2 : decide (k < m2) = true := decide_eq_true hlt2
          have t2' : decide ((k : Int) < (m2 : Int)) = true := decide_eq_true (by omega)
          obtain ⟨b2, off2, rfl, y0⟩ := (hss.out.on B.out).at' k (by omega)
          obtain ⟨s0, hs0⟩ : ∃ s0, Hid (ss[k]'(by omega) = s0) := ⟨_, Lib.hid rfl⟩
          rw [hs0.out] at y0
          have hUw := hT.out _ (I.out.2.2.trans (B.out.mono hwo))
          have htx := Lib.hid (text_any s0 wr hUw)
          clear hs0
          go_wp2_with fail
          refine (htx.out).mono ?_; rintro e w2 ⟨⟨u, rfl, hv2, hz2⟩, hb⟩
          replace J := Lib.hid (owns_on J.out hb)
          replace B := Lib.hid (B.out.trans (hb.mono B.out.size))
          have hof := of_any u (by omega) w2
          obtain ⟨q0, hq0⟩ : ∃ q0, Hid ((!bareF u) = q0) := ⟨_, Lib.hid rfl⟩
          rw [hq0.out] at hof
          replace hof := Lib.hid hof
          replace hv2 := Lib.hid hv2
          clear htx hb y0 hUw
          go_wp2_with fail
          refine (hof.out).mono ?_; rintro e w3 ⟨rfl, hb⟩
          replace J := Lib.hid (owns_on J.out hb)
          replace B := Lib.hid (B.out.trans (hb.mono B.out.size))
          clear hof hb
          go_upto_region 10 with (fail)
          show Code.wp _ _ _ _ (w3.alloc (.cells #[.string u, .bool q0] 31))
          have hwd := Lib.hid (wd_new w3 u q0)
          have hnb : Hid ((Value.slice a8 ws.length c8).ownBlock ≠ some w3.heap.size) := Lib.hid (fun h => absurd (own_lt J.out _ h) (Nat.lt_irrefl _))
          have hNW := B.out.size
          replace J := Lib.hid (World.ownsRow.alloc J.out (.cells #[.string u, .bool q0] 31))
          replace B := Lib.hid (B.out.alloc B.out.size (.cells #[.string u, .bool q0] 31))
          generalize w3.alloc (.cells #[.string u, .bool q0] 31) = W1 at hwd J B ⊢
          generalize w3.heap.size = N at hwd hnb hNW ⊢
          obtain ⟨⟨x0, x1⟩, x2, x3⟩ := hwd.out.cells
          have g10 : i + k ≤ 20 := by omega
          go_cut [] (fun wx => Hid (∃ q2, (q0 = true → q2 = true) ∧ wx = W1.setCell ⟨N, 1, none⟩ (.bool q2)))
          case first =>
            cases q0 with
            | true =>
              go_wp2_with fail
              go_meet
              exact Lib.hid ⟨true, fun _ => rfl, rfl⟩
            | false =>
              have hsh := shr16 q (((i : Int) + k) % 16) (by omega)
              go_wp2_with fail
              go_meet
              exact Lib.hid ⟨_, (fun h => by cases h), rfl⟩
          case rest =>
            obtain ⟨q2, hq2, rfl⟩ := hcut.out
            have hlu : Hid ((⟨u.data.toList.toArray⟩ : ByteArray) = u) := Lib.hid (ba_ext rfl).symm
            have hrt : Hid (rightW (u.data.toList, q2) = true) := by
              show _ = _
              unfold rightW
              rw [hlu.out]
              exact right_or u q2 hv2.out hz2 (fun hb => hq2 (by rw [← hq0.out, hb]; rfl))
            have hok2 : Hid (∀ p ∈ ws ++ [(u.data.toList, q2)], rightW p = true ∧ p.1.length ≤ 40) := by
              intro p hp
              rw [List.mem_append, List.mem_singleton] at hp
              rcases hp with hp | rfl
              · exact hok.out p hp
              · exact ⟨hrt.out, by show u.data.toList.length ≤ _; simpa using hz2⟩
            replace J := Lib.hid (owns_oth (c := N) (o := 1) (u := .bool q2) J.out hnb.out)
            replace B := Lib.hid (B.out.setCell (p := ⟨N, 1, none⟩) hNW (.bool q2))
            replace hwd := Lib.hid (hwd.out.set1 q2)
            clear x0 x1 x2 x3 hcut hq2 hok hrt hq0 hv2
            generalize W1.setCell ⟨N, 1, none⟩ (.bool q2) = W3 at hwd J B ⊢
            obtain ⟨⟨x0, x1⟩, _⟩ := hwd.out.cells
            have hBs := B.out.size
            go_wp2_with (at_builtin; go_must (refine app_el rfl (.tmp 50) (.tmp 52) 36 rfl 2 #[.string u, .bool q2] rfl (by decide) wo.heap.size (.agg #[.string ⟨#[]⟩, .bool false]) 24 Tryd.underlying36 info31 rfl _ ws.length (wcells ws) rfl rfl J.out (by intro z hz; simp at hz; rcases hz with rfl | rfl <;> rfl) (by decide) (by have := hwl.out; omega) hBs ?_); rintro v2 w5 hown2' hb5 _ _ _; have hown2 := Lib.hid hown2'; clear hown2')
            go_roundg (gk - 1)
            case measure => omega
            case rel => exact ⟨k + 1, ws ++ [(u.data.toList, q2)], by omega, by go_num, by omega, Lib.hid (by rw [List.length_append, hwl.out]; rfl), hok2, Lib.hid (by have := hown2.out; rw [List.length_append, wcells_snoc, show (⟨u.data.toList.toArray⟩ : ByteArray) = u from (ba_ext rfl).symm]; exact this), Lib.hid (B.out.trans hb5)⟩
        · obtain rfl : k = m2 := by omega
          have t2 : decide (k < k) = false := decide_eq_false (by omega)
          have J2 := Lib.hid (owns_mono J.out hwo)
          replace I := Lib.hid (I.out.on B.out)
          have hokw : Hid (okWords ws) := Lib.hid ⟨by have := hwl.out; omega, hok.out⟩
          have hBs := I.out.2.2.size
          clear J hok B hss
          go_wp2_with (at_builtin; go_must (refine app_one rfl (.tmp 55) (.tmp 57) 42 rfl (u := .slice a8 ws.length c8) w.heap.size (.slice none 0 0) 24 Tryd.underlying42 info36 rfl _ A.length _ rfl rfl I.out.2.1 rfl (by omega) (by have := hA.out; omega) hBs ?_); rintro v5 w5 hown2' hb5 _ hrows' _; have hown2 := Lib.hid hown2'; have hrows := Lib.hid hrows'; clear hown2' hrows')
          have hfin := Lib.hid (mdI_app I.out J2.out hokw.out hown2.out hb5 hrows.out)
          go_roundg (m + 1 - (i + 1))
          case measure => omega
          case rel => exact ⟨i + 1, A ++ [(ws, .slice a8 ws.length c8)], by omega, by go_num, by omega, Lib.hid (by rw [List.length_append, hA.out]; rfl), hfin⟩
    · obtain rfl : i = m := by omega
      have t1 : decide (i < i) = false := decide_eq_false (by omega)
      have hrow := mdI_row I.out
      have hBl := Lib.hid I.out.2.2
      have hok : Hid (∀ ws ∈ A.map (·.1), okWords ws) := by
        intro ws hws
        obtain ⟨x, hx, rfl⟩ := List.mem_map.1 hws
        exact (I.out.1 x hx).2
      replace hrow := Lib.hid hrow
      clear I
      go_wp2_with fail
      go_ret
      exact ⟨⟨_, _, rfl, hrow.out, by rw [List.length_map, hA.out]; exact hm.out.symm, hok.out⟩, hBl.out⟩
end Go.Proofs.YtiapkindbbbdpaaDoor
