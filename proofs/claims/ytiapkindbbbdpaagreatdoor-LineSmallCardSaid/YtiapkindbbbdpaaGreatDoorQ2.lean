/- The contract of line.Join over the translation. -/
import Derived.Test.YtiapkindbbbdpaaGreatDoorQ1
import Derived.Test.YtiapkindbbbdpaaGreatDoorK15
namespace Go.Proofs.YtiapkindbbbdpaaGreatDoor
open Go.RowKit

/-- The form of a word. -/
def formW (p : Wd) : List UInt8 := if p.2 then 34 :: quL p.1 ++ [34] else p.1
def rightW (p : Wd) : Bool := rightF ⟨p.1.toArray⟩ p.2
/-- Join: the error, the text. -/
def joinF (ws : List Wd) : Int × List UInt8 :=
  if ws.all rightW = false then (250, []) else if 64 < ws.length then (5, []) else if 65536 < (Lib.join (ws.map formW) [32]).length then (3, []) else (0, Lib.join (ws.map formW) [32])
def strV (l : List UInt8) : Value := .string ⟨l.toArray⟩
theorem info9 : (Tryz.prog.info? 9).map (fun i => (i.zero, i.size, i.bytes)) = some (some (.string ⟨#[]⟩), 1, 16) := by kernel_rfl
theorem right_size (s : ByteArray) (q : Bool) (h : rightF s q = true) : s.size ≤ 16384 := by
  unfold rightF at h
  cases q with
  | true => simp at h; exact h.1
  | false => simp [bareF] at h; omega
theorem formW_len (p : Wd) (h : rightW p = true) : (formW p).length ≤ 40000 := by
  have h1 := right_size _ _ h
  rw [ba_size] at h1
  have h2 := quL_len p.1
  unfold formW
  split
  · simp; omega
  · omega
theorem joinTail_len (xs : List (List UInt8)) (K : Nat) (h : ∀ x ∈ xs, x.length ≤ K) : (Lib.joinTail [32] xs).length ≤ xs.length * (K + 1) := by
  induction xs with
  | nil => exact Nat.zero_le _
  | cons x r ih =>
    have h1 := h x (List.mem_cons_self ..)
    have h2 := ih (fun y hy => h y (List.mem_cons_of_mem _ hy))
    unfold Lib.joinTail at h2 ⊢
    rw [show (x :: r).length * (K + 1) = r.length * (K + 1) + (K + 1) by rw [List.length_cons, Nat.succ_mul], List.map_cons, List.flatten_cons, List.length_append, List.length_append]
    simp only [List.length_cons, List.length_nil]
    omega
theorem join_len (xs : List (List UInt8)) (K : Nat) (h : ∀ x ∈ xs, x.length ≤ K) : (Lib.join xs [32]).length ≤ xs.length * (K + 1) := by
  cases xs with
  | nil => exact Nat.zero_le _
  | cons x r =>
    have h1 := h x (List.mem_cons_self ..)
    have h2 := joinTail_len r K (fun y hy => h y (List.mem_cons_of_mem _ hy))
    rw [Lib.join_cons, List.length_append, List.length_cons, Nat.succ_mul]
    omega
/-- What Join returns. -/
def JRet (e : Int) (t : List UInt8) (w : World) (x : Ending) (w' : World) : Prop := x = .returned (.tuple #[.string ⟨t.toArray⟩, .int .i64 e]) ∧ Below w.heap.size w w'
theorem own_nil_cells {W : World} {base e n : Nat} {v : Value} {xs : List Value} (h : W.ownsRow base e 1 v n xs) (hn : 0 < n) : ∃ b c, v = .slice (some ⟨b, 0, none⟩) n c ∧ b < W.heap.size ∧ n ≤ c ∧ ∀ j, j < n → W.cell? ⟨b, j, none⟩ = xs[j]? := by
  rcases h.2 with ⟨h1, h2⟩ | ⟨g, cap, cur, h1, h2, h3, h4, h5, h6, h7⟩
  · omega
  · refine ⟨g, cap, h1, (Array.getElem?_eq_some_iff.1 h3).1, h4, fun j hj => ?_⟩
    rw [Lib.cell_of_heap h3, ← h7, List.getElem?_take_of_lt (by omega)]
    simp
set_option maxRecDepth 100000 in
set_option maxHeartbeats 2000000 in
theorem join_any (v : Value) (ws : List Wd) (hl : ws.length ≤ 1000) (e : Int) (t : List UInt8) (hsz0 : ∀ p ∈ ws, p.1.length ≤ 100000) (hJ : joinF ws = (e, t)) (w : World) (hv : WRow w v ws) :
    Calls Tryz.prog 11 #[v] w (JRet e t w) := by
  replace hJ := Lib.hid hJ
  replace hsz0 := Lib.hid hsz0
  obtain ⟨av, cv, rfl⟩ := hv.shape
  replace hv := Lib.hid hv
  have E31 := eq31
  have I0 : Hid (w.ownsRow w.heap.size 9 1 (.slice none 0 0) 0 (([] : List Wd).map (fun p => strV (formW p)))) := ⟨rfl, .inl ⟨rfl, rfl⟩⟩
  go_enter Tryz.func11, Tryz.ntmps11
  go_wp2_with fail
  go_loopg [4, 11] (ws.length + 1) (fun g s4 s11 wx => ∃ i : Nat, i + g = ws.length + 1 ∧ s11 = .int .i64 i ∧ i ≤ ws.length ∧ Hid (∀ p ∈ ws.take i, rightW p = true) ∧ Hid (wx.ownsRow w.heap.size 9 1 s4 i ((ws.take i).map (fun p => strV (formW p)))) ∧ Hid (Below w.heap.size w wx))
  case atStart => exact ⟨0, by omega, rfl, by omega, Lib.hid (by simp), I0, Lib.hid (Below.refl _ _)⟩
  case round =>
    clear I0
    obtain ⟨i, hg, rfl, hi, hA, I, B⟩ := hrel
    obtain ⟨a4, c4, rfl⟩ := own_shape I.out
    by_cases hlt : i < ws.length
    · have t1 : decide (i < ws.length) = true := decide_eq_true hlt
      have t2 : decide ((i : Int) < (ws.length : Int)) = true := decide_eq_true (by omega)
      obtain ⟨b, off, rfl, x0, x1⟩ := (hv.out.on B.out).at' i hlt
      obtain ⟨p, hp⟩ : ∃ p, Hid (ws[i] = p) := ⟨_, Lib.hid rfl⟩
      rw [hp.out] at x0 x1
      obtain ⟨s, hs⟩ : ∃ s : ByteArray, Hid (⟨p.1.toArray⟩ = s) := ⟨_, Lib.hid rfl⟩
      rw [hs.out] at x0
      obtain ⟨q, hq⟩ : ∃ q, Hid (p.2 = q) := ⟨_, Lib.hid rfl⟩
      rw [hq.out] at x1
      obtain ⟨r, hr⟩ : ∃ r, Hid (rightF s q = r) := ⟨_, Lib.hid rfl⟩
      have hrw : Hid (rightW p = r) := by show _ = _; unfold rightW; rw [hs.out, hq.out]; exact hr.out
      have hsz : s.size ≤ 100000 := by rw [← hs.out, ba_size]; exact hsz0.out p (by rw [← hp.out]; exact List.getElem_mem hlt)
      have htk : Hid (ws.take (i + 1) = ws.take i ++ [p]) := by show _ = _; rw [List.take_add_one, List.getElem?_eq_getElem hlt, hp.out]; rfl
      have hmem : Hid (p ∈ ws) := Lib.hid (by rw [← hp.out]; exact List.getElem_mem hlt)
      have hfw : Hid (strV (formW p) = .string (if q then ⟨(34 :: quL s.data.toList ++ [34]).toArray⟩ else s)) := by
        show _ = _
        unfold strV formW
        rw [hq.out, ← hs.out]
        cases q <;> rfl
      have hs16 : Hid (r = true → s.size ≤ 16384) := Lib.hid (fun e => right_size s q (hr.out.trans e))
      have hrc := Lib.hid (fun W => right_to s q (by omega) r hr.out W)
      clear hp hs hq hr hv
      go_upto_region 5 with (fail)
      show Code.wp _ _ _ _ (wr.alloc (.cells #[.string s, .bool q] 29))
      have hwd := Lib.hid (wd_new wr s q)
      replace I := Lib.hid (World.ownsRow.alloc I.out (.cells #[.string s, .bool q] 29))
      replace B := Lib.hid (B.out.alloc B.out.size (.cells #[.string s, .bool q] 29))
      clear x0 x1
      generalize wr.alloc (.cells #[.string s, .bool q] 29) = W1 at hwd I B ⊢
      generalize wr.heap.size = N at hwd ⊢
      obtain ⟨⟨x0, x1⟩, _⟩ := hwd.out.cells
      cases r with
      | false =>
        have h1 := hJ.out
        unfold joinF at h1
        rw [if_pos (List.all_eq_false.2 ⟨p, hmem.out, by rw [hrw.out]; simp⟩)] at h1
        simp only [Prod.mk.injEq] at h1
        obtain ⟨rfl, rfl⟩ := h1
        clear hJ hA hrw hfw
        go_wp2_with fail
        refine (hrc.out _).mono ?_; rintro x w2 ⟨rfl, hb⟩
        go_wp2_with fail
        go_ret2
        exact ⟨rfl, B.out.trans (hb.mono B.out.size)⟩
      | true =>
        have hA2 : Hid (∀ p ∈ ws.take (i + 1), rightW p = true) := by
          intro p' hp'
          rw [htk.out, List.mem_append, List.mem_singleton] at hp'
          rcases hp' with h | rfl
          · exact hA.out _ h
          · exact hrw.out
        clear hA hrw hmem
        go_wp2_with fail
        refine (hrc.out _).mono ?_; rintro x w2 ⟨rfl, hb⟩
        replace hwd := Lib.hid (hwd.out.block hb)
        replace I := Lib.hid (owns_on I.out hb)
        replace B := Lib.hid (B.out.trans (hb.mono B.out.size))
        clear hrc hb x0 x1
        obtain ⟨⟨x0, x1⟩, _⟩ := hwd.out.cells
        cases q with
        | true =>
          obtain ⟨u, hu⟩ : ∃ u : ByteArray, Hid (u = ⟨(34 :: quL s.data.toList ++ [34]).toArray⟩) := ⟨_, Lib.hid rfl⟩
          have hfw2 : Hid (strV (formW p) = .string u) := by show _ = _; rw [hfw.out, hu.out]; rfl
          have hqc := Lib.hid (fun W => quote_of s (by have := hs16.out trivial; omega) u hu.out W)
          clear hfw hu
          go_wp2_with fail
          refine (hqc.out _).mono ?_; rintro x w3 ⟨rfl, hb⟩
          replace I := Lib.hid (owns_on I.out hb)
          replace B := Lib.hid (B.out.trans (hb.mono B.out.size))
          have hBs := B.out.size
          clear hqc hb x0 x1 hwd
          go_wp2_with (at_builtin; go_must (refine app_one rfl (.tmp 29) (.tmp 31) 25 rfl (u := .string u) w.heap.size (.string ⟨#[]⟩) 16 Tryz.underlying25 info9 rfl _ i _ rfl rfl I.out rfl (by omega) (by omega) hBs ?_); rintro v2 w4 hown2' hb2 hs2 _ hv3; have hown2 := Lib.hid hown2'; clear hown2')
          go_roundg (gk - 1)
          case measure => omega
          case rel => exact ⟨i + 1, by omega, by go_num, by omega, hA2, by have := hown2.out; rw [htk.out, List.map_append, List.map_singleton, hfw2.out]; exact Lib.hid this, Lib.hid (B.out.trans hb2)⟩
        | false =>
          have hfw2 : Hid (strV (formW p) = .string s) := by show _ = _; rw [hfw.out]; rfl
          have hBs := B.out.size
          clear hfw
          go_wp2_with (at_builtin; go_must (refine app_one rfl (.tmp 29) (.tmp 31) 25 rfl (u := .string s) w.heap.size (.string ⟨#[]⟩) 16 Tryz.underlying25 info9 rfl _ i _ rfl rfl I.out rfl (by omega) (by omega) hBs ?_); rintro v2 w4 hown2' hb2 hs2 _ hv3; have hown2 := Lib.hid hown2'; clear hown2')
          go_roundg (gk - 1)
          case measure => omega
          case rel => exact ⟨i + 1, by omega, by go_num, by omega, hA2, by have := hown2.out; rw [htk.out, List.map_append, List.map_singleton, hfw2.out]; exact Lib.hid this, Lib.hid (B.out.trans hb2)⟩
    · obtain rfl : i = ws.length := by omega
      have t1 : decide (ws.length < ws.length) = false := decide_eq_false (by omega)
      have t2 : decide ((ws.length : Int) < (ws.length : Int)) = false := decide_eq_false (by omega)
      have hA' := hA.out
      rw [List.take_of_length_le (Nat.le_refl _)] at hA'
      have I2 := I.out
      rw [List.take_of_length_le (Nat.le_refl _)] at I2
      have hall : ws.all rightW = true := List.all_eq_true.2 hA'
      have h1 := hJ.out
      unfold joinF at h1
      rw [if_neg (by rw [hall]; simp)] at h1
      by_cases h64 : 64 < ws.length
      · rw [if_pos h64] at h1
        simp only [Prod.mk.injEq] at h1
        obtain ⟨rfl, rfl⟩ := h1
        have t3 : decide (64 < (ws.length : Int)) = true := decide_eq_true (by omega)
        clear hJ hA hA' hall I I2
        go_wp2_with fail
        go_ret2
        exact ⟨rfl, B.out⟩
      · rw [if_neg h64] at h1
        have t3 : decide (64 < (ws.length : Int)) = false := decide_eq_false (by omega)
        obtain ⟨l, hl2⟩ : ∃ l, Hid (Lib.join (ws.map formW) [32] = l) := ⟨_, Lib.hid rfl⟩
        rw [hl2.out] at h1
        replace h1 := Lib.hid h1
        have hll : l.length ≤ 100000000 := by
          rw [← hl2.out]
          have := join_len (ws.map formW) 40000 (by
            intro x hx
            obtain ⟨p, hp, rfl⟩ := List.mem_map.1 hx
            exact formW_len p (hA' p hp))
          rw [List.length_map] at this
          omega
        obtain ⟨s, hs⟩ : ∃ s : ByteArray, Hid (s = ⟨l.toArray⟩) := ⟨_, Lib.hid rfl⟩
        have hsz : s.size = l.length := by rw [hs.out, ba_size]
        have hcall : Hid (Calls Tryz.prog 40 #[.slice a4 ws.length c4, .string ⟨#[32]⟩] wr fun e w' => e = .returned (.string s) ∧ Below wr.heap.size wr w') := by
          rcases Nat.eq_zero_or_pos ws.length with h0 | h0
          · have hw0 : ws = [] := List.eq_nil_of_length_eq_zero h0
            subst hw0
            have hs0 : s = ⟨#[]⟩ := by rw [hs.out, ← hl2.out]; rfl
            subst hs0
            refine (Tryz.strings_Join_none a4 c4 _ wr).mono ?_
            rintro e w' ⟨rfl, rfl⟩
            exact ⟨rfl, Below.refl _ _⟩
          · obtain ⟨bk, c, hv4, hbk, hcap, hcells⟩ := own_nil_cells I2 h0
            obtain ⟨rfl, _, rfl⟩ := (Value.slice.injEq ..).mp hv4
            have hj := Tryz.strings_Join bk 0 c4 (ws.map (fun p => (⟨(formW p).toArray⟩ : ByteArray))) ⟨#[32]⟩ wr (by
              intro j x hx
              rw [Nat.zero_add]
              rw [List.getElem?_map] at hx
              rcases hwj : ws[j]? with _ | p
              · rw [hwj] at hx; cases hx
              · rw [hwj] at hx
                simp only [Option.map_some, Option.some.injEq] at hx
                subst hx
                have hjl : j < ws.length := (List.getElem?_eq_some_iff.1 hwj).1
                rw [hcells j hjl, List.getElem?_map, hwj]
                rfl) hbk (by rw [List.length_map]; omega) (by rw [List.length_map]; exact hcap) (by
              rw [List.map_map]
              show (Lib.join (ws.map formW) [32]).length ≤ _
              rw [hl2.out]; omega)
            rw [List.map_map, List.length_map] at hj
            have e1 : Lib.join (ws.map ((fun x => x.data.toList) ∘ fun p => (⟨(formW p).toArray⟩ : ByteArray))) (⟨#[32]⟩ : ByteArray).data.toList = l := hl2.out
            rw [e1, ← hs.out] at hj
            exact hj
        clear hJ hA hA' hall I I2 hl2
        by_cases hbig : 65536 < l.length
        · have h2 := h1.out
          rw [if_pos hbig] at h2
          simp only [Prod.mk.injEq] at h2
          obtain ⟨rfl, rfl⟩ := h2
          have t4 : decide (65536 < (s.size : Int)) = true := decide_eq_true (by omega)
          clear h1
          go_wp2_with fail
          refine hcall.out.mono ?_; rintro x w2 ⟨rfl, hb⟩
          go_wp2_with fail
          go_ret2
          exact ⟨rfl, B.out.trans (hb.mono B.out.size)⟩
        · have h2 := h1.out
          rw [if_neg hbig] at h2
          simp only [Prod.mk.injEq] at h2
          obtain ⟨rfl, rfl⟩ := h2
          have t4 : decide (65536 < (s.size : Int)) = false := decide_eq_false (by omega)
          clear h1
          go_wp2_with fail
          refine hcall.out.mono ?_; rintro x w2 ⟨rfl, hb⟩
          go_wp2_with fail
          go_ret2
          exact ⟨by rw [← hs.out]; rfl, B.out.trans (hb.mono B.out.size)⟩
end Go.Proofs.YtiapkindbbbdpaaGreatDoor
