/- tells. -/
import Derived.Test.YtimiejahkcjcdaaDoorM31
import Derived.Test.YtimiejahkcjcdaaDoorMR
namespace Go.Proofs.YtimiejahkcjcdaaDoor
open Go.RowKit

theorem rowB_cap {w : World} {a : Option Addr} {n c : Nat} {l : List UInt8} (h : RowB w (.slice a n c) l) : n ≤ c := by
  rcases h with ⟨_, _, _, hv, _⟩ | ⟨_, _, _, hv, _, h1, _⟩
  · cases hv; omega
  · simp only [Value.slice.injEq] at hv
    obtain ⟨_, h2, h3⟩ := hv
    omega
/-- What the calls before the loop leave. -/
def TellsA (w : World) (s : S4) (v1 v2 : Value) (l : List UInt8) (wx : World) : Prop :=
  St4 wx w.heap.size s ∧ RowB wx v1 l ∧ RowB wx v2 l ∧ Tabs wx ∧ Below w.heap.size w wx ∧ w.heap.size + 1 ≤ wx.heap.size
theorem TellsA.on {w : World} {s : S4} {v1 v2 : Value} {l : List UInt8} {A B : World} (h : TellsA w s v1 v2 l A) (hb : Below A.heap.size A B) : TellsA w s v1 v2 l B := by
  obtain ⟨h1, h2, h3, h4, h5, h6⟩ := h
  exact ⟨h1.block (hb.block _ (by omega)), h2.on hb, h3.on hb, h4.on hb, h5.trans (hb.mono (by omega)), Nat.le_trans h6 hb.size⟩
set_option maxRecDepth 100000 in
set_option maxHeartbeats 4000000 in
theorem tells_any (s : S4) (a : Option Addr) (cap : Nat) (l : List UInt8) (hl : l.length ≤ 1000) (n : Nat) (hn : n < 18446744073709551616) (w : World) (hr : RowB w (.slice a l.length cap) l) (hT : Tabs w) :
    Calls Tryd.prog 19 #[.agg #[.int .u32 (U s.a), .int .u32 (U s.b), .int .u32 (U s.c), .int .u32 (U s.d)], .slice a l.length cap, .int .u64 n] w fun e w' => e = .returned (.bool true) ∧ Below w.heap.size w w' := by
  obtain ⟨d, hd⟩ : ∃ d, Hid (d = sumF l) := ⟨_, rfl⟩
  obtain ⟨x, hx⟩ : ∃ x, Hid (x = wordF l) := ⟨_, rfl⟩
  have hx64 : x < 18446744073709551616 := by rw [hx.out]; exact wN_8 _ 8 (Nat.le_refl _)
  obtain ⟨s0, hs0⟩ : ∃ s, Hid (s = S0) := ⟨_, rfl⟩
  have E30 := eq30
  have E34 := eq34
  have qd : eqD d d = true := eqD_same d
  have qs : decide (s0 = s0) = true := decide_eq_true rfl
  have B0 := Lib.hid ((Below.refl w.heap.size w).alloc (Nat.le_refl _) (.cells #[.int .u32 (U s.a), .int .u32 (U s.b), .int .u32 (U s.c), .int .u32 (U s.d)] 30))
  have c0 := Lib.hid (St4.new w s 30)
  have hr0 := Lib.hid (hr.on B0.out)
  have hT0 := Lib.hid (hT.on B0.out)
  have hsz : Hid ((w.alloc (.cells #[.int .u32 (U s.a), .int .u32 (U s.b), .int .u32 (U s.c), .int .u32 (U s.d)] 30)).heap.size = w.heap.size + 1) := World.size_alloc ..
  clear hr hT
  have hlm : Hid ((l.map enc8).length = l.length) := List.length_map ..
  go_enter Tryd.func19, Tryd.ntmps19
  go_upto_region 1 with (fail)
  show Code.wp _ _ _ _ (w.alloc (.cells #[.int .u32 (U s.a), .int .u32 (U s.b), .int .u32 (U s.c), .int .u32 (U s.d)] 30))
  generalize w.alloc (.cells #[.int .u32 (U s.a), .int .u32 (U s.b), .int .u32 (U s.c), .int .u32 (U s.d)] 30) = w0 at B0 c0 hr0 hT0 hsz ⊢
  have own := Lib.hid (own0 w0 w0.heap.size (Nat.le_refl _))
  have hb1 : Hid (Below w0.heap.size w0 (w0.alloc (.cells #[] 5))) := (Below.refl _ _).alloc (Nat.le_refl _) _
  have hr1 := Lib.hid (hr0.out.on hb1.out)
  go_wp2_with (at_builtin; go_must (refine app_all rfl (.tmp 14) (.tmp 15) 24 rfl w0.heap.size 5 (.int .u8 0) 1 Tryd.underlying24 info5 rfl _ 0 [] rfl _ (l.map enc8) rfl own.out hr1.out (enc8_all l) (by omega) (by rw [hlm.out]; omega) (by simp) ?_); rintro v2 w2 hown2' hb2 _ _; have hown2 := Lib.hid (Row.of_owned hown2'); clear hown2'; have hB2 := Lib.hid (hb1.out.trans hb2); clear hb2)
  have hs2 := hB2.out.size
  rw [List.nil_append] at hown2
  obtain ⟨a2, c2, rfl⟩ := rowB_len (show RowB w2 v2 l from hown2.out)
  have hcap2 := rowB_cap (show RowB w2 (.slice a2 l.length c2) l from hown2.out)
  have H : Hid (TellsA w s (.slice a2 l.length c2) (.slice a l.length cap) l w2) :=
    ⟨c0.out.block (hB2.out.block w.heap.size (by have := hsz.out; omega)), hown2.out, hr0.out.on hB2.out, hT0.out.on hB2.out, B0.out.trans (hB2.out.mono (by have := hsz.out; omega)), by have := hsz.out; omega⟩
  clear hown2 hB2 B0 c0 hr0 hT0 hsz own hb1 hr1 hs2 hlm
  have hl0 : Hid (l.length ≤ 1099511627776) := by show l.length ≤ 1099511627776; omega
  refine (start_to s0 hs0.out _).mono ?_; rintro e w3 ⟨rfl, hb⟩
  replace H := Lib.hid (H.out.on hb); clear hb
  go_wp2_with fail
  refine (rstart_to s0 hs0.out _).mono ?_; rintro e w4 ⟨rfl, hb⟩
  replace H := Lib.hid (H.out.on hb); clear hb
  go_wp2_with fail
  refine (sum_to _ _ _ l hl0.out d hd.out _ H.out.2.2.2.1 H.out.2.1).mono ?_; rintro e w5 ⟨rfl, hb⟩
  replace H := Lib.hid (H.out.on hb); clear hb
  go_wp2_with fail
  refine (rsum_to _ _ _ l hl0.out d hd.out _ H.out.2.2.1).mono ?_; rintro e w6 ⟨rfl, hb⟩
  replace H := Lib.hid (H.out.on hb); clear hb
  go_wp2_with fail
  refine (word_any _ l hl0.out x hx.out _ H.out.2.2.2.1 H.out.2.1).mono ?_; rintro e w7 ⟨rfl, hb⟩
  replace H := Lib.hid (H.out.on hb); clear hb
  go_wp2_with fail
  refine (rword_any _ l hl0.out x hx.out _ H.out.2.2.1).mono ?_; rintro e w8 ⟨rfl, hb⟩
  replace H := Lib.hid (H.out.on hb); clear hb
  go_upto_region 4 with (fail)
  go_cut [8, 9] (fun s8 s9 wx => ∃ (k : Nat) (e : Int), s8 = .int .u64 k ∧ s9 = .int .i64 e ∧ Hid (n = 0 ∧ k = 0 ∧ e = 2 ∨ 0 < n ∧ k = x % n ∧ e = 0) ∧ Hid (TellsA w s (.slice a2 l.length c2) (.slice a l.length cap) l wx))
  case first =>
    by_cases hn0 : n = 0
    · subst hn0
      go_wp2_with fail
      refine (modulo_0 _ _).mono ?_; rintro e w9 ⟨rfl, rfl⟩
      go_wp2_with fail
      go_meet
      exact ⟨0, 2, rfl, rfl, .inl ⟨by simp, rfl, rfl⟩, H⟩
    · go_wp2_with fail
      refine (modulo_any _ l hl0.out x n hx.out (by omega) _ H.out.2.2.2.1 H.out.2.1).mono ?_; rintro e w9 ⟨rfl, hb⟩
      replace H := Lib.hid (H.out.on hb); clear hb
      go_wp2_with fail
      go_meet
      exact ⟨_, 0, rfl, rfl, .inr ⟨by omega, rfl, rfl⟩, H⟩
  case rest =>
    clear H
    obtain ⟨k, e, rfl, rfl, hke, H⟩ := hcut
    go_upto_region 5 with (fail)
    go_cut [65] (fun s65 wx => s65 = .bool false ∧ Hid (TellsA w s (.slice a2 l.length c2) (.slice a l.length cap) l wx))
    case first =>
      rcases hke.out with ⟨rfl, rfl, rfl⟩ | ⟨hn0, hk, rfl⟩
      · go_wp2_with fail
        go_meet
        first | exact ⟨rfl, H⟩ | exact ⟨trivial, H⟩
      · have t1 : ((n : Int) == 0) = false := beq_eq_false_iff_ne.2 (by omega)
        have t2 : decide (0 < (n : Int)) = true := decide_eq_true (by omega)
        have t3 : (n : Int) ≠ 0 := by omega
        have t4 : ((k : Int) != (x : Int) % n) = false := by rw [hk]; simp
        clear hk
        go_wp2_with fail
        refine (rword_any _ l hl0.out x hx.out _ H.out.2.2.1).mono ?_; rintro e w8 ⟨rfl, hb⟩
        replace H := Lib.hid (H.out.on hb); clear hb
        go_wp2_with fail
        go_meet
        exact ⟨rfl, H⟩
    case rest =>
      clear H hke
      obtain ⟨rfl, H⟩ := hcut
      obtain ⟨m, hm⟩ : ∃ m : Nat, min (l.length : Int) 64 = m := ⟨min l.length 64, by omega⟩
      have hml : m ≤ l.length := by omega
      have hm64 : m ≤ 64 := by omega
      have hlm64 : Hid (l.length = 64 → m = 64) := fun h => by omega
      have hmt : (min (l.length : Int) 64).toNat = m := by omega
      go_wp2_with fail
      clear hmt hm
      have hb : Below wc.heap.size wc (wc.alloc (.cells #[.slice a2 l.length c2, .slice a2 m c2] 24)) := (Below.refl _ _).alloc (Nat.le_refl _) _
      have hN : Hid ((wc.alloc (.cells #[.slice a2 l.length c2, .slice a2 m c2] 24)).heap[wc.heap.size]? = some (.cells #[.slice a2 l.length c2, .slice a2 m c2] 24)) := heap_at _ _ _ rfl
      replace H := Lib.hid (H.out.on hb)
      clear hb
      show Code.wp _ _ _ _ (wc.alloc (.cells #[.slice a2 l.length c2, .slice a2 m c2] 24))
      generalize wc.alloc (.cells #[.slice a2 l.length c2, .slice a2 m c2] 24) = W0 at H hN ⊢
      generalize wc.heap.size = N at hN ⊢
      go_loopg [74] 2 (fun g s74 wr => ∃ k : Nat, k + g = 2 ∧ s74 = .int .i64 k ∧ Hid (Below W0.heap.size W0 wr))
      case atStart => exact ⟨0, by omega, rfl, Lib.hid (Below.refl _ _)⟩
      case round =>
        obtain ⟨k, hk, rfl, hb⟩ := hrel
        have HR := Lib.hid (H.out.on hb.out)
        have hNl : N < W0.heap.size := (Array.getElem?_eq_some_iff.1 hN.out).1
        have hNr := Lib.hid ((hb.out.block N hNl).trans hN.out)
        by_cases hlt : k < 2
        · have t1 : decide ((k : Int) < 2) = true := decide_eq_true (by omega)
          obtain ⟨nk, lk, hcell, hrow⟩ : ∃ (nk : Nat) (lk : List UInt8), wr.cell? ⟨N, k, none⟩ = some (.slice a2 nk c2) ∧ Hid (RowB wr (.slice a2 nk c2) lk ∧ lk.length = nk) := by
            rcases (show k = 0 ∨ k = 1 by omega) with rfl | rfl
            · exact ⟨l.length, l, by rw [cell_heap hNr.out]; rfl, HR.out.2.1, rfl⟩
            · exact ⟨m, l.take m, by rw [cell_heap hNr.out]; rfl, row_take HR.out.2.1 m hml, by simp; omega⟩
          obtain ⟨⟨x0, x1, x2, x3⟩, _⟩ := HR.out.1
          by_cases h64 : nk = 64
          · subst h64
            obtain ⟨r, hr⟩ : ∃ r, Hid (r = stepF s lk) := ⟨_, rfl⟩
            go_wp2_with fail
            refine (stepE_to s r _ lk hrow.out.2 hr.out _ HR.out.2.2.2.1 hrow.out.1).mono ?_; rintro e w9 ⟨rfl, hb9⟩
            go_wp2_with fail
            have hbA : Below w9.heap.size w9 (w9.alloc (.cells #[.int .u32 (U r.a), .int .u32 (U r.b), .int .u32 (U r.c), .int .u32 (U r.d)] 30)) := (Below.refl _ _).alloc (Nat.le_refl _) _
            have hbB := Lib.hid ((show Below wr.heap.size wr w9 from hb9).trans (hbA.mono hb9.size))
            have hrow2 := Lib.hid (hrow.out.1.on hbB.out)
            have z12 := St4.new w9 r 30
            have z3 := HR.out.1.block (hbB.out.block w.heap.size (by have := HR.out.2.2.2.2.2; omega))
            have hlt3 : w.heap.size < w9.heap.size := by have := HR.out.2.2.2.2.2; have := hb9.size; omega
            have hsA : w9.heap.size < (w9.alloc (.cells #[.int .u32 (U r.a), .int .u32 (U r.b), .int .u32 (U r.c), .int .u32 (U r.d)] 30)).heap.size := by simp
            show Code.wp _ _ _ _ (w9.alloc (.cells #[.int .u32 (U r.a), .int .u32 (U r.b), .int .u32 (U r.c), .int .u32 (U r.d)] 30))
            generalize w9.alloc (.cells #[.int .u32 (U r.a), .int .u32 (U r.b), .int .u32 (U r.c), .int .u32 (U r.d)] 30) = wA at hbB hrow2 z12 z3 hsA ⊢
            clear hbA hb9 x0 x1 x2 x3
            generalize w9.heap.size = N12 at z12 hlt3 hsA ⊢
            have Z12 := Lib.hid z12
            have Z3 := Lib.hid z3
            clear z12 z3
            have h37 := Tryd.call37
            refine wp_region_facts (fun i v W => match i with | 0 => v = .slice a2 64 c2 | 1 => v = .int .i64 (64 : Nat) | 2 => v = .bool false | 3 => v = .bool false | 4 => v = undef | 5 => v = undef | 6 => v = undef | 7 => v = undef | 8 => v = undef | 9 => v = undef | 10 => v = undef | 11 => v = .bool false | 12 => v = .bool false | 13 => v = .slice a2 64 c2 | 14 => v = .int .i64 (64 : Nat) | 15 => v = .bool true | 16 => v = .bool true | 17 => v = .int .i64 0 | 18 => v = .bool false | 19 => v = .bool false | 20 => v = .agg #[.int .u32 (U r.a), .int .u32 (U r.b), .int .u32 (U r.c), .int .u32 (U r.d)] | 21 => v = .agg #[.int .u32 (U s.a), .int .u32 (U s.b), .int .u32 (U s.c), .int .u32 (U s.d)] | 22 => v = .slice a2 64 c2 | 23 => v = .agg #[.int .u32 (U r.a), .int .u32 (U r.b), .int .u32 (U r.c), .int .u32 (U r.d)] | 24 => v = .bool false | 25 => v = .bool false | 26 => v = .bool false | _ => v = .bool false)
              (by kernel_rfl) (by kernel_rfl) (by decide +kernel) (by kernel_rfl) (fun i v w w' h _ => h) ?_ ?_
            · intro i
              rcases i with _ | _ | _ | _ | _ | _ | _ | _ | _ | _ | _ | _ | _ | _ | _ | _ | _ | _ | _ | _ | _ | _ | _ | _ | _ | _ | _ | _ | i
              all_goals intro o ho a wa hba hout hsz hpre
              all_goals cases ho
              all_goals have q11 : a.tmps.getD 11 undef = .slice a2 64 c2 := (hout 11 (by decide +kernel)).trans rfl
              all_goals have q3 : a.tmps.getD 3 undef = .pointer (some ⟨w.heap.size, 0, none⟩) := (hout 3 (by decide +kernel)).trans rfl
              all_goals have q12 : a.tmps.getD 12 undef = .pointer (some ⟨N12, 0, none⟩) := (hout 12 (by decide +kernel)).trans rfl
              all_goals have q13 : a.tmps.getD 13 undef = .int .i64 0 := (hout 13 (by decide +kernel)).trans rfl
              all_goals clear hout hsz
              · exact step_move rfl (met_none rfl) (.inl rfl) ⟨_, rfl, Below.refl _ _, q11⟩
              · have p84 : a.tmps.getD 84 undef = .slice a2 64 c2 := hpre ⟨0, .data⟩ (by simp) rfl _ rfl
                exact step_len_slice Tryd.underlying24 rfl (met_none rfl) rfl p84 ⟨_, rfl, Below.refl _ _, rfl⟩
              · have p85 : a.tmps.getD 85 undef = .int .i64 (64 : Nat) := hpre ⟨1, .data⟩ (by simp) rfl _ rfl
                exact step_bin rfl (met_none rfl) rfl p85 rfl (r := .bool false) (w' := wa) (by simp [go_sem]) ⟨_, rfl, Below.refl _ _, rfl⟩
              · have p86 : a.tmps.getD 86 undef = .bool false := hpre ⟨2, .data⟩ (by simp) rfl _ rfl
                exact step_move rfl (met_none rfl) (.inl rfl) ⟨_, rfl, Below.refl _ _, p86⟩
              · have p87 : a.tmps.getD 87 undef = .bool false := hpre ⟨3, .guard⟩ (by simp) rfl _ rfl
                exact step_skip rfl rfl rfl rfl p87 ⟨_, rfl, Below.refl _ _, rfl⟩
              · have p87 : a.tmps.getD 87 undef = .bool false := hpre ⟨3, .guard⟩ (by simp) rfl _ rfl
                exact step_skip rfl rfl rfl rfl p87 ⟨_, rfl, Below.refl _ _, rfl⟩
              · have p87 : a.tmps.getD 87 undef = .bool false := hpre ⟨3, .guard⟩ (by simp) rfl _ rfl
                exact step_skip rfl rfl rfl rfl p87 ⟨_, rfl, Below.refl _ _, rfl⟩
              · have p87 : a.tmps.getD 87 undef = .bool false := hpre ⟨3, .chain⟩ (by simp) rfl _ rfl
                exact step_skip rfl rfl rfl rfl p87 ⟨_, rfl, Below.refl _ _, rfl⟩
              · have p91 : a.tmps.getD 91 undef = undef := hpre ⟨7, .guard⟩ (by simp) rfl _ rfl
                exact step_skip_u rfl rfl rfl rfl p91 ⟨_, rfl, Below.refl _ _, rfl⟩
              · have p91 : a.tmps.getD 91 undef = undef := hpre ⟨7, .guard⟩ (by simp) rfl _ rfl
                exact step_skip_u rfl rfl rfl rfl p91 ⟨_, rfl, Below.refl _ _, rfl⟩
              · have p87 : a.tmps.getD 87 undef = .bool false := hpre ⟨3, .guard⟩ (by simp) rfl _ rfl
                exact step_skip rfl rfl rfl rfl p87 ⟨_, rfl, Below.refl _ _, rfl⟩
              · have p87 : a.tmps.getD 87 undef = .bool false := hpre ⟨3, .data⟩ (by simp) rfl _ rfl
                exact step_pick rfl (met_none rfl) rfl p87 ⟨_, rfl, Below.refl _ _, rfl⟩
              · have p95 : a.tmps.getD 95 undef = .bool false := hpre ⟨11, .data⟩ (by simp) rfl _ rfl
                exact step_move rfl (met_none rfl) (.inl rfl) ⟨_, rfl, Below.refl _ _, p95⟩
              · have p96 : a.tmps.getD 96 undef = .bool false := hpre ⟨12, .guard⟩ (by simp) rfl _ rfl
                exact step_move rfl (met_some rfl rfl rfl p96) (.inl rfl) ⟨_, rfl, Below.refl _ _, q11⟩
              · have p96 : a.tmps.getD 96 undef = .bool false := hpre ⟨12, .guard⟩ (by simp) rfl _ rfl
                have p97 : a.tmps.getD 97 undef = .slice a2 64 c2 := hpre ⟨13, .data⟩ (by simp) rfl _ rfl
                exact step_len_slice Tryd.underlying24 rfl (met_some rfl rfl rfl p96) rfl p97 ⟨_, rfl, Below.refl _ _, rfl⟩
              · have p96 : a.tmps.getD 96 undef = .bool false := hpre ⟨12, .guard⟩ (by simp) rfl _ rfl
                have p98 : a.tmps.getD 98 undef = .int .i64 (64 : Nat) := hpre ⟨14, .data⟩ (by simp) rfl _ rfl
                exact step_bin rfl (met_some rfl rfl rfl p96) rfl p98 rfl (r := .bool true) (w' := wa) (by simp [go_sem]) ⟨_, rfl, Below.refl _ _, rfl⟩
              · have p96 : a.tmps.getD 96 undef = .bool false := hpre ⟨12, .chain⟩ (by simp) rfl _ rfl
                have p99 : a.tmps.getD 99 undef = .bool true := hpre ⟨15, .data⟩ (by simp) rfl _ rfl
                exact step_move rfl (met_some rfl rfl rfl p96) (.inl rfl) ⟨_, rfl, Below.refl _ _, p99⟩
              · have p100 : a.tmps.getD 100 undef = .bool true := hpre ⟨16, .guard⟩ (by simp) rfl _ rfl
                exact step_move rfl (met_some rfl rfl rfl p100) (.inl rfl) ⟨_, rfl, Below.refl _ _, q13⟩
              · have p100 : a.tmps.getD 100 undef = .bool true := hpre ⟨16, .guard⟩ (by simp) rfl _ rfl
                have p101 : a.tmps.getD 101 undef = .int .i64 0 := hpre ⟨17, .data⟩ (by simp) rfl _ rfl
                exact step_bin rfl (met_some rfl rfl rfl p100) rfl p101 rfl (r := .bool false) (w' := wa) (by simp [go_sem]) ⟨_, rfl, Below.refl _ _, rfl⟩
              · have p100 : a.tmps.getD 100 undef = .bool true := hpre ⟨16, .chain⟩ (by simp) rfl _ rfl
                have p102 : a.tmps.getD 102 undef = .bool false := hpre ⟨18, .data⟩ (by simp) rfl _ rfl
                exact step_move rfl (met_some rfl rfl rfl p100) (.inl rfl) ⟨_, rfl, Below.refl _ _, p102⟩
              · have p103 : a.tmps.getD 103 undef = .bool false := hpre ⟨19, .guard⟩ (by simp) rfl _ rfl
                exact step_load rfl (met_some rfl rfl rfl p103) rfl q12 (load4 _ _ _ _ _ (Z12.out.block (hba.block N12 hsA))) ⟨_, rfl, Below.refl _ _, rfl⟩
              · have p103 : a.tmps.getD 103 undef = .bool false := hpre ⟨19, .guard⟩ (by simp) rfl _ rfl
                exact step_load rfl (met_some rfl rfl rfl p103) rfl q3 (load4 _ _ _ _ _ (Z3.out.block (hba.block w.heap.size (by omega)))) ⟨_, rfl, Below.refl _ _, rfl⟩
              · have p103 : a.tmps.getD 103 undef = .bool false := hpre ⟨19, .guard⟩ (by simp) rfl _ rfl
                exact step_move rfl (met_some rfl rfl rfl p103) (.inl rfl) ⟨_, rfl, Below.refl _ _, q11⟩
              · have p103 : a.tmps.getD 103 undef = .bool false := hpre ⟨19, .chain⟩ (by simp) rfl _ rfl
                have p105 : a.tmps.getD 105 undef = .agg #[.int .u32 (U s.a), .int .u32 (U s.b), .int .u32 (U s.c), .int .u32 (U s.d)] := hpre ⟨21, .data⟩ (by simp) rfl _ rfl
                have p106 : a.tmps.getD 106 undef = .slice a2 64 c2 := hpre ⟨22, .data⟩ (by simp) rfl _ rfl
                refine step_call rfl (met_some rfl rfl rfl p103) _ (args2 p105 p106) (h37 _ _) ((rstep_to s r _ lk hrow.out.2 hr.out _ (hrow2.out.on hba)).mono ?_)
                rintro e w' ⟨rfl, hb⟩
                exact ⟨_, rfl, _, rfl, hb, rfl⟩
              · have p103 : a.tmps.getD 103 undef = .bool false := hpre ⟨19, .guard⟩ (by simp) rfl _ rfl
                have p104 : a.tmps.getD 104 undef = .agg #[.int .u32 (U r.a), .int .u32 (U r.b), .int .u32 (U r.c), .int .u32 (U r.d)] := hpre ⟨20, .data⟩ (by simp) rfl _ rfl
                have p107 : a.tmps.getD 107 undef = .agg #[.int .u32 (U r.a), .int .u32 (U r.b), .int .u32 (U r.c), .int .u32 (U r.d)] := hpre ⟨23, .data⟩ (by simp) rfl _ rfl
                exact step_bin rfl (met_some rfl rfl rfl p103) rfl p104 p107 (r := .bool false) (w' := wa) (neq30 r r false (by simp) wa) ⟨_, rfl, Below.refl _ _, rfl⟩
              · have p100 : a.tmps.getD 100 undef = .bool true := hpre ⟨16, .guard⟩ (by simp) rfl _ rfl
                have p103 : a.tmps.getD 103 undef = .bool false := hpre ⟨19, .data⟩ (by simp) rfl _ rfl
                have p108 : a.tmps.getD 108 undef = .bool false := hpre ⟨24, .data⟩ (by simp) rfl _ rfl
                exact step_pick rfl (met_some rfl rfl rfl p100) rfl p103 ⟨_, rfl, Below.refl _ _, p108⟩
              · have p96 : a.tmps.getD 96 undef = .bool false := hpre ⟨12, .guard⟩ (by simp) rfl _ rfl
                have p100 : a.tmps.getD 100 undef = .bool true := hpre ⟨16, .data⟩ (by simp) rfl _ rfl
                have p109 : a.tmps.getD 109 undef = .bool false := hpre ⟨25, .data⟩ (by simp) rfl _ rfl
                exact step_pick rfl (met_some rfl rfl rfl p96) rfl p100 ⟨_, rfl, Below.refl _ _, p109⟩
              · have p96 : a.tmps.getD 96 undef = .bool false := hpre ⟨12, .data⟩ (by simp) rfl _ rfl
                have p110 : a.tmps.getD 110 undef = .bool false := hpre ⟨26, .data⟩ (by simp) rfl _ rfl
                exact step_pick rfl (met_none rfl) rfl p96 ⟨_, rfl, Below.refl _ _, p110⟩
            · intro a wa hba hF ha
              have f0 : a.tmps.getD 84 undef = .slice a2 64 c2 := hF 0 _ rfl
              have f1 : a.tmps.getD 85 undef = .int .i64 (64 : Nat) := hF 1 _ rfl
              have f2 : a.tmps.getD 86 undef = .bool false := hF 2 _ rfl
              have f3 : a.tmps.getD 87 undef = .bool false := hF 3 _ rfl
              have f4 : a.tmps.getD 88 undef = undef := hF 4 _ rfl
              have f5 : a.tmps.getD 89 undef = undef := hF 5 _ rfl
              have f6 : a.tmps.getD 90 undef = undef := hF 6 _ rfl
              have f7 : a.tmps.getD 91 undef = undef := hF 7 _ rfl
              have f8 : a.tmps.getD 92 undef = undef := hF 8 _ rfl
              have f9 : a.tmps.getD 93 undef = undef := hF 9 _ rfl
              have f10 : a.tmps.getD 94 undef = undef := hF 10 _ rfl
              have f11 : a.tmps.getD 95 undef = .bool false := hF 11 _ rfl
              have f12 : a.tmps.getD 96 undef = .bool false := hF 12 _ rfl
              have f13 : a.tmps.getD 97 undef = .slice a2 64 c2 := hF 13 _ rfl
              have f14 : a.tmps.getD 98 undef = .int .i64 (64 : Nat) := hF 14 _ rfl
              have f15 : a.tmps.getD 99 undef = .bool true := hF 15 _ rfl
              have f16 : a.tmps.getD 100 undef = .bool true := hF 16 _ rfl
              have f17 : a.tmps.getD 101 undef = .int .i64 0 := hF 17 _ rfl
              have f18 : a.tmps.getD 102 undef = .bool false := hF 18 _ rfl
              have f19 : a.tmps.getD 103 undef = .bool false := hF 19 _ rfl
              have f20 : a.tmps.getD 104 undef = .agg #[.int .u32 (U r.a), .int .u32 (U r.b), .int .u32 (U r.c), .int .u32 (U r.d)] := hF 20 _ rfl
              have f21 : a.tmps.getD 105 undef = .agg #[.int .u32 (U s.a), .int .u32 (U s.b), .int .u32 (U s.c), .int .u32 (U s.d)] := hF 21 _ rfl
              have f22 : a.tmps.getD 106 undef = .slice a2 64 c2 := hF 22 _ rfl
              have f23 : a.tmps.getD 107 undef = .agg #[.int .u32 (U r.a), .int .u32 (U r.b), .int .u32 (U r.c), .int .u32 (U r.d)] := hF 23 _ rfl
              have f24 : a.tmps.getD 108 undef = .bool false := hF 24 _ rfl
              have f25 : a.tmps.getD 109 undef = .bool false := hF 25 _ rfl
              have f26 : a.tmps.getD 110 undef = .bool false := hF 26 _ rfl
              have f27 : a.tmps.getD 111 undef = .bool false := hF 27 _ rfl
              clear hF
              simp only [List.foldl, fillFrom, f0, f1, f2, f3, f4, f5, f6, f7, f8, f9, f10, f11, f12, f13, f14, f15, f16, f17, f18, f19, f20, f21, f22, f23, f24, f25, f26, f27] at ha
              clear f0 f1 f2 f3 f4 f5 f6 f7 f8 f9 f10 f11 f12 f13 f14 f15 f16 f17 f18 f19 f20 f21 f22 f23 f24 f25 f26 f27
              subst ha
              simp only [Act.put, List.setIfInBounds_toArray, List.set_cons_succ, List.set_cons_zero]
              have hbD := Lib.hid (hb.out.trans ((hbB.out.trans (hba.mono hbB.out.size)).mono hb.out.size))
              clear hba h37
              go_wp2_with fail
              go_roundg (1 - k)
              case measure => omega
              case rel => exact ⟨k + 1, by omega, by go_num, hbD⟩
          · have q1 : ((nk : Int) != 64) = true := by rw [bne_iff_ne]; omega
            have q2 : ((nk : Int) == 64) = false := beq_eq_false_iff_ne.2 (by omega)
            have qz := eqz30
            go_wp2_with fail
            refine (stepE_no' s _ _ _ h64 _).mono ?_; rintro e w9 ⟨rfl, hb9⟩
            go_wp2_with fail
            go_quiet (fail)
            have hbD := Lib.hid (hb.out.trans ((hb9.alloc hb9.size (.cells #[.int .u32 0, .int .u32 0, .int .u32 0, .int .u32 0] 30)).mono hb.out.size))
            have hbE := Lib.hid (belowN hbD.out nq)
            go_wp2_with fail
            go_roundg (1 - k)
            case measure => omega
            case rel => exact ⟨k + 1, by omega, by go_num, hbE⟩
        · obtain rfl : k = 2 := by omega
          have cv1 := conv_row HR.out.2.1
          have cv2 := conv_row HR.out.2.2.1
          have hB := Lib.hid HR.out.2.2.2.2.1
          go_wp2_with fail
          go_ret
          exact ⟨by simp, hB.out⟩
set_option maxHeartbeats 1000000 in
theorem md5Tells_any (s : S4) (a : Option Addr) (cap : Nat) (l : List UInt8) (hlm : l.length ≤ 9223372036854775807) (n : Nat) (hn : n < 18446744073709551616) (w : World) (hr : RowB w (.slice a l.length cap) l) (hT : Tabs w) :
    Calls Tryd.prog 6 #[.agg #[.int .u32 (U s.a), .int .u32 (U s.b), .int .u32 (U s.c), .int .u32 (U s.d)], .slice a l.length cap, .int .u64 n] w fun e w' => e = .returned (.bool true) ∧ Below w.heap.size w w' := by
  have B0 := Lib.hid ((Below.refl w.heap.size w).alloc (Nat.le_refl _) (.cells #[.int .u32 (U s.a), .int .u32 (U s.b), .int .u32 (U s.c), .int .u32 (U s.d)] 30))
  have hr0 := Lib.hid (hr.on B0.out)
  have hT0 := Lib.hid (hT.on B0.out)
  replace hT := Lib.hid hT
  clear hr
  by_cases h : 1000 < l.length
  · have t1 : decide (1000 < (l.length : Int)) = true := decide_eq_true (by omega)
    go_enter Tryd.func6, Tryd.ntmps6
    go_wp2_with fail
    refine (awake_any _ hT0.out).mono ?_; rintro e w2 ⟨rfl, hb2⟩
    have B2 := Lib.hid (B0.out.trans (hb2.mono (by simp)))
    clear hb2
    go_wp2_with fail
    go_ret
    exact ⟨rfl, B2.out⟩
  · have t1 : decide (1000 < (l.length : Int)) = false := decide_eq_false (by omega)
    go_enter Tryd.func6, Tryd.ntmps6
    go_wp2_with fail
    refine (tells_any s a cap l (by omega) n hn _ hr0.out hT0.out).mono ?_; rintro e w1 ⟨rfl, hb1⟩
    have B1 := Lib.hid (B0.out.trans (hb1.mono (by simp)))
    clear hb1
    go_wp2_with fail
    refine (awake_any _ (hT.out.on B1.out)).mono ?_; rintro e w2 ⟨rfl, hb2⟩
    have B2 := Lib.hid (B1.out.trans (hb2.mono B1.out.size))
    clear hb2
    go_wp2_with fail
    go_ret
    exact ⟨rfl, B2.out⟩
theorem u64_bd (z : Int) (h : (Lit.int .u64 z).wf = true) : 0 ≤ z ∧ z < 18446744073709551616 := by
  have h' : 0 ≤ z ∧ z ≤ 18446744073709551615 := by simpa [Lit.wf, IntKind.min, IntKind.max, IntKind.signed, IntKind.bits] using h
  omega
/-- The law Md5Tells. -/
theorem md5Tells_walk (z0 : List Int) (a1 : Option Addr) (len1 cap1 : Nat) (z1 : List Int) (a2 : Int) (w : World) (l0 : z0.length = 4) (w0 : ∀ i (hi : i < z0.length), (Lit.int .u32 z0[i]).wf = true) (w1 : IsRow .u8 w a1 len1 cap1 z1) (w2 : (Lit.int .u64 a2).wf = true) (hT : Tabs w) :
    Calls Tryd.prog 6 #[.agg (z0.map (Value.int .u32)).toArray, .slice a1 len1 cap1, .int .u64 a2] w fun e w' => e = .returned (.bool true) ∧ Below w.heap.size w w' := by
  obtain ⟨s, hs⟩ := st_of z0 l0 w0
  obtain ⟨l, rfl, hlm, hr⟩ := w1.bytes
  obtain ⟨h0, h1⟩ := u64_bd a2 w2
  obtain ⟨n, rfl⟩ := Int.eq_ofNat_of_zero_le h0
  rw [hs]
  exact md5Tells_any s a1 cap1 l (by unfold maxLen at hlm; omega) n (by omega) w hr hT
end Go.Proofs.YtimiejahkcjcdaaDoor
