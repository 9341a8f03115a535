/- The reference: Sum. -/
import Derived.Test.YtimiejahkcjcdaaDoorM20
namespace Go.Proofs.YtimiejahkcjcdaaDoor
open Go.RowKit

theorem rstep_to (s r : S4) (v : Value) (l : List UInt8) (hl : l.length = 64) (h : r = stepF s l) (w : World) (hr : RowB w v l) :
    Calls Tryd.prog 37 #[.agg #[.int .u32 (U s.a), .int .u32 (U s.b), .int .u32 (U s.c), .int .u32 (U s.d)], v] w fun e w' => e = .returned (.agg #[.int .u32 (U r.a), .int .u32 (U r.b), .int .u32 (U r.c), .int .u32 (U r.d)]) ∧ Below w.heap.size w w' := by
  subst h
  obtain ⟨b, off, cap, rfl, hb, _, _, hc⟩ := rowB_cells hr (fun e => by rw [e] at hl; cases hl)
  rw [hl]
  exact rstep_any s l hl b off cap w hb (fun i hi => hc i (by omega))
theorem chunk_row2 {w : World} {bb off c k : Nat} {l : List UInt8} (h : RowB w (.slice (some ⟨bb, off, none⟩) l.length c) l) (hk : k < l.length / 64) : RowB w (.slice (some ⟨bb, off + 64 * k, none⟩) 64 (c - 64 * k)) ((l.drop (64 * k)).take 64) := by
  obtain ⟨b, o, cap, e, hb, h1, h2, hc⟩ := rowB_cells h (fun e => by rw [e] at hk; simp at hk)
  cases e
  have hl : (((l.drop (64 * k)).take 64).map enc8).length = 64 := by simp; omega
  refine .inr ⟨bb, off + 64 * k, c - 64 * k, by rw [hl], hb, by omega, by omega, fun i hi => ?_⟩
  rw [hl] at hi
  have := hc (64 * k + i) (by omega)
  rw [show off + 64 * k + i = off + (64 * k + i) by omega, this]
  have hx : 64 * k + i < l.length := by omega
  simp [enc8, List.getD_eq_getElem?_getD, List.getElem?_eq_getElem hx]
theorem rstart_to (s : S4) (hs : s = S0) (w : World) : Calls Tryd.prog 35 #[] w fun e w' => e = .returned (.agg #[.int .u32 (U s.a), .int .u32 (U s.b), .int .u32 (U s.c), .int .u32 (U s.d)]) ∧ Below w.heap.size w w' := rstart_any s hs w
theorem rpad_to (n : Nat) (hn : n ≤ 1099511627776) (p : List UInt8) (hp : p = padF n) (w : World) :
    Calls Tryd.prog 31 #[.int .i64 n] w fun e w' => (∃ v, e = .returned v ∧ RowB w' v p) ∧ Below w.heap.size w w' :=
  (rpad_any n hn p hp w).mono fun _ _ ⟨⟨v, h1, h2⟩, h3⟩ => ⟨⟨v, h1, Row.of_owned h2⟩, h3⟩
theorem row_block {W W' : World} {g off n c : Nat} {xs : List Value} (h : Row W (.slice (some ⟨g, off, none⟩) n c) xs) (hs : W.heap.size ≤ W'.heap.size) (hb : W'.heap[g]? = W.heap[g]?) : Row W' (.slice (some ⟨g, off, none⟩) n c) xs := by
  rcases h with h | ⟨b, o, cap, hv, hlt, h1, h2, hc⟩
  · exact .inl h
  · cases hv
    exact .inr ⟨g, off, c, rfl, Nat.lt_of_lt_of_le hlt hs, h1, h2, fun i hi => (World.cell?_of_block (w := W) hb).trans (hc i hi)⟩
theorem dgF_4 (r : S4) (i k : Nat) (hk : k < 4) : dgF r (4 * i + k) = UInt8.ofNat ((r.wd i).toNat / 256 ^ k) := by
  rw [dgF, show (4 * i + k) / 4 = i by omega, show (4 * i + k) % 4 = k by omega, BitVec.toNat_ushiftRight, Nat.shiftRight_eq_div_pow, Nat.mul_comm, Nat.pow_mul]
theorem owns_on {w w' : World} {base e n : Nat} {v : Value} {xs : List Value} (h : w.ownsRow base e 1 v n xs) (hb : Below w.heap.size w w') : w'.ownsRow base e 1 v n xs := by
  refine ⟨h.1, ?_⟩
  rcases h.2 with h' | ⟨g, cap, cur, h1, h2, h3, h4⟩
  · exact .inl h'
  · exact .inr ⟨g, cap, cur, h1, h2, (hb.block g (Array.getElem?_eq_some_iff.1 h3).1).trans h3, h4⟩
set_option maxRecDepth 100000 in
set_option maxHeartbeats 2000000 in
theorem rsum_any (v : Value) (l : List UInt8) (hl : l.length ≤ 1099511627776) (d : Nat → UInt8) (hd : d = sumF l) (w : World) (hr : RowB w v l) :
    Calls Tryd.prog 29 #[v] w fun e w' => e = .returned (dgv d) ∧ Below w.heap.size w w' := by
  obtain ⟨a, c, rfl⟩ := rowB_len hr
  obtain ⟨s, hs⟩ : ∃ s, Hid (s = S0) := ⟨_, rfl⟩
  obtain ⟨p, hp⟩ : ∃ p, Hid (p = padF l.length) := ⟨_, rfl⟩
  have hpl : p.length ≤ 72 := by rw [hp.out, padF_len]; have := z0_lt l.length; omega
  have hcall := Lib.hid (fun W => rpad_to l.length hl p hp.out W)
  have hd' : Hid (d = dgF (allF s (l ++ p))) := by show _ = _; rw [hd, sumF, mdF, hs.out, hp.out]
  have h64 : (l.length + p.length) % 64 = 0 := by rw [hp.out]; exact z0_sum l.length
  have hpos : 9 ≤ p.length := by rw [hp.out, padF_len]; omega
  replace h64 := Lib.hid h64
  clear hd
  replace hr := Lib.hid hr
  go_enter Tryd.func29, Tryd.ntmps29
  have z0 := Lib.hid (B16.new w 34)
  have hB := Lib.hid ((Below.refl w.heap.size w).alloc (Nat.le_refl _) (z16 34))
  have hown0 : Hid (((w.alloc (z16 34)).alloc (.cells #[] 5)).ownsRow (w.heap.size + 1) 5 1 (.slice (some ⟨w.heap.size + 1, 0, none⟩) 0 0) 0 []) := by
    have := own0 (w.alloc (z16 34)) (w.heap.size + 1) (by simp)
    rw [World.size_alloc] at this
    exact this
  have hB0 : Hid (Below (w.heap.size + 1) (w.alloc (z16 34)) ((w.alloc (z16 34)).alloc (.cells #[] 5))) := (Below.refl _ _).alloc (by simp) _
  have hrw : Hid (RowB ((w.alloc (z16 34)).alloc (.cells #[] 5)) (.slice a l.length c) l) := hr.out.on (hB.out.trans (hB0.out.mono (by omega)))
  have hl0 : Hid (((l.map enc8).length) = l.length) := List.length_map ..
  go_wp2_with (at_builtin; go_must (refine app_all rfl (.tmp 10) (.tmp 11) 24 rfl (w.heap.size + 1) 5 (.int .u8 0) 1 Tryd.underlying24 info5 rfl _ 0 [] rfl _ (l.map enc8) rfl hown0.out hrw.out (enc8_all l) (by omega) (by rw [hl0.out]; omega) (by simp) ?_); rintro v2 w2 hown2' hb2 _ _; have hown2 := Lib.hid hown2'; clear hown2'; have hB2 := Lib.hid (hB0.out.trans hb2); clear hb2)
  refine (hcall.out _).mono ?_; rintro e w3 ⟨⟨pv, rfl, hp3⟩, hb3⟩
  replace hp3 := Lib.hid hp3
  have hown3 := Lib.hid (owns_on hown2.out hb3)
  have hsz2 := hB2.out.size
  have hs2 : w.heap.size + 1 ≤ w2.heap.size := by have h := hB2.out.size; rw [World.size_alloc] at h; exact h
  have hB3 := Lib.hid (hB2.out.trans (hb3.mono hs2))
  have hs3 : w.heap.size + 1 ≤ w3.heap.size := Nat.le_trans hs2 hb3.size
  have hl1 : Hid (((p.map enc8).length) = p.length) := List.length_map ..
  clear hb3 hsz2 hown2 hown0 hrw hB0 hcall
  go_wp2_with (at_builtin; go_must (refine app_all rfl (.tmp 12) (.tmp 15) 24 rfl (w.heap.size + 1) 5 (.int .u8 0) 1 Tryd.underlying24 info5 rfl _ _ _ rfl _ (p.map enc8) rfl hown3.out hp3.out (enc8_all p) (by omega) (by rw [hl0.out, hl1.out]; omega) hs3 ?_); rintro v4 w4 hown4' hb4 _ _; have hown4 := Lib.hid (row_of3 hown4'); clear hown4'; have hB4 := Lib.hid (hB3.out.trans hb4); have hs4 := hb4.size; clear hb4)
  refine (rstart_to s hs.out w4).mono ?_; rintro e w5 ⟨rfl, hb5⟩
  obtain ⟨L, hL⟩ : ∃ L, Hid (L = l ++ p) := ⟨_, rfl⟩
  have hLl : L.length ≤ 1099511627776 + 72 := by rw [hL.out, List.length_append]; omega
  have hL64 : Hid (L.length % 64 = 0) := by show _ = _; rw [hL.out, List.length_append]; exact h64.out
  have hdL : Hid (d = dgF (allF s L)) := by show _ = _; rw [hd'.out, hL.out]
  obtain ⟨g, off, cap, rfl, hg, hgc, hgm, _⟩ := rowB_cells hown4.out (fun e => by have := congrArg List.length e; rw [List.length_append, List.length_nil] at this; omega)
  rw [← hL.out] at hown4 hgc ⊢
  have hR := Lib.hid (hown4.out.on hb5)
  have hB5 := Lib.hid (hB4.out.trans (hb5.mono (by omega)))
  have hs5 : w.heap.size + 1 ≤ w5.heap.size := by have := hb5.size; omega
  have hgN : g < w5.heap.size := by have := hb5.size; omega
  clear hb5 hown4 hB4 hB3 hB2 hown3 hp3 hl0 hl1 hd' h64 hpos hpl hp hL hr hs2 hs3 hs4 hg
  go_wp2_with fail
  have c5 := Lib.hid (St4.new w5 s 74)
  have z5 := Lib.hid (z0.out.block ((Below.heap_alloc w5 (.cells #[.int .u32 (U s.a), .int .u32 (U s.b), .int .u32 (U s.c), .int .u32 (U s.d)] 74) w.heap.size (by omega)).trans (hB5.out.block w.heap.size (by omega))))
  have hb6 : Below w5.heap.size w5 (w5.alloc (.cells #[.int .u32 (U s.a), .int .u32 (U s.b), .int .u32 (U s.c), .int .u32 (U s.d)] 74)) := (Below.refl _ _).alloc (Nat.le_refl _) _
  have hR6 := Lib.hid (hR.out.on hb6)
  have hB6 : Hid (Below w.heap.size w (w5.alloc (.cells #[.int .u32 (U s.a), .int .u32 (U s.b), .int .u32 (U s.c), .int .u32 (U s.d)] 74))) := (hB.out.trans (hB5.out.mono (by omega))).trans (hb6.mono (by omega))
  have hsz6 : w5.heap.size + 1 ≤ (w5.alloc (.cells #[.int .u32 (U s.a), .int .u32 (U s.b), .int .u32 (U s.c), .int .u32 (U s.d)] 74)).heap.size := by simp
  show Code.wp _ _ _ _ (w5.alloc (.cells #[.int .u32 (U s.a), .int .u32 (U s.b), .int .u32 (U s.c), .int .u32 (U s.d)] 74))
  generalize w5.alloc (.cells #[.int .u32 (U s.a), .int .u32 (U s.b), .int .u32 (U s.c), .int .u32 (U s.d)] 74) = w6 at c5 z5 hR6 hB6 hsz6 ⊢
  clear z0 hb6 hR hB5
  generalize w5.heap.size = N1 at c5 hs5 hsz6 hgN ⊢
  obtain ⟨q, hq⟩ : ∃ q, L.length / 64 = q := ⟨_, rfl⟩
  have hLq : Hid (L.length = 64 * q) := by show _ = _; have := hL64.out; omega
  replace hq := Lib.hid hq
  obtain ⟨n, hn⟩ : ∃ n, Hid (n = L.length) := ⟨_, rfl⟩
  have hnq : Hid (n = 64 * q) := by show _ = _; rw [hn.out, hLq.out]
  rw [← hn.out] at hLl hgc hR6 ⊢
  go_loopg [5] q (fun gh s5 wx => ∃ (k m : Nat), k + gh = q ∧ m = 64 * k ∧ s5 = .int .i64 m ∧ Hid (St4 wx N1 (allK L s k)) ∧ Hid (B16 wx w.heap.size (fun _ => 0)) ∧ Hid (RowB wx (.slice (some ⟨g, off, none⟩) n cap) L) ∧ Hid (Below w.heap.size w wx) ∧ N1 + 1 ≤ wx.heap.size)
  case atStart => exact ⟨0, 0, by omega, rfl, rfl, c5, z5, hR6, hB6, hsz6⟩
  case round =>
    clear c5 z5 hR6 hB6 hsz6
    obtain ⟨k, m, hk, hm, rfl, c5, z5, hR6, hB6, hsz6⟩ := hrel
    by_cases hlt : k < q
    · have t1 : decide (m < n) = true := decide_eq_true (by have := hnq.out; omega)
      have b1 : m + 64 ≤ n := by have := hnq.out; omega
      obtain ⟨s1, hs1⟩ : ∃ s1, Hid (s1 = allK L s k) := ⟨_, rfl⟩
      obtain ⟨s2, hs2⟩ : ∃ s2, Hid (s2 = stepF s1 ((L.drop (64 * k)).take 64)) := ⟨_, rfl⟩
      have C5 : Hid (St4 wr N1 s1) := by rw [hs1.out]; exact c5.out
      obtain ⟨⟨e0, e1, e2, e3⟩, ⟨f0, f1, f2, f3⟩⟩ := C5.out
      have hkq : k < L.length / 64 := by rw [hq.out]; exact hlt
      have hch : Hid (RowB wr (.slice (some ⟨g, off + m, none⟩) 64 (cap - m)) ((L.drop (64 * k)).take 64)) := by
        have := hR6.out
        rw [hn.out] at this
        have := chunk_row2 this hkq
        rw [hm]; exact this
      have hcl := chunk_len hkq
      replace hm := Lib.hid hm
      have w64 : IntKind.i64.wrap ((m : Int) + 64) = (m : Int) + 64 := IntWalk.i64_in _ (by omega)
      have p64 : 0 ≤ (m : Int) + 64 := by omega
      have q64 : ((m : Int) + 64).toNat = m + 64 := by omega
      have u64 : (m : Int) + 64 ≤ cap := by omega
      have v64 : m + 64 ≤ cap := by omega
      have hcm : ¬ cap = m := by omega
      have u65 : (m : Int) ≤ (m : Int) + 64 := by omega
      go_wp2_with fail
      go_still_tail 6, (by kernel_rfl)
      change wpList _ _ _ _ _ wr.drew
      have hch2 : Hid (RowB wr.drew (.slice (some ⟨g, off + m, none⟩) 64 (cap - m)) ((L.drop (64 * k)).take 64)) := hch.out
      have hb0 : Hid (Below w.heap.size w wr.drew) := hB6.out.drew
      have hsw : N1 + 1 ≤ wr.drew.heap.size := hsz6
      have C6 : Hid (St4 wr.drew N1 s1) := C5.out
      have Z6 : Hid (B16 wr.drew w.heap.size (fun _ => 0)) := z5.out
      have R6 : Hid (RowB wr.drew (.slice (some ⟨g, off, none⟩) n cap) L) := hR6.out
      clear e0 e1 e2 e3 f0 f1 f2 f3 c5 C5 z5 hR6 hB6 hsz6
      generalize wr.drew = wd at hch2 hb0 hsw C6 Z6 R6 ⊢
      clear w64 p64 q64 u64 u65 v64 hcm
      go_wp2_with fail
      refine (rstep_to s1 s2 _ _ hcl hs2.out wd hch2.out).mono ?_; rintro e w7 ⟨rfl, hb7⟩
      have C7 := C6.out.block (hb7.block N1 (by omega))
      have HC7 := Lib.hid C7
      have Z7 := Lib.hid (Z6.out.block (hb7.block w.heap.size (by omega)))
      have R7 := Lib.hid (R6.out.on hb7)
      have B7 := Lib.hid (hb0.out.trans (hb7.mono (by omega)))
      have hsw7 : N1 + 1 ≤ w7.heap.size := Nat.le_trans hsw hb7.size
      obtain ⟨⟨e0, e1, e2, e3⟩, ⟨f0, f1, f2, f3⟩⟩ := C7
      clear hb7 C6 Z6 R6 hb0 hch hch2
      go_wp2_with fail
      go_roundg (gk - 1)
      case measure => omega
      case rel =>
        have hX : Hid (St4 (St4.setAll w7 N1 s2) N1 s2) ∧ Hid (B16 (St4.setAll w7 N1 s2) w.heap.size (fun _ => 0)) ∧ Hid (RowB (St4.setAll w7 N1 s2) (.slice (some ⟨g, off, none⟩) n cap) L) ∧ Hid (Below w.heap.size w (St4.setAll w7 N1 s2)) ∧ N1 + 1 ≤ (St4.setAll w7 N1 s2).heap.size :=
          ⟨HC7.out.set s2, Z7.out.block (setAll_other s2 (by omega)), row_block R7.out (by simp [St4.setAll]) (setAll_other s2 (by omega)), setAll_below s2 B7.out (by omega), by simpa [St4.setAll] using hsw7⟩
        have hs12 : s2 = allK L s (k + 1) := by rw [hs2.out, hs1.out]; rfl
        rw [hs12] at hX ⊢
        exact ⟨k + 1, m + 64, by omega, by have := hm.out; omega, rfl, hX⟩
    · obtain rfl : k = q := by omega
      have t1 : decide (m < n) = false := decide_eq_false (by have := hnq.out; omega)
      obtain ⟨r, hr⟩ : ∃ r, Hid (r = allF s L) := ⟨_, rfl⟩
      have hdr : Hid (d = dgF r) := by show _ = _; rw [hdL.out, hr.out]
      replace c5 : Hid (St4 wr N1 r) := by
        show St4 _ _ _
        rw [hr.out, allF, hq.out]; exact c5.out
      clear hr hdL hR6 hq hLq hnq hn hm hs hL64 hlt hk hl
      go_wp2_with fail
      have z6 := Lib.hid (B16.new wr 34)
      have c6 := Lib.hid (c5.out.block (Below.heap_alloc wr (z16 34) N1 (by omega)))
      have z7 := Lib.hid (z5.out.block (Below.heap_alloc wr (z16 34) w.heap.size (by omega)))
      have B6 : Hid (Below w.heap.size w (wr.alloc (z16 34))) := hB6.out.alloc (by omega) (z16 34)
      show Code.wp _ _ _ _ (wr.alloc (z16 34))
      generalize wr.alloc (z16 34) = w8 at z6 c6 z7 B6 ⊢
      clear c5 z5 hB6
      generalize wr.heap.size = N2 at z6 hsz6 ⊢
      clear hgc hLl hgm hgN t1
      go_loopg [7] 4 (fun gh s7 wx => ∃ i : Nat, i + gh = 4 ∧ s7 = .int .i64 i ∧ Hid (St4 wx N1 r) ∧ Hid (B16 wx w.heap.size (fun _ => 0)) ∧ Hid (B16 wx N2 (fun j => if j < 4 * i then dgF r j else 0)) ∧ Hid (Below w.heap.size w wx))
      case atStart => exact ⟨0, by omega, rfl, c6, z7, z6, B6⟩
      case round =>
        clear c6 z7 z6 B6
        obtain ⟨i, hi, rfl, c6, z7, z6, B6⟩ := hrel
        by_cases hlt : i < 4
        · have t1 : decide ((i : Int) < 4) = true := decide_eq_true (by omega)
          have hc := (c6.out.wd i (by omega)).1
          obtain ⟨x, hx⟩ : ∃ x, x = r.wd i := ⟨_, rfl⟩
          rw [← hx] at hc
          replace hx := Lib.hid hx
          go_wp2_with fail
          go_loopg [8, 9] 4 (fun gj s8 s9 wx => ∃ k : Nat, k + gj = 4 ∧ s9 = .int .i64 k ∧ s8 = .int .u32 ((x.toNat / 256 ^ k : Nat) : Int) ∧ Hid (St4 wx N1 r) ∧ Hid (B16 wx w.heap.size (fun _ => 0)) ∧ Hid (B16 wx N2 (fun j => if j < 4 * i + k then dgF r j else 0)) ∧ Hid (Below w.heap.size w wx))
          case atStart => exact ⟨0, by omega, rfl, by rw [Nat.pow_zero, Nat.div_one]; rfl, c6, z7, z6, B6⟩
          case round =>
            clear c6 z7 z6 B6 hc
            obtain ⟨k, hk, rfl, rfl, c6, z7, z6, B6⟩ := hrel
            by_cases hlk : k < 4
            · have t2 : decide ((k : Int) < 4) = true := decide_eq_true (by omega)
              have hX : x.toNat / 256 ^ k < 4294967296 := Nat.lt_of_le_of_lt (Nat.div_le_self _ _) x.isLt
              have hX2 : x.toNat / 256 ^ (k + 1) = x.toNat / 256 ^ k / 256 := by rw [Nat.div_div_eq_div_mul, Nat.pow_succ]
              have hdg := Lib.hid (dgF_4 r i k hlk)
              rw [← hx.out] at hdg
              replace hX2 := Lib.hid hX2
              obtain ⟨X, hXe⟩ : ∃ X, X = x.toNat / 256 ^ k := ⟨_, rfl⟩
              rw [← hXe] at hX hX2 hdg ⊢
              clear hXe
              have hw8 := Lib.hid (show (X : Int) % 256 = ((UInt8.ofNat X).toNat : Int) by rw [UInt8.toNat_ofNat']; omega)
              have hz5 := (z6.out (4 * i + k) (by omega)).1
              have hf5 := (z6.out (4 * i + k) (by omega)).2
              go_wp2_with fail
              go_roundg (gk - 1)
              case measure => omega
              case rel =>
                rw [hw8.out, ← hdg.out]
                refine ⟨k + 1, by omega, by go_num, ?_, c6.out.block (heap_other' (by omega)), z7.out.block (heap_other' (by omega)), (z6.out.set (4 * i + k) (by omega) _).congr (dg_step _ _), B6.out.setCell (p := ⟨N2, 4 * i + k, none⟩) (by show w.heap.size ≤ N2; omega) _⟩
                rw [hX2.out]; rfl
            · obtain rfl : k = 4 := by omega
              go_wp2_with fail
              go_roundg (3 - i)
              case measure => omega
              case rel => exact ⟨i + 1, by omega, by go_num, c6, z7, by rw [show 4 * (i + 1) = 4 * i + 4 by omega]; exact z6, B6⟩
        · obtain rfl : i = 4 := by omega
          have z8 : B16 wr N2 d := by
            rw [hdr.out]; exact z6.out.congr (fun i hi => by simp [show i < 16 from hi])
          obtain ⟨x0, x1, x2, x3, x4, x5, x6, x7, x8, x9, x10, x11, x12, x13, x14, x15⟩ := z8.cells
          obtain ⟨y0, y1, y2, y3, y4, y5, y6, y7, y8, y9, y10, y11, y12, y13, y14, y15⟩ := z7.out.cells
          obtain ⟨g0, g1, g2, g3, g4, g5, g6, g7, g8, g9, g10, g11, g12, g13, g14, g15⟩ := z7.out.frees
          have HE := B16.setAll z7.out d
          have HB := Lib.hid (setAll16_below d B6.out (Nat.le_refl w.heap.size))
          clear z8 z6 c6
          go_wp2_with fail
          show bodyPost _ _ _ _ _ (setAll16 wr w.heap.size d)
          generalize setAll16 wr w.heap.size d = WE at HE HB ⊢
          obtain ⟨k0, k1, k2, k3, k4, k5, k6, k7, k8, k9, k10, k11, k12, k13, k14, k15⟩ := HE.cells
          clear HE
          exact bodyPost_ret (v := .agg #[.int .u8 ((d 0).toNat : Int), .int .u8 ((d 1).toNat : Int), .int .u8 ((d 2).toNat : Int), .int .u8 ((d 3).toNat : Int), .int .u8 ((d 4).toNat : Int), .int .u8 ((d 5).toNat : Int), .int .u8 ((d 6).toNat : Int), .int .u8 ((d 7).toNat : Int), .int .u8 ((d 8).toNat : Int), .int .u8 ((d 9).toNat : Int), .int .u8 ((d 10).toNat : Int), .int .u8 ((d 11).toNat : Int), .int .u8 ((d 12).toNat : Int), .int .u8 ((d 13).toNat : Int), .int .u8 ((d 14).toNat : Int), .int .u8 ((d 15).toNat : Int)]) (by simp [results, Tryd.results29, go_sem, k0, k1, k2, k3, k4, k5, k6, k7, k8, k9, k10, k11, k12, k13, k14, k15]) rfl ⟨rfl, HB.out⟩
end Go.Proofs.YtimiejahkcjcdaaDoor
