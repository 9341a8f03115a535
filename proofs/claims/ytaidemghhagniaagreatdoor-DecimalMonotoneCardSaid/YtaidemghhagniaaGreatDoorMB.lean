/- DecimalMonotone's walk. -/
import Derived.Test.YtaidemghhagniaaGreatDoorHP
namespace Go.Proofs.YtaidemghhagniaaGreatDoor
open Go Go.RowKit
set_option linter.unusedVariables false
theorem u64_nan (r : Nat) (h : r ≤ INF) : nanN r = false ∧ nanN (9223372036854775808 + r) = false := by
  have hI : INF = 9218868437227405312 := rfl
  unfold nanN
  rw [decide_eq_false_iff_not, decide_eq_false_iff_not]
  omega
theorem cmp_two (x y : Int) (h : x ≤ y) : ∃ n : Int, ((if x < y then (-1 : Int) else if y < x then 1 else 0, (0 : Int)) : Int × Int) = (n, 0) ∧ -1 ≤ n ∧ n ≤ 0 := by
  by_cases h1 : x < y
  · rw [if_pos h1]; exact ⟨-1, rfl, by decide, by decide⟩
  · rw [if_neg h1, if_neg (by omega)]; exact ⟨0, rfl, by decide, by decide⟩
theorem cmp_le (r1 r2 : Nat) (h : r1 ≤ r2) (h2 : r2 ≤ INF) : ∃ n : Int, cmpN r1 r2 = (n, 0) ∧ -1 ≤ n ∧ n ≤ 0 := by
  have hI : INF = 9218868437227405312 := rfl
  rw [cmp_num _ _ (u64_nan r1 (by omega)).1 (u64_nan r2 h2).1]
  refine cmp_two _ _ ?_
  unfold ordN
  rw [if_pos (show r1 < 9223372036854775808 by omega), if_pos (show r2 < 9223372036854775808 by omega)]
  omega
theorem cmp_neg (r : Nat) (h : r ≤ INF) : ∃ n : Int, cmpN (9223372036854775808 + r) r = (n, 0) ∧ -1 ≤ n ∧ n ≤ 0 := by
  have hI : INF = 9218868437227405312 := rfl
  rw [cmp_num _ _ (u64_nan r h).2 (u64_nan r h).1]
  refine cmp_two _ _ ?_
  unfold ordN
  rw [if_neg (show ¬ 9223372036854775808 + r < 9223372036854775808 by omega), if_pos (show r < 9223372036854775808 by omega)]
  omega
set_option maxRecDepth 100000 in
set_option maxHeartbeats 8000000 in
theorem mono_law (a0 : Option Addr) (c0 : Nat) (l : List UInt8) (point more : Nat) (ex0 : Int) (hp : point < 256) (hmo : more < 256) (hx1 : -32768 ≤ ex0) (hx2 : ex0 ≤ 32767) (w : World) (hr : Row w (.slice a0 l.length c0) (l.map enc8)) (hlm : l.length ≤ maxLen) (hc0 : l.length ≤ c0) (hG : AGlb w) :
    Calls Tryz.prog 8 #[.slice a0 l.length c0, .int .u8 point, .int .i16 ex0, .int .u8 more] w fun e w' => e = .returned (.bool true) ∧ Below w.heap.size w w' := by
  have hGG := Lib.hid hG
  have hrr := Lib.hid hr
  clear hG hr
  go_enter Tryz.func8, Tryz.ntmps8
  go_wp2_with fail
  obtain ⟨m, hm⟩ : ∃ m, m = min l.length 60 := ⟨_, rfl⟩
  rw [show (min (l.length : Int) 60).toNat = m by omega]
  obtain ⟨z, hz⟩ : ∃ z, z = l.take m := ⟨_, rfl⟩
  have hzl : z.length = m := by rw [hz, List.length_take]; omega
  have ct := text_any a0 c0 z w (by rw [hzl, hz, List.map_take]; exact row_take hrr.out (by omega)) (by omega)
  rw [hzl] at ct
  obtain ⟨d, hd⟩ : ∃ d, Hid (d = digT z) := ⟨_, Lib.hid rfl⟩
  have hdo := digT_ok z
  rw [← hd.out] at ct hdo
  obtain ⟨hdd, hd1, hd2⟩ := hdo
  replace hd2 : d.length ≤ 61 := by omega
  replace hdd := Lib.hid hdd
  refine ct.mono ?_; rintro e w1 ⟨rfl, hb⟩
  have hB := Lib.hid hb
  rw [show ({ data := d.toArray } : ByteArray) = BS d from rfl]
  have hds := BS_size d
  obtain ⟨k, hk⟩ : ∃ k : Nat, (point : Int) % ((d.length : Int) + 1) = (k : Int) := ⟨point % (d.length + 1), rfl⟩
  have hkl : k ≤ d.length := by have := Int.emod_lt_of_pos (point : Int) (show 0 < ((d.length : Int) + 1) by omega); omega
  clear ct hb hd hz hzl hrr hlm hm
  go_upto_region 3 with (fail)
  rw [hk]
  clear hk
  obtain ⟨ex, hex⟩ : ∃ ex : Int, ex0.tmod 401 = ex := ⟨_, rfl⟩
  have hexb : ex.natAbs ≤ 400 := by
    have h1 := Int.tmod_lt_of_pos ex0 (show (0 : Int) < 401 by decide)
    have h2 := Int.lt_tmod_of_pos ex0 (show (0 : Int) < 401 by decide)
    omega
  go_wp2_with fail
  refine (itoa_b ex (by omega) w1 (hGG.out.on hB.out).tab).mono ?_; rintro e w2 ⟨rfl, hb⟩
  replace hB := Lib.hid (hB.out.trans (hb.mono hB.out.size))
  clear hb hex
  obtain ⟨tl, htl⟩ : ∃ tl, Hid (tl = Lib.itoa ex) := ⟨_, Lib.hid rfl⟩
  have htz := BS_size (Lib.itoa ex)
  have htl6 := (itoa_tail 101 (.inl rfl) ex (by omega)).2.2
  rw [← htl.out] at htz htl6 ⊢
  have hcut3 : Hid ((BS d).extract 0 k ++ (⟨#[46]⟩ : ByteArray) ++ (BS d).extract k d.length = BS (sT d k)) := Lib.hid (by
    apply ba_ext; unfold sT BS; simp; rw [List.take_of_length_le (by simp)])
  have hcut2 : (⟨#[101]⟩ : ByteArray) ++ BS tl = BS (101 :: tl) := by apply ba_ext; simp [BS]
  go_upto_region 4 with (fail)
  go_cut [12] (fun s12 wx => s12 = .string (BS (sT d k)) ∧ Hid (Below w.heap.size w wx))
  case first =>
    go_quiet (fail)
    go_wp2_with fail
    go_meet
    exact ⟨by rw [← hcut3.out], Lib.hid (hB.out.trans ⟨rfl, rfl, rfl, Nat.le_refl _, fun _ _ => rfl⟩)⟩
  case rest =>
    obtain ⟨rfl, hB2⟩ := hcut
    replace hB := Lib.hid hB2.out
    clear hB2 hcut3
    obtain ⟨c, hcN⟩ : ∃ c : UInt8, c.toNat = 49 + more % 9 := ⟨UInt8.ofNat (49 + more % 9), ofNat_to _ (by omega)⟩
    have hcv : (49 : Int) + (more : Int) % 9 = (c.toNat : Int) := by omega
    have hcb : 49 ≤ c.toNat ∧ c.toNat ≤ 57 := by omega
    have hconv := run_c1 (wc.alloc (.cells #[.int .u8 (c.toNat : Int)] 5)) wc.heap.size c (by unfold World.cell?; rw [show (wc.alloc (.cells #[.int .u8 (c.toNat : Int)] 5)).heap[wc.heap.size]? = some (.cells #[.int .u8 (c.toNat : Int)] 5) from Array.getElem?_push_size]; rfl)
    obtain ⟨r1, r2, q1, q2, q3⟩ := mono_facts d (fun x hx => (isD_iff x).1 (hdd.out x hx)) hd1 (by omega) k hkl ex (by omega) c hcb
    obtain ⟨n1, n1e, n1a, n1b⟩ := cmp_le r1 r2 q1 q2
    obtain ⟨n2, n2e, n2a, n2b⟩ := cmp_neg r1 (by omega)
    have hI : INF = 9218868437227405312 := rfl
    have hr1 : r1 ≤ 9218868437227405312 := by omega
    have hr2 : r2 ≤ 9218868437227405312 := by omega
    have hneg : negN r1 = 9223372036854775808 + r1 := by unfold negN; rw [if_pos (by omega)]; omega
    have k1 := Lib.hid (fun W => compare_any r1 r2 (by omega) (by omega) W)
    have k2 := Lib.hid (fun W => compare_any (9223372036854775808 + r1) r1 (by omega) (by omega) W)
    have k3 := Lib.hid (fun W => neg_any r1 (by omega) W)
    rw [n1e] at k1
    rw [n2e] at k2
    rw [hneg] at k3
    rw [← htl.out] at q3
    obtain ⟨R, hR⟩ : ∃ R, R = 9223372036854775808 + r1 := ⟨_, rfl⟩
    rw [← hR] at k2 k3 q3
    obtain ⟨s, hs⟩ : ∃ s, Hid (s = sT d k) := ⟨_, Lib.hid rfl⟩
    have hsl0 : s.length = d.length + 1 := by rw [hs.out]; exact sT_len d k
    rw [← hs.out] at q3 ⊢
    obtain ⟨T1, hT1⟩ : ∃ T1, Hid (T1 = 101 :: tl) := ⟨_, Lib.hid rfl⟩
    rw [← hT1.out] at q3 hcut2 ⊢
    have hT1l : T1.length ≤ 7 := by rw [hT1.out, List.length_cons]; omega
    obtain ⟨S2, hS2⟩ : ∃ S2, Hid (S2 = s ++ [c]) := ⟨_, Lib.hid rfl⟩
    obtain ⟨S3, hS3⟩ : ∃ S3, Hid (S3 = 45 :: s) := ⟨_, Lib.hid rfl⟩
    obtain ⟨S4, hS4⟩ : ∃ S4, Hid (S4 = 43 :: s) := ⟨_, Lib.hid rfl⟩
    rw [← hS2.out, ← hS3.out, ← hS4.out] at q3
    have b2 : BS s ++ BS [c] = BS S2 := by rw [BS_app, hS2.out]
    have b3 : (⟨#[45]⟩ : ByteArray) ++ BS s = BS S3 := by rw [hS3.out]; apply ba_ext; simp [BS]
    have b4 : (⟨#[43]⟩ : ByteArray) ++ BS s = BS S4 := by rw [hS4.out]; apply ba_ext; simp [BS]
    have l2 : S2.length ≤ 70 := by rw [hS2.out, List.length_append, List.length_singleton]; omega
    have l3 : S3.length ≤ 70 := by rw [hS3.out, List.length_cons]; omega
    have l4 : S4.length ≤ 70 := by rw [hS4.out, List.length_cons]; omega
    have l1 : s.length ≤ 70 := by omega
    have x1 := BS_app s T1
    have x2 := BS_app S2 T1
    have x3 := BS_app S3 T1
    have x4 := BS_app S4 T1
    have z1 := BS_size s
    have z2 := BS_size S2
    have z3 := BS_size S3
    have z4 := BS_size S4
    have z5 := BS_size T1
    have z6 : (BS [c]).size = 1 := BS_size [c]
    replace q3 := Lib.hid q3
    clear hs hS2 hS3 hS4 hT1 hcN hcb hds hkl htl htl6 htz hexb n1e n2e hneg q1 q2 hR hsl0 hd1 hd2
    clear hI hr1 hr2
    go_wp2_with fail
    replace hB := Lib.hid (hB.out.alloc hB.out.size (.cells #[.int .u8 (c.toNat : Int)] 5))
    refine (q3.out _ (hGG.out.on hB.out).p).1.mono ?_; rintro e w3 ⟨rfl, hb⟩
    replace hB := Lib.hid (hB.out.trans (hb.mono hB.out.size))
    clear hb hconv
    go_wp2_with fail
    refine (q3.out _ (hGG.out.on hB.out).p).2.1.mono ?_; rintro e w4 ⟨rfl, hb⟩
    replace hB := Lib.hid (hB.out.trans (hb.mono hB.out.size))
    clear hb
    go_wp2_with fail
    refine (q3.out _ (hGG.out.on hB.out).p).2.2.1.mono ?_; rintro e w5 ⟨rfl, hb⟩
    replace hB := Lib.hid (hB.out.trans (hb.mono hB.out.size))
    clear hb
    go_wp2_with fail
    refine (q3.out _ (hGG.out.on hB.out).p).2.2.2.mono ?_; rintro e w6 ⟨rfl, hb⟩
    replace hB := Lib.hid (hB.out.trans (hb.mono hB.out.size))
    clear hb q3
    go_wp2_with fail
    refine (k3.out _).mono ?_; rintro e w7 ⟨rfl, rfl⟩
    go_wp2_with fail
    refine (k1.out _).mono ?_; rintro e w8 ⟨rfl, rfl⟩
    go_wp2_with fail
    refine (k2.out _).mono ?_; rintro e w9 ⟨rfl, rfl⟩
    have haw := Lib.hid (awake_any w6 (hGG.out.on hB.out))
    have t1 : decide (n1 ≤ 0) = true := decide_eq_true n1b
    have t2 : decide (n2 ≤ 0) = true := decide_eq_true n2b
    go_wp2_with fail
    refine haw.out.mono ?_; rintro e w10 ⟨rfl, hb⟩
    replace hB := Lib.hid (hB.out.trans (hb.mono hB.out.size))
    clear hb haw
    go_wp2_with fail
    go_ret
    exact ⟨rfl, hB.out⟩
theorem i16_of {a : Int} (h : (Lit.int .i16 a).wf = true) : -32768 ≤ a ∧ a ≤ 32767 := by
  simp [Lit.wf, IntKind.min, IntKind.max, IntKind.signed, IntKind.bits] at h
  omega
theorem decimalMonotone_walk (a0 : Option Addr) (len0 cap0 : Nat) (z0 : List Int) (a1 a2 a3 : Int) (w : World) (w0 : IsRow .u8 w a0 len0 cap0 z0) (w1 : (Lit.int .u8 a1).wf = true) (w2 : (Lit.int .i16 a2).wf = true) (w3 : (Lit.int .u8 a3).wf = true) (hG : AGlb w) :
    Calls Tryz.prog 8 #[.slice a0 len0 cap0, .int .u8 a1, .int .i16 a2, .int .u8 a3] w fun e w' => e = .returned (.bool true) ∧ Below w.heap.size w w' := by
  obtain ⟨n1, rfl, h1⟩ := u8_of w1
  obtain ⟨h2, h2'⟩ := i16_of w2
  obtain ⟨n3, rfl, h3⟩ := u8_of w3
  obtain ⟨l, rfl, hr, hm, hc⟩ := w0.bytes
  exact mono_law a0 cap0 l n1 n3 a2 h1 h3 h2 h2' w hr hm hc hG
end Go.Proofs.YtaidemghhagniaaGreatDoor
