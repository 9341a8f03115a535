/- The law Md5Wrong. -/
import Derived.Test.YtimiejahkcjcdaaDoorMU
import Derived.Deep.CutRange
import Derived.Deep.DeepCutAuto
namespace Go.Proofs.YtimiejahkcjcdaaDoor
open Go.RowKit

theorem stepE_no' (s : S4) (a : Option Addr) (n c : Nat) (h : n ≠ 64) (w : World) : Calls Tryd.prog 17 #[.agg #[.int .u32 (U s.a), .int .u32 (U s.b), .int .u32 (U s.c), .int .u32 (U s.d)], .slice a n c] w fun e w' => e = .returned (.tuple #[.agg #[.int .u32 0, .int .u32 0, .int .u32 0, .int .u32 0], .int .i64 2]) ∧ Below w.heap.size w w' := stepE_no s a n c h w
theorem eqz30 (w : World) : (Op.equalIn 10000 30 (.agg #[.int .u32 0, .int .u32 0, .int .u32 0, .int .u32 0]) (.agg #[.int .u32 0, .int .u32 0, .int .u32 0, .int .u32 0])).run Tryd.prog w = .ok true w := by
  have := eq30 ⟨0, 0, 0, 0⟩ ⟨0, 0, 0, 0⟩ w
  rw [decide_eq_true rfl] at this
  exact this
set_option maxRecDepth 100000 in
set_option maxHeartbeats 2000000 in
theorem wrong_any (s : S4) (a : Option Addr) (len cap : Nat) (l : List UInt8) (hl : l.length = len) (hlm : len ≤ maxLen) (n : Int) (w : World) (hr : RowB w (.slice a len cap) l) (hT : Tabs w) :
    Calls Tryd.prog 7 #[.agg #[.int .u32 (U s.a), .int .u32 (U s.b), .int .u32 (U s.c), .int .u32 (U s.d)], .slice a len cap, .int .i64 n] w fun e w' => e = .returned (.bool true) ∧ Below w.heap.size w w' := by
  unfold maxLen at hlm
  have hcap : len ≤ cap := by
    rcases hr with ⟨_, _, _, hv, _⟩ | ⟨_, _, _, hv, _, h1, _⟩
    · cases hv; omega
    · simp only [Value.slice.injEq] at hv
      obtain ⟨_, h2, h3⟩ := hv
      omega
  have hsome : len = 0 ∨ ∃ b off, a = some ⟨b, off, none⟩ := by
    rcases hr with ⟨_, _, _, hv, _⟩ | ⟨b, off, _, hv, _, _, _⟩
    · cases hv; exact .inl rfl
    · simp only [Value.slice.injEq] at hv
      exact .inr ⟨b, off, hv.1⟩
  have E := eqz30
  replace hT := Lib.hid hT
  replace hsome := Lib.hid hsome
  clear hr hl
  have B0 := Lib.hid ((Below.refl w.heap.size w).alloc (Nat.le_refl _) (.cells #[.int .u32 (U s.a), .int .u32 (U s.b), .int .u32 (U s.c), .int .u32 (U s.d)] 30))
  go_enter Tryd.func7, Tryd.ntmps7
  go_upto_if 22 with (fail)
  obtain ⟨m, hm⟩ : ∃ m : Nat, min (len : Int) 300 = m := ⟨min len 300, by omega⟩
  have hml : m ≤ len := by omega
  have hm300 : m ≤ 300 := by omega
  rw [hm, Int.toNat_natCast, show max (m : Int) 0 = m by omega]
  show Code.wp _ _ _ _ (w.alloc (.cells #[.int .u32 (U s.a), .int .u32 (U s.b), .int .u32 (U s.c), .int .u32 (U s.d)] 30))
  have c0 := Lib.hid (St4.new w s 30)
  generalize w.alloc (.cells #[.int .u32 (U s.a), .int .u32 (U s.b), .int .u32 (U s.c), .int .u32 (U s.d)] 30) = w0 at B0 c0 ⊢
  clear hm
  go_cut [1] (fun s1 wx => ∃ (a' : Option Addr) (m' c' : Nat), s1 = .slice a' m' c' ∧ m' ≠ 64 ∧ w0 = wx)
  case first =>
    by_cases h64 : m = 64
    · subst h64
      rcases hsome.out with h | ⟨b, off, rfl⟩
      · omega
      · have hc1 : 1 ≤ cap := by omega
        have hc2 : ¬ cap = 1 := by omega
        go_wp2_with fail
        go_meet
        exact ⟨_, 63, _, rfl, by omega, rfl⟩
    · have t1 : ((m : Int) == 64) = false := beq_eq_false_iff_ne.2 (by omega)
      go_wp2_with fail
      go_meet
      exact ⟨_, _, _, rfl, h64, rfl⟩
  case rest =>
    obtain ⟨a', m', c', rfl, h64, rfl⟩ := hcut
    obtain ⟨⟨x0, x1, x2, x3⟩, _⟩ := c0.out
    go_wp2_with fail
    refine (stepE_no' s a' m' c' h64 _).mono ?_; rintro e w1 ⟨rfl, hb1⟩
    have B1 := Lib.hid (B0.out.trans (hb1.mono B0.out.size))
    clear hb1 B0 x0 x1 x2 x3
    have hs1 := B1.out.size
    go_wp2_with fail
    have B2 := Lib.hid (B1.out.alloc hs1 (.cells #[.int .u32 0, .int .u32 0, .int .u32 0, .int .u32 0] 30))
    have z := Lib.hid (St4.new w1 ⟨0, 0, 0, 0⟩ 30)
    refine (padding_no (min n (-1)) (.inl (by omega)) _).mono ?_; rintro e w2 ⟨rfl, rfl⟩
    go_wp2_with fail
    refine (padding_no (max n 1099511627777) (.inr (by omega)) _).mono ?_; rintro e w2 ⟨rfl, rfl⟩
    go_wp2_with fail
    refine (modulo_0 _ _).mono ?_; rintro e w2 ⟨rfl, rfl⟩
    go_wp2_with fail
    refine (awake_any _ (hT.out.on B2.out)).mono ?_; rintro e w3 ⟨rfl, hb3⟩
    have B3 := Lib.hid (B2.out.trans (hb3.mono B2.out.size))
    clear hb3
    go_wp2_with fail
    go_ret
    exact ⟨rfl, B3.out⟩
/-- The law Md5Wrong. -/
theorem md5Wrong_walk (z0 : List Int) (a1 : Option Addr) (len1 cap1 : Nat) (z1 : List Int) (a2 : Int) (w : World) (l0 : z0.length = 4) (w0 : ∀ i (hi : i < z0.length), (Lit.int .u32 z0[i]).wf = true) (w1 : IsRow .u8 w a1 len1 cap1 z1) (_w2 : (Lit.int .i64 a2).wf = true) (hT : Tabs w) :
    Calls Tryd.prog 7 #[.agg (z0.map (Value.int .u32)).toArray, .slice a1 len1 cap1, .int .i64 a2] w fun e w' => e = .returned (.bool true) ∧ Below w.heap.size w w' := by
  obtain ⟨s, hs⟩ := st_of z0 l0 w0
  obtain ⟨l, hl, hlm, hr⟩ := w1.bytes
  rw [hs]
  exact wrong_any s a1 len1 cap1 l hl hlm a2 w hr hT
end Go.Proofs.YtimiejahkcjcdaaDoor
