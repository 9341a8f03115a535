/- atof64 at a decimal of at most nineteen digits. -/
import Derived.Test.YtaidemghhagniaaGreatDoorD8
import Derived.Test.YtaidemghhagniaaGreatDoorD9
namespace Go.Proofs.YtaidemghhagniaaGreatDoor
open Go Go.RowKit
def v64 (d : Nat) (p : Int) : Nat := if d = 0 then 0 else if 310 < p then INF else if p < -345 then 0 else pf64 d (p + 348).toNat
def AtRet (ng : Bool) (v : Nat) (n : Int) (w : World) (x : Ending) (w' : World) : Prop := (∃ b, x = .returned (.tuple #[.float .f64 (sgw ng + v), .int .i64 n, errV b])) ∧ Below w.heap.size w w'
theorem bool2_to (ng : Bool) : ∃ b : Int, IntKind.u64.wrap (b * 9223372036854775808) = ((sgw ng : Nat) : Int) ∧ ∀ w, Calls Tryz.prog 139 #[.bool ng] w fun e w' => e = .returned (.int .u64 b) ∧ w = w' := by
  cases ng
  · exact ⟨0, rfl, fun w => bool2_any false w⟩
  · exact ⟨1, rfl, fun w => bool2_any true w⟩
theorem first_dig {s : ByteArray} {a e : Nat} (H : Scan s a e) : dig (bt s a).toNat := by
  have h1 := H.lt
  rcases H.ch a (Nat.le_refl _) h1 with g | g
  · have := (isD_iff _).1 g; exact ⟨by omega, by omega⟩
  · rw [g.1]; exact ⟨by decide, by decide⟩
theorem sg_or (ng : Bool) : bits .or .u64 ((sgw ng : Nat) : Int) 0 = ((sgw ng : Nat) : Int) ∧ bits .or .u64 ((sgw ng : Nat) : Int) 9218868437227405312 = ((sgw ng + INF : Nat) : Int) := by
  cases ng <;> decide +kernel
set_option maxRecDepth 100000 in
set_option maxHeartbeats 4000000 in
theorem atof_short (s : ByteArray) (a e : Nat) (ng : Bool) (E : Int) (H : Scan s a e) (S : Sgn s a ng) (T : Tail s e E) (ht : (mat s a e).trunc = false) (w : World) (hG : FGlb w) :
    Calls Tryz.prog 119 #[.string s] w (AtRet ng (v64 (mat s a e).mant (rfExp (mat s a e) E)) s.size w) := by
  have hz := H.sz
  have hl := H.lt
  have hle := H.le
  have hrf := rf_any s a e ng E H S T w
  unfold RfRet at hrf
  rw [ht] at hrf
  have hsp := Lib.hid (sp_any s a ng (by omega) hz (by rcases S with h | h; exact .inl h.1; exact .inr h) (first_dig H) w)
  have hm := (mat_bd2 H e (by omega) (Nat.le_refl _)).2.1
  obtain ⟨d, hd⟩ : ∃ d, d = (mat s a e).mant := ⟨_, rfl⟩
  obtain ⟨p, hp⟩ : ∃ p, p = rfExp (mat s a e) E := ⟨_, rfl⟩
  rw [← hd] at hm
  rw [← hd, ← hp] at hrf ⊢
  replace hrf := Lib.hid hrf
  obtain ⟨b, hb1, hb2⟩ := bool2_to ng
  obtain ⟨o1, o2⟩ := sg_or ng
  have hsg := sgw_lt ng
  have hae := fun (h0 : 0 < d) (h1 : -348 ≤ p) (h2 : p ≤ 347) => aex_any ng d p h0 (by omega) h1 h2 w hG
  have hpf := fun (h0 : 0 < d) (h1 : -348 ≤ p) (h2 : p ≤ 347) => pf_any d (p + 348).toNat (sgw ng) h0 (by omega) (by omega) hsg w hG.tab (by have := hG.big; omega)
  obtain ⟨sg, hsgd⟩ : ∃ sg, sg = sgw ng := ⟨_, rfl⟩
  rw [← hsgd] at hb1 o1 o2 hae hpf hsg
  have f1 := fb64 (sg : Int) w
  have f2 := fb64 ((sg + INF : Nat) : Int) w
  rw [Int.toNat_natCast] at f1 f2
  have opt := hG.opt
  have hAt : ∀ v b W, Below w.heap.size w W → v64 d p = v → AtRet ng (v64 d p) s.size w (.returned (.tuple #[.float .f64 (sg + v), .int .i64 s.size, errV b])) W := fun v b W hB hv => by subst hv; rw [hsgd]; exact ⟨⟨b, rfl⟩, hB⟩
  obtain ⟨hi, hhi⟩ : ∃ hi, hi = sg + INF := ⟨_, rfl⟩
  rw [← hhi] at o2 f2
  replace hsgd := Lib.hid hsgd
  replace hb2 := Lib.hid hb2
  replace hAt := Lib.hid hAt
  clear H S T ht hd hp hG hl hle
  by_cases g0 : d = 0
  · have u0 : ((d : Int) == 0) = true := by simp [g0]
    have hv : Hid (AtRet ng (v64 d p) s.size w (.returned (.tuple #[.float .f64 sg, .int .i64 s.size, .nilIface])) w) := hAt.out 0 false w (Below.refl _ _) (by unfold v64; rw [if_pos g0])
    clear hae hpf hAt g0 hhi
    go_enter Tryz.func119, Tryz.ntmps119
    go_wp2_with fail
    refine hsp.out.mono ?_; rintro x w1 ⟨rfl, rfl⟩
    go_wp2_with fail
    refine hrf.out.mono ?_; rintro x w1 ⟨rfl, rfl⟩
    go_wp2_with fail
    refine (hb2.out _).mono ?_; rintro x w1 ⟨rfl, rfl⟩
    go_wp2_with fail
    go_ret3
    exact hv.out
  · have u0 : ((d : Int) == 0) = false := by simp [g0]
    have d0 : 0 < d := by omega
    by_cases g1 : 310 < p
    · have u1 : decide ((310 : Int) < p) = true := decide_eq_true g1
      have hv : Hid (AtRet ng (v64 d p) s.size w (.returned (.tuple #[.float .f64 hi, .int .i64 s.size, .iface 125 (.int .i64 1)])) w) := by rw [hhi]; exact hAt.out INF true w (Below.refl _ _) (by unfold v64; rw [if_neg g0, if_pos g1])
      clear hhi
      clear hae hpf hAt g0
      go_enter Tryz.func119, Tryz.ntmps119
      go_wp2_with fail
      refine hsp.out.mono ?_; rintro x w1 ⟨rfl, rfl⟩
      go_wp2_with fail
      refine hrf.out.mono ?_; rintro x w1 ⟨rfl, rfl⟩
      go_wp2_with fail
      refine (hb2.out _).mono ?_; rintro x w1 ⟨rfl, rfl⟩
      go_wp2_with fail
      go_ret3
      exact hv.out
    · have u1 : decide ((310 : Int) < p) = false := decide_eq_false g1
      by_cases g2 : p < -345
      · have u2 : decide (p < (-345 : Int)) = true := decide_eq_true g2
        have hv : Hid (AtRet ng (v64 d p) s.size w (.returned (.tuple #[.float .f64 sg, .int .i64 s.size, .nilIface])) w) := hAt.out 0 false w (Below.refl _ _) (by unfold v64; rw [if_neg g0, if_neg g1, if_pos g2])
        clear hae hpf hAt g0 g1 g2 hhi
        go_enter Tryz.func119, Tryz.ntmps119
        go_wp2_with fail
        refine hsp.out.mono ?_; rintro x w1 ⟨rfl, rfl⟩
        go_wp2_with fail
        refine hrf.out.mono ?_; rintro x w1 ⟨rfl, rfl⟩
        go_wp2_with fail
        refine (hb2.out _).mono ?_; rintro x w1 ⟨rfl, rfl⟩
        go_wp2_with fail
        go_ret3
        exact hv.out
      · have u2 : decide (p < (-345 : Int)) = false := decide_eq_false g2
        have hv := fun b W hB => hAt.out (pf64 d (p + 348).toNat) b W hB (by unfold v64; rw [if_neg g0, if_neg g1, if_neg g2])
        have hae' := Lib.hid (hae d0 (by omega) (by omega))
        have hpf' := Lib.hid (hpf d0 (by omega) (by omega))
        rw [show ((p + 348).toNat : Int) - 348 = p by omega] at hpf'
        obtain ⟨F, hF⟩ : ∃ F, F = pf64 d (p + 348).toNat := ⟨_, rfl⟩
        rw [← hF] at hv hae' hpf'
        have hv0 : ∀ W, Below w.heap.size w W → AtRet ng (v64 d p) s.size w (.returned (.tuple #[.float .f64 (sg + F), .int .i64 s.size, .nilIface])) W := fun W hB => hv false W hB
        obtain ⟨er, her⟩ : ∃ er, er = errV (decide (F = INF)) := ⟨_, rfl⟩
        have hv1 : ∀ W, Below w.heap.size w W → AtRet ng (v64 d p) s.size w (.returned (.tuple #[.float .f64 (sg + F), .int .i64 s.size, er])) W := fun W hB => by rw [her]; exact hv _ W hB
        unfold PfRet at hpf'
        rw [← her] at hpf'
        obtain ⟨Q, hQ⟩ : ∃ Q, Q = sg + F := ⟨_, rfl⟩
        rw [← hQ] at hv0 hv1 hpf' hae'
        replace hv0 := Lib.hid hv0
        replace hv1 := Lib.hid hv1
        clear hae hpf hAt g0 g1 g2 her hF hv hhi hQ
        go_enter Tryz.func119, Tryz.ntmps119
        go_wp2_with fail
        refine hsp.out.mono ?_; rintro x w1 ⟨rfl, rfl⟩
        go_wp2_with fail
        refine hrf.out.mono ?_; rintro x w1 ⟨rfl, rfl⟩
        go_wp2_with fail
        refine (hb2.out _).mono ?_; rintro x w1 ⟨rfl, rfl⟩
        go_wp2_with fail
        refine hae'.out.mono ?_; rintro x w1 ⟨⟨f, ok, rfl, hok⟩, rfl⟩
        cases ok with
        | true =>
          obtain rfl := hok rfl
          go_wp2_with fail
          go_ret3
          exact hv0.out _ (Below.refl _ _)
        | false =>
          clear hok
          go_wp2_with fail
          refine hpf'.out.mono ?_; rintro x w1 ⟨rfl, hB⟩
          replace hB := Lib.hid hB
          go_wp2_with fail
          go_ret3
          exact hv1.out _ hB.out
end Go.Proofs.YtaidemghhagniaaGreatDoor
