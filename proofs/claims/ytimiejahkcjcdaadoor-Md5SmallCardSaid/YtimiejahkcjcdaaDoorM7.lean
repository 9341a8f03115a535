/- The iterator blocks, and all. -/
import Derived.Test.YtimiejahkcjcdaaDoorM6
namespace Go.Proofs.YtimiejahkcjcdaaDoor
open Go.RowKit Go.Shelf
attribute [local go_sem] Oper.semAt_some

/-- Where the k-th block begins. -/
def at64 (a : Option Addr) (k : Nat) : Option Addr := match a with | some p => some ⟨p.block, p.off + 64 * k, none⟩ | none => none
def slc (a : Option Addr) (n c k : Nat) : Value := .slice (at64 a k) (n - 64 * k) (c - 64 * k)

def leftIn (W : World) (b : Nat) : Nat := match W.cell? ⟨b, 0, none⟩ with | some (.slice _ n _) => n | _ => 0
theorem leftIn_eq {W : World} {b : Nat} {t : TypeId} {a : Option Addr} {n c : Nat} (h : Boxed W b t (.slice a n c)) : leftIn W b = n := by unfold leftIn; rw [h.cell]
set_option maxRecDepth 100000 in
set_option maxHeartbeats 1000000 in
theorem blocks1_in (m : Nat) (hm : 2 ≤ m) (l Bs bb off n c : Nat) (h64 : 64 ≤ n) (hnc : n ≤ c) (J : Nat → World → Prop) (hJs : ∀ k A v, J k A → J k (A.setCell ⟨Bs, 0, none⟩ v))
    (hY : ∀ k A, k < n / 64 → J k A → YieldAt Fence.wide (m - 1) Tryd.prog l #[.slice (some ⟨bb, off + 64 * k, none⟩) 64 64] A fun e B => e = .returned (.bool true) ∧ J (k + 1) B ∧ Same Bs A B)
    (W : World) (hBx : Boxed W Bs 24 (.slice (some ⟨bb, off, none⟩) n c)) (h0 : J 0 W) :
    CallsIn Fence.wide m Tryd.prog 50 #[.func (.yield l) #[] #[], .pointer (some ⟨Bs, 0, none⟩)] W fun e B => (∃ v, e = .returned v) ∧ J (n / 64) B := by
  have hro : Fence.wide.round = none := rfl
  have h1n : 1 ≤ m := by omega
  refine callsIn_of_wp Tryd.func50 rfl trivial ?_ hro
  simp only [Tryd.ntmps50, List.size_toArray, List.length_cons, List.length_nil, Nat.reduceAdd, Nat.reduceSub, Array.replicate_succ, Array.replicate_zero, List.push_toArray, List.append_toArray, List.nil_append, List.cons_append]
  gi_wp2
  gi_loopw [3] (fun _ wr => ∃ (k : Nat) (q : Option Addr), k ≤ n / 64 ∧ Boxed wr Bs 24 (.slice q (n - 64 * k) (c - 64 * k)) ∧ J k wr ∧ (k < n / 64 → q = some ⟨bb, off + 64 * k, none⟩))
    (fun _ wr => leftIn wr Bs)
  case atStart => exact ⟨0, _, by omega, hBx, h0, fun _ => rfl⟩
  case round =>
    obtain ⟨k, q, hk, hb, hj, hq⟩ := hrel
    have hcell := hb.cell
    have hfr := hb.frozen
    obtain ⟨N, hN⟩ : ∃ N, N = n - 64 * k := ⟨_, rfl⟩
    obtain ⟨C, hC⟩ : ∃ C, C = c - 64 * k := ⟨_, rfl⟩
    rw [← hN, ← hC] at hcell hb
    by_cases hlt : k < n / 64
    · obtain rfl := hq hlt
      have t1 : decide ((64 : Int) ≤ N) = true := decide_eq_true (by omega)
      obtain ⟨fn, tmps, assign, body, hy, hR⟩ := hY k wr hlt hj
      gi_wp2
      refine hR.mono ?_
      rintro e W3 ⟨rfl, hj3, hs3⟩
      have hb3 : Boxed W3 Bs 24 (.slice (some ⟨bb, off + 64 * k, none⟩) N C) := Eq.trans hs3 hb
      have hcell3 := hb3.cell
      have hfr3 := hb3.frozen
      clear hcell hfr hR hs3 hj
      have hN64 : 64 ≤ N := by omega
      have hC64 : N ≤ C := by omega
      gi_wp2
      go_roundw
      case rel =>
        refine ⟨k + 1, (if c - 64 * k = 64 then some ⟨bb, off + 64 * k, none⟩ else some ⟨bb, off + 64 * k + 64, none⟩), by omega, ?_, hJs _ _ _ hj3, fun h => ?_⟩
        · rw [show n - 64 * (k + 1) = n - 64 * k - 64 by omega, show c - 64 * (k + 1) = c - 64 * k - 64 by omega]
          exact hb3.set _
        · rw [if_neg (by omega)]
          rfl
      case measure =>
        rw [leftIn_eq hb, leftIn_eq (hb3.set _)]
        omega
    · have t1 : decide ((64 : Int) ≤ N) = false := decide_eq_false (by omega)
      gi_wp2
      go_end0
      obtain rfl : k = n / 64 := by omega
      exact ⟨⟨_, rfl⟩, hj⟩
set_option maxHeartbeats 400000 in
theorem blocks1_no (m : Nat) (l Bs n c : Nat) (a : Option Addr) (h64 : n < 64) (W : World) (hBx : Boxed W Bs 24 (.slice a n c)) :
    CallsIn Fence.wide m Tryd.prog 50 #[.func (.yield l) #[] #[], .pointer (some ⟨Bs, 0, none⟩)] W fun e B => (∃ v, e = .returned v) ∧ W = B := by
  have hro : Fence.wide.round = none := rfl
  have hcell := hBx.cell
  have t1 : decide ((64 : Int) ≤ n) = false := decide_eq_false (by omega)
  refine callsIn_of_wp Tryd.func50 rfl trivial ?_ hro
  simp only [Tryd.ntmps50, List.size_toArray, List.length_cons, List.length_nil, Nat.reduceAdd, Nat.reduceSub, Array.replicate_succ, Array.replicate_zero, List.push_toArray, List.append_toArray, List.nil_append, List.cons_append]
  gi_wp2
  gi_loopw [3] (fun _ wr => W = wr) (fun _ _ => 0)
  case atStart => rfl
  case round =>
    subst hrel
    gi_wp2
    go_end0
    exact ⟨⟨_, rfl⟩, rfl⟩
theorem blocks_hit (m Bs n c : Nat) (hm : 3 ≤ m) (a : Option Addr) (hnc : n ≤ c) (ha : 64 ≤ n → ∃ bb off, a = some ⟨bb, off, none⟩) (w : World) (hb : Bs < w.heap.size) (hBx : Boxed w Bs 24 (.slice a n c)) :
    ∀ (l : Nat) (J : Nat → World → Prop) (W : World), Below w.heap.size w W → (∀ k A v, J k A → J k (A.setCell ⟨Bs, 0, none⟩ v)) →
      (∀ k A, k < n / 64 → J k A → YieldAt Fence.wide (m - 1 - 1) Tryd.prog l #[.slice (at64 a k) 64 64] A fun e B => e = .returned (.bool true) ∧ J (k + 1) B ∧ Same Bs A B) → J 0 W →
      CallsIn Fence.wide (m - 1) Tryd.prog 50 (#[.func (.yield l) #[] #[]] ++ #[.pointer (some ⟨Bs, 0, none⟩)]) W fun e B => (∃ v, e = .returned v) ∧ J (n / 64) B := by
  intro l J W hW hJs hY h0
  have hBW : Boxed W Bs 24 (.slice a n c) := (hW.block Bs hb).trans hBx
  by_cases h : 64 ≤ n
  · obtain ⟨bb, off, rfl⟩ := ha h
    exact blocks1_in (m - 1) (by omega) l Bs bb off n c h hnc J hJs hY W hBW h0
  · refine (blocks1_no (m - 1) l Bs n c a (by omega) W hBW).mono ?_
    rintro e B ⟨hv, rfl⟩
    exact ⟨hv, by rw [show n / 64 = 0 by omega]; exact h0⟩
theorem blocks_in (m : Nat) (a : Option Addr) (n c : Nat) (w : World) :
    CallsIn Fence.wide m Tryd.prog 45 #[.slice a n c] w fun e W' => e = .returned (.func (.func 50) #[] #[.pointer (some ⟨w.heap.size, 0, none⟩)]) ∧ W' = w.alloc (.cells #[.slice a n c] 24) := by
  have hro : Fence.wide.round = none := rfl
  refine callsIn_of_wp Tryd.func45 rfl trivial ?_ hro
  simp only [Tryd.ntmps45, List.size_toArray, List.length_cons, List.length_nil, Nat.reduceAdd, Nat.reduceSub, Array.replicate_succ, Array.replicate_zero, List.push_toArray, List.append_toArray, List.nil_append, List.cons_append]
  gi_wp2
  go_ret
  exact ⟨rfl, rfl⟩
end Go.Proofs.YtimiejahkcjcdaaDoor
