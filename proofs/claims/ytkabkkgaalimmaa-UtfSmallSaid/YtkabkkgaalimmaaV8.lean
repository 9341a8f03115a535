/- Contract of gaugerkit.SameBytes, and the values of Read, Check and Cut at the examples of the chapter. -/
import Derived.Test.YtkabkkgaalimmaaV6
import Derived.Test.YtkabkkgaalimmaaVG
import Derived.Deep.QuietTactic
import Derived.Deep.DeepCutAuto
namespace Go.Proofs.Ytkabkkgaalimmaa
open Go.RowKit Go.Shelf

theorem rd_1 : rd ⟨#[226, 130, 172]⟩ 0 = (8364, 3, 0) := by decide +kernel
theorem rd_2 : rd ⟨#[226, 130, 172]⟩ 1 = (0, 0, 11) := by decide +kernel
theorem rd_3 : rd ⟨#[226, 130]⟩ 0 = (0, 0, 10) := by decide +kernel
theorem rd_a : rd ⟨#[226, 40]⟩ 0 = (0, 0, 11) := by decide +kernel
theorem rd_b : rd ⟨#[192, 128]⟩ 0 = (0, 0, 11) := by decide +kernel
theorem rd_c : rd ⟨#[237, 160, 128]⟩ 0 = (0, 0, 11) := by decide +kernel
theorem rd_d : rd ⟨#[244, 144, 128, 128]⟩ 0 = (0, 0, 11) := by decide +kernel
theorem rd_e : rd ⟨#[224, 128]⟩ 0 = (0, 0, 11) := by decide +kernel
theorem rgt_5 : rgt ⟨#[97, 226, 130, 172, 98]⟩ = 0 := by decide +kernel
theorem cut_3 : cutE ⟨#[97, 226, 130, 172, 98]⟩ 3 = 1 := by decide +kernel
theorem cut_4 : cutE ⟨#[97, 226, 130, 172, 98]⟩ 4 = 4 := by decide +kernel

/-- A slice that reads as a list of bytes. -/
def Bts (W : World) (v : Value) (l : List UInt8) : Prop :=
  (∃ a c, v = .slice a 0 c ∧ l = []) ∨ ∃ b off cap, v = .slice (some ⟨b, off, none⟩) l.length cap ∧ l.length ≤ 4611686018427387904 ∧ ∀ i (hi : i < l.length), W.cell? ⟨b, off + i, none⟩ = some (.int .u8 (l[i].toNat : Int))

set_option maxRecDepth 100000 in
set_option maxHeartbeats 1000000 in
theorem same_yes (u v : Value) (l : List UInt8) (w : World) (hu : Bts w u l) (hv : Bts w v l) :
    Calls Try.prog 37 #[u, v] w fun e w' => e = .returned (.bool true) ∧ ∃ n, w' = w.drewN n := by
  by_cases h0 : l = []
  · have hu' : ∃ a c, u = .slice a 0 c := by
      rcases hu with ⟨a, c, h, _⟩ | ⟨b, off, cap, h, _⟩
      · exact ⟨a, c, h⟩
      · subst h0; exact ⟨_, cap, h⟩
    have hv' : ∃ a c, v = .slice a 0 c := by
      rcases hv with ⟨a, c, h, _⟩ | ⟨b, off, cap, h, _⟩
      · exact ⟨a, c, h⟩
      · subst h0; exact ⟨_, cap, h⟩
    obtain ⟨a, c, rfl⟩ := hu'
    obtain ⟨a', c', rfl⟩ := hv'
    go_enter Try.func37, Try.ntmps37
    go_wp2_with fail
    refine wp_loop_rounds 1 ?_
    rw [rounds_succ]
    go_wp2_with fail
    go_ret
    exact ⟨rfl, 0, rfl⟩
  · rcases hu with ⟨a, c, _, h⟩ | ⟨b, off, cap, rfl, hl, hc⟩
    · exact absurd h h0
    rcases hv with ⟨a, c, _, h⟩ | ⟨b2, off2, cap2, rfl, _, hc2⟩
    · exact absurd h h0
    replace hc := Lib.hid hc
    replace hc2 := Lib.hid hc2
    go_enter Try.func37, Try.ntmps37
    go_wp2_with fail
    go_loopw [5] (fun i wr => ∃ k n : Nat, k ≤ l.length ∧ i = .int .i64 k ∧ wr = w.drewN n) (fun i _ => l.length - (intOf i).toNat)
    case atStart => exact ⟨0, 0, by omega, rfl, rfl⟩
    case round =>
      obtain ⟨k, n, hk, rfl, rfl⟩ := hrel
      by_cases hlt : k < l.length
      · have e1 := hc.out k hlt
        have e2 := hc2.out k hlt
        generalize (l[k].toNat : Int) = cb at e1 e2
        have t1 : decide ((k : Int) < l.length) = true := decide_eq_true (by omega)
        go_wp2_with fail
        go_quiet (fail)
        go_wp2_with fail
        go_roundw
        case rel => exact ⟨k + 1, _, by omega, by go_num, rfl⟩
        case measure => simp [intOf]; omega
      · obtain rfl : k = l.length := by omega
        go_wp2_with fail
        go_ret
        exact ⟨rfl, n, rfl⟩
end Go.Proofs.Ytkabkkgaalimmaa
