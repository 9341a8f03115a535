/- The contracts of turned and of the reference's Write. -/
import Derived.Test.YtiapkindbbbdpaaGreatDoorA2
import Derived.Test.YtiapkindbbbdpaaGreatDoorR4
import Derived.Test.YtiapkindbbbdpaaGreatDoorT3
namespace Go.Proofs.YtiapkindbbbdpaaGreatDoor
open Go.RowKit
set_option linter.unusedVariables false

def TuRet (ws : List Wd) (w : World) (x : Ending) (w' : World) : Prop := (∃ v, x = .returned v ∧ w'.ownsRow w.heap.size 54 2 v ws.length (wcells ws)) ∧ Below w.heap.size w w'
set_option maxHeartbeats 4000000 in
theorem turned_any (v : Value) (ws : List Wd) (hl : ws.length ≤ 1000) (w : World) (hv : WRow w v ws) : Calls Tryz.prog 18 #[v] w (TuRet ws w) := by
  obtain ⟨av, cv, rfl⟩ := hv.shape
  replace hv := Lib.hid hv
  have I0 : Hid (w.ownsRow w.heap.size 54 2 (.slice none 0 0) 0 (wcells ([] : List Wd))) := ⟨rfl, .inl ⟨rfl, rfl⟩⟩
  go_enter Tryz.func18, Tryz.ntmps18
  go_wp2_with fail
  go_loopg [3, 8] (ws.length + 1) (fun g s3 s8 wx => ∃ i : Nat, i + g = ws.length + 1 ∧ s8 = .int .i64 i ∧ i ≤ ws.length ∧ Hid (wx.ownsRow w.heap.size 54 2 s3 i (wcells (ws.take i))) ∧ Hid (Below w.heap.size w wx))
  case atStart => exact ⟨0, by omega, rfl, by omega, I0, Lib.hid (Below.refl _ _)⟩
  case round =>
    clear I0
    obtain ⟨i, hg, rfl, hi, I, B⟩ := hrel
    obtain ⟨a4, c4, rfl⟩ := own_shape I.out
    by_cases hlt : i < ws.length
    · have t1 : decide (i < ws.length) = true := decide_eq_true hlt
      have t2 : decide ((i : Int) < (ws.length : Int)) = true := decide_eq_true (by omega)
      obtain ⟨b, off, rfl, x0, x1⟩ := (hv.out.on B.out).at' i hlt
      obtain ⟨p, hp⟩ : ∃ p, Hid (ws[i] = p) := ⟨_, Lib.hid rfl⟩
      rw [hp.out] at x0 x1
      obtain ⟨s, hs⟩ : ∃ s : ByteArray, Hid (⟨p.1.toArray⟩ = s) := ⟨_, Lib.hid rfl⟩
      rw [hs.out] at x0
      obtain ⟨q, hq⟩ : ∃ q, Hid (p.2 = q) := ⟨_, Lib.hid rfl⟩
      rw [hq.out] at x1
      have htk : Hid (wcells (ws.take (i + 1)) = wcells (ws.take i) ++ #[Value.string s, .bool q].toList) := by
        show _ = _
        rw [List.take_add_one, List.getElem?_eq_getElem hlt, hp.out, ← hs.out, ← hq.out]
        exact wcells_snoc _ _ _
      clear hp hs hq hv
      go_upto_region 5 with (fail)
      show Code.wp _ _ _ _ (wr.alloc (.cells #[.string s, .bool q] 29))
      have hwd := Lib.hid (wd_new wr s q)
      replace I := Lib.hid (World.ownsRow.alloc I.out (.cells #[.string s, .bool q] 29))
      replace B := Lib.hid (B.out.alloc B.out.size (.cells #[.string s, .bool q] 29))
      clear x0 x1
      generalize wr.alloc (.cells #[.string s, .bool q] 29) = W1 at hwd I B ⊢
      generalize wr.heap.size = N at hwd ⊢
      obtain ⟨⟨x0, x1⟩, _⟩ := hwd.out.cells
      have hBs := B.out.size
      go_wp2_with (at_builtin; go_must (refine app_el rfl (.tmp 12) (.tmp 14) 48 rfl 2 #[.string s, .bool q] rfl (by decide) w.heap.size (.agg #[.string ⟨#[]⟩, .bool false]) 24 Tryz.underlying48 info96 rfl _ i _ rfl rfl I.out (by intro u hu; simp at hu; rcases hu with rfl | rfl <;> rfl) (by decide) (by omega) hBs ?_); rintro v2 w5 hown2' hb5 _ _ _; have hown2 := Lib.hid hown2'; clear hown2')
      go_roundg (gk - 1)
      case measure => omega
      case rel => exact ⟨i + 1, by omega, by go_num, by omega, Lib.hid (by rw [htk.out]; exact hown2.out), Lib.hid (B.out.trans hb5)⟩
    · obtain rfl : i = ws.length := by omega
      have t1 : decide (ws.length < ws.length) = false := decide_eq_false (by omega)
      have t2 : decide ((ws.length : Int) < (ws.length : Int)) = false := decide_eq_false (by omega)
      have I2 : Hid (wr.ownsRow w.heap.size 54 2 (.slice a4 ws.length c4) ws.length (wcells ws)) := by
        have := I.out; rw [List.take_of_length_le (Nat.le_refl _)] at this; exact Lib.hid this
      go_wp2_with fail
      go_ret
      exact ⟨⟨_, rfl, I2.out⟩, B.out⟩
end Go.Proofs.YtiapkindbbbdpaaGreatDoor
