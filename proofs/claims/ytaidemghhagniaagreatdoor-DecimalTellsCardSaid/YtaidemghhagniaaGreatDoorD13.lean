/- ParseFloat at a decimal of at most nineteen digits. -/
import Derived.Test.YtaidemghhagniaaGreatDoorD10
namespace Go.Proofs.YtaidemghhagniaaGreatDoor
open Go Go.RowKit
structure PGlb (w : World) : Prop where
  f : FGlb w
  er : ∃ ev, w.cell? ⟨4, 0, none⟩ = some ev ∧ (ev = .nilIface ∨ ∃ te pe, ev = .iface te pe)
theorem PGlb.on {w W : World} (h : PGlb w) (hb : Below w.heap.size w W) : PGlb W := by
  refine ⟨h.f.on hb, ?_⟩
  obtain ⟨ev, h1, h2⟩ := h.er
  exact ⟨ev, by rw [hb.cell (p := ⟨4, 0, none⟩) (by have := h.f.big; show 4 < _; omega)]; exact h1, h2⟩
/-- What ParseFloat hands back, whatever error goes with it. -/
def FlRet (f : Nat) (w : World) (x : Ending) (w' : World) : Prop := (∃ er, x = .returned (.tuple #[.float .f64 f, er])) ∧ Below w.heap.size w w'
theorem parse_float (s : ByteArray) (hs : s.size ≤ 2000) (ng : Bool) (v : Nat) (w : World) (hG : PGlb w) (h : ∀ W, FGlb W → Calls Tryz.prog 119 #[.string s] W (AtRet ng v s.size W)) :
    Calls Tryz.prog 34 #[.string s, .int .i64 64] w (FlRet (sgw ng + v) w) := by
  obtain ⟨f, hf⟩ : ∃ f, f = sgw ng + v := ⟨_, rfl⟩
  unfold AtRet at h
  rw [← hf] at h ⊢
  have h1 := Lib.hid (h w hG.f)
  have h96 : Hid (Calls Tryz.prog 96 #[.string s, .int .i64 64] w (fun x w' => (∃ b, x = .returned (.tuple #[.float .f64 f, .int .i64 s.size, errV b])) ∧ Below w.heap.size w w')) := by
    clear hf h hG
    go_enter Tryz.func96, Tryz.ntmps96
    go_wp2_with fail
    refine h1.out.mono ?_; rintro x w1 ⟨⟨b, rfl⟩, hB⟩
    cases b
    · have hB' := Lib.hid hB
      clear hB
      go_wp2_with fail
      go_ret3
      exact ⟨⟨false, rfl⟩, hB'.out⟩
    · have hB' := Lib.hid hB
      clear hB
      go_wp2_with fail
      go_ret3
      exact ⟨⟨true, rfl⟩, hB'.out⟩
  have h64 : Hid (Calls Tryz.prog 64 #[.string s, .int .i64 64] w (fun x w' => (∃ b, x = .returned (.tuple #[.float .f64 f, errV b])) ∧ Below w.heap.size w w')) := by
    clear hf h hG h1
    go_enter Tryz.func64, Tryz.ntmps64
    go_wp2_with fail
    refine h96.out.mono ?_; rintro x w1 ⟨⟨b, rfl⟩, hB⟩
    cases b
    · have hB' := Lib.hid hB
      clear hB
      go_wp2_with fail
      go_ret2
      exact ⟨⟨false, rfl⟩, hB'.out⟩
    · have hB' := Lib.hid hB
      clear hB
      go_wp2_with fail
      go_ret2
      exact ⟨⟨true, rfl⟩, hB'.out⟩
  have hte : Hid (∀ W, Below w.heap.size w W → Calls Tryz.prog 65 #[.string ⟨#[80, 97, 114, 115, 101, 70, 108, 111, 97, 116]⟩, .string s, .int .i64 0, .int .i64 64, .iface 125 (.int .i64 1)] W (fun x w' => ∃ er, x = .returned er ∧ Below W.heap.size W w')) := by
    intro W hB
    obtain ⟨ev, e1, e2⟩ := (hG.on hB).er
    refine (Tryz.strconv_toError_range _ s 0 64 ev W (by omega) e1 e2).mono ?_
    rintro x w' ⟨N, rfl, _, _, hb⟩
    exact ⟨_, rfl, hb⟩
  clear hf h hG h1 h96
  go_enter Tryz.func34, Tryz.ntmps34
  go_wp2_with fail
  refine h64.out.mono ?_; rintro x w1 ⟨⟨b, rfl⟩, hB⟩
  cases b
  · have hB' := Lib.hid hB
    clear hB
    rw [show errV false = Value.nilIface from rfl]
    go_wp2_with fail
    go_ret2
    exact ⟨⟨_, rfl⟩, hB'.out⟩
  · have hB' := Lib.hid hB
    have ht := Lib.hid (hte.out w1 hB)
    clear hB hte
    rw [show errV true = Value.iface 125 (.int .i64 1) from rfl]
    go_wp2_with fail
    refine ht.out.mono ?_; rintro x w2 ⟨er, rfl, hb2⟩
    have hB2 := Lib.hid (hB'.out.trans (hb2.mono hB'.out.size))
    clear hb2
    go_wp2_with fail
    go_ret2
    exact ⟨⟨_, rfl⟩, hB2.out⟩
end Go.Proofs.YtaidemghhagniaaGreatDoor
