/- The contracts of the reference's value and begins. -/
import Derived.Test.YtkabkkgaalimmaaV23
import Derived.Deep.LoopGhost
namespace Go.Proofs.Ytkabkkgaalimmaa
open Go.RowKit Go.Shelf

theorem byt_get (s : ByteArray) (l : List UInt8) (h : s.data.toList = l) (k : Nat) : byt s k = ((l.getD k 0).toNat : Int) := by unfold byt; rw [h]
theorem value_any (s : ByteArray) (h1 : 1 ≤ s.size) (h4 : s.size ≤ 4) (w : World) : Calls Try.prog 52 #[.string s] w (Rets (valR s.data.toList) w) := by
  have hz := size_list s
  obtain ⟨l, hl⟩ : ∃ l, s.data.toList = l := ⟨_, rfl⟩
  have hv : valR s.data.toList = if isPt (polI l) ∧ frm (polI l) = s.data.toList then polI l else -1 := by rw [hl]; rfl
  rw [hv]
  rw [hl] at hz
  match l, hl with
  | [], hl => exact absurd (show s.size = 0 from hz) (by omega)
  | [a], hl => exact value_1 s _ (by simpa using hz) _ (byt_get s _ hl 0) rfl w
  | [a, b], hl => exact value_2 s _ (by simpa using hz) _ _ (byt_get s _ hl 0) (byt_get s _ hl 1) rfl w
  | [a, b, c], hl => exact value_3 s _ (by simpa using hz) _ _ _ (byt_get s _ hl 0) (byt_get s _ hl 1) (byt_get s _ hl 2) rfl w
  | [a, b, c, d], hl => exact value_4 s _ (by simpa using hz) _ _ _ _ (byt_get s _ hl 0) (byt_get s _ hl 1) (byt_get s _ hl 2) (byt_get s _ hl 3) rfl w
  | a :: b :: c :: d :: e :: t, hl => rw [List.length_cons, List.length_cons, List.length_cons, List.length_cons, List.length_cons] at hz; omega
theorem value_to (s : ByteArray) (h1 : 1 ≤ s.size) (h4 : s.size ≤ 4) (x : Int) (hx : valR s.data.toList = x) (w : World) : Calls Try.prog 52 #[.string s] w fun e w' => e = .returned (.int .i64 x) ∧ Below w.heap.size w w' := by
  rw [← hx]; exact value_any s h1 h4 w
/-- 'string([]byte{c})'. -/
theorem conv_lit (w : World) (c : UInt8) (n : Int) (h : n = c.toNat) : (convert 22 9 (.slice (some ⟨w.heap.size, 0, none⟩) 1 1)).run Try.prog (w.alloc (.cells #[.int .u8 n] 5)) = .ok (.string ⟨#[c]⟩) (w.alloc (.cells #[.int .u8 n] 5)) := by
  subst h
  exact run_convert_bytes_back (w.alloc (.cells #[.int .u8 (c.toNat : Int)] 5)) 22 9 5 ⟨w.heap.size, 0, none⟩ 1 [c] Try.underlying22 Try.underlying5 Try.underlying9 (fun j hj => by
    obtain rfl : j = 0 := by simpa using hj
    simp [Addr.add, go_sem])
def BegN (l : List UInt8) (n : Nat) : Prop := ∀ m, l.length < m → m < n → ¬ 0 ≤ valR (padR (l ++ [128]) m) ∧ ¬ 0 ≤ valR (padR (l ++ [191]) m)
theorem app_list (s t : ByteArray) : (s ++ t).data.toList = s.data.toList ++ t.data.toList := by simp
theorem app_size (s t : ByteArray) : (s ++ t).size = s.size + t.size := by simp
def RetB (P : Prop) (w : World) (e : Ending) (w' : World) : Prop := ∃ b, e = .returned (.bool b) ∧ (b = true ↔ P) ∧ Below w.heap.size w w'
def PadT (l : List UInt8) (b : UInt8) (n : Nat) (s5 : Value) (g : Nat) : Prop := ∃ t : ByteArray, s5 = .string t ∧ t.size + g = n ∧ l.length < t.size ∧ t.data.toList = padR (l ++ [b]) t.size
theorem pad_step (l : List UInt8) (n : Nat) (h : l.length ≤ n) : padR l (n + 1) = padR l n ++ [128] := by
  unfold padR; rw [show n + 1 - l.length = (n - l.length) + 1 by omega, List.replicate_succ', List.append_assoc]
theorem pad_self (l : List UInt8) : padR l l.length = l := by unfold padR; simp

set_option maxRecDepth 100000 in
set_option maxHeartbeats 2000000 in
theorem begins_any (s : ByteArray) (h1 : 1 ≤ s.size) (h3 : s.size ≤ 3) (w : World) :
    Calls Try.prog 53 #[.string s] w (RetB (BegP s.data.toList) w) := by
  obtain ⟨l, hl⟩ : ∃ l, Hid (s.data.toList = l) := ⟨_, rfl⟩
  have hz : Hid (s.size = l.length) := by show s.size = _; rw [size_list s, hl.out]
  rw [hl.out]
  have k8 := fun (W : World) => conv_lit W 128 128 rfl
  have k9 := fun (W : World) => conv_lit W 191 191 rfl
  go_enter Try.func53, Try.ntmps53
  go_wp2_with fail
  go_loopg [3] (5 - s.size) (fun g s3 wr => ∃ n : Nat, s.size < n ∧ n ≤ 5 ∧ n + g = 6 ∧ s3 = .int .i64 n ∧ Hid (BegN l n) ∧ Below w.heap.size w wr)
  case atStart => exact ⟨s.size + 1, by omega, by omega, by omega, by go_num, fun m a b => by have := hz.out; omega, Below.refl _ _⟩
  case round =>
    obtain ⟨n, hn1, hn2, hg, rfl, hbn, hb⟩ := hrel
    by_cases hn4 : n ≤ 4
    · have t1 : decide ((n : Int) ≤ 4) = true := decide_eq_true (by omega)
      go_wp2_with fail
      go_loopg [4] 2 (fun g s4 wi => ∃ i : Nat, i ≤ 2 ∧ i + g = 2 ∧ s4 = .int .i64 i ∧ Hid (BegN l n) ∧ Hid (1 ≤ i → ¬ 0 ≤ valR (padR (l ++ [128]) n)) ∧ Hid (2 ≤ i → ¬ 0 ≤ valR (padR (l ++ [191]) n)) ∧ Below w.heap.size w wi)
      case atStart => exact ⟨0, by omega, by omega, rfl, hbn, fun h => by omega, fun h => by omega, hb⟩
      case round =>
        obtain ⟨i, hi1, hi2, rfl, hbn, hv1, hv2, hb⟩ := hrel
        rcases (show i = 0 ∨ i = 1 ∨ i = 2 by omega) with rfl | rfl | rfl
        · have t2 : decide (((0 : Nat) : Int) < 2) = true := by decide
          rw [show ((0 : Nat) : Int) = 0 from rfl]
          have q0 : IntKind.u8.wrap 128 = 128 := by decide
          go_wp2_with fail
          go_loopg [5] (n - (s.size + 1)) (fun g s5 wp => Hid (PadT l 128 n s5 g) ∧ Below w.heap.size w wp)
          case atStart =>
            have e1 : (s ++ ⟨#[128]⟩ : ByteArray).size = s.size + 1 := app_size s ⟨#[128]⟩
            refine ⟨⟨_, rfl, by omega, by have := hz.out; omega, ?_⟩, hb.alloc hb.size _⟩
            rw [e1, hz.out, app_list, hl.out]
            exact (by have := pad_self (l ++ [128]); rw [List.length_append] at this; exact this.symm)
          case round =>
            obtain ⟨hp, hb⟩ := hrel
            obtain ⟨t, rfl, ht1, ht2, ht3⟩ := hp.out
            have hT := Lib.hid ht3
            clear ht3 hp
            by_cases hlt : t.size < n
            · have t3 : decide (t.size < n) = true := decide_eq_true hlt
              go_wp2_with fail
              go_roundg (gk - 1)
              case measure => omega
              case rel =>
                have e1 : (t ++ ⟨#[128]⟩ : ByteArray).size = t.size + 1 := app_size t ⟨#[128]⟩
                refine ⟨⟨_, rfl, by omega, by omega, ?_⟩, hb.alloc hb.size _⟩
                rw [e1, app_list, hT.out, pad_step _ _ (by simp; omega)]
            · obtain hte : t.size = n := by omega
              have t3 : decide (t.size < n) = false := decide_eq_false hlt
              obtain ⟨v, hv⟩ : ∃ v, Hid (valR t.data.toList = v) := ⟨valR t.data.toList, rfl⟩
              have hpv : Hid (valR (padR (l ++ [128]) n) = v) := by show _ = _; rw [← hv.out, hT.out, hte]
              have hcall := Lib.hid (fun W => value_to t (by omega) (by omega) v hv.out W)
              replace hte := Lib.hid hte
              go_wp2_with fail
              refine (hcall.out _).mono ?_; rintro e w3 ⟨rfl, hb3⟩
              replace hb := on_trans hb hb3
              by_cases hvp : 0 ≤ v
              · have t4 : decide (0 ≤ v) = true := decide_eq_true hvp
                go_wp2_with fail
                go_ret
                refine ⟨true, rfl, ⟨fun _ => ⟨n, by have := hz.out; omega, hn4, .inl (by rw [hpv.out]; exact hvp)⟩, fun _ => rfl⟩, hb⟩
              · have t4 : decide (0 ≤ v) = false := decide_eq_false hvp
                go_wp2_with fail
                go_roundg 1
                case measure => omega
                case rel => exact ⟨1, by omega, by omega, rfl, hbn, fun _ => by rw [hpv.out]; exact hvp, fun h => by omega, hb⟩
        · have t2 : decide (((1 : Nat) : Int) < 2) = true := by decide
          rw [show ((1 : Nat) : Int) = 1 from rfl]
          have q1 : IntKind.u8.wrap 191 = 191 := by decide
          go_wp2_with fail
          go_loopg [5] (n - (s.size + 1)) (fun g s5 wp => Hid (PadT l 191 n s5 g) ∧ Below w.heap.size w wp)
          case atStart =>
            have e1 : (s ++ ⟨#[191]⟩ : ByteArray).size = s.size + 1 := app_size s ⟨#[191]⟩
            refine ⟨⟨_, rfl, by omega, by have := hz.out; omega, ?_⟩, hb.alloc hb.size _⟩
            rw [e1, hz.out, app_list, hl.out]
            exact (by have := pad_self (l ++ [191]); rw [List.length_append] at this; exact this.symm)
          case round =>
            obtain ⟨hp, hb⟩ := hrel
            obtain ⟨t, rfl, ht1, ht2, ht3⟩ := hp.out
            have hT := Lib.hid ht3
            clear ht3 hp
            by_cases hlt : t.size < n
            · have t3 : decide (t.size < n) = true := decide_eq_true hlt
              go_wp2_with fail
              go_roundg (gk - 1)
              case measure => omega
              case rel =>
                have e1 : (t ++ ⟨#[128]⟩ : ByteArray).size = t.size + 1 := app_size t ⟨#[128]⟩
                refine ⟨⟨_, rfl, by omega, by omega, ?_⟩, hb.alloc hb.size _⟩
                rw [e1, app_list, hT.out, pad_step _ _ (by simp; omega)]
            · obtain hte : t.size = n := by omega
              have t3 : decide (t.size < n) = false := decide_eq_false hlt
              obtain ⟨v, hv⟩ : ∃ v, Hid (valR t.data.toList = v) := ⟨valR t.data.toList, rfl⟩
              have hpv : Hid (valR (padR (l ++ [191]) n) = v) := by show _ = _; rw [← hv.out, hT.out, hte]
              have hcall := Lib.hid (fun W => value_to t (by omega) (by omega) v hv.out W)
              replace hte := Lib.hid hte
              go_wp2_with fail
              refine (hcall.out _).mono ?_; rintro e w3 ⟨rfl, hb3⟩
              replace hb := on_trans hb hb3
              by_cases hvp : 0 ≤ v
              · have t4 : decide (0 ≤ v) = true := decide_eq_true hvp
                go_wp2_with fail
                go_ret
                refine ⟨true, rfl, ⟨fun _ => ⟨n, by have := hz.out; omega, hn4, .inr (by rw [hpv.out]; exact hvp)⟩, fun _ => rfl⟩, hb⟩
              · have t4 : decide (0 ≤ v) = false := decide_eq_false hvp
                go_wp2_with fail
                go_roundg 0
                case measure => omega
                case rel => exact ⟨2, by omega, by omega, rfl, hbn, fun _ => hv1.out (by omega), fun _ => by rw [hpv.out]; exact hvp, hb⟩
        · have t2 : decide (((2 : Nat) : Int) < 2) = false := by decide
          rw [show ((2 : Nat) : Int) = 2 from rfl]
          go_wp2_with fail
          go_roundg (5 - n)
          case measure => omega
          case rel =>
            refine ⟨n + 1, by omega, by omega, by omega, by go_num, fun m a b => ?_, hb⟩
            by_cases e : m = n
            · rw [e]; exact ⟨by have := hv1.out (by omega); omega, by have := hv2.out (by omega); omega⟩
            · exact hbn.out m a (by omega)
    · have t1 : decide ((n : Int) ≤ 4) = false := decide_eq_false (by omega)
      go_wp2_with fail
      go_ret
      refine ⟨false, rfl, ⟨(fun h => by cases h), fun ⟨m, a, b, c⟩ => ?_⟩, hb⟩
      have := hbn.out m a (by omega)
      rcases c with c | c
      · exact absurd c this.1
      · exact absurd c this.2
end Go.Proofs.Ytkabkkgaalimmaa
