/- LineSmall: the walk. -/
import Derived.Test.YtiapkindbbbdpaaGreatDoorS1
import Derived.Test.YtiapkindbbbdpaaGreatDoorA5
import Derived.Test.YtiapkindbbbdpaaGreatDoorK17
import Derived.Test.YtiapkindbbbdpaaGreatDoorK21
import Derived.Test.YtiapkindbbbdpaaGreatDoorKM
import Derived.Deep.QuietTactic
import Derived.BigQuiet
namespace Go.Proofs.YtiapkindbbbdpaaGreatDoor
open Go Go.RowKit
set_option linter.unusedVariables false

def sgn : Nat → ByteArray
  | 1 => ⟨#[97]⟩ | 2 => ⟨#[32]⟩ | 3 => ⟨#[34]⟩ | 4 => ⟨#[35]⟩ | 5 => ⟨#[10]⟩ | 6 => ⟨#[92]⟩ | 7 => ⟨#[255]⟩ | _ => ⟨#[]⟩
theorem sgn_le (k : Nat) : (sgn k).size ≤ 1 := by
  unfold sgn; split <;> decide
def SgAt (W : World) (b : Nat) : Prop := ∀ k, k < 8 → W.cell? ⟨b, k, none⟩ = some (.string (sgn k))
theorem wrow_litS (W : World) (C : Array Value) (ws : List Wd) (h : C.toList = wcells ws) (hl : ws.length ≤ 1000) : WRow (W.alloc (.cells C 29)) (.slice (some ⟨W.heap.size, 0, none⟩) ws.length ws.length) ws := by
  have := World.ownsRow_lit (e := 29) (size := 2) W C ws.length (Nat.le_refl _) (by unfold maxLen; omega) (by rw [← Array.length_toList, h, wcells_len])
  rw [h] at this
  exact WRow.of_owned this
/-- The rows that a literal makes. -/
theorem mrow_litS (W W' : World) (vs : List Value) (Ls : List (List Wd)) (hl : vs.length = Ls.length) (hl2 : Ls.length ≤ 1000) (h : ∀ i (h : i < Ls.length), ∃ v, vs[i]? = some v ∧ WRow W v Ls[i]) :
    MRow (W.alloc (.cells vs.toArray 30)) (.slice (some ⟨W.heap.size, 0, none⟩) Ls.length Ls.length) Ls := by
  refine .inr ⟨W.heap.size, 0, Ls.length, rfl, by simp, Nat.le_refl _, by unfold maxLen; omega, fun i hi => ?_⟩
  obtain ⟨v, h1, h2⟩ := h i hi
  refine ⟨v, ?_, h2.on ((Below.refl _ _).alloc (Nat.le_refl _) _)⟩
  rw [Nat.zero_add, Lib.cell_of_heap (World.alloc_heap_new _ _)]
  simpa using h1
theorem two_rows (W : World) (s t u : ByteArray) :
    MRow (((W.alloc (.cells #[.string s, .bool false, .string t, .bool true] 29)).alloc (.cells #[.string s, .bool true, .string u, .bool false] 29)).alloc (.cells #[.slice (some ⟨W.heap.size, 0, none⟩) 2 2, .slice (some ⟨W.heap.size + 1, 0, none⟩) 2 2] 30))
      (.slice (some ⟨W.heap.size + 2, 0, none⟩) 2 2) [[(s.data.toList, false), (t.data.toList, true)], [(s.data.toList, true), (u.data.toList, false)]] := by
  have a := wrow_litS W #[.string s, .bool false, .string t, .bool true] [(s.data.toList, false), (t.data.toList, true)] rfl (by simp)
  have a2 := a.on ((Below.refl _ _).alloc (Nat.le_refl _) (.cells #[.string s, .bool true, .string u, .bool false] 29))
  have b := wrow_litS (W.alloc (.cells #[.string s, .bool false, .string t, .bool true] 29)) #[.string s, .bool true, .string u, .bool false] [(s.data.toList, true), (u.data.toList, false)] rfl (by simp)
  have m := mrow_litS ((W.alloc (.cells #[.string s, .bool false, .string t, .bool true] 29)).alloc (.cells #[.string s, .bool true, .string u, .bool false] 29)) W [.slice (some ⟨W.heap.size, 0, none⟩) 2 2, .slice (some ⟨W.heap.size + 1, 0, none⟩) 2 2] [[(s.data.toList, false), (t.data.toList, true)], [(s.data.toList, true), (u.data.toList, false)]] rfl (by simp) (fun i hi => by
    match i, hi with
    | 0, _ => exact ⟨_, rfl, a2⟩
    | 1, _ =>
      refine ⟨_, rfl, ?_⟩
      rw [World.size_alloc] at b
      exact b)
  rw [World.size_alloc, World.size_alloc] at m
  exact m
def numC : Array Value := #[.int .i64 (-9223372036854775808), .int .i64 (-9223372036854775807), .int .i64 (-10), .int .i64 (-1), .int .i64 0, .int .i64 1, .int .i64 9, .int .i64 10, .int .i64 9223372036854775807]
def strC : Array Value := #[.string ⟨#[]⟩, .string ⟨#[45]⟩, .string ⟨#[45, 48]⟩, .string ⟨#[48]⟩, .string ⟨#[48, 48]⟩, .string ⟨#[48, 49]⟩, .string ⟨#[43, 49]⟩, .string ⟨#[49, 32]⟩, .string ⟨#[57, 50, 50, 51, 51, 55, 50, 48, 51, 54, 56, 53, 52, 55, 55, 53, 56, 48, 55]⟩, .string ⟨#[57, 50, 50, 51, 51, 55, 50, 48, 51, 54, 56, 53, 52, 55, 55, 53, 56, 48, 56]⟩, .string ⟨#[45, 57, 50, 50, 51, 51, 55, 50, 48, 51, 54, 56, 53, 52, 55, 55, 53, 56, 48, 56]⟩, .string ⟨#[45, 57, 50, 50, 51, 51, 55, 50, 48, 51, 54, 56, 53, 52, 55, 55, 53, 56, 48, 57]⟩, .string ⟨#[57, 57, 57, 57, 57, 57, 57, 57, 57, 57, 57, 57, 57, 57, 57, 57, 57, 57, 57, 57]⟩, .string ⟨#[49, 120]⟩]
def NumAt (W : World) (b : Nat) : Prop := ∀ k, k < 9 → ∃ x : Int, -9223372036854775808 ≤ x ∧ x ≤ 9223372036854775807 ∧ W.cell? ⟨b, k, none⟩ = some (.int .i64 x)
def StrAt (W : World) (b : Nat) : Prop := ∀ k, k < 14 → ∃ s : ByteArray, s.size ≤ 100 ∧ W.cell? ⟨b, k, none⟩ = some (.string s)
theorem num_at (W : World) : NumAt (W.alloc (.cells numC 3)) W.heap.size := by
  intro k hk
  rw [Lib.cell_of_heap (World.alloc_heap_new _ _)]
  match k, hk with
  | 0, _ => exact ⟨_, by decide, by decide, rfl⟩
  | 1, _ => exact ⟨_, by decide, by decide, rfl⟩
  | 2, _ => exact ⟨_, by decide, by decide, rfl⟩
  | 3, _ => exact ⟨_, by decide, by decide, rfl⟩
  | 4, _ => exact ⟨_, by decide, by decide, rfl⟩
  | 5, _ => exact ⟨_, by decide, by decide, rfl⟩
  | 6, _ => exact ⟨_, by decide, by decide, rfl⟩
  | 7, _ => exact ⟨_, by decide, by decide, rfl⟩
  | 8, _ => exact ⟨_, by decide, by decide, rfl⟩
theorem str_at (W : World) : StrAt (W.alloc (.cells strC 9)) W.heap.size := by
  intro k hk
  rw [Lib.cell_of_heap (World.alloc_heap_new _ _)]
  match k, hk with
  | 0, _ => exact ⟨_, by decide, rfl⟩
  | 1, _ => exact ⟨_, by decide, rfl⟩
  | 2, _ => exact ⟨_, by decide, rfl⟩
  | 3, _ => exact ⟨_, by decide, rfl⟩
  | 4, _ => exact ⟨_, by decide, rfl⟩
  | 5, _ => exact ⟨_, by decide, rfl⟩
  | 6, _ => exact ⟨_, by decide, rfl⟩
  | 7, _ => exact ⟨_, by decide, rfl⟩
  | 8, _ => exact ⟨_, by decide, rfl⟩
  | 9, _ => exact ⟨_, by decide, rfl⟩
  | 10, _ => exact ⟨_, by decide, rfl⟩
  | 11, _ => exact ⟨_, by decide, rfl⟩
  | 12, _ => exact ⟨_, by decide, rfl⟩
  | 13, _ => exact ⟨_, by decide, rfl⟩
theorem num_on {W W' : World} {b : Nat} (h : NumAt W b) (hl : b < W.heap.size) (hb : Below W.heap.size W W') : NumAt W' b := fun k hk => by
  obtain ⟨x, h1, h2, h3⟩ := h k hk
  exact ⟨x, h1, h2, (hb.cell (p := ⟨b, k, none⟩) hl).trans h3⟩
theorem str_on {W W' : World} {b : Nat} (h : StrAt W b) (hl : b < W.heap.size) (hb : Below W.heap.size W W') : StrAt W' b := fun k hk => by
  obtain ⟨x, h1, h3⟩ := h k hk
  exact ⟨x, h1, (hb.cell (p := ⟨b, k, none⟩) hl).trans h3⟩
theorem rep_to (s : ByteArray) (c : Nat) (m : ByteArray) (h : (⟨(Lib.repeatL s.data.toList c).toArray⟩ : ByteArray) = m) (hc : c ≤ 100000) (hs : s.size ≤ 100) (W : World) : Calls Tryz.prog 9 #[.string s, .int .i64 c] W fun e w' => e = .returned (.string m) ∧ Below W.heap.size W w' := by
  rw [← h]
  exact Tryz.strings_Repeat s c W (by omega) (Nat.le_trans (Nat.mul_le_mul hs hc) (by decide))
def SpRet (ws : List Wd) (e : Int) (W : World) (x : Ending) (w' : World) : Prop := (∃ a c, x = .returned (.tuple #[.slice a ws.length c, .int .i64 e]) ∧ w'.ownsRow W.heap.size 29 2 (.slice a ws.length c) ws.length (wcells ws)) ∧ Below W.heap.size W w'
theorem split_b (m : ByteArray) (e : Int) (ws : List Wd) (h : splitF m.data.toList = (e, ws)) (W : World) : Calls Tryz.prog 10 #[.string m] W (SpRet ws e W) := by
  have := split_any m W
  rw [h] at this
  refine this.mono fun x w' ⟨⟨v, h1, h2⟩, h3⟩ => ?_
  obtain ⟨a, c, rfl⟩ := own_shape h2
  exact ⟨⟨a, c, h1, h2⟩, h3⟩
def PaRet (n : Nat) (e : Int) (W : World) (x : Ending) (w' : World) : Prop := (∃ v, x = .returned (.tuple #[v, .int .i64 n, .int .i64 e])) ∧ Below W.heap.size W w'
theorem parse_b (m : ByteArray) (e : Int) (n : Nat) (h : parseF m.data.toList = (e, n, [])) (W : World) (hm : MaxG W) : Calls Tryz.prog 16 #[.string m] W (PaRet n e W) := by
  refine (parse_to m e n [] h W hm).mono fun x w' ⟨⟨v, h1, _⟩, h3⟩ => ⟨⟨v, h1⟩, h3⟩
theorem trim_suffix_to (s p m : ByteArray) (hs : s.size ≤ 1000) (h : (⟨(Lib.trimSuffix s.data.toList p.data.toList).toArray⟩ : ByteArray) = m) (W : World) : Calls Tryz.prog 12 #[.string s, .string p] W fun e w' => e = .returned (.string m) ∧ W = w' := by
  rw [← h]
  exact (Tryz.strings_TrimSuffix s p W (by omega)).mono fun e w' ⟨h1, h2⟩ => ⟨h1, h2.symm⟩
theorem of_to (s : ByteArray) (hs : s.size ≤ 100000) (b : Bool) (h : (!bareF s) = b) (W : World) : Calls Tryz.prog 15 #[.string s] W fun e w' => e = .returned (.agg #[.string s, .bool b]) ∧ Below W.heap.size W w' := by
  rw [← h]; exact of_any s (by omega) W
theorem wrow_take {W : World} {a : Option Addr} {n c k : Nat} {ws : List Wd} (h : WRow W (.slice a n c) ws) (hk : k ≤ ws.length) : WRow W (.slice a k c) (ws.take k) := by
  rcases h with ⟨a', c', hac, h1, rfl⟩ | ⟨b, off, cap, h1, h2, h3, h4, h5⟩
  · simp only [Value.slice.injEq] at h1
    obtain ⟨rfl, rfl, rfl⟩ := h1
    have : k = 0 := by simpa using hk
    subst this
    exact .inl ⟨a, c, hac, rfl, rfl⟩
  · simp only [Value.slice.injEq] at h1
    obtain ⟨rfl, rfl, rfl⟩ := h1
    have hl : (ws.take k).length = k := by rw [List.length_take]; omega
    refine .inr ⟨b, off, c, by rw [hl], h2, by omega, h4, fun i hi => ?_⟩
    rw [hl] at hi
    have := h5 i (by omega)
    rw [List.getElem_take]; exact this
set_option maxRecDepth 100000 in
set_option maxHeartbeats 16000000 in
theorem small_any (w : World) (hG : Glb w) : Calls Tryz.prog 4 #[] w fun e w' => e = .returned (.bool true) ∧ Below w.heap.size w w' := by
  have hr := Lib.hid (fun (W : World) (h : Below w.heap.size w W) (s : ByteArray) (hs : s.size ≤ 1000) => reads_any s (by omega) W (hG.on h).1)
  replace hG := Lib.hid (fun (W : World) (h : Below w.heap.size w W) => hG.on h)
  go_enter Tryz.func4, Tryz.ntmps4
  go_upto_block 0 with (fail)
  have hS : Hid (SgAt (w.alloc (.cells #[.string ⟨#[]⟩, .string ⟨#[97]⟩, .string ⟨#[32]⟩, .string ⟨#[34]⟩, .string ⟨#[35]⟩, .string ⟨#[10]⟩, .string ⟨#[92]⟩, .string ⟨#[255]⟩] 9)) w.heap.size) := by
    intro k hk
    rw [Lib.cell_of_heap (World.alloc_heap_new _ _)]
    match k, hk with
    | 0, _ => rfl
    | 1, _ => rfl
    | 2, _ => rfl
    | 3, _ => rfl
    | 4, _ => rfl
    | 5, _ => rfl
    | 6, _ => rfl
    | 7, _ => rfl
  have hB0 := Lib.hid ((Below.refl w.heap.size w).alloc (Nat.le_refl _) (.cells #[.string ⟨#[]⟩, .string ⟨#[97]⟩, .string ⟨#[32]⟩, .string ⟨#[34]⟩, .string ⟨#[35]⟩, .string ⟨#[10]⟩, .string ⟨#[92]⟩, .string ⟨#[255]⟩] 9))
  have hSl : Hid (w.heap.size < (w.alloc (.cells #[.string ⟨#[]⟩, .string ⟨#[97]⟩, .string ⟨#[32]⟩, .string ⟨#[34]⟩, .string ⟨#[35]⟩, .string ⟨#[10]⟩, .string ⟨#[92]⟩, .string ⟨#[255]⟩] 9)).heap.size) := by show _ < _; simp
  generalize w.alloc (.cells #[.string ⟨#[]⟩, .string ⟨#[97]⟩, .string ⟨#[32]⟩, .string ⟨#[34]⟩, .string ⟨#[35]⟩, .string ⟨#[10]⟩, .string ⟨#[92]⟩, .string ⟨#[255]⟩] 9) = W0 at hS hB0 hSl ⊢
  obtain ⟨N, hN⟩ : ∃ N, Hid (w.heap.size = N) := ⟨_, Lib.hid rfl⟩
  have hS1 : Hid (∀ W, Below W0.heap.size W0 W → SgAt W N) := Lib.hid (fun W h k hk => by rw [← hN.out]; exact (h.cell (p := ⟨w.heap.size, k, none⟩) hSl.out).trans (hS.out k hk))
  rw [show Value.slice (some ⟨w.heap.size, 0, none⟩) 8 8 = .slice (some ⟨N, 0, none⟩) 8 8 by rw [hN.out]]
  clear hS hSl hN
  go_cut [] (fun wx => Hid (Below w.heap.size w wx))
  case first =>
    go_wp2_with fail
    go_loopg [40] 32769 (fun g s40 wx => ∃ n : Nat, n + g = 32769 ∧ n ≤ 32768 ∧ s40 = .int .i64 n ∧ Hid (Below W0.heap.size W0 wx))
    case atStart => exact ⟨0, by omega, by omega, rfl, Lib.hid (Below.refl _ _)⟩
    case round =>
      obtain ⟨n, hg, hn, rfl, B⟩ := hrel
      by_cases hlt : n < 32768
      · have t1 : decide ((n : Int) < 32768) = true := decide_eq_true (by omega)
        have c1 := hS1.out _ B.out (n % 8) (by omega)
        have c2 := hS1.out _ B.out (n / 8 % 8) (by omega)
        have c3 := hS1.out _ B.out (n / 64 % 8) (by omega)
        have c4 := hS1.out _ B.out (n / 512 % 8) (by omega)
        have c5 := hS1.out _ B.out (n / 4096) (by omega)
        have z1 := sgn_le (n % 8)
        have z2 := sgn_le (n / 8 % 8)
        have z3 := sgn_le (n / 64 % 8)
        have z4 := sgn_le (n / 512 % 8)
        have z5 := sgn_le (n / 4096)
        have d1 : ((n : Int) % 8).toNat = n % 8 := by omega
        have d2 : ((n : Int) / 8 % 8).toNat = n / 8 % 8 := by omega
        have d3 : ((n : Int) / 64 % 8).toNat = n / 64 % 8 := by omega
        have d4 : ((n : Int) / 512 % 8).toNat = n / 512 % 8 := by omega
        have d5 : ((n : Int) / 4096).toNat = n / 4096 := by omega
        have l1 : 0 ≤ (n : Int) % 8 ∧ (n : Int) % 8 < 8 := by omega
        have l2 : 0 ≤ (n : Int) / 8 % 8 ∧ (n : Int) / 8 % 8 < 8 := by omega
        have l3 : 0 ≤ (n : Int) / 64 % 8 ∧ (n : Int) / 64 % 8 < 8 := by omega
        have l4 : 0 ≤ (n : Int) / 512 % 8 ∧ (n : Int) / 512 % 8 < 8 := by omega
        have l5 : 0 ≤ (n : Int) / 4096 ∧ (n : Int) / 4096 < 8 := by omega
        have l6 : 0 ≤ (n : Int) / 8 ∧ 0 ≤ (n : Int) / 64 ∧ 0 ≤ (n : Int) / 512 := by omega
        generalize sgn (n % 8) = y1 at c1 z1
        generalize sgn (n / 8 % 8) = y2 at c2 z2
        generalize sgn (n / 64 % 8) = y3 at c3 z3
        generalize sgn (n / 512 % 8) = y4 at c4 z4
        generalize sgn (n / 4096) = y5 at c5 z5
        go_upto_region 5 with (fail)
        go_quiet (fail)
        clear c1 c2 c3 c4 c5 d1 d2 d3 d4 d5 l1 l2 l3 l4 l5 l6
        have hz : (y1 ++ y2 ++ y3 ++ y4 ++ y5).size ≤ 1000 := by simp only [ByteArray.size_append]; omega
        generalize y1 ++ y2 ++ y3 ++ y4 ++ y5 = y at hz ⊢
        clear z1 z2 z3 z4 z5
        have B1 := Lib.hid (below_drewN B.out nq)
        have hc := Lib.hid (hr.out _ (hB0.out.trans (B1.out.mono hB0.out.size)) y hz)
        clear hz
        go_wp2_with fail
        refine (hc.out).mono ?_; rintro e w1 ⟨rfl, hb⟩
        have B2 := Lib.hid (B1.out.trans (hb.mono B1.out.size))
        clear hc hb B1
        go_wp2_with fail
        go_roundg (gk - 1)
        case measure => omega
        case rel => exact ⟨n + 1, by omega, by omega, by go_num, B2⟩
      · obtain rfl : n = 32768 := by omega
        go_wp2_with fail
        go_meet
        exact Lib.hid (hB0.out.trans (B.out.mono hB0.out.size))
  case rest =>
    clear hB0 hS1
    go_upto_block 2 with (fail)
    obtain ⟨W1, hW1⟩ : ∃ W1 : World, W1 = wc := ⟨_, rfl⟩
    subst hW1
    go_cut [] (fun wx => Hid (Below w.heap.size w wx))
    case first =>
      go_wp2_with fail
      go_loopg [79] 257 (fun g s79 wx => ∃ n : Nat, n + g = 257 ∧ n ≤ 256 ∧ s79 = .int .i64 n ∧ Hid (Below w.heap.size w wx))
      case atStart => exact ⟨0, by omega, by omega, rfl, hcut⟩
      case round =>
        clear hcut
        obtain ⟨n, hg, hn, rfl, B⟩ := hrel
        by_cases hlt : n < 256
        · have t1 : decide ((n : Int) < 256) = true := decide_eq_true (by omega)
          obtain ⟨c, hc⟩ : ∃ c : UInt8, Hid ((c.toNat : Int) = n) := ⟨UInt8.ofNat n, by show _ = _; simp; omega⟩
          have hcv : Hid (∀ W : World, (convert 27 9 (.slice (some ⟨W.heap.size, 0, none⟩) 1 1)).run Tryz.prog (W.alloc (.cells #[.int .u8 (n : Int)] 5)) = .ok (.string ⟨#[c]⟩) (W.alloc (.cells #[.int .u8 (n : Int)] 5))) := by
            intro W
            have h : (W.alloc (.cells #[.int .u8 (n : Int)] 5)).ownsRow W.heap.size 5 1 (.slice (some ⟨W.heap.size, 0, none⟩) 1 1) 1 ([c].map enc8) := by
              have := World.ownsRow_lit (e := 5) (size := 1) W #[.int .u8 (n : Int)] 1 (Nat.le_refl _) (by unfold maxLen; omega) rfl
              rw [← hc.out] at this ⊢
              exact this
            exact conv_owned Tryz.underlying27 Tryz.underlying5 Tryz.underlying9 h
          have hcv' := hcv.out wr
          obtain ⟨s, hs⟩ : ∃ s : ByteArray, (⟨#[c]⟩ : ByteArray) = s := ⟨_, rfl⟩
          have hsz : s.size ≤ 1 := by rw [← hs]; exact Nat.le_refl _
          rw [hs] at hcv'
          clear hcv hs hc
          go_upto_region 12 with (fail)
          go_upto_region 13 with (fail)
          clear hcv'
          replace B := Lib.hid (B.out.alloc B.out.size (.cells #[.int .u8 (n : Int)] 5))
          generalize wr.alloc (.cells #[.int .u8 (n : Int)] 5) = w0 at B ⊢
          have c1 := Lib.hid (hr.out w0 B.out s (by omega))
          go_wp2_with fail
          refine (c1.out).mono ?_; rintro e w1 ⟨rfl, hb⟩
          replace B := Lib.hid (B.out.trans (hb.mono B.out.size))
          clear c1 hb
          have c2 := Lib.hid (hr.out w1 B.out (⟨#[97]⟩ ++ s ++ ⟨#[98]⟩) (by simp only [ByteArray.size_append]; show 1 + s.size + 1 ≤ _; omega))
          go_wp2_with fail
          refine (c2.out).mono ?_; rintro e w2 ⟨rfl, hb⟩
          replace B := Lib.hid (B.out.trans (hb.mono B.out.size))
          clear c2 hb
          have c3 := Lib.hid (hr.out w2 B.out (⟨#[34, 120, 34]⟩ ++ s) (by simp only [ByteArray.size_append]; show 3 + s.size ≤ _; omega))
          go_wp2_with fail
          refine (c3.out).mono ?_; rintro e w3 ⟨rfl, hb⟩
          replace B := Lib.hid (B.out.trans (hb.mono B.out.size))
          clear c3 hb
          have c4 := Lib.hid (hr.out w3 B.out (⟨#[34]⟩ ++ s ++ ⟨#[34, 32, 121]⟩) (by simp only [ByteArray.size_append]; show 1 + s.size + 3 ≤ _; omega))
          go_wp2_with fail
          refine (c4.out).mono ?_; rintro e w4 ⟨rfl, hb⟩
          replace B := Lib.hid (B.out.trans (hb.mono B.out.size))
          clear c4 hb
          have c5 := Lib.hid (writes_any _ _ _ (two_rows w4 s (⟨#[97]⟩ ++ s) ⟨#[195, 169]⟩))
          replace B := Lib.hid (((B.out.alloc B.out.size (.cells #[.string s, .bool false, .string (⟨#[97]⟩ ++ s), .bool true] 29)).alloc (by simp; exact Nat.le_trans B.out.size (Nat.le_succ _)) (.cells #[.string s, .bool true, .string ⟨#[195, 169]⟩, .bool false] 29)).alloc (by simp; exact Nat.le_trans B.out.size (by omega)) (.cells #[.slice (some ⟨w4.heap.size, 0, none⟩) 2 2, .slice (some ⟨w4.heap.size + 1, 0, none⟩) 2 2] 30))
          go_wp2_with fail
          refine (c5.out).mono ?_; rintro e w5 ⟨rfl, hb⟩
          replace B := Lib.hid (B.out.trans (hb.mono B.out.size))
          clear c5 hb
          go_wp2_with fail
          go_roundg (gk - 1)
          case measure => omega
          case rel => exact ⟨n + 1, by omega, by omega, by go_num, B⟩
        · obtain rfl : n = 256 := by omega
          go_wp2_with fail
          go_meet
          exact B
    case rest =>
      clear hr
      obtain ⟨wd, hwd⟩ : ∃ wd : World, wd = wc := ⟨_, rfl⟩
      subst hwd
      go_upto_block 4 with (fail)
      show Code.wp _ _ _ _ (wd.alloc (.cells numC 3))
      have hnu := Lib.hid (num_at wd)
      have hnl : Hid (wd.heap.size < (wd.alloc (.cells numC 3)).heap.size) := by show _ < _; simp
      have B0 := Lib.hid (hcut.out.alloc hcut.out.size (.cells numC 3))
      generalize wd.alloc (.cells numC 3) = W2 at hnu hnl B0 ⊢
      generalize wd.heap.size = NB at hnu hnl ⊢
      clear hcut
      go_cut [] (fun wx => Hid (Below w.heap.size w wx))
      case first =>
        go_wp2_with fail
        go_loopg [128] 10 (fun g s128 wx => ∃ i : Nat, i + g = 10 ∧ i ≤ 9 ∧ s128 = .int .i64 i ∧ Hid (Below W2.heap.size W2 wx))
        case atStart => exact ⟨0, by omega, by omega, rfl, Lib.hid (Below.refl _ _)⟩
        case round =>
          obtain ⟨i, hg1, hi1, rfl, B⟩ := hrel
          by_cases hlt : i < 9
          · have t1 : decide ((i : Int) < 9) = true := decide_eq_true (by omega)
            obtain ⟨x, hx1, hx2, c1⟩ := num_on hnu.out hnl.out B.out i hlt
            go_wp2_with fail
            clear t1 c1
            go_loopg [134] 10 (fun g s134 wx => ∃ j : Nat, j + g = 10 ∧ j ≤ 9 ∧ s134 = .int .i64 j ∧ Hid (Below W2.heap.size W2 wx))
            case atStart => exact ⟨0, by omega, by omega, rfl, B⟩
            case round =>
              clear B
              obtain ⟨j, hg2, hj1, rfl, B⟩ := hrel
              by_cases hlt2 : j < 9
              · have t1 : decide ((j : Int) < 9) = true := decide_eq_true (by omega)
                obtain ⟨y, hy1, hy2, c1⟩ := num_on hnu.out hnl.out B.out j hlt2
                obtain ⟨we, hwe⟩ : ∃ we : World, we = wr := ⟨_, rfl⟩
                subst hwe
                go_upto_block 8 with (fail)
                show Code.wp _ _ _ _ (we.alloc (.cells strC 9))
                have hsu := Lib.hid (str_at we)
                have hsl : Hid (we.heap.size < (we.alloc (.cells strC 9)).heap.size) := by show _ < _; simp
                have B1 := Lib.hid (B.out.alloc B.out.size (.cells strC 9))
                generalize we.alloc (.cells strC 9) = W3 at hsu hsl B1 ⊢
                generalize we.heap.size = SB at hsu hsl ⊢
                clear t1 c1 B
                go_wp2_with fail
                go_loopg [140] 15 (fun g s140 wx => ∃ k : Nat, k + g = 15 ∧ k ≤ 14 ∧ s140 = .int .i64 k ∧ Hid (Below W3.heap.size W3 wx))
                case atStart => exact ⟨0, by omega, by omega, rfl, Lib.hid (Below.refl _ _)⟩
                case round =>
                  obtain ⟨k, hg3, hk1, rfl, B⟩ := hrel
                  by_cases hlt3 : k < 14
                  · have t1 : decide ((k : Int) < 14) = true := decide_eq_true (by omega)
                    obtain ⟨s, hs1, c1⟩ := str_on hsu.out hsl.out B.out k hlt3
                    have hc := Lib.hid (numbers_any s x x y hx1 hx2 wr (hG.out _ (B0.out.trans ((B1.out.trans (B.out.mono B1.out.size)).mono B0.out.size))))
                    go_wp2_with fail
                    refine (hc.out).mono ?_; rintro e w3 ⟨rfl, hb⟩
                    replace B := Lib.hid (B.out.trans (hb.mono B.out.size))
                    clear hc hb c1
                    go_wp2_with fail
                    go_roundg (gk - 1)
                    case measure => omega
                    case rel => exact ⟨k + 1, by omega, by omega, by go_num, B⟩
                  · obtain rfl : k = 14 := by omega
                    go_wp2_with fail
                    go_roundg (10 - (j + 1))
                    case measure => omega
                    case rel => exact ⟨j + 1, by omega, by omega, by go_num, Lib.hid (B1.out.trans (B.out.mono B1.out.size))⟩
              · obtain rfl : j = 9 := by omega
                go_wp2_with fail
                go_roundg (10 - (i + 1))
                case measure => omega
                case rel => exact ⟨i + 1, by omega, by omega, by go_num, B⟩
          · obtain rfl : i = 9 := by omega
            go_wp2_with fail
            go_meet
            exact Lib.hid (B0.out.trans (B.out.mono B0.out.size))
      case rest =>
        clear B0 hnu hnl
        obtain ⟨m, hm⟩ : ∃ m : ByteArray, Hid ((⟨(Lib.repeatL [119, 32] 64).toArray⟩ : ByteArray) = m) := ⟨_, Lib.hid rfl⟩
        obtain ⟨x, hx⟩ : ∃ x : ByteArray, Hid ((⟨(Lib.repeatL [120] 16384).toArray⟩ : ByteArray) = x) := ⟨_, Lib.hid rfl⟩
        have hml : m.data.toList = Lib.repeatL [119, 32] 64 := by rw [← hm.out]
        have hxl : x.data.toList = xs 16384 := by
          rw [← hx.out]
          show Lib.repeatL (List.replicate 1 120) 16384 = _
          rw [Lib.repeatL_replicate]; rfl
        have hmz : m.size ≤ 128 := by rw [← hm.out, bytes_size, Lib.repeatL_length]; decide
        have hxz : x.size ≤ 16384 := by rw [← hx.out, bytes_size, Lib.repeatL_length]; decide
        have q1 := Lib.hid (fun W => rep_to ⟨#[119, 32]⟩ 64 m hm.out (by omega) (by decide) W)
        have q2 := Lib.hid (fun W => split_b m 0 (ww 64) (by rw [hml]; exact s_many) W)
        have q3 := Lib.hid (fun W => split_b (m ++ ⟨#[119]⟩) 5 [] (by rw [show (m ++ ⟨#[119]⟩ : ByteArray).data.toList = m.data.toList ++ [119] by simp, hml]; exact s_more) W)
        have q4 := Lib.hid (fun W => split_b (m ++ ⟨#[35, 32, 120]⟩) 0 (ww 64) (by rw [show (m ++ ⟨#[35, 32, 120]⟩ : ByteArray).data.toList = m.data.toList ++ [35, 32, 120] by simp, hml]; exact s_note) W)
        obtain ⟨t, ht⟩ : ∃ t : ByteArray, Hid ((⟨(Lib.trimSuffix (Lib.repeatL [119, 32] 64) [32]).toArray⟩ : ByteArray) = t) := ⟨_, Lib.hid rfl⟩
        have htz : t.size ≤ 65536 := by
          have := joinF_len (ww 64)
          rw [j_many] at this
          rw [← ht.out, bytes_size]; exact this
        have q5 := Lib.hid (fun W v (hv : WRow W v (ww 64)) => join_any v (ww 64) (by decide) 0 _ (fun p hp => by rw [(List.mem_replicate.1 hp).2]; decide) j_many W hv)
        have q6 := Lib.hid (fun W v (hv : WRow W v (ww 64 ++ [([119], false)])) => join_any v (ww 64 ++ [([119], false)]) (by decide) 5 _ (fun p hp => by
          rcases List.mem_append.1 hp with h | h
          · rw [(List.mem_replicate.1 h).2]; decide
          · rw [List.mem_singleton.1 h]; decide) j_more W hv)
        have q7 := Lib.hid (fun W => rep_to ⟨#[120]⟩ 16384 x hx.out (by omega) (by decide) W)
        have q8 := Lib.hid (fun W => trim_suffix_to m ⟨#[32]⟩ t (by omega) (by rw [hml]; exact ht.out) W)
        have hx1 : (x ++ ⟨#[120]⟩ : ByteArray) = ⟨(xs 16384 ++ [120]).toArray⟩ := by
          apply ByteArray.ext; apply Array.toList_inj.1; simp [hxl]
        have hbx : bareF x = true := by
          have : x = ⟨(xs 16384).toArray⟩ := by apply ByteArray.ext; apply Array.toList_inj.1; simp [hxl]
          rw [this]; exact bare_xs
        have hby : bareF (x ++ ⟨#[120]⟩) = false := by rw [hx1]; exact bare_long _ (by rw [List.length_append, xs_len]; decide)
        have hry : rightF (x ++ ⟨#[120]⟩) true = false := by rw [hx1]; exact right_long _ (by rw [List.length_append, xs_len]; decide)
        have hyz : (x ++ ⟨#[120]⟩ : ByteArray).size ≤ 16385 := by rw [ByteArray.size_append]; show x.size + 1 ≤ _; omega
        have q9 := Lib.hid (fun W => bare_to x (by omega) true hbx W)
        have qa := Lib.hid (fun W => bare_to (x ++ ⟨#[120]⟩) (by omega) false hby W)
        have qb := Lib.hid (fun W => right_to (x ++ ⟨#[120]⟩) true (by omega) false hry W)
        have qc := Lib.hid (fun W => of_to (x ++ ⟨#[120]⟩) (by omega) true (by rw [hby]; rfl) W)
        unfold JRet at q5 q6
        rw [ht.out] at q5
        have hx2 : (⟨(xs 16384).toArray⟩ : ByteArray) = x := by apply ByteArray.ext; apply Array.toList_inj.1; simp [hxl]
        have r1 := Lib.hid (fun W => split_b (⟨#[34]⟩ ++ x ++ ⟨#[120, 34]⟩) 251 [] (by rw [show (⟨#[34]⟩ ++ x ++ ⟨#[120, 34]⟩ : ByteArray).data.toList = 34 :: (x.data.toList ++ [120, 34]) by simp, hxl]; exact s_quote) W)
        have r2 := Lib.hid (fun W => split_b (x ++ ⟨#[120]⟩) 250 [] (by rw [show (x ++ ⟨#[120]⟩ : ByteArray).data.toList = x.data.toList ++ [120] by simp, hxl]; exact s_bare) W)
        obtain ⟨b1, hb1⟩ : ∃ b : ByteArray, Hid ((⟨(Lib.repeatL [32] 65537).toArray⟩ : ByteArray) = b) := ⟨_, Lib.hid rfl⟩
        obtain ⟨b2, hb2⟩ : ∃ b : ByteArray, Hid ((⟨(Lib.repeatL [32] 65536).toArray⟩ : ByteArray) = b) := ⟨_, Lib.hid rfl⟩
        obtain ⟨b3, hb3⟩ : ∃ b : ByteArray, Hid ((⟨(Lib.repeatL [10] 65537).toArray⟩ : ByteArray) = b) := ⟨_, Lib.hid rfl⟩
        obtain ⟨b4, hb4⟩ : ∃ b : ByteArray, Hid ((⟨(Lib.repeatL [10] 65535).toArray⟩ : ByteArray) = b) := ⟨_, Lib.hid rfl⟩
        have hb4z : b4.size ≤ 65535 := by rw [← hb4.out, bytes_size, Lib.repeatL_length]; decide
        have r3 := Lib.hid (fun W => rep_to ⟨#[32]⟩ 65537 b1 hb1.out (by omega) (by decide) W)
        have r4 := Lib.hid (fun W => rep_to ⟨#[32]⟩ 65536 b2 hb2.out (by omega) (by decide) W)
        have r5 := Lib.hid (fun W => rep_to ⟨#[10]⟩ 65537 b3 hb3.out (by omega) (by decide) W)
        have r6 := Lib.hid (fun W => rep_to ⟨#[10]⟩ 65535 b4 hb4.out (by omega) (by decide) W)
        have s3 := Lib.hid (fun W => split_b b1 3 [] (by rw [← hb1.out]; exact s_long) W)
        have s4 := Lib.hid (fun W => split_b b2 0 [] (by rw [← hb2.out]; exact s_blank) W)
        have s5 := Lib.hid (fun W (hm : MaxG W) => parse_b b3 3 0 (by rw [← hb3.out]; exact p_long) W hm)
        have s6 := Lib.hid (fun W (hm : MaxG W) => parse_b (b4 ++ ⟨#[34]⟩) 251 65536 (by rw [show (b4 ++ ⟨#[34]⟩ : ByteArray).data.toList = b4.data.toList ++ [34] by simp, ← hb4.out]; exact p_quote) W hm)
        clear hb1 hb2 hb3 hb4
        replace hx2 := Lib.hid hx2
        replace hml := Lib.hid hml
        replace hxl := Lib.hid hxl
        replace hx1 := Lib.hid hx1
        clear hm hx ht hbx hby hry
        have B := hcut
        clear hcut
        go_wp2_with fail
        refine (q1.out _).mono ?_; rintro e w1 ⟨rfl, hb⟩
        replace B := Lib.hid (B.out.trans (hb.mono B.out.size))
        have hw1 := B.out.size
        clear q1 hb
        go_wp2_with fail
        refine (q2.out _).mono ?_; rintro e w2 ⟨⟨a2, c2, rfl, ho⟩, hb⟩
        replace B := Lib.hid (B.out.trans (hb.mono B.out.size))
        replace ho := Lib.hid ho
        obtain ⟨NB2, hNB2⟩ : ∃ n, Hid (w1.heap.size = n) := ⟨_, Lib.hid rfl⟩
        rw [hNB2.out] at ho hw1
        have hsz2 : NB2 ≤ w2.heap.size := by rw [← hNB2.out]; exact hb.size
        clear q2 hb hNB2
        go_wp2_with fail
        refine (q3.out _).mono ?_; rintro e w3 ⟨⟨a3, c3, rfl, _⟩, hb⟩
        replace B := Lib.hid (B.out.trans (hb.mono B.out.size))
        replace ho := Lib.hid (owns_on ho.out hb)
        have hsz3 := Nat.le_trans hsz2 hb.size
        clear q3 hb hsz2
        go_wp2_with fail
        refine (q4.out _).mono ?_; rintro e w4 ⟨⟨a4, c4, rfl, _⟩, hb⟩
        replace B := Lib.hid (B.out.trans (hb.mono B.out.size))
        replace ho := Lib.hid (owns_on ho.out hb)
        have hsz4 := Nat.le_trans hsz3 hb.size
        clear q4 hb hsz3
        have q5' := Lib.hid (q5.out _ _ (WRow.of_owned ho.out))
        clear q5
        go_wp2_with fail
        refine (q5'.out).mono ?_; rintro e w5 ⟨rfl, hb⟩
        replace B := Lib.hid (B.out.trans (hb.mono B.out.size))
        replace ho := Lib.hid (owns_on ho.out hb)
        have hsz5 := Nat.le_trans hsz4 hb.size
        clear q5' hb hsz4
        go_wp2_with (at_builtin; go_must (refine app_el rfl (.tmp 177) (.tmp 179) 30 rfl 2 #[.string ⟨#[119]⟩, .bool false] rfl (by decide) NB2 (.agg #[.string ⟨#[]⟩, .bool false]) 24 Tryz.underlying30 info31 rfl _ (ww 64).length (wcells (ww 64)) rfl rfl ho.out (by intro u hu; simp at hu; rcases hu with rfl | rfl <;> rfl) (by decide) (by decide) hsz5 ?_); rintro v6 w6 hown6' hb6 hs6 _ hv6; have hown6 := Lib.hid hown6'; clear hown6')
        replace B := Lib.hid (B.out.trans (hb6.mono hw1))
        have hr6 := Lib.hid (q6.out w6 v6 (WRow.of_owned (by
          have h := hown6.out
          rw [show wcells (ww 64) ++ (#[Value.string ⟨#[119]⟩, .bool false] : Array Value).toList = wcells (ww 64 ++ [([119], false)]) by simp [wcells, wcell]] at h
          exact h)))
        obtain ⟨a6, c6, rfl⟩ := hv6
        clear q6 ho hown6 hb6
        go_wp2_with fail
        refine (hr6.out).mono ?_; rintro e w7 ⟨rfl, hb⟩
        replace B := Lib.hid (B.out.trans (hb.mono B.out.size))
        clear hr6 hb hs6 hsz5 hw1
        go_wp2_with fail
        refine (q7.out _).mono ?_; rintro e w8 ⟨rfl, hb⟩
        replace B := Lib.hid (B.out.trans (hb.mono B.out.size))
        clear q7 hb
        have u1 : (t.toList != t.toList) = false := by simp
        have e31 : ∀ W : World, (Op.equalIn 10000 29 (.agg #[.string (x ++ ⟨#[120]⟩), .bool true]) (.agg #[.string (x ++ ⟨#[120]⟩), .bool true])).run Tryz.prog W = .ok true W := fun W => by
          rw [eq31]; simp
        replace e31 := Lib.hid e31
        go_wp2_with fail
        refine (q8.out _).mono ?_; rintro e w9 ⟨rfl, rfl⟩
        clear q8
        go_wp2_with fail
        refine (q9.out _).mono ?_; rintro e w9 ⟨rfl, rfl⟩
        clear q9 u1
        go_wp2_with fail
        refine (qa.out _).mono ?_; rintro e w9 ⟨rfl, rfl⟩
        clear qa
        go_wp2_with fail
        refine (qb.out _).mono ?_; rintro e w9 ⟨rfl, hb⟩
        replace B := Lib.hid (B.out.trans (hb.mono B.out.size))
        clear qb hb
        go_wp2_with fail
        refine (qc.out _).mono ?_; rintro e wA ⟨rfl, hb⟩
        replace B := Lib.hid (B.out.trans (hb.mono B.out.size))
        have e31' := e31.out wA
        clear qc hb e31
        go_upto_region 40 with (fail)
        clear e31'
        go_wp2_with fail
        refine (r1.out _).mono ?_; rintro e wB ⟨⟨a7, c7, rfl, _⟩, hb⟩
        replace B := Lib.hid (B.out.trans (hb.mono B.out.size))
        clear r1 hb
        go_wp2_with fail
        refine (r2.out _).mono ?_; rintro e wC ⟨⟨a8, c8, rfl, _⟩, hb⟩
        replace B := Lib.hid (B.out.trans (hb.mono B.out.size))
        clear r2 hb
        go_wp2_with fail
        refine (r3.out _).mono ?_; rintro e wD ⟨rfl, hb⟩
        replace B := Lib.hid (B.out.trans (hb.mono B.out.size))
        clear r3 hb
        go_wp2_with fail
        refine (s3.out _).mono ?_; rintro e wE ⟨⟨a9, c9, rfl, _⟩, hb⟩
        replace B := Lib.hid (B.out.trans (hb.mono B.out.size))
        clear s3 hb
        go_wp2_with fail
        refine (r4.out _).mono ?_; rintro e wF ⟨rfl, hb⟩
        replace B := Lib.hid (B.out.trans (hb.mono B.out.size))
        clear r4 hb
        go_wp2_with fail
        refine (s4.out _).mono ?_; rintro e wG ⟨⟨a10, c10, rfl, _⟩, hb⟩
        replace B := Lib.hid (B.out.trans (hb.mono B.out.size))
        clear s4 hb
        go_wp2_with fail
        refine (r5.out _).mono ?_; rintro e wH ⟨rfl, hb⟩
        replace B := Lib.hid (B.out.trans (hb.mono B.out.size))
        have s5' := Lib.hid (s5.out _ (hG.out _ B.out).1)
        clear r5 hb s5
        go_wp2_with fail
        refine (s5'.out).mono ?_; rintro e wI ⟨⟨v11, rfl⟩, hb⟩
        replace B := Lib.hid (B.out.trans (hb.mono B.out.size))
        clear s5' hb
        go_wp2_with fail
        refine (r6.out _).mono ?_; rintro e wJ ⟨rfl, hb⟩
        replace B := Lib.hid (B.out.trans (hb.mono B.out.size))
        have s6' := Lib.hid (s6.out _ (hG.out _ B.out).1)
        clear r6 hb s6
        go_wp2_with fail
        refine (s6'.out).mono ?_; rintro e wK ⟨⟨v12, rfl⟩, hb⟩
        replace B := Lib.hid (B.out.trans (hb.mono B.out.size))
        clear s6' hb
        go_upto_block 10 with (fail)
        obtain ⟨W5, hW5⟩ : ∃ W5 : World, W5 = wK := ⟨_, rfl⟩
        subst hW5
        go_wp2_with fail
        go_loopg [30, 266] 10 (fun g s30 s266 wx => ∃ k : Nat, k + g = 10 ∧ k ≤ 9 ∧ s266 = .int .i64 k ∧ Hid (wx.ownsRow W5.heap.size 29 2 s30 k (wcells (big k))) ∧ Hid (Below W5.heap.size W5 wx))
        case atStart => exact ⟨0, by omega, by omega, rfl, Lib.hid ⟨rfl, .inl ⟨rfl, rfl⟩⟩, Lib.hid (Below.refl _ _)⟩
        case round =>
          obtain ⟨k, hg1, hk, rfl, I, B1⟩ := hrel
          obtain ⟨aB, cB, rfl⟩ := own_shape I.out
          have hBs := B1.out.size
          by_cases hlt : k < 9
          · have t1 : decide ((k : Int) < 9) = true := decide_eq_true (by omega)
            go_wp2_with (at_builtin; go_must (refine app_el rfl (.tmp 268) (.tmp 271) 30 rfl 2 #[.string x, .bool false] rfl (by decide) W5.heap.size (.agg #[.string ⟨#[]⟩, .bool false]) 24 Tryz.underlying30 info31 rfl _ k (wcells (big k)) rfl rfl I.out (by intro u hu; simp at hu; rcases hu with rfl | rfl <;> rfl) (by decide) (by omega) hBs ?_); rintro v6 w6 hown6' hb6 hs6 _ hv6; have hown6 := Lib.hid hown6'; clear hown6')
            go_roundg (gk - 1)
            case measure => omega
            case rel => exact ⟨k + 1, by omega, by omega, by go_num, Lib.hid (by
              have h := hown6.out
              rw [show wcells (big k) ++ (#[Value.string x, .bool false] : Array Value).toList = wcells (big (k + 1)) by
                unfold big
                rw [List.replicate_succ', ← hx2.out]
                exact (wcells_snoc _ _ _).symm] at h
              exact h), Lib.hid (B1.out.trans hb6)⟩
          · obtain rfl : k = 9 := by omega
            have t1 : decide ((9 : Int) < 9) = false := by decide
            have hrow := WRow.of_owned (ws := big 9) I.out
            have j1 := join_any _ (big 9) (by simp [big]) 3 [] (fun p hp => by rw [(List.mem_replicate.1 hp).2]; show (xs 16384).length ≤ _; rw [xs_len]; omega) j_big wr hrow
            unfold JRet at j1
            replace j1 := Lib.hid j1
            replace hrow := Lib.hid hrow
            replace B := Lib.hid (B.out.trans (B1.out.mono B.out.size))
            clear B1 I hBs
            go_wp2_with fail
            refine (j1.out).mono ?_; rintro e wL ⟨rfl, hb⟩
            replace B := Lib.hid (B.out.trans (hb.mono B.out.size))
            replace hrow := Lib.hid (hrow.out.on hb)
            clear j1 hb
            obtain ⟨bB, oB, rfl, h9, hmx⟩ : ∃ b o, aB = some ⟨b, o, none⟩ ∧ 9 ≤ cB ∧ cB ≤ 9223372036854775807 := by
              rcases hrow.out with ⟨_, _, _, _, h⟩ | ⟨b, off, cap, h1, _, h3, h4, _⟩
              · simp [big] at h
              · simp only [Value.slice.injEq] at h1
                obtain ⟨rfl, _, rfl⟩ := h1
                rw [show (big 9).length = 9 by simp [big]] at h3
                unfold maxLen at h4
                exact ⟨b, off, rfl, h3, h4⟩
            have hrow2 := Lib.hid (wrow_take (k := 2) hrow.out (by simp [big]))
            rw [show (big 9).take 2 = big 2 by simp [big]] at hrow2
            have hsW : ∀ ws ∈ [big 2, big 2, ([] : List Wd)], ws.length ≤ 1000 ∧ ∀ p ∈ ws, p.1.length ≤ 100000 := by
              have h2 : (big 2).length ≤ 1000 ∧ ∀ p ∈ big 2, p.1.length ≤ 100000 := ⟨by simp [big], fun p hp => by rw [(List.mem_replicate.1 hp).2]; show (xs 16384).length ≤ _; rw [xs_len]; omega⟩
              intro ws h
              simp only [List.mem_cons, List.not_mem_nil, or_false] at h
              rcases h with rfl | rfl | rfl
              · exact h2
              · exact h2
              · exact ⟨by simp, fun p hp => by cases hp⟩
            have k1 := Lib.hid (fun (W : World) (hb : Below wL.heap.size wL W) => write_to _ [big 2, big 2, []] hsW (by simp) 3 (-1) [] w_big _ (mrow_litS W W [.slice (some ⟨bB, oB, none⟩) 2 cB, .slice (some ⟨bB, oB, none⟩) 2 cB, .slice none 0 0] [big 2, big 2, []] rfl (by simp) (fun i hi => by
              match i, hi with
              | 0, _ => exact ⟨_, rfl, hrow2.out.on hb⟩
              | 1, _ => exact ⟨_, rfl, hrow2.out.on hb⟩
              | 2, _ => exact ⟨_, rfl, .inl ⟨none, 0, fun _ => rfl, rfl, rfl⟩⟩)))
            unfold WRet at k1
            have k1' := Lib.hid (k1.out wL.drew ((Below.refl _ _).drew))
            have h2c : (2 : Int) ≤ (cB : Int) := by omega
            have h2n : 2 ≤ cB := by omega
            have B9 := Lib.hid (B.out.drew)
            clear k1
            replace hsW := Lib.hid hsW
            go_upto_region 52 with (fail)
            go_region_held3 (fun w' => True) (trivial) ((go_at_call 17; refine (k1'.out).mono ?_; rintro e wM ⟨rfl, hb⟩))
            have hst := Lib.hid ((Below.refl wL.heap.size wL).drew.trans (((Below.refl _ _).alloc (Nat.le_refl _) _).trans (hb.mono (by simp))) : Below wL.heap.size wL wM)
            replace B := Lib.hid (B.out.trans (hst.out.mono B.out.size))
            replace hrow := Lib.hid (hrow.out.on hst.out)
            replace hrow2 := Lib.hid (hrow2.out.on hst.out)
            clear hst hb k1' B9 hsW
            have hsW : ∀ ws ∈ [big 2, [([], false)], big 9], ws.length ≤ 1000 ∧ ∀ p ∈ ws, p.1.length ≤ 100000 := by
              have h2 : ∀ n, ∀ p ∈ big n, p.1.length ≤ 100000 := fun n p hp => by rw [(List.mem_replicate.1 hp).2]; show (xs 16384).length ≤ _; rw [xs_len]; omega
              intro ws h
              simp only [List.mem_cons, List.not_mem_nil, or_false] at h
              rcases h with rfl | rfl | rfl
              · exact ⟨by simp [big], h2 2⟩
              · exact ⟨by simp, fun p hp => by rw [List.mem_singleton.1 hp]; simp⟩
              · exact ⟨by simp [big], h2 9⟩
            have hA := (Below.refl wM.heap.size wM).alloc (Nat.le_refl _) (.cells #[.string ⟨#[]⟩, .bool false] 29)
            have hl1 := wrow_litS wM #[.string ⟨#[]⟩, .bool false] [([], false)] rfl (by simp)
            have k2 := Lib.hid (write_to _ [big 2, [([], false)], big 9] hsW (by simp) 250 1 [] w_word _ (mrow_litS (wM.alloc (.cells #[.string ⟨#[]⟩, .bool false] 29)) wM [.slice (some ⟨bB, oB, none⟩) 2 cB, .slice (some ⟨wM.heap.size, 0, none⟩) 1 1, .slice (some ⟨bB, oB, none⟩) 9 cB] [big 2, [([], false)], big 9] rfl (by simp) (fun i hi => by
              match i, hi with
              | 0, _ => exact ⟨_, rfl, hrow2.out.on hA⟩
              | 1, _ => exact ⟨_, rfl, hl1⟩
              | 2, _ => exact ⟨_, rfl, hrow.out.on hA⟩)))
            unfold WRet at k2
            rw [World.size_alloc] at k2
            clear hsW hA hl1
            go_wp2_with fail
            refine (k2.out).mono ?_; rintro e wN ⟨rfl, hb⟩
            have hst := Lib.hid ((((Below.refl wM.heap.size wM).alloc (Nat.le_refl _) (.cells #[.string ⟨#[]⟩, .bool false] 29)).alloc (by simp) _).trans (hb.mono (by simp; omega)) : Below wM.heap.size wM wN)
            replace B := Lib.hid (B.out.trans (hst.out.mono B.out.size))
            clear hst hb k2 hrow hrow2
            have k3 := Lib.hid (fun W => writes_any (.slice none 0 0) [] W (.inl ⟨none, 0, fun _ => rfl, rfl, rfl⟩))
            go_wp2_with fail
            refine (k3.out _).mono ?_; rintro e wO ⟨rfl, hb⟩
            replace B := Lib.hid (B.out.trans (hb.mono B.out.size))
            have k4 := Lib.hid (awake_any wO (hG.out _ B.out))
            clear k3 hb
            go_wp2_with fail
            refine (k4.out).mono ?_; rintro e wP ⟨rfl, hb⟩
            replace B := Lib.hid (B.out.trans (hb.mono B.out.size))
            clear k4 hb
            go_wp2_with fail
            go_ret
            exact ⟨rfl, B.out⟩
theorem lineSmall_walk (w : World) (hG : Glb w) : Calls Tryz.prog 4 #[] w fun e w' => e = .returned (.bool true) ∧ Below w.heap.size w w' := small_any w hG
end Go.Proofs.YtiapkindbbbdpaaGreatDoor
