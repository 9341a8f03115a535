/- The walk of the law UtfWrong. -/
import Derived.Test.YtkabkkgaalimmaaRS3
import Derived.IntWalk
namespace Go.Proofs.Ytkabkkgaalimmaa
open Go.RowKit Go.Shelf

theorem run_add_u8 (c : Int) (h0 : 0 ≤ c) (h1 : c < 8) (w : World) : (do eqGuard .add 5 (.const (.int .u8 248)) (.tmp 178) (.int .u8 248) (.int .u8 c); binOp .add 5 (.int .u8 248) (.int .u8 c) : Sem Value).run Try.prog w = .ok (.int .u8 (248 + c)) w := by
  have := u8_wrap (248 + c) (by omega) (by omega)
  go_simp
theorem run_add_int (c : Nat) (h1 : c ≤ 1000) (w : World) : (do eqGuard .add 3 (.tmp 184) (.const (.int .i64 1)) (.int .i64 c) (.int .i64 1); binOp .add 3 (.int .i64 c) (.int .i64 1) : Sem Value).run Try.prog w = .ok (.int .i64 ((c : Int) + 1)) w := by
  have : IntKind.i64.wrap ((c : Int) + 1) = (c : Int) + 1 := by rw [IntKind.wrap_i64]; omega
  go_simp
theorem run_add_str (x y : Operand) (a b : ByteArray) (h1 : a.size + b.size ≤ 4611686018427387904) (w : World) : (do eqGuard .add 9 x y (.string a) (.string b); binOp .add 9 (.string a) (.string b) : Sem Value).run Try.prog w = .ok (.string (a ++ b)) w := by
  go_simp
  omega
theorem run_str_hi (s : ByteArray) (k : Nat) (h : k ≤ s.size) (w : World) : (Instr.sliceAt 9 (.string s) none (some (.int .i64 k)) none).run Try.prog w = .ok (.string (s.extract 0 k)) w := by
  go_simp
theorem run_str_lo (s : ByteArray) (k : Nat) (h : k + 1 ≤ s.size) (w : World) : (Instr.sliceAt 9 (.string s) (some (.int .i64 ((k : Int) + 1))) none none).run Try.prog w = .ok (.string (s.extract (k + 1) s.size)) w := by
  go_simp
  intro hh
  have := hh (by omega)
  omega
set_option maxHeartbeats 400000 in
theorem at2_any (m : Int) (h0 : 0 ≤ m) (h1 : m ≤ 65535) (w : World) : Calls Try.prog 30 #[.int .u16 m] w fun e w' => e = .returned (.int .u8 (m % 8)) ∧ w = w' := by
  have := u8_wrap (m % 8) (by omega) (by omega)
  go_enter Try.func30, Try.ntmps30
  go_wp2_with fail
  go_ret
  exact ⟨rfl, rfl⟩
theorem dec_bad2 (t r : List UInt8) (ht : t ≠ []) (hd : dec t = (0, 0, 10)) (b : UInt8) (hb : 192 ≤ (b.toNat : Int)) : dec (t ++ b :: r) = (0, 0, 11) := by
  obtain ⟨h1, h2⟩ := short_of t ht hd
  have hl := len_pos ht
  have hne : t ++ b :: r ≠ [] := by simp
  have h0 : gi (t ++ b :: r) 0 = gi t 0 := gi_app _ _ _ (by omega)
  have hg : gi (t ++ b :: r) t.length = b.toNat := by
    unfold gi; rw [List.getD_eq_getElem?_getD, List.getElem?_append_right (Nat.le_refl _)]; simp
  have hbad : bad1 (t ++ b :: r) t.length = true := by
    unfold bad1
    rw [hg, decide_eq_true (show 192 ≤ (b.toNat : Int) from hb)]; simp
  have hn : hdn (gi t 0) ≠ 0 := by omega
  rw [dec_cons _ hne (hdn (gi t 0)) (by rw [h0]) hn]
  rcases err_all (t ++ b :: r) (hdn (gi t 0)) _ 1 (hdx (gi (t ++ b :: r) 0)) rfl (by simp; omega) with ⟨y, e⟩ | e | ⟨_, _, e⟩
  · obtain ⟨_, _, q3⟩ := ok_all (t ++ b :: r) (hdn (gi t 0)) _ 1 _ _ _ rfl (by omega) e
    have := q3 t.length hl h1
    rw [hbad] at this; cases this
  · exact e
  · have := e t.length hl (by simp)
    rw [hbad] at this; cases this
/-- One byte of a valid string replaced. -/
theorem bent_ck (L : List Int) (hL : ∀ x ∈ L, isPt x) (i : Nat) (hi : i ≤ (frms L).length) (c : UInt8) (hc : 248 ≤ (c.toNat : Int)) (r : List UInt8) (z : ByteArray) (hz : z.data.toList = (frms L).take i ++ c :: r) :
    ∃ j : Int, ck z = (j, 11) ∧ j ≤ i := by
  obtain ⟨M, t, hM, h1, _, h3, h4⟩ := short_parts L hL i hi
  have hd : dec (t ++ c :: r) = (0, 0, 11) := by
    by_cases ht : t = []
    · subst ht
      refine dec_form _ (by simp) ?_
      rw [show gi ([] ++ c :: r) 0 = c.toNat from rfl]
      unfold hdn; (repeat' split) <;> omega
    · exact dec_bad2 t r ht (h4 ht).1 c (by omega)
  refine ⟨((frms M).length : Nat), ?_, by omega⟩
  rw [ck_parts z M (t ++ c :: r) hM (by rw [hz, h1, List.append_assoc]) (by rw [hd]; decide), if_neg (by simp), hd]
/-- What the operations of the statement leave. -/
def WG (s : ByteArray) (m : Int) (i : Nat) (c : UInt8) (j : Nat) (v : Value) (w : World) : Prop :=
  match j with
  | 0 => v = .string s | 1 => v = .int .i64 i | 2 => v = .string (s.extract 0 i) | 3 => v = .int .u16 m | 4 => v = .int .u8 (m % 8) | 5 => v = .int .u8 (248 + m % 8)
  | 6 => ∃ b, v = .slice (some ⟨b, 0, none⟩) 1 1 ∧ Row w v ([c].map enc8)
  | 7 => v = .string ⟨#[c]⟩ | 8 => v = .string (s.extract 0 i ++ ⟨#[c]⟩) | 9 => v = .string s | 10 => v = .int .i64 i | 11 => v = .int .i64 ((i : Int) + 1) | 12 => v = .string (s.extract (i + 1) s.size)
  | _ => v = .string (s.extract 0 i ++ ⟨#[c]⟩ ++ s.extract (i + 1) s.size)
theorem run_build8 (w : World) (x : Int) : (Instr.buildSlice 22 1 #[(0, .int .u8 x)]).run Try.prog w = .ok (.slice (some ⟨w.heap.size, 0, none⟩) 1 1) (w.alloc (.cells #[.int .u8 x] 5)) := by
  go_simp
theorem row_u8 (w : World) (c : UInt8) (x : Int) (h : x = c.toNat) : Row (w.alloc (.cells #[.int .u8 x] 5)) (.slice (some ⟨w.heap.size, 0, none⟩) 1 1) ([c].map enc8) := by
  subst h
  refine .inr ⟨w.heap.size, 0, 1, rfl, by simp, by simp, by unfold maxLen; omega, fun i hi => ?_⟩
  obtain rfl : i = 0 := by simpa using hi
  simp [go_sem, enc8]
theorem rd_out (s : ByteArray) (x : Int) (h : x < 0 ∨ (s.size : Int) < x) : rd s x = (0, 0, 2) := by unfold rd; rw [if_pos h]
theorem rd_end (s : ByteArray) : rd s s.size = (0, 0, 6) := by unfold rd; rw [if_neg (by omega), if_pos rfl]
/-- A row of three. -/
def Cells3 (b : Nat) (l : List Int) (w : World) : Prop := b < w.heap.size ∧ ∀ j, j < 3 → w.cell? ⟨b, j, none⟩ = some (.int .i64 (l.getD j 0))
theorem Cells3.on {b : Nat} {l : List Int} {w w' : World} (h : Cells3 b l w) (hb : Below w.heap.size w w') : Cells3 b l w' :=
  ⟨Nat.lt_of_lt_of_le h.1 hb.size, fun j hj => (hb.cell (p := ⟨b, j, none⟩) h.1).trans (h.2 j hj)⟩
theorem cells3_mk (w : World) (x y z : Int) : Cells3 w.heap.size [x, y, z] (w.alloc (.cells #[.int .i64 x, .int .i64 y, .int .i64 z] 3)) := by
  refine ⟨by simp, fun j hj => ?_⟩
  rcases (show j = 0 ∨ j = 1 ∨ j = 2 by omega) with rfl | rfl | rfl <;> simp [go_sem]

theorem run_build0 (w : World) : (Instr.buildSlice 34 0 #[]).run Try.prog w = .ok (.slice (some ⟨w.heap.size, 0, none⟩) 0 0) (w.alloc (.cells #[] 3)) := by
  go_simp
theorem run_build1 (w : World) (x : Int) : (Instr.buildSlice 34 1 #[(0, .int .i64 x)]).run Try.prog w = .ok (.slice (some ⟨w.heap.size, 0, none⟩) 1 1) (w.alloc (.cells #[.int .i64 x] 3)) := by
  go_simp
theorem run_hi (a : Option Addr) (n c k : Nat) (h : k ≤ c) (w : World) : (Instr.sliceAt 34 (.slice a n c) none (some (.int .i64 k)) none).run Try.prog w = .ok (.slice a k c) w := by
  go_simp
theorem run_lo (a : Option Addr) (n c k : Nat) (h : k ≤ n) (_hc : n ≤ c) (w : World) : (Instr.sliceAt 34 (.slice a n c) (some (.int .i64 k)) none none).run Try.prog w = .ok (.slice (if c = k then a else a.map (·.add k)) (n - k) (c - k)) w := by
  go_simp
theorem row_drop {W : World} {a : Option Addr} {c : Nat} {xs : List Value} (k : Nat) (h : Row W (.slice a xs.length c) xs) (hk : k ≤ xs.length) : Row W (.slice (if c = k then a else a.map (·.add k)) (xs.length - k) (c - k)) (xs.drop k) := by
  rcases h with ⟨a', c', hac, e, rfl⟩ | ⟨b, off, cap, hv, h1, h2, h3, hc⟩
  · cases e
    have hk0 : k = 0 := by simpa using hk
    subst hk0
    refine .inl ⟨_, _, fun h => ?_, rfl, by simp⟩
    split at h
    · rename_i e; rw [e]
    · cases a with
      | none => rw [hac rfl]
      | some x => cases h
  · cases hv
    by_cases hlt : k = xs.length
    · subst hlt
      rw [List.drop_length, Nat.sub_self]
      refine .inl ⟨_, _, fun h => ?_, rfl, rfl⟩
      split at h
      · cases h
      · cases h
    · refine .inr ⟨b, off + k, c - k, ?_, h1, by rw [List.length_drop]; omega, by unfold maxLen at *; omega, fun i hi => ?_⟩
      · rw [if_neg (by omega), List.length_drop]; simp [Addr.add]
      · rw [List.length_drop] at hi
        rw [List.getElem_drop, show off + k + i = off + (k + i) by omega]
        exact hc (k + i) (by omega)
theorem txR_bad (A B : List Int) (x : Int) (h : ¬ isPt x) : txR (A ++ [x] ++ B) = (⟨#[]⟩, 2) := by
  unfold txR
  rw [if_neg (fun hh => h (hh x (by simp)))]
theorem row_int1 (w : World) (x : Int) : Row (w.alloc (.cells #[.int .i64 x] 3)) (.slice (some ⟨w.heap.size, 0, none⟩) 1 1) [.int .i64 x] := by
  refine .inr ⟨w.heap.size, 0, 1, rfl, by simp, by simp, by unfold maxLen; omega, fun i hi => ?_⟩
  obtain rfl : i = 0 := by simpa using hi
  simp [go_sem]
theorem step_app_any {P : Program} {ops : Array Oper} {Q : Exit → Act → World → Prop} {a : Act} {w : World} {K : Act → World → Prop} {i : Nat} {o : Oper} {x y : Operand} {t e : TypeId} {z : Value} {bytes base n : Nat} (ho : ops[i]? = some o) (hg : o.guard = none) (hop : o.op = .call { callee := .builtin .append, args := #[x, y], argTypes := #[t, t] })
    (ht : P.underlying t = some (.slice e)) (hinfo : (P.info? e).map (fun i => (i.zero, i.size, i.bytes)) = some (some z, 1, bytes)) (hzs : z.cells.size = 1)
    (v u : Value) (xs news : List Value) (hx : a.eval x = v) (hown : w.ownsRow base e 1 v n xs) (hy : a.eval y = u) (hrow : Row w u news) (hone : ∀ c ∈ news, c.oneCell' = true)
    (hb1 : 1 ≤ bytes) (hbytes : (n + news.length) * bytes ≤ 140737488355328) (hbase : base ≤ w.heap.size)
    (hk : ∀ v' w', w'.ownsRow base e 1 v' (n + news.length) (xs ++ news) → Below base w w' → K (a.put o.dst v') w') : wpOp P ops Q i K a w :=
  wpOp_of_wp ho (met_none hg) (app_all_wp x y t hop base e z bytes ht hinfo hzs v n xs hx u news hy hown hrow hone hb1 hbytes hbase (fun v' w' h1 h2 _ => hk v' w' h1 h2))
/-- What the operations of the statement leave. -/
def WF (W0 : World) (k B : Value) (kn : Nat) (va v3 v10 : Value) (p1 : List Value) (p2 : List Int) (i : Nat) (v : Value) (w : World) : Prop :=
  match i with
  | 0 => ∃ b, v = .slice (some ⟨b, 0, none⟩) 0 0 ∧ w.ownsRow W0.heap.size 3 1 v 0 []
  | 1 => v = va | 2 => v = k | 3 => v = v3
  | 4 => w.ownsRow W0.heap.size 3 1 v kn p1
  | 5 => v = B
  | 6 => Row w v [B]
  | 7 => w.ownsRow W0.heap.size 3 1 v (kn + 1) (p1 ++ [B])
  | 8 => v = va | 9 => v = k | 10 => v = v10
  | 11 => Row w v (p2.map (Value.int .i64))
  | 12 => v = .tuple #[.string ⟨#[]⟩, .int .i64 2] | 13 => v = .tuple #[.string ⟨#[]⟩, .int .i64 2] | 14 => v = .string ⟨#[]⟩ | 15 => v = .int .i64 2 | 16 => v = .string ⟨#[]⟩ | _ => v = .int .i64 2

set_option maxRecDepth 100000 in
set_option maxHeartbeats 2000000 in
theorem wrong_core (va : Value) (n m : Int) (hn0 : -9223372036854775808 ≤ n) (hn1 : n ≤ 9223372036854775807) (hm0 : 0 ≤ m) (hm1 : m ≤ 65535) (w : World) (ha : In32 w va) :
    Calls Try.prog 10 #[va, .int .i64 n, .int .u16 m] w fun e w' => e = .returned (.bool true) ∧ Below w.heap.size w w' := by
  replace ha := Lib.hid ha
  obtain ⟨b1, hb1⟩ : ∃ x : Int, Hid (x = if n ≤ -1 then n else -1) := ⟨_, rfl⟩
  obtain ⟨b2, hb2⟩ : ∃ x : Int, Hid (x = if 1114112 ≤ n then n else 1114112) := ⟨_, rfl⟩
  have hb10 : b1 < 0 := by rw [hb1.out]; split <;> omega
  have hb20 : 1114112 ≤ b2 := by rw [hb2.out]; split <;> omega
  go_enter Try.func10, Try.ntmps10
  go_wp2_with fail
  refine (awake_any _).mono ?_; rintro e w1 ⟨rfl, hB⟩
  go_wp2_with fail
  refine (made_any va _ (ha.out.on hB)).mono ?_; rintro e w2 ⟨⟨v1, p, rfl, hp⟩, hB2⟩
  replace hp := Lib.hid hp
  replace hB := on_trans hB hB2; clear hB2
  go_wp2_with fail
  refine (text_of v1 p _ hp.out).mono ?_; rintro e w4 ⟨rfl, hB2⟩
  replace hp := Lib.hid (hp.out.on hB2)
  replace hB := on_trans hB hB2; clear hB2
  obtain ⟨s, hs⟩ : ∃ s, Hid (s = strOf p) := ⟨strOf p, rfl⟩
  rw [← hs.out]
  have hsl : Hid (s.data.toList = frms p) := by show _ = _; rw [hs.out, strOf_list]
  have hsz : s.size ≤ 800 := by rw [hs.out, strOf_size]; have := frms_hi p; have := hp.out.2.2; omega
  have hpl : p.length ≤ 200 := hp.out.2.2
  have hpt : Hid (∀ x ∈ p, isPt x) := hp.out.2.1
  replace hp := Lib.hid hp.out.1
  obtain ⟨a1, c1, hv1⟩ := row_slice hp.out
  rw [List.length_map] at hv1
  subst hv1
  obtain ⟨k, hk⟩ := Int.eq_ofNat_of_zero_le (Int.emod_nonneg m (show ((p.length : Int) + 1) ≠ 0 by omega))
  have hkp : k ≤ p.length := by have := Int.emod_lt_of_pos m (show 0 < (p.length : Int) + 1 by omega); omega
  clear hs
  go_upto_region 8 with (fail)
  rw [hk]
  clear hk
  go_cut [58, 59, 60] (fun s58 s59 s60 wx => ∃ b3 : Int, 55296 ≤ b3 ∧ b3 ≤ 57343 ∧ s58 = .slice (some ⟨w4.heap.size, 0, none⟩) 3 3 ∧ s59 = .int .i64 3 ∧ s60 = .int .i64 0 ∧ Hid (Cells3 w4.heap.size [b1, b2, b3] wx) ∧ Below w4.heap.size w4 wx)
  case first =>
    rcases (show n ≤ -1 ∨ (¬ n ≤ -1 ∧ ¬ 1114112 ≤ n) ∨ 1114112 ≤ n by omega) with g | ⟨g, g2⟩ | g
    · have e1 : b1 = n := by rw [hb1.out, if_pos g]
      have e2 : b2 = 1114112 := by rw [hb2.out, if_neg (by omega)]
      have g2 : ¬ 1114112 ≤ n := by omega
      subst e2
      replace e1 := Lib.hid e1
      go_wp2_with fail
      refine (pick_any n 2048 (by omega) (by omega) _).mono ?_; rintro e w5 ⟨x, rfl, hx0, hx1, rfl⟩
      go_wp2_with fail
      go_meet
      exact ⟨55296 + x, by omega, by omega, rfl, rfl, rfl, by rw [e1.out]; exact cells3_mk _ _ _ _, (Below.refl _ _).alloc (Nat.le_refl _) _⟩
    · have e1 : b1 = -1 := by rw [hb1.out, if_neg g]
      have e2 : b2 = 1114112 := by rw [hb2.out, if_neg g2]
      subst e1 e2
      have g3 : -1 < n := by omega
      have g4 : n < 1114112 := by omega
      go_wp2_with fail
      refine (pick_any n 2048 (by omega) (by omega) _).mono ?_; rintro e w5 ⟨x, rfl, hx0, hx1, rfl⟩
      go_wp2_with fail
      go_meet
      exact ⟨55296 + x, by omega, by omega, rfl, rfl, rfl, cells3_mk _ _ _ _, (Below.refl _ _).alloc (Nat.le_refl _) _⟩
    · have e1 : b1 = -1 := by rw [hb1.out, if_neg (by omega)]
      have e2 : b2 = n := by rw [hb2.out, if_pos g]
      have g2 : ¬ n ≤ -1 := by omega
      have g3 : -1 < n := by omega
      subst e1
      replace e2 := Lib.hid e2
      go_wp2_with fail
      refine (pick_any n 2048 (by omega) (by omega) _).mono ?_; rintro e w5 ⟨x, rfl, hx0, hx1, rfl⟩
      go_wp2_with fail
      go_meet
      exact ⟨55296 + x, by omega, by omega, rfl, rfl, rfl, by rw [e2.out]; exact cells3_mk _ _ _ _, (Below.refl _ _).alloc (Nat.le_refl _) _⟩
  case rest =>
    obtain ⟨b3, hb30, hb31, rfl, rfl, rfl, hC, hB2⟩ := hcut
    replace hp := Lib.hid (hp.out.on hB2)
    replace hB := on_trans hB hB2; clear hB2
    have hbad : Hid (∀ j, j < 3 → ¬ isPt ([b1, b2, b3].getD j 0)) := by
      intro j hj
      rcases (show j = 0 ∨ j = 1 ∨ j = 2 by omega) with rfl | rfl | rfl
      · show ¬ isPt b1; unfold isPt; omega
      · show ¬ isPt b2; unfold isPt; omega
      · show ¬ isPt b3; unfold isPt; omega
    clear hb1 hb2
    go_wp2_with fail
    go_loopg [60] 3 (fun g s60 wr => ∃ j : Nat, j + g = 3 ∧ s60 = .int .i64 j ∧ Hid (Cells3 w4.heap.size [b1, b2, b3] wr) ∧ Hid (Row wr (.slice a1 p.length c1) (p.map (Value.int .i64))) ∧ Below w.heap.size w wr)
    case atStart => exact ⟨0, by omega, rfl, hC, hp, hB⟩
    case round =>
      obtain ⟨j, hj, rfl, hC, hp, hB⟩ := hrel
      by_cases hlt : j < 3
      · have hcell := hC.out.2 j hlt
        have hnp := Lib.hid (hbad.out j hlt)
        generalize [b1, b2, b3].getD j 0 = B at hcell hnp
        have t1 : decide ((j : Int) < 3) = true := decide_eq_true (by omega)
        go_wp2_with fail
        refine (size_no B hnp.out _).mono ?_; rintro e w5 ⟨rfl, rfl⟩
        go_wp2_with fail
        refine (append_no _ B hnp.out _).mono ?_; rintro e w5 ⟨rfl, rfl⟩
        go_upto_region 13 with (fail)
        have hbA : Below wr.heap.size wr (wr.alloc (.cells #[.int .u8 1] 5)) := (Below.refl _ wr).alloc (Nat.le_refl _) _
        replace hp := Lib.hid (hp.out.on hbA)
        replace hC := Lib.hid (hC.out.on hbA)
        replace hB := on_trans hB hbA
        clear hbA hcell
        generalize wr.alloc (.cells #[.int .u8 1] 5) = W1 at hp hC hB ⊢
        have hrow := hp.out
        obtain ⟨hcap, _⟩ := row_cap hrow
        have h3 := Lib.hid (fun W => run_hi a1 p.length c1 k (by omega) W)
        have h10 := Lib.hid (fun W => run_lo a1 p.length c1 k hkp hcap W)
        have hr3 : Hid (Row W1 (.slice a1 k c1) ((p.take k).map (Value.int .i64))) := by
          have := row_take (m := k) hrow (by omega)
          rwa [← List.map_take] at this
        have hr10 : Hid (Row W1 (.slice (if c1 = k then a1 else a1.map (·.add k)) (p.length - k) (c1 - k)) ((p.drop k).map (Value.int .i64))) := by
          have := row_drop (W := W1) (a := a1) (c := c1) (xs := p.map (Value.int .i64)) k (by simpa using hrow) (by simpa using hkp)
          rw [List.length_map, ← List.map_drop] at this
          exact this
        obtain ⟨u10, hu10⟩ : ∃ u, u = Value.slice (if c1 = k then a1 else a1.map (·.add k)) (p.length - k) (c1 - k) := ⟨_, rfl⟩
        rw [← hu10] at h10 hr10
        clear hu10 hrow
        have hpk : ((p.take k).map (Value.int .i64)).length = k := by simp; omega
        have hc20 : ∀ v w, (callFunc 20 #[v]).run Try.prog w = .ok (.enter 20 #[v]) w := fun v w => enters_of Try.func20 (by kernel_rfl) rfl _ _
        refine wp_region_rows (fun j => ([[], [], [], [1, 2], [0, 3], [], [5], [4, 6], [], [], [8, 9], [7, 10], [11], [12], [13], [13], [14], [15]] : List (List Nat)).getD j []) [16, 17] [0, 4, 6, 7, 11] [7, 11]
          (WF W1 (.int .i64 k) (.int .i64 B) k (.slice a1 p.length c1) (.slice a1 k c1) u10 ((p.take k).map (Value.int .i64)) (p.take k ++ [B] ++ p.drop k))
          (by kernel_rfl) (by kernel_rfl) (by decide +kernel) (by kernel_rfl) (by decide +kernel) (fun j hj => by rw [List.getD_eq_getElem?_getD, List.getElem?_eq_none (show 18 ≤ j from hj)]; rfl) (by decide +kernel) ?_ ?_ ?_ ?_
        · intro i v w w' h hb
          rcases i with _ | _ | _ | _ | _ | _ | _ | _ | _ | _ | _ | _ | _ | _ | _ | _ | _ | i
          all_goals first | exact h | exact owns_on h hb | exact Row.on h hb | exact ⟨h.choose, h.choose_spec.1, owns_on h.choose_spec.2 hb⟩
        · intro i v w w' hf _ h _
          rcases i with _ | _ | _ | _ | _ | _ | _ | _ | _ | _ | _ | _ | _ | _ | _ | _ | _ | i
          all_goals first | exact h | (exfalso; revert hf; decide)
        · intro i
          rcases i with _ | _ | _ | _ | _ | _ | _ | _ | _ | _ | _ | _ | _ | _ | _ | _ | _ | _ | i
          all_goals intro o ho a wa hba hout hpre
          all_goals cases ho
          all_goals have q7 : a.tmps.getD 7 undef = .slice a1 p.length c1 := (hout 7 (by decide +kernel)).trans rfl
          all_goals have q10 : a.tmps.getD 10 undef = .int .i64 k := (hout 10 (by decide +kernel)).trans rfl
          all_goals have q12 : a.tmps.getD 12 undef = .int .i64 B := (hout 12 (by decide +kernel)).trans rfl
          all_goals clear hout
          · exact step_build0 rfl (met_none rfl) rfl (run_build0 wa) ⟨_, rfl, (Below.refl _ _).alloc (Nat.le_refl _) _, _, rfl, World.ownsRow_lit wa #[] 0 hba.size (by unfold maxLen; omega) rfl⟩
          · exact step_move rfl (met_none rfl) (.inl rfl) ⟨_, rfl, Below.refl _ _, q7⟩
          · exact step_move rfl (met_none rfl) (.inl rfl) ⟨_, rfl, Below.refl _ _, q10⟩
          · have p1 : a.tmps.getD 77 undef = .slice a1 p.length c1 := hpre 1 (by simp) _ rfl
            have p2 : a.tmps.getD 78 undef = .int .i64 k := hpre 2 (by simp) _ rfl
            exact step_slice_hi rfl (met_none rfl) rfl p1 p2 (h3.out wa) ⟨_, rfl, Below.refl _ _, rfl⟩
          · obtain ⟨b, p1, p2⟩ : ∃ b, a.tmps.getD 76 undef = .slice (some ⟨b, 0, none⟩) 0 0 ∧ wa.ownsRow W1.heap.size 3 1 (a.tmps.getD 76 undef) 0 [] := hpre 0 (by simp) _ rfl
            have p3 : a.tmps.getD 79 undef = .slice a1 k c1 := hpre 3 (by simp) _ rfl
            rw [p1] at p2
            refine step_app_new (z := .int .i64 0) (bytes := 8) rfl rfl rfl Try.underlying34 info3 rfl _ ((p.take k).map (Value.int .i64)) p1 p2 p3 (hr3.out.on hba) (one_of_ints _) (by omega) (by omega) hba.size ?_
            intro v' w' g1 g2
            exact ⟨_, rfl, g2, by rw [hpk] at g1; exact g1⟩
          · exact step_move rfl (met_none rfl) (.inl rfl) ⟨_, rfl, Below.refl _ _, q12⟩
          · have p1 : a.tmps.getD 81 undef = .int .i64 B := hpre 5 (by simp) _ rfl
            exact step_build1 rfl (met_none rfl) rfl p1 (run_build1 wa B) ⟨_, rfl, (Below.refl _ _).alloc (Nat.le_refl _) _, row_int1 wa B⟩
          · have p1 : wa.ownsRow W1.heap.size 3 1 (a.tmps.getD 80 undef) k ((p.take k).map (Value.int .i64)) := hpre 4 (by simp) _ rfl
            have p2 : Row wa (a.tmps.getD 82 undef) [.int .i64 B] := hpre 6 (by simp) _ rfl
            refine step_app_any (z := .int .i64 0) (bytes := 8) rfl rfl rfl Try.underlying34 info3 rfl _ _ _ [.int .i64 B] rfl p1 rfl p2 (one_of_ints [B]) (by omega) (by simp; omega) hba.size ?_
            intro v' w' g1 g2
            exact ⟨_, rfl, g2, g1⟩
          · exact step_move rfl (met_none rfl) (.inl rfl) ⟨_, rfl, Below.refl _ _, q7⟩
          · exact step_move rfl (met_none rfl) (.inl rfl) ⟨_, rfl, Below.refl _ _, q10⟩
          · have p1 : a.tmps.getD 84 undef = .slice a1 p.length c1 := hpre 8 (by simp) _ rfl
            have p2 : a.tmps.getD 85 undef = .int .i64 k := hpre 9 (by simp) _ rfl
            exact step_slice_lo rfl (met_none rfl) rfl p1 p2 (h10.out wa) ⟨_, rfl, Below.refl _ _, rfl⟩
          · have p1 : wa.ownsRow W1.heap.size 3 1 (a.tmps.getD 83 undef) (k + 1) ((p.take k).map (Value.int .i64) ++ [.int .i64 B]) := hpre 7 (by simp) _ rfl
            have p2 : a.tmps.getD 86 undef = u10 := hpre 10 (by simp) _ rfl
            refine step_app_any (z := .int .i64 0) (bytes := 8) rfl rfl rfl Try.underlying34 info3 rfl _ _ _ ((p.drop k).map (Value.int .i64)) rfl p1 p2 (hr10.out.on hba) (one_of_ints _) (by omega) (by simp; omega) hba.size ?_
            intro v' w' g1 g2
            refine ⟨_, rfl, g2, ?_⟩
            have := Row.of_owned g1
            show Row w' v' _
            rw [List.map_append, List.map_append]
            exact this
          · have p1 : Row wa (a.tmps.getD 87 undef) ((p.take k ++ [B] ++ p.drop k).map (Value.int .i64)) := hpre 11 (by simp) _ rfl
            refine step_call rfl (met_none rfl) _ (args1 rfl) (hc20 _ _) ((texts_to _ (p.take k ++ [B] ++ p.drop k) _ p1 (by simp; omega) _ _ (txR_bad _ _ B hnp.out)).mono ?_)
            rintro e w' ⟨rfl, hb⟩
            exact ⟨_, rfl, _, rfl, hb, rfl⟩
          · have p1 : a.tmps.getD 88 undef = .tuple #[.string ⟨#[]⟩, .int .i64 2] := hpre 12 (by simp) _ rfl
            exact step_move rfl (met_none rfl) (.inl rfl) ⟨_, rfl, Below.refl _ _, p1⟩
          · have p1 : a.tmps.getD 75 undef = .tuple #[.string ⟨#[]⟩, .int .i64 2] := hpre 13 (by simp) _ rfl
            exact step_extract rfl (met_none rfl) rfl p1 (r := .string ⟨#[]⟩) (by kernel_rfl) ⟨_, rfl, Below.refl _ _, rfl⟩
          · have p1 : a.tmps.getD 75 undef = .tuple #[.string ⟨#[]⟩, .int .i64 2] := hpre 13 (by simp) _ rfl
            exact step_extract rfl (met_none rfl) rfl p1 (r := .int .i64 2) (by kernel_rfl) ⟨_, rfl, Below.refl _ _, rfl⟩
          · have p1 : a.tmps.getD 89 undef = .string ⟨#[]⟩ := hpre 14 (by simp) _ rfl
            exact step_move rfl (met_none rfl) (.inr rfl) ⟨_, rfl, Below.refl _ _, p1⟩
          · have p1 : a.tmps.getD 90 undef = .int .i64 2 := hpre 15 (by simp) _ rfl
            exact step_move rfl (met_none rfl) (.inr rfl) ⟨_, rfl, Below.refl _ _, p1⟩
        · intro a wa hba hF ha
          have f16 : a.tmps.getD 17 undef = .string ⟨#[]⟩ := hF 16 (by simp) _ rfl
          have f17 : a.tmps.getD 18 undef = .int .i64 2 := hF 17 (by simp) _ rfl
          clear hF
          simp only [List.foldl, fillFrom, f16, f17] at ha
          clear f16 f17
          generalize a.tmps.getD 75 undef = z75 at ha
          generalize a.tmps.getD 76 undef = z76 at ha
          generalize a.tmps.getD 77 undef = z77 at ha
          generalize a.tmps.getD 78 undef = z78 at ha
          generalize a.tmps.getD 79 undef = z79 at ha
          generalize a.tmps.getD 80 undef = z80 at ha
          generalize a.tmps.getD 81 undef = z81 at ha
          generalize a.tmps.getD 82 undef = z82 at ha
          generalize a.tmps.getD 83 undef = z83 at ha
          generalize a.tmps.getD 84 undef = z84 at ha
          generalize a.tmps.getD 85 undef = z85 at ha
          generalize a.tmps.getD 86 undef = z86 at ha
          generalize a.tmps.getD 87 undef = z87 at ha
          generalize a.tmps.getD 88 undef = z88 at ha
          generalize a.tmps.getD 89 undef = z89 at ha
          generalize a.tmps.getD 90 undef = z90 at ha
          subst ha
          simp only [Act.put, List.setIfInBounds_toArray, List.set_cons_succ, List.set_cons_zero]
          replace hp := Lib.hid (hp.out.on hba)
          replace hC := Lib.hid (hC.out.on hba)
          replace hB := on_trans hB hba
          clear hba h3 h10 hr3 hr10 hc20 hpk hcap
          have hsp : ¬ (65536 ≤ B ∧ B ≤ 1114111) := by have := hnp.out; unfold isPt at this; omega
          have hcs := Lib.hid (fun W => split_no B hsp W)
          have hcp := Lib.hid (fun W => point_no B hnp.out W)
          clear hsp
          go_wp2_with fail
          refine (hcs.out _).mono ?_; rintro e w7 ⟨rfl, rfl⟩
          go_wp2_with fail
          refine (hcp.out _).mono ?_; rintro e w7 ⟨rfl, rfl⟩
          go_wp2_with fail
          go_roundg (gk - 1)
          case measure => omega
          case rel => exact ⟨j + 1, by omega, by go_num, hC, hp, hB⟩
      · obtain rfl : j = 3 := by omega
        have hmn : ∃ x : Int, Hid (x = if n ≤ -1 then n else -1) := ⟨_, rfl⟩
        obtain ⟨mx, hmx⟩ : ∃ x : Int, Hid (x = if (s.size : Int) + 1 ≤ n then n else (s.size : Int) + 1) := ⟨_, rfl⟩
        have hmx1 : (s.size : Int) < mx := by rw [hmx.out]; split <;> omega
        obtain ⟨mn, hmn⟩ := hmn
        have hmn1 : mn < 0 := by rw [hmn.out]; split <;> omega
        have hc1 := Lib.hid (fun W => read_to s (by omega) mn 0 0 2 (rd_out s mn (.inl hmn1)) W)
        have hc2 := Lib.hid (fun W => read_to s (by omega) mx 0 0 2 (rd_out s mx (.inr hmx1)) W)
        have hc3 := Lib.hid (fun W => read_to s (by omega) (s.size : Int) 0 0 6 (rd_end s) W)
        rw [show ((3 : Nat) : Int) = 3 from rfl]
        clear hC hp hbad hb10 hb20 hb30 hb31
        rcases (show n ≤ -1 ∨ (¬ n ≤ -1 ∧ ¬ (s.size : Int) + 1 ≤ n) ∨ (s.size : Int) + 1 ≤ n by omega) with g | ⟨g, g2⟩ | g
        all_goals
          first
            | (have e1 : mn = n := by rw [hmn.out, if_pos g]
               have e2 : mx = (s.size : Int) + 1 := by rw [hmx.out, if_neg (by omega)]
               have g2 : ¬ (s.size : Int) + 1 ≤ n := by omega)
            | (have e1 : mn = -1 := by rw [hmn.out, if_neg g]
               have e2 : mx = (s.size : Int) + 1 := by rw [hmx.out, if_neg g2])
            | (have e1 : mn = -1 := by rw [hmn.out, if_neg (by omega)]
               have e2 : mx = n := by rw [hmx.out, if_pos g]
               have g2 : ¬ n ≤ -1 := by omega)
          rw [e1] at hc1
          rw [e2] at hc2
          clear e1 e2
          go_wp2_with fail
          refine (hc1.out _).mono ?_; rintro e w5 ⟨rfl, rfl⟩
          go_wp2_with fail
          refine (hc2.out _).mono ?_; rintro e w5 ⟨rfl, rfl⟩
          go_wp2_with fail
          refine (hc3.out _).mono ?_; rintro e w5 ⟨rfl, rfl⟩
          by_cases hz0 : s.size = 0
          · have z0 : ((s.size : Int) == 0) = true := by rw [hz0]; rfl
            replace hz0 := Lib.hid hz0
            go_wp2_with fail
            go_ret
            exact ⟨by simp, hB⟩
          · have z0 : ((s.size : Int) == 0) = false := by rw [beq_eq_false_iff_ne]; omega
            obtain ⟨i, hi⟩ := Int.eq_ofNat_of_zero_le (Int.emod_nonneg m (show (s.size : Int) ≠ 0 by omega))
            have hip : i < s.size := by have := Int.emod_lt_of_pos m (show 0 < (s.size : Int) by omega); omega
            go_upto_region 26 with (fail)
            rw [hi]
            clear hi
            obtain ⟨c, hc⟩ : ∃ c : UInt8, (c.toNat : Int) = 248 + m % 8 := ⟨b8 (248 + m % 8), b8_nat _ (by omega) (by omega)⟩
            have hc8 : (248 : Int) ≤ c.toNat := by omega
            have e1 : (s.extract 0 i).size = i := by rw [extract_len _ _ _ (by omega)]; omega
            have e2 : (s.extract 0 i ++ ⟨#[c]⟩ : ByteArray).size = i + 1 := by rw [app_size, e1]; rfl
            have e3 : (s.extract (i + 1) s.size).size ≤ 800 := by rw [extract_len _ _ _ (Nat.le_refl _)]; omega
            obtain ⟨bent, hbent⟩ : ∃ z : ByteArray, z = s.extract 0 i ++ ⟨#[c]⟩ ++ s.extract (i + 1) s.size := ⟨_, rfl⟩
            have hbl : bent.data.toList = (frms p).take i ++ c :: (s.extract (i + 1) s.size).data.toList := by
              rw [hbent, app_list, app_list, extract_list, hsl.out, List.drop_zero, Nat.sub_zero]; simp
            have hbz : bent.size ≤ 1700 := by rw [hbent, app_size, e2]; omega
            obtain ⟨jj, hjj, hji⟩ := bent_ck p hpt.out i (by rw [← hsl.out, ← size_list]; omega) c hc8 _ bent hbl
            have hc4 := Lib.hid (fun W => check_to bent (by omega) jj 11 hjj W)
            have hc5 := Lib.hid (fun W => valid_to bent (by omega) jj 11 hjj false rfl W)
            have hcf : ∀ v w, (callFunc 30 #[v]).run Try.prog w = .ok (.enter 30 #[v]) w := fun v w => enters_of Try.func30 (by kernel_rfl) rfl _ _
            clear hbl hjj hbz
            refine wp_region_rows (fun j => ([[], [], [0, 1], [], [3], [4], [5], [6], [2, 7], [], [], [10], [9, 11], [8, 12], [13]] : List (List Nat)).getD j []) [14] [6] []
              (WG s m i c)
              (by kernel_rfl) (by kernel_rfl) (by decide +kernel) (by kernel_rfl) (by decide +kernel) (fun j hj => by rw [List.getD_eq_getElem?_getD, List.getElem?_eq_none (show 15 ≤ j from hj)]; rfl) (by decide +kernel) ?_ ?_ ?_ ?_
            · intro i v w w' h hb
              rcases i with _ | _ | _ | _ | _ | _ | _ | _ | _ | _ | _ | _ | _ | i
              all_goals first | exact h | exact ⟨h.choose, h.choose_spec.1, h.choose_spec.2.on hb⟩
            · intro i v w w' hf _ h _
              rcases i with _ | _ | _ | _ | _ | _ | _ | _ | _ | _ | _ | _ | _ | i
              all_goals first | exact h | (exfalso; revert hf; decide)
            · intro jo
              rcases jo with _ | _ | _ | _ | _ | _ | _ | _ | _ | _ | _ | _ | _ | _ | _ | jo
              all_goals intro o ho a wa hba hout hpre
              all_goals cases ho
              all_goals have q8 : a.tmps.getD 8 undef = .string s := (hout 8 (by decide +kernel)).trans rfl
              all_goals have q31 : a.tmps.getD 31 undef = .int .i64 i := (hout 31 (by decide +kernel)).trans rfl
              all_goals have q2 : a.tmps.getD 2 undef = .int .u16 m := (hout 2 (by decide +kernel)).trans rfl
              all_goals clear hout
              · exact step_move rfl (met_none rfl) (.inl rfl) ⟨_, rfl, Below.refl _ _, q8⟩
              · exact step_move rfl (met_none rfl) (.inl rfl) ⟨_, rfl, Below.refl _ _, q31⟩
              · have p1 : a.tmps.getD 174 undef = .string s := hpre 0 (by simp) _ rfl
                have p2 : a.tmps.getD 175 undef = .int .i64 i := hpre 1 (by simp) _ rfl
                exact step_slice_hi rfl (met_none rfl) rfl p1 p2 (run_str_hi s i (by omega) wa) ⟨_, rfl, Below.refl _ _, rfl⟩
              · exact step_move rfl (met_none rfl) (.inl rfl) ⟨_, rfl, Below.refl _ _, q2⟩
              · have p1 : a.tmps.getD 177 undef = .int .u16 m := hpre 3 (by simp) _ rfl
                refine step_call rfl (met_none rfl) _ (args1 p1) (hcf _ _) ((at2_any m hm0 hm1 _).mono ?_)
                rintro e w' ⟨rfl, rfl⟩
                exact ⟨_, rfl, _, rfl, Below.refl _ _, rfl⟩
              · have p1 : a.tmps.getD 178 undef = .int .u8 (m % 8) := hpre 4 (by simp) _ rfl
                exact step_bin rfl (met_none rfl) rfl rfl p1 (run_add_u8 (m % 8) (by omega) (by omega) wa) ⟨_, rfl, Below.refl _ _, rfl⟩
              · have p1 : a.tmps.getD 179 undef = .int .u8 (248 + m % 8) := hpre 5 (by simp) _ rfl
                exact step_build1 rfl (met_none rfl) rfl p1 (run_build8 wa _) ⟨_, rfl, (Below.refl _ _).alloc (Nat.le_refl _) _, _, rfl, row_u8 wa c _ hc.symm⟩
              · obtain ⟨b, p1, p2⟩ : ∃ b, a.tmps.getD 180 undef = .slice (some ⟨b, 0, none⟩) 1 1 ∧ Row wa (a.tmps.getD 180 undef) ([c].map enc8) := hpre 6 (by simp) _ rfl
                exact step_conv rfl (met_none rfl) rfl (row_conv p2 (by simp)) ⟨_, rfl, Below.refl _ _, rfl⟩
              · have p1 : a.tmps.getD 176 undef = .string (s.extract 0 i) := hpre 2 (by simp) _ rfl
                have p2 : a.tmps.getD 181 undef = .string ⟨#[c]⟩ := hpre 7 (by simp) _ rfl
                exact step_bin rfl (met_none rfl) rfl p1 p2 (run_add_str _ _ _ _ (by rw [e1]; show i + 1 ≤ _; omega) wa) ⟨_, rfl, Below.refl _ _, rfl⟩
              · exact step_move rfl (met_none rfl) (.inl rfl) ⟨_, rfl, Below.refl _ _, q8⟩
              · exact step_move rfl (met_none rfl) (.inl rfl) ⟨_, rfl, Below.refl _ _, q31⟩
              · have p1 : a.tmps.getD 184 undef = .int .i64 i := hpre 10 (by simp) _ rfl
                exact step_bin rfl (met_none rfl) rfl p1 rfl (run_add_int i (by omega) wa) ⟨_, rfl, Below.refl _ _, rfl⟩
              · have p1 : a.tmps.getD 183 undef = .string s := hpre 9 (by simp) _ rfl
                have p2 : a.tmps.getD 185 undef = .int .i64 ((i : Int) + 1) := hpre 11 (by simp) _ rfl
                exact step_slice_lo rfl (met_none rfl) rfl p1 p2 (run_str_lo s i (by omega) wa) ⟨_, rfl, Below.refl _ _, rfl⟩
              · have p1 : a.tmps.getD 182 undef = .string (s.extract 0 i ++ ⟨#[c]⟩) := hpre 8 (by simp) _ rfl
                have p2 : a.tmps.getD 186 undef = .string (s.extract (i + 1) s.size) := hpre 12 (by simp) _ rfl
                exact step_bin rfl (met_none rfl) rfl p1 p2 (run_add_str _ _ _ _ (by rw [e2]; omega) wa) ⟨_, rfl, Below.refl _ _, rfl⟩
              · have p1 : a.tmps.getD 187 undef = .string (s.extract 0 i ++ ⟨#[c]⟩ ++ s.extract (i + 1) s.size) := hpre 13 (by simp) _ rfl
                exact step_move rfl (met_none rfl) (.inr rfl) ⟨_, rfl, Below.refl _ _, p1⟩
            · intro a wa hba hF ha
              have f14 : a.tmps.getD 32 undef = .string (s.extract 0 i ++ ⟨#[c]⟩ ++ s.extract (i + 1) s.size) := hF 14 (by simp) _ rfl
              rw [← hbent] at f14
              clear hF
              simp only [List.foldl, fillFrom, f14] at ha
              clear f14
              generalize a.tmps.getD 174 undef = z174 at ha
              generalize a.tmps.getD 175 undef = z175 at ha
              generalize a.tmps.getD 176 undef = z176 at ha
              generalize a.tmps.getD 177 undef = z177 at ha
              generalize a.tmps.getD 178 undef = z178 at ha
              generalize a.tmps.getD 179 undef = z179 at ha
              generalize a.tmps.getD 180 undef = z180 at ha
              generalize a.tmps.getD 181 undef = z181 at ha
              generalize a.tmps.getD 182 undef = z182 at ha
              generalize a.tmps.getD 183 undef = z183 at ha
              generalize a.tmps.getD 184 undef = z184 at ha
              generalize a.tmps.getD 185 undef = z185 at ha
              generalize a.tmps.getD 186 undef = z186 at ha
              generalize a.tmps.getD 187 undef = z187 at ha
              subst ha
              simp only [Act.put, List.setIfInBounds_toArray, List.set_cons_succ, List.set_cons_zero]
              replace hB := on_trans hB hba
              have t9 : decide (jj ≤ (i : Int)) = true := decide_eq_true hji
              clear hba e1 e2 e3 hbent hc hc8
              go_wp2_with fail
              refine (hc4.out _).mono ?_; rintro e w8 ⟨rfl, rfl⟩
              go_wp2_with fail
              refine (hc5.out _).mono ?_; rintro e w8 ⟨rfl, rfl⟩
              go_wp2_with fail
              go_ret
              exact ⟨by simp, hB⟩
theorem utfWrong_walk (a0 : Option Addr) (len0 cap0 : Nat) (z0 : List Int) (a1 a2 : Int) (w : World) (w0 : IsRow .u32 w a0 len0 cap0 z0) (w1 : (Lit.int .i64 a1).wf = true) (w2 : (Lit.int .u16 a2).wf = true) :
    Calls Try.prog 10 #[.slice a0 len0 cap0, .int .i64 a1, .int .u16 a2] w fun e w' => e = .returned (.bool true) ∧ Below w.heap.size w w' :=
  wrong_core _ a1 a2 (I_bd a1 w1).1 (I_bd a1 w1).2 (u16_bd a2 w2).1 (u16_bd a2 w2).2 w w0.in32
end Go.Proofs.Ytkabkkgaalimmaa
