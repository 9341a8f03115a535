/- The walk of the law UtfCuts. -/
import Derived.Test.YtkabkkgaalimmaaV30
namespace Go.Proofs.Ytkabkkgaalimmaa
open Go.RowKit Go.Shelf

def PickRet (m : Int) (w : World) (e : Ending) (w' : World) : Prop := ∃ x : Int, e = .returned (.int .i64 x) ∧ 0 ≤ x ∧ x < m ∧ w = w'
set_option maxHeartbeats 400000 in
theorem pick_any (n m : Int) (h1 : 1 ≤ m) (hm : m ≤ 4611686018427387904) (w : World) : Calls Try.prog 25 #[.int .i64 n, .int .i64 m] w (PickRet m w) := by
  have hq := Lib.hid (Int.tmod_lt_of_pos n (show 0 < m by omega))
  have hq2 := Lib.hid (Int.lt_tmod_of_pos n (show 0 < m by omega))
  obtain ⟨x, hx⟩ : ∃ x, n.tmod m = x := ⟨_, rfl⟩
  have hm0 : (m == 0) = false := by simp; omega
  have hx1 : x < m := by rw [← hx]; exact hq.out
  have hx2 : -m < x := by rw [← hx]; exact hq2.out
  clear hq hq2
  by_cases hs : x < 0
  · have t1 : decide (x < 0) = true := decide_eq_true hs
    go_enter Try.func25, Try.ntmps25
    go_wp2_with fail
    go_ret
    exact ⟨x + m, rfl, by omega, by omega, rfl⟩
  · have t1 : decide (x < 0) = false := decide_eq_false hs
    go_enter Try.func25, Try.ntmps25
    go_wp2_with fail
    go_ret
    exact ⟨x, rfl, by omega, by omega, rfl⟩

theorem cuts_facts (p : List Int) (hp : ∀ x ∈ p, isPt x) (s : ByteArray) (hsl : s.data.toList = frms p) (hz : s.size ≤ 800) (K : Int) (hK : 0 ≤ K) :
    ∃ (E : Nat) (c d : ByteArray) (i : Int), s.extract 0 E = c ∧ c.size = E ∧ E ≤ s.size ∧ (E : Int) ≤ K ∧ ctR s K = (c, 0) ∧ ck c = ((E : Int), 0) ∧ s.extract E s.size = d ∧ d.size ≤ 800 ∧ ck d = (i, 0) ∧ (E ≠ s.size → ∃ y l, rd s (E : Nat) = (y, l, 0) ∧ 1 ≤ l ∧ K - E < l) := by
  obtain ⟨M, N, a, b, c, d⟩ := cutk_split K p 0
  rw [Nat.zero_add] at b
  have hlen : s.size = (frms M).length + (frms N).length := by rw [size_list, hsl, a, frms_app, List.length_append]
  have c := c (by omega)
  have hM : ∀ x ∈ M, isPt x := fun x hx => hp x (by rw [a]; simp [hx])
  have hN : ∀ x ∈ N, isPt x := fun x hx => hp x (by rw [a]; simp [hx])
  have e1 : (s.extract 0 (frms M).length).data.toList = frms M := by rw [extract_list, hsl, a, frms_app, List.drop_zero, Nat.sub_zero]; simp
  have e2 : (s.extract (frms M).length s.size).data.toList = frms N := by
    rw [extract_list, hsl, a, frms_app, List.drop_left, List.take_of_length_le (by omega)]
  refine ⟨(frms M).length, _, _, ((frms N).length : Nat), rfl, by rw [extract_len _ _ _ (by omega)]; omega, by omega, by omega, ?_, ?_, rfl, by rw [extract_len _ _ _ (Nat.le_refl _)]; omega, ?_, ?_⟩
  · rw [ctR_of s p hp hsl (by omega) K hK, b]
  · rw [ck_parts _ M [] hM (by rw [e1, List.append_nil]) (by decide)]; rfl
  · rw [ck_parts _ N [] hN (by rw [e2, List.append_nil]) (by decide)]; rfl
  · intro hne
    cases N with
    | nil => exact absurd (show s.size = (frms M).length from hlen) (by omega)
    | cons y N =>
      have := d y N rfl
      obtain ⟨h1, h2⟩ := frms_split s M N y (by rw [hsl, a]) (hN y (by simp))
      have := frm_pos y
      exact ⟨_, _, h1, by omega, by omega⟩
theorem ctR_neg (s : ByteArray) (n : Int) (hz : s.size ≤ 800) (hn : n < 0) : ctR s n = (⟨#[]⟩, 2) := by
  unfold ctR; rw [if_neg (by omega), if_pos hn]
def CutsI (b : Nat) (k1 k2 : Int) (w : World) : Prop := b < w.heap.size ∧ w.cell? ⟨b, 0, none⟩ = some (.int .i64 k1) ∧ w.cell? ⟨b, 1, none⟩ = some (.int .i64 k2)
theorem CutsI.on {b : Nat} {k1 k2 : Int} {w w' : World} (h : CutsI b k1 k2 w) (hb : Below w.heap.size w w') : CutsI b k1 k2 w' :=
  ⟨Nat.lt_of_lt_of_le h.1 hb.size, (hb.cell (p := ⟨b, 0, none⟩) h.1).trans h.2.1, (hb.cell (p := ⟨b, 1, none⟩) h.1).trans h.2.2⟩
theorem cutsI_mk (w : World) (k1 k2 : Int) : CutsI w.heap.size k1 k2 (w.alloc (.cells #[.int .i64 k1, .int .i64 k2] 3)) := by
  refine ⟨by simp, ?_, ?_⟩ <;> simp [go_sem]
set_option maxRecDepth 100000 in
set_option maxHeartbeats 2000000 in
theorem utfCuts_core (va : Value) (n : Int) (hn1 : n ≤ 9223372036854775807) (w : World) (ha : In32 w va) :
    Calls Try.prog 8 #[va, .int .i64 n] w fun e w' => e = .returned (.bool true) ∧ Below w.heap.size w w' := by
  replace ha := Lib.hid ha
  obtain ⟨mx, hmx⟩ : ∃ mx : Int, Hid (mx = if n < 0 then 0 else n) := ⟨_, rfl⟩
  obtain ⟨mn, hmn⟩ : ∃ mn : Int, Hid (mn = if n < 0 then n else -1) := ⟨_, rfl⟩
  have hmx0 : 0 ≤ mx := by rw [hmx.out]; split <;> omega
  have hmx1 : mx ≤ 9223372036854775807 := by rw [hmx.out]; split <;> omega
  have hmn0 : mn < 0 := by rw [hmn.out]; split <;> omega
  rcases (show n < 0 ∨ 0 ≤ n by omega) with hn | hn
  all_goals
    first
      | (have hX : mx = 0 := by rw [hmx.out, if_pos hn]
         have hY : mn = n := by rw [hmn.out, if_pos hn]
         have g1 : n ≤ -1 := by omega
         have g2 : ¬ 0 ≤ n := by omega)
      | (have hX : mx = n := by rw [hmx.out, if_neg (by omega)]
         have hY : mn = -1 := by rw [hmn.out, if_neg (by omega)]
         have g1 : ¬ n ≤ -1 := by omega
         have g2 : ¬ n < 0 := by omega)
    clear hmx hmn
    have hX' := Lib.hid hX
    have hY' := Lib.hid hY
    clear hX hY
    go_enter Try.func8, Try.ntmps8
    go_wp2_with fail
    refine (awake_any _).mono ?_; rintro e w1 ⟨rfl, hB⟩
    go_wp2_with fail
    refine (made_any va _ (ha.out.on hB)).mono ?_; rintro e w2 ⟨⟨v1, p, rfl, hp⟩, hB2⟩
    replace hp := Lib.hid hp
    replace hB := on_trans hB hB2; clear hB2
    go_wp2_with fail
    refine (text_of v1 p _ hp.out).mono ?_; rintro e w4 ⟨rfl, hB2⟩
    replace hB := on_trans hB hB2; clear hB2
    obtain ⟨s, hs⟩ : ∃ s, Hid (s = strOf p) := ⟨strOf p, rfl⟩
    rw [← hs.out]
    have hsl : Hid (s.data.toList = frms p) := by show _ = _; rw [hs.out, strOf_list]
    have hsz : s.size ≤ 800 := by rw [hs.out, strOf_size]; have := frms_hi p; have := hp.out.2.2; omega
    have hpt : Hid (∀ x ∈ p, isPt x) := hp.out.2.1
    clear hs hp
    go_wp2_with fail
    refine (pick_any n _ (by omega) (by omega) _).mono ?_; rintro e w5 ⟨x, rfl, hx0, hx1, rfl⟩
    go_wp2_with fail
    go_loopg [33] 2 (fun g s33 wr => ∃ j : Nat, j + g = 2 ∧ s33 = .int .i64 j ∧ Hid (CutsI w4.heap.size x mx wr) ∧ Below w.heap.size w wr)
    case atStart => exact ⟨0, by omega, rfl, by rw [hX'.out]; exact cutsI_mk _ _ _, hB.alloc hB.size _⟩
    case round =>
      obtain ⟨j, hj, rfl, hI, hB⟩ := hrel
      rcases (show j = 0 ∨ j = 1 ∨ j = 2 by omega) with rfl | rfl | rfl
      · obtain ⟨E, c, d, i, q1, q2, q3, q4, q5, q6, q7, q8, q9, q10⟩ := cuts_facts p hpt.out s hsl.out hsz x (by omega)
        have hcell : wr.cell? ⟨w4.heap.size, 0, none⟩ = some (.int .i64 x) := hI.out.2.1
        have hcall1 := Lib.hid (fun W => cut_to s (by omega) x c 0 q5 W)
        have hcall2 := Lib.hid (fun W => valid_to c (by omega) _ 0 q6 true rfl W)
        have hcall3 := Lib.hid (fun W => valid_to d (by omega) _ 0 q9 true rfl W)
        have t1 : decide (x < (E : Int)) = false := decide_eq_false (by omega)
        have t2 : decide (s.size < E) = false := decide_eq_false (by omega)
        clear q5 q6 q9
        rw [show ((0 : Nat) : Int) = 0 from rfl]
        by_cases hE : E = s.size
        · have t3 : ((E : Int) == (s.size : Int)) = true := by simp; omega
          replace hE := Lib.hid hE
          clear q10
          go_wp2_with fail
          refine (hcall1.out _).mono ?_; rintro e w6 ⟨rfl, hB2⟩
          replace hI := Lib.hid (hI.out.on hB2)
          replace hB := on_trans hB hB2; clear hB2
          go_wp2_with fail
          refine (hcall2.out _).mono ?_; rintro e w7 ⟨rfl, rfl⟩
          go_wp2_with fail
          refine (hcall3.out _).mono ?_; rintro e w7 ⟨rfl, rfl⟩
          go_wp2_with fail
          go_roundg 1
          case measure => omega
          case rel => exact ⟨1, by omega, rfl, hI, hB⟩
        · obtain ⟨y, l, r1, r2, r3⟩ := q10 hE
          have t3 : ((E : Int) == (s.size : Int)) = false := by simp; omega
          have t4 : decide (l ≤ x - (E : Int)) = false := decide_eq_false (by omega)
          have hcall4 := Lib.hid (fun W => read_to s (by omega) (E : Nat) y l 0 r1 W)
          clear q10 r1
          go_wp2_with fail
          refine (hcall1.out _).mono ?_; rintro e w6 ⟨rfl, hB2⟩
          replace hI := Lib.hid (hI.out.on hB2)
          replace hB := on_trans hB hB2; clear hB2
          go_wp2_with fail
          refine (hcall2.out _).mono ?_; rintro e w7 ⟨rfl, rfl⟩
          go_wp2_with fail
          refine (hcall3.out _).mono ?_; rintro e w7 ⟨rfl, rfl⟩
          go_wp2_with fail
          refine (hcall4.out _).mono ?_; rintro e w7 ⟨rfl, rfl⟩
          go_wp2_with fail
          go_roundg 1
          case measure => omega
          case rel => exact ⟨1, by omega, rfl, hI, hB⟩
      · obtain ⟨E, c, d, i, q1, q2, q3, q4, q5, q6, q7, q8, q9, q10⟩ := cuts_facts p hpt.out s hsl.out hsz mx (by omega)
        have hcell : wr.cell? ⟨w4.heap.size, 1, none⟩ = some (.int .i64 mx) := hI.out.2.2
        have hcall1 := Lib.hid (fun W => cut_to s (by omega) mx c 0 q5 W)
        have hcall2 := Lib.hid (fun W => valid_to c (by omega) _ 0 q6 true rfl W)
        have hcall3 := Lib.hid (fun W => valid_to d (by omega) _ 0 q9 true rfl W)
        have t1 : decide (mx < (E : Int)) = false := decide_eq_false (by omega)
        have t2 : decide (s.size < E) = false := decide_eq_false (by omega)
        clear q5 q6 q9
        rw [show ((1 : Nat) : Int) = 1 from rfl]
        by_cases hE : E = s.size
        · have t3 : ((E : Int) == (s.size : Int)) = true := by simp; omega
          replace hE := Lib.hid hE
          clear q10
          go_wp2_with fail
          refine (hcall1.out _).mono ?_; rintro e w6 ⟨rfl, hB2⟩
          replace hI := Lib.hid (hI.out.on hB2)
          replace hB := on_trans hB hB2; clear hB2
          go_wp2_with fail
          refine (hcall2.out _).mono ?_; rintro e w7 ⟨rfl, rfl⟩
          go_wp2_with fail
          refine (hcall3.out _).mono ?_; rintro e w7 ⟨rfl, rfl⟩
          go_wp2_with fail
          go_roundg 0
          case measure => omega
          case rel => exact ⟨2, by omega, rfl, hI, hB⟩
        · obtain ⟨y, l, r1, r2, r3⟩ := q10 hE
          have t3 : ((E : Int) == (s.size : Int)) = false := by simp; omega
          have t4 : decide (l ≤ mx - (E : Int)) = false := decide_eq_false (by omega)
          have hcall4 := Lib.hid (fun W => read_to s (by omega) (E : Nat) y l 0 r1 W)
          clear q10 r1
          go_wp2_with fail
          refine (hcall1.out _).mono ?_; rintro e w6 ⟨rfl, hB2⟩
          replace hI := Lib.hid (hI.out.on hB2)
          replace hB := on_trans hB hB2; clear hB2
          go_wp2_with fail
          refine (hcall2.out _).mono ?_; rintro e w7 ⟨rfl, rfl⟩
          go_wp2_with fail
          refine (hcall3.out _).mono ?_; rintro e w7 ⟨rfl, rfl⟩
          go_wp2_with fail
          refine (hcall4.out _).mono ?_; rintro e w7 ⟨rfl, rfl⟩
          go_wp2_with fail
          go_roundg 0
          case measure => omega
          case rel => exact ⟨2, by omega, rfl, hI, hB⟩
      · have hcut := ctR_neg s mn hsz hmn0
        rw [hY'.out] at hcut
        have hcall1 := Lib.hid (fun W => cut_to s (by omega) _ _ 2 hcut W)
        clear hcut
        rw [show ((2 : Nat) : Int) = 2 from rfl]
        go_wp2_with fail
        refine (hcall1.out _).mono ?_; rintro e w6 ⟨rfl, hB2⟩
        replace hB := on_trans hB hB2; clear hB2
        go_wp2_with fail
        go_ret
        exact ⟨by simp, hB⟩
theorem utfCuts_walk (a0 : Option Addr) (len0 cap0 : Nat) (z0 : List Int) (a1 : Int) (w : World) (w0 : IsRow .u32 w a0 len0 cap0 z0) (w1 : (Lit.int .i64 a1).wf = true) :
    Calls Try.prog 8 #[.slice a0 len0 cap0, .int .i64 a1] w fun e w' => e = .returned (.bool true) ∧ Below w.heap.size w w' :=
  utfCuts_core _ a1 (I_bd a1 w1).2 w w0.in32
end Go.Proofs.Ytkabkkgaalimmaa
