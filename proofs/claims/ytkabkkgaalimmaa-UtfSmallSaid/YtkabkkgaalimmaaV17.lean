/- The contract of utf.Text. -/
import Derived.Test.YtkabkkgaalimmaaV15
namespace Go.Proofs.Ytkabkkgaalimmaa
open Go.RowKit Go.Shelf

def frms (L : List Int) : List UInt8 := (L.map frm).flatten
theorem frms_snoc (L : List Int) (x : Int) : frms (L ++ [x]) = frms L ++ frm x := by simp [frms]
theorem take_snoc {α : Type} (L : List α) (k : Nat) (h : k < L.length) : L.take (k + 1) = L.take k ++ [L[k]] := by
  rw [List.take_succ_eq_append_getElem h]
/-- What Text returns. -/
def txR (L : List Int) : ByteArray × Int := if ∀ x ∈ L, isPt x then (⟨(frms L).toArray⟩, 0) else (⟨#[]⟩, 2)
theorem ret2_s {r : ByteArray × Int} {a : ByteArray} {b : Int} (h : (a, b) = r) : Ending.returned (.tuple #[.string a, .int .i64 b]) = .returned (.tuple #[.string r.1, .int .i64 r.2]) := by rw [← h]

set_option maxRecDepth 100000 in
set_option maxHeartbeats 1000000 in
theorem text_any (v : Value) (L : List Int) (w : World) (hL : Row w v (L.map (Value.int .i64))) (hlen : L.length ≤ 1048576) :
    Calls Try.prog 20 #[v] w fun e w' => e = .returned (.tuple #[.string (txR L).1, .int .i64 (txR L).2]) ∧ Below w.heap.size w w' := by
  rcases hL with ⟨a, c, hac, rfl, hnil⟩ | ⟨b, off, cap, hv, hlt, h1, h2, hc⟩
  · obtain rfl : L = [] := by simpa using hnil
    have hcv := run_convert_bytes_nil (P := Try.prog) w 22 5 Try.underlying22 Try.underlying5 0 0 9 Try.underlying9
    go_enter Try.func20, Try.ntmps20
    go_wp2_with fail
    refine wp_loop_rounds 1 ?_
    rw [rounds_succ]
    go_wp2_with fail
    go_ret2
    exact ⟨ret2_s rfl, Below.refl _ _⟩
  · have hll : (L.map (Value.int .i64)).length = L.length := by simp
    rw [hll] at hv
    subst hv
    have HC := Lib.hid hc
    clear hc
    have t1 : decide ((1048576 : Int) < L.length) = false := decide_eq_false (by omega)
    go_enter Try.func20, Try.ntmps20
    go_wp2_with fail
    go_loopw [4, 14] (fun s4 i wr => ∃ k : Nat, k ≤ L.length ∧ i = .int .i64 k ∧ (∀ x ∈ L.take k, isPt x) ∧ (frms (L.take k)).length ≤ 4 * k ∧ wr.ownsRow w.heap.size 5 1 s4 (frms (L.take k)).length ((frms (L.take k)).map enc8) ∧ Below w.heap.size w wr) (fun _ i _ => L.length - (intOf i).toNat)
    case atStart => exact ⟨0, by omega, rfl, (fun x h => by simp at h), by simp [frms], World.ownsRow_nil w _ 5 1, Below.refl _ _⟩
    case round =>
      obtain ⟨k, hk, rfl, hgood, hfl, hown, hb⟩ := hrel
      rename_i s4
      have hH := Lib.hid hown
      replace hgood := Lib.hid hgood
      clear hown
      by_cases hlk : k < L.length
      · obtain ⟨x, hx⟩ : ∃ x, x = L[k] := ⟨_, rfl⟩
        have hcell : wr.cell? ⟨b, off + k, none⟩ = some (.int .i64 x) := by
          rw [hx, hb.cell (p := ⟨b, off + k, none⟩) hlt, HC.out k (by simpa using hlk)]; simp
        have hT := Lib.hid (take_snoc L k hlk)
        replace hx := Lib.hid hx
        have t2 : decide ((k : Int) < L.length) = true := decide_eq_true (by omega)
        by_cases hp : isPt x
        · have hpt := Lib.hid hp
          have hf4 := frm_len x
          clear hp
          go_wp2_with fail
          refine (append_any w.heap.size _ _ _ x hpt.out _ hH.out (by omega) hb.size).mono ?_; rintro e w2 ⟨⟨v2, rfl, ho2⟩, hb2, hs2⟩
          replace ho2 := Lib.hid ho2
          replace hb := hb.trans hb2
          go_wp2_with fail
          go_roundw
          case rel =>
            have e1 : frms (L.take (k + 1)) = frms (L.take k) ++ frm x := by rw [hT.out, frms_snoc, hx.out]
            refine ⟨k + 1, by omega, by go_num, ?_, by rw [e1]; simp; omega, by rw [e1, List.length_append, List.map_append]; exact ho2.out, hb⟩
            intro y hy
            rw [hT.out] at hy
            rcases List.mem_append.1 hy with hy | hy
            · exact hgood.out y hy
            · obtain rfl := List.mem_singleton.1 hy; rw [← hx.out]; exact hpt.out
          case measure => simp [intOf]; omega
        · have hpt := Lib.hid hp
          clear hp
          go_wp2_with fail
          refine (append_no _ x hpt.out _).mono ?_; rintro e w2 ⟨rfl, rfl⟩
          go_wp2_with fail
          go_ret2
          refine ⟨ret2_s ?_, hb⟩
          unfold txR
          rw [if_neg (fun h => hpt.out (by rw [hx.out]; exact h _ (List.getElem_mem hlk)))]
      · obtain rfl : k = L.length := by omega
        rw [List.take_length] at hH hgood
        have hcv := conv_owned (P := Try.prog) Try.underlying22 Try.underlying5 Try.underlying9 hH.out
        go_wp2_with fail
        go_ret2
        refine ⟨ret2_s ?_, hb⟩
        unfold txR
        rw [if_pos hgood.out]
end Go.Proofs.Ytkabkkgaalimmaa
