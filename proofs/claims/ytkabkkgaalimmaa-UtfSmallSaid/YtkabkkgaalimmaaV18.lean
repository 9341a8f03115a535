/- The contract of the reference Text. -/
import Derived.Test.YtkabkkgaalimmaaV17
namespace Go.Proofs.Ytkabkkgaalimmaa
open Go.RowKit Go.Shelf

/-- A row of the call's own is kept by what leaves the memory that there is alone. -/
theorem owns_on {W W' : World} {base e n : Nat} {v : Value} {xs : List Value} (h : W.ownsRow base e 1 v n xs) (hb : Below W.heap.size W W') : W'.ownsRow base e 1 v n xs := by
  refine ⟨h.1, ?_⟩
  rcases h.2 with h' | ⟨g, cap, cur, h1, h2, h3, h4⟩
  · exact .inl h'
  · exact .inr ⟨g, cap, cur, h1, h2, (hb.block g (Array.getElem?_eq_some_iff.1 h3).1).trans h3, h4⟩

set_option maxRecDepth 100000 in
set_option maxHeartbeats 1000000 in
theorem rtext_any (v : Value) (L : List Int) (w : World) (hL : Row w v (L.map (Value.int .i64))) (hlen : L.length ≤ 1048576) :
    Calls Try.prog 33 #[v] w fun e w' => e = .returned (.tuple #[.string (txR L).1, .int .i64 (txR L).2]) ∧ Below w.heap.size w w' := by
  rcases hL with ⟨a, c, hac, rfl, hnil⟩ | ⟨b, off, cap, hv, hlt, h1, h2, hc⟩
  · obtain rfl : L = [] := by simpa using hnil
    have hcv := run_convert_bytes_nil (P := Try.prog) w 22 5 Try.underlying22 Try.underlying5 0 0 9 Try.underlying9
    go_enter Try.func33, Try.ntmps33
    go_wp2_with fail
    refine wp_loop_rounds 1 ?_
    rw [rounds_succ]
    go_wp2_with fail
    go_ret2
    exact ⟨ret2_s rfl, Below.refl _ _⟩
  · have hll : (L.map (Value.int .i64)).length = L.length := by simp
    rw [hll] at hv
    subst hv
    have HC := Lib.hid hc
    clear hc
    have t1 : decide ((1048576 : Int) < L.length) = false := decide_eq_false (by omega)
    go_enter Try.func33, Try.ntmps33
    go_wp2_with fail
    go_loopw [4, 5] (fun s4 i wr => ∃ k : Nat, k ≤ L.length ∧ i = .int .i64 k ∧ (∀ x ∈ L.take k, isPt x) ∧ (frms (L.take k)).length ≤ 4 * k ∧ wr.ownsRow w.heap.size 5 1 s4 (frms (L.take k)).length ((frms (L.take k)).map enc8) ∧ Below w.heap.size w wr) (fun _ i _ => L.length - (intOf i).toNat)
    case atStart => exact ⟨0, by omega, rfl, (fun x h => by simp at h), by simp [frms], World.ownsRow_nil w _ 5 1, Below.refl _ _⟩
    case round =>
      obtain ⟨k, hk, rfl, hgood, hfl, hown, hb⟩ := hrel
      rename_i s4
      have hH := Lib.hid hown
      replace hgood := Lib.hid hgood
      clear hown
      by_cases hlk : k < L.length
      · obtain ⟨x, hx⟩ : ∃ x, x = L[k] := ⟨_, rfl⟩
        have hcell : wr.cell? ⟨b, off + k, none⟩ = some (.int .i64 x) := by
          rw [hx, hb.cell (p := ⟨b, off + k, none⟩) hlt, HC.out k (by simpa using hlk)]; simp
        have hT := Lib.hid (take_snoc L k hlk)
        replace hx := Lib.hid hx
        have t2 : decide ((k : Int) < L.length) = true := decide_eq_true (by omega)
        by_cases hp : isPt x
        · have hpt := Lib.hid hp
          have hf4 := frm_len x
          clear hp
          go_wp2_with fail
          refine (rpoint_yes x hpt.out _).mono ?_; rintro e w2 ⟨rfl, rfl⟩
          go_wp2_with fail
          refine (form_any x hpt.out _).mono ?_; rintro e w3 ⟨⟨v3, rfl, hr3⟩, hb3⟩
          have hr3' := Lib.hid hr3
          clear hr3
          have hH3 := Lib.hid (owns_on hH.out hb3)
          replace hb := on_trans hb hb3
          have hfm : ((frm x).map enc8).length ≤ 4 := by simpa using hf4
          go_wp2_with (at_builtin; go_must (refine app_all rfl (.tmp 21) (.tmp 26) 22 rfl w.heap.size 5 (.int .u8 0) 1 Try.underlying22 info5 rfl _ (frms (L.take k)).length ((frms (L.take k)).map enc8) rfl v3 ((frm x).map enc8) rfl hH3.out hr3'.out (one_of_map _) (by omega) (by omega) hb.size ?_); rintro v2 w2 hown2 hb2 _ _; have ho2 := Lib.hid hown2; clear hown2; rename_i hx1 hx2; clear hx1 hx2)
          replace hb := hb.trans hb2
          go_roundw
          case rel =>
            have e1 : frms (L.take (k + 1)) = frms (L.take k) ++ frm x := by rw [hT.out, frms_snoc, hx.out]
            refine ⟨k + 1, by omega, by go_num, ?_, by rw [e1]; simp; omega, by rw [e1, List.length_append, List.map_append]; simpa using ho2.out, hb⟩
            intro y hy
            rw [hT.out] at hy
            rcases List.mem_append.1 hy with hy | hy
            · exact hgood.out y hy
            · obtain rfl := List.mem_singleton.1 hy; rw [← hx.out]; exact hpt.out
          case measure => simp [intOf]; omega
        · have hpt := Lib.hid hp
          clear hp
          go_wp2_with fail
          refine (rpoint_no x hpt.out _).mono ?_; rintro e w2 ⟨rfl, rfl⟩
          go_wp2_with fail
          go_ret2
          refine ⟨ret2_s ?_, hb⟩
          unfold txR
          rw [if_neg (fun h => hpt.out (by rw [hx.out]; exact h _ (List.getElem_mem hlk)))]
      · obtain rfl : k = L.length := by omega
        rw [List.take_length] at hH hgood
        have hcv := conv_owned (P := Try.prog) Try.underlying22 Try.underlying5 Try.underlying9 hH.out
        go_wp2_with fail
        go_ret2
        refine ⟨ret2_s ?_, hb⟩
        unfold txR
        rw [if_pos hgood.out]
end Go.Proofs.Ytkabkkgaalimmaa
