/- The examples; awake. -/
import Derived.Test.YtiapkindbbbdpaaGreatDoorK16
import Derived.Carry
import Derived.Deep.CutRange
import Derived.Deep.DeepCutAuto
namespace Go.Proofs.YtiapkindbbbdpaaGreatDoor
open Go.RowKit

theorem WRow.put {W : World} {v : Value} {ws : List Wd} {bm : Nat} {o o2 : Obj} (h : WRow W v ws) (hb : W.heap[bm]? = some o) (hc : o.isCells = false) : WRow (W.putObj bm o2) v ws := by
  rcases h with h | ⟨b, off, cap, h1, h2, h3, h4, h5⟩
  · exact .inl h
  · refine .inr ⟨b, off, cap, h1, by simpa using h2, h3, h4, fun i hi => ?_⟩
    have key : ∀ (j : Nat) (u : Value), W.cell? ⟨b, j, none⟩ = some u → (W.putObj bm o2).cell? ⟨b, j, none⟩ = some u := fun j u hu => by
      have hne : b ≠ bm := by
        rintro rfl
        unfold World.cell? at hu
        rw [show W.heap[(⟨b, j, none⟩ : Addr).block]? = some o from hb] at hu
        cases o <;> simp at hu hc
        cases hc
      exact (World.cell?_of_block (w := W) (World.putObj_heap_other hne)).trans hu
    exact ⟨key _ _ (h5 i hi).1, key _ _ (h5 i hi).2⟩
/-- An entry of the first table. -/
def GoodE (W : World) (e : MapEntry) : Prop := ∃ (s : ByteArray) (ws : List Wd), e.key = .string s ∧ WRow W e.val ws ∧ splitF s.data.toList = (0, ws)
/-- The table while it is made. -/
def MapI (w : World) (es : Array MapEntry) (c : Nat) (W : World) : Prop := W.heap[w.heap.size]? = some (.map es c) ∧ (∀ e ∈ es.toList, GoodE W e) ∧ Below w.heap.size w W
theorem mapI_new (w : World) : MapI w #[] 0 (w.alloc (.map #[] 0)) := ⟨World.alloc_heap_new _ _, fun e he => by simp at he, (Below.refl _ _).alloc (Nat.le_refl _) _⟩
theorem wrow_lit (W : World) (ws : List Wd) (n : Nat) (hn : ws.length = n) (hm : n ≤ 1000) : WRow (W.alloc (.cells (wcells ws).toArray 29)) (.slice (some ⟨W.heap.size, 0, none⟩) n n) ws := by
  subst hn
  refine .inr ⟨W.heap.size, 0, ws.length, rfl, by simp, Nat.le_refl _, by unfold maxLen; omega, fun i hi => ?_⟩
  have := wcells_at ws i hi
  rw [Nat.zero_add, Lib.cell_of_heap (World.alloc_heap_new _ _), Lib.cell_of_heap (World.alloc_heap_new _ _)]
  simpa using this
theorem mapI_add {w W : World} {es : Array MapEntry} {c : Nat} (h : MapI w es c W) (s : ByteArray) (ws : List Wd) (n : Nat) (hn : ws.length = n) (hm : n ≤ 1000) (hs : splitF s.data.toList = (0, ws)) (C : Array Value) (hC : C = (wcells ws).toArray) :
    MapI w (es.push { key := .string s, val := .slice (some ⟨W.heap.size, 0, none⟩) n n, born := c }) (c + 1) ((W.alloc (.cells C 29)).putObj w.heap.size (.map (es.push { key := .string s, val := .slice (some ⟨W.heap.size, 0, none⟩) n n, born := c }) (c + 1))) := by
  subst hC
  obtain ⟨h1, h2, h3⟩ := h
  have hlt : w.heap.size < W.heap.size := (Array.getElem?_eq_some_iff.1 h1).1
  have hb : (W.alloc (.cells (wcells ws).toArray 29)).heap[w.heap.size]? = some (.map es c) := (Lib.alloc_old W _ _ hlt).trans h1
  refine ⟨World.putObj_heap_same (by simp; omega), fun e he => ?_, ?_⟩
  · rw [Array.toList_push, List.mem_append] at he
    rcases he with he | he
    · obtain ⟨s', ws', g1, g2, g3⟩ := h2 e he
      exact ⟨s', ws', g1, (g2.on ((Below.refl _ _).alloc (Nat.le_refl _) _)).put hb rfl, g3⟩
    · simp at he
      subst he
      exact ⟨s, ws, rfl, (wrow_lit W ws n hn hm).put hb rfl, hs⟩
  · refine (h3.alloc h3.size _).trans ⟨rfl, rfl, rfl, by simp, fun k hk => World.putObj_heap_other (by omega)⟩
theorem ex_1 : splitF [106, 111, 98, 32, 32, 119, 101, 98, 32, 35, 32, 120] = (0, [([106, 111, 98], false), ([119, 101, 98], false)]) := by decide +kernel
theorem ex_2 : splitF [97, 32, 34, 98, 32, 99, 34, 35, 100] = (0, [([97], false), ([98, 32, 99], true)]) := by decide +kernel
theorem ex_3 : splitF [34, 34] = (0, [([], true)]) := by decide +kernel
theorem ex_4 : splitF [34, 120, 34, 121] = (252, []) := by decide +kernel
theorem ex_5 : splitF [34, 120] = (251, []) := by decide +kernel
theorem ex_6 : splitF [97, 34, 98, 34] = (250, []) := by decide +kernel
theorem ex_7 : numF [49, 55] 1 20 = (17, 0) := by decide +kernel
theorem ex_8 : numF [48, 49, 55] 1 20 = (0, 2) := by decide +kernel
theorem ex_9 : numF [50, 49] 1 20 = (0, 6) := by decide +kernel
theorem ex_10 : parseF [35, 32, 120, 10, 10, 106, 111, 98, 32, 119] = (0, 0, [(3, [([106, 111, 98], false), ([119], false)])]) := by kernel_rfl
theorem ex_11 : bareF ⟨#[97, 32, 98]⟩ = false := by decide +kernel
theorem mapI_run {w W : World} {es : Array MapEntry} {c : Nat} (h : MapI w es c W) (s : ByteArray) (v : Value) (o : Obj) (hf : Instr.findNow .string (.string s) es.toList 0 = some none) :
    (Instr.mapUpdate 57 (.map (some w.heap.size)) (.string s) v).run Tryz.prog (W.alloc o) = .ok () ((W.alloc o).putObj w.heap.size (.map (es.push { key := .string s, val := v, born := c }) (c + 1))) :=
  mu_new _ 57 9 30 _ es c Tryz.underlying57 Tryz.underlying9 ((Lib.alloc_old W _ _ (Array.getElem?_eq_some_iff.1 h.1).1).trans h.1) s v hf
/-- What the rounds of the first loop keep: the iterator lies in block r. -/
def RngI (w : World) (r bm : Nat) (es : Array MapEntry) (clock g : Nat) (Good : World → MapEntry → Prop) (W : World) : Prop :=
  (∃ seen c0, W.heap[r]? = some (.mapIter (some bm) clock seen c0) ∧ clock ≤ c0 ∧ (leftOf es seen).size = g) ∧ W.heap[bm]? = some (.map es clock) ∧ (∀ e ∈ es.toList, Good W e) ∧ Below w.heap.size w W
theorem GoodE.on {W W' : World} {e : MapEntry} (h : GoodE W e) (hb : Below W.heap.size W W') : GoodE W' e := by
  obtain ⟨s, ws, g1, g2, g3⟩ := h
  exact ⟨s, ws, g1, g2.on hb, g3⟩
theorem GoodE.put {W : World} {e : MapEntry} {r : Nat} {o o2 : Obj} (h : GoodE W e) (hb : W.heap[r]? = some o) (hc : o.isCells = false) : GoodE (W.putObj r o2) e := by
  obtain ⟨s, ws, g1, g2, g3⟩ := h
  exact ⟨s, ws, g1, g2.put hb hc, g3⟩
theorem rng_new {w W : World} {bm clock n : Nat} {es : Array MapEntry} {Good : World → MapEntry → Prop} (hb : W.heap[bm]? = some (.map es clock)) (hg : ∀ e ∈ es.toList, Good W e) (hon : ∀ e W', Good W e → Below W.heap.size W W' → Good W' e) (hB : Below w.heap.size w W) (hn : (leftOf es #[]).size = n) : RngI w W.heap.size bm es clock n Good (W.alloc (.mapIter (some bm) clock #[] clock)) :=
  ⟨⟨#[], clock, World.alloc_heap_new _ _, Nat.le_refl _, hn⟩, (Lib.alloc_old W _ _ (Array.getElem?_eq_some_iff.1 hb).1).trans hb, fun e he => hon e _ (hg e he) ((Below.refl _ _).alloc (Nat.le_refl _) _), hB.alloc hB.size _⟩
theorem rng_next {w W w1 : World} {r bm clock g : Nat} {seen : Array Nat} {c0 : Nat} {es : Array MapEntry} {Good : World → MapEntry → Prop} {e : MapEntry} (hput : ∀ x W o o2, Good W x → W.heap[r]? = some o → o.isCells = false → Good (W.putObj r o2) x) (hd : ∀ x (W : World), Good W x → Good W.drew x) (hw : w.heap.size ≤ r) (hne : bm ≠ r)
    (hr : W.heap[r]? = some (.mapIter (some bm) clock seen c0)) (hb : W.heap[bm]? = some (.map es clock)) (hg : ∀ e ∈ es.toList, Good W e) (hB : Below w.heap.size w W) (hn : (leftOf es seen).size = g) (he : e ∈ (leftOf es seen).toList) (hw1 : w1 = W ∨ w1 = W.drew) :
    (∃ g', g' < g ∧ RngI w r bm es clock g' Good (w1.putObj r (.mapIter (some bm) clock (seen.push e.born) clock))) ∧ (w1.putObj r (.mapIter (some bm) clock (seen.push e.born) clock)).heap[r]? = some (.mapIter (some bm) clock (seen.push e.born) clock) := by
  have hlt : r < W.heap.size := (Array.getElem?_eq_some_iff.1 hr).1
  have hr1 : w1.heap[r]? = some (.mapIter (some bm) clock seen c0) := by rcases hw1 with rfl | rfl <;> exact hr
  have hb1 : w1.heap[bm]? = some (.map es clock) := by rcases hw1 with rfl | rfl <;> exact hb
  have hg1 : ∀ x ∈ es.toList, Good w1 x := by
    rcases hw1 with rfl | rfl
    · exact hg
    · exact fun x hx => hd x _ (hg x hx)
  have hB1 : Below w.heap.size w w1 := by
    rcases hw1 with rfl | rfl
    · exact hB
    · exact hB.drew
  have h2 : (w1.putObj r (.mapIter (some bm) clock (seen.push e.born) clock)).heap[r]? = some (.mapIter (some bm) clock (seen.push e.born) clock) := World.putObj_heap_same (Array.getElem?_eq_some_iff.1 hr1).1
  exact ⟨⟨_, by rw [← hn]; exact left_shrinks es seen e he, ⟨_, clock, h2, Nat.le_refl _, rfl⟩, (World.putObj_heap_other hne).trans hb1, fun x hx => hput x _ _ _ (hg1 x hx) hr1 rfl, hB1.trans ⟨rfl, rfl, rfl, by simp, fun k hk => World.putObj_heap_other (by have := hB1.size; omega)⟩⟩, h2⟩
theorem rng_on {w W W' : World} {r bm clock g : Nat} {es : Array MapEntry} {Good : World → MapEntry → Prop} (hon : ∀ x W W', Good W x → Below W.heap.size W W' → Good W' x) (h : RngI w r bm es clock g Good W) (hb : Below W.heap.size W W') : RngI w r bm es clock g Good W' := by
  obtain ⟨⟨seen, c0, h1, h2, h3⟩, h4, h5, h6⟩ := h
  exact ⟨⟨seen, c0, (hb.block r (Array.getElem?_eq_some_iff.1 h1).1).trans h1, h2, h3⟩, (hb.block bm (Array.getElem?_eq_some_iff.1 h4).1).trans h4, fun e he => hon e _ _ (h5 e he) hb, h6.trans (hb.mono h6.size)⟩
theorem lcells_at : ∀ (A : List Ln) (i : Nat) (h : i < A.length), (lcells A)[i * 2]? = some (.int .i64 A[i].1) ∧ (lcells A)[i * 2 + 1]? = some A[i].2.2
  | [], i, h => by simp at h
  | p :: A, 0, h => ⟨rfl, rfl⟩
  | p :: A, i + 1, h => by
    have := lcells_at A i (by simpa using h)
    rw [show (i + 1) * 2 = i * 2 + 2 by omega]
    exact this
theorem LRow.shape {W : World} {v : Value} {ls : List (Nat × List Wd)} (h : LRow W v ls) : ∃ a c, v = .slice a ls.length c := by
  obtain ⟨B, A, rfl, _, h3⟩ := h
  obtain ⟨a, c, hv⟩ := own_shape h3
  exact ⟨a, c, by rw [hv, ofA, List.length_map]⟩
theorem LRow.at' {W : World} {a : Option Addr} {n c : Nat} {ls : List (Nat × List Wd)} (h : LRow W (.slice a n c) ls) (i : Nat) (hi : i < ls.length) :
    ∃ g vi, a = some ⟨g, 0, none⟩ ∧ W.cell? ⟨g, i * 2, none⟩ = some (.int .i64 (ls[i]).1) ∧ W.cell? ⟨g, i * 2 + 1, none⟩ = some vi ∧ WRow W vi (ls[i]).2 ∧ ∃ a2 c2, vi = .slice a2 (ls[i]).2.length c2 := by
  obtain ⟨B, A, rfl, h2, h3⟩ := h
  have hiA : i < A.length := by simpa [ofA] using hi
  have hel : (ofA A)[i] = (A[i].1, A[i].2.1) := by simp [ofA]
  rcases h3.2 with ⟨h4, h5⟩ | ⟨g, cap, cur, h4, h5, h6, h7, h8, h9, h10⟩
  · omega
  · cases h4
    have hc : ∀ j, j < A.length * 2 → W.cell? ⟨g, j, none⟩ = (lcells A)[j]? := fun j hj => by
      rw [Lib.cell_of_heap h6, ← h10, List.getElem?_take_of_lt hj]
      simp
    have h11 := lcells_at A i hiA
    have hw := h2 A[i] (List.getElem_mem hiA)
    refine ⟨g, A[i].2.2, rfl, by rw [hc _ (by omega), hel]; exact h11.1, by rw [hc _ (by omega)]; exact h11.2, by rw [hel]; exact WRow.of_owned hw, ?_⟩
    obtain ⟨a2, c2, hv⟩ := own_shape hw
    exact ⟨a2, c2, by rw [hel]; exact hv⟩
theorem fld31 (s : ByteArray) (b : Bool) (w : World) : (Instr.field 29 (.agg #[.string s, .bool b]) 1).run Tryz.prog w = .ok (.bool b) w := by kernel_rfl
/-- An entry of the second table. -/
def GoodF (_W : World) (e : MapEntry) : Prop := ∃ (s : ByteArray) (n : Int), e.key = .string s ∧ e.val = .int .i64 n ∧ splitF s.data.toList = (n, [])
def MapF (w : World) (bm : Nat) (es : Array MapEntry) (c : Nat) (W : World) : Prop := W.heap[bm]? = some (.map es c) ∧ (∀ e ∈ es.toList, GoodF W e) ∧ Below w.heap.size w W
theorem mapF_add {w W : World} {bm : Nat} {es : Array MapEntry} {c : Nat} (h : MapF w bm es c W) (hw : w.heap.size ≤ bm) (s : ByteArray) (n : Int) (hs : splitF s.data.toList = (n, [])) :
    MapF w bm (es.push { key := .string s, val := .int .i64 n, born := c }) (c + 1) (W.putObj bm (.map (es.push { key := .string s, val := .int .i64 n, born := c }) (c + 1))) := by
  obtain ⟨h1, h2, h3⟩ := h
  refine ⟨World.putObj_heap_same (Array.getElem?_eq_some_iff.1 h1).1, fun e he => ?_, h3.trans ⟨rfl, rfl, rfl, by simp, fun k hk => World.putObj_heap_other (by omega)⟩⟩
  rw [Array.toList_push, List.mem_append] at he
  rcases he with he | he
  · exact h2 e he
  · simp at he
    subst he
    exact ⟨s, n, rfl, rfl, hs⟩
theorem mapF_run {w W : World} {bm : Nat} {es : Array MapEntry} {c : Nat} (h : MapF w bm es c W) (s : ByteArray) (v : Value) (hf : Instr.findNow .string (.string s) es.toList 0 = some none) :
    (Instr.mapUpdate 58 (.map (some bm)) (.string s) v).run Tryz.prog W = .ok () (W.putObj bm (.map (es.push { key := .string s, val := v, born := c }) (c + 1))) :=
  mu_new _ 58 9 34 _ es c Tryz.underlying58 Tryz.underlying9 h.1 s v hf
set_option maxRecDepth 100000 in
set_option maxHeartbeats 2000000 in
theorem awake_any (w : World) (hG : Glb w) : Calls Tryz.prog 6 #[] w fun e w' => e = .returned (.bool true) ∧ Below w.heap.size w w' := by
  replace hG := Lib.hid (fun (W : World) (h : Below w.heap.size w W) => hG.on h)
  go_enter Tryz.func6, Tryz.ntmps6
  go_upto_block 0 with (fail)
  rw [run_makeMap]
  have I0 := Lib.hid (mapI_new w)
  generalize w.alloc (.map #[] 0) = W0 at I0 ⊢
  simp only [Result.andThen]
  go_upto_block 0 with (fail)
  rw [mapI_run I0.out _ _ _ rfl]
  have I1 := Lib.hid (mapI_add I0.out ⟨#[106, 111, 98, 32, 32, 119, 101, 98, 32, 35, 32, 120]⟩ [([106, 111, 98], false), ([119, 101, 98], false)] 2 rfl (by omega) ex_1 #[.string ⟨#[106, 111, 98]⟩, .bool false, .string ⟨#[119, 101, 98]⟩, .bool false] rfl)
  generalize ((W0.alloc (.cells #[.string ⟨#[106, 111, 98]⟩, .bool false, .string ⟨#[119, 101, 98]⟩, .bool false] 29)).putObj w.heap.size _) = W1 at I1 ⊢
  clear I0
  simp only [Result.andThen]
  go_upto_block 0 with (fail)
  rw [mapI_run I1.out _ _ _ rfl]
  have I2 := Lib.hid (mapI_add I1.out ⟨#[97, 32, 34, 98, 32, 99, 34, 35, 100]⟩ [([97], false), ([98, 32, 99], true)] 2 rfl (by omega) ex_2 #[.string ⟨#[97]⟩, .bool false, .string ⟨#[98, 32, 99]⟩, .bool true] rfl)
  generalize ((W1.alloc (.cells #[.string ⟨#[97]⟩, .bool false, .string ⟨#[98, 32, 99]⟩, .bool true] 29)).putObj w.heap.size _) = W2 at I2 ⊢
  clear I1
  simp only [Result.andThen]
  go_upto_block 0 with (fail)
  rw [mapI_run I2.out _ _ _ rfl]
  have I3 := Lib.hid (mapI_add I2.out ⟨#[34, 34]⟩ [([], true)] 1 rfl (by omega) ex_3 #[.string ⟨#[]⟩, .bool true] rfl)
  generalize ((W2.alloc (.cells #[.string ⟨#[]⟩, .bool true] 29)).putObj w.heap.size _) = W3 at I3 ⊢
  clear I2
  simp only [Result.andThen]
  go_upto_block 0 with (fail)
  obtain ⟨es, hes⟩ : ∃ es : Array MapEntry, Hid (((#[].push { key := .string ⟨#[106, 111, 98, 32, 32, 119, 101, 98, 32, 35, 32, 120]⟩, val := .slice (some ⟨W0.heap.size, 0, none⟩) 2 2, born := 0 }).push { key := .string ⟨#[97, 32, 34, 98, 32, 99, 34, 35, 100]⟩, val := .slice (some ⟨W1.heap.size, 0, none⟩) 2 2, born := 0 + 1 }).push { key := .string ⟨#[34, 34]⟩, val := .slice (some ⟨W2.heap.size, 0, none⟩) 1 1, born := 0 + 1 + 1 } = es) := ⟨_, Lib.hid rfl⟩
  have hold : Hid (∀ x ∈ es.toList, x.born < 3) := by rw [← hes.out]; intro x hx; simp at hx; rcases hx with rfl | rfl | rfl <;> simp
  have hnd : Hid ((es.toList.map (·.born)).Nodup) := by rw [← hes.out]; show List.Nodup _; simp
  have hlf : Hid ((leftOf es #[]).size = 3) := by rw [← hes.out]; show (leftOf _ #[]).size = 3; simp [leftOf]
  rw [hes.out] at I3
  clear hes
  rw [run_range_map W3 57 9 30 w.heap.size es 3 Tryz.underlying57 I3.out.1]
  have J := Lib.hid (rng_new I3.out.1 I3.out.2.1 (fun e W' h hb => GoodE.on h hb) I3.out.2.2 hlf.out)
  have hr0 : w.heap.size < W3.heap.size := (Array.getElem?_eq_some_iff.1 I3.out.1).1
  generalize W3.alloc (.mapIter (some w.heap.size) 3 #[] 3) = W4 at J ⊢
  generalize W3.heap.size = r at J hr0 ⊢
  clear I3 hlf
  simp only [Result.andThen]
  go_upto_block 0 with (fail)
  go_cut [29] (fun _ wx => Hid (Below w.heap.size w wx))
  case first =>
    go_wp2_with fail
    go_loopg [29] 3 (fun g s29 wx => Hid (RngI w r w.heap.size es 3 g GoodE wx))
    case atStart => exact J
    case round =>
      clear J
      obtain ⟨⟨seen, c0, h1, h2, h3⟩, h4, h5, h6⟩ := hrel.out
      go_wp2_with fail
      rcases next_at (P := Tryz.prog) wr 0 r w.heap.size 3 c0 seen es h1 h4 hold.out h2 with ⟨h0, hrun⟩ | ⟨e, he, w1, hw1, hrun⟩
      · rw [hrun]
        simp only [Result.andThen]
        replace h6 := Lib.hid h6
        clear h1 h4 h5 hrel hrun
        go_wp2_with fail
        go_meet
        exact h6
      · rw [hrun]
        obtain ⟨⟨g', hg', J⟩, hit⟩ := rng_next (Good := GoodE) (fun x W o o2 h hb hc => GoodE.put h hb hc) (fun x W h => h.on ((Below.refl _ _).drew)) (Nat.le_of_lt hr0) (Nat.ne_of_lt hr0) h1 h4 h5 h6 h3 he hw1
        have hmem := (mem_left he).1
        clear hrel hrun h1 h4 h5 h6 h3 he hw1
        generalize w1.putObj r (.mapIter (some w.heap.size) 3 (seen.push e.born) 3) = W5 at J hit ⊢
        obtain ⟨s, ws, hk, hv, hsp⟩ := J.2.2.1 e hmem
        have hen := entry_at (P := Tryz.prog) W5 r w.heap.size 3 seen es e hit J.2.1 hmem hnd.out
        rw [hk] at hen ⊢
        generalize e.val = ev at hv hen ⊢
        replace hen := Lib.hid hen
        replace J := Lib.hid J
        replace hv := Lib.hid hv
        clear hit hk hmem
        simp only [Result.andThen]
        go_wp2_with fail
        rw [hen.out]
        simp only [Result.andThen]
        clear hen
        have hspl := split_any s W5
        rw [hsp] at hspl
        replace hspl := Lib.hid hspl
        clear hsp
        go_wp2_with fail
        refine hspl.out.mono ?_; rintro x w6 ⟨⟨v, rfl, hvv⟩, hb⟩
        replace J := Lib.hid (rng_on (Good := GoodE) (fun x W W' h hb => GoodE.on h hb) J.out hb)
        replace hv := Lib.hid (hv.out.on hb)
        have hsm := Lib.hid (same_any v ev ws ws w6 (WRow.of_owned hvv) hv.out)
        clear hspl hvv hb
        dsimp only
        go_wp2_with fail
        refine hsm.out.mono ?_; rintro x w7 ⟨rfl, hb⟩
        replace J := Lib.hid (rng_on (Good := GoodE) (fun x W W' h hb => GoodE.on h hb) J.out hb)
        clear hb hsm
        have td : decide (ws = ws) = true := decide_eq_true rfl
        go_wp2_with fail
        go_roundg g'
        case measure => omega
        case rel => exact J
  case rest =>
    replace hcut := hcut
    clear J hold hnd hr0
    go_upto_block 2 with (fail)
    rw [run_makeMap]
    have I0 : Hid (MapF w wc.heap.size #[] 0 (wc.alloc (.map #[] 0))) := ⟨World.alloc_heap_new _ _, fun e he => by simp at he, hcut.out.alloc hcut.out.size _⟩
    have hbm : w.heap.size ≤ wc.heap.size := hcut.out.size
    generalize wc.alloc (.map #[] 0) = V0 at I0 ⊢
    generalize wc.heap.size = bm at I0 hbm ⊢
    clear hcut
    simp only [Result.andThen]
    go_upto_block 2 with (fail)
    rw [mapF_run I0.out _ _ rfl]
    have I1 := Lib.hid (mapF_add I0.out hbm ⟨#[34, 120, 34, 121]⟩ 252 ex_4)
    generalize V0.putObj bm _ = V1 at I1 ⊢
    clear I0
    simp only [Result.andThen]
    go_upto_block 2 with (fail)
    rw [mapF_run I1.out _ _ rfl]
    have I2 := Lib.hid (mapF_add I1.out hbm ⟨#[34, 120]⟩ 251 ex_5)
    generalize V1.putObj bm _ = V2 at I2 ⊢
    clear I1
    simp only [Result.andThen]
    go_upto_block 2 with (fail)
    rw [mapF_run I2.out _ _ rfl]
    have I3 := Lib.hid (mapF_add I2.out hbm ⟨#[97, 34, 98, 34]⟩ 250 ex_6)
    generalize V2.putObj bm _ = V3 at I3 ⊢
    clear I2
    simp only [Result.andThen]
    go_upto_block 2 with (fail)
    obtain ⟨es2, hes⟩ : ∃ es : Array MapEntry, Hid (((#[].push { key := .string ⟨#[34, 120, 34, 121]⟩, val := .int .i64 252, born := 0 }).push { key := .string ⟨#[34, 120]⟩, val := .int .i64 251, born := 0 + 1 }).push { key := .string ⟨#[97, 34, 98, 34]⟩, val := .int .i64 250, born := 0 + 1 + 1 } = es) := ⟨_, Lib.hid rfl⟩
    have hold : Hid (∀ x ∈ es2.toList, x.born < 3) := by rw [← hes.out]; intro x hx; simp at hx; rcases hx with rfl | rfl | rfl <;> simp
    have hnd : Hid ((es2.toList.map (·.born)).Nodup) := by rw [← hes.out]; show List.Nodup _; simp
    have hlf : Hid ((leftOf es2 #[]).size = 3) := by rw [← hes.out]; show (leftOf _ #[]).size = 3; simp [leftOf]
    rw [hes.out] at I3
    clear hes
    rw [run_range_map V3 58 9 34 bm es2 3 Tryz.underlying58 I3.out.1]
    have J := Lib.hid (rng_new (Good := GoodF) I3.out.1 I3.out.2.1 (fun e W' h _ => h) I3.out.2.2 hlf.out)
    have hr0 : bm < V3.heap.size := (Array.getElem?_eq_some_iff.1 I3.out.1).1
    generalize V3.alloc (.mapIter (some bm) 3 #[] 3) = V4 at J ⊢
    generalize V3.heap.size = r2 at J hr0 ⊢
    clear I3 hlf
    simp only [Result.andThen]
    go_upto_block 2 with (fail)
    go_cut [50] (fun _ wx => Hid (Below w.heap.size w wx))
    case first =>
      go_wp2_with fail
      go_loopg [50] 3 (fun g s50 wx => Hid (RngI w r2 bm es2 3 g GoodF wx))
      case atStart => exact J
      case round =>
        clear J
        obtain ⟨⟨seen, c0, h1, h2, h3⟩, h4, h5, h6⟩ := hrel.out
        go_wp2_with fail
        rcases next_at (P := Tryz.prog) wr 0 r2 bm 3 c0 seen es2 h1 h4 hold.out h2 with ⟨h0, hrun⟩ | ⟨e, he, w1, hw1, hrun⟩
        · rw [hrun]
          simp only [Result.andThen]
          replace h6 := Lib.hid h6
          clear h1 h4 h5 hrel hrun
          go_wp2_with fail
          go_meet
          exact h6
        · rw [hrun]
          obtain ⟨⟨g', hg', J⟩, hit⟩ := rng_next (Good := GoodF) (fun x W o o2 h hb hc => h) (fun x W h => h) (by omega) (Nat.ne_of_lt hr0) h1 h4 h5 h6 h3 he hw1
          have hmem := (mem_left he).1
          clear hrel hrun h1 h4 h5 h6 h3 he hw1
          generalize w1.putObj r2 (.mapIter (some bm) 3 (seen.push e.born) 3) = W5 at J hit ⊢
          obtain ⟨s, n, hk, hv, hsp⟩ := J.2.2.1 e hmem
          have hen := entry_at (P := Tryz.prog) W5 r2 bm 3 seen es2 e hit J.2.1 hmem hnd.out
          rw [hk, hv] at hen ⊢
          replace hen := Lib.hid hen
          replace J := Lib.hid J
          clear hit hk hmem hv
          simp only [Result.andThen]
          go_wp2_with fail
          rw [hen.out]
          simp only [Result.andThen]
          clear hen
          have hspl := split_any s W5
          rw [hsp] at hspl
          replace hspl := Lib.hid hspl
          clear hsp
          go_wp2_with fail
          refine hspl.out.mono ?_; rintro x w6 ⟨⟨v, rfl, hvv⟩, hb⟩
          replace J := Lib.hid (rng_on (Good := GoodF) (fun x W W' h hb => h) J.out hb)
          clear hspl hvv hb
          dsimp only
          go_wp2_with fail
          go_roundg g'
          case measure => omega
          case rel => exact J
    case rest =>
      clear J hold hnd hr0 hbm
      have hO : Hid (bareF ⟨#[97, 32, 98]⟩ = false) := ex_11
      go_wp2_with fail
      refine (number_to ⟨#[49, 55]⟩ (by decide) 1 20 17 0 ex_7 wc (hG.out _ hcut.out)).mono ?_; rintro x w1 ⟨rfl, hb⟩
      have hB1 := Lib.hid (hcut.out.trans (hb.mono hcut.out.size))
      clear hb hcut
      go_wp2_with fail
      refine (number_to ⟨#[48, 49, 55]⟩ (by decide) 1 20 0 2 ex_8 w1 (hG.out _ hB1.out)).mono ?_; rintro x w2 ⟨rfl, hb⟩
      have hB2 := Lib.hid (hB1.out.trans (hb.mono hB1.out.size))
      clear hb hB1
      go_wp2_with fail
      refine (number_to ⟨#[50, 49]⟩ (by decide) 1 20 0 6 ex_9 w2 (hG.out _ hB2.out)).mono ?_; rintro x w3 ⟨rfl, hb⟩
      have hB3 := Lib.hid (hB2.out.trans (hb.mono hB2.out.size))
      clear hb hB2
      go_wp2_with fail
      refine (parse_to ⟨#[35, 32, 120, 10, 10, 106, 111, 98, 32, 119]⟩ 0 0 [(3, [([106, 111, 98], false), ([119], false)])] ex_10 w3 (hG.out _ hB3.out).1).mono ?_; rintro x w4 ⟨⟨v, rfl, hL⟩, hb⟩
      have hB4 := Lib.hid (hB3.out.trans (hb.mono hB3.out.size))
      clear hb hB3
      obtain ⟨av, cv, rfl⟩ := hL.shape
      obtain ⟨gl, vi, rfl, y0, y1, hwi, a2, c2, rfl⟩ := hL.at' 0 (by decide)
      have y0' : w4.cell? ⟨gl, 0, none⟩ = some (.int .i64 3) := y0
      have y1' : w4.cell? ⟨gl, 1, none⟩ = some (.slice a2 2 c2) := y1
      have hwi' : Hid (WRow w4 (.slice a2 2 c2) [([106, 111, 98], false), ([119], false)]) := hwi
      clear y0 y1 hwi hL
      dsimp only
      go_wp2_with fail
      have hlit := wrow_lit w4 [([106, 111, 98], false), ([119], false)] 2 rfl (by omega)
      have hal : Below w4.heap.size w4 (w4.alloc (.cells (wcells [([106, 111, 98], false), ([119], false)]).toArray 29)) := (Below.refl _ _).alloc (Nat.le_refl _) _
      have hsm := Lib.hid (same_any (.slice a2 2 c2) (.slice (some ⟨w4.heap.size, 0, none⟩) 2 2) _ _ _ (hwi'.out.on hal) hlit)
      refine hsm.out.mono ?_; rintro x w5 ⟨rfl, hb⟩
      have hB5 := Lib.hid (hB4.out.trans ((hal.trans (hb.mono (by simp))).mono hB4.out.size))
      clear hb hal hlit hsm y0' y1' hwi' hB4
      have td : decide (([(([106, 111, 98] : List UInt8), false), ([119], false)] : List Wd) = [([106, 111, 98], false), ([119], false)]) = true := decide_eq_true rfl
      go_wp2_with fail
      have hof := of_any ⟨#[97, 32, 98]⟩ (by decide) w5
      rw [hO.out] at hof
      refine hof.mono ?_; rintro x w6 ⟨rfl, hb⟩
      have hfl := fld31 ⟨#[97, 32, 98]⟩ true
      have hB6 := Lib.hid (hB5.out.trans (hb.mono hB5.out.size))
      clear hb hof hB5
      go_wp2_with fail
      go_ret
      exact ⟨rfl, hB6.out⟩
end Go.Proofs.YtiapkindbbbdpaaGreatDoor
