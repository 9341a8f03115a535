/- The contract of utf.Cut over the translation. -/
import Derived.Test.YtkabkkgaalimmaaV5
namespace Go.Proofs.Ytkabkkgaalimmaa
open Go.RowKit Go.Shelf
attribute [local go_sem] Oper.semAt_some

def lastAt (l : List (Int × Int)) (e : Int) : Int := l.foldl (fun _ x => x.1) e
def cutl : List (Int × Int) → Int → Int → Int
  | [], _, e => e
  | x :: r, n, e => if n < x.1 then e else cutl r n x.1
def cutE (s : ByteArray) (n : Int) : Int := cutl (pts s) n 0
theorem cutl_all : ∀ (pre r : List (Int × Int)) (n e : Int), (∀ x ∈ pre, x.1 ≤ n) → cutl (pre ++ r) n e = cutl r n (lastAt pre e)
  | [], _, _, _, _ => rfl
  | x :: pre, r, n, e, h => by
    have hx := h x (by simp)
    show (if n < x.1 then e else cutl (pre ++ r) n x.1) = cutl r n (lastAt pre x.1)
    rw [if_neg (by omega)]
    exact cutl_all pre r n x.1 (fun y hy => h y (by simp [hy]))
theorem lastAt_snoc (l : List (Int × Int)) (x : Int × Int) (e : Int) : lastAt (l ++ [x]) e = x.1 := by simp [lastAt]

theorem right_to (s : ByteArray) (hs : s.size ≤ 4611686018427387904) (e : Int) (h : rgt s = e) (w : World) :
    Calls Try.prog 42 #[.string s] w fun e' w' => e' = .returned (.int .i64 e) ∧ w = w' := by
  rw [← h]; exact right_any s hs w

/-- What the rounds keep. -/
def CutI (n : Int) (N : Nat) (w : World) (pre : List (Int × Int)) (W : World) : Prop :=
  (W.cell? ⟨N, 0, none⟩ = some (.int .i64 n) ∧ W.cell? ⟨N + 1, 0, none⟩ = some (.int .i64 (lastAt pre 0)) ∧ W.frozen? ⟨N + 1, 0, none⟩ = false ∧ ∀ x ∈ pre, x.1 ≤ n) ∧ Below w.heap.size w W

theorem cutI_own (n : Int) (N : Nat) (w : World) (B : Nat) (h : w.heap.size ≤ B) : OwnFrom B (CutI n N w) :=
  OwnFrom.and (Own.from (fun _ _ _ _ hs hg hr => ⟨cell_kept hs.1 hg hr, cell_kept hs.2.1 hg hr, (frozen_kept hs.2.1 hg hr).trans hs.2.2.1, hs.2.2.2⟩) _) (ownFrom_below (Nat.le_refl _) h)
theorem ptf_pos (s : ByteArray) : ∀ f k, ∀ x ∈ ptf s f k, 0 ≤ x.1
  | 0, k, x, h => by cases h
  | f + 1, k, x, h => by
    unfold ptf at h
    split at h
    · split at h
      · rcases List.mem_cons.1 h with rfl | h
        · exact Int.natCast_nonneg _
        · exact ptf_pos s f _ x h
      · cases h
    · cases h
theorem lastAt_bd (n : Int) : ∀ (p : List (Int × Int)) (e : Int), (∀ x ∈ p, 0 ≤ x.1 ∧ x.1 ≤ n) → 0 ≤ e → e ≤ n → 0 ≤ lastAt p e ∧ lastAt p e ≤ n
  | [], _, _, h0, h1 => ⟨h0, h1⟩
  | x :: p, _, h, _, _ => lastAt_bd n p x.1 (fun y hy => h y (List.mem_cons_of_mem _ hy)) (h x (List.mem_cons_self ..)).1 (h x (List.mem_cons_self ..)).2

set_option maxRecDepth 100000 in
set_option maxHeartbeats 1000000 in
theorem cut_in (s : ByteArray) (hs : s.size ≤ 1048576) (hck : rgt s = 0) (n : Int) (h0 : 0 ≤ n) (hlt : n < s.size) (w : World) :
    CallsIn Fence.wide 9 Try.prog 22 #[.string s, .int .i64 n] w fun e W' => (∃ x, x = cutE s n ∧ e = .returned (.tuple #[.string (s.extract 0 x.toNat), .int .i64 0])) ∧ Below w.heap.size w W' := by
  have hro : Fence.wide.round = none := rfl
  have h1 : 1 ≤ 9 := by omega
  have t1 : decide ((1048576 : Int) < s.size) = false := decide_eq_false (by omega)
  have t2 : decide (n < 0) = false := decide_eq_false (by omega)
  have t3 : decide ((s.size : Int) ≤ n) = false := decide_eq_false (by omega)
  refine callsIn_of_wp_marks Try.func22 rfl trivial ?_ hro
  simp only [Try.ntmps22, List.size_toArray, List.length_cons, List.length_nil, Nat.reduceAdd, Nat.reduceSub, Array.replicate_succ, Array.replicate_zero, List.push_toArray, List.append_toArray, List.nil_append, List.cons_append]
  gi_wp2_with (first | (refine ⟨trivial, ?_⟩; gi_at_call 42; refine (callsIn_wide.2 (right_to s (by omega) 0 hck _)).mono ?_; rintro e w' ⟨rfl, rfl⟩) | (refine ⟨trivial, ?_⟩; gi_at_call 43; refine (points_in 8 _ _).mono ?_; rintro e w' ⟨rfl, rfl⟩))
  have c0 := cell_mk w (.int .i64 n) 3
  have c1 := cell_mk (w.alloc (.cells #[.int .i64 n] 3)) (.int .i64 0) 3
  have c2 := cell_mk ((w.alloc (.cells #[.int .i64 n] 3)).alloc (.cells #[.int .i64 0] 3)) (.string s) 9
  simp only [World.size_alloc] at c1 c2
  have hB0 : Below w.heap.size w (((w.alloc (.cells #[.int .i64 n] 3)).alloc (.cells #[.int .i64 0] 3)).alloc (.cells #[.string s] 9)) := (((Below.refl _ w).alloc (Nat.le_refl _) _).alloc (by simp) _).alloc (by simp; omega) _
  refine wpIn_rangeFunc_ownF hro h1 (gf := 51) (lb := #[.pointer (some ⟨w.heap.size + 1 + 1, 0, none⟩)]) rfl trivial (enters_of Try.func51 (by kernel_rfl) rfl)
    (points_stops 8 (by omega) (w.heap.size + 1 + 1) s (by omega) _ (by simp) c2.1) (fun h k => h.trans k) (fun W l o o' _ h1 h2 _ => KeepsS.turn W l o o' h1 h2) (Below.refl _ _) (fun _ => rfl)
    (CutI n w.heap.size w)
    (fun c pre W => c = .exit 1 ∧ ∃ p x, pre = p ++ [x] ∧ n < x.1 ∧ CutI n w.heap.size w p W)
    (cutI_own n _ w _ (by simp; omega))
    (fun c s' W W' row hs hg hr => ⟨hs.1, by
      obtain ⟨p, x, e1, e2, e3⟩ := hs.2
      exact ⟨p, x, e1, e2, cutI_own n w.heap.size w _ (by simp; omega) p W W' row e3 hg hr⟩⟩)
    ⟨⟨cell_on _ (cell_on _ c0.1), cell_on _ c1.1, frozen_on _ c1.1 c1.2, fun x h => by cases h⟩, hB0⟩
    (fun x => { tmps := #[.string s, .int .i64 n, undef, .pointer (some ⟨w.heap.size, 0, none⟩), .string { data := #[] }, .int .i64 0, .int .i64 0, .pointer (some ⟨w.heap.size + 1, 0, none⟩), .int .i64 x.1, .string s, .int .i64 0, .bool false, .string s, .int .i64 s.size, .bool false, .bool false, .int .i64 n, .bool false, .bool false, .int .i64 0, .bool false, undef, .bool false, .int .i64 n, .string s, .int .i64 s.size, .bool false, undef, .string s, .func (.func 51) #[] #[.pointer (some ⟨w.heap.size + 1 + 1, 0, none⟩)], .int .i64 x.1, .int .i64 x.2, undef, undef, undef, undef, undef, undef, undef], defers := [] }) ?assign ?body ?done ?stop
  case assign =>
    intro l x W K hK
    gi_wp2
    exact hK
  case body =>
    rintro l pre x W ⟨⟨hc, hcE, hf, hall⟩, hB⟩ _
    replace hall := Lib.hid hall
    by_cases hx : n < x.1
    · have q1 : decide (n < x.1) = true := decide_eq_true hx
      gi_wp2
      exact ⟨KeepsOthers.refl _, rfl, pre, x, rfl, hx, ⟨hc, hcE, hf, hall.out⟩, hB⟩
    · have q1 : decide (n < x.1) = false := decide_eq_false hx
      gi_wp2
      refine ⟨KeepsOthers.setCell _ _ _, KeepsS.set _ _ _ (by omega), ⟨cell_other (by omega) hc, ?_, by rw [World.frozen?_setCell]; exact hf, ?_⟩, hB.setCell (p := ⟨w.heap.size + 1, 0, none⟩) (by simp) _⟩
      · rw [lastAt_snoc]; exact World.cell?_setCell_same' _ _ _ (by rw [hcE]; rfl)
      · intro y hy
        rcases List.mem_append.1 hy with hy | hy
        · exact hall.out y hy
        · obtain rfl := List.mem_singleton.1 hy; omega
  case done =>
    rintro D ys W hD rfl ⟨⟨hc, hcE, _, hall⟩, hB⟩ hK
    have he : lastAt (pts s) 0 = cutE s n := by
      have := cutl_all (pts s) [] n 0 hall
      rw [List.append_nil] at this
      exact this.symm
    rw [he] at hcE
    have hbd := lastAt_bd n (pts s) 0 (fun x hx => ⟨ptf_pos s _ _ x hx, hall x hx⟩) (by omega) h0
    obtain ⟨b0, b1⟩ := hbd
    rw [he] at b0 b1
    obtain ⟨m, hm⟩ := Int.eq_ofNat_of_zero_le b0
    rw [hm] at hcE b1
    have hmn : m ≤ s.size := by omega
    have hex : (s.extract 0 m) = s.extract 0 (cutE s n).toNat := by rw [hm]; rfl
    replace hex := Lib.hid hex
    clear hall he
    replace hm := Lib.hid hm
    gi_wp2
    refine ⟨by simp, .inl ⟨_, _, rfl, run_takeDeferred hK, ?_⟩⟩
    exact ⟨_, results_tmp2 rfl _ _ _, ⟨_, rfl, by rw [← hex.out]; rfl⟩, hB.trans (belowK_b (w := w) (Nat.le_refl _) W D _ _ (by simp at hD; omega) hK rfl rfl)⟩
  case stop =>
    rintro D c pre W hD ⟨more, hmore⟩ ⟨rfl, p, x, rfl, hx, ⟨hc, hcE, _, hall⟩, hB⟩ hK
    have he : lastAt p 0 = cutE s n := by
      unfold cutE
      rw [hmore, List.append_assoc, cutl_all p _ n 0 hall]
      show _ = if n < x.1 then _ else _
      rw [if_pos hx]
    rw [he] at hcE
    have hbd := lastAt_bd n p 0 (fun y hy => ⟨ptf_pos s _ _ y (show y ∈ pts s by rw [hmore]; simp [hy]), hall y hy⟩) (by omega) h0
    obtain ⟨b0, b1⟩ := hbd
    rw [he] at b0 b1
    obtain ⟨m, hm⟩ := Int.eq_ofNat_of_zero_le b0
    rw [hm] at hcE b1
    have hmn : m ≤ s.size := by omega
    have hex : (s.extract 0 m) = s.extract 0 (cutE s n).toNat := by rw [hm]; rfl
    replace hex := Lib.hid hex
    clear hall he
    replace hm := Lib.hid hm
    gi_wp2
    refine ⟨by simp, .inl ⟨_, _, rfl, run_takeDeferred hK, ?_⟩⟩
    exact ⟨_, results_tmp2 rfl _ _ _, ⟨_, rfl, by rw [← hex.out]; rfl⟩, hB.trans (belowK_b (w := w) (Nat.le_refl _) W D _ _ (by simp at hD; omega) hK rfl rfl)⟩

theorem cut_mid (s : ByteArray) (hs : s.size ≤ 1048576) (hck : rgt s = 0) (n : Int) (h0 : 0 ≤ n) (hlt : n < s.size) (w : World) :
    Calls Try.prog 22 #[.string s, .int .i64 n] w fun e W' => e = .returned (.tuple #[.string (s.extract 0 (cutE s n).toNat), .int .i64 0]) ∧ Below w.heap.size w W' :=
  (callsIn_wide.1 (cut_in s hs hck n h0 hlt w)).mono fun e W' ⟨⟨x, hx, he⟩, hb⟩ => ⟨by rw [he, hx], hb⟩
end Go.Proofs.Ytkabkkgaalimmaa
