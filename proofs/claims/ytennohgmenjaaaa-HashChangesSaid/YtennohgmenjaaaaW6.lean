/- Contract of awake, the examples of the chapter. -/
import Derived.Test.YtennohgmenjaaaaW5
namespace Go.Proofs.Ytennohgmenjaaaa
open Go.RowKit Go.Shelf

theorem sum_nil (w : World) : Calls Try.prog 17 #[.string ⟨#[]⟩] w fun e w' => e = .returned (.int .u64 14695981039346656037) ∧ Below w.heap.size w w' :=
  (sum_any ⟨#[]⟩ (by decide) w).mono fun _ _ ⟨he, hb⟩ => ⟨he.trans (ret_u64 (by decide)), hb⟩
theorem sum_a (w : World) : Calls Try.prog 17 #[.string ⟨#[97]⟩] w fun e w' => e = .returned (.int .u64 12638187200555641996) ∧ Below w.heap.size w w' :=
  (sum_any ⟨#[97]⟩ (by decide) w).mono fun _ _ ⟨he, hb⟩ => ⟨he.trans (ret_u64 (by decide)), hb⟩
theorem sum_foo (w : World) : Calls Try.prog 17 #[.string ⟨#[102, 111, 111]⟩] w fun e w' => e = .returned (.int .u64 15902901984413996407) ∧ Below w.heap.size w w' :=
  (sum_any ⟨#[102, 111, 111]⟩ (by decide) w).mono fun _ _ ⟨he, hb⟩ => ⟨he.trans (ret_u64 (by decide)), hb⟩
theorem sum_foobar (w : World) : Calls Try.prog 17 #[.string ⟨#[102, 111, 111, 98, 97, 114]⟩] w fun e w' => e = .returned (.int .u64 9625390261332436968) ∧ Below w.heap.size w w' :=
  (sum_any ⟨#[102, 111, 111, 98, 97, 114]⟩ (by decide) w).mono fun _ _ ⟨he, hb⟩ => ⟨he.trans (ret_u64 (by decide)), hb⟩
theorem foo_lit : (15902901984413996407 : Int) = U 15902901984413996407#64 := by decide
theorem foobar_lit : (9625390261332436968 : Int) = U 9625390261332436968#64 := by decide
theorem add_foobar (w : World) : Calls Try.prog 15 #[.int .u64 15902901984413996407, .string ⟨#[98, 97, 114]⟩] w fun e w' => e = .returned (.int .u64 9625390261332436968) ∧ Below w.heap.size w w' := by
  rw [foo_lit]
  exact (add_any _ ⟨#[98, 97, 114]⟩ (by decide) w).mono fun _ _ ⟨he, hb⟩ => ⟨he.trans (ret_u64 (by decide)), hb⟩
theorem back_foobar (w : World) : Calls Try.prog 16 #[.int .u64 9625390261332436968, .string ⟨#[98, 97, 114]⟩] w fun e w' => e = .returned (.int .u64 15902901984413996407) ∧ Below w.heap.size w w' := by
  rw [foobar_lit]
  exact (back_any _ ⟨#[98, 97, 114]⟩ (by decide) w).mono fun _ _ ⟨he, hb⟩ => ⟨he.trans (ret_u64 (by decide)), hb⟩
theorem zeros_one (w : World) : Calls Try.prog 18 #[.int .u64 1, .int .i64 1] w fun e w' => e = .returned (.tuple #[.int .u64 1099511628211, .int .i64 0]) ∧ Below w.heap.size w w' := by
  have e1 : (1 : Int) = U 1#64 := by decide
  have := zeros_any 1#64 1 (by decide) w
  rw [← e1] at this
  exact this.mono fun _ _ ⟨he, hb⟩ => ⟨he.trans (ret2_u64 (by decide)), hb⟩
theorem last_a (w : World) : Calls Try.prog 19 #[.int .u64 14695981039346656037, .int .u64 12638187200555641996] w fun e w' => e = .returned (.tuple #[.int .u8 97, .int .i64 0]) ∧ w = w' := by
  have e1 : (14695981039346656037 : Int) = U offset := by decide
  have e2 : (12638187200555641996 : Int) = U 12638187200555641996#64 := by decide
  rw [e1, e2]
  exact last_some _ _ 97 (by show _ = _; decide) w
theorem text_255 (w : World) : Calls Try.prog 25 #[.int .u64 255] w fun e w' => e = .returned (.string ⟨#[48, 48, 48, 48, 48, 48, 48, 48, 48, 48, 48, 48, 48, 48, 102, 102]⟩) ∧ Below w.heap.size w w' := by
  have e1 : (255 : Int) = U 255#64 := by decide
  rw [e1]
  exact (text_any _ w).mono fun _ _ ⟨he, hb⟩ => ⟨he.trans (by rw [show text 255#64 = [48, 48, 48, 48, 48, 48, 48, 48, 48, 48, 48, 48, 48, 48, 102, 102] from by decide +kernel]), hb⟩

theorem on_trans {w a b : World} (h : Below w.heap.size w a) (k : Below a.heap.size a b) : Below w.heap.size w b := h.trans (k.mono h.size)

set_option maxRecDepth 100000 in
set_option maxHeartbeats 1000000 in
theorem awake_any (w : World) :
    Calls Try.prog 14 #[] w fun e w' => e = .returned (.bool true) ∧ Below w.heap.size w w' := by
  go_enter Try.func14, Try.ntmps14
  go_wp2_with fail
  refine (zeros_one _).mono ?_; rintro e w1 ⟨rfl, hb⟩
  go_wp2_with fail
  refine (modulo_any 100 7 (by decide) (by decide) (by decide) (by decide) _).mono ?_; rintro e w2 ⟨rfl, rfl⟩
  go_wp2_with fail
  refine (sum_a _).mono ?_; rintro e w2 ⟨rfl, h2⟩; replace hb := on_trans hb h2; clear h2
  go_wp2_with fail
  refine (last_a _).mono ?_; rintro e w2 ⟨rfl, rfl⟩
  go_wp2_with fail
  refine (sum_nil _).mono ?_; rintro e w2 ⟨rfl, h2⟩; replace hb := on_trans hb h2; clear h2
  go_wp2_with fail
  refine (sum_a _).mono ?_; rintro e w2 ⟨rfl, h2⟩; replace hb := on_trans hb h2; clear h2
  go_wp2_with fail
  refine (sum_foobar _).mono ?_; rintro e w2 ⟨rfl, h2⟩; replace hb := on_trans hb h2; clear h2
  go_wp2_with fail
  refine (sum_foo _).mono ?_; rintro e w2 ⟨rfl, h2⟩; replace hb := on_trans hb h2; clear h2
  go_wp2_with fail
  refine (add_foobar _).mono ?_; rintro e w2 ⟨rfl, h2⟩; replace hb := on_trans hb h2; clear h2
  go_wp2_with fail
  refine (sum_foobar _).mono ?_; rintro e w2 ⟨rfl, h2⟩; replace hb := on_trans hb h2; clear h2
  go_wp2_with fail
  refine (sum_foobar _).mono ?_; rintro e w2 ⟨rfl, h2⟩; replace hb := on_trans hb h2; clear h2
  go_wp2_with fail
  refine (back_foobar _).mono ?_; rintro e w2 ⟨rfl, h2⟩; replace hb := on_trans hb h2; clear h2
  go_wp2_with fail
  refine (sum_foo _).mono ?_; rintro e w2 ⟨rfl, h2⟩; replace hb := on_trans hb h2; clear h2
  go_wp2_with fail
  refine (text_255 _).mono ?_; rintro e w2 ⟨rfl, h2⟩; replace hb := on_trans hb h2; clear h2
  go_wp2_with fail
  go_ret
  exact ⟨rfl, hb⟩
end Go.Proofs.Ytennohgmenjaaaa
