/- special at a decimal. -/
import Derived.Test.YtaidemghhagniaaGreatDoorD7
import Derived.Test.YtaidemghhagniaaGreatDoorF15
import Derived.WalkMore
namespace Go.Proofs.YtaidemghhagniaaGreatDoor
open Go Go.RowKit
/-- A digit or a point: neither a letter nor a sign. -/
def dig (c : Nat) : Prop := 46 ≤ c ∧ c ≤ 57
theorem cp_any (t : ByteArray) (h : 0 < t.size) (hs : t.size ≤ 2000) (hc : dig (bt t 0).toNat) (w : World) : Calls Tryz.prog 145 #[.string t, .string ⟨#[105, 110, 102, 105, 110, 105, 116, 121]⟩] w fun e w' => e = .returned (.int .i64 0) ∧ w = w' := by
  obtain ⟨c, hcc, hB⟩ := bt_u t 0 h
  rw [hcc.out] at hc
  have v1 : decide ((65 : Int) ≤ (c.toNat : Int)) = false := by have := hc.2; exact decide_eq_false (by omega)
  have v1' : decide (65 ≤ c.toNat) = false := by have := hc.2; exact decide_eq_false (by omega)
  have v2 : ((c.toNat : Int) != (((⟨#[105, 110, 102, 105, 110, 105, 116, 121]⟩ : ByteArray)[0]'(by decide)).toNat : Int)) = true := by
    have := hc.2
    show ((c.toNat : Int) != 105) = true
    simp; omega
  obtain ⟨m, hm⟩ : ∃ m : Nat, Hid (m = min 8 t.size) := ⟨_, Lib.hid rfl⟩
  have hm1 : min (8 : Int) (t.size : Int) = (m : Int) := by rw [hm.out]; omega
  have hm0 : 0 < m := by rw [hm.out]; omega
  have hm0' : (0 : Int) < m := by omega
  clear hc hcc
  go_enter Tryz.func145, Tryz.ntmps145
  go_wp2_with fail
  go_loop [4, 6, 7] (fun s4 s6 s7 => s4 = .int .i64 0 ∧ s6 = .int .i64 0) (fun _ _ _ => 0)
  case atStart => exact ⟨rfl, rfl⟩
  case round =>
    obtain ⟨rfl, rfl⟩ := hrel
    go_wp2_with fail
    go_ret
    exact ⟨rfl, rfl⟩
theorem ext_list (s : ByteArray) (k : Nat) : (s.extract k s.size).data.toList = s.data.toList.drop k := by
  have h : s.data.size = s.size := rfl
  rw [ByteArray.data_extract, Array.toList_extract, List.extract_eq_take_drop, List.take_of_length_le]
  rw [List.length_drop, Array.length_toList]; omega
theorem bt_ext (s : ByteArray) (k i : Nat) : bt (s.extract k s.size) i = bt s (k + i) := by
  unfold bt; rw [ext_list]; simp [List.getD_eq_getElem?_getD, List.getElem?_drop]
theorem ext_size (s : ByteArray) (k : Nat) : (s.extract k s.size).size = s.size - k := by
  have : (s.extract k s.size).data.toList.length = (s.data.toList.drop k).length := by rw [ext_list]
  simp at this ⊢
set_option maxRecDepth 100000 in
theorem sp_any (s : ByteArray) (a : Nat) (ng : Bool) (h : a < s.size) (hs : s.size ≤ 2000) (S : (a = 0) ∨ (a = 1 ∧ ((ng = false ∧ bt s 0 = 43) ∨ (ng = true ∧ bt s 0 = 45)))) (hc : dig (bt s a).toNat) (w : World) : Calls Tryz.prog 130 #[.string s] w fun e w' => e = .returned (.tuple #[.float .f64 0, .int .i64 0, .bool false]) ∧ w = w' := by
  have h0 : 0 < s.size := by omega
  have tE : ¬ s = ByteArray.empty := fun e => by rw [e] at h0; exact absurd h0 (by decide)
  have t0 : ((s.size : Int) == 0) = false := by simp; omega
  obtain ⟨c, hcc, hB⟩ := bt_u s 0 h0
  rcases S with rfl | ⟨rfl, ⟨rfl, g⟩ | ⟨rfl, g⟩⟩
  · rw [hcc.out] at hc
    have v1 : ((c.toNat : Int) == 43) = false := by have := hc.1; simp; omega
    have v2 : ((c.toNat : Int) == 45) = false := by have := hc.1; simp; omega
    have v3 : ((c.toNat : Int) == 105) = false := by have := hc.2; simp; omega
    have v4 : ((c.toNat : Int) == 73) = false := by have := hc.2; simp; omega
    have v5 : ((c.toNat : Int) == 110) = false := by have := hc.2; simp; omega
    have v6 : ((c.toNat : Int) == 78) = false := by have := hc.2; simp; omega
    clear hc hcc
    go_enter Tryz.func130, Tryz.ntmps130
    go_wp2_with fail
    go_ret3
    exact ⟨rfl, rfl⟩
  · obtain rfl : c = 43 := hcc.out.symm.trans g
    rw [show (((43 : UInt8).toNat : Int)) = 43 from rfl] at hB
    clear hcc g
    have hcp := Lib.hid (cp_any (s.extract 1 s.size) (by rw [ext_size]; omega) (by rw [ext_size]; omega) (by rw [bt_ext]; exact hc) w)
    clear hc
    go_enter Tryz.func130, Tryz.ntmps130
    go_wp2_with fail
    refine hcp.out.mono ?_; rintro x w1 ⟨rfl, rfl⟩
    go_wp2_with fail
    go_ret3
    exact ⟨rfl, rfl⟩
  · obtain rfl : c = 45 := hcc.out.symm.trans g
    rw [show (((45 : UInt8).toNat : Int)) = 45 from rfl] at hB
    clear hcc g
    have hcp := Lib.hid (cp_any (s.extract 1 s.size) (by rw [ext_size]; omega) (by rw [ext_size]; omega) (by rw [bt_ext]; exact hc) w)
    clear hc
    go_enter Tryz.func130, Tryz.ntmps130
    go_wp2_with fail
    refine hcp.out.mono ?_; rintro x w1 ⟨rfl, rfl⟩
    go_wp2_with fail
    go_ret3
    exact ⟨rfl, rfl⟩
end Go.Proofs.YtaidemghhagniaaGreatDoor
