/-
  Walks over the value package and its reference: Valid, Equal, Less, Fits.
-/
import Derived.Test.YtkldgehnioapcaaDoorW2
namespace Go.Proofs.YtkldgehnioapcaaDoor
open Go.RowKit
set_option maxHeartbeats 1000000
set_option maxRecDepth 100000

theorem empty_size {s : ByteArray} : (N s).isEmpty = decide (s.size = 0) := by
  rw [← N_len]
  cases N s <;> simp

theorem rprintable_any (s : ByteArray) (w : World) (hs : s.size ≤ 9223372036854775807) :
    Calls Tryd.prog 35 #[.string s] w fun e w' => e = .returned (.bool (prn (N s))) ∧ w = w' := by
  go_enter Tryd.func35, Tryd.ntmps35
  go_wp2
  go_loop [3] (fun i => ∃ k : Nat, k ≤ s.size ∧ i = .int .i64 k ∧ prn ((N s).take k) = true) (fun i => s.size - (intOf i).toNat)
  case atStart => exact ⟨0, Nat.zero_le _, rfl, rfl⟩
  case round =>
    obtain ⟨k, hk, rfl, hp⟩ := hrel
    have HP := hid hp
    clear hp
    by_cases hlt : k < s.size
    · go_wp2
      · go_ret
        exact ⟨ret_bool (prn_no s k hlt (by omega)).symm, rfl⟩
      · go_round
        case rel => exact ⟨k + 1, by omega, by go_num, prn_yes s k hlt HP.out (by omega) (by omega)⟩
        case measure => simp [intOf]; omega
      · go_ret
        exact ⟨ret_bool (prn_no s k hlt (by omega)).symm, rfl⟩
    · go_wp2
      go_ret
      obtain rfl : k = s.size := by omega
      exact ⟨ret_bool (by have := HP.out; rw [List.take_of_length_le (by rw [N_len]; exact Nat.le_refl _)] at this; exact this.symm), rfl⟩
theorem printable_any (s : ByteArray) (w : World) (hs : s.size ≤ 9223372036854775807) :
    Calls Tryd.prog 34 #[.string s] w fun e w' => e = .returned (.bool (prn (N s) && decide (s.size ≤ 16))) ∧ w = w' := by
  go_enter Tryd.func34, Tryd.ntmps34
  go_wp2_with fail
  go_loop [6] (fun i => ∃ k : Nat, k ≤ s.size ∧ i = .int .i64 k ∧ prn ((N s).take k) = true) (fun i => s.size - (intOf i).toNat)
  case atStart => exact ⟨0, Nat.zero_le _, rfl, rfl⟩
  case round =>
    obtain ⟨k, hk, rfl, hp⟩ := hrel
    have HP := hid hp
    clear hp
    by_cases hlt : k < s.size
    · go_wp2
      · go_ret
        exact ⟨ret_bool (by rw [prn_no s k hlt (by omega)]; rfl), rfl⟩
      · go_round
        case rel => exact ⟨k + 1, by omega, by go_num, prn_yes s k hlt HP.out (by omega) (by omega)⟩
        case measure => simp [intOf]; omega
      · go_ret
        exact ⟨ret_bool (by rw [prn_no s k hlt (by omega)]; rfl), rfl⟩
    · obtain rfl : k = s.size := by omega
      have hv : Hid (prn (N s) = true) := by
        have := HP.out
        rw [List.take_of_length_le (by rw [N_len]; exact Nat.le_refl _)] at this
        exact this
      go_wp2
      go_ret
      refine ⟨ret_bool ?_, rfl⟩
      rw [hv.out]
      first | grind | simp

def tr (b : Bool) : Int := if b then 1 else 0
theorem truth_any (b : Bool) (w : World) : Calls Tryd.prog 43 #[.bool b] w fun e w' => e = .returned (.int .i64 (tr b)) ∧ w = w' := by
  cases b
  all_goals
    go_enter Tryd.func43, Tryd.ntmps43
    go_wp2
    go_ret
    exact ⟨rfl, rfl⟩
theorem rtruth_any (b : Bool) (w : World) : Calls Tryd.prog 44 #[.bool b] w fun e w' => e = .returned (.int .i64 (tr b)) ∧ w = w' := by
  cases b
  all_goals
    go_enter Tryd.func44, Tryd.ntmps44
    go_wp2
    go_ret
    exact ⟨rfl, rfl⟩
theorem null_any (k1 n1 k2 n2 : Int) (t1 t2 : ByteArray) (w : World) :
    Calls Tryd.prog 42 #[.agg #[.int .i64 k1, .int .i64 n1, .string t1], .agg #[.int .i64 k2, .int .i64 n2, .string t2]] w fun e w' => e = .returned (.bool (k1 == 0 || k2 == 0)) ∧ Ext w w' := by
  go_enter Tryd.func42, Tryd.ntmps42
  go_wp2
  all_goals
    go_ret
    refine ⟨ret_bool ?_, ((Ext.refl w).alloc _).alloc _⟩
    first | grind | simp_all

theorem valid_any (k n : Int) (t : ByteArray) (w : World) (hs : t.size ≤ 9223372036854775807) :
    Calls Tryd.prog 13 #[.agg #[.int .i64 k, .int .i64 n, .string t]] w fun e w' => e = .returned (.bool (validV ⟨k, n, t⟩)) ∧ Ext w w' := by
  have HS := hid hs
  clear hs
  have HV : Hid (validV ⟨k, n, t⟩ = if k = 0 then decide (n = 0) && (N t).isEmpty else if k = 1 then (N t).isEmpty else if k = 2 then decide (n = 0) && prn (N t) && decide (t.size ≤ 16) else false) := rfl
  have HEm : Hid (t.toList.isEmpty = (N t).isEmpty) := str_empty t
  go_enter Tryd.func13, Tryd.ntmps13
  go_wp2_with (go_at_call 34; refine (printable_any t _ HS.out).mono ?_; rintro e w1 ⟨rfl, rfl⟩)
  all_goals
    go_ret
    refine ⟨ret_bool ?_, (Ext.refl w).alloc _⟩
    rw [HV.out]
    have := HEm.out
    first | grind | skip
theorem rvalid_any (k n : Int) (t : ByteArray) (w : World) (hs : t.size ≤ 9223372036854775807) :
    Calls Tryd.prog 14 #[.agg #[.int .i64 k, .int .i64 n, .string t]] w fun e w' => e = .returned (.bool (validV ⟨k, n, t⟩)) ∧ Ext w w' := by
  have HS := hid hs
  clear hs
  have HV : Hid (validV ⟨k, n, t⟩ = if k = 0 then decide (n = 0) && (N t).isEmpty else if k = 1 then (N t).isEmpty else if k = 2 then decide (n = 0) && prn (N t) && decide (t.size ≤ 16) else false) := rfl
  have HEm : Hid (t.toList.isEmpty = (N t).isEmpty) := str_empty t
  go_enter Tryd.func14, Tryd.ntmps14
  go_wp2_with (go_at_call 35; refine (rprintable_any t _ HS.out).mono ?_; rintro e w1 ⟨rfl, rfl⟩)
  all_goals
    go_ret
    refine ⟨ret_bool ?_, (Ext.refl w).alloc _⟩
    rw [HV.out]
    have := HEm.out
    first | grind | skip

end Go.Proofs.YtkldgehnioapcaaDoor
