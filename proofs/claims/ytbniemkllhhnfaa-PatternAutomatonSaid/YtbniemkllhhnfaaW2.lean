/-
  Walks over the pattern package: begin, passed, Passes, the references' Valid, Printable.
-/
import Derived.Test.YtbniemkllhhnfaaW1
namespace Go.Proofs.Ytbniemkllhhnfaa
open Go.RowKit

set_option maxHeartbeats 400000 in
theorem begin_like (v : Int) (ng : Bool) (p : ByteArray) (w : World) (hs : p.size ≤ 16) :
    Calls Try.prog 33 #[.agg #[.int .i64 v, .int .i64 1, .bool ng, .string p]] w fun e w' => e = .returned (.int .u32 (clo (N p) 1)) ∧ Ext w w' := by
  go_enter Try.func33, Try.ntmps33
  go_wp2_with (go_at_call 47; refine (closure_any p 1 _ hs (by omega)).mono ?_; rintro e w' ⟨rfl, rfl⟩)
  go_ret
  exact ⟨rfl, (Ext.refl _).alloc _⟩

set_option maxHeartbeats 400000 in
theorem begin_cmp (v kd : Int) (ng : Bool) (p : ByteArray) (w : World) (hkd : (kd == 1) = false) :
    Calls Try.prog 33 #[.agg #[.int .i64 v, .int .i64 kd, .bool ng, .string p]] w fun e w' => e = .returned (.int .u32 0) ∧ Ext w w' := by
  go_enter Try.func33, Try.ntmps33
  go_wp2
  go_ret
  exact ⟨rfl, (Ext.refl _).alloc _⟩

set_option maxHeartbeats 400000 in
theorem passed_any (v kd : Int) (ng : Bool) (p : ByteArray) (s : Nat) (w : World) (hs : p.size ≤ 16) (h1 : s < 131072) :
    Calls Try.prog 35 #[.agg #[.int .i64 v, .int .i64 kd, .bool ng, .string p], .int .u32 s] w fun e w' => e = .returned (.bool (okOf kd p.size s != ng)) ∧ Ext w w' := by
  have e1 := bit_test s p.size (by omega)
  go_enter Try.func35, Try.ntmps35
  go_wp2
  all_goals
    go_ret
    refine ⟨ret_bool ?_, (Ext.refl _).alloc _⟩
    clear e1
    first | (unfold okOf; grind) | (unfold okOf; simp only [ibeq, ibeq100]; grind)

set_option maxHeartbeats 400000 in
theorem printable_any (s : ByteArray) (w : World) (hs : s.size ≤ 9223372036854775807) :
    Calls Try.prog 13 #[.string s] w fun e w' => e = .returned (.bool (prn (N s))) ∧ w = w' := by
  go_enter Try.func13, Try.ntmps13
  go_wp2
  go_loop [3] (fun i => ∃ k : Nat, k ≤ s.size ∧ i = .int .i64 k ∧ prn ((N s).take k) = true) (fun i => s.size - (intOf i).toNat)
  case atStart => exact ⟨0, Nat.zero_le _, rfl, rfl⟩
  case round =>
    obtain ⟨k, hk, rfl, hp⟩ := hrel
    have HP := hid hp
    clear hp
    by_cases hlt : k < s.size
    · go_wp2
      · go_ret
        exact ⟨ret_bool (prn_no s k hlt (by omega)).symm, rfl⟩
      · go_round
        case rel => exact ⟨k + 1, by omega, by go_num, prn_yes s k hlt HP.out (by omega) (by omega)⟩
        case measure => simp [intOf]; omega
      · go_ret
        exact ⟨ret_bool (prn_no s k hlt (by omega)).symm, rfl⟩
    · go_wp2
      go_ret
      obtain rfl : k = s.size := by omega
      exact ⟨ret_bool (by have := HP.out; rw [List.take_of_length_le (by rw [N_len]; exact Nat.le_refl _)] at this; exact this.symm), rfl⟩

set_option maxHeartbeats 400000 in
theorem valid_any (v kd : Int) (ng : Bool) (p : ByteArray) (w : World) (hs : p.size ≤ 9223372036854775807) :
    Calls Try.prog 12 #[.agg #[.int .i64 v, .int .i64 kd, .bool ng, .string p]] w fun e w' => e = .returned (.bool (decide (0 ≤ kd) && decide (kd ≤ 3) && decide (p.size ≤ 16) && prn (N p))) ∧ Ext w w' := by
  go_enter Try.func12, Try.ntmps12
  go_wp2_with (go_at_call 13; refine (printable_any p _ hs).mono ?_; rintro e w' ⟨rfl, rfl⟩)
  all_goals
    go_ret
    refine ⟨ret_bool ?_, (Ext.refl _).alloc _⟩
    first | grind | skip

end Go.Proofs.Ytbniemkllhhnfaa
