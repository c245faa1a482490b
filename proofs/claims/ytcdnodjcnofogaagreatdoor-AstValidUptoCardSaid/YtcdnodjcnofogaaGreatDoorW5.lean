/-
  Walks: small functions on nodes.
-/
import Derived.Test.YtcdnodjcnofogaaGreatDoorW4
namespace Go.Proofs.YtcdnodjcnofogaaGreatDoor
open Go.RowKit
set_option linter.unusedVariables false
set_option maxHeartbeats 4000000
set_option maxRecDepth 100000

theorem operands_any (op : Int) (w : World) : Calls Tryz.prog 100 #[.int .i64 op] w fun r w' => r = .returned (.int .i64 (opN op)) ∧ w = w' := by
  go_enter Tryz.func100, Tryz.ntmps100
  go_wp2_with fail
  all_goals
    go_ret
    refine ⟨ret_int ?_, rfl⟩
    simp only [beq_iff_eq, beq_eq_false_iff_ne] at *
    unfold opN
    first | rw [if_pos (by omega)] | rw [if_neg (by omega), if_pos (by omega)] | rw [if_neg (by omega), if_neg (by omega), if_pos (by omega)] | rw [if_neg (by omega), if_neg (by omega), if_neg (by omega)]
theorem args_any (op : Int) (w : World) : Calls Tryz.prog 103 #[.int .i64 op] w fun r w' => r = .returned (.int .i64 (opN op)) ∧ w = w' := by
  go_enter Tryz.func103, Tryz.ntmps103
  go_wp2_with fail
  all_goals
    go_ret
    refine ⟨ret_int ?_, rfl⟩
    simp only [beq_iff_eq, beq_eq_false_iff_ne] at *
    unfold opN
    first | rw [if_pos (by omega)] | rw [if_neg (by omega), if_pos (by omega)] | rw [if_neg (by omega), if_neg (by omega), if_pos (by omega)] | rw [if_neg (by omega), if_neg (by omega), if_neg (by omega)]
theorem within_any (x lo hi : Int) (w : World) : Calls Tryz.prog 130 #[.int .i64 x, .int .i64 lo, .int .i64 hi] w fun r w' => r = .returned (.bool (decide (lo ≤ x) && decide (x ≤ hi))) ∧ w = w' := by
  by_cases h : lo ≤ x
  · have hd : decide (lo ≤ x) = true := by simpa using h
    have HD := hid hd
    clear h
    go_enter Tryz.func130, Tryz.ntmps130
    go_wp2_with fail
    go_ret
    clear hd
    exact ⟨ret_bool (by rw [HD.out, Bool.true_and]), rfl⟩
  · have hd : decide (lo ≤ x) = false := by simpa using h
    have HD := hid hd
    clear h
    go_enter Tryz.func130, Tryz.ntmps130
    go_wp2_with fail
    go_ret
    clear hd
    exact ⟨ret_bool (by rw [HD.out, Bool.false_and]), rfl⟩
theorem rnumber_any (x : Int) (w : World) : Calls Tryz.prog 149 #[.int .i64 x] w fun r w' => r = .returned (.bool (decide (0 ≤ x) && decide (x ≤ 2147483648))) ∧ w = w' := by
  by_cases h : 0 ≤ x
  · have hd : decide (0 ≤ x) = true := by simpa using h
    have HD := hid hd
    clear h
    go_enter Tryz.func149, Tryz.ntmps149
    go_wp2_with fail
    go_ret
    clear hd
    exact ⟨ret_bool (by rw [HD.out, Bool.true_and]), rfl⟩
  · have hd : decide (0 ≤ x) = false := by simpa using h
    have HD := hid hd
    clear h
    go_enter Tryz.func149, Tryz.ntmps149
    go_wp2_with fail
    go_ret
    clear hd
    exact ⟨ret_bool (by rw [HD.out, Bool.false_and]), rfl⟩
/-- printable -/
def prn (l : List Nat) : Bool := l.all fun c => decide (32 ≤ c) && decide (c ≤ 126)
theorem textB_eq (s : ByteArray) : textB s = (prn (N s) && decide (s.size ≤ 16)) := rfl
theorem all_step {s : ByteArray} {k : Nat} {p : Nat → Bool} (hk : k < s.size) (h : ((N s).take k).all p = true) (h1 : p s[k].toNat = true) : ((N s).take (k + 1)).all p = true := by
  rw [N_take_succ s k hk, List.all_append, h]
  simp [h1]
theorem all_no {s : ByteArray} {k : Nat} {p : Nat → Bool} (hk : k < s.size) (h1 : p s[k].toNat = false) : (N s).all p = false := by
  rw [List.all_eq_false]
  exact ⟨s[k].toNat, List.mem_of_getElem? (N_get s k hk), by simp [h1]⟩
theorem all_end {s : ByteArray} {k : Nat} {p : Nat → Bool} (hk : s.size ≤ k) (h : ((N s).take k).all p = true) : (N s).all p = true := by
  rwa [List.take_of_length_le (by rw [N_len]; exact hk)] at h
theorem text_any (s : ByteArray) (w : World) (hs : s.size ≤ 9223372036854775807) : Calls Tryz.prog 151 #[.string s] w fun r w' => r = .returned (.bool (textB s)) ∧ w = w' := by
  go_enter Tryz.func151, Tryz.ntmps151
  go_wp2_with fail
  go_loop [3, 6] (fun _ i => ∃ k : Nat, k ≤ s.size ∧ i = .int .i64 k ∧ prn ((N s).take k) = true) (fun _ i => s.size - (intOf i).toNat)
  case atStart => exact ⟨0, Nat.zero_le _, rfl, rfl⟩
  case round =>
    obtain ⟨k, hk, rfl, hv⟩ := hrel
    have HV := hid hv
    clear hv
    by_cases hlt : k < s.size
    · by_cases h1 : 32 ≤ s[k].toNat
      · have d1 : decide ((s[k].toNat : Int) < 32) = false := by simp; omega
        by_cases h2 : s[k].toNat ≤ 126
        · have d2 : decide (126 < (s[k].toNat : Int)) = false := by simp; omega
          have HP : Hid (prn ((N s).take (k + 1)) = true) := all_step hlt HV.out (by simp [h1, h2])
          clear h1 h2
          go_wp2_with fail
          go_round
          case rel => exact ⟨k + 1, by omega, by go_num, HP.out⟩
          case measure => simp [intOf]; omega
        · have d2 : decide (126 < (s[k].toNat : Int)) = true := by simp; omega
          have HP : Hid (prn (N s) = false) := all_no hlt (by simp [h2])
          clear h1 h2
          go_wp2_with fail
          go_ret
          exact ⟨ret_bool (by rw [textB_eq, HP.out]; rfl), rfl⟩
      · have d1 : decide ((s[k].toNat : Int) < 32) = true := by simp; omega
        have HP : Hid (prn (N s) = false) := all_no hlt (by simp [h1])
        clear h1
        go_wp2_with fail
        go_ret
        exact ⟨ret_bool (by rw [textB_eq, HP.out]; rfl), rfl⟩
    · have HP : Hid (prn (N s) = true) := all_end (by omega) HV.out
      go_wp2_with fail
      go_ret
      exact ⟨ret_bool (by rw [textB_eq, HP.out, Bool.true_and, Bool.eq_iff_iff]; simp; omega), rfl⟩
theorem rtext_any (s : ByteArray) (w : World) (hs : s.size ≤ 9223372036854775807) : Calls Tryz.prog 152 #[.string s] w fun r w' => r = .returned (.bool (textB s)) ∧ w = w' := by
  go_enter Tryz.func152, Tryz.ntmps152
  go_wp2_with fail
  go_loop [3] (fun i => ∃ k : Nat, k ≤ s.size ∧ i = .int .i64 k ∧ prn ((N s).take k) = true) (fun i => s.size - (intOf i).toNat)
  case atStart => exact ⟨0, Nat.zero_le _, rfl, rfl⟩
  case round =>
    obtain ⟨k, hk, rfl, hv⟩ := hrel
    have HV := hid hv
    clear hv
    by_cases hlt : k < s.size
    · by_cases h1 : 32 ≤ s[k].toNat
      · have d1 : decide ((s[k].toNat : Int) < 32) = false := by simp; omega
        by_cases h2 : s[k].toNat ≤ 126
        · have d2 : decide (126 < (s[k].toNat : Int)) = false := by simp; omega
          have HP : Hid (prn ((N s).take (k + 1)) = true) := all_step hlt HV.out (by simp [h1, h2])
          clear h1 h2
          go_wp2_with fail
          go_round
          case rel => exact ⟨k + 1, by omega, by go_num, HP.out⟩
          case measure => simp [intOf]; omega
        · have d2 : decide (126 < (s[k].toNat : Int)) = true := by simp; omega
          have HP : Hid (prn (N s) = false) := all_no hlt (by simp [h2])
          clear h1 h2
          go_wp2_with fail
          go_ret
          exact ⟨ret_bool (by rw [textB_eq, HP.out]; rfl), rfl⟩
      · have d1 : decide ((s[k].toNat : Int) < 32) = true := by simp; omega
        have HP : Hid (prn (N s) = false) := all_no hlt (by simp [h1])
        clear h1
        go_wp2_with fail
        go_ret
        exact ⟨ret_bool (by rw [textB_eq, HP.out]; rfl), rfl⟩
    · have HP : Hid (prn (N s) = true) := all_end (by omega) HV.out
      go_wp2_with fail
      go_ret
      exact ⟨ret_bool (by rw [textB_eq, HP.out, Bool.true_and, Bool.eq_iff_iff]; simp; omega), rfl⟩
end Go.Proofs.YtcdnodjcnofogaaGreatDoor
