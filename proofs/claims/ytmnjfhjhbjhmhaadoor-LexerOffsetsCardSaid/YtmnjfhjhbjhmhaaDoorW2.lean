/-
  Walks over the lexer's reference: Text.
-/
import Derived.Test.YtmnjfhjhbjhmhaaDoorW1
namespace Go.Proofs.YtmnjfhjhbjhmhaaDoor
open Go.RowKit
set_option linter.unusedVariables false
set_option maxHeartbeats 1000000
set_option maxRecDepth 100000

theorem take1 (t : ByteArray) (k : Nat) (h : k < t.size) : t.data.toList.take (k + 1) = t.data.toList.take k ++ [t[k]] := by
  have hk' : k < t.data.toList.length := by simpa using h
  rw [List.take_succ_eq_append_getElem hk']
  rfl
def isText (s : ByteArray) : Bool := s.data.toList.all (fun c => 32 ≤ c.toNat && c.toNat ≤ 126) && decide (s.size ≤ 16)
theorem rtext_any (s : ByteArray) (w : World) (hs : s.size ≤ maxLen) : Calls Tryd.prog 21 #[.string s] w fun e w' => e = .returned (.bool (isText s)) ∧ w' = w := by
  unfold maxLen at hs
  go_enter Tryd.func21, Tryd.ntmps21
  go_wp2_with fail
  go_loop [3] (fun i => ∃ k : Nat, k ≤ s.size ∧ i = .int .i64 k ∧ (s.data.toList.take k).all (fun c => 32 ≤ c.toNat && c.toNat ≤ 126) = true) (fun i => s.size - (intOf i).toNat)
  case atStart => exact ⟨0, Nat.zero_le _, rfl, rfl⟩
  case round =>
    obtain ⟨k, hk, rfl, hv⟩ := hrel
    have HV := hid hv
    clear hv
    by_cases hlt : k < s.size
    · have HT := hid (take1 s k hlt)
      by_cases hc : 32 ≤ s[k].toNat ∧ s[k].toNat ≤ 126
      · have HC := hid hc
        obtain ⟨hc1, hc2⟩ := hc
        go_wp2_with fail
        go_round
        case rel =>
          refine ⟨k + 1, by omega, by go_num, ?_⟩
          rw [HT.out, List.all_append, HV.out]
          simpa using HC.out
        case measure => simp [intOf]; omega
      · have HR : Hid (isText s = false) := by
          unfold Hid isText
          rw [Bool.and_eq_false_iff]
          left
          rw [List.all_eq_false]
          exact ⟨s[k], List.getElem_mem (show k < s.data.toList.length from hlt), by simpa using hc⟩
        go_wp2_with fail
        all_goals
          go_ret
          exact ⟨ret_bool (by rw [HR.out]), rfl⟩
    · obtain rfl : k = s.size := by omega
      have HR : Hid (isText s = decide ((s.size : Int) ≤ 16)) := by
        unfold Hid isText
        have h := HV.out
        rw [List.take_of_length_le (show s.data.toList.length ≤ s.size from Nat.le_refl _)] at h
        rw [h, Bool.true_and]
        simp
        omega
      go_wp2_with fail
      go_ret
      exact ⟨ret_bool HR.out.symm, rfl⟩
end Go.Proofs.YtmnjfhjhbjhmhaaDoor
