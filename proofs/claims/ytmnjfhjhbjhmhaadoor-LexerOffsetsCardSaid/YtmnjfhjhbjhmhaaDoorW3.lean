/-
  Walks over the lexer: span.
-/
import Derived.Test.YtmnjfhjhbjhmhaaDoorW2
namespace Go.Proofs.YtmnjfhjhbjhmhaaDoor
open Go.RowKit
set_option linter.unusedVariables false
set_option maxHeartbeats 1000000
set_option maxRecDepth 100000

def spanN (f : UInt8 → Bool) : List UInt8 → Nat
  | [] => 0
  | c :: r => if f c = true then spanN f r + 1 else 0
theorem span_word (s : ByteArray) (w : World) (hs : s.size ≤ maxLen) : Calls Tryd.prog 28 #[.string s, .func (.func 29) #[] #[]] w fun e w' => e = .returned (.int .i64 (spanN inWord s.data.toList)) ∧ w' = w := by
  unfold maxLen at hs
  go_enter Tryd.func28, Tryd.ntmps28
  go_wp2_with fail
  go_loop [5] (fun i => ∃ k : Nat, k ≤ s.size ∧ i = .int .i64 k ∧ spanN inWord s.data.toList = k + spanN inWord (s.data.toList.drop k)) (fun i => s.size - (intOf i).toNat)
  case atStart => exact ⟨0, Nat.zero_le _, rfl, by simp⟩
  case round =>
    obtain ⟨k, hk, rfl, hv⟩ := hrel
    have HV := hid hv
    clear hv
    by_cases hlt : k < s.size
    · have HD : Hid (s.data.toList.drop k = s[k] :: s.data.toList.drop (k + 1)) := List.drop_eq_getElem_cons (show k < s.data.toList.length from hlt)
      cases hc : inWord s[k]
      · go_wp2_with (go_at_call 29; refine (inword_any s[k] _).mono ?_; rintro e w1 ⟨rfl, rfl⟩; rw [hc])
        go_ret
        refine ⟨ret_int ?_, rfl⟩
        rw [HV.out, HD.out, spanN, if_neg (by rw [hc]; decide)]
        omega
      · go_wp2_with (go_at_call 29; refine (inword_any s[k] _).mono ?_; rintro e w1 ⟨rfl, rfl⟩; rw [hc])
        go_round
        case rel =>
          refine ⟨k + 1, by omega, by go_num, ?_⟩
          rw [HV.out, HD.out, spanN, if_pos hc]
          omega
        case measure => simp [intOf]; omega
    · obtain rfl : k = s.size := by omega
      go_wp2_with fail
      go_ret
      refine ⟨ret_int ?_, rfl⟩
      rw [HV.out, List.drop_of_length_le (show s.data.toList.length ≤ s.size from Nat.le_refl _), spanN]
      omega
theorem span_digit (s : ByteArray) (w : World) (hs : s.size ≤ maxLen) : Calls Tryd.prog 28 #[.string s, .func (.func 43) #[] #[]] w fun e w' => e = .returned (.int .i64 (spanN isDigit s.data.toList)) ∧ w' = w := by
  unfold maxLen at hs
  go_enter Tryd.func28, Tryd.ntmps28
  go_wp2_with fail
  go_loop [5] (fun i => ∃ k : Nat, k ≤ s.size ∧ i = .int .i64 k ∧ spanN isDigit s.data.toList = k + spanN isDigit (s.data.toList.drop k)) (fun i => s.size - (intOf i).toNat)
  case atStart => exact ⟨0, Nat.zero_le _, rfl, by simp⟩
  case round =>
    obtain ⟨k, hk, rfl, hv⟩ := hrel
    have HV := hid hv
    clear hv
    by_cases hlt : k < s.size
    · have HD : Hid (s.data.toList.drop k = s[k] :: s.data.toList.drop (k + 1)) := List.drop_eq_getElem_cons (show k < s.data.toList.length from hlt)
      cases hc : isDigit s[k]
      · go_wp2_with (go_at_call 43; refine (digit_any s[k] _).mono ?_; rintro e w1 ⟨rfl, rfl⟩; rw [hc])
        go_ret
        refine ⟨ret_int ?_, rfl⟩
        rw [HV.out, HD.out, spanN, if_neg (by rw [hc]; decide)]
        omega
      · go_wp2_with (go_at_call 43; refine (digit_any s[k] _).mono ?_; rintro e w1 ⟨rfl, rfl⟩; rw [hc])
        go_round
        case rel =>
          refine ⟨k + 1, by omega, by go_num, ?_⟩
          rw [HV.out, HD.out, spanN, if_pos hc]
          omega
        case measure => simp [intOf]; omega
    · obtain rfl : k = s.size := by omega
      go_wp2_with fail
      go_ret
      refine ⟨ret_int ?_, rfl⟩
      rw [HV.out, List.drop_of_length_le (show s.data.toList.length ≤ s.size from Nat.le_refl _), spanN]
      omega
def isPrint (c : UInt8) : Bool := 32 ≤ c.toNat && c.toNat ≤ 126
theorem print_any (c : UInt8) (w : World) : Calls Tryd.prog 36 #[.int .u8 c.toNat] w fun e w' => e = .returned (.bool (isPrint c)) ∧ w' = w := by
  go_enter Tryd.func36, Tryd.ntmps36
  go_wp2_with fail
  all_goals
    go_ret
    refine ⟨ret_bool ?_, rfl⟩
    unfold isPrint
    grind
theorem span_print (s : ByteArray) (w : World) (hs : s.size ≤ maxLen) : Calls Tryd.prog 28 #[.string s, .func (.func 36) #[] #[]] w fun e w' => e = .returned (.int .i64 (spanN isPrint s.data.toList)) ∧ w' = w := by
  unfold maxLen at hs
  go_enter Tryd.func28, Tryd.ntmps28
  go_wp2_with fail
  go_loop [5] (fun i => ∃ k : Nat, k ≤ s.size ∧ i = .int .i64 k ∧ spanN isPrint s.data.toList = k + spanN isPrint (s.data.toList.drop k)) (fun i => s.size - (intOf i).toNat)
  case atStart => exact ⟨0, Nat.zero_le _, rfl, by simp⟩
  case round =>
    obtain ⟨k, hk, rfl, hv⟩ := hrel
    have HV := hid hv
    clear hv
    by_cases hlt : k < s.size
    · have HD : Hid (s.data.toList.drop k = s[k] :: s.data.toList.drop (k + 1)) := List.drop_eq_getElem_cons (show k < s.data.toList.length from hlt)
      cases hc : isPrint s[k]
      · go_wp2_with (go_at_call 36; refine (print_any s[k] _).mono ?_; rintro e w1 ⟨rfl, rfl⟩; rw [hc])
        go_ret
        refine ⟨ret_int ?_, rfl⟩
        rw [HV.out, HD.out, spanN, if_neg (by rw [hc]; decide)]
        omega
      · go_wp2_with (go_at_call 36; refine (print_any s[k] _).mono ?_; rintro e w1 ⟨rfl, rfl⟩; rw [hc])
        go_round
        case rel =>
          refine ⟨k + 1, by omega, by go_num, ?_⟩
          rw [HV.out, HD.out, spanN, if_pos hc]
          omega
        case measure => simp [intOf]; omega
    · obtain rfl : k = s.size := by omega
      go_wp2_with fail
      go_ret
      refine ⟨ret_int ?_, rfl⟩
      rw [HV.out, List.drop_of_length_le (show s.data.toList.length ≤ s.size from Nat.le_refl _), spanN]
      omega

end Go.Proofs.YtmnjfhjhbjhmhaaDoor
