/-
  Walks over the lexer: the classes of bytes.
-/
import Derived.Test.YtmnjfhjhbjhmhaaDoorOwn
import Derived.WalkSmall
import Derived.Test.YtmnjfhjhbjhmhaaDoorProg
namespace Go.Proofs.YtmnjfhjhbjhmhaaDoor
open Go.RowKit
set_option linter.unusedVariables false
set_option maxHeartbeats 1000000
set_option maxRecDepth 100000

def isLetter (c : UInt8) : Bool := (97 ≤ c.toNat && c.toNat ≤ 122) || (65 ≤ c.toNat && c.toNat ≤ 90)
def isDigit (c : UInt8) : Bool := 48 ≤ c.toNat && c.toNat ≤ 57
def inWord (c : UInt8) : Bool := isLetter c || isDigit c || c.toNat == 95
theorem letter_any (c : UInt8) (w : World) : Calls Tryd.prog 27 #[.int .u8 c.toNat] w fun e w' => e = .returned (.bool (isLetter c)) ∧ w' = w := by
  go_enter Tryd.func27, Tryd.ntmps27
  go_wp2_with fail
  all_goals
    go_ret
    refine ⟨ret_bool ?_, rfl⟩
    unfold isLetter
    grind
theorem digit_any (c : UInt8) (w : World) : Calls Tryd.prog 43 #[.int .u8 c.toNat] w fun e w' => e = .returned (.bool (isDigit c)) ∧ w' = w := by
  go_enter Tryd.func43, Tryd.ntmps43
  go_wp2_with fail
  all_goals
    go_ret
    refine ⟨ret_bool ?_, rfl⟩
    unfold isDigit
    grind
theorem rletter_any (c : UInt8) (w : World) : Calls Tryd.prog 46 #[.int .u8 c.toNat] w fun e w' => e = .returned (.bool (isLetter c)) ∧ w' = w := by
  go_enter Tryd.func46, Tryd.ntmps46
  go_wp2_with fail
  all_goals
    go_ret
    refine ⟨ret_bool ?_, rfl⟩
    unfold isLetter
    grind
theorem rdigit_any (c : UInt8) (w : World) : Calls Tryd.prog 31 #[.int .u8 c.toNat] w fun e w' => e = .returned (.bool (isDigit c)) ∧ w' = w := by
  go_enter Tryd.func31, Tryd.ntmps31
  go_wp2_with fail
  all_goals
    go_ret
    refine ⟨ret_bool ?_, rfl⟩
    unfold isDigit
    grind
theorem inword_any (c : UInt8) (w : World) : Calls Tryd.prog 29 #[.int .u8 c.toNat] w fun e w' => e = .returned (.bool (inWord c)) ∧ w' = w := by
  have HL := hid (letter_any c)
  have HD := hid (digit_any c)
  cases hl : isLetter c <;> cases hd : isDigit c
  all_goals
    go_enter Tryd.func29, Tryd.ntmps29
    go_wp2_with (first
      | (go_at_call 27; refine (HL.out _).mono ?_; rintro e w1 ⟨rfl, rfl⟩; rw [hl])
      | (go_at_call 43; refine (HD.out _).mono ?_; rintro e w1 ⟨rfl, rfl⟩; rw [hd]))
    all_goals
      go_ret
      refine ⟨ret_bool ?_, rfl⟩
      unfold inWord
      rw [hl, hd]
      grind
def isSpace (c : UInt8) : Bool := c.toNat == 32 || c.toNat == 9 || c.toNat == 10
theorem rspace_any (c : UInt8) (w : World) : Calls Tryd.prog 45 #[.int .u8 c.toNat] w fun e w' => e = .returned (.bool (isSpace c)) ∧ w' = w := by
  go_enter Tryd.func45, Tryd.ntmps45
  go_wp2_with fail
  all_goals
    go_ret
    refine ⟨ret_bool ?_, rfl⟩
    unfold isSpace
    grind
end Go.Proofs.YtmnjfhjhbjhmhaaDoor
