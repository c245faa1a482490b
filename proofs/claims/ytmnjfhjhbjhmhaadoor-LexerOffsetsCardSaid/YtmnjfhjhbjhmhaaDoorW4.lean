/-
  Walks over the lexer's reference: literal.
-/
import Derived.Test.YtmnjfhjhbjhmhaaDoorPure3
namespace Go.Proofs.YtmnjfhjhbjhmhaaDoor
open Go.RowKit
set_option linter.unusedVariables false
set_option maxHeartbeats 4000000
set_option maxRecDepth 100000

def litRes : Option (List UInt8 × Nat) → Value
  | some (X, i) => .tuple #[.string ⟨X.toArray⟩, .int .i64 i]
  | none => .tuple #[.string ⟨#[]⟩, .int .i64 (-1)]
def litS (s : ByteArray) (k : Nat) : Value := litRes (litF (s.data.toList.drop (k + 1)) [] (k + 1))
theorem ext1 (t : ByteArray) (k : Nat) (h : k < t.size) : (t.extract k (k + 1)).data.toList = [t[k]] := by
  have hk' : k < t.data.toList.length := by simpa using h
  rw [Lib.extract_data]
  have : t.data.toList.drop k = t.data.toList[k] :: t.data.toList.drop (k + 1) := List.drop_eq_getElem_cons hk'
  rw [show k + 1 - k = 1 by omega, this]
  rfl
theorem drop1 (s : ByteArray) (k : Nat) (h : k < s.size) : s.data.toList.drop k = s[k] :: s.data.toList.drop (k + 1) := List.drop_eq_getElem_cons (show k < s.data.toList.length from h)
theorem lit_end (X : ByteArray) (k : Nat) : Value.tuple #[.string X, .int .i64 ((k : Int) + 1)] = litRes (some (X.data.toList, k + 1)) := by
  show _ = Value.tuple #[.string ⟨X.data.toList.toArray⟩, .int .i64 ((k + 1 : Nat) : Int)]
  congr
theorem literal_any (s : ByteArray) (a : Nat) (w : World) (hs : s.size ≤ 20000) (ha : a < s.size) :
    Calls Tryd.prog 39 #[.string s, .int .i64 a] w fun e w' => e = .returned (litS s a) ∧ w' = w := by
  have HL : Hid (litS s a = litRes (litF (s.data.toList.drop (a + 1)) [] (a + 1))) := rfl
  generalize litS s a = V at *
  go_enter Tryd.func39, Tryd.ntmps39
  go_wp2_with fail
  go_loop [6, 7] (fun x i => ∃ (k : Nat) (X : ByteArray), k ≤ s.size ∧ X.size ≤ k ∧ i = .int .i64 k ∧ x = .string X ∧ V = litRes (litF (s.data.toList.drop k) X.data.toList k)) (fun _ i => s.size - (intOf i).toNat)
  case atStart => exact ⟨a + 1, ⟨#[]⟩, ha, Nat.zero_le _, by go_num, rfl, HL.out⟩
  case round =>
    obtain ⟨k, X, hk, hXs, rfl, rfl, hv⟩ := hrel
    have HV := hid hv
    clear hv
    by_cases hlt : k < s.size
    · have HD := hid (drop1 s k hlt)
      have E1 := hid (ext1 s k hlt)
      have e2 : (s.extract k (k + 1)).size = 1 := by
        show (s.extract k (k + 1)).data.toList.length = 1
        rw [ext1 s k hlt]; rfl
      by_cases hc : 32 ≤ s[k].toNat ∧ s[k].toNat ≤ 126
      · have HP : Hid (isPrint s[k] = true) := by unfold Hid isPrint; simpa using hc
        have HPn : Hid (¬ isPrint s[k] = false) := by unfold Hid; rw [HP.out]; decide
        obtain ⟨hc1, hc2⟩ := hc
        by_cases hq : s[k].toNat = 39
        · have b1 : ((s[k].toNat : Int) == 39) = true := by rw [hq]; rfl
          have HQ := hid hq
          clear hq
          by_cases hl : k + 1 < s.size
          · have HD2 := hid (drop1 s (k + 1) hl)
            have E2 := hid (ext1 s (k + 1) hl)
            have e3 : (s.extract (k + 1) (k + 1 + 1)).size = 1 := by
              show (s.extract (k + 1) (k + 1 + 1)).data.toList.length = 1
              rw [ext1 s (k + 1) hl]; rfl
            have b0 : ((k : Int) + 1 == (s.size : Int)) = false := by rw [beq_eq_false_iff_ne]; omega
            by_cases hq2 : s[k + 1].toNat = 39
            · have b2 : ((s[k + 1].toNat : Int) == 39) = true := by rw [hq2]; rfl
              have b3 : ((s[k + 1].toNat : Int) != 39) = false := by rw [hq2]; rfl
              have HQ2 := hid hq2
              clear hq2
              go_wp2_with fail
              all_goals first
                | (exfalso; simp only [b0, b3] at *; simp at *; done)
                | skip
              go_round
              case rel =>
                refine ⟨k + 1 + 1, X ++ s.extract (k + 1) (k + 1 + 1), by omega, ?_, by go_num, rfl, ?_⟩
                · rw [ByteArray.size_append, e3]; omega
                · rw [HV.out, HD.out, lit_cons, if_neg HPn.out, if_pos HQ.out, HD2.out]
                  simp only
                  rw [if_pos HQ2.out]
                  rw [ByteArray.data_append, Array.toList_append, E2.out]
              case measure => simp [intOf]; omega
            · have b2 : ((s[k + 1].toNat : Int) == 39) = false := by rw [beq_eq_false_iff_ne]; omega
              have b3 : ((s[k + 1].toNat : Int) != 39) = true := by rw [bne_iff_ne]; omega
              have HQ2 : Hid (¬ s[k + 1].toNat = 39) := hq2
              clear hq2
              go_wp2_with fail
              all_goals first
                | (exfalso; simp only [b0, b3] at *; simp at *; done)
                | skip
              go_ret2
              refine ⟨?_, rfl⟩
              show Ending.returned (.tuple #[.string X, .int .i64 ((k : Int) + 1)]) = _
              rw [lit_end, HV.out, HD.out, lit_cons, if_neg HPn.out, if_pos HQ.out, HD2.out]
              simp only
              rw [if_neg HQ2.out]
          · have b0 : ((k : Int) + 1 == (s.size : Int)) = true := by rw [beq_iff_eq]; omega
            go_wp2_with fail
            go_ret2
            refine ⟨?_, rfl⟩
            show Ending.returned (.tuple #[.string X, .int .i64 ((k : Int) + 1)]) = _
            rw [lit_end, HV.out, HD.out, lit_cons, if_neg HPn.out, if_pos HQ.out]
            rw [List.drop_of_length_le (show s.data.toList.length ≤ k + 1 by show s.size ≤ _; omega)]
        · have b1 : ((s[k].toNat : Int) == 39) = false := by rw [beq_eq_false_iff_ne]; omega
          have HQ : Hid (¬ s[k].toNat = 39) := hq
          clear hq
          go_wp2_with fail
          go_round
          case rel =>
            refine ⟨k + 1, X ++ s.extract k (k + 1), by omega, ?_, by go_num, rfl, ?_⟩
            · rw [ByteArray.size_append, e2]; omega
            · rw [HV.out, HD.out, lit_cons, if_neg HPn.out, if_neg HQ.out]
              rw [ByteArray.data_append, Array.toList_append, E1.out]
          case measure => simp [intOf]; omega
      · have HP : Hid (isPrint s[k] = false) := by
          unfold Hid isPrint
          rw [Bool.and_eq_false_iff]
          simp only [decide_eq_false_iff_not]
          omega
        go_wp2_with fail
        all_goals
          go_ret2
          refine ⟨?_, rfl⟩
          rw [HV.out, HD.out, lit_cons, if_pos HP.out]
          rfl
    · go_wp2_with fail
      go_ret2
      refine ⟨?_, rfl⟩
      rw [HV.out, List.drop_of_length_le (show s.data.toList.length ≤ k by show s.size ≤ _; omega), litF]
      rfl
end Go.Proofs.YtmnjfhjhbjhmhaaDoor
