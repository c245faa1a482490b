/-
  Walks over the lexer's reference: symbols.
-/
import Derived.Test.YtmnjfhjhbjhmhaaDoorW12
import Derived.RegionTactic
namespace Go.Proofs.YtmnjfhjhbjhmhaaDoor
open Go.RowKit
set_option linter.unusedVariables false
set_option maxHeartbeats 2000000
set_option maxRecDepth 100000

theorem two_list (s : ByteArray) (a : Nat) (h : a + 1 < s.size) : (s.extract a (a + 2)).toList = [s[a], s[a + 1]] := by
  rw [ByteArray.toList_eq, Lib.extract_data, drop1 s a (by omega), drop1 s (a + 1) h, show a + 2 - a = 2 by omega]
  rfl
def two (c d : UInt8) : Prop := (c = 60 ∧ d = 62) ∨ (c = 60 ∧ d = 61) ∨ (c = 62 ∧ d = 61)
theorem sym_two (c d : UInt8) (r : List UInt8) (h : two c d) : symN (c :: d :: r) = 2 := by rw [symN]; exact if_pos h
theorem sym_one (c : UInt8) (r : List UInt8) (h : ∀ d q, r = d :: q → ¬ two c d) : symN (c :: r) = if c ∈ syms then 1 else 0 := by
  cases r with
  | nil => rw [symN]
  | cons d q => rw [symN]; exact if_neg (h d q rfl)
def symB : ByteArray := ⟨#[40, 41, 44, 59, 46, 42, 43, 45, 47, 37, 61, 60, 62]⟩
theorem symB_at (k : Nat) (h : k < 13) : symB[k]'h ∈ syms := List.getElem_mem (show k < syms.length from h)
theorem syms_idx (c : UInt8) (h : ∀ k (hk : k < 13), symB[k]'hk ≠ c) : c ∉ syms := by
  intro hm
  obtain ⟨k, hk, e⟩ := List.getElem_of_mem hm
  exact h k hk e
theorem symbol_any (s : ByteArray) (a : Nat) (w : World) (hs : s.size ≤ 20000) (ha : a < s.size) : Calls Tryd.prog 48 #[.string s, .int .i64 a] w fun e w' => e = .returned (.int .i64 ((symN (s.data.toList.drop a) : Nat) : Int)) ∧ Ext w w' := by
  have HD := hid (drop1 s a ha)
  by_cases h1 : a + 1 < s.size
  · have HD2 := hid (drop1 s (a + 1) h1)
    have HT := hid (two_list s a h1)
    by_cases h2 : two s[a] s[a + 1]
    · have HR : Hid (symN (s.data.toList.drop a) = 2) := by unfold Hid; rw [HD.out, HD2.out]; exact sym_two _ _ _ h2
      rcases h2 with ⟨e1, e2⟩ | ⟨e1, e2⟩ | ⟨e1, e2⟩
      · have t1 : ((s.extract a (a + 2)).toList == [60, 62]) = true := by rw [HT.out, e1, e2]; rfl
        clear e1 e2
        go_enter Tryd.func48, Tryd.ntmps48
        go_wp2_with fail
        go_ret
        exact ⟨ret_int (by rw [HR.out]; rfl), Ext.refl _⟩
      · have t1 : ((s.extract a (a + 2)).toList == [60, 62]) = false := by rw [HT.out, e1, e2]; rfl
        have t2 : ((s.extract a (a + 2)).toList == [60, 61]) = true := by rw [HT.out, e1, e2]; rfl
        clear e1 e2
        go_enter Tryd.func48, Tryd.ntmps48
        go_wp2_with fail
        go_ret
        exact ⟨ret_int (by rw [HR.out]; rfl), Ext.refl _⟩
      · have t1 : ((s.extract a (a + 2)).toList == [60, 62]) = false := by rw [HT.out, e1, e2]; rfl
        have t2 : ((s.extract a (a + 2)).toList == [60, 61]) = false := by rw [HT.out, e1, e2]; rfl
        have t3 : ((s.extract a (a + 2)).toList == [62, 61]) = true := by rw [HT.out, e1, e2]; rfl
        clear e1 e2
        go_enter Tryd.func48, Tryd.ntmps48
        go_wp2_with fail
        go_ret
        exact ⟨ret_int (by rw [HR.out]; rfl), Ext.refl _⟩
    · have HS1 : Hid (symN (s.data.toList.drop a) = if s[a] ∈ syms then 1 else 0) := by
        unfold Hid
        rw [HD.out]
        refine sym_one _ _ fun d q e => ?_
        rw [HD2.out] at e
        injection e with e _
        rw [← e]
        exact h2
      have t1 : ((s.extract a (a + 2)).toList == [60, 62]) = false := by
        rw [HT.out, beq_eq_false_iff_ne]; intro h; injection h with h h'; injection h' with h' _; exact h2 (.inl ⟨h, h'⟩)
      have t2 : ((s.extract a (a + 2)).toList == [60, 61]) = false := by
        rw [HT.out, beq_eq_false_iff_ne]; intro h; injection h with h h'; injection h' with h' _; exact h2 (.inr (.inl ⟨h, h'⟩))
      have t3 : ((s.extract a (a + 2)).toList == [62, 61]) = false := by
        rw [HT.out, beq_eq_false_iff_ne]; intro h; injection h with h h'; injection h' with h' _; exact h2 (.inr (.inr ⟨h, h'⟩))
      clear h2
      go_enter Tryd.func48, Tryd.ntmps48
      go_wp2_with fail
      go_loopw [7] (fun i wr => ∃ k : Nat, k ≤ 13 ∧ i = .int .i64 k ∧ (∀ j (hj : j < 13), j < k → symB[j]'hj ≠ s[a]) ∧ Ext w wr) (fun i _ => 13 - (intOf i).toNat)
      case atStart => exact ⟨0, Nat.zero_le _, rfl, fun j _ hj => absurd hj (Nat.not_lt_zero _), Ext.refl _⟩
      case round =>
        obtain ⟨k, hk, rfl, hno, hxr⟩ := hrel
        have HNO := hid hno
        clear hno
        by_cases hlt : k < 13
        · go_wp2_with fail
          go_region
          go_wp2_with fail
          · rename_i hbt
            have e : symB[k]'hlt = s[a] := num_ext _ _ (by have := eq_of_beq hbt; exact Int.ofNat.inj this)
            go_ret
            exact ⟨ret_int (by rw [HS1.out, if_pos (by rw [← e]; exact symB_at k hlt)]; rfl), hxr.drew⟩
          · rename_i hbt
            have e : symB[k]'hlt ≠ s[a] := fun e => by
              have h2 : ((((symB[k]'hlt).toNat : Nat) : Int) == (s[a].toNat : Int)) = false := hbt
              rw [e] at h2
              simp at h2
            go_roundw
            case rel =>
              refine ⟨k + 1, by omega, by go_num, fun j hj hjk => ?_, hxr.drew⟩
              rcases Nat.lt_or_ge j k with h | h
              · exact HNO.out j hj h
              · obtain rfl : j = k := by omega
                exact e
            case measure => simp [intOf]; omega
        · go_wp2_with fail
          go_ret
          obtain rfl : k = 13 := by omega
          exact ⟨ret_int (by rw [HS1.out, if_neg (syms_idx _ fun j hj => HNO.out j hj hj)]; rfl), hxr⟩
  · have HS1 : Hid (symN (s.data.toList.drop a) = if s[a] ∈ syms then 1 else 0) := by
      unfold Hid
      rw [HD.out]
      refine sym_one _ _ fun d q e => ?_
      rw [List.drop_of_length_le (by rw [lst_len]; omega)] at e
      cases e
    go_enter Tryd.func48, Tryd.ntmps48
    go_wp2_with fail
    go_loopw [7] (fun i wr => ∃ k : Nat, k ≤ 13 ∧ i = .int .i64 k ∧ (∀ j (hj : j < 13), j < k → symB[j]'hj ≠ s[a]) ∧ Ext w wr) (fun i _ => 13 - (intOf i).toNat)
    case atStart => exact ⟨0, Nat.zero_le _, rfl, fun j _ hj => absurd hj (Nat.not_lt_zero _), Ext.refl _⟩
    case round =>
      obtain ⟨k, hk, rfl, hno, hxr⟩ := hrel
      have HNO := hid hno
      clear hno
      by_cases hlt : k < 13
      · go_wp2_with fail
        go_region
        go_wp2_with fail
        · rename_i hbt
          have e : symB[k]'hlt = s[a] := num_ext _ _ (by have := eq_of_beq hbt; exact Int.ofNat.inj this)
          go_ret
          exact ⟨ret_int (by rw [HS1.out, if_pos (by rw [← e]; exact symB_at k hlt)]; rfl), hxr.drew⟩
        · rename_i hbt
          have e : symB[k]'hlt ≠ s[a] := fun e => by
            have h2 : ((((symB[k]'hlt).toNat : Nat) : Int) == (s[a].toNat : Int)) = false := hbt
            rw [e] at h2
            simp at h2
          go_roundw
          case rel =>
            refine ⟨k + 1, by omega, by go_num, fun j hj hjk => ?_, hxr.drew⟩
            rcases Nat.lt_or_ge j k with h | h
            · exact HNO.out j hj h
            · obtain rfl : j = k := by omega
              exact e
          case measure => simp [intOf]; omega
      · go_wp2_with fail
        go_ret
        obtain rfl : k = 13 := by omega
        exact ⟨ret_int (by rw [HS1.out, if_neg (syms_idx _ fun j hj => HNO.out j hj hj)]; rfl), hxr⟩
end Go.Proofs.YtmnjfhjhbjhmhaaDoor
