/-
  Walks: names.
-/
import Derived.Test.YtcdnodjcnofogaaGreatDoorW6
import Derived.Test.YtcdnodjcnofogaaGreatDoorKw
import Derived.Test.YtcdnodjcnofogaaGreatDoorShelf
namespace Go.Proofs.YtcdnodjcnofogaaGreatDoor
open Go.RowKit
set_option linter.unusedVariables false
set_option linter.unusedSimpArgs false
set_option maxHeartbeats 4000000
set_option maxRecDepth 100000

/-- the library's variable holds some int -/
def Sh (w : World) : Prop := ∃ m, w.cell? ⟨0, 0, none⟩ = some (.int .i64 m)
theorem Sh.ext {w w' : World} (h : Sh w) (hx : Ext w w') : Sh w' := by
  obtain ⟨m, h⟩ := h
  exact ⟨m, hx.keep h⟩
theorem contains_any (K s : ByteArray) (w : World) (hw : Sh w) (hK : K = ⟨(kwText.map UInt8.ofNat).toArray⟩) :
    Calls Tryz.prog 115 #[.string K, .string (⟨#[32]⟩ ++ s ++ ⟨#[32]⟩)] w fun r w' => r = .returned (.bool (kwIn s)) ∧ w = w' := by
  obtain ⟨m, hm⟩ := hw
  subst hK
  refine (Tryz.strings_Contains _ _ m w (by show ((kwText.map UInt8.ofNat).toArray).size < _; decide +kernel) hm).mono ?_
  rintro e w' ⟨rfl, rfl⟩
  exact ⟨rfl, rfl⟩
theorem name_len0 {s : ByteArray} (h : s.size = 0) : nameB s = false := by
  unfold nameB
  rw [show N s = [] from List.eq_nil_of_length_eq_zero (by rw [N_len]; exact h)]
  rfl
theorem name_long {s : ByteArray} (h : ¬ s.size ≤ 24) : nameB s = false := by
  unfold nameB nameL
  rw [N_len]
  simp [h]
theorem N_head {s : ByteArray} (h : 0 < s.size) : ∃ r, N s = s[0].toNat :: r := by
  have h1 := N_get s 0 h
  cases hN : N s with
  | nil => rw [hN] at h1; cases h1
  | cons a l => rw [hN] at h1; simp at h1; rw [h1]; exact ⟨l, rfl⟩
theorem name_first {s : ByteArray} (h : 0 < s.size) (h1 : isLow s[0].toNat = false) : nameB s = false := by
  obtain ⟨r, hr⟩ := N_head h
  unfold nameB nameL
  rw [hr]
  simp only [fstLow]
  rw [h1]; rfl
theorem name_any (s : ByteArray) (w : World) (hw : Sh w) (hm : s.size ≤ 9223372036854775807) : Calls Tryz.prog 71 #[.string s] w fun r w' => r = .returned (.bool (nameB s)) ∧ w = w' := by
  by_cases h0 : s.size = 0
  · have hL := name_len0 h0
    rw [hL]
    obtain rfl := empty_yes h0
    clear h0 hL
    go_enter Tryz.func71, Tryz.ntmps71
    go_wp2_with fail
    go_ret
    exact ⟨rfl, rfl⟩
  · have hne := empty_no h0
    have hne2 := empty_no2 h0
    have hpos : 0 < s.size := by omega
    by_cases h24 : s.size ≤ 24
    · have d24 : decide ((24 : Int) < (s.size : Int)) = false := by simp; omega
      have hsz : s.size ≤ 1000 := by omega
      by_cases h1 : 97 ≤ s[0].toNat
      · have d1 : decide ((s[0].toNat : Int) < (97 : Int)) = false := by simp; omega
        by_cases h2 : s[0].toNat ≤ 122
        · have d2 : decide ((122 : Int) < (s[0].toNat : Int)) = false := by simp; omega
          have HLow : Hid (isLow s[0].toNat = true) := by unfold Hid isLow; simp [h1, h2]
          have HC := hid (fun K => contains_any K s w hw)
          obtain ⟨b, hb⟩ : ∃ b, kwIn s = b := ⟨_, rfl⟩
          rw [hb] at HC
          cases b
          · have HN : Hid (nameB s = (N s).all isNmC) := by
              obtain ⟨r, hr⟩ := N_head hpos
              exact name_nokw hb _ r hr HLow.out h24
            clear hb h1 h2 hw h24
            go_enter Tryz.func71, Tryz.ntmps71
            go_wp2_with (go_at_call 115; refine (HC.out _ ?hk1).mono ?_; (case hk1 => kernel_rfl); rintro _ w2 ⟨rfl, rfl⟩)
            go_loop [3, 4, 30] (fun _ _ i => ∃ k : Nat, k ≤ s.size ∧ i = .int .i64 k ∧ ((N s).take k).all isNmC = true) (fun _ _ i => s.size - (intOf i).toNat)
            case atStart => exact ⟨0, Nat.zero_le _, rfl, rfl⟩
            case round =>
              obtain ⟨k, hk, rfl, hv⟩ := hrel
              have HV := hid hv
              clear hv
              by_cases hlt : k < s.size
              · have HS : Hid (isNmC s[k].toNat = true → ((N s).take (k + 1)).all isNmC = true) := fun h => all_step hlt HV.out h
                have HF : Hid (isNmC s[k].toNat = false → (N s).all isNmC = false) := fun h => all_no hlt h
                have HI : Hid (isNmC s[k].toNat = (decide (97 ≤ s[k].toNat) && decide (s[k].toNat ≤ 122) || s[k].toNat == 95 || decide (48 ≤ s[k].toNat) && decide (s[k].toNat ≤ 57))) := rfl
                go_wp2_with fail
                all_goals first
                  | (go_round
                     case rel =>
                       refine ⟨k + 1, by omega, by go_num, HS.out ?_⟩
                       rw [HI.out]
                       simp only [beq_iff_eq, bne_iff_ne, ne_eq, beq_eq_false_iff_ne, bne_eq_false_iff_eq, decide_eq_true_eq, decide_eq_false_iff_not, Bool.or_eq_true, Bool.and_eq_true] at *
                       omega
                     case measure => simp [intOf]; omega)
                  | (go_ret
                     refine ⟨ret_bool ?_, rfl⟩
                     rw [HN.out]
                     symm
                     apply HF.out
                     rw [HI.out, ← Bool.not_eq_true]
                     simp only [beq_iff_eq, bne_iff_ne, ne_eq, beq_eq_false_iff_ne, bne_eq_false_iff_eq, decide_eq_true_eq, decide_eq_false_iff_not, Bool.or_eq_true, Bool.and_eq_true] at *
                     omega)
              · have HP : Hid ((N s).all isNmC = true) := all_end (by omega) HV.out
                go_wp2_with fail
                go_ret
                exact ⟨ret_bool (by rw [HN.out, HP.out]), rfl⟩
          · have HN : Hid (nameB s = false) := name_kw hb
            clear hb h1 h2 hw h24
            go_enter Tryz.func71, Tryz.ntmps71
            go_wp2_with (go_at_call 115; refine (HC.out _ ?hk1).mono ?_; (case hk1 => kernel_rfl); rintro _ w2 ⟨rfl, rfl⟩)
            go_ret
            exact ⟨ret_bool HN.out.symm, rfl⟩
        · have HN : Hid (nameB s = false) := name_first hpos (by unfold isLow; simp [h2])
          have d2 : decide ((122 : Int) < (s[0].toNat : Int)) = true := by simp; omega
          clear h1 h2 hw h24
          go_enter Tryz.func71, Tryz.ntmps71
          go_wp2_with fail
          go_ret
          exact ⟨ret_bool HN.out.symm, rfl⟩
      · have HN : Hid (nameB s = false) := name_first hpos (by unfold isLow; simp [h1])
        have d1 : decide ((s[0].toNat : Int) < (97 : Int)) = true := by simp; omega
        clear h1 hw h24
        go_enter Tryz.func71, Tryz.ntmps71
        go_wp2_with fail
        go_ret
        exact ⟨ret_bool HN.out.symm, rfl⟩
    · have HN : Hid (nameB s = false) := name_long h24
      have d24 : decide ((24 : Int) < (s.size : Int)) = true := by simp; omega
      clear hw h24
      go_enter Tryz.func71, Tryz.ntmps71
      go_wp2_with fail
      go_ret
      exact ⟨ret_bool HN.out.symm, rfl⟩
end Go.Proofs.YtcdnodjcnofogaaGreatDoor
