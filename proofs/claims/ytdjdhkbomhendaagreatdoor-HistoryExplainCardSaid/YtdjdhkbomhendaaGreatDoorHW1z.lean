/-
  Walks over history: the names of the kinds, the numbers of a kind.
-/
import Derived.Test.YtdjdhkbomhendaaGreatDoorGe
import Derived.Test.YtdjdhkbomhendaaGreatDoorGj
import Derived.Test.YtdjdhkbomhendaaGreatDoorGi
namespace Go.Proofs.YtdjdhkbomhendaaGreatDoor
set_option linter.unusedVariables false
set_option linter.unusedSimpArgs false
open Go.RowKit
set_option maxHeartbeats 4000000
set_option maxRecDepth 100000

theorem numbers_any (k : Int) (w : World) : Calls Tryz.prog 55 #[.int .i64 k] w fun e w' => e = .returned (.int .i64 (if 11 ≤ k ∧ k ≤ 13 then 0 else if k = 5 ∨ k = 7 ∨ k = 10 then 4 else 3)) ∧ w' = w := by
  have hc : k = 11 ∨ k = 12 ∨ k = 13 ∨ k = 5 ∨ k = 7 ∨ k = 10 ∨ (¬ k = 11 ∧ ¬ k = 12 ∧ ¬ k = 13 ∧ ¬ k = 5 ∧ ¬ k = 7 ∧ ¬ k = 10) := by omega
  rcases hc with rfl | rfl | rfl | rfl | rfl | rfl | ⟨h1, h2, h3, h4, h5, h6⟩
  · go_enter Tryz.func55, Tryz.ntmps55
    go_wp2_with fail
    exact bodyPost_ret (v := .int .i64 0) (by simp [results, Tryz.results55, go_sem]) rfl ⟨rfl, rfl⟩
  · go_enter Tryz.func55, Tryz.ntmps55
    go_wp2_with fail
    exact bodyPost_ret (v := .int .i64 0) (by simp [results, Tryz.results55, go_sem]) rfl ⟨rfl, rfl⟩
  · go_enter Tryz.func55, Tryz.ntmps55
    go_wp2_with fail
    exact bodyPost_ret (v := .int .i64 0) (by simp [results, Tryz.results55, go_sem]) rfl ⟨rfl, rfl⟩
  · go_enter Tryz.func55, Tryz.ntmps55
    go_wp2_with fail
    exact bodyPost_ret (v := .int .i64 4) (by simp [results, Tryz.results55, go_sem]) rfl ⟨rfl, rfl⟩
  · go_enter Tryz.func55, Tryz.ntmps55
    go_wp2_with fail
    exact bodyPost_ret (v := .int .i64 4) (by simp [results, Tryz.results55, go_sem]) rfl ⟨rfl, rfl⟩
  · go_enter Tryz.func55, Tryz.ntmps55
    go_wp2_with fail
    exact bodyPost_ret (v := .int .i64 4) (by simp [results, Tryz.results55, go_sem]) rfl ⟨rfl, rfl⟩
  · have e1 : (k == 11) = false := by simp [h1]
    have e2 : (k == 12) = false := by simp [h2]
    have e3 : (k == 13) = false := by simp [h3]
    have e4 : (k == 5) = false := by simp [h4]
    have e5 : (k == 7) = false := by simp [h5]
    have e6 : (k == 10) = false := by simp [h6]
    go_enter Tryz.func55, Tryz.ntmps55
    go_wp2_with fail
    exact bodyPost_ret (v := .int .i64 3) (by simp [results, Tryz.results55, go_sem]) rfl ⟨rfl, rfl⟩
theorem int_cases {k : Int} (h0 : 0 ≤ k) (h1 : k < 14) : k = 0 ∨ k = 1 ∨ k = 2 ∨ k = 3 ∨ k = 4 ∨ k = 5 ∨ k = 6 ∨ k = 7 ∨ k = 8 ∨ k = 9 ∨ k = 10 ∨ k = 11 ∨ k = 12 ∨ k = 13 := by omega
theorem kwB_out {k : Int} (h : k < 1 ∨ 13 < k) : kwB k = ⟨#[]⟩ := by
  unfold kwB
  repeat rw [if_neg (by omega)]
theorem name_any (k : Int) (w : World) : Calls Tryz.prog 65 #[.int .i64 k] w fun e w' => e = .returned (.string (kwB k)) ∧ Ext w w' := by
  by_cases h0 : k < 0
  · have e1 : decide (k < 0) = true := decide_eq_true h0
    go_enter Tryz.func65, Tryz.ntmps65
    go_wp2_with fail
    exact bodyPost_ret (v := .string ⟨#[]⟩) (by simp [results, Tryz.results65, go_sem]) rfl ⟨by rw [kwB_out (.inl (by omega))], (Ext.refl _).alloc _⟩
  · have e1 : decide (k < 0) = false := decide_eq_false h0
    by_cases h1 : k ≥ 14
    · have e2 : decide (k ≥ 14) = true := decide_eq_true h1
      go_enter Tryz.func65, Tryz.ntmps65
      go_wp2_with fail
      exact bodyPost_ret (v := .string ⟨#[]⟩) (by simp [results, Tryz.results65, go_sem]) rfl ⟨by rw [kwB_out (.inr (by omega))], (Ext.refl _).alloc _⟩
    · rcases int_cases (k := k) (by omega) (by omega) with rfl | rfl | rfl | rfl | rfl | rfl | rfl | rfl | rfl | rfl | rfl | rfl | rfl | rfl
      all_goals
        clear e1 h0 h1
        go_enter Tryz.func65, Tryz.ntmps65
        go_wp2_with fail
        exact bodyPost_ret (v := .string (kwB _)) (by simp [results, Tryz.results65, go_sem]; rfl) rfl ⟨rfl, (Ext.refl _).alloc _⟩
end Go.Proofs.YtdjdhkbomhendaaGreatDoor
