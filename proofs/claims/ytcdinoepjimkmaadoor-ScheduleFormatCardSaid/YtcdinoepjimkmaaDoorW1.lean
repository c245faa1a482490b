/-
  Walks over the schedule package: clamp, RoundRobin.
-/
import Derived.Test.YtcdinoepjimkmaaDoorRows
import Derived.Test.YtcdinoepjimkmaaDoorActs
namespace Go.Proofs.YtcdinoepjimkmaaDoor
open Go.RowKit
set_option maxHeartbeats 1000000
set_option maxRecDepth 100000

theorem clamp_any (n m : Int) (w : World) (h0 : 0 ≤ m) : Calls Tryd.prog 23 #[.int .i64 n, .int .i64 m] w fun e w' => e = .returned (.int .i64 (cl n 0 m)) ∧ w = w' := by
  go_enter Tryd.func23, Tryd.ntmps23
  go_wp2
  all_goals
    go_ret
    refine ⟨ret_int ?_, rfl⟩
    unfold cl
    grind

theorem rclamp_any (n l m : Int) (w : World) : Calls Tryd.prog 24 #[.int .i64 n, .int .i64 l, .int .i64 m] w fun e w' => e = .returned (.int .i64 (cl n l m)) ∧ w = w' := by
  go_enter Tryd.func24, Tryd.ntmps24
  go_wp2
  all_goals
    go_ret
    refine ⟨ret_int ?_, rfl⟩
    unfold cl
    grind

theorem info29 : (Tryd.prog.info? 29).map (fun i => (i.zero, i.size, i.bytes)) = some (some (.agg #[.int .i64 0, .int .i64 0, .int .i64 0, .int .i64 0]), 4, 32) := by kernel_rfl

theorem rr_any (s r : Int) (S R : Nat) (w : World) (hS : cl s 0 8 = (S : Int)) (hR : cl r 0 10000 = (R : Int)) :
    Calls Tryd.prog 12 #[.int .i64 s, .int .i64 r] w fun e w' => ∃ v, e = .returned v ∧ w'.ownsRow w.heap.size 29 4 v (R * S) (actc (rrL S R)) ∧ Ext w w' := by
  obtain ⟨i0, hi, hz0, hz1, hz2⟩ := info_parts info29
  have hS8 : S ≤ 8 := by have := (cl_bd s 0 8 (by omega)).2; omega
  have hR8 : R ≤ 10000 := by have := (cl_bd r 0 10000 (by omega)).2; omega
  have HS := hid hS
  have HR := hid hR
  clear hS hR
  go_enter Tryd.func12, Tryd.ntmps12
  go_wp2_with fail
  refine (clamp_any s 8 _ (by omega)).mono ?_
  rintro e w' ⟨rfl, rfl⟩
  rw [HS.out]
  go_wp2_with fail
  refine (clamp_any r 10000 _ (by omega)).mono ?_
  rintro e w' ⟨rfl, rfl⟩
  rw [HR.out]
  go_wp2_with fail
  go_loopw [5, 11] (fun v i wr => ∃ k : Nat, k ≤ R ∧ i = .int .i64 k ∧ wr.ownsRow w.heap.size 29 4 v (k * S) (actc (rrL S k)) ∧ Ext w wr) (fun _ i _ => R - (intOf i).toNat)
  case atStart => exact ⟨0, Nat.zero_le _, rfl, by simpa [rrL, actc] using World.ownsRow_nil w w.heap.size 29 4, Ext.refl w⟩
  case round =>
    obtain ⟨k, hk, rfl, hown, hxr⟩ := hrel
    obtain ⟨wo, rfl⟩ : ∃ wo : World, wo = wr := ⟨_, rfl⟩
    by_cases hlt : k < R
    · have hkS : k * S + S ≤ 80000 := by
        have : k * S + S = (k + 1) * S := by rw [Nat.succ_mul]
        have : (k + 1) * S ≤ 10000 * 8 := Nat.mul_le_mul (by omega) hS8
        omega
      have HKS := hid hkS
      have HO := hid hown
      clear hkS hown
      go_wp2_with fail
      go_loopw [5, 14] (fun v j wi => ∃ m : Nat, m ≤ S ∧ j = .int .i64 m ∧ wi.ownsRow w.heap.size 29 4 v (k * S + m) (actc (rrL S k ++ rowL m)) ∧ Ext w wi) (fun _ j _ => S - (intOf j).toNat)
      case atStart => exact ⟨0, Nat.zero_le _, rfl, by simpa [rowL] using HO.out, hxr⟩
      case round =>
        obtain ⟨m, hm, rfl, hown, hxi⟩ := hrel
        by_cases hlm : m < S
        · have hb : k * S + m + 1 ≤ maxLen := by have := HKS.out; unfold maxLen; omega
          have hbb : (k * S + m + 1) * 32 ≤ 140737488355328 := by have := HKS.out; omega
          have hbe : Hid (w.heap.size ≤ wr.heap.size + 1) := by have := hxi.size; unfold Hid; omega
          have HB := hid hb
          have HBB := hid hbb
          clear hb hbb
          go_wp2_with (at_builtin; refine wpList_append_own _ rfl _ _ 24 rfl w.heap.size 29 i0 (.agg #[.int .i64 0, .int .i64 0, .int .i64 0, .int .i64 0]) 4 32 Tryd.underlying24 hi hz0 hz1 hz2 rfl (by decide) _ _ _ rfl (hown.alloc _) ⟨wr.heap.size, 0, none⟩ 1 1 (Act.cells ⟨1, m, 0, 0⟩) rfl rfl (news_new _ _ _) (by intro u hu; simp [Act.cells] at hu; rcases hu with rfl | rfl | rfl <;> rfl) HB.out HBB.out (by simpa using hbe.out) ?_; intro v' w1 hown' hgrow _)
          go_roundw
          case rel =>
            refine ⟨m + 1, by omega, by go_num, ?_, Ext.grown (hxi.alloc _) hgrow (fun g hg => own_ge hown hg)⟩
            rw [rowL_succ, ← List.append_assoc, actc_snoc]
            exact hown'
          case measure => simp [intOf]; omega
        · obtain rfl : m = S := by omega
          go_wp2_with fail
          go_roundw
          case rel =>
            refine ⟨k + 1, by omega, by go_num, ?_, hxi⟩
            rw [Nat.succ_mul]
            exact hown
          case measure => simp [intOf]; omega
    · obtain rfl : k = R := by omega
      go_wp2_with fail
      go_ret
      exact ⟨_, rfl, hown, hxr⟩

theorem rrr_any (s r : Int) (S R : Nat) (w : World) (hS : cl s 0 8 = (S : Int)) (hR : cl r 0 10000 = (R : Int)) :
    Calls Tryd.prog 14 #[.int .i64 s, .int .i64 r] w fun e w' => ∃ v, e = .returned v ∧ w'.ownsRow w.heap.size 29 4 v (R * S) (actc (rrL S R)) ∧ Ext w w' := by
  obtain ⟨i0, hi, hz0, hz1, hz2⟩ := info_parts info29
  have hS8 : S ≤ 8 := by have := (cl_bd s 0 8 (by omega)).2; omega
  have hR8 : R ≤ 10000 := by have := (cl_bd r 0 10000 (by omega)).2; omega
  have HS := hid hS
  have HR := hid hR
  clear hS hR
  go_enter Tryd.func14, Tryd.ntmps14
  go_wp2_with fail
  go_loopw [5, 6] (fun v i wr => ∃ k : Nat, k ≤ R ∧ i = .int .i64 k ∧ wr.ownsRow w.heap.size 29 4 v (k * S) (actc (rrL S k)) ∧ Ext w wr) (fun _ i _ => R - (intOf i).toNat)
  case atStart => exact ⟨0, Nat.zero_le _, rfl, by simpa [rrL, actc] using World.ownsRow_nil w w.heap.size 29 4, Ext.refl w⟩
  case round =>
    obtain ⟨k, hk, rfl, hown, hxr⟩ := hrel
    obtain ⟨wo, rfl⟩ : ∃ wo : World, wo = wr := ⟨_, rfl⟩
    by_cases hlt : k < R
    · have hkS : k * S + S ≤ 80000 := by
        have : k * S + S = (k + 1) * S := by rw [Nat.succ_mul]
        have : (k + 1) * S ≤ 10000 * 8 := Nat.mul_le_mul (by omega) hS8
        omega
      have HKS := hid hkS
      have HO := hid hown
      clear hkS hown
      go_wp2_with (go_at_call 24; refine (rclamp_any r 0 10000 _).mono ?_; rintro e w' ⟨rfl, rfl⟩; rw [HR.out])
      go_loopw [5, 7] (fun v j wi => ∃ m : Nat, m ≤ S ∧ j = .int .i64 m ∧ wi.ownsRow w.heap.size 29 4 v (k * S + m) (actc (rrL S k ++ rowL m)) ∧ Ext w wi) (fun _ j _ => S - (intOf j).toNat)
      case atStart => exact ⟨0, Nat.zero_le _, rfl, by simpa [rowL] using HO.out, hxr⟩
      case round =>
        obtain ⟨m, hm, rfl, hown, hxi⟩ := hrel
        by_cases hlm : m < S
        · have hb : k * S + m + 1 ≤ maxLen := by have := HKS.out; unfold maxLen; omega
          have hbb : (k * S + m + 1) * 32 ≤ 140737488355328 := by have := HKS.out; omega
          have hbe : Hid (w.heap.size ≤ wr.heap.size + 1) := by have := hxi.size; unfold Hid; omega
          have HB := hid hb
          have HBB := hid hbb
          clear hb hbb
          go_wp2_with (first | (go_at_call 24; refine (rclamp_any s 0 8 _).mono ?_; rintro e w' ⟨rfl, rfl⟩; rw [HS.out]) | (at_builtin; refine wpList_append_own _ rfl _ _ 24 rfl w.heap.size 29 i0 (.agg #[.int .i64 0, .int .i64 0, .int .i64 0, .int .i64 0]) 4 32 Tryd.underlying24 hi hz0 hz1 hz2 rfl (by decide) _ _ _ rfl (hown.alloc _) ⟨wr.heap.size, 0, none⟩ 1 1 (Act.cells ⟨1, m, 0, 0⟩) rfl rfl (news_new _ _ _) (by intro u hu; simp [Act.cells] at hu; rcases hu with rfl | rfl | rfl <;> rfl) HB.out HBB.out (by simpa using hbe.out) ?_; intro v' w1 hown' hgrow _))
          go_roundw
          case rel =>
            refine ⟨m + 1, by omega, by go_num, ?_, Ext.grown (hxi.alloc _) hgrow (fun g hg => own_ge hown hg)⟩
            rw [rowL_succ, ← List.append_assoc, actc_snoc]
            exact hown'
          case measure => simp [intOf]; omega
        · obtain rfl : m = S := by omega
          go_wp2_with (go_at_call 24; refine (rclamp_any s 0 8 _).mono ?_; rintro e w' ⟨rfl, rfl⟩; rw [HS.out])
          go_roundw
          case rel =>
            refine ⟨k + 1, by omega, by go_num, ?_, hxi⟩
            rw [Nat.succ_mul]
            exact hown
          case measure => simp [intOf]; omega
    · obtain rfl : k = R := by omega
      go_wp2_with (go_at_call 24; refine (rclamp_any r 0 10000 _).mono ?_; rintro e w' ⟨rfl, rfl⟩; rw [HR.out])
      go_ret
      exact ⟨_, rfl, hown, hxr⟩

end Go.Proofs.YtcdinoepjimkmaaDoor
