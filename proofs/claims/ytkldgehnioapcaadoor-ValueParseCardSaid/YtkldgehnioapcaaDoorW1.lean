/-
  Walks over the value package and its reference: comparisons.
-/
import Derived.Test.YtkldgehnioapcaaDoorRows
import Derived.Test.YtkldgehnioapcaaDoorPure
import Derived.Test.YtkldgehnioapcaaDoorShelf
namespace Go.Proofs.YtkldgehnioapcaaDoor
open Go.RowKit
set_option maxHeartbeats 1000000
set_option maxRecDepth 100000

theorem cmpint_any (x y : Int) (w : World) : Calls Tryd.prog 37 #[.int .i64 x, .int .i64 y] w fun e w' => e = .returned (.int .i64 (cmpI x y)) ∧ w = w' := by
  go_enter Tryd.func37, Tryd.ntmps37
  go_wp2
  all_goals
    go_ret
    refine ⟨ret_int ?_, rfl⟩
    unfold cmpI
    grind
theorem cmp64_any (x y : Int) (w : World) : Calls Tryd.prog 38 #[.int .i64 x, .int .i64 y] w fun e w' => e = .returned (.int .i64 (cmpI x y)) ∧ w = w' := by
  go_enter Tryd.func38, Tryd.ntmps38
  go_wp2
  all_goals
    go_ret
    refine ⟨ret_int ?_, rfl⟩
    unfold cmpI
    grind
theorem ints_any (x y : Int) (w : World) : Calls Tryd.prog 40 #[.int .i64 x, .int .i64 y] w fun e w' => e = .returned (.int .i64 (cmpI x y)) ∧ w = w' := by
  go_enter Tryd.func40, Tryd.ntmps40
  go_wp2
  all_goals
    go_ret
    refine ⟨ret_int ?_, rfl⟩
    unfold cmpI
    grind

def or3 (x y z : Int) : Int := if x = 0 then (if y = 0 then z else y) else x
theorem or_any (g : Nat) (x y z : Int) (w : World) (hb : Blk w g 3 [.int .i64 x, .int .i64 y, .int .i64 z]) :
    Calls Tryd.prog 36 #[.slice (some ⟨g, 0, none⟩) 3 3] w fun e w' => e = .returned (.int .i64 (or3 x y z)) ∧ w = w' := by
  have h0 := hb.cell_some (i := 0) (v := .int .i64 x) rfl
  have h1 := hb.cell_some (i := 1) (v := .int .i64 y) rfl
  have h2 := hb.cell_some (i := 2) (v := .int .i64 z) rfl
  have hr : Hid (or3 x y z = if x = 0 then (if y = 0 then z else y) else x) := rfl
  clear hb
  go_enter Tryd.func36, Tryd.ntmps36
  go_wp2_with fail
  go_loop [8] (fun i => ∃ k : Nat, k ≤ 3 ∧ i = .int .i64 k ∧ (0 < k → x = 0) ∧ (1 < k → y = 0) ∧ (2 < k → z = 0)) (fun i => 3 - (intOf i).toNat)
  case atStart => exact ⟨0, by omega, rfl, by omega, by omega, by omega⟩
  case round =>
    obtain ⟨k, hk, rfl, e0, e1, e2⟩ := hrel
    have E0 := hid e0
    have E1 := hid e1
    have E2 := hid e2
    clear e0 e1 e2
    obtain rfl | rfl | rfl | rfl : k = 0 ∨ k = 1 ∨ k = 2 ∨ k = 3 := by omega
    · by_cases hx : x = 0
      · have hb1 : (x != 0) = false := by simp [hx]
        have HX := hid hx
        clear hx
        go_wp2_with fail
        go_round
        case rel => exact ⟨1, by omega, rfl, fun _ => HX.out, by omega, by omega⟩
        case measure => simp [intOf]
      · have hb1 : (x != 0) = true := by simp [hx]
        have HX : Hid (¬ x = 0) := hx
        clear hx
        go_wp2_with fail
        go_ret
        exact ⟨ret_int (by rw [hr.out, if_neg HX.out]), rfl⟩
    · by_cases hx : y = 0
      · have hb1 : (y != 0) = false := by simp [hx]
        have HX := hid hx
        clear hx
        go_wp2_with fail
        go_round
        case rel => exact ⟨2, by omega, rfl, fun _ => E0.out (by omega), fun _ => HX.out, by omega⟩
        case measure => simp [intOf]
      · have hb1 : (y != 0) = true := by simp [hx]
        have HX : Hid (¬ y = 0) := hx
        clear hx
        go_wp2_with fail
        go_ret
        exact ⟨ret_int (by rw [hr.out, if_pos (E0.out (by omega)), if_neg HX.out]), rfl⟩
    · by_cases hx : z = 0
      · have hb1 : (z != 0) = false := by simp [hx]
        have HX := hid hx
        clear hx
        go_wp2_with fail
        go_round
        case rel => exact ⟨3, by omega, rfl, fun _ => E0.out (by omega), fun _ => E1.out (by omega), fun _ => HX.out⟩
        case measure => simp [intOf]
      · have hb1 : (z != 0) = true := by simp [hx]
        have HX : Hid (¬ z = 0) := hx
        clear hx
        go_wp2_with fail
        go_ret
        exact ⟨ret_int (by rw [hr.out, if_pos (E0.out (by omega)), if_pos (E1.out (by omega))]), rfl⟩
    · go_wp2_with fail
      go_ret
      exact ⟨ret_int (by rw [hr.out, if_pos (E0.out (by omega)), if_pos (E1.out (by omega)), E2.out (by omega)]), rfl⟩

theorem or3_cmp (a b : Val) : or3 (cmpI a.k b.k) (cmpI a.n b.n) (Lib.compareBytes a.txt b.txt) = cmpV a b := by
  unfold or3 cmpV
  by_cases h1 : a.k = b.k
  · rw [if_pos ((cmpI_zero _ _).2 h1), if_pos h1]
    by_cases h2 : a.n = b.n
    · rw [if_pos ((cmpI_zero _ _).2 h2), if_pos h2]
    · rw [if_neg (fun h => h2 ((cmpI_zero _ _).1 h)), if_neg h2]
  · rw [if_neg (fun h => h1 ((cmpI_zero _ _).1 h)), if_neg h1]


end Go.Proofs.YtkldgehnioapcaaDoor
