/-
  Walks over the laws of the value package: ValueCompare, ValueTruth.
-/
import Derived.Test.YtkldgehnioapcaaDoorW7
namespace Go.Proofs.YtkldgehnioapcaaDoor
open Go.RowKit
set_option maxHeartbeats 2000000
set_option maxRecDepth 100000

set_option linter.unusedVariables false in
theorem law_compare (k1 n1 : Int) (t1 : ByteArray) (k2 n2 : Int) (t2 : ByteArray) (w : World) (b1 : -9223372036854775808 ≤ k1 ∧ k1 ≤ 9223372036854775807) (b2 : -9223372036854775808 ≤ n1 ∧ n1 ≤ 9223372036854775807) (s1 : t1.size ≤ maxLen)
    (b3 : -9223372036854775808 ≤ k2 ∧ k2 ≤ 9223372036854775807) (b4 : -9223372036854775808 ≤ n2 ∧ n2 ≤ 9223372036854775807) (s2 : t2.size ≤ maxLen) (hw : Sh w) :
    Calls Tryd.prog 3 #[.agg #[.int .i64 k1, .int .i64 n1, .string t1], .agg #[.int .i64 k2, .int .i64 n2, .string t2]] w fun e w' => e = .returned (.bool true) ∧ Ext w w' := by
  have HW := hid hw
  clear hw b1 b2 b3 b4
  unfold maxLen at s1 s2
  by_cases h1 : 100 < t1.size
  · have d1 : decide (100 < (t1.size : Int)) = true := by simp; omega
    clear h1
    go_enter Tryd.func3, Tryd.ntmps3
    go_wp2_with fail
    refine (awake_any _ (HW.out.ext (((Ext.refl w).alloc _).alloc _))).mono ?_
    rintro e w1 ⟨rfl, hx1⟩
    obtain ⟨c0, c1, c2, c3, c4, c5⟩ := box33 hx1
    have HX1 : Hid (Ext w w1) := (((Ext.refl w).alloc _).alloc _).trans hx1
    have HBX := hid hx1
    clear hx1
    go_wp2_with fail
    refine (long_any k1 n1 t1 _).mono ?_
    rintro e w2 ⟨rfl, hx2⟩
    clear c0 c1 c2 c3 c4 c5
    obtain ⟨c0, c1, c2, c3, c4, c5⟩ := box33 (HBX.out.trans hx2)
    have HX2 : Hid (Ext w w2) := HX1.out.trans hx2
    have HBX2 := hid (HBX.out.trans hx2)
    clear hx2 HX1 HBX
    rw [d1]
    go_wp2_with fail
    refine (awake_any _ (HW.out.ext HX2.out)).mono ?_
    rintro e w9 ⟨rfl, hx9⟩
    go_wp2_with fail
    go_ret
    exact ⟨rfl, HX2.out.trans hx9⟩

  · have d1 : decide (100 < (t1.size : Int)) = false := by simp; omega
    by_cases h2 : 100 < t2.size
    · have d2 : decide (100 < (t2.size : Int)) = true := by simp; omega
      clear h1 h2
      go_enter Tryd.func3, Tryd.ntmps3
      go_wp2_with fail
      refine (awake_any _ (HW.out.ext (((Ext.refl w).alloc _).alloc _))).mono ?_
      rintro e w1 ⟨rfl, hx1⟩
      obtain ⟨c0, c1, c2, c3, c4, c5⟩ := box33 hx1
      have HX1 : Hid (Ext w w1) := (((Ext.refl w).alloc _).alloc _).trans hx1
      have HBX := hid hx1
      clear hx1
      go_wp2_with fail
      refine (long_any k1 n1 t1 _).mono ?_
      rintro e w2 ⟨rfl, hx2⟩
      clear c0 c1 c2 c3 c4 c5
      obtain ⟨c0, c1, c2, c3, c4, c5⟩ := box33 (HBX.out.trans hx2)
      have HX2 : Hid (Ext w w2) := HX1.out.trans hx2
      have HBX2 := hid (HBX.out.trans hx2)
      clear hx2 HX1 HBX
      rw [d1]
      go_wp2_with fail
      refine (long_any k2 n2 t2 _).mono ?_
      rintro e w3 ⟨rfl, hx3⟩
      clear c0 c1 c2 c3 c4 c5
      obtain ⟨c0, c1, c2, c3, c4, c5⟩ := box33 (HBX2.out.trans hx3)
      have HX3 : Hid (Ext w w3) := HX2.out.trans hx3
      have HBX3 := hid (HBX2.out.trans hx3)
      clear hx3 HX2 HBX2
      rw [d2]
      go_wp2_with fail
      refine (awake_any _ (HW.out.ext HX3.out)).mono ?_
      rintro e w9 ⟨rfl, hx9⟩
      go_wp2_with fail
      go_ret
      exact ⟨rfl, HX3.out.trans hx9⟩

    · have d2 : decide (100 < (t2.size : Int)) = false := by simp; omega
      have S1 : Hid (t1.size ≤ 100) := by unfold Hid; omega
      have S2 : Hid (t2.size ≤ 100) := by unfold Hid; omega
      clear h1 h2 s1 s2
      go_enter Tryd.func3, Tryd.ntmps3
      go_wp2_with fail
      refine (awake_any _ (HW.out.ext (((Ext.refl w).alloc _).alloc _))).mono ?_
      rintro e w1 ⟨rfl, hx1⟩
      obtain ⟨c0, c1, c2, c3, c4, c5⟩ := box33 hx1
      have HX1 : Hid (Ext w w1) := (((Ext.refl w).alloc _).alloc _).trans hx1
      have HBX := hid hx1
      clear hx1
      go_wp2_with fail
      refine (long_any k1 n1 t1 _).mono ?_
      rintro e w2 ⟨rfl, hx2⟩
      clear c0 c1 c2 c3 c4 c5
      obtain ⟨c0, c1, c2, c3, c4, c5⟩ := box33 (HBX.out.trans hx2)
      have HX2 : Hid (Ext w w2) := HX1.out.trans hx2
      have HBX2 := hid (HBX.out.trans hx2)
      clear hx2 HX1 HBX
      rw [d1]
      go_wp2_with fail
      refine (long_any k2 n2 t2 _).mono ?_
      rintro e w3 ⟨rfl, hx3⟩
      clear c0 c1 c2 c3 c4 c5
      obtain ⟨c0, c1, c2, c3, c4, c5⟩ := box33 (HBX2.out.trans hx3)
      have HX3 : Hid (Ext w w3) := HX2.out.trans hx3
      have HBX3 := hid (HBX2.out.trans hx3)
      clear hx3 HX2 HBX2
      rw [d2]
      clear d1 d2
      have l0 := Later.keep c0
      have l1 := Later.keep c1
      have l2 := Later.keep c2
      have l3 := Later.keep c3
      have l4 := Later.keep c4
      have l5 := Later.keep c5
      go_wp2_with fail
      refine wp_region_later (by kernel_rfl) (by kernel_rfl) ?_
      repeat (go_big_quiet_step (((first | (go_at_call 13; exact later_of (valid_any k1 n1 t1 _ (by have := S1.out; omega))) | (go_at_call 14; exact later_of (rvalid_any k1 n1 t1 _ (by have := S1.out; omega))) | (go_at_call 15; exact later_of (compare_any k1 n1 k2 n2 t1 t2 _)) | (go_at_call 16; exact later_of (rcompare_any k1 n1 k2 n2 t1 t2 _ (by have := S1.out; omega) (by have := S2.out; omega)))))))
      refine wpQuiet_nil ?_
      intro w' hw'
      have hx := later_out hw'
      clear hw' l0 l1 l2 l3 l4 l5
      go_wp2_with fail
      go_ret
      exact ⟨ret_bool (by simp), HX3.out.trans hx⟩


set_option linter.unusedVariables false in
theorem law_truth (k1 n1 : Int) (t1 : ByteArray) (k2 n2 : Int) (t2 : ByteArray) (w : World) (b1 : -9223372036854775808 ≤ k1 ∧ k1 ≤ 9223372036854775807) (b2 : -9223372036854775808 ≤ n1 ∧ n1 ≤ 9223372036854775807) (s1 : t1.size ≤ maxLen)
    (b3 : -9223372036854775808 ≤ k2 ∧ k2 ≤ 9223372036854775807) (b4 : -9223372036854775808 ≤ n2 ∧ n2 ≤ 9223372036854775807) (s2 : t2.size ≤ maxLen) (hw : Sh w) :
    Calls Tryd.prog 5 #[.agg #[.int .i64 k1, .int .i64 n1, .string t1], .agg #[.int .i64 k2, .int .i64 n2, .string t2]] w fun e w' => e = .returned (.bool true) ∧ Ext w w' := by
  have HW := hid hw
  clear hw b1 b2 b3 b4
  unfold maxLen at s1 s2
  by_cases h1 : 100 < t1.size
  · have d1 : decide (100 < (t1.size : Int)) = true := by simp; omega
    clear h1
    go_enter Tryd.func5, Tryd.ntmps5
    go_wp2_with fail
    refine (awake_any _ (HW.out.ext (((Ext.refl w).alloc _).alloc _))).mono ?_
    rintro e w1 ⟨rfl, hx1⟩
    obtain ⟨c0, c1, c2, c3, c4, c5⟩ := box33 hx1
    have HX1 : Hid (Ext w w1) := (((Ext.refl w).alloc _).alloc _).trans hx1
    have HBX := hid hx1
    clear hx1
    go_wp2_with fail
    refine (long_any k1 n1 t1 _).mono ?_
    rintro e w2 ⟨rfl, hx2⟩
    clear c0 c1 c2 c3 c4 c5
    obtain ⟨c0, c1, c2, c3, c4, c5⟩ := box33 (HBX.out.trans hx2)
    have HX2 : Hid (Ext w w2) := HX1.out.trans hx2
    have HBX2 := hid (HBX.out.trans hx2)
    clear hx2 HX1 HBX
    rw [d1]
    go_wp2_with fail
    refine (awake_any _ (HW.out.ext HX2.out)).mono ?_
    rintro e w9 ⟨rfl, hx9⟩
    go_wp2_with fail
    go_ret
    exact ⟨rfl, HX2.out.trans hx9⟩

  · have d1 : decide (100 < (t1.size : Int)) = false := by simp; omega
    by_cases h2 : 100 < t2.size
    · have d2 : decide (100 < (t2.size : Int)) = true := by simp; omega
      clear h1 h2
      go_enter Tryd.func5, Tryd.ntmps5
      go_wp2_with fail
      refine (awake_any _ (HW.out.ext (((Ext.refl w).alloc _).alloc _))).mono ?_
      rintro e w1 ⟨rfl, hx1⟩
      obtain ⟨c0, c1, c2, c3, c4, c5⟩ := box33 hx1
      have HX1 : Hid (Ext w w1) := (((Ext.refl w).alloc _).alloc _).trans hx1
      have HBX := hid hx1
      clear hx1
      go_wp2_with fail
      refine (long_any k1 n1 t1 _).mono ?_
      rintro e w2 ⟨rfl, hx2⟩
      clear c0 c1 c2 c3 c4 c5
      obtain ⟨c0, c1, c2, c3, c4, c5⟩ := box33 (HBX.out.trans hx2)
      have HX2 : Hid (Ext w w2) := HX1.out.trans hx2
      have HBX2 := hid (HBX.out.trans hx2)
      clear hx2 HX1 HBX
      rw [d1]
      go_wp2_with fail
      refine (long_any k2 n2 t2 _).mono ?_
      rintro e w3 ⟨rfl, hx3⟩
      clear c0 c1 c2 c3 c4 c5
      obtain ⟨c0, c1, c2, c3, c4, c5⟩ := box33 (HBX2.out.trans hx3)
      have HX3 : Hid (Ext w w3) := HX2.out.trans hx3
      have HBX3 := hid (HBX2.out.trans hx3)
      clear hx3 HX2 HBX2
      rw [d2]
      go_wp2_with fail
      refine (awake_any _ (HW.out.ext HX3.out)).mono ?_
      rintro e w9 ⟨rfl, hx9⟩
      go_wp2_with fail
      go_ret
      exact ⟨rfl, HX3.out.trans hx9⟩

    · have d2 : decide (100 < (t2.size : Int)) = false := by simp; omega
      have S1 : Hid (t1.size ≤ 100) := by unfold Hid; omega
      have S2 : Hid (t2.size ≤ 100) := by unfold Hid; omega
      clear h1 h2 s1 s2
      go_enter Tryd.func5, Tryd.ntmps5
      go_wp2_with fail
      refine (awake_any _ (HW.out.ext (((Ext.refl w).alloc _).alloc _))).mono ?_
      rintro e w1 ⟨rfl, hx1⟩
      obtain ⟨c0, c1, c2, c3, c4, c5⟩ := box33 hx1
      have HX1 : Hid (Ext w w1) := (((Ext.refl w).alloc _).alloc _).trans hx1
      have HBX := hid hx1
      clear hx1
      go_wp2_with fail
      refine (long_any k1 n1 t1 _).mono ?_
      rintro e w2 ⟨rfl, hx2⟩
      clear c0 c1 c2 c3 c4 c5
      obtain ⟨c0, c1, c2, c3, c4, c5⟩ := box33 (HBX.out.trans hx2)
      have HX2 : Hid (Ext w w2) := HX1.out.trans hx2
      have HBX2 := hid (HBX.out.trans hx2)
      clear hx2 HX1 HBX
      rw [d1]
      go_wp2_with fail
      refine (long_any k2 n2 t2 _).mono ?_
      rintro e w3 ⟨rfl, hx3⟩
      clear c0 c1 c2 c3 c4 c5
      obtain ⟨c0, c1, c2, c3, c4, c5⟩ := box33 (HBX2.out.trans hx3)
      have HX3 : Hid (Ext w w3) := HX2.out.trans hx3
      have HBX3 := hid (HBX2.out.trans hx3)
      clear hx3 HX2 HBX2
      rw [d2]
      clear d1 d2
      have l0 := Later.keep c0
      have l1 := Later.keep c1
      have l2 := Later.keep c2
      have l3 := Later.keep c3
      have l4 := Later.keep c4
      have l5 := Later.keep c5
      go_wp2_with fail
      refine wp_region_later (by kernel_rfl) (by kernel_rfl) ?_
      repeat (go_big_quiet_step (((first | (go_at_call 17; exact later_of (equal_any k1 n1 k2 n2 t1 t2 _)) | (go_at_call 18; exact later_of (requal_any k1 n1 k2 n2 t1 t2 _ (by have := S1.out; omega) (by have := S2.out; omega))) | (go_at_call 19; exact later_of (less_any k1 n1 k2 n2 t1 t2 _)) | (go_at_call 20; exact later_of (rless_any k1 n1 k2 n2 t1 t2 _ (by have := S1.out; omega) (by have := S2.out; omega)))))))
      refine wpQuiet_nil ?_
      intro w' hw'
      have hx := later_out hw'
      clear hw' l0 l1 l2 l3 l4 l5
      go_wp2_with fail
      go_ret
      exact ⟨ret_bool (by simp), HX3.out.trans hx⟩


end Go.Proofs.YtkldgehnioapcaaDoor
