/-
  Walks over the laws of the value package: ValueTrichotomy.
-/
import Derived.Test.YtkldgehnioapcaaDoorW7
namespace Go.Proofs.YtkldgehnioapcaaDoor
open Go.RowKit
set_option maxHeartbeats 2000000
set_option maxRecDepth 100000

set_option linter.unusedVariables false in
theorem tri0a (k1 n1 : Int) (t1 : ByteArray) (k2 n2 : Int) (t2 : ByteArray) (w : World) (b1 : -9223372036854775808 ≤ k1 ∧ k1 ≤ 9223372036854775807) (b2 : -9223372036854775808 ≤ n1 ∧ n1 ≤ 9223372036854775807) (s1 : t1.size ≤ maxLen)
    (b3 : -9223372036854775808 ≤ k2 ∧ k2 ≤ 9223372036854775807) (b4 : -9223372036854775808 ≤ n2 ∧ n2 ≤ 9223372036854775807) (s2 : t2.size ≤ maxLen) (hw : Sh w) (e1 : ltT ⟨k1, n1, t1⟩ ⟨k2, n2, t2⟩ = 2) (e2 : eqT ⟨k1, n1, t1⟩ ⟨k2, n2, t2⟩ = 2) (e3 : ltT ⟨k2, n2, t2⟩ ⟨k1, n1, t1⟩ = 2) (f1 : (k1 == 0) = true) :
    Calls Tryd.prog 6 #[.agg #[.int .i64 k1, .int .i64 n1, .string t1], .agg #[.int .i64 k2, .int .i64 n2, .string t2]] w fun e w' => e = .returned (.bool true) ∧ Ext w w' := by
  have HW := hid hw
  clear hw b1 b2 b3 b4
  unfold maxLen at s1 s2
  by_cases h1 : 100 < t1.size
  · have d1 : decide (100 < (t1.size : Int)) = true := by simp; omega
    clear h1
    go_enter Tryd.func6, Tryd.ntmps6
    go_wp2_with fail
    refine (awake_any _ (HW.out.ext (((Ext.refl w).alloc _).alloc _))).mono ?_
    rintro e w1 ⟨rfl, hx1⟩
    obtain ⟨c0, c1, c2, c3, c4, c5⟩ := box33 hx1
    have HX1 : Hid (Ext w w1) := (((Ext.refl w).alloc _).alloc _).trans hx1
    have HBX := hid hx1
    clear hx1
    go_wp2_with fail
    refine (long_any k1 n1 t1 _).mono ?_
    rintro e w2 ⟨rfl, hx2⟩
    clear c0 c1 c2 c3 c4 c5
    obtain ⟨c0, c1, c2, c3, c4, c5⟩ := box33 (HBX.out.trans hx2)
    have HX2 : Hid (Ext w w2) := HX1.out.trans hx2
    have HBX2 := hid (HBX.out.trans hx2)
    clear hx2 HX1 HBX
    rw [d1]
    go_wp2_with fail
    refine (awake_any _ (HW.out.ext HX2.out)).mono ?_
    rintro e w9 ⟨rfl, hx9⟩
    go_wp2_with fail
    go_ret
    exact ⟨rfl, HX2.out.trans hx9⟩

  · have d1 : decide (100 < (t1.size : Int)) = false := by simp; omega
    by_cases h2 : 100 < t2.size
    · have d2 : decide (100 < (t2.size : Int)) = true := by simp; omega
      clear h1 h2
      go_enter Tryd.func6, Tryd.ntmps6
      go_wp2_with fail
      refine (awake_any _ (HW.out.ext (((Ext.refl w).alloc _).alloc _))).mono ?_
      rintro e w1 ⟨rfl, hx1⟩
      obtain ⟨c0, c1, c2, c3, c4, c5⟩ := box33 hx1
      have HX1 : Hid (Ext w w1) := (((Ext.refl w).alloc _).alloc _).trans hx1
      have HBX := hid hx1
      clear hx1
      go_wp2_with fail
      refine (long_any k1 n1 t1 _).mono ?_
      rintro e w2 ⟨rfl, hx2⟩
      clear c0 c1 c2 c3 c4 c5
      obtain ⟨c0, c1, c2, c3, c4, c5⟩ := box33 (HBX.out.trans hx2)
      have HX2 : Hid (Ext w w2) := HX1.out.trans hx2
      have HBX2 := hid (HBX.out.trans hx2)
      clear hx2 HX1 HBX
      rw [d1]
      go_wp2_with fail
      refine (long_any k2 n2 t2 _).mono ?_
      rintro e w3 ⟨rfl, hx3⟩
      clear c0 c1 c2 c3 c4 c5
      obtain ⟨c0, c1, c2, c3, c4, c5⟩ := box33 (HBX2.out.trans hx3)
      have HX3 : Hid (Ext w w3) := HX2.out.trans hx3
      have HBX3 := hid (HBX2.out.trans hx3)
      clear hx3 HX2 HBX2
      rw [d2]
      go_wp2_with fail
      refine (awake_any _ (HW.out.ext HX3.out)).mono ?_
      rintro e w9 ⟨rfl, hx9⟩
      go_wp2_with fail
      go_ret
      exact ⟨rfl, HX3.out.trans hx9⟩

    · have d2 : decide (100 < (t2.size : Int)) = false := by simp; omega
      have S1 : Hid (t1.size ≤ 100) := by unfold Hid; omega
      have S2 : Hid (t2.size ≤ 100) := by unfold Hid; omega
      clear h1 h2 s1 s2
      have HA1 : Hid (∀ W, Calls Tryd.prog 19 #[.agg #[.int .i64 k1, .int .i64 n1, .string t1], .agg #[.int .i64 k2, .int .i64 n2, .string t2]] W fun e w' => e = .returned (.int .i64 (2)) ∧ Ext W w') := fun W => by have h := less_any k1 n1 k2 n2 t1 t2 W; rwa [e1] at h
      have HA2 : Hid (∀ W, Calls Tryd.prog 17 #[.agg #[.int .i64 k1, .int .i64 n1, .string t1], .agg #[.int .i64 k2, .int .i64 n2, .string t2]] W fun e w' => e = .returned (.int .i64 (2)) ∧ Ext W w') := fun W => by have h := equal_any k1 n1 k2 n2 t1 t2 W; rwa [e2] at h
      have HA3 : Hid (∀ W, Calls Tryd.prog 19 #[.agg #[.int .i64 k2, .int .i64 n2, .string t2], .agg #[.int .i64 k1, .int .i64 n1, .string t1]] W fun e w' => e = .returned (.int .i64 (2)) ∧ Ext W w') := fun W => by have h := less_any k2 n2 k1 n1 t2 t1 W; rwa [e3] at h
      clear e1 e2 e3
      go_enter Tryd.func6, Tryd.ntmps6
      go_wp2_with fail
      refine (awake_any _ (HW.out.ext (((Ext.refl w).alloc _).alloc _))).mono ?_
      rintro e w1 ⟨rfl, hx1⟩
      obtain ⟨c0, c1, c2, c3, c4, c5⟩ := box33 hx1
      have HX1 : Hid (Ext w w1) := (((Ext.refl w).alloc _).alloc _).trans hx1
      have HBX := hid hx1
      clear hx1
      go_wp2_with fail
      refine (long_any k1 n1 t1 _).mono ?_
      rintro e w2 ⟨rfl, hx2⟩
      clear c0 c1 c2 c3 c4 c5
      obtain ⟨c0, c1, c2, c3, c4, c5⟩ := box33 (HBX.out.trans hx2)
      have HX2 : Hid (Ext w w2) := HX1.out.trans hx2
      have HBX2 := hid (HBX.out.trans hx2)
      clear hx2 HX1 HBX
      rw [d1]
      go_wp2_with fail
      refine (long_any k2 n2 t2 _).mono ?_
      rintro e w3 ⟨rfl, hx3⟩
      clear c0 c1 c2 c3 c4 c5
      obtain ⟨c0, c1, c2, c3, c4, c5⟩ := box33 (HBX2.out.trans hx3)
      have HX3 : Hid (Ext w w3) := HX2.out.trans hx3
      have HBX3 := hid (HBX2.out.trans hx3)
      clear hx3 HX2 HBX2
      rw [d2]
      clear d1 d2
      have l0 := Later.keep c0
      have l1 := Later.keep c1
      have l2 := Later.keep c2
      have l3 := Later.keep c3
      have l4 := Later.keep c4
      have l5 := Later.keep c5
      go_wp2_with fail
      refine wp_region_later (by kernel_rfl) (by kernel_rfl) ?_
      repeat (go_big_quiet_step ((first | (go_at_call 17; with_reducible exact later_of (HA2.out _)) | (go_at_call 19; with_reducible exact later_of (HA1.out _)) | (go_at_call 19; with_reducible exact later_of (HA3.out _)))))
      refine wpQuiet_nil ?_
      intro w' hw'
      have hx := later_out hw'
      clear hw' l0 l1 l2 l3 l4 l5
      have d0 := hx.keep c0
      have d1 := hx.keep c1
      have d2 := hx.keep c2
      have d3 := hx.keep c3
      have d4 := hx.keep c4
      have d5 := hx.keep c5
      clear c0 c1 c2 c3 c4 c5
      go_wp2_with fail
      go_ret
      exact ⟨rfl, HX3.out.trans hx⟩


set_option linter.unusedVariables false in
theorem tri0b (k1 n1 : Int) (t1 : ByteArray) (k2 n2 : Int) (t2 : ByteArray) (w : World) (b1 : -9223372036854775808 ≤ k1 ∧ k1 ≤ 9223372036854775807) (b2 : -9223372036854775808 ≤ n1 ∧ n1 ≤ 9223372036854775807) (s1 : t1.size ≤ maxLen)
    (b3 : -9223372036854775808 ≤ k2 ∧ k2 ≤ 9223372036854775807) (b4 : -9223372036854775808 ≤ n2 ∧ n2 ≤ 9223372036854775807) (s2 : t2.size ≤ maxLen) (hw : Sh w) (e1 : ltT ⟨k1, n1, t1⟩ ⟨k2, n2, t2⟩ = 2) (e2 : eqT ⟨k1, n1, t1⟩ ⟨k2, n2, t2⟩ = 2) (e3 : ltT ⟨k2, n2, t2⟩ ⟨k1, n1, t1⟩ = 2) (f1 : (k1 == 0) = false) (f2 : (k2 == 0) = true) :
    Calls Tryd.prog 6 #[.agg #[.int .i64 k1, .int .i64 n1, .string t1], .agg #[.int .i64 k2, .int .i64 n2, .string t2]] w fun e w' => e = .returned (.bool true) ∧ Ext w w' := by
  have HW := hid hw
  clear hw b1 b2 b3 b4
  unfold maxLen at s1 s2
  by_cases h1 : 100 < t1.size
  · have d1 : decide (100 < (t1.size : Int)) = true := by simp; omega
    clear h1
    go_enter Tryd.func6, Tryd.ntmps6
    go_wp2_with fail
    refine (awake_any _ (HW.out.ext (((Ext.refl w).alloc _).alloc _))).mono ?_
    rintro e w1 ⟨rfl, hx1⟩
    obtain ⟨c0, c1, c2, c3, c4, c5⟩ := box33 hx1
    have HX1 : Hid (Ext w w1) := (((Ext.refl w).alloc _).alloc _).trans hx1
    have HBX := hid hx1
    clear hx1
    go_wp2_with fail
    refine (long_any k1 n1 t1 _).mono ?_
    rintro e w2 ⟨rfl, hx2⟩
    clear c0 c1 c2 c3 c4 c5
    obtain ⟨c0, c1, c2, c3, c4, c5⟩ := box33 (HBX.out.trans hx2)
    have HX2 : Hid (Ext w w2) := HX1.out.trans hx2
    have HBX2 := hid (HBX.out.trans hx2)
    clear hx2 HX1 HBX
    rw [d1]
    go_wp2_with fail
    refine (awake_any _ (HW.out.ext HX2.out)).mono ?_
    rintro e w9 ⟨rfl, hx9⟩
    go_wp2_with fail
    go_ret
    exact ⟨rfl, HX2.out.trans hx9⟩

  · have d1 : decide (100 < (t1.size : Int)) = false := by simp; omega
    by_cases h2 : 100 < t2.size
    · have d2 : decide (100 < (t2.size : Int)) = true := by simp; omega
      clear h1 h2
      go_enter Tryd.func6, Tryd.ntmps6
      go_wp2_with fail
      refine (awake_any _ (HW.out.ext (((Ext.refl w).alloc _).alloc _))).mono ?_
      rintro e w1 ⟨rfl, hx1⟩
      obtain ⟨c0, c1, c2, c3, c4, c5⟩ := box33 hx1
      have HX1 : Hid (Ext w w1) := (((Ext.refl w).alloc _).alloc _).trans hx1
      have HBX := hid hx1
      clear hx1
      go_wp2_with fail
      refine (long_any k1 n1 t1 _).mono ?_
      rintro e w2 ⟨rfl, hx2⟩
      clear c0 c1 c2 c3 c4 c5
      obtain ⟨c0, c1, c2, c3, c4, c5⟩ := box33 (HBX.out.trans hx2)
      have HX2 : Hid (Ext w w2) := HX1.out.trans hx2
      have HBX2 := hid (HBX.out.trans hx2)
      clear hx2 HX1 HBX
      rw [d1]
      go_wp2_with fail
      refine (long_any k2 n2 t2 _).mono ?_
      rintro e w3 ⟨rfl, hx3⟩
      clear c0 c1 c2 c3 c4 c5
      obtain ⟨c0, c1, c2, c3, c4, c5⟩ := box33 (HBX2.out.trans hx3)
      have HX3 : Hid (Ext w w3) := HX2.out.trans hx3
      have HBX3 := hid (HBX2.out.trans hx3)
      clear hx3 HX2 HBX2
      rw [d2]
      go_wp2_with fail
      refine (awake_any _ (HW.out.ext HX3.out)).mono ?_
      rintro e w9 ⟨rfl, hx9⟩
      go_wp2_with fail
      go_ret
      exact ⟨rfl, HX3.out.trans hx9⟩

    · have d2 : decide (100 < (t2.size : Int)) = false := by simp; omega
      have S1 : Hid (t1.size ≤ 100) := by unfold Hid; omega
      have S2 : Hid (t2.size ≤ 100) := by unfold Hid; omega
      clear h1 h2 s1 s2
      have HA1 : Hid (∀ W, Calls Tryd.prog 19 #[.agg #[.int .i64 k1, .int .i64 n1, .string t1], .agg #[.int .i64 k2, .int .i64 n2, .string t2]] W fun e w' => e = .returned (.int .i64 (2)) ∧ Ext W w') := fun W => by have h := less_any k1 n1 k2 n2 t1 t2 W; rwa [e1] at h
      have HA2 : Hid (∀ W, Calls Tryd.prog 17 #[.agg #[.int .i64 k1, .int .i64 n1, .string t1], .agg #[.int .i64 k2, .int .i64 n2, .string t2]] W fun e w' => e = .returned (.int .i64 (2)) ∧ Ext W w') := fun W => by have h := equal_any k1 n1 k2 n2 t1 t2 W; rwa [e2] at h
      have HA3 : Hid (∀ W, Calls Tryd.prog 19 #[.agg #[.int .i64 k2, .int .i64 n2, .string t2], .agg #[.int .i64 k1, .int .i64 n1, .string t1]] W fun e w' => e = .returned (.int .i64 (2)) ∧ Ext W w') := fun W => by have h := less_any k2 n2 k1 n1 t2 t1 W; rwa [e3] at h
      clear e1 e2 e3
      go_enter Tryd.func6, Tryd.ntmps6
      go_wp2_with fail
      refine (awake_any _ (HW.out.ext (((Ext.refl w).alloc _).alloc _))).mono ?_
      rintro e w1 ⟨rfl, hx1⟩
      obtain ⟨c0, c1, c2, c3, c4, c5⟩ := box33 hx1
      have HX1 : Hid (Ext w w1) := (((Ext.refl w).alloc _).alloc _).trans hx1
      have HBX := hid hx1
      clear hx1
      go_wp2_with fail
      refine (long_any k1 n1 t1 _).mono ?_
      rintro e w2 ⟨rfl, hx2⟩
      clear c0 c1 c2 c3 c4 c5
      obtain ⟨c0, c1, c2, c3, c4, c5⟩ := box33 (HBX.out.trans hx2)
      have HX2 : Hid (Ext w w2) := HX1.out.trans hx2
      have HBX2 := hid (HBX.out.trans hx2)
      clear hx2 HX1 HBX
      rw [d1]
      go_wp2_with fail
      refine (long_any k2 n2 t2 _).mono ?_
      rintro e w3 ⟨rfl, hx3⟩
      clear c0 c1 c2 c3 c4 c5
      obtain ⟨c0, c1, c2, c3, c4, c5⟩ := box33 (HBX2.out.trans hx3)
      have HX3 : Hid (Ext w w3) := HX2.out.trans hx3
      have HBX3 := hid (HBX2.out.trans hx3)
      clear hx3 HX2 HBX2
      rw [d2]
      clear d1 d2
      have l0 := Later.keep c0
      have l1 := Later.keep c1
      have l2 := Later.keep c2
      have l3 := Later.keep c3
      have l4 := Later.keep c4
      have l5 := Later.keep c5
      go_wp2_with fail
      refine wp_region_later (by kernel_rfl) (by kernel_rfl) ?_
      repeat (go_big_quiet_step ((first | (go_at_call 17; with_reducible exact later_of (HA2.out _)) | (go_at_call 19; with_reducible exact later_of (HA1.out _)) | (go_at_call 19; with_reducible exact later_of (HA3.out _)))))
      refine wpQuiet_nil ?_
      intro w' hw'
      have hx := later_out hw'
      clear hw' l0 l1 l2 l3 l4 l5
      have d0 := hx.keep c0
      have d1 := hx.keep c1
      have d2 := hx.keep c2
      have d3 := hx.keep c3
      have d4 := hx.keep c4
      have d5 := hx.keep c5
      clear c0 c1 c2 c3 c4 c5
      go_wp2_with fail
      go_ret
      exact ⟨rfl, HX3.out.trans hx⟩


set_option linter.unusedVariables false in
theorem tri1 (k1 n1 : Int) (t1 : ByteArray) (k2 n2 : Int) (t2 : ByteArray) (w : World) (b1 : -9223372036854775808 ≤ k1 ∧ k1 ≤ 9223372036854775807) (b2 : -9223372036854775808 ≤ n1 ∧ n1 ≤ 9223372036854775807) (s1 : t1.size ≤ maxLen)
    (b3 : -9223372036854775808 ≤ k2 ∧ k2 ≤ 9223372036854775807) (b4 : -9223372036854775808 ≤ n2 ∧ n2 ≤ 9223372036854775807) (s2 : t2.size ≤ maxLen) (hw : Sh w) (e1 : ltT ⟨k1, n1, t1⟩ ⟨k2, n2, t2⟩ = 0) (e2 : eqT ⟨k1, n1, t1⟩ ⟨k2, n2, t2⟩ = 0) (e3 : ltT ⟨k2, n2, t2⟩ ⟨k1, n1, t1⟩ = 0) (f1 : (k1 == 0) = false) (f2 : (k2 == 0) = false) (f3 : (k1 != k2) = true) :
    Calls Tryd.prog 6 #[.agg #[.int .i64 k1, .int .i64 n1, .string t1], .agg #[.int .i64 k2, .int .i64 n2, .string t2]] w fun e w' => e = .returned (.bool true) ∧ Ext w w' := by
  have HW := hid hw
  clear hw b1 b2 b3 b4
  unfold maxLen at s1 s2
  by_cases h1 : 100 < t1.size
  · have d1 : decide (100 < (t1.size : Int)) = true := by simp; omega
    clear h1
    go_enter Tryd.func6, Tryd.ntmps6
    go_wp2_with fail
    refine (awake_any _ (HW.out.ext (((Ext.refl w).alloc _).alloc _))).mono ?_
    rintro e w1 ⟨rfl, hx1⟩
    obtain ⟨c0, c1, c2, c3, c4, c5⟩ := box33 hx1
    have HX1 : Hid (Ext w w1) := (((Ext.refl w).alloc _).alloc _).trans hx1
    have HBX := hid hx1
    clear hx1
    go_wp2_with fail
    refine (long_any k1 n1 t1 _).mono ?_
    rintro e w2 ⟨rfl, hx2⟩
    clear c0 c1 c2 c3 c4 c5
    obtain ⟨c0, c1, c2, c3, c4, c5⟩ := box33 (HBX.out.trans hx2)
    have HX2 : Hid (Ext w w2) := HX1.out.trans hx2
    have HBX2 := hid (HBX.out.trans hx2)
    clear hx2 HX1 HBX
    rw [d1]
    go_wp2_with fail
    refine (awake_any _ (HW.out.ext HX2.out)).mono ?_
    rintro e w9 ⟨rfl, hx9⟩
    go_wp2_with fail
    go_ret
    exact ⟨rfl, HX2.out.trans hx9⟩

  · have d1 : decide (100 < (t1.size : Int)) = false := by simp; omega
    by_cases h2 : 100 < t2.size
    · have d2 : decide (100 < (t2.size : Int)) = true := by simp; omega
      clear h1 h2
      go_enter Tryd.func6, Tryd.ntmps6
      go_wp2_with fail
      refine (awake_any _ (HW.out.ext (((Ext.refl w).alloc _).alloc _))).mono ?_
      rintro e w1 ⟨rfl, hx1⟩
      obtain ⟨c0, c1, c2, c3, c4, c5⟩ := box33 hx1
      have HX1 : Hid (Ext w w1) := (((Ext.refl w).alloc _).alloc _).trans hx1
      have HBX := hid hx1
      clear hx1
      go_wp2_with fail
      refine (long_any k1 n1 t1 _).mono ?_
      rintro e w2 ⟨rfl, hx2⟩
      clear c0 c1 c2 c3 c4 c5
      obtain ⟨c0, c1, c2, c3, c4, c5⟩ := box33 (HBX.out.trans hx2)
      have HX2 : Hid (Ext w w2) := HX1.out.trans hx2
      have HBX2 := hid (HBX.out.trans hx2)
      clear hx2 HX1 HBX
      rw [d1]
      go_wp2_with fail
      refine (long_any k2 n2 t2 _).mono ?_
      rintro e w3 ⟨rfl, hx3⟩
      clear c0 c1 c2 c3 c4 c5
      obtain ⟨c0, c1, c2, c3, c4, c5⟩ := box33 (HBX2.out.trans hx3)
      have HX3 : Hid (Ext w w3) := HX2.out.trans hx3
      have HBX3 := hid (HBX2.out.trans hx3)
      clear hx3 HX2 HBX2
      rw [d2]
      go_wp2_with fail
      refine (awake_any _ (HW.out.ext HX3.out)).mono ?_
      rintro e w9 ⟨rfl, hx9⟩
      go_wp2_with fail
      go_ret
      exact ⟨rfl, HX3.out.trans hx9⟩

    · have d2 : decide (100 < (t2.size : Int)) = false := by simp; omega
      have S1 : Hid (t1.size ≤ 100) := by unfold Hid; omega
      have S2 : Hid (t2.size ≤ 100) := by unfold Hid; omega
      clear h1 h2 s1 s2
      have HA1 : Hid (∀ W, Calls Tryd.prog 19 #[.agg #[.int .i64 k1, .int .i64 n1, .string t1], .agg #[.int .i64 k2, .int .i64 n2, .string t2]] W fun e w' => e = .returned (.int .i64 (0)) ∧ Ext W w') := fun W => by have h := less_any k1 n1 k2 n2 t1 t2 W; rwa [e1] at h
      have HA2 : Hid (∀ W, Calls Tryd.prog 17 #[.agg #[.int .i64 k1, .int .i64 n1, .string t1], .agg #[.int .i64 k2, .int .i64 n2, .string t2]] W fun e w' => e = .returned (.int .i64 (0)) ∧ Ext W w') := fun W => by have h := equal_any k1 n1 k2 n2 t1 t2 W; rwa [e2] at h
      have HA3 : Hid (∀ W, Calls Tryd.prog 19 #[.agg #[.int .i64 k2, .int .i64 n2, .string t2], .agg #[.int .i64 k1, .int .i64 n1, .string t1]] W fun e w' => e = .returned (.int .i64 (0)) ∧ Ext W w') := fun W => by have h := less_any k2 n2 k1 n1 t2 t1 W; rwa [e3] at h
      clear e1 e2 e3
      go_enter Tryd.func6, Tryd.ntmps6
      go_wp2_with fail
      refine (awake_any _ (HW.out.ext (((Ext.refl w).alloc _).alloc _))).mono ?_
      rintro e w1 ⟨rfl, hx1⟩
      obtain ⟨c0, c1, c2, c3, c4, c5⟩ := box33 hx1
      have HX1 : Hid (Ext w w1) := (((Ext.refl w).alloc _).alloc _).trans hx1
      have HBX := hid hx1
      clear hx1
      go_wp2_with fail
      refine (long_any k1 n1 t1 _).mono ?_
      rintro e w2 ⟨rfl, hx2⟩
      clear c0 c1 c2 c3 c4 c5
      obtain ⟨c0, c1, c2, c3, c4, c5⟩ := box33 (HBX.out.trans hx2)
      have HX2 : Hid (Ext w w2) := HX1.out.trans hx2
      have HBX2 := hid (HBX.out.trans hx2)
      clear hx2 HX1 HBX
      rw [d1]
      go_wp2_with fail
      refine (long_any k2 n2 t2 _).mono ?_
      rintro e w3 ⟨rfl, hx3⟩
      clear c0 c1 c2 c3 c4 c5
      obtain ⟨c0, c1, c2, c3, c4, c5⟩ := box33 (HBX2.out.trans hx3)
      have HX3 : Hid (Ext w w3) := HX2.out.trans hx3
      have HBX3 := hid (HBX2.out.trans hx3)
      clear hx3 HX2 HBX2
      rw [d2]
      clear d1 d2
      have l0 := Later.keep c0
      have l1 := Later.keep c1
      have l2 := Later.keep c2
      have l3 := Later.keep c3
      have l4 := Later.keep c4
      have l5 := Later.keep c5
      go_wp2_with fail
      refine wp_region_later (by kernel_rfl) (by kernel_rfl) ?_
      repeat (go_big_quiet_step ((first | (go_at_call 17; with_reducible exact later_of (HA2.out _)) | (go_at_call 19; with_reducible exact later_of (HA1.out _)) | (go_at_call 19; with_reducible exact later_of (HA3.out _)))))
      refine wpQuiet_nil ?_
      intro w' hw'
      have hx := later_out hw'
      clear hw' l0 l1 l2 l3 l4 l5
      have d0 := hx.keep c0
      have d1 := hx.keep c1
      have d2 := hx.keep c2
      have d3 := hx.keep c3
      have d4 := hx.keep c4
      have d5 := hx.keep c5
      clear c0 c1 c2 c3 c4 c5
      go_wp2_with fail
      go_ret
      exact ⟨rfl, HX3.out.trans hx⟩


set_option linter.unusedVariables false in
theorem tri2 (k1 n1 : Int) (t1 : ByteArray) (k2 n2 : Int) (t2 : ByteArray) (w : World) (b1 : -9223372036854775808 ≤ k1 ∧ k1 ≤ 9223372036854775807) (b2 : -9223372036854775808 ≤ n1 ∧ n1 ≤ 9223372036854775807) (s1 : t1.size ≤ maxLen)
    (b3 : -9223372036854775808 ≤ k2 ∧ k2 ≤ 9223372036854775807) (b4 : -9223372036854775808 ≤ n2 ∧ n2 ≤ 9223372036854775807) (s2 : t2.size ≤ maxLen) (hw : Sh w) (e1 : ltT ⟨k1, n1, t1⟩ ⟨k2, n2, t2⟩ = 1) (e2 : eqT ⟨k1, n1, t1⟩ ⟨k2, n2, t2⟩ = 0) (e3 : ltT ⟨k2, n2, t2⟩ ⟨k1, n1, t1⟩ = 0) (e4 : cmpV ⟨k1, n1, t1⟩ ⟨k2, n2, t2⟩ = -1) (f1 : (k1 == 0) = false) (f2 : (k2 == 0) = false) (f3 : (k1 != k2) = false) :
    Calls Tryd.prog 6 #[.agg #[.int .i64 k1, .int .i64 n1, .string t1], .agg #[.int .i64 k2, .int .i64 n2, .string t2]] w fun e w' => e = .returned (.bool true) ∧ Ext w w' := by
  have HW := hid hw
  clear hw b1 b2 b3 b4
  unfold maxLen at s1 s2
  by_cases h1 : 100 < t1.size
  · have d1 : decide (100 < (t1.size : Int)) = true := by simp; omega
    clear h1
    go_enter Tryd.func6, Tryd.ntmps6
    go_wp2_with fail
    refine (awake_any _ (HW.out.ext (((Ext.refl w).alloc _).alloc _))).mono ?_
    rintro e w1 ⟨rfl, hx1⟩
    obtain ⟨c0, c1, c2, c3, c4, c5⟩ := box33 hx1
    have HX1 : Hid (Ext w w1) := (((Ext.refl w).alloc _).alloc _).trans hx1
    have HBX := hid hx1
    clear hx1
    go_wp2_with fail
    refine (long_any k1 n1 t1 _).mono ?_
    rintro e w2 ⟨rfl, hx2⟩
    clear c0 c1 c2 c3 c4 c5
    obtain ⟨c0, c1, c2, c3, c4, c5⟩ := box33 (HBX.out.trans hx2)
    have HX2 : Hid (Ext w w2) := HX1.out.trans hx2
    have HBX2 := hid (HBX.out.trans hx2)
    clear hx2 HX1 HBX
    rw [d1]
    go_wp2_with fail
    refine (awake_any _ (HW.out.ext HX2.out)).mono ?_
    rintro e w9 ⟨rfl, hx9⟩
    go_wp2_with fail
    go_ret
    exact ⟨rfl, HX2.out.trans hx9⟩

  · have d1 : decide (100 < (t1.size : Int)) = false := by simp; omega
    by_cases h2 : 100 < t2.size
    · have d2 : decide (100 < (t2.size : Int)) = true := by simp; omega
      clear h1 h2
      go_enter Tryd.func6, Tryd.ntmps6
      go_wp2_with fail
      refine (awake_any _ (HW.out.ext (((Ext.refl w).alloc _).alloc _))).mono ?_
      rintro e w1 ⟨rfl, hx1⟩
      obtain ⟨c0, c1, c2, c3, c4, c5⟩ := box33 hx1
      have HX1 : Hid (Ext w w1) := (((Ext.refl w).alloc _).alloc _).trans hx1
      have HBX := hid hx1
      clear hx1
      go_wp2_with fail
      refine (long_any k1 n1 t1 _).mono ?_
      rintro e w2 ⟨rfl, hx2⟩
      clear c0 c1 c2 c3 c4 c5
      obtain ⟨c0, c1, c2, c3, c4, c5⟩ := box33 (HBX.out.trans hx2)
      have HX2 : Hid (Ext w w2) := HX1.out.trans hx2
      have HBX2 := hid (HBX.out.trans hx2)
      clear hx2 HX1 HBX
      rw [d1]
      go_wp2_with fail
      refine (long_any k2 n2 t2 _).mono ?_
      rintro e w3 ⟨rfl, hx3⟩
      clear c0 c1 c2 c3 c4 c5
      obtain ⟨c0, c1, c2, c3, c4, c5⟩ := box33 (HBX2.out.trans hx3)
      have HX3 : Hid (Ext w w3) := HX2.out.trans hx3
      have HBX3 := hid (HBX2.out.trans hx3)
      clear hx3 HX2 HBX2
      rw [d2]
      go_wp2_with fail
      refine (awake_any _ (HW.out.ext HX3.out)).mono ?_
      rintro e w9 ⟨rfl, hx9⟩
      go_wp2_with fail
      go_ret
      exact ⟨rfl, HX3.out.trans hx9⟩

    · have d2 : decide (100 < (t2.size : Int)) = false := by simp; omega
      have S1 : Hid (t1.size ≤ 100) := by unfold Hid; omega
      have S2 : Hid (t2.size ≤ 100) := by unfold Hid; omega
      clear h1 h2 s1 s2
      have HA1 : Hid (∀ W, Calls Tryd.prog 19 #[.agg #[.int .i64 k1, .int .i64 n1, .string t1], .agg #[.int .i64 k2, .int .i64 n2, .string t2]] W fun e w' => e = .returned (.int .i64 (1)) ∧ Ext W w') := fun W => by have h := less_any k1 n1 k2 n2 t1 t2 W; rwa [e1] at h
      have HA2 : Hid (∀ W, Calls Tryd.prog 17 #[.agg #[.int .i64 k1, .int .i64 n1, .string t1], .agg #[.int .i64 k2, .int .i64 n2, .string t2]] W fun e w' => e = .returned (.int .i64 (0)) ∧ Ext W w') := fun W => by have h := equal_any k1 n1 k2 n2 t1 t2 W; rwa [e2] at h
      have HA3 : Hid (∀ W, Calls Tryd.prog 19 #[.agg #[.int .i64 k2, .int .i64 n2, .string t2], .agg #[.int .i64 k1, .int .i64 n1, .string t1]] W fun e w' => e = .returned (.int .i64 (0)) ∧ Ext W w') := fun W => by have h := less_any k2 n2 k1 n1 t2 t1 W; rwa [e3] at h
      have HA4 : Hid (∀ W, Calls Tryd.prog 15 #[.agg #[.int .i64 k1, .int .i64 n1, .string t1], .agg #[.int .i64 k2, .int .i64 n2, .string t2]] W fun e w' => e = .returned (.int .i64 (-1)) ∧ Ext W w') := fun W => by have h := compare_any k1 n1 k2 n2 t1 t2 W; rwa [e4] at h
      clear e1 e2 e3 e4
      go_enter Tryd.func6, Tryd.ntmps6
      go_wp2_with fail
      refine (awake_any _ (HW.out.ext (((Ext.refl w).alloc _).alloc _))).mono ?_
      rintro e w1 ⟨rfl, hx1⟩
      obtain ⟨c0, c1, c2, c3, c4, c5⟩ := box33 hx1
      have HX1 : Hid (Ext w w1) := (((Ext.refl w).alloc _).alloc _).trans hx1
      have HBX := hid hx1
      clear hx1
      go_wp2_with fail
      refine (long_any k1 n1 t1 _).mono ?_
      rintro e w2 ⟨rfl, hx2⟩
      clear c0 c1 c2 c3 c4 c5
      obtain ⟨c0, c1, c2, c3, c4, c5⟩ := box33 (HBX.out.trans hx2)
      have HX2 : Hid (Ext w w2) := HX1.out.trans hx2
      have HBX2 := hid (HBX.out.trans hx2)
      clear hx2 HX1 HBX
      rw [d1]
      go_wp2_with fail
      refine (long_any k2 n2 t2 _).mono ?_
      rintro e w3 ⟨rfl, hx3⟩
      clear c0 c1 c2 c3 c4 c5
      obtain ⟨c0, c1, c2, c3, c4, c5⟩ := box33 (HBX2.out.trans hx3)
      have HX3 : Hid (Ext w w3) := HX2.out.trans hx3
      have HBX3 := hid (HBX2.out.trans hx3)
      clear hx3 HX2 HBX2
      rw [d2]
      clear d1 d2
      have l0 := Later.keep c0
      have l1 := Later.keep c1
      have l2 := Later.keep c2
      have l3 := Later.keep c3
      have l4 := Later.keep c4
      have l5 := Later.keep c5
      go_wp2_with fail
      refine wp_region_later (by kernel_rfl) (by kernel_rfl) ?_
      repeat (go_big_quiet_step ((first | (go_at_call 17; with_reducible exact later_of (HA2.out _)) | (go_at_call 19; with_reducible exact later_of (HA1.out _)) | (go_at_call 19; with_reducible exact later_of (HA3.out _)))))
      refine wpQuiet_nil ?_
      intro w' hw'
      have hx := later_out hw'
      clear hw' l0 l1 l2 l3 l4 l5
      have d0 := hx.keep c0
      have d1 := hx.keep c1
      have d2 := hx.keep c2
      have d3 := hx.keep c3
      have d4 := hx.keep c4
      have d5 := hx.keep c5
      clear c0 c1 c2 c3 c4 c5
      go_wp2_with fail
      refine (HA4.out _).mono ?_
      rintro e w5 ⟨rfl, hx5⟩
      go_wp2_with fail
      go_ret
      exact ⟨rfl, (HX3.out.trans hx).trans hx5⟩


set_option linter.unusedVariables false in
theorem tri3 (k1 n1 : Int) (t1 : ByteArray) (k2 n2 : Int) (t2 : ByteArray) (w : World) (b1 : -9223372036854775808 ≤ k1 ∧ k1 ≤ 9223372036854775807) (b2 : -9223372036854775808 ≤ n1 ∧ n1 ≤ 9223372036854775807) (s1 : t1.size ≤ maxLen)
    (b3 : -9223372036854775808 ≤ k2 ∧ k2 ≤ 9223372036854775807) (b4 : -9223372036854775808 ≤ n2 ∧ n2 ≤ 9223372036854775807) (s2 : t2.size ≤ maxLen) (hw : Sh w) (e1 : ltT ⟨k1, n1, t1⟩ ⟨k2, n2, t2⟩ = 0) (e2 : eqT ⟨k1, n1, t1⟩ ⟨k2, n2, t2⟩ = 1) (e3 : ltT ⟨k2, n2, t2⟩ ⟨k1, n1, t1⟩ = 0) (e4 : cmpV ⟨k1, n1, t1⟩ ⟨k2, n2, t2⟩ = 0) (f1 : (k1 == 0) = false) (f2 : (k2 == 0) = false) (f3 : (k1 != k2) = false) :
    Calls Tryd.prog 6 #[.agg #[.int .i64 k1, .int .i64 n1, .string t1], .agg #[.int .i64 k2, .int .i64 n2, .string t2]] w fun e w' => e = .returned (.bool true) ∧ Ext w w' := by
  have HW := hid hw
  clear hw b1 b2 b3 b4
  unfold maxLen at s1 s2
  by_cases h1 : 100 < t1.size
  · have d1 : decide (100 < (t1.size : Int)) = true := by simp; omega
    clear h1
    go_enter Tryd.func6, Tryd.ntmps6
    go_wp2_with fail
    refine (awake_any _ (HW.out.ext (((Ext.refl w).alloc _).alloc _))).mono ?_
    rintro e w1 ⟨rfl, hx1⟩
    obtain ⟨c0, c1, c2, c3, c4, c5⟩ := box33 hx1
    have HX1 : Hid (Ext w w1) := (((Ext.refl w).alloc _).alloc _).trans hx1
    have HBX := hid hx1
    clear hx1
    go_wp2_with fail
    refine (long_any k1 n1 t1 _).mono ?_
    rintro e w2 ⟨rfl, hx2⟩
    clear c0 c1 c2 c3 c4 c5
    obtain ⟨c0, c1, c2, c3, c4, c5⟩ := box33 (HBX.out.trans hx2)
    have HX2 : Hid (Ext w w2) := HX1.out.trans hx2
    have HBX2 := hid (HBX.out.trans hx2)
    clear hx2 HX1 HBX
    rw [d1]
    go_wp2_with fail
    refine (awake_any _ (HW.out.ext HX2.out)).mono ?_
    rintro e w9 ⟨rfl, hx9⟩
    go_wp2_with fail
    go_ret
    exact ⟨rfl, HX2.out.trans hx9⟩

  · have d1 : decide (100 < (t1.size : Int)) = false := by simp; omega
    by_cases h2 : 100 < t2.size
    · have d2 : decide (100 < (t2.size : Int)) = true := by simp; omega
      clear h1 h2
      go_enter Tryd.func6, Tryd.ntmps6
      go_wp2_with fail
      refine (awake_any _ (HW.out.ext (((Ext.refl w).alloc _).alloc _))).mono ?_
      rintro e w1 ⟨rfl, hx1⟩
      obtain ⟨c0, c1, c2, c3, c4, c5⟩ := box33 hx1
      have HX1 : Hid (Ext w w1) := (((Ext.refl w).alloc _).alloc _).trans hx1
      have HBX := hid hx1
      clear hx1
      go_wp2_with fail
      refine (long_any k1 n1 t1 _).mono ?_
      rintro e w2 ⟨rfl, hx2⟩
      clear c0 c1 c2 c3 c4 c5
      obtain ⟨c0, c1, c2, c3, c4, c5⟩ := box33 (HBX.out.trans hx2)
      have HX2 : Hid (Ext w w2) := HX1.out.trans hx2
      have HBX2 := hid (HBX.out.trans hx2)
      clear hx2 HX1 HBX
      rw [d1]
      go_wp2_with fail
      refine (long_any k2 n2 t2 _).mono ?_
      rintro e w3 ⟨rfl, hx3⟩
      clear c0 c1 c2 c3 c4 c5
      obtain ⟨c0, c1, c2, c3, c4, c5⟩ := box33 (HBX2.out.trans hx3)
      have HX3 : Hid (Ext w w3) := HX2.out.trans hx3
      have HBX3 := hid (HBX2.out.trans hx3)
      clear hx3 HX2 HBX2
      rw [d2]
      go_wp2_with fail
      refine (awake_any _ (HW.out.ext HX3.out)).mono ?_
      rintro e w9 ⟨rfl, hx9⟩
      go_wp2_with fail
      go_ret
      exact ⟨rfl, HX3.out.trans hx9⟩

    · have d2 : decide (100 < (t2.size : Int)) = false := by simp; omega
      have S1 : Hid (t1.size ≤ 100) := by unfold Hid; omega
      have S2 : Hid (t2.size ≤ 100) := by unfold Hid; omega
      clear h1 h2 s1 s2
      have HA1 : Hid (∀ W, Calls Tryd.prog 19 #[.agg #[.int .i64 k1, .int .i64 n1, .string t1], .agg #[.int .i64 k2, .int .i64 n2, .string t2]] W fun e w' => e = .returned (.int .i64 (0)) ∧ Ext W w') := fun W => by have h := less_any k1 n1 k2 n2 t1 t2 W; rwa [e1] at h
      have HA2 : Hid (∀ W, Calls Tryd.prog 17 #[.agg #[.int .i64 k1, .int .i64 n1, .string t1], .agg #[.int .i64 k2, .int .i64 n2, .string t2]] W fun e w' => e = .returned (.int .i64 (1)) ∧ Ext W w') := fun W => by have h := equal_any k1 n1 k2 n2 t1 t2 W; rwa [e2] at h
      have HA3 : Hid (∀ W, Calls Tryd.prog 19 #[.agg #[.int .i64 k2, .int .i64 n2, .string t2], .agg #[.int .i64 k1, .int .i64 n1, .string t1]] W fun e w' => e = .returned (.int .i64 (0)) ∧ Ext W w') := fun W => by have h := less_any k2 n2 k1 n1 t2 t1 W; rwa [e3] at h
      have HA4 : Hid (∀ W, Calls Tryd.prog 15 #[.agg #[.int .i64 k1, .int .i64 n1, .string t1], .agg #[.int .i64 k2, .int .i64 n2, .string t2]] W fun e w' => e = .returned (.int .i64 (0)) ∧ Ext W w') := fun W => by have h := compare_any k1 n1 k2 n2 t1 t2 W; rwa [e4] at h
      clear e1 e2 e3 e4
      go_enter Tryd.func6, Tryd.ntmps6
      go_wp2_with fail
      refine (awake_any _ (HW.out.ext (((Ext.refl w).alloc _).alloc _))).mono ?_
      rintro e w1 ⟨rfl, hx1⟩
      obtain ⟨c0, c1, c2, c3, c4, c5⟩ := box33 hx1
      have HX1 : Hid (Ext w w1) := (((Ext.refl w).alloc _).alloc _).trans hx1
      have HBX := hid hx1
      clear hx1
      go_wp2_with fail
      refine (long_any k1 n1 t1 _).mono ?_
      rintro e w2 ⟨rfl, hx2⟩
      clear c0 c1 c2 c3 c4 c5
      obtain ⟨c0, c1, c2, c3, c4, c5⟩ := box33 (HBX.out.trans hx2)
      have HX2 : Hid (Ext w w2) := HX1.out.trans hx2
      have HBX2 := hid (HBX.out.trans hx2)
      clear hx2 HX1 HBX
      rw [d1]
      go_wp2_with fail
      refine (long_any k2 n2 t2 _).mono ?_
      rintro e w3 ⟨rfl, hx3⟩
      clear c0 c1 c2 c3 c4 c5
      obtain ⟨c0, c1, c2, c3, c4, c5⟩ := box33 (HBX2.out.trans hx3)
      have HX3 : Hid (Ext w w3) := HX2.out.trans hx3
      have HBX3 := hid (HBX2.out.trans hx3)
      clear hx3 HX2 HBX2
      rw [d2]
      clear d1 d2
      have l0 := Later.keep c0
      have l1 := Later.keep c1
      have l2 := Later.keep c2
      have l3 := Later.keep c3
      have l4 := Later.keep c4
      have l5 := Later.keep c5
      go_wp2_with fail
      refine wp_region_later (by kernel_rfl) (by kernel_rfl) ?_
      repeat (go_big_quiet_step ((first | (go_at_call 17; with_reducible exact later_of (HA2.out _)) | (go_at_call 19; with_reducible exact later_of (HA1.out _)) | (go_at_call 19; with_reducible exact later_of (HA3.out _)))))
      refine wpQuiet_nil ?_
      intro w' hw'
      have hx := later_out hw'
      clear hw' l0 l1 l2 l3 l4 l5
      have d0 := hx.keep c0
      have d1 := hx.keep c1
      have d2 := hx.keep c2
      have d3 := hx.keep c3
      have d4 := hx.keep c4
      have d5 := hx.keep c5
      clear c0 c1 c2 c3 c4 c5
      go_wp2_with fail
      refine (HA4.out _).mono ?_
      rintro e w5 ⟨rfl, hx5⟩
      go_wp2_with fail
      go_ret
      exact ⟨rfl, (HX3.out.trans hx).trans hx5⟩


set_option linter.unusedVariables false in
theorem tri4 (k1 n1 : Int) (t1 : ByteArray) (k2 n2 : Int) (t2 : ByteArray) (w : World) (b1 : -9223372036854775808 ≤ k1 ∧ k1 ≤ 9223372036854775807) (b2 : -9223372036854775808 ≤ n1 ∧ n1 ≤ 9223372036854775807) (s1 : t1.size ≤ maxLen)
    (b3 : -9223372036854775808 ≤ k2 ∧ k2 ≤ 9223372036854775807) (b4 : -9223372036854775808 ≤ n2 ∧ n2 ≤ 9223372036854775807) (s2 : t2.size ≤ maxLen) (hw : Sh w) (e1 : ltT ⟨k1, n1, t1⟩ ⟨k2, n2, t2⟩ = 0) (e2 : eqT ⟨k1, n1, t1⟩ ⟨k2, n2, t2⟩ = 0) (e3 : ltT ⟨k2, n2, t2⟩ ⟨k1, n1, t1⟩ = 1) (e4 : cmpV ⟨k1, n1, t1⟩ ⟨k2, n2, t2⟩ = 1) (f1 : (k1 == 0) = false) (f2 : (k2 == 0) = false) (f3 : (k1 != k2) = false) :
    Calls Tryd.prog 6 #[.agg #[.int .i64 k1, .int .i64 n1, .string t1], .agg #[.int .i64 k2, .int .i64 n2, .string t2]] w fun e w' => e = .returned (.bool true) ∧ Ext w w' := by
  have HW := hid hw
  clear hw b1 b2 b3 b4
  unfold maxLen at s1 s2
  by_cases h1 : 100 < t1.size
  · have d1 : decide (100 < (t1.size : Int)) = true := by simp; omega
    clear h1
    go_enter Tryd.func6, Tryd.ntmps6
    go_wp2_with fail
    refine (awake_any _ (HW.out.ext (((Ext.refl w).alloc _).alloc _))).mono ?_
    rintro e w1 ⟨rfl, hx1⟩
    obtain ⟨c0, c1, c2, c3, c4, c5⟩ := box33 hx1
    have HX1 : Hid (Ext w w1) := (((Ext.refl w).alloc _).alloc _).trans hx1
    have HBX := hid hx1
    clear hx1
    go_wp2_with fail
    refine (long_any k1 n1 t1 _).mono ?_
    rintro e w2 ⟨rfl, hx2⟩
    clear c0 c1 c2 c3 c4 c5
    obtain ⟨c0, c1, c2, c3, c4, c5⟩ := box33 (HBX.out.trans hx2)
    have HX2 : Hid (Ext w w2) := HX1.out.trans hx2
    have HBX2 := hid (HBX.out.trans hx2)
    clear hx2 HX1 HBX
    rw [d1]
    go_wp2_with fail
    refine (awake_any _ (HW.out.ext HX2.out)).mono ?_
    rintro e w9 ⟨rfl, hx9⟩
    go_wp2_with fail
    go_ret
    exact ⟨rfl, HX2.out.trans hx9⟩

  · have d1 : decide (100 < (t1.size : Int)) = false := by simp; omega
    by_cases h2 : 100 < t2.size
    · have d2 : decide (100 < (t2.size : Int)) = true := by simp; omega
      clear h1 h2
      go_enter Tryd.func6, Tryd.ntmps6
      go_wp2_with fail
      refine (awake_any _ (HW.out.ext (((Ext.refl w).alloc _).alloc _))).mono ?_
      rintro e w1 ⟨rfl, hx1⟩
      obtain ⟨c0, c1, c2, c3, c4, c5⟩ := box33 hx1
      have HX1 : Hid (Ext w w1) := (((Ext.refl w).alloc _).alloc _).trans hx1
      have HBX := hid hx1
      clear hx1
      go_wp2_with fail
      refine (long_any k1 n1 t1 _).mono ?_
      rintro e w2 ⟨rfl, hx2⟩
      clear c0 c1 c2 c3 c4 c5
      obtain ⟨c0, c1, c2, c3, c4, c5⟩ := box33 (HBX.out.trans hx2)
      have HX2 : Hid (Ext w w2) := HX1.out.trans hx2
      have HBX2 := hid (HBX.out.trans hx2)
      clear hx2 HX1 HBX
      rw [d1]
      go_wp2_with fail
      refine (long_any k2 n2 t2 _).mono ?_
      rintro e w3 ⟨rfl, hx3⟩
      clear c0 c1 c2 c3 c4 c5
      obtain ⟨c0, c1, c2, c3, c4, c5⟩ := box33 (HBX2.out.trans hx3)
      have HX3 : Hid (Ext w w3) := HX2.out.trans hx3
      have HBX3 := hid (HBX2.out.trans hx3)
      clear hx3 HX2 HBX2
      rw [d2]
      go_wp2_with fail
      refine (awake_any _ (HW.out.ext HX3.out)).mono ?_
      rintro e w9 ⟨rfl, hx9⟩
      go_wp2_with fail
      go_ret
      exact ⟨rfl, HX3.out.trans hx9⟩

    · have d2 : decide (100 < (t2.size : Int)) = false := by simp; omega
      have S1 : Hid (t1.size ≤ 100) := by unfold Hid; omega
      have S2 : Hid (t2.size ≤ 100) := by unfold Hid; omega
      clear h1 h2 s1 s2
      have HA1 : Hid (∀ W, Calls Tryd.prog 19 #[.agg #[.int .i64 k1, .int .i64 n1, .string t1], .agg #[.int .i64 k2, .int .i64 n2, .string t2]] W fun e w' => e = .returned (.int .i64 (0)) ∧ Ext W w') := fun W => by have h := less_any k1 n1 k2 n2 t1 t2 W; rwa [e1] at h
      have HA2 : Hid (∀ W, Calls Tryd.prog 17 #[.agg #[.int .i64 k1, .int .i64 n1, .string t1], .agg #[.int .i64 k2, .int .i64 n2, .string t2]] W fun e w' => e = .returned (.int .i64 (0)) ∧ Ext W w') := fun W => by have h := equal_any k1 n1 k2 n2 t1 t2 W; rwa [e2] at h
      have HA3 : Hid (∀ W, Calls Tryd.prog 19 #[.agg #[.int .i64 k2, .int .i64 n2, .string t2], .agg #[.int .i64 k1, .int .i64 n1, .string t1]] W fun e w' => e = .returned (.int .i64 (1)) ∧ Ext W w') := fun W => by have h := less_any k2 n2 k1 n1 t2 t1 W; rwa [e3] at h
      have HA4 : Hid (∀ W, Calls Tryd.prog 15 #[.agg #[.int .i64 k1, .int .i64 n1, .string t1], .agg #[.int .i64 k2, .int .i64 n2, .string t2]] W fun e w' => e = .returned (.int .i64 (1)) ∧ Ext W w') := fun W => by have h := compare_any k1 n1 k2 n2 t1 t2 W; rwa [e4] at h
      clear e1 e2 e3 e4
      go_enter Tryd.func6, Tryd.ntmps6
      go_wp2_with fail
      refine (awake_any _ (HW.out.ext (((Ext.refl w).alloc _).alloc _))).mono ?_
      rintro e w1 ⟨rfl, hx1⟩
      obtain ⟨c0, c1, c2, c3, c4, c5⟩ := box33 hx1
      have HX1 : Hid (Ext w w1) := (((Ext.refl w).alloc _).alloc _).trans hx1
      have HBX := hid hx1
      clear hx1
      go_wp2_with fail
      refine (long_any k1 n1 t1 _).mono ?_
      rintro e w2 ⟨rfl, hx2⟩
      clear c0 c1 c2 c3 c4 c5
      obtain ⟨c0, c1, c2, c3, c4, c5⟩ := box33 (HBX.out.trans hx2)
      have HX2 : Hid (Ext w w2) := HX1.out.trans hx2
      have HBX2 := hid (HBX.out.trans hx2)
      clear hx2 HX1 HBX
      rw [d1]
      go_wp2_with fail
      refine (long_any k2 n2 t2 _).mono ?_
      rintro e w3 ⟨rfl, hx3⟩
      clear c0 c1 c2 c3 c4 c5
      obtain ⟨c0, c1, c2, c3, c4, c5⟩ := box33 (HBX2.out.trans hx3)
      have HX3 : Hid (Ext w w3) := HX2.out.trans hx3
      have HBX3 := hid (HBX2.out.trans hx3)
      clear hx3 HX2 HBX2
      rw [d2]
      clear d1 d2
      have l0 := Later.keep c0
      have l1 := Later.keep c1
      have l2 := Later.keep c2
      have l3 := Later.keep c3
      have l4 := Later.keep c4
      have l5 := Later.keep c5
      go_wp2_with fail
      refine wp_region_later (by kernel_rfl) (by kernel_rfl) ?_
      repeat (go_big_quiet_step ((first | (go_at_call 17; with_reducible exact later_of (HA2.out _)) | (go_at_call 19; with_reducible exact later_of (HA1.out _)) | (go_at_call 19; with_reducible exact later_of (HA3.out _)))))
      refine wpQuiet_nil ?_
      intro w' hw'
      have hx := later_out hw'
      clear hw' l0 l1 l2 l3 l4 l5
      have d0 := hx.keep c0
      have d1 := hx.keep c1
      have d2 := hx.keep c2
      have d3 := hx.keep c3
      have d4 := hx.keep c4
      have d5 := hx.keep c5
      clear c0 c1 c2 c3 c4 c5
      go_wp2_with fail
      refine (HA4.out _).mono ?_
      rintro e w5 ⟨rfl, hx5⟩
      go_wp2_with fail
      go_ret
      exact ⟨rfl, (HX3.out.trans hx).trans hx5⟩


theorem law_tri (k1 n1 : Int) (t1 : ByteArray) (k2 n2 : Int) (t2 : ByteArray) (w : World) (b1 : -9223372036854775808 ≤ k1 ∧ k1 ≤ 9223372036854775807) (b2 : -9223372036854775808 ≤ n1 ∧ n1 ≤ 9223372036854775807) (s1 : t1.size ≤ maxLen)
    (b3 : -9223372036854775808 ≤ k2 ∧ k2 ≤ 9223372036854775807) (b4 : -9223372036854775808 ≤ n2 ∧ n2 ≤ 9223372036854775807) (s2 : t2.size ≤ maxLen) (hw : Sh w) :
    Calls Tryd.prog 6 #[.agg #[.int .i64 k1, .int .i64 n1, .string t1], .agg #[.int .i64 k2, .int .i64 n2, .string t2]] w fun e w' => e = .returned (.bool true) ∧ Ext w w' := by
  by_cases z1 : k1 = 0
  · exact tri0a k1 n1 t1 k2 n2 t2 w b1 b2 s1 b3 b4 s2 hw (by unfold ltT; rw [if_pos (.inl z1)]) (by unfold eqT; rw [if_pos (.inl z1)]) (by unfold ltT; rw [if_pos (.inr z1)]) (by simp [z1])
  by_cases z2 : k2 = 0
  · exact tri0b k1 n1 t1 k2 n2 t2 w b1 b2 s1 b3 b4 s2 hw (by unfold ltT; rw [if_pos (.inr z2)]) (by unfold eqT; rw [if_pos (.inr z2)]) (by unfold ltT; rw [if_pos (.inl z2)]) (by simp [z1]) (by simp [z2])
  have hz : ¬ (k1 = 0 ∨ k2 = 0) := by omega
  have hz' : ¬ (k2 = 0 ∨ k1 = 0) := by omega
  have hr := cmpV_range ⟨k1, n1, t1⟩ ⟨k2, n2, t2⟩
  have ha := cmpV_anti ⟨k2, n2, t2⟩ ⟨k1, n1, t1⟩
  by_cases h : k1 = k2
  · have l1 : ltT ⟨k1, n1, t1⟩ ⟨k2, n2, t2⟩ = tr (decide (cmpV ⟨k1, n1, t1⟩ ⟨k2, n2, t2⟩ < 0)) := by unfold ltT; rw [if_neg hz]; simp [h]
    have l2 : eqT ⟨k1, n1, t1⟩ ⟨k2, n2, t2⟩ = tr (cmpV ⟨k1, n1, t1⟩ ⟨k2, n2, t2⟩ == 0) := by unfold eqT; rw [if_neg hz]
    have l3 : ltT ⟨k2, n2, t2⟩ ⟨k1, n1, t1⟩ = tr (decide (cmpV ⟨k2, n2, t2⟩ ⟨k1, n1, t1⟩ < 0)) := by unfold ltT; rw [if_neg hz']; simp [h]
    rcases hr with hr | hr | hr
    · rw [hr] at ha
      exact tri2 k1 n1 t1 k2 n2 t2 w b1 b2 s1 b3 b4 s2 hw (by rw [l1, hr]; rfl) (by rw [l2, hr]; rfl) (by rw [l3, ha]; rfl) hr (by simp [z1]) (by simp [z2]) (by simp [h])
    · rw [hr] at ha
      exact tri3 k1 n1 t1 k2 n2 t2 w b1 b2 s1 b3 b4 s2 hw (by rw [l1, hr]; rfl) (by rw [l2, hr]; rfl) (by rw [l3, ha]; rfl) hr (by simp [z1]) (by simp [z2]) (by simp [h])
    · rw [hr] at ha
      exact tri4 k1 n1 t1 k2 n2 t2 w b1 b2 s1 b3 b4 s2 hw (by rw [l1, hr]; rfl) (by rw [l2, hr]; rfl) (by rw [l3, ha]; rfl) hr (by simp [z1]) (by simp [z2]) (by simp [h])
  · have hne : cmpV ⟨k1, n1, t1⟩ ⟨k2, n2, t2⟩ ≠ 0 := fun e => h ((cmpV_zero _ _).1 e).1
    have q1 : (k1 == k2) = false := by simpa using h
    have q2 : (cmpV ⟨k1, n1, t1⟩ ⟨k2, n2, t2⟩ == 0) = false := by simpa using hne
    have q3 : (k2 == k1) = false := by simpa using fun e => h e.symm
    exact tri1 k1 n1 t1 k2 n2 t2 w b1 b2 s1 b3 b4 s2 hw (by unfold ltT; rw [if_neg hz]; dsimp only; rw [q1]; rfl) (by unfold eqT; rw [if_neg hz, q2]; rfl) (by unfold ltT; rw [if_neg hz']; dsimp only; rw [q3]; rfl) (by simp [z1]) (by simp [z2]) (by simp [h])

end Go.Proofs.YtkldgehnioapcaaDoor
