/-
  Walks over the laws of the value package: ValueTotalOrder.
-/
import Derived.Test.YtkldgehnioapcaaDoorW7
namespace Go.Proofs.YtkldgehnioapcaaDoor
open Go.RowKit
set_option maxHeartbeats 2000000
set_option maxRecDepth 100000

theorem box333 {w w2 : World} {a b c d e f g h i : Value} {T U V : TypeId} (hx : Ext (((w.alloc (.cells #[a, b, c] T)).alloc (.cells #[d, e, f] U)).alloc (.cells #[g, h, i] V)) w2) :
    w2.cell? ⟨w.heap.size, 0, none⟩ = some a ∧ w2.cell? ⟨w.heap.size, 1, none⟩ = some b ∧ w2.cell? ⟨w.heap.size, 2, none⟩ = some c ∧
    w2.cell? ⟨w.heap.size + 1, 0, none⟩ = some d ∧ w2.cell? ⟨w.heap.size + 1, 1, none⟩ = some e ∧ w2.cell? ⟨w.heap.size + 1, 2, none⟩ = some f ∧
    w2.cell? ⟨w.heap.size + 1 + 1, 0, none⟩ = some g ∧ w2.cell? ⟨w.heap.size + 1 + 1, 1, none⟩ = some h ∧ w2.cell? ⟨w.heap.size + 1 + 1, 2, none⟩ = some i := by
  have h1 := box33 (((Ext.refl ((w.alloc (.cells #[a, b, c] T)).alloc (.cells #[d, e, f] U))).alloc _).trans hx)
  have h2 := box3 hx
  rw [World.size_alloc, World.size_alloc] at h2
  exact ⟨h1.1, h1.2.1, h1.2.2.1, h1.2.2.2.1, h1.2.2.2.2.1, h1.2.2.2.2.2, h2.1, h2.2.1, h2.2.2⟩

set_option linter.unusedVariables false in
theorem tot (k1 n1 : Int) (t1 : ByteArray) (k2 n2 : Int) (t2 : ByteArray) (k3 n3 : Int) (t3 : ByteArray) (w : World) (b2 : -9223372036854775808 ≤ k1 ∧ k1 ≤ 9223372036854775807) (b3 : -9223372036854775808 ≤ n1 ∧ n1 ≤ 9223372036854775807) (s1 : t1.size ≤ maxLen) (b4 : -9223372036854775808 ≤ k2 ∧ k2 ≤ 9223372036854775807) (b5 : -9223372036854775808 ≤ n2 ∧ n2 ≤ 9223372036854775807) (s2 : t2.size ≤ maxLen) (b6 : -9223372036854775808 ≤ k3 ∧ k3 ≤ 9223372036854775807) (b7 : -9223372036854775808 ≤ n3 ∧ n3 ≤ 9223372036854775807) (s3 : t3.size ≤ maxLen) (hw : Sh w) (x y z : Int)
    (HA1 : Hid (∀ W, Calls Tryd.prog 15 #[.agg #[.int .i64 k1, .int .i64 n1, .string t1], .agg #[.int .i64 k2, .int .i64 n2, .string t2]] W fun e w' => e = .returned (.int .i64 x) ∧ Ext W w'))
    (HA2 : Hid (∀ W, Calls Tryd.prog 15 #[.agg #[.int .i64 k2, .int .i64 n2, .string t2], .agg #[.int .i64 k3, .int .i64 n3, .string t3]] W fun e w' => e = .returned (.int .i64 y) ∧ Ext W w'))
    (HA3 : Hid (∀ W, Calls Tryd.prog 15 #[.agg #[.int .i64 k1, .int .i64 n1, .string t1], .agg #[.int .i64 k3, .int .i64 n3, .string t3]] W fun e w' => e = .returned (.int .i64 z) ∧ Ext W w'))
    (HA4 : Hid (∀ W, Calls Tryd.prog 15 #[.agg #[.int .i64 k2, .int .i64 n2, .string t2], .agg #[.int .i64 k1, .int .i64 n1, .string t1]] W fun e w' => e = .returned (.int .i64 (-x)) ∧ Ext W w'))
    (x1 : -1 ≤ x) (x2 : x ≤ 1) (ht : x ≤ 0 → y ≤ 0 → z ≤ 0 ∧ (z = 0 → x = 0 ∧ y = 0)) (hz : (x == 0) = false) (hne : ¬ (k1 = k2 ∧ n1 = n2 ∧ t1.toList = t2.toList)) :
    Calls Tryd.prog 4 #[.agg #[.int .i64 k1, .int .i64 n1, .string t1], .agg #[.int .i64 k2, .int .i64 n2, .string t2], .agg #[.int .i64 k3, .int .i64 n3, .string t3]] w fun e w' => e = .returned (.bool true) ∧ Ext w w' := by
  have HW := hid hw
  have HT := hid ht
  clear hw b2 b3 b4 b5 b6 b7 ht
  unfold maxLen at s1 s2 s3
  by_cases h1 : 100 < t1.size
  · have d1 : decide (100 < (t1.size : Int)) = true := by simp; omega
    clear h1
    go_enter Tryd.func4, Tryd.ntmps4
    go_wp2_with fail
    refine (awake_any _ (HW.out.ext ((((Ext.refl w).alloc _).alloc _).alloc _))).mono ?_
    rintro e w1 ⟨rfl, hx1⟩
    obtain ⟨c0, c1, c2, c3, c4, c5, c6, c7, c8⟩ := box333 hx1
    have HX1 : Hid (Ext w w1) := ((((Ext.refl w).alloc _).alloc _).alloc _).trans hx1
    have HB1 := hid hx1
    clear hx1
    go_wp2_with fail
    refine (long_any k1 n1 t1 _).mono ?_
    rintro e w2 ⟨rfl, hx2⟩
    clear c0 c1 c2 c3 c4 c5 c6 c7 c8
    obtain ⟨c0, c1, c2, c3, c4, c5, c6, c7, c8⟩ := box333 (HB1.out.trans hx2)
    have HX2 : Hid (Ext w w2) := HX1.out.trans hx2
    have HB2 := hid (HB1.out.trans hx2)
    clear hx2 HX1 HB1
    rw [d1]
    go_wp2_with fail
    refine (awake_any _ (HW.out.ext HX2.out)).mono ?_
    rintro e w9 ⟨rfl, hx9⟩
    go_wp2_with fail
    go_ret
    exact ⟨rfl, HX2.out.trans hx9⟩

  · have d1 : decide (100 < (t1.size : Int)) = false := by simp; omega
    by_cases h2 : 100 < t2.size
    · have d2 : decide (100 < (t2.size : Int)) = true := by simp; omega
      clear h1 h2
      go_enter Tryd.func4, Tryd.ntmps4
      go_wp2_with fail
      refine (awake_any _ (HW.out.ext ((((Ext.refl w).alloc _).alloc _).alloc _))).mono ?_
      rintro e w1 ⟨rfl, hx1⟩
      obtain ⟨c0, c1, c2, c3, c4, c5, c6, c7, c8⟩ := box333 hx1
      have HX1 : Hid (Ext w w1) := ((((Ext.refl w).alloc _).alloc _).alloc _).trans hx1
      have HB1 := hid hx1
      clear hx1
      go_wp2_with fail
      refine (long_any k1 n1 t1 _).mono ?_
      rintro e w2 ⟨rfl, hx2⟩
      clear c0 c1 c2 c3 c4 c5 c6 c7 c8
      obtain ⟨c0, c1, c2, c3, c4, c5, c6, c7, c8⟩ := box333 (HB1.out.trans hx2)
      have HX2 : Hid (Ext w w2) := HX1.out.trans hx2
      have HB2 := hid (HB1.out.trans hx2)
      clear hx2 HX1 HB1
      rw [d1]
      go_wp2_with fail
      refine (long_any k2 n2 t2 _).mono ?_
      rintro e w3 ⟨rfl, hx3⟩
      clear c0 c1 c2 c3 c4 c5 c6 c7 c8
      obtain ⟨c0, c1, c2, c3, c4, c5, c6, c7, c8⟩ := box333 (HB2.out.trans hx3)
      have HX3 : Hid (Ext w w3) := HX2.out.trans hx3
      have HB3 := hid (HB2.out.trans hx3)
      clear hx3 HX2 HB2
      rw [d2]
      go_wp2_with fail
      refine (awake_any _ (HW.out.ext HX3.out)).mono ?_
      rintro e w9 ⟨rfl, hx9⟩
      go_wp2_with fail
      go_ret
      exact ⟨rfl, HX3.out.trans hx9⟩

    · have d2 : decide (100 < (t2.size : Int)) = false := by simp; omega
      by_cases h3 : 100 < t3.size
      · have d3 : decide (100 < (t3.size : Int)) = true := by simp; omega
        clear h1 h2 h3
        go_enter Tryd.func4, Tryd.ntmps4
        go_wp2_with fail
        refine (awake_any _ (HW.out.ext ((((Ext.refl w).alloc _).alloc _).alloc _))).mono ?_
        rintro e w1 ⟨rfl, hx1⟩
        obtain ⟨c0, c1, c2, c3, c4, c5, c6, c7, c8⟩ := box333 hx1
        have HX1 : Hid (Ext w w1) := ((((Ext.refl w).alloc _).alloc _).alloc _).trans hx1
        have HB1 := hid hx1
        clear hx1
        go_wp2_with fail
        refine (long_any k1 n1 t1 _).mono ?_
        rintro e w2 ⟨rfl, hx2⟩
        clear c0 c1 c2 c3 c4 c5 c6 c7 c8
        obtain ⟨c0, c1, c2, c3, c4, c5, c6, c7, c8⟩ := box333 (HB1.out.trans hx2)
        have HX2 : Hid (Ext w w2) := HX1.out.trans hx2
        have HB2 := hid (HB1.out.trans hx2)
        clear hx2 HX1 HB1
        rw [d1]
        go_wp2_with fail
        refine (long_any k2 n2 t2 _).mono ?_
        rintro e w3 ⟨rfl, hx3⟩
        clear c0 c1 c2 c3 c4 c5 c6 c7 c8
        obtain ⟨c0, c1, c2, c3, c4, c5, c6, c7, c8⟩ := box333 (HB2.out.trans hx3)
        have HX3 : Hid (Ext w w3) := HX2.out.trans hx3
        have HB3 := hid (HB2.out.trans hx3)
        clear hx3 HX2 HB2
        rw [d2]
        go_wp2_with fail
        refine (long_any k3 n3 t3 _).mono ?_
        rintro e w4 ⟨rfl, hx4⟩
        clear c0 c1 c2 c3 c4 c5 c6 c7 c8
        obtain ⟨c0, c1, c2, c3, c4, c5, c6, c7, c8⟩ := box333 (HB3.out.trans hx4)
        have HX4 : Hid (Ext w w4) := HX3.out.trans hx4
        have HB4 := hid (HB3.out.trans hx4)
        clear hx4 HX3 HB3
        rw [d3]
        go_wp2_with fail
        refine (awake_any _ (HW.out.ext HX4.out)).mono ?_
        rintro e w9 ⟨rfl, hx9⟩
        go_wp2_with fail
        go_ret
        exact ⟨rfl, HX4.out.trans hx9⟩

      · have d3 : decide (100 < (t3.size : Int)) = false := by simp; omega
        clear h1 h2 h3 s1 s2 s3
        go_enter Tryd.func4, Tryd.ntmps4
        go_wp2_with fail
        refine (awake_any _ (HW.out.ext ((((Ext.refl w).alloc _).alloc _).alloc _))).mono ?_
        rintro e w1 ⟨rfl, hx1⟩
        obtain ⟨c0, c1, c2, c3, c4, c5, c6, c7, c8⟩ := box333 hx1
        have HX1 : Hid (Ext w w1) := ((((Ext.refl w).alloc _).alloc _).alloc _).trans hx1
        have HB1 := hid hx1
        clear hx1
        go_wp2_with fail
        refine (long_any k1 n1 t1 _).mono ?_
        rintro e w2 ⟨rfl, hx2⟩
        clear c0 c1 c2 c3 c4 c5 c6 c7 c8
        obtain ⟨c0, c1, c2, c3, c4, c5, c6, c7, c8⟩ := box333 (HB1.out.trans hx2)
        have HX2 : Hid (Ext w w2) := HX1.out.trans hx2
        have HB2 := hid (HB1.out.trans hx2)
        clear hx2 HX1 HB1
        rw [d1]
        go_wp2_with fail
        refine (long_any k2 n2 t2 _).mono ?_
        rintro e w3 ⟨rfl, hx3⟩
        clear c0 c1 c2 c3 c4 c5 c6 c7 c8
        obtain ⟨c0, c1, c2, c3, c4, c5, c6, c7, c8⟩ := box333 (HB2.out.trans hx3)
        have HX3 : Hid (Ext w w3) := HX2.out.trans hx3
        have HB3 := hid (HB2.out.trans hx3)
        clear hx3 HX2 HB2
        rw [d2]
        go_wp2_with fail
        refine (long_any k3 n3 t3 _).mono ?_
        rintro e w4 ⟨rfl, hx4⟩
        clear c0 c1 c2 c3 c4 c5 c6 c7 c8
        obtain ⟨c0, c1, c2, c3, c4, c5, c6, c7, c8⟩ := box333 (HB3.out.trans hx4)
        have HX4 : Hid (Ext w w4) := HX3.out.trans hx4
        have HB4 := hid (HB3.out.trans hx4)
        clear hx4 HX3 HB3
        rw [d3]
        clear d1 d2 d3
        have l0 := Later.keep c0
        have l1 := Later.keep c1
        have l2 := Later.keep c2
        have l3 := Later.keep c3
        have l4 := Later.keep c4
        have l5 := Later.keep c5
        have l6 := Later.keep c6
        have l7 := Later.keep c7
        have l8 := Later.keep c8
        go_wp2_with fail
        refine wp_region_later (by kernel_rfl) (by kernel_rfl) ?_
        repeat (go_big_quiet_step ((first | (go_at_call 15; with_reducible exact later_of (HA1.out _)) | (go_at_call 15; with_reducible exact later_of (HA2.out _)) | (go_at_call 15; with_reducible exact later_of (HA3.out _)))))
        refine wpQuiet_nil ?_
        intro w' hw'
        have hx := later_out hw'
        clear hw' l0 l1 l2 l3 l4 l5 l6 l7 l8
        have g0 := hx.keep c0
        have g1 := hx.keep c1
        have g2 := hx.keep c2
        have g3 := hx.keep c3
        have g4 := hx.keep c4
        have g5 := hx.keep c5
        have g6 := hx.keep c6
        have g7 := hx.keep c7
        have g8 := hx.keep c8
        have HX5 := hid (HX4.out.trans hx)
        clear hx c0 c1 c2 c3 c4 c5 c6 c7 c8
        go_wp2_with fail
        refine (HA4.out _).mono ?_
        rintro e w5 ⟨rfl, hx5⟩
        have c0 := hx5.keep g0
        have c1 := hx5.keep g1
        have c2 := hx5.keep g2
        have c3 := hx5.keep g3
        have c4 := hx5.keep g4
        have c5 := hx5.keep g5
        have HX6 := hid (HX5.out.trans hx5)
        clear hx5 g0 g1 g2 g3 g4 g5 g6 g7 g8
        go_wp2_with fail
        all_goals
          go_ret
          refine ⟨ret_bool ?_, HX6.out⟩
          have ht := HT.out
          first
          | rfl
          | (exfalso; exact hne ⟨‹_›, ‹_›, ‹_›⟩)
          | (exfalso; simp at hz; have := ht (by assumption) (by assumption); omega)


set_option linter.unusedVariables false in
theorem tot0 (k1 n1 : Int) (t1 : ByteArray) (k3 n3 : Int) (t3 : ByteArray) (w : World) (b2 : -9223372036854775808 ≤ k1 ∧ k1 ≤ 9223372036854775807) (b3 : -9223372036854775808 ≤ n1 ∧ n1 ≤ 9223372036854775807) (s1 : t1.size ≤ maxLen) (b6 : -9223372036854775808 ≤ k3 ∧ k3 ≤ 9223372036854775807) (b7 : -9223372036854775808 ≤ n3 ∧ n3 ≤ 9223372036854775807) (s3 : t3.size ≤ maxLen) (hw : Sh w) (y z : Int)
    (HA1 : Hid (∀ W, Calls Tryd.prog 15 #[.agg #[.int .i64 k1, .int .i64 n1, .string t1], .agg #[.int .i64 k1, .int .i64 n1, .string t1]] W fun e w' => e = .returned (.int .i64 0) ∧ Ext W w'))
    (HA2 : Hid (∀ W, Calls Tryd.prog 15 #[.agg #[.int .i64 k1, .int .i64 n1, .string t1], .agg #[.int .i64 k3, .int .i64 n3, .string t3]] W fun e w' => e = .returned (.int .i64 y) ∧ Ext W w'))
    (HA3 : Hid (∀ W, Calls Tryd.prog 15 #[.agg #[.int .i64 k1, .int .i64 n1, .string t1], .agg #[.int .i64 k3, .int .i64 n3, .string t3]] W fun e w' => e = .returned (.int .i64 z) ∧ Ext W w'))
    (HA4 : Hid (∀ W, Calls Tryd.prog 15 #[.agg #[.int .i64 k1, .int .i64 n1, .string t1], .agg #[.int .i64 k1, .int .i64 n1, .string t1]] W fun e w' => e = .returned (.int .i64 0) ∧ Ext W w'))
    (ht : y = z)  :
    Calls Tryd.prog 4 #[.agg #[.int .i64 k1, .int .i64 n1, .string t1], .agg #[.int .i64 k1, .int .i64 n1, .string t1], .agg #[.int .i64 k3, .int .i64 n3, .string t3]] w fun e w' => e = .returned (.bool true) ∧ Ext w w' := by
  have HW := hid hw
  have HT := hid ht
  clear hw b2 b3 b6 b7 ht
  unfold maxLen at s1 s3
  have s2 := s1
  by_cases h1 : 100 < t1.size
  · have d1 : decide (100 < (t1.size : Int)) = true := by simp; omega
    clear h1
    go_enter Tryd.func4, Tryd.ntmps4
    go_wp2_with fail
    refine (awake_any _ (HW.out.ext ((((Ext.refl w).alloc _).alloc _).alloc _))).mono ?_
    rintro e w1 ⟨rfl, hx1⟩
    obtain ⟨c0, c1, c2, c3, c4, c5, c6, c7, c8⟩ := box333 hx1
    have HX1 : Hid (Ext w w1) := ((((Ext.refl w).alloc _).alloc _).alloc _).trans hx1
    have HB1 := hid hx1
    clear hx1
    go_wp2_with fail
    refine (long_any k1 n1 t1 _).mono ?_
    rintro e w2 ⟨rfl, hx2⟩
    clear c0 c1 c2 c3 c4 c5 c6 c7 c8
    obtain ⟨c0, c1, c2, c3, c4, c5, c6, c7, c8⟩ := box333 (HB1.out.trans hx2)
    have HX2 : Hid (Ext w w2) := HX1.out.trans hx2
    have HB2 := hid (HB1.out.trans hx2)
    clear hx2 HX1 HB1
    rw [d1]
    go_wp2_with fail
    refine (awake_any _ (HW.out.ext HX2.out)).mono ?_
    rintro e w9 ⟨rfl, hx9⟩
    go_wp2_with fail
    go_ret
    exact ⟨rfl, HX2.out.trans hx9⟩

  · have d1 : decide (100 < (t1.size : Int)) = false := by simp; omega
    by_cases h2 : 100 < t1.size
    · have d2 : decide (100 < (t1.size : Int)) = true := by simp; omega
      clear h1 h2
      go_enter Tryd.func4, Tryd.ntmps4
      go_wp2_with fail
      refine (awake_any _ (HW.out.ext ((((Ext.refl w).alloc _).alloc _).alloc _))).mono ?_
      rintro e w1 ⟨rfl, hx1⟩
      obtain ⟨c0, c1, c2, c3, c4, c5, c6, c7, c8⟩ := box333 hx1
      have HX1 : Hid (Ext w w1) := ((((Ext.refl w).alloc _).alloc _).alloc _).trans hx1
      have HB1 := hid hx1
      clear hx1
      go_wp2_with fail
      refine (long_any k1 n1 t1 _).mono ?_
      rintro e w2 ⟨rfl, hx2⟩
      clear c0 c1 c2 c3 c4 c5 c6 c7 c8
      obtain ⟨c0, c1, c2, c3, c4, c5, c6, c7, c8⟩ := box333 (HB1.out.trans hx2)
      have HX2 : Hid (Ext w w2) := HX1.out.trans hx2
      have HB2 := hid (HB1.out.trans hx2)
      clear hx2 HX1 HB1
      rw [d1]
      go_wp2_with fail
      refine (long_any k1 n1 t1 _).mono ?_
      rintro e w3 ⟨rfl, hx3⟩
      clear c0 c1 c2 c3 c4 c5 c6 c7 c8
      obtain ⟨c0, c1, c2, c3, c4, c5, c6, c7, c8⟩ := box333 (HB2.out.trans hx3)
      have HX3 : Hid (Ext w w3) := HX2.out.trans hx3
      have HB3 := hid (HB2.out.trans hx3)
      clear hx3 HX2 HB2
      rw [d2]
      go_wp2_with fail
      refine (awake_any _ (HW.out.ext HX3.out)).mono ?_
      rintro e w9 ⟨rfl, hx9⟩
      go_wp2_with fail
      go_ret
      exact ⟨rfl, HX3.out.trans hx9⟩

    · have d2 : decide (100 < (t1.size : Int)) = false := by simp; omega
      by_cases h3 : 100 < t3.size
      · have d3 : decide (100 < (t3.size : Int)) = true := by simp; omega
        clear h1 h2 h3
        go_enter Tryd.func4, Tryd.ntmps4
        go_wp2_with fail
        refine (awake_any _ (HW.out.ext ((((Ext.refl w).alloc _).alloc _).alloc _))).mono ?_
        rintro e w1 ⟨rfl, hx1⟩
        obtain ⟨c0, c1, c2, c3, c4, c5, c6, c7, c8⟩ := box333 hx1
        have HX1 : Hid (Ext w w1) := ((((Ext.refl w).alloc _).alloc _).alloc _).trans hx1
        have HB1 := hid hx1
        clear hx1
        go_wp2_with fail
        refine (long_any k1 n1 t1 _).mono ?_
        rintro e w2 ⟨rfl, hx2⟩
        clear c0 c1 c2 c3 c4 c5 c6 c7 c8
        obtain ⟨c0, c1, c2, c3, c4, c5, c6, c7, c8⟩ := box333 (HB1.out.trans hx2)
        have HX2 : Hid (Ext w w2) := HX1.out.trans hx2
        have HB2 := hid (HB1.out.trans hx2)
        clear hx2 HX1 HB1
        rw [d1]
        go_wp2_with fail
        refine (long_any k1 n1 t1 _).mono ?_
        rintro e w3 ⟨rfl, hx3⟩
        clear c0 c1 c2 c3 c4 c5 c6 c7 c8
        obtain ⟨c0, c1, c2, c3, c4, c5, c6, c7, c8⟩ := box333 (HB2.out.trans hx3)
        have HX3 : Hid (Ext w w3) := HX2.out.trans hx3
        have HB3 := hid (HB2.out.trans hx3)
        clear hx3 HX2 HB2
        rw [d2]
        go_wp2_with fail
        refine (long_any k3 n3 t3 _).mono ?_
        rintro e w4 ⟨rfl, hx4⟩
        clear c0 c1 c2 c3 c4 c5 c6 c7 c8
        obtain ⟨c0, c1, c2, c3, c4, c5, c6, c7, c8⟩ := box333 (HB3.out.trans hx4)
        have HX4 : Hid (Ext w w4) := HX3.out.trans hx4
        have HB4 := hid (HB3.out.trans hx4)
        clear hx4 HX3 HB3
        rw [d3]
        go_wp2_with fail
        refine (awake_any _ (HW.out.ext HX4.out)).mono ?_
        rintro e w9 ⟨rfl, hx9⟩
        go_wp2_with fail
        go_ret
        exact ⟨rfl, HX4.out.trans hx9⟩

      · have d3 : decide (100 < (t3.size : Int)) = false := by simp; omega
        clear h1 h2 h3 s1 s2 s3
        go_enter Tryd.func4, Tryd.ntmps4
        go_wp2_with fail
        refine (awake_any _ (HW.out.ext ((((Ext.refl w).alloc _).alloc _).alloc _))).mono ?_
        rintro e w1 ⟨rfl, hx1⟩
        obtain ⟨c0, c1, c2, c3, c4, c5, c6, c7, c8⟩ := box333 hx1
        have HX1 : Hid (Ext w w1) := ((((Ext.refl w).alloc _).alloc _).alloc _).trans hx1
        have HB1 := hid hx1
        clear hx1
        go_wp2_with fail
        refine (long_any k1 n1 t1 _).mono ?_
        rintro e w2 ⟨rfl, hx2⟩
        clear c0 c1 c2 c3 c4 c5 c6 c7 c8
        obtain ⟨c0, c1, c2, c3, c4, c5, c6, c7, c8⟩ := box333 (HB1.out.trans hx2)
        have HX2 : Hid (Ext w w2) := HX1.out.trans hx2
        have HB2 := hid (HB1.out.trans hx2)
        clear hx2 HX1 HB1
        rw [d1]
        go_wp2_with fail
        refine (long_any k1 n1 t1 _).mono ?_
        rintro e w3 ⟨rfl, hx3⟩
        clear c0 c1 c2 c3 c4 c5 c6 c7 c8
        obtain ⟨c0, c1, c2, c3, c4, c5, c6, c7, c8⟩ := box333 (HB2.out.trans hx3)
        have HX3 : Hid (Ext w w3) := HX2.out.trans hx3
        have HB3 := hid (HB2.out.trans hx3)
        clear hx3 HX2 HB2
        rw [d2]
        go_wp2_with fail
        refine (long_any k3 n3 t3 _).mono ?_
        rintro e w4 ⟨rfl, hx4⟩
        clear c0 c1 c2 c3 c4 c5 c6 c7 c8
        obtain ⟨c0, c1, c2, c3, c4, c5, c6, c7, c8⟩ := box333 (HB3.out.trans hx4)
        have HX4 : Hid (Ext w w4) := HX3.out.trans hx4
        have HB4 := hid (HB3.out.trans hx4)
        clear hx4 HX3 HB3
        rw [d3]
        clear d1 d2 d3
        have l0 := Later.keep c0
        have l1 := Later.keep c1
        have l2 := Later.keep c2
        have l3 := Later.keep c3
        have l4 := Later.keep c4
        have l5 := Later.keep c5
        have l6 := Later.keep c6
        have l7 := Later.keep c7
        have l8 := Later.keep c8
        go_wp2_with fail
        refine wp_region_later (by kernel_rfl) (by kernel_rfl) ?_
        repeat (go_big_quiet_step ((first | (go_at_call 15; with_reducible exact later_of (HA1.out _)) | (go_at_call 15; with_reducible exact later_of (HA2.out _)) | (go_at_call 15; with_reducible exact later_of (HA3.out _)))))
        refine wpQuiet_nil ?_
        intro w' hw'
        have hx := later_out hw'
        clear hw' l0 l1 l2 l3 l4 l5 l6 l7 l8
        have g0 := hx.keep c0
        have g1 := hx.keep c1
        have g2 := hx.keep c2
        have g3 := hx.keep c3
        have g4 := hx.keep c4
        have g5 := hx.keep c5
        have g6 := hx.keep c6
        have g7 := hx.keep c7
        have g8 := hx.keep c8
        have HX5 := hid (HX4.out.trans hx)
        clear hx c0 c1 c2 c3 c4 c5 c6 c7 c8
        go_wp2_with fail
        refine (HA4.out _).mono ?_
        rintro e w5 ⟨rfl, hx5⟩
        have c0 := hx5.keep g0
        have c1 := hx5.keep g1
        have c2 := hx5.keep g2
        have c3 := hx5.keep g3
        have c4 := hx5.keep g4
        have c5 := hx5.keep g5
        have HX6 := hid (HX5.out.trans hx5)
        clear hx5 g0 g1 g2 g3 g4 g5 g6 g7 g8
        go_wp2_with fail
        all_goals
          go_ret
          refine ⟨ret_bool ?_, HX6.out⟩
          have ht := HT.out
          first
          | rfl
          | (subst ht; simp_all; done)
          | (have hy0 : y = 0 := by omega
             rw [hy0]; rfl)


theorem law_total (k1 n1 : Int) (t1 : ByteArray) (k2 n2 : Int) (t2 : ByteArray) (k3 n3 : Int) (t3 : ByteArray) (w : World) (b2 : -9223372036854775808 ≤ k1 ∧ k1 ≤ 9223372036854775807) (b3 : -9223372036854775808 ≤ n1 ∧ n1 ≤ 9223372036854775807) (s1 : t1.size ≤ maxLen) (b4 : -9223372036854775808 ≤ k2 ∧ k2 ≤ 9223372036854775807) (b5 : -9223372036854775808 ≤ n2 ∧ n2 ≤ 9223372036854775807) (s2 : t2.size ≤ maxLen) (b6 : -9223372036854775808 ≤ k3 ∧ k3 ≤ 9223372036854775807) (b7 : -9223372036854775808 ≤ n3 ∧ n3 ≤ 9223372036854775807) (s3 : t3.size ≤ maxLen) (hw : Sh w) :
    Calls Tryd.prog 4 #[.agg #[.int .i64 k1, .int .i64 n1, .string t1], .agg #[.int .i64 k2, .int .i64 n2, .string t2], .agg #[.int .i64 k3, .int .i64 n3, .string t3]] w fun e w' => e = .returned (.bool true) ∧ Ext w w' := by
  have hr := cmpV_range ⟨k1, n1, t1⟩ ⟨k2, n2, t2⟩
  by_cases hx : cmpV ⟨k1, n1, t1⟩ ⟨k2, n2, t2⟩ = 0
  · obtain ⟨e1, e2, e3⟩ := (cmpV_zero _ _).1 hx
    dsimp only at e1 e2 e3
    subst e1 e2 e3
    exact tot0 k1 n1 t1 k3 n3 t3 w b2 b3 s1 b6 b7 s3 hw _ _ (fun W => by have h := compare_any k1 n1 k1 n1 t1 t1 W; rwa [hx] at h) (compare_any k1 n1 k3 n3 t1 t3) (compare_any k1 n1 k3 n3 t1 t3) (fun W => by have h := compare_any k1 n1 k1 n1 t1 t1 W; rwa [hx] at h) rfl
  · refine tot k1 n1 t1 k2 n2 t2 k3 n3 t3 w b2 b3 s1 b4 b5 s2 b6 b7 s3 hw _ _ _ (compare_any k1 n1 k2 n2 t1 t2) (compare_any k2 n2 k3 n3 t2 t3) (compare_any k1 n1 k3 n3 t1 t3) (fun W => by have h := compare_any k2 n2 k1 n1 t2 t1 W; rwa [cmpV_anti] at h) (by omega) (by omega) (fun h1 h2 => cmpV_trans _ _ _ h1 h2) (by simpa using hx) ?_
    rintro ⟨rfl, rfl, h3⟩
    apply hx
    rw [cmpV_zero]
    refine ⟨rfl, rfl, t_inj ?_⟩
    rw [← ByteArray.toList_eq, ← ByteArray.toList_eq]
    exact h3

end Go.Proofs.YtkldgehnioapcaaDoor
