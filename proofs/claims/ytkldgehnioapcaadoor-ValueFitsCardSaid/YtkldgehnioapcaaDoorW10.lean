/-
  Walks over the laws of the value package: ValueFits.
-/
import Derived.Test.YtkldgehnioapcaaDoorW7
namespace Go.Proofs.YtkldgehnioapcaaDoor
open Go.RowKit
set_option maxHeartbeats 2000000
set_option maxRecDepth 100000

set_option linter.unusedVariables false in
theorem law_fits (k1 n1 : Int) (t1 : ByteArray) (ty lo hi mx : Int) (nl : Bool) (w : World) (b1 : -9223372036854775808 ≤ k1 ∧ k1 ≤ 9223372036854775807) (b2 : -9223372036854775808 ≤ n1 ∧ n1 ≤ 9223372036854775807) (s1 : t1.size ≤ maxLen)
    (b3 : -9223372036854775808 ≤ ty ∧ ty ≤ 9223372036854775807) (b4 : -9223372036854775808 ≤ lo ∧ lo ≤ 9223372036854775807) (b5 : -9223372036854775808 ≤ hi ∧ hi ≤ 9223372036854775807) (b6 : -9223372036854775808 ≤ mx ∧ mx ≤ 9223372036854775807) (hw : Sh w) :
    Calls Tryd.prog 7 #[.agg #[.int .i64 k1, .int .i64 n1, .string t1], .agg #[.int .i64 ty, .int .i64 lo, .int .i64 hi, .int .i64 mx, .bool nl]] w fun e w' => e = .returned (.bool true) ∧ Ext w w' := by
  have HW := hid hw
  clear hw b1 b2 b3 b4 b5 b6
  unfold maxLen at s1
  by_cases h1 : 100 < t1.size
  · have d1 : decide (100 < (t1.size : Int)) = true := by simp; omega
    clear h1
    go_enter Tryd.func7, Tryd.ntmps7
    go_wp2_with fail
    refine (awake_any _ (HW.out.ext (((Ext.refl w).alloc _).alloc _))).mono ?_
    rintro e w1 ⟨rfl, hx1⟩
    obtain ⟨c0, c1, c2, c3, c4, c5, c6, c7⟩ := boxf hx1
    have HX1 : Hid (Ext w w1) := (((Ext.refl w).alloc _).alloc _).trans hx1
    have HBX := hid hx1
    clear hx1
    go_wp2_with fail
    refine (long_any k1 n1 t1 _).mono ?_
    rintro e w2 ⟨rfl, hx2⟩
    clear c0 c1 c2 c3 c4 c5 c6 c7
    obtain ⟨c0, c1, c2, c3, c4, c5, c6, c7⟩ := boxf (HBX.out.trans hx2)
    have HX2 : Hid (Ext w w2) := HX1.out.trans hx2
    clear hx2 HX1 HBX
    rw [d1]
    go_wp2_with fail
    refine (awake_any _ (HW.out.ext HX2.out)).mono ?_
    rintro e w9 ⟨rfl, hx9⟩
    go_wp2_with fail
    go_ret
    exact ⟨rfl, HX2.out.trans hx9⟩

  · have d1 : decide (100 < (t1.size : Int)) = false := by simp; omega
    have S1 : Hid (t1.size ≤ 100) := by unfold Hid; omega
    clear h1 s1
    go_enter Tryd.func7, Tryd.ntmps7
    go_wp2_with fail
    refine (awake_any _ (HW.out.ext (((Ext.refl w).alloc _).alloc _))).mono ?_
    rintro e w1 ⟨rfl, hx1⟩
    obtain ⟨c0, c1, c2, c3, c4, c5, c6, c7⟩ := boxf hx1
    have HX1 : Hid (Ext w w1) := (((Ext.refl w).alloc _).alloc _).trans hx1
    have HBX := hid hx1
    clear hx1
    go_wp2_with fail
    refine (long_any k1 n1 t1 _).mono ?_
    rintro e w2 ⟨rfl, hx2⟩
    clear c0 c1 c2 c3 c4 c5 c6 c7
    obtain ⟨c0, c1, c2, c3, c4, c5, c6, c7⟩ := boxf (HBX.out.trans hx2)
    have HX2 : Hid (Ext w w2) := HX1.out.trans hx2
    clear hx2 HX1 HBX
    rw [d1]
    clear d1
    have l0 := Later.keep c0
    have l1 := Later.keep c1
    have l2 := Later.keep c2
    have l3 := Later.keep c3
    have l4 := Later.keep c4
    have l5 := Later.keep c5
    have l6 := Later.keep c6
    have l7 := Later.keep c7
    go_wp2_with fail
    refine wp_region_later (by kernel_rfl) (by kernel_rfl) ?_
    repeat (go_big_quiet_step ((first | (go_at_call 21; exact later_of (fits_any k1 n1 ty lo hi mx t1 nl _ (by have := S1.out; omega))) | (go_at_call 22; exact later_of (rfits_any k1 n1 ty lo hi mx t1 nl _ (by have := S1.out; omega))))))
    refine wpQuiet_nil ?_
    intro w' hw'
    have hx := later_out hw'
    clear hw' l0 l1 l2 l3 l4 l5 l6 l7
    go_wp2_with fail
    go_ret
    exact ⟨ret_bool (by simp), HX2.out.trans hx⟩


end Go.Proofs.YtkldgehnioapcaaDoor
