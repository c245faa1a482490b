/-
  Walks over the value package: the examples.
-/
import Derived.Test.YtkldgehnioapcaaDoorW6
namespace Go.Proofs.YtkldgehnioapcaaDoor
open Go.RowKit
set_option maxHeartbeats 1000000
set_option maxRecDepth 100000

theorem aw1 : cmpV ⟨0, 0, ⟨#[]⟩⟩ ⟨1, -5, ⟨#[]⟩⟩ = -1 := by decide
theorem aw2 : cmpV ⟨1, 3, ⟨#[]⟩⟩ ⟨2, 0, ⟨#[97]⟩⟩ = -1 := by decide
theorem aw3 : eqT ⟨0, 0, ⟨#[]⟩⟩ ⟨0, 0, ⟨#[]⟩⟩ = 2 := by decide
theorem aw4 : fmtV ⟨2, 0, ⟨#[105, 116, 39, 115]⟩⟩ = ⟨#[39, 105, 116, 39, 39, 115, 39]⟩ := by
  have hv : validV ⟨2, 0, ⟨#[105, 116, 39, 115]⟩⟩ = true := by decide +kernel
  unfold fmtV
  rw [if_pos hv, if_neg (by decide), if_neg (by decide)]
  rfl
theorem aw5 : fmtRow [⟨1, 7, ⟨#[]⟩⟩, ⟨0, 0, ⟨#[]⟩⟩] = ⟨#[40, 55, 44, 32, 78, 85, 76, 76, 41]⟩ := by
  have h1 : validV ⟨1, 7, ⟨#[]⟩⟩ = true := by decide +kernel
  have h2 : validV ⟨0, 0, ⟨#[]⟩⟩ = true := by decide +kernel
  have e7 : Lib.itoa 7 = [55] := by
    unfold Lib.itoa
    rw [if_neg (by decide)]
    show Lib.decDigits 7 = _
    rw [Lib.decDigits, dif_pos (by decide)]
    rfl
  have f1 : fmtV ⟨1, 7, ⟨#[]⟩⟩ = ⟨#[55]⟩ := by
    unfold fmtV
    rw [if_pos h1, if_neg (by decide), if_pos rfl]
    unfold itoB
    rw [e7]
  have f2 : fmtV ⟨0, 0, ⟨#[]⟩⟩ = ⟨#[78, 85, 76, 76]⟩ := by
    unfold fmtV
    rw [if_pos h2, if_pos rfl]
  unfold fmtRow
  rw [if_pos (by simp [h1, h2])]
  simp only [fmtS, List.map_cons, List.map_nil, f1, f2]
  rfl

theorem awake_any (w : World) (hw : Sh w) : Calls Tryd.prog 11 #[] w fun e w' => e = .returned (.bool true) ∧ Ext w w' := by
  have HW := hid hw
  have A1 := hid aw1
  have A2 := hid aw2
  have A3 := hid aw3
  have A4 := hid aw4
  have A5 := hid aw5
  clear hw
  go_enter Tryd.func11, Tryd.ntmps11
  go_wp2_with fail
  refine (int_any _ _).mono ?_
  rintro e w1 ⟨rfl, hx1⟩
  have HX1 := hid hx1
  clear hx1
  go_wp2_with fail
  refine (compare_any _ _ _ _ _ _ _).mono ?_
  rintro e w2 ⟨rfl, hx2⟩
  rw [A1.out]
  have HX2 := hid (HX1.out.trans hx2)
  clear hx2 HX1
  go_wp2_with fail
  refine (int_any _ _).mono ?_
  rintro e w3 ⟨rfl, hx3⟩
  have HX3 := hid (HX2.out.trans hx3)
  clear hx3 HX2
  go_wp2_with fail
  refine (text_any _ _).mono ?_
  rintro e w4 ⟨rfl, hx4⟩
  have HX4 := hid (HX3.out.trans hx4)
  clear hx4 HX3
  go_wp2_with fail
  refine (compare_any _ _ _ _ _ _ _).mono ?_
  rintro e w5 ⟨rfl, hx5⟩
  rw [A2.out]
  have HX5 := hid (HX4.out.trans hx5)
  clear hx5 HX4
  go_wp2_with fail
  refine (equal_any _ _ _ _ _ _ _).mono ?_
  rintro e w6 ⟨rfl, hx6⟩
  rw [A3.out]
  have HX6 := hid (HX5.out.trans hx6)
  clear hx6 HX5
  go_wp2_with fail
  refine (text_any _ _).mono ?_
  rintro e w7 ⟨rfl, hx7⟩
  have HX7 := hid (HX6.out.trans hx7)
  clear hx7 HX6
  go_wp2_with fail
  refine (format_any _ _ _ _ (by decide) (HW.out.ext HX7.out) (.inl ⟨by decide, by decide⟩)).mono ?_
  rintro e w8 ⟨rfl, hx8⟩
  rw [A4.out]
  have HX8 := hid (HX7.out.trans hx8)
  clear hx8 HX7
  have hs1 : ((⟨#[39, 105, 116, 39, 39, 115, 39]⟩ : ByteArray).toList == [39, 105, 116, 39, 39, 115, 39]) = true := by rw [ByteArray.toList_eq]; rfl
  go_wp2_with fail
  refine (int_any _ _).mono ?_
  rintro e w9 ⟨rfl, hx9⟩
  have HX9 := hid (HX8.out.trans hx9)
  clear hx9 HX8
  have hva : ValsAt (w9.alloc (.cells #[.int .i64 1, .int .i64 7, .string ⟨#[]⟩, .int .i64 0, .int .i64 0, .string ⟨#[]⟩] 23)) (some ⟨w9.heap.size, 0, none⟩) [⟨1, 7, ⟨#[]⟩⟩, ⟨0, 0, ⟨#[]⟩⟩] := by
    intro i t ht
    match i, ht with
    | 0, ht => simp at ht; subst ht; exact ⟨w9.heap.size, 0, rfl, by simp [World.cell?_alloc_new], by simp [World.cell?_alloc_new], by simp [World.cell?_alloc_new]⟩
    | 1, ht => simp at ht; subst ht; exact ⟨w9.heap.size, 0, rfl, by simp [World.cell?_alloc_new], by simp [World.cell?_alloc_new], by simp [World.cell?_alloc_new]⟩
    | i + 2, ht => simp at ht
  have HVA := hid hva
  clear hva
  go_wp2_with fail
  refine (formatrow_any (some ⟨w9.heap.size, 0, none⟩) [⟨1, 7, ⟨#[]⟩⟩, ⟨0, 0, ⟨#[]⟩⟩] 2 2 _ HVA.out rfl (by omega) ?_ (HW.out.ext (HX9.out.alloc _)) ?_).mono ?_
  · intro a ha; simp at ha; rcases ha with rfl | rfl <;> decide
  · intro a ha; simp at ha; rcases ha with rfl | rfl <;> exact .inl ⟨by decide, by decide⟩
  rintro e w10 ⟨rfl, hx10⟩
  rw [A5.out]
  have HX10 := hid ((HX9.out.alloc _).trans hx10)
  clear hx10 HVA
  have hs2 : ((⟨#[40, 55, 44, 32, 78, 85, 76, 76, 41]⟩ : ByteArray).toList == [40, 55, 44, 32, 78, 85, 76, 76, 41]) = true := by rw [ByteArray.toList_eq]; rfl
  go_wp2_with fail
  go_ret
  exact ⟨rfl, HX10.out⟩

end Go.Proofs.YtkldgehnioapcaaDoor
