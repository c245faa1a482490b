/-
  Walks over the pattern package: the examples (awake).
-/
import Derived.Test.YtbniemkllhhnfaaW13
namespace Go.Proofs.Ytbniemkllhhnfaa
open Go.RowKit
set_option maxHeartbeats 1000000
set_option maxRecDepth 100000

def awTs : List Tst := [⟨0, 1, false, ⟨#[37, 98, 37]⟩⟩, ⟨0, 2, false, ⟨#[97, 98]⟩⟩]
theorem aw1 : (shoF awTs 0 4).1 = some [32, 98] := by decide +kernel
theorem aw2 : (shoF awTs 0 4).2.out.length < 1000000 := by decide +kernel
theorem aw3 : (shoF awTs 0 4).2.dead.length < 4611686018427387904 := by decide +kernel
theorem aw4 : psB 1 false (N ⟨#[115, 109, 37]⟩) (N ⟨#[115, 109, 105, 116, 104]⟩) = true := by decide +kernel
theorem aw5 : psB 1 false (N ⟨#[115, 109, 95]⟩) (N ⟨#[115, 109, 105, 116, 104]⟩) = false := by decide +kernel

theorem awake_any (w : World) : Calls Try.prog 11 #[] w fun e w' => e = .returned (.bool true) ∧ Ext w w' := by
  have hts : TsAt (w.alloc (.cells #[.int .i64 0, .int .i64 1, .bool false, .string ⟨#[37, 98, 37]⟩, .int .i64 0, .int .i64 2, .bool false, .string ⟨#[97, 98]⟩] 23)) (some ⟨w.heap.size, 0, none⟩) awTs := by
    intro i t ht
    match i, ht with
    | 0, ht => simp [awTs] at ht; subst ht; exact ⟨w.heap.size, 0, rfl, by simp [World.cell?_alloc_new], by simp [World.cell?_alloc_new], by simp [World.cell?_alloc_new], by simp [World.cell?_alloc_new]⟩
    | 1, ht => simp [awTs] at ht; subst ht; exact ⟨w.heap.size, 0, rfl, by simp [World.cell?_alloc_new], by simp [World.cell?_alloc_new], by simp [World.cell?_alloc_new], by simp [World.cell?_alloc_new]⟩
    | i + 2, ht => simp [awTs] at ht
  have HT := hid hts
  clear hts
  have h1 := hid aw1
  have h4 := hid aw4
  have h5 := hid aw5
  go_enter Try.func11, Try.ntmps11
  go_wp2_with fail
  refine (shortest_any (some ⟨w.heap.size, 0, none⟩) awTs 2 2 0 4 _ HT.out rfl (by omega) (by intro t ht; simp [awTs] at ht; rcases ht with rfl | rfl <;> decide) (by omega) (by omega) aw2 aw3).mono ?_
  rintro e w1 ⟨rfl, hx1⟩
  rw [aw1]
  have HX := hid (((Ext.refl w).alloc _).trans hx1)
  clear hx1
  simp only [shoVal]
  go_wp2_with fail
  refine (passes_any 0 1 false ⟨#[115, 109, 37]⟩ ⟨#[115, 109, 105, 116, 104]⟩ _ (by decide) (by decide)).mono ?_
  rintro e w2 ⟨rfl, hx2⟩
  rw [aw4]
  go_wp2_with fail
  refine (passes_any 0 1 false ⟨#[115, 109, 95]⟩ ⟨#[115, 109, 105, 116, 104]⟩ _ (by decide) (by decide)).mono ?_
  rintro e w3 ⟨rfl, hx3⟩
  rw [aw5]
  have hs : ((S [32, 98]).toList == [32, 98]) = true := by rw [ByteArray.toList_eq]; rfl
  go_wp2_with fail
  go_ret
  exact ⟨rfl, HX.out.trans (hx2.trans hx3)⟩

end Go.Proofs.Ytbniemkllhhnfaa
