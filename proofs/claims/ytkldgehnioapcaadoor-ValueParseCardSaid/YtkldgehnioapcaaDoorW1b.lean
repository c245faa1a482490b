/-
  Walks over the value package: Compare.
-/
import Derived.Test.YtkldgehnioapcaaDoorW1
namespace Go.Proofs.YtkldgehnioapcaaDoor
open Go.RowKit
set_option maxHeartbeats 400000
set_option maxRecDepth 100000

/-- a boxed value, in a later world -/
theorem box3 {w w2 : World} {a b c : Value} {T : TypeId} (h : Ext (w.alloc (.cells #[a, b, c] T)) w2) :
    w2.cell? ⟨w.heap.size, 0, none⟩ = some a ∧ w2.cell? ⟨w.heap.size, 1, none⟩ = some b ∧ w2.cell? ⟨w.heap.size, 2, none⟩ = some c :=
  ⟨h.keep (World.cell?_alloc_new w #[a, b, c] T 0), h.keep (World.cell?_alloc_new w #[a, b, c] T 1), h.keep (World.cell?_alloc_new w #[a, b, c] T 2)⟩

theorem box33 {w w2 : World} {a b c d e f : Value} {T U : TypeId} (h : Ext ((w.alloc (.cells #[a, b, c] T)).alloc (.cells #[d, e, f] U)) w2) :
    w2.cell? ⟨w.heap.size, 0, none⟩ = some a ∧ w2.cell? ⟨w.heap.size, 1, none⟩ = some b ∧ w2.cell? ⟨w.heap.size, 2, none⟩ = some c ∧
    w2.cell? ⟨w.heap.size + 1, 0, none⟩ = some d ∧ w2.cell? ⟨w.heap.size + 1, 1, none⟩ = some e ∧ w2.cell? ⟨w.heap.size + 1, 2, none⟩ = some f := by
  have h1 := box3 (((Ext.refl (w.alloc (.cells #[a, b, c] T))).alloc _).trans h)
  have h2 := box3 h
  rw [World.size_alloc] at h2
  exact ⟨h1.1, h1.2.1, h1.2.2, h2.1, h2.2.1, h2.2.2⟩
theorem compare_any (k1 n1 k2 n2 : Int) (t1 t2 : ByteArray) (w : World) :
    Calls Tryd.prog 15 #[.agg #[.int .i64 k1, .int .i64 n1, .string t1], .agg #[.int .i64 k2, .int .i64 n2, .string t2]] w fun e w' => e = .returned (.int .i64 (cmpV ⟨k1, n1, t1⟩ ⟨k2, n2, t2⟩)) ∧ Ext w w' := by
  have HE : Hid (or3 (cmpI k1 k2) (cmpI n1 n2) (Lib.compareBytes t1.data.toList t2.data.toList) = cmpV ⟨k1, n1, t1⟩ ⟨k2, n2, t2⟩) := or3_cmp ⟨k1, n1, t1⟩ ⟨k2, n2, t2⟩
  have hA1 : ∀ W, Calls Tryd.prog 37 #[.int .i64 k1, .int .i64 k2] W fun e w' => e = .returned (.int .i64 (cmpI k1 k2)) ∧ W = w' := fun W => cmpint_any k1 k2 W
  have hA2 : ∀ W, Calls Tryd.prog 38 #[.int .i64 n1, .int .i64 n2] W fun e w' => e = .returned (.int .i64 (cmpI n1 n2)) ∧ W = w' := fun W => cmp64_any n1 n2 W
  have hA3 : ∀ W, Calls Tryd.prog 39 #[.string t1, .string t2] W fun e w' => e = .returned (.int .i64 (Lib.compareBytes t1.data.toList t2.data.toList)) ∧ W = w' := fun W => (Tryd.strings_Compare t1 t2 W).mono fun e w' h => ⟨h.1, h.2.symm⟩
  generalize cmpI k1 k2 = c1 at *
  generalize cmpI n1 n2 = c2 at *
  generalize Lib.compareBytes t1.data.toList t2.data.toList = c3 at *
  have HA1 := hid hA1
  have HA2 := hid hA2
  have HA3 := hid hA3
  clear hA1 hA2 hA3
  go_enter Tryd.func15, Tryd.ntmps15
  go_wp2_with fail
  obtain ⟨hc0, hc1, hc2, hc3, hc4, hc5⟩ := box33 (Ext.refl ((w.alloc (.cells #[.int .i64 k1, .int .i64 n1, .string t1] 23)).alloc (.cells #[.int .i64 k2, .int .i64 n2, .string t2] 23)))
  have HX : Hid (Ext w ((w.alloc (.cells #[.int .i64 k1, .int .i64 n1, .string t1] 23)).alloc (.cells #[.int .i64 k2, .int .i64 n2, .string t2] 23))) := ((Ext.refl w).alloc _).alloc _
  generalize (w.alloc (.cells #[.int .i64 k1, .int .i64 n1, .string t1] 23)).alloc (.cells #[.int .i64 k2, .int .i64 n2, .string t2] 23) = W2 at *
  generalize w.heap.size = g1 at *
  generalize hg2 : g1 + 1 = g2 at *
  clear hg2
  go_region_held3 (fun w' => w'.cell? ⟨g1, 0, none⟩ = some (.int .i64 k1) ∧ w'.cell? ⟨g1, 1, none⟩ = some (.int .i64 n1) ∧ w'.cell? ⟨g1, 2, none⟩ = some (.string t1) ∧
      w'.cell? ⟨g2, 0, none⟩ = some (.int .i64 k2) ∧ w'.cell? ⟨g2, 1, none⟩ = some (.int .i64 n2) ∧ w'.cell? ⟨g2, 2, none⟩ = some (.string t2))
    (go_keep)
    (first
      | (go_at_call 37; refine (HA1.out _).mono ?_; rintro e w' ⟨rfl, rfl⟩)
      | (go_at_call 38; refine (HA2.out _).mono ?_; rintro e w' ⟨rfl, rfl⟩)
      | (go_at_call 39; refine (HA3.out _).mono ?_; rintro e w' ⟨rfl, rfl⟩)
      | (go_at_call 36; refine (or_any W2.heap.size c1 c2 c3 _ (Blk.of_new W2 3 [.int .i64 c1, .int .i64 c2, .int .i64 c3]).drew).mono ?_; rintro e w' ⟨rfl, rfl⟩))
  go_wp2_with fail
  go_ret
  exact ⟨ret_int HE.out, HX.out.trans (((Ext.refl W2).alloc _).drew)⟩

end Go.Proofs.YtkldgehnioapcaaDoor
