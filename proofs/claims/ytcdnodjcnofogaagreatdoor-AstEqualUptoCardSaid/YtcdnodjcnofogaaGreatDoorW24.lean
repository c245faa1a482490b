/-
  Walks: the makers of expressions.
-/
import Derived.Test.YtcdnodjcnofogaaGreatDoorW23
namespace Go.Proofs.YtcdnodjcnofogaaGreatDoor
open Go.RowKit
set_option linter.unusedVariables false
set_option linter.unusedSimpArgs false
set_option maxHeartbeats 4000000
set_option maxRecDepth 100000

def ndC (s : ByteArray) : Nd := ⟨2, ⟨#[]⟩, s, 0, 0, 0, ⟨#[]⟩⟩
def ndO (op : Int) : Nd := ⟨op, ⟨#[]⟩, ⟨#[]⟩, 0, 0, 0, ⟨#[]⟩⟩
def ndI (n : Int) : Nd := ⟨1, ⟨#[]⟩, ⟨#[]⟩, 0, 1, n, ⟨#[]⟩⟩
theorem column_any (s : ByteArray) (w : World) : Calls Tryz.prog 34 #[.string s] w fun r w' => r = .returned ((ndC s).val none 0 0) ∧ Ext w w' := by
  have HX := hid ((Ext.refl w).alloc (.cells ((ndC s).cells none 0 0).toArray 35))
  have HB := hid (Blk.of_new w 35 ((ndC s).cells none 0 0))
  unfold ndC Nd.val
  unfold ndC Nd.cells at *
  go_enter Tryz.func34, Tryz.ntmps34
  go_wp2_with fail
  have c0 := HB.out.cell 0
  have c1 := HB.out.cell 1
  have c2 := HB.out.cell 2
  have c3 := HB.out.cell 3
  have c4 := HB.out.cell 4
  have c5 := HB.out.cell 5
  have c6 := HB.out.cell 6
  have c7 := HB.out.cell 7
  simp only [List.getElem?_cons_succ, List.getElem?_cons_zero] at c0 c1 c2 c3 c4 c5 c6 c7
  exact bodyPost_ret (by simp [results, Tryz.results34, go_sem, c0, c1, c2, c3, c4, c5, c6, c7]) rfl ⟨rfl, HX.out⟩
theorem node_any (op : Int) (A : Option Addr) (n c : Nat) (w : World) : Calls Tryz.prog 35 #[.int .i64 op, .slice A n c] w fun r w' => r = .returned ((ndO op).val A n c) ∧ Ext w w' := by
  have HX := hid ((Ext.refl w).alloc (.cells ((ndO op).cells A n c).toArray 35))
  have HB := hid (Blk.of_new w 35 ((ndO op).cells A n c))
  unfold ndO Nd.val
  unfold ndO Nd.cells at *
  go_enter Tryz.func35, Tryz.ntmps35
  go_wp2_with fail
  have c0 := HB.out.cell 0
  have c1 := HB.out.cell 1
  have c2 := HB.out.cell 2
  have c3 := HB.out.cell 3
  have c4 := HB.out.cell 4
  have c5 := HB.out.cell 5
  have c6 := HB.out.cell 6
  have c7 := HB.out.cell 7
  simp only [List.getElem?_cons_succ, List.getElem?_cons_zero] at c0 c1 c2 c3 c4 c5 c6 c7
  exact bodyPost_ret (by simp [results, Tryz.results35, go_sem, c0, c1, c2, c3, c4, c5, c6, c7]) rfl ⟨rfl, HX.out⟩
theorem number_ex (n : Int) (w : World) : Calls Tryz.prog 36 #[.int .i64 n] w fun r w' => r = .returned ((ndI n).val none 0 0) ∧ Ext w w' := by
  have HX := hid ((Ext.refl w).alloc (.cells ((ndI n).cells none 0 0).toArray 35))
  have HB := hid (Blk.of_new w 35 ((ndI n).cells none 0 0))
  unfold ndI Nd.val
  unfold ndI Nd.cells at *
  go_enter Tryz.func36, Tryz.ntmps36
  go_wp2_with fail
  have c0 := HB.out.cell 0
  have c1 := HB.out.cell 1
  have c2 := HB.out.cell 2
  have c3 := HB.out.cell 3
  have c4 := HB.out.cell 4
  have c5 := HB.out.cell 5
  have c6 := HB.out.cell 6
  have c7 := HB.out.cell 7
  simp only [List.getElem?_cons_succ, List.getElem?_cons_zero] at c0 c1 c2 c3 c4 c5 c6 c7
  exact bodyPost_ret (by simp [results, Tryz.results36, go_sem, c0, c1, c2, c3, c4, c5, c6, c7]) rfl ⟨rfl, HX.out⟩
end Go.Proofs.YtcdnodjcnofogaaGreatDoor
