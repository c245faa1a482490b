/-
  Walks: the makers of expressions. · Walks: operands in memory; the examples. · Walks: the examples. · Walks: numbered.
-/
import Derived.Test.YtcdnodjcnofogaaGreatDoorW23
import Derived.Deep.RegionHeld3
import Derived.Test.YtcdnodjcnofogaaGreatDoorOpen2
namespace Go.Proofs.YtcdnodjcnofogaaGreatDoor
open Go.RowKit
set_option linter.unusedVariables false
set_option linter.unusedSimpArgs false
set_option maxHeartbeats 4000000
set_option maxRecDepth 100000

def ndC (s : ByteArray) : Nd := ⟨2, ⟨#[]⟩, s, 0, 0, 0, ⟨#[]⟩⟩
def ndO (op : Int) : Nd := ⟨op, ⟨#[]⟩, ⟨#[]⟩, 0, 0, 0, ⟨#[]⟩⟩
def ndI (n : Int) : Nd := ⟨1, ⟨#[]⟩, ⟨#[]⟩, 0, 1, n, ⟨#[]⟩⟩
theorem column_any (s : ByteArray) (w : World) : Calls Tryz.prog 34 #[.string s] w fun r w' => r = .returned ((ndC s).val none 0 0) ∧ Ext w w' := by
  have HX := hid ((Ext.refl w).alloc (.cells ((ndC s).cells none 0 0).toArray 35))
  have HB := hid (Blk.of_new w 35 ((ndC s).cells none 0 0))
  unfold ndC Nd.val
  unfold ndC Nd.cells at *
  go_enter Tryz.func34, Tryz.ntmps34
  go_wp2_with fail
  have c0 := HB.out.cell 0
  have c1 := HB.out.cell 1
  have c2 := HB.out.cell 2
  have c3 := HB.out.cell 3
  have c4 := HB.out.cell 4
  have c5 := HB.out.cell 5
  have c6 := HB.out.cell 6
  have c7 := HB.out.cell 7
  simp only [List.getElem?_cons_succ, List.getElem?_cons_zero] at c0 c1 c2 c3 c4 c5 c6 c7
  exact bodyPost_ret (by simp [results, Tryz.results34, go_sem, c0, c1, c2, c3, c4, c5, c6, c7]) rfl ⟨rfl, HX.out⟩
theorem node_any (op : Int) (A : Option Addr) (n c : Nat) (w : World) : Calls Tryz.prog 35 #[.int .i64 op, .slice A n c] w fun r w' => r = .returned ((ndO op).val A n c) ∧ Ext w w' := by
  have HX := hid ((Ext.refl w).alloc (.cells ((ndO op).cells A n c).toArray 35))
  have HB := hid (Blk.of_new w 35 ((ndO op).cells A n c))
  unfold ndO Nd.val
  unfold ndO Nd.cells at *
  go_enter Tryz.func35, Tryz.ntmps35
  go_wp2_with fail
  have c0 := HB.out.cell 0
  have c1 := HB.out.cell 1
  have c2 := HB.out.cell 2
  have c3 := HB.out.cell 3
  have c4 := HB.out.cell 4
  have c5 := HB.out.cell 5
  have c6 := HB.out.cell 6
  have c7 := HB.out.cell 7
  simp only [List.getElem?_cons_succ, List.getElem?_cons_zero] at c0 c1 c2 c3 c4 c5 c6 c7
  exact bodyPost_ret (by simp [results, Tryz.results35, go_sem, c0, c1, c2, c3, c4, c5, c6, c7]) rfl ⟨rfl, HX.out⟩
theorem number_ex (n : Int) (w : World) : Calls Tryz.prog 36 #[.int .i64 n] w fun r w' => r = .returned ((ndI n).val none 0 0) ∧ Ext w w' := by
  have HX := hid ((Ext.refl w).alloc (.cells ((ndI n).cells none 0 0).toArray 35))
  have HB := hid (Blk.of_new w 35 ((ndI n).cells none 0 0))
  unfold ndI Nd.val
  unfold ndI Nd.cells at *
  go_enter Tryz.func36, Tryz.ntmps36
  go_wp2_with fail
  have c0 := HB.out.cell 0
  have c1 := HB.out.cell 1
  have c2 := HB.out.cell 2
  have c3 := HB.out.cell 3
  have c4 := HB.out.cell 4
  have c5 := HB.out.cell 5
  have c6 := HB.out.cell 6
  have c7 := HB.out.cell 7
  simp only [List.getElem?_cons_succ, List.getElem?_cons_zero] at c0 c1 c2 c3 c4 c5 c6 c7
  exact bodyPost_ret (by simp [results, Tryz.results36, go_sem, c0, c1, c2, c3, c4, c5, c6, c7]) rfl ⟨rfl, HX.out⟩
end Go.Proofs.YtcdnodjcnofogaaGreatDoor
namespace Go.Proofs.YtcdnodjcnofogaaGreatDoor
open Go.RowKit
set_option linter.unusedVariables false
set_option linter.unusedSimpArgs false
set_option maxHeartbeats 4000000
set_option maxRecDepth 100000

theorem kids_blk2 {w : World} {g t : Nat} {e f : Ex} {A A' : Option Addr} {n c n' c' : Nat} (hb : Blk w g t (e.d.cells A n c ++ f.d.cells A' n' c')) (hv : ExV w e A n c) (hw : ExV w f A' n' c') : KidsAt w (some ⟨g, 0, none⟩) [e, f] := by
  unfold KidsAt
  rw [exsAt_iff]
  intro j x hx
  have hl : (e.d.cells A n c).length = 8 := rfl
  match j with
  | 0 =>
    simp at hx
    subst hx
    refine ⟨e.d.cells A n c, ⟨g, 0, rfl, fun j v hj => ?_⟩, elt_cells hv⟩
    have hj8 : j < 8 := by have := (List.getElem?_eq_some_iff.1 hj).1; omega
    exact hb.cell_some (i := 0 + (0 + 0) * 8 + j) (by rw [show 0 + (0 + 0) * 8 + j = j by omega, List.getElem?_append_left (by omega)]; exact hj)
  | 1 =>
    simp at hx
    subst hx
    refine ⟨f.d.cells A' n' c', ⟨g, 0, rfl, fun j v hj => ?_⟩, elt_cells hw⟩
    exact hb.cell_some (i := 0 + (0 + 1) * 8 + j) (by rw [List.getElem?_append_right (by omega), show 0 + (0 + 1) * 8 + j - (e.d.cells A n c).length = j by omega]; exact hj)
  | j + 2 => simp at hx
theorem fit_o {op : Int} (h : I64 op) : (ndO op).fit := ⟨h, ⟨by show (-9223372036854775808 : Int) ≤ 0; omega, by show (0 : Int) ≤ 9223372036854775807; omega⟩, ⟨by show (-9223372036854775808 : Int) ≤ 0; omega, by show (0 : Int) ≤ 9223372036854775807; omega⟩, ⟨by show (-9223372036854775808 : Int) ≤ 0; omega, by show (0 : Int) ≤ 9223372036854775807; omega⟩, Nat.zero_le _, Nat.zero_le _, Nat.zero_le _⟩
theorem node1 (op : Int) (e : Ex) (A : Option Addr) (n c : Nat) (W : World) (hop : I64 op) (hv : ExV W e A n c) :
    Calls Tryz.prog 35 #[.int .i64 op, .slice (some ⟨W.heap.size, 0, none⟩) 1 1] (W.alloc (.cells (e.d.cells A n c).toArray 35)) fun r w' =>
      r = .returned ((ndO op).val (some ⟨W.heap.size, 0, none⟩) 1 1) ∧ ExV w' (.mk (ndO op) [e]) (some ⟨W.heap.size, 0, none⟩) 1 1 ∧ Ext W w' :=
  (node_any op _ 1 1 _).mono fun r w' ⟨h1, h2⟩ =>
    ⟨h1, ⟨rfl, by omega, fit_o hop, (kids_blk (Blk.of_new W 35 _) (hv.ext ((Ext.refl W).alloc _))).ext h2⟩, ((Ext.refl W).alloc _).trans h2⟩
theorem node2 (op : Int) (e f : Ex) (A A' : Option Addr) (n c n' c' : Nat) (W : World) (hop : I64 op) (hv : ExV W e A n c) (hw : ExV W f A' n' c') :
    Calls Tryz.prog 35 #[.int .i64 op, .slice (some ⟨W.heap.size, 0, none⟩) 2 2] (W.alloc (.cells (e.d.cells A n c ++ f.d.cells A' n' c').toArray 35)) fun r w' =>
      r = .returned ((ndO op).val (some ⟨W.heap.size, 0, none⟩) 2 2) ∧ ExV w' (.mk (ndO op) [e, f]) (some ⟨W.heap.size, 0, none⟩) 2 2 ∧ Ext W w' :=
  (node_any op _ 2 2 _).mono fun r w' ⟨h1, h2⟩ =>
    ⟨h1, ⟨rfl, by omega, fit_o hop, (kids_blk2 (Blk.of_new W 35 _) (hv.ext ((Ext.refl W).alloc _)) (hw.ext ((Ext.refl W).alloc _))).ext h2⟩, ((Ext.refl W).alloc _).trans h2⟩
def exC (c : UInt8) : Ex := .mk (ndC ⟨#[c]⟩) []
def exI (n : Int) : Ex := .mk (ndI n) []
theorem exv_c (c : UInt8) (w : World) : ExV w (exC c) none 0 0 :=
  ⟨rfl, by omega, ⟨⟨by show (-9223372036854775808 : Int) ≤ 2; omega, by show (2 : Int) ≤ 9223372036854775807; omega⟩, ⟨by show (-9223372036854775808 : Int) ≤ 0; omega, by show (0 : Int) ≤ 9223372036854775807; omega⟩, ⟨by show (-9223372036854775808 : Int) ≤ 0; omega, by show (0 : Int) ≤ 9223372036854775807; omega⟩, ⟨by show (-9223372036854775808 : Int) ≤ 0; omega, by show (0 : Int) ≤ 9223372036854775807; omega⟩, Nat.zero_le _, by show 1 ≤ _; omega, Nat.zero_le _⟩, trivial⟩
theorem exv_5 (w : World) : ExV w (exI 5) none 0 0 :=
  ⟨rfl, by omega, ⟨⟨by show (-9223372036854775808 : Int) ≤ 1; omega, by show (1 : Int) ≤ 9223372036854775807; omega⟩, ⟨by show (-9223372036854775808 : Int) ≤ 0; omega, by show (0 : Int) ≤ 9223372036854775807; omega⟩, ⟨by show (-9223372036854775808 : Int) ≤ 1; omega, by show (1 : Int) ≤ 9223372036854775807; omega⟩, ⟨by show (-9223372036854775808 : Int) ≤ 5; omega, by show (5 : Int) ≤ 9223372036854775807; omega⟩, Nat.zero_le _, Nat.zero_le _, Nat.zero_le _⟩, trivial⟩
theorem i64_lit {n : Int} (h : 0 ≤ n) (h' : n ≤ 100) : I64 n := ⟨by omega, by omega⟩
def tr1 : Ex := (Ex.mk (ndO 19) [exC 97, (Ex.mk (ndO 18) [exC 98, (Ex.mk (ndO 20) [(Ex.mk (ndO 10) [exC 99, (Ex.mk (ndO 3) [exI 5])])])])])
theorem tr1_text : textE tr1 = ⟨#[97, 32, 79, 82, 32, 98, 32, 65, 78, 68, 32, 78, 79, 84, 32, 99, 32, 61, 32, 45, 53]⟩ ∧ validE tr1 = 0 := by
  constructor
  · apply N_inj
    kernel_rfl
  · kernel_rfl
def tr2 : Ex := (Ex.mk (ndO 18) [(Ex.mk (ndO 19) [exC 97, exC 98]), exC 99])
theorem tr2_text : textE tr2 = ⟨#[40, 97, 32, 79, 82, 32, 98, 41, 32, 65, 78, 68, 32, 99]⟩ ∧ validE tr2 = 0 := by
  constructor
  · apply N_inj
    kernel_rfl
  · kernel_rfl
def tr3 : Ex := (Ex.mk (ndO 5) [(Ex.mk (ndO 5) [exC 97, exC 98]), exC 99])
theorem tr3_text : textE tr3 = ⟨#[97, 32, 45, 32, 98, 32, 45, 32, 99]⟩ ∧ validE tr3 = 0 := by
  constructor
  · apply N_inj
    kernel_rfl
  · kernel_rfl
def tr4 : Ex := (Ex.mk (ndO 5) [exC 97, (Ex.mk (ndO 5) [exC 98, exC 99])])
theorem tr4_text : textE tr4 = ⟨#[97, 32, 45, 32, 40, 98, 32, 45, 32, 99, 41]⟩ ∧ validE tr4 = 0 := by
  constructor
  · apply N_inj
    kernel_rfl
  · kernel_rfl
def tr5 : Ex := (Ex.mk (ndO 17) [(Ex.mk (ndO 17) [exC 97])])
theorem tr5_all : tr5.formed = true ∧ tr5.absent = false ∧ largeB [tr5] = false ∧ nameB ⟨#[116]⟩ = true ∧ tr5.size = 3 := ⟨by kernel_rfl, by kernel_rfl, by kernel_rfl, by kernel_rfl, by kernel_rfl⟩
theorem tr5_text : sDelete ++ ⟨#[116]⟩ ++ (sWhere ++ tr5.tx 1) = ⟨#[68, 69, 76, 69, 84, 69, 32, 70, 82, 79, 77, 32, 116, 32, 87, 72, 69, 82, 69, 32, 40, 97, 32, 73, 83, 32, 78, 85, 76, 76, 41, 32, 73, 83, 32, 78, 85, 76, 76]⟩ := by
  apply N_inj
  kernel_rfl
end Go.Proofs.YtcdnodjcnofogaaGreatDoor
namespace Go.Proofs.YtcdnodjcnofogaaGreatDoor
open Go.RowKit
set_option linter.unusedVariables false
set_option linter.unusedSimpArgs false
set_option maxHeartbeats 4000000
set_option maxRecDepth 100000

theorem col3_cells {w : World} {g1 g2 g3 : Nat} (h1 : Blk w g1 35 [.int .i64 2, .string ⟨#[]⟩, .string ⟨#[97]⟩, .int .i64 0, .int .i64 0, .int .i64 0, .string ⟨#[]⟩, .slice none 0 0]) (h2 : Blk w g2 35 [.int .i64 2, .string ⟨#[]⟩, .string ⟨#[98]⟩, .int .i64 0, .int .i64 0, .int .i64 0, .string ⟨#[]⟩, .slice none 0 0]) (h3 : Blk w g3 35 [.int .i64 2, .string ⟨#[]⟩, .string ⟨#[99]⟩, .int .i64 0, .int .i64 0, .int .i64 0, .string ⟨#[]⟩, .slice none 0 0]) : w.cell? ⟨g1, 0, none⟩ = some (.int .i64 2) ∧ w.cell? ⟨g1, 1, none⟩ = some (.string ⟨#[]⟩) ∧ w.cell? ⟨g1, 2, none⟩ = some (.string ⟨#[97]⟩) ∧ w.cell? ⟨g1, 3, none⟩ = some (.int .i64 0) ∧ w.cell? ⟨g1, 4, none⟩ = some (.int .i64 0) ∧ w.cell? ⟨g1, 5, none⟩ = some (.int .i64 0) ∧ w.cell? ⟨g1, 6, none⟩ = some (.string ⟨#[]⟩) ∧ w.cell? ⟨g1, 7, none⟩ = some (.slice none 0 0) ∧ w.cell? ⟨g2, 0, none⟩ = some (.int .i64 2) ∧ w.cell? ⟨g2, 1, none⟩ = some (.string ⟨#[]⟩) ∧ w.cell? ⟨g2, 2, none⟩ = some (.string ⟨#[98]⟩) ∧ w.cell? ⟨g2, 3, none⟩ = some (.int .i64 0) ∧ w.cell? ⟨g2, 4, none⟩ = some (.int .i64 0) ∧ w.cell? ⟨g2, 5, none⟩ = some (.int .i64 0) ∧ w.cell? ⟨g2, 6, none⟩ = some (.string ⟨#[]⟩) ∧ w.cell? ⟨g2, 7, none⟩ = some (.slice none 0 0) ∧ w.cell? ⟨g3, 0, none⟩ = some (.int .i64 2) ∧ w.cell? ⟨g3, 1, none⟩ = some (.string ⟨#[]⟩) ∧ w.cell? ⟨g3, 2, none⟩ = some (.string ⟨#[99]⟩) ∧ w.cell? ⟨g3, 3, none⟩ = some (.int .i64 0) ∧ w.cell? ⟨g3, 4, none⟩ = some (.int .i64 0) ∧ w.cell? ⟨g3, 5, none⟩ = some (.int .i64 0) ∧ w.cell? ⟨g3, 6, none⟩ = some (.string ⟨#[]⟩) ∧ w.cell? ⟨g3, 7, none⟩ = some (.slice none 0 0) :=
  ⟨h1.cell_some (i := 0) rfl, h1.cell_some (i := 1) rfl, h1.cell_some (i := 2) rfl, h1.cell_some (i := 3) rfl, h1.cell_some (i := 4) rfl, h1.cell_some (i := 5) rfl, h1.cell_some (i := 6) rfl, h1.cell_some (i := 7) rfl, h2.cell_some (i := 0) rfl, h2.cell_some (i := 1) rfl, h2.cell_some (i := 2) rfl, h2.cell_some (i := 3) rfl, h2.cell_some (i := 4) rfl, h2.cell_some (i := 5) rfl, h2.cell_some (i := 6) rfl, h2.cell_some (i := 7) rfl, h3.cell_some (i := 0) rfl, h3.cell_some (i := 1) rfl, h3.cell_some (i := 2) rfl, h3.cell_some (i := 3) rfl, h3.cell_some (i := 4) rfl, h3.cell_some (i := 5) rfl, h3.cell_some (i := 6) rfl, h3.cell_some (i := 7) rfl⟩
theorem col3_keep {w w' : World} {g1 g2 g3 : Nat} (h : Blk w g1 35 [.int .i64 2, .string ⟨#[]⟩, .string ⟨#[97]⟩, .int .i64 0, .int .i64 0, .int .i64 0, .string ⟨#[]⟩, .slice none 0 0] ∧ Blk w g2 35 [.int .i64 2, .string ⟨#[]⟩, .string ⟨#[98]⟩, .int .i64 0, .int .i64 0, .int .i64 0, .string ⟨#[]⟩, .slice none 0 0] ∧ Blk w g3 35 [.int .i64 2, .string ⟨#[]⟩, .string ⟨#[99]⟩, .int .i64 0, .int .i64 0, .int .i64 0, .string ⟨#[]⟩, .slice none 0 0]) (hx : Ext w w') : Blk w' g1 35 [.int .i64 2, .string ⟨#[]⟩, .string ⟨#[97]⟩, .int .i64 0, .int .i64 0, .int .i64 0, .string ⟨#[]⟩, .slice none 0 0] ∧ Blk w' g2 35 [.int .i64 2, .string ⟨#[]⟩, .string ⟨#[98]⟩, .int .i64 0, .int .i64 0, .int .i64 0, .string ⟨#[]⟩, .slice none 0 0] ∧ Blk w' g3 35 [.int .i64 2, .string ⟨#[]⟩, .string ⟨#[99]⟩, .int .i64 0, .int .i64 0, .int .i64 0, .string ⟨#[]⟩, .slice none 0 0] :=
  ⟨h.1.ext hx, h.2.1.ext hx, h.2.2.ext hx⟩
theorem col3_new (w : World) : Blk (((w.alloc (.cells #[.int .i64 2, .string ⟨#[]⟩, .string ⟨#[97]⟩, .int .i64 0, .int .i64 0, .int .i64 0, .string ⟨#[]⟩, .slice none 0 0] 35)).alloc (.cells #[.int .i64 2, .string ⟨#[]⟩, .string ⟨#[98]⟩, .int .i64 0, .int .i64 0, .int .i64 0, .string ⟨#[]⟩, .slice none 0 0] 35)).alloc (.cells #[.int .i64 2, .string ⟨#[]⟩, .string ⟨#[99]⟩, .int .i64 0, .int .i64 0, .int .i64 0, .string ⟨#[]⟩, .slice none 0 0] 35)) w.heap.size 35 [.int .i64 2, .string ⟨#[]⟩, .string ⟨#[97]⟩, .int .i64 0, .int .i64 0, .int .i64 0, .string ⟨#[]⟩, .slice none 0 0] ∧ Blk (((w.alloc (.cells #[.int .i64 2, .string ⟨#[]⟩, .string ⟨#[97]⟩, .int .i64 0, .int .i64 0, .int .i64 0, .string ⟨#[]⟩, .slice none 0 0] 35)).alloc (.cells #[.int .i64 2, .string ⟨#[]⟩, .string ⟨#[98]⟩, .int .i64 0, .int .i64 0, .int .i64 0, .string ⟨#[]⟩, .slice none 0 0] 35)).alloc (.cells #[.int .i64 2, .string ⟨#[]⟩, .string ⟨#[99]⟩, .int .i64 0, .int .i64 0, .int .i64 0, .string ⟨#[]⟩, .slice none 0 0] 35)) (w.heap.size + 1) 35 [.int .i64 2, .string ⟨#[]⟩, .string ⟨#[98]⟩, .int .i64 0, .int .i64 0, .int .i64 0, .string ⟨#[]⟩, .slice none 0 0] ∧ Blk (((w.alloc (.cells #[.int .i64 2, .string ⟨#[]⟩, .string ⟨#[97]⟩, .int .i64 0, .int .i64 0, .int .i64 0, .string ⟨#[]⟩, .slice none 0 0] 35)).alloc (.cells #[.int .i64 2, .string ⟨#[]⟩, .string ⟨#[98]⟩, .int .i64 0, .int .i64 0, .int .i64 0, .string ⟨#[]⟩, .slice none 0 0] 35)).alloc (.cells #[.int .i64 2, .string ⟨#[]⟩, .string ⟨#[99]⟩, .int .i64 0, .int .i64 0, .int .i64 0, .string ⟨#[]⟩, .slice none 0 0] 35)) (w.heap.size + 1 + 1) 35 [.int .i64 2, .string ⟨#[]⟩, .string ⟨#[99]⟩, .int .i64 0, .int .i64 0, .int .i64 0, .string ⟨#[]⟩, .slice none 0 0] := by
  refine ⟨((Blk.of_new w 35 _).ext ((Ext.refl _).alloc _)).ext ((Ext.refl _).alloc _), ?_, ?_⟩
  · have := (Blk.of_new (w.alloc (.cells #[.int .i64 2, .string ⟨#[]⟩, .string ⟨#[97]⟩, .int .i64 0, .int .i64 0, .int .i64 0, .string ⟨#[]⟩, .slice none 0 0] 35)) 35 [.int .i64 2, .string ⟨#[]⟩, .string ⟨#[98]⟩, .int .i64 0, .int .i64 0, .int .i64 0, .string ⟨#[]⟩, .slice none 0 0]).ext ((Ext.refl _).alloc (.cells #[.int .i64 2, .string ⟨#[]⟩, .string ⟨#[99]⟩, .int .i64 0, .int .i64 0, .int .i64 0, .string ⟨#[]⟩, .slice none 0 0] 35))
    rwa [show (w.alloc (.cells #[.int .i64 2, .string ⟨#[]⟩, .string ⟨#[97]⟩, .int .i64 0, .int .i64 0, .int .i64 0, .string ⟨#[]⟩, .slice none 0 0] 35)).heap.size = w.heap.size + 1 by simp] at this
  · have := Blk.of_new ((w.alloc (.cells #[.int .i64 2, .string ⟨#[]⟩, .string ⟨#[97]⟩, .int .i64 0, .int .i64 0, .int .i64 0, .string ⟨#[]⟩, .slice none 0 0] 35)).alloc (.cells #[.int .i64 2, .string ⟨#[]⟩, .string ⟨#[98]⟩, .int .i64 0, .int .i64 0, .int .i64 0, .string ⟨#[]⟩, .slice none 0 0] 35)) 35 [.int .i64 2, .string ⟨#[]⟩, .string ⟨#[99]⟩, .int .i64 0, .int .i64 0, .int .i64 0, .string ⟨#[]⟩, .slice none 0 0]
    rwa [show ((w.alloc (.cells #[.int .i64 2, .string ⟨#[]⟩, .string ⟨#[97]⟩, .int .i64 0, .int .i64 0, .int .i64 0, .string ⟨#[]⟩, .slice none 0 0] 35)).alloc (.cells #[.int .i64 2, .string ⟨#[]⟩, .string ⟨#[98]⟩, .int .i64 0, .int .i64 0, .int .i64 0, .string ⟨#[]⟩, .slice none 0 0] 35)).heap.size = w.heap.size + 1 + 1 by simp] at this

theorem node1v (op : Int) (e : Ex) (A : Option Addr) (n c : Nat) (W : World) (hop : I64 op) (hv : ExV W e A n c) :
    Calls Tryz.prog 35 #[.int .i64 op, .slice (some ⟨W.heap.size, 0, none⟩) 1 1] (W.alloc (.cells (e.d.cells A n c).toArray 35)) fun r w' =>
      r = .returned (.agg #[.int .i64 op, .string ⟨#[]⟩, .string ⟨#[]⟩, .int .i64 0, .int .i64 0, .int .i64 0, .string ⟨#[]⟩, .slice (some ⟨W.heap.size, 0, none⟩) 1 1]) ∧ ExV w' (.mk (ndO op) [e]) (some ⟨W.heap.size, 0, none⟩) 1 1 ∧ Ext W w' := node1 op e A n c W hop hv
theorem node2v (op : Int) (e f : Ex) (A A' : Option Addr) (n c n' c' : Nat) (W : World) (hop : I64 op) (hv : ExV W e A n c) (hw : ExV W f A' n' c') :
    Calls Tryz.prog 35 #[.int .i64 op, .slice (some ⟨W.heap.size, 0, none⟩) 2 2] (W.alloc (.cells (e.d.cells A n c ++ f.d.cells A' n' c').toArray 35)) fun r w' =>
      r = .returned (.agg #[.int .i64 op, .string ⟨#[]⟩, .string ⟨#[]⟩, .int .i64 0, .int .i64 0, .int .i64 0, .string ⟨#[]⟩, .slice (some ⟨W.heap.size, 0, none⟩) 2 2]) ∧ ExV w' (.mk (ndO op) [e, f]) (some ⟨W.heap.size, 0, none⟩) 2 2 ∧ Ext W w' := node2 op e f A A' n c n' c' W hop hv hw
def tr6 : Ex := Ex.mk (ndO 18) [exC 97, exC 98]
theorem awake_any (w : World) (hg : Gd w) : Calls Tryz.prog 12 #[] w fun r w' => r = .returned (.bool true) ∧ Ext w w' := by
  have HC := hid (fun s W => column_any s W)
  have HNum : Hid (∀ W, Calls Tryz.prog 36 #[.int .i64 5] W fun r w' => r = .returned ((ndI 5).val none 0 0) ∧ Ext W w') := fun W => number_ex 5 W
  have HF1 : Hid (∀ W A n c, ExV W tr1 A n c → Ext w W → Calls Tryz.prog 21 #[tr1.d.val A n c] W fun r w' => r = .returned (.tuple #[.string ⟨#[97, 32, 79, 82, 32, 98, 32, 65, 78, 68, 32, 78, 79, 84, 32, 99, 32, 61, 32, 45, 53]⟩, .int .i64 0]) ∧ Ext W w') := by
    intro W A n c hv hW
    have := format_any tr1 A n c W hv (hg.ext hW)
    rwa [tr1_text.1, tr1_text.2] at this
  have HF2 : Hid (∀ W A n c, ExV W tr2 A n c → Ext w W → Calls Tryz.prog 21 #[tr2.d.val A n c] W fun r w' => r = .returned (.tuple #[.string ⟨#[40, 97, 32, 79, 82, 32, 98, 41, 32, 65, 78, 68, 32, 99]⟩, .int .i64 0]) ∧ Ext W w') := by
    intro W A n c hv hW
    have := format_any tr2 A n c W hv (hg.ext hW)
    rwa [tr2_text.1, tr2_text.2] at this
  have HF3 : Hid (∀ W A n c, ExV W tr3 A n c → Ext w W → Calls Tryz.prog 21 #[tr3.d.val A n c] W fun r w' => r = .returned (.tuple #[.string ⟨#[97, 32, 45, 32, 98, 32, 45, 32, 99]⟩, .int .i64 0]) ∧ Ext W w') := by
    intro W A n c hv hW
    have := format_any tr3 A n c W hv (hg.ext hW)
    rwa [tr3_text.1, tr3_text.2] at this
  have HF4 : Hid (∀ W A n c, ExV W tr4 A n c → Ext w W → Calls Tryz.prog 21 #[tr4.d.val A n c] W fun r w' => r = .returned (.tuple #[.string ⟨#[97, 32, 45, 32, 40, 98, 32, 45, 32, 99, 41]⟩, .int .i64 0]) ∧ Ext W w') := by
    intro W A n c hv hW
    have := format_any tr4 A n c W hv (hg.ext hW)
    rwa [tr4_text.1, tr4_text.2] at this
  have HD : Hid (∀ W A n c, ExV W tr5 A n c → Ext w W → Calls Tryz.prog 19 #[delV ⟨#[116]⟩ tr5.d A n c] W fun r w' => r = .returned (.tuple #[.string ⟨#[68, 69, 76, 69, 84, 69, 32, 70, 82, 79, 77, 32, 116, 32, 87, 72, 69, 82, 69, 32, 40, 97, 32, 73, 83, 32, 78, 85, 76, 76, 41, 32, 73, 83, 32, 78, 85, 76, 76]⟩, .int .i64 0]) ∧ Ext W w') := by
    intro W A n c hv hW
    have := del_text ⟨#[116]⟩ tr5 A n c W hv (by show 1 ≤ 24; omega) tr5_all.2.2.2.1 tr5_all.2.1 tr5_all.1 tr5_all.2.2.1 (by rw [tr5_text]; show 39 ≤ 16384; omega) (by rw [tr5_all.2.2.2.2]; omega) (hg.ext hW)
    rwa [tr5_text] at this
  have HVE : Hid (∀ W, Ext w W → Calls Tryz.prog 17 #[exZ.d.val none 0 0] W fun r w' => r = .returned (.int .i64 1) ∧ Ext W w') := by
    intro W hW
    have := valid_any exZ none 0 0 W ⟨rfl, by omega, fit_o (i64_lit (by omega) (by omega)), trivial⟩ (hg.sh.ext hW)
    rwa [show validE exZ = 1 by kernel_rfl] at this
  have HNo : Hid (∀ W A n c, ExV W tr6 A n c → Calls Tryz.prog 26 #[tr6.d.val A n c] W fun r w' => r = .returned (.int .i64 3) ∧ Ext W w') := by
    intro W A n c hv
    have := nodes_any tr6 A n c W hv
    rwa [show wrap64 (tr6.nodes : Int) = 3 by kernel_rfl] at this
  have HDe : Hid (∀ W A n c, ExV W tr6 A n c → Calls Tryz.prog 30 #[tr6.d.val A n c] W fun r w' => r = .returned (.int .i64 2) ∧ Ext W w') := by
    intro W A n c hv
    have := depth_any tr6 A n c W hv (by show 3 ≤ 100000000; omega)
    rwa [show (tr6.depth : Int) = 2 by kernel_rfl] at this
  clear hg
  unfold delV at HD
  unfold ndC Nd.val at HC
  unfold ndI Nd.val at HNum
  go_enter Tryz.func12, Tryz.ntmps12
  go_wp2_with (first | (go_at_call 34; refine (HC.out _ w2).mono ?_; rintro _ w3 ⟨rfl, hx3⟩) | (go_at_call 34; refine (HC.out _ w1).mono ?_; rintro _ w2 ⟨rfl, hx2⟩) | (go_at_call 34; refine (HC.out _ w).mono ?_; rintro _ w1 ⟨rfl, hx1⟩))
  have HB := hid (col3_new w3)
  have HX := hid (((((hx1.trans hx2).trans hx3).alloc (.cells #[.int .i64 2, .string ⟨#[]⟩, .string ⟨#[97]⟩, .int .i64 0, .int .i64 0, .int .i64 0, .string ⟨#[]⟩, .slice none 0 0] 35)).alloc (.cells #[.int .i64 2, .string ⟨#[]⟩, .string ⟨#[98]⟩, .int .i64 0, .int .i64 0, .int .i64 0, .string ⟨#[]⟩, .slice none 0 0] 35)).alloc (.cells #[.int .i64 2, .string ⟨#[]⟩, .string ⟨#[99]⟩, .int .i64 0, .int .i64 0, .int .i64 0, .string ⟨#[]⟩, .slice none 0 0] 35))
  clear hx1 hx2 hx3
  generalize ((w3.alloc _).alloc _).alloc _ = W0 at *
  generalize w3.heap.size + 1 + 1 = g3 at *
  generalize w3.heap.size + 1 = g2 at *
  generalize w3.heap.size = g1 at *
  have hS := col3_cells HB.out.1 HB.out.2.1 HB.out.2.2
  go_region_held3 (fun w' => w'.cell? ⟨g1, 0, none⟩ = some (.int .i64 2) ∧ w'.cell? ⟨g1, 1, none⟩ = some (.string ⟨#[]⟩) ∧ w'.cell? ⟨g1, 2, none⟩ = some (.string ⟨#[97]⟩) ∧ w'.cell? ⟨g1, 3, none⟩ = some (.int .i64 0) ∧ w'.cell? ⟨g1, 4, none⟩ = some (.int .i64 0) ∧ w'.cell? ⟨g1, 5, none⟩ = some (.int .i64 0) ∧ w'.cell? ⟨g1, 6, none⟩ = some (.string ⟨#[]⟩) ∧ w'.cell? ⟨g1, 7, none⟩ = some (.slice none 0 0) ∧ w'.cell? ⟨g2, 0, none⟩ = some (.int .i64 2) ∧ w'.cell? ⟨g2, 1, none⟩ = some (.string ⟨#[]⟩) ∧ w'.cell? ⟨g2, 2, none⟩ = some (.string ⟨#[98]⟩) ∧ w'.cell? ⟨g2, 3, none⟩ = some (.int .i64 0) ∧ w'.cell? ⟨g2, 4, none⟩ = some (.int .i64 0) ∧ w'.cell? ⟨g2, 5, none⟩ = some (.int .i64 0) ∧ w'.cell? ⟨g2, 6, none⟩ = some (.string ⟨#[]⟩) ∧ w'.cell? ⟨g2, 7, none⟩ = some (.slice none 0 0) ∧ w'.cell? ⟨g3, 0, none⟩ = some (.int .i64 2) ∧ w'.cell? ⟨g3, 1, none⟩ = some (.string ⟨#[]⟩) ∧ w'.cell? ⟨g3, 2, none⟩ = some (.string ⟨#[99]⟩) ∧ w'.cell? ⟨g3, 3, none⟩ = some (.int .i64 0) ∧ w'.cell? ⟨g3, 4, none⟩ = some (.int .i64 0) ∧ w'.cell? ⟨g3, 5, none⟩ = some (.int .i64 0) ∧ w'.cell? ⟨g3, 6, none⟩ = some (.string ⟨#[]⟩) ∧ w'.cell? ⟨g3, 7, none⟩ = some (.slice none 0 0))
    (first | exact col3_cells (col3_keep HB.out z1_7).1 (col3_keep HB.out z1_7).2.1 (col3_keep HB.out z1_7).2.2 | exact col3_cells (col3_keep HB.out (z1_7.alloc _)).1 (col3_keep HB.out (z1_7.alloc _)).2.1 (col3_keep HB.out (z1_7.alloc _)).2.2 | exact col3_cells (col3_keep HB.out z1_6).1 (col3_keep HB.out z1_6).2.1 (col3_keep HB.out z1_6).2.2 | exact col3_cells (col3_keep HB.out (z1_6.alloc _)).1 (col3_keep HB.out (z1_6.alloc _)).2.1 (col3_keep HB.out (z1_6.alloc _)).2.2 | exact col3_cells (col3_keep HB.out z1_5).1 (col3_keep HB.out z1_5).2.1 (col3_keep HB.out z1_5).2.2 | exact col3_cells (col3_keep HB.out (z1_5.alloc _)).1 (col3_keep HB.out (z1_5.alloc _)).2.1 (col3_keep HB.out (z1_5.alloc _)).2.2 | exact col3_cells (col3_keep HB.out z1_4).1 (col3_keep HB.out z1_4).2.1 (col3_keep HB.out z1_4).2.2 | exact col3_cells (col3_keep HB.out (z1_4.alloc _)).1 (col3_keep HB.out (z1_4.alloc _)).2.1 (col3_keep HB.out (z1_4.alloc _)).2.2 | exact col3_cells (col3_keep HB.out z1_3).1 (col3_keep HB.out z1_3).2.1 (col3_keep HB.out z1_3).2.2 | exact col3_cells (col3_keep HB.out (z1_3.alloc _)).1 (col3_keep HB.out (z1_3.alloc _)).2.1 (col3_keep HB.out (z1_3.alloc _)).2.2 | exact col3_cells (col3_keep HB.out z1_2).1 (col3_keep HB.out z1_2).2.1 (col3_keep HB.out z1_2).2.2 | exact col3_cells (col3_keep HB.out (z1_2.alloc _)).1 (col3_keep HB.out (z1_2.alloc _)).2.1 (col3_keep HB.out (z1_2.alloc _)).2.2 | exact col3_cells (col3_keep HB.out z1_1).1 (col3_keep HB.out z1_1).2.1 (col3_keep HB.out z1_1).2.2 | exact col3_cells (col3_keep HB.out (z1_1.alloc _)).1 (col3_keep HB.out (z1_1.alloc _)).2.1 (col3_keep HB.out (z1_1.alloc _)).2.2 | exact col3_cells (col3_keep HB.out ((Ext.refl _).drew)).1 (col3_keep HB.out ((Ext.refl _).drew)).2.1 (col3_keep HB.out ((Ext.refl _).drew)).2.2 | exact col3_cells (col3_keep HB.out ((Ext.refl _).drew.alloc _)).1 (col3_keep HB.out ((Ext.refl _).drew.alloc _)).2.1 (col3_keep HB.out ((Ext.refl _).drew.alloc _)).2.2)
    (first | (go_at_call 21; refine (HF1.out _ (some ⟨(x1_5).heap.size, 0, none⟩) 2 2 v1_6 (HX.out.trans z1_6)).mono ?_; rintro _ x1_7 ⟨rfl, qx1_7⟩; have z1_7 := z1_6.trans qx1_7) | (go_at_call 35; refine (node2v 19 (exC 97) (Ex.mk (ndO 18) [exC 98, Ex.mk (ndO 20) [Ex.mk (ndO 10) [exC 99, Ex.mk (ndO 3) [exI 5]]]]) none (some ⟨(x1_4).heap.size, 0, none⟩) 0 0 2 2 x1_5 (i64_lit (by omega) (by omega)) (exv_c _ _) v1_5).mono ?_; rintro _ x1_6 ⟨rfl, v1_6, qx1_6⟩; have z1_6 := z1_5.trans qx1_6) | (go_at_call 35; refine (node2v 18 (exC 98) (Ex.mk (ndO 20) [Ex.mk (ndO 10) [exC 99, Ex.mk (ndO 3) [exI 5]]]) none (some ⟨(x1_3).heap.size, 0, none⟩) 0 0 1 1 x1_4 (i64_lit (by omega) (by omega)) (exv_c _ _) v1_4).mono ?_; rintro _ x1_5 ⟨rfl, v1_5, qx1_5⟩; have z1_5 := z1_4.trans qx1_5) | (go_at_call 35; refine (node1v 20 (Ex.mk (ndO 10) [exC 99, Ex.mk (ndO 3) [exI 5]]) (some ⟨(x1_2).heap.size, 0, none⟩) 2 2 x1_3 (i64_lit (by omega) (by omega)) v1_3).mono ?_; rintro _ x1_4 ⟨rfl, v1_4, qx1_4⟩; have z1_4 := z1_3.trans qx1_4) | (go_at_call 35; refine (node2v 10 (exC 99) (Ex.mk (ndO 3) [exI 5]) none (some ⟨(x1_1).heap.size, 0, none⟩) 0 0 1 1 x1_2 (i64_lit (by omega) (by omega)) (exv_c _ _) v1_2).mono ?_; rintro _ x1_3 ⟨rfl, v1_3, qx1_3⟩; have z1_3 := z1_2.trans qx1_3) | (go_at_call 35; refine (node1v 3 (exI 5) none 0 0 x1_1 (i64_lit (by omega) (by omega)) (exv_5 _)).mono ?_; rintro _ x1_2 ⟨rfl, v1_2, qx1_2⟩; have z1_2 := z1_1.trans qx1_2) | (go_at_call 36; refine (HNum.out _).mono ?_; rintro _ x1_1 ⟨rfl, qx1_1⟩; have z1_1 := ((Ext.refl _).drew).trans qx1_1))
  replace HB := hid (col3_keep HB.out z1_7)
  replace HX := hid (HX.out.trans z1_7)
  clear z1_1 qx1_1 z1_2 qx1_2 v1_2 z1_3 qx1_3 v1_3 z1_4 qx1_4 v1_4 z1_5 qx1_5 v1_5 z1_6 qx1_6 v1_6 z1_7 qx1_7 hS
  rename_i hh
  clear hh
  go_wp2_with fail
  have hS := col3_cells HB.out.1 HB.out.2.1 HB.out.2.2
  go_region_held3 (fun w' => w'.cell? ⟨g1, 0, none⟩ = some (.int .i64 2) ∧ w'.cell? ⟨g1, 1, none⟩ = some (.string ⟨#[]⟩) ∧ w'.cell? ⟨g1, 2, none⟩ = some (.string ⟨#[97]⟩) ∧ w'.cell? ⟨g1, 3, none⟩ = some (.int .i64 0) ∧ w'.cell? ⟨g1, 4, none⟩ = some (.int .i64 0) ∧ w'.cell? ⟨g1, 5, none⟩ = some (.int .i64 0) ∧ w'.cell? ⟨g1, 6, none⟩ = some (.string ⟨#[]⟩) ∧ w'.cell? ⟨g1, 7, none⟩ = some (.slice none 0 0) ∧ w'.cell? ⟨g2, 0, none⟩ = some (.int .i64 2) ∧ w'.cell? ⟨g2, 1, none⟩ = some (.string ⟨#[]⟩) ∧ w'.cell? ⟨g2, 2, none⟩ = some (.string ⟨#[98]⟩) ∧ w'.cell? ⟨g2, 3, none⟩ = some (.int .i64 0) ∧ w'.cell? ⟨g2, 4, none⟩ = some (.int .i64 0) ∧ w'.cell? ⟨g2, 5, none⟩ = some (.int .i64 0) ∧ w'.cell? ⟨g2, 6, none⟩ = some (.string ⟨#[]⟩) ∧ w'.cell? ⟨g2, 7, none⟩ = some (.slice none 0 0) ∧ w'.cell? ⟨g3, 0, none⟩ = some (.int .i64 2) ∧ w'.cell? ⟨g3, 1, none⟩ = some (.string ⟨#[]⟩) ∧ w'.cell? ⟨g3, 2, none⟩ = some (.string ⟨#[99]⟩) ∧ w'.cell? ⟨g3, 3, none⟩ = some (.int .i64 0) ∧ w'.cell? ⟨g3, 4, none⟩ = some (.int .i64 0) ∧ w'.cell? ⟨g3, 5, none⟩ = some (.int .i64 0) ∧ w'.cell? ⟨g3, 6, none⟩ = some (.string ⟨#[]⟩) ∧ w'.cell? ⟨g3, 7, none⟩ = some (.slice none 0 0))
    (first | exact col3_cells (col3_keep HB.out z2_3).1 (col3_keep HB.out z2_3).2.1 (col3_keep HB.out z2_3).2.2 | exact col3_cells (col3_keep HB.out (z2_3.alloc _)).1 (col3_keep HB.out (z2_3.alloc _)).2.1 (col3_keep HB.out (z2_3.alloc _)).2.2 | exact col3_cells (col3_keep HB.out z2_2).1 (col3_keep HB.out z2_2).2.1 (col3_keep HB.out z2_2).2.2 | exact col3_cells (col3_keep HB.out (z2_2.alloc _)).1 (col3_keep HB.out (z2_2.alloc _)).2.1 (col3_keep HB.out (z2_2.alloc _)).2.2 | exact col3_cells (col3_keep HB.out z2_1).1 (col3_keep HB.out z2_1).2.1 (col3_keep HB.out z2_1).2.2 | exact col3_cells (col3_keep HB.out (z2_1.alloc _)).1 (col3_keep HB.out (z2_1.alloc _)).2.1 (col3_keep HB.out (z2_1.alloc _)).2.2 | exact col3_cells (col3_keep HB.out ((Ext.refl _).drew)).1 (col3_keep HB.out ((Ext.refl _).drew)).2.1 (col3_keep HB.out ((Ext.refl _).drew)).2.2 | exact col3_cells (col3_keep HB.out ((Ext.refl _).drew.alloc _)).1 (col3_keep HB.out ((Ext.refl _).drew.alloc _)).2.1 (col3_keep HB.out ((Ext.refl _).drew.alloc _)).2.2)
    (first | (go_at_call 21; refine (HF2.out _ (some ⟨(x2_1).heap.size, 0, none⟩) 2 2 v2_2 (HX.out.trans z2_2)).mono ?_; rintro _ x2_3 ⟨rfl, qx2_3⟩; have z2_3 := z2_2.trans qx2_3) | (go_at_call 35; refine (node2v 18 (Ex.mk (ndO 19) [exC 97, exC 98]) (exC 99) (some ⟨(x1_7.drew).heap.size, 0, none⟩) none 2 2 0 0 x2_1 (i64_lit (by omega) (by omega)) v2_1 (exv_c _ _)).mono ?_; rintro _ x2_2 ⟨rfl, v2_2, qx2_2⟩; have z2_2 := z2_1.trans qx2_2) | (go_at_call 35; refine (node2v 19 (exC 97) (exC 98) none none 0 0 0 0 x1_7.drew (i64_lit (by omega) (by omega)) (exv_c _ _) (exv_c _ _)).mono ?_; rintro _ x2_1 ⟨rfl, v2_1, qx2_1⟩; have z2_1 := ((Ext.refl _).drew).trans qx2_1))
  replace HB := hid (col3_keep HB.out z2_3)
  replace HX := hid (HX.out.trans z2_3)
  clear z2_1 qx2_1 v2_1 z2_2 qx2_2 v2_2 z2_3 qx2_3 hS
  rename_i hh
  clear hh
  go_wp2_with fail
  have hS := col3_cells HB.out.1 HB.out.2.1 HB.out.2.2
  go_region_held3 (fun w' => w'.cell? ⟨g1, 0, none⟩ = some (.int .i64 2) ∧ w'.cell? ⟨g1, 1, none⟩ = some (.string ⟨#[]⟩) ∧ w'.cell? ⟨g1, 2, none⟩ = some (.string ⟨#[97]⟩) ∧ w'.cell? ⟨g1, 3, none⟩ = some (.int .i64 0) ∧ w'.cell? ⟨g1, 4, none⟩ = some (.int .i64 0) ∧ w'.cell? ⟨g1, 5, none⟩ = some (.int .i64 0) ∧ w'.cell? ⟨g1, 6, none⟩ = some (.string ⟨#[]⟩) ∧ w'.cell? ⟨g1, 7, none⟩ = some (.slice none 0 0) ∧ w'.cell? ⟨g2, 0, none⟩ = some (.int .i64 2) ∧ w'.cell? ⟨g2, 1, none⟩ = some (.string ⟨#[]⟩) ∧ w'.cell? ⟨g2, 2, none⟩ = some (.string ⟨#[98]⟩) ∧ w'.cell? ⟨g2, 3, none⟩ = some (.int .i64 0) ∧ w'.cell? ⟨g2, 4, none⟩ = some (.int .i64 0) ∧ w'.cell? ⟨g2, 5, none⟩ = some (.int .i64 0) ∧ w'.cell? ⟨g2, 6, none⟩ = some (.string ⟨#[]⟩) ∧ w'.cell? ⟨g2, 7, none⟩ = some (.slice none 0 0) ∧ w'.cell? ⟨g3, 0, none⟩ = some (.int .i64 2) ∧ w'.cell? ⟨g3, 1, none⟩ = some (.string ⟨#[]⟩) ∧ w'.cell? ⟨g3, 2, none⟩ = some (.string ⟨#[99]⟩) ∧ w'.cell? ⟨g3, 3, none⟩ = some (.int .i64 0) ∧ w'.cell? ⟨g3, 4, none⟩ = some (.int .i64 0) ∧ w'.cell? ⟨g3, 5, none⟩ = some (.int .i64 0) ∧ w'.cell? ⟨g3, 6, none⟩ = some (.string ⟨#[]⟩) ∧ w'.cell? ⟨g3, 7, none⟩ = some (.slice none 0 0))
    (first | exact col3_cells (col3_keep HB.out z3_3).1 (col3_keep HB.out z3_3).2.1 (col3_keep HB.out z3_3).2.2 | exact col3_cells (col3_keep HB.out (z3_3.alloc _)).1 (col3_keep HB.out (z3_3.alloc _)).2.1 (col3_keep HB.out (z3_3.alloc _)).2.2 | exact col3_cells (col3_keep HB.out z3_2).1 (col3_keep HB.out z3_2).2.1 (col3_keep HB.out z3_2).2.2 | exact col3_cells (col3_keep HB.out (z3_2.alloc _)).1 (col3_keep HB.out (z3_2.alloc _)).2.1 (col3_keep HB.out (z3_2.alloc _)).2.2 | exact col3_cells (col3_keep HB.out z3_1).1 (col3_keep HB.out z3_1).2.1 (col3_keep HB.out z3_1).2.2 | exact col3_cells (col3_keep HB.out (z3_1.alloc _)).1 (col3_keep HB.out (z3_1.alloc _)).2.1 (col3_keep HB.out (z3_1.alloc _)).2.2 | exact col3_cells (col3_keep HB.out ((Ext.refl _).drew)).1 (col3_keep HB.out ((Ext.refl _).drew)).2.1 (col3_keep HB.out ((Ext.refl _).drew)).2.2 | exact col3_cells (col3_keep HB.out ((Ext.refl _).drew.alloc _)).1 (col3_keep HB.out ((Ext.refl _).drew.alloc _)).2.1 (col3_keep HB.out ((Ext.refl _).drew.alloc _)).2.2)
    (first | (go_at_call 21; refine (HF3.out _ (some ⟨(x3_1).heap.size, 0, none⟩) 2 2 v3_2 (HX.out.trans z3_2)).mono ?_; rintro _ x3_3 ⟨rfl, qx3_3⟩; have z3_3 := z3_2.trans qx3_3) | (go_at_call 35; refine (node2v 5 (Ex.mk (ndO 5) [exC 97, exC 98]) (exC 99) (some ⟨(x2_3.drew).heap.size, 0, none⟩) none 2 2 0 0 x3_1 (i64_lit (by omega) (by omega)) v3_1 (exv_c _ _)).mono ?_; rintro _ x3_2 ⟨rfl, v3_2, qx3_2⟩; have z3_2 := z3_1.trans qx3_2) | (go_at_call 35; refine (node2v 5 (exC 97) (exC 98) none none 0 0 0 0 x2_3.drew (i64_lit (by omega) (by omega)) (exv_c _ _) (exv_c _ _)).mono ?_; rintro _ x3_1 ⟨rfl, v3_1, qx3_1⟩; have z3_1 := ((Ext.refl _).drew).trans qx3_1))
  replace HB := hid (col3_keep HB.out z3_3)
  replace HX := hid (HX.out.trans z3_3)
  clear z3_1 qx3_1 v3_1 z3_2 qx3_2 v3_2 z3_3 qx3_3 hS
  rename_i hh
  clear hh
  go_wp2_with fail
  have hS := col3_cells HB.out.1 HB.out.2.1 HB.out.2.2
  go_region_held3 (fun w' => w'.cell? ⟨g1, 0, none⟩ = some (.int .i64 2) ∧ w'.cell? ⟨g1, 1, none⟩ = some (.string ⟨#[]⟩) ∧ w'.cell? ⟨g1, 2, none⟩ = some (.string ⟨#[97]⟩) ∧ w'.cell? ⟨g1, 3, none⟩ = some (.int .i64 0) ∧ w'.cell? ⟨g1, 4, none⟩ = some (.int .i64 0) ∧ w'.cell? ⟨g1, 5, none⟩ = some (.int .i64 0) ∧ w'.cell? ⟨g1, 6, none⟩ = some (.string ⟨#[]⟩) ∧ w'.cell? ⟨g1, 7, none⟩ = some (.slice none 0 0) ∧ w'.cell? ⟨g2, 0, none⟩ = some (.int .i64 2) ∧ w'.cell? ⟨g2, 1, none⟩ = some (.string ⟨#[]⟩) ∧ w'.cell? ⟨g2, 2, none⟩ = some (.string ⟨#[98]⟩) ∧ w'.cell? ⟨g2, 3, none⟩ = some (.int .i64 0) ∧ w'.cell? ⟨g2, 4, none⟩ = some (.int .i64 0) ∧ w'.cell? ⟨g2, 5, none⟩ = some (.int .i64 0) ∧ w'.cell? ⟨g2, 6, none⟩ = some (.string ⟨#[]⟩) ∧ w'.cell? ⟨g2, 7, none⟩ = some (.slice none 0 0) ∧ w'.cell? ⟨g3, 0, none⟩ = some (.int .i64 2) ∧ w'.cell? ⟨g3, 1, none⟩ = some (.string ⟨#[]⟩) ∧ w'.cell? ⟨g3, 2, none⟩ = some (.string ⟨#[99]⟩) ∧ w'.cell? ⟨g3, 3, none⟩ = some (.int .i64 0) ∧ w'.cell? ⟨g3, 4, none⟩ = some (.int .i64 0) ∧ w'.cell? ⟨g3, 5, none⟩ = some (.int .i64 0) ∧ w'.cell? ⟨g3, 6, none⟩ = some (.string ⟨#[]⟩) ∧ w'.cell? ⟨g3, 7, none⟩ = some (.slice none 0 0))
    (first | exact col3_cells (col3_keep HB.out z4_3).1 (col3_keep HB.out z4_3).2.1 (col3_keep HB.out z4_3).2.2 | exact col3_cells (col3_keep HB.out (z4_3.alloc _)).1 (col3_keep HB.out (z4_3.alloc _)).2.1 (col3_keep HB.out (z4_3.alloc _)).2.2 | exact col3_cells (col3_keep HB.out z4_2).1 (col3_keep HB.out z4_2).2.1 (col3_keep HB.out z4_2).2.2 | exact col3_cells (col3_keep HB.out (z4_2.alloc _)).1 (col3_keep HB.out (z4_2.alloc _)).2.1 (col3_keep HB.out (z4_2.alloc _)).2.2 | exact col3_cells (col3_keep HB.out z4_1).1 (col3_keep HB.out z4_1).2.1 (col3_keep HB.out z4_1).2.2 | exact col3_cells (col3_keep HB.out (z4_1.alloc _)).1 (col3_keep HB.out (z4_1.alloc _)).2.1 (col3_keep HB.out (z4_1.alloc _)).2.2 | exact col3_cells (col3_keep HB.out ((Ext.refl _).drew)).1 (col3_keep HB.out ((Ext.refl _).drew)).2.1 (col3_keep HB.out ((Ext.refl _).drew)).2.2 | exact col3_cells (col3_keep HB.out ((Ext.refl _).drew.alloc _)).1 (col3_keep HB.out ((Ext.refl _).drew.alloc _)).2.1 (col3_keep HB.out ((Ext.refl _).drew.alloc _)).2.2)
    (first | (go_at_call 21; refine (HF4.out _ (some ⟨(x4_1).heap.size, 0, none⟩) 2 2 v4_2 (HX.out.trans z4_2)).mono ?_; rintro _ x4_3 ⟨rfl, qx4_3⟩; have z4_3 := z4_2.trans qx4_3) | (go_at_call 35; refine (node2v 5 (exC 97) (Ex.mk (ndO 5) [exC 98, exC 99]) none (some ⟨(x3_3.drew).heap.size, 0, none⟩) 0 0 2 2 x4_1 (i64_lit (by omega) (by omega)) (exv_c _ _) v4_1).mono ?_; rintro _ x4_2 ⟨rfl, v4_2, qx4_2⟩; have z4_2 := z4_1.trans qx4_2) | (go_at_call 35; refine (node2v 5 (exC 98) (exC 99) none none 0 0 0 0 x3_3.drew (i64_lit (by omega) (by omega)) (exv_c _ _) (exv_c _ _)).mono ?_; rintro _ x4_1 ⟨rfl, v4_1, qx4_1⟩; have z4_1 := ((Ext.refl _).drew).trans qx4_1))
  replace HB := hid (col3_keep HB.out z4_3)
  replace HX := hid (HX.out.trans z4_3)
  clear z4_1 qx4_1 v4_1 z4_2 qx4_2 v4_2 z4_3 qx4_3 hS
  rename_i hh
  clear hh
  obtain ⟨e0_0, e0_1, e0_2, e0_3, e0_4, e0_5, e0_6, e0_7, e1_0, e1_1, e1_2, e1_3, e1_4, e1_5, e1_6, e1_7, e2_0, e2_1, e2_2, e2_3, e2_4, e2_5, e2_6, e2_7⟩ := col3_cells (col3_keep HB.out (Ext.refl _)).1 (col3_keep HB.out (Ext.refl _)).2.1 (col3_keep HB.out (Ext.refl _)).2.2
  go_wp2_with (first | (go_at_call 30; refine (HDe.out _ (some ⟨(x5_6).heap.size, 0, none⟩) 2 2 v5_7).mono ?_; rintro _ x5_8 ⟨rfl, qx5_8⟩; have z5_8 := z5_7.trans qx5_8) | (go_at_call 35; refine (node2v 18 (exC 97) (exC 98) none none 0 0 0 0 x5_6 (i64_lit (by omega) (by omega)) (exv_c _ _) (exv_c _ _)).mono ?_; rintro _ x5_7 ⟨rfl, v5_7, qx5_7⟩; have z5_7 := z5_6.trans qx5_7) | (go_at_call 26; refine (HNo.out _ (some ⟨(x5_4).heap.size, 0, none⟩) 2 2 v5_5).mono ?_; rintro _ x5_6 ⟨rfl, qx5_6⟩; have z5_6 := z5_5.trans qx5_6; obtain ⟨e0_0, e0_1, e0_2, e0_3, e0_4, e0_5, e0_6, e0_7, e1_0, e1_1, e1_2, e1_3, e1_4, e1_5, e1_6, e1_7, e2_0, e2_1, e2_2, e2_3, e2_4, e2_5, e2_6, e2_7⟩ := col3_cells (col3_keep HB.out z5_6).1 (col3_keep HB.out z5_6).2.1 (col3_keep HB.out z5_6).2.2) | (go_at_call 35; refine (node2v 18 (exC 97) (exC 98) none none 0 0 0 0 x5_4 (i64_lit (by omega) (by omega)) (exv_c _ _) (exv_c _ _)).mono ?_; rintro _ x5_5 ⟨rfl, v5_5, qx5_5⟩; have z5_5 := z5_4.trans qx5_5) | (go_at_call 17; refine (HVE.out _ (HX.out.trans z5_3)).mono ?_; rintro _ x5_4 ⟨rfl, qx5_4⟩; have z5_4 := z5_3.trans qx5_4; obtain ⟨e0_0, e0_1, e0_2, e0_3, e0_4, e0_5, e0_6, e0_7, e1_0, e1_1, e1_2, e1_3, e1_4, e1_5, e1_6, e1_7, e2_0, e2_1, e2_2, e2_3, e2_4, e2_5, e2_6, e2_7⟩ := col3_cells (col3_keep HB.out z5_4).1 (col3_keep HB.out z5_4).2.1 (col3_keep HB.out z5_4).2.2) | (go_at_call 19; refine (HD.out _ (some ⟨(x5_1).heap.size, 0, none⟩) 1 1 v5_2 (HX.out.trans z5_2)).mono ?_; rintro _ x5_3 ⟨rfl, qx5_3⟩; have z5_3 := z5_2.trans qx5_3) | (go_at_call 35; refine (node1v 17 (Ex.mk (ndO 17) [exC 97]) (some ⟨(x4_3).heap.size, 0, none⟩) 1 1 x5_1 (i64_lit (by omega) (by omega)) v5_1).mono ?_; rintro _ x5_2 ⟨rfl, v5_2, qx5_2⟩; have z5_2 := z5_1.trans qx5_2) | (go_at_call 35; refine (node1v 17 (exC 97) none 0 0 x4_3 (i64_lit (by omega) (by omega)) (exv_c _ _)).mono ?_; rintro _ x5_1 ⟨rfl, v5_1, qx5_1⟩; have z5_1 := (Ext.refl _).trans qx5_1))
  go_ret
  exact ⟨rfl, HX.out.trans z5_8⟩
end Go.Proofs.YtcdnodjcnofogaaGreatDoor
namespace Go.Proofs.YtcdnodjcnofogaaGreatDoor
open Go.RowKit
set_option linter.unusedVariables false
set_option linter.unusedSimpArgs false
set_option maxHeartbeats 4000000
set_option maxRecDepth 100000

mutual
/-- every Index is n -/
def Ex.num (n : Int) : Ex → Ex
  | .mk d ks => .mk { d with ix := n } (numL n ks)
def numL (n : Int) : List Ex → List Ex
  | [] => []
  | e :: es => e.num n :: numL n es
end
theorem numL_map (n : Int) (l : List Ex) : numL n l = l.map (Ex.num n) := by
  induction l with
  | nil => rfl
  | cons e l ih => rw [numL, ih]; rfl
theorem num_d (n : Int) (e : Ex) : (e.num n).d = { e.d with ix := n } := by cases e; rfl
theorem num_ks (n : Int) (e : Ex) : (e.num n).ks = e.ks.map (Ex.num n) := by cases e; rw [Ex.num, numL_map]; rfl
/-- two worlds agree on the blocks from lo to hi, one excepted -/
def Same (lo hi : Nat) (skip : Option Nat) (w w2 : World) : Prop := ∀ b, lo ≤ b → b < hi → some b ≠ skip → w2.heap[b]? = w.heap[b]?
theorem lkp_step {W0 wr w1 w3 w4 w5 : World} {v v5 : Value} {L : List Ex} {xs : List Value} {e : Ex} {A : Option Addr} {m c : Nat}
    (hold : ∀ w2, Same W0.heap.size wr.heap.size v.ownBlock wr w2 → LC w2 L xs) (hkid : ∀ w2, Same w1.heap.size w3.heap.size none w3 w2 → ExV w2 e A m c)
    (h01 : W0.heap.size ≤ wr.heap.size) (hr1 : Ext wr w1) (h13 : Ext w1 w3) (h34 : Ext w3 w4) (hown : ∀ g, v.ownBlock = some g → g < wr.heap.size)
    (hg : w4.grownBy w5 v.ownBlock) (hs : w4.heap.size ≤ w5.heap.size) (hb : v5.ownBlock = v.ownBlock ∨ v5.ownBlock = some w4.heap.size) :
    ∀ w2, Same W0.heap.size w5.heap.size v5.ownBlock w5 w2 → LC w2 (L ++ [e]) (xs ++ e.d.cells A m c) := by
  intro w2 h2
  have s1 := hr1.size
  have s3 := h13.size
  have s4 := h34.size
  refine (hold w2 fun b hb1 hb2 hb3 => ?_).app (LC.one (elt_cells (hkid w2 fun b hb1 hb2 _ => ?_)))
  · have hne : some b ≠ v5.ownBlock := by
      rcases hb with hb | hb
      · rw [hb]; exact hb3
      · rw [hb]; intro he; have := Option.some.inj he; omega
    rw [h2 b hb1 (by omega) hne, hg.block b (by omega) hb3, Below.block h34 b (by omega), Below.block h13 b (by omega), Below.block hr1 b (by omega)]
  · have hn : some b ≠ v.ownBlock := by
      intro he
      have := hown b he.symm
      omega
    have hne : some b ≠ v5.ownBlock := by
      rcases hb with hb | hb
      · rw [hb]; exact hn
      · rw [hb]; intro he; have := Option.some.inj he; omega
    rw [h2 b (by omega) (by omega) hne, hg.block b (by omega) hn, Below.block h34 b (by omega)]
theorem own_same {w w2 : World} {B e sz n : Nat} {v : Value} {xs : List Value} (h : w.ownsRow B e sz v n xs) (hb : ∀ g, v.ownBlock = some g → w2.heap[g]? = w.heap[g]?) : w2.ownsRow B e sz v n xs := by
  obtain ⟨h1, h2⟩ := h
  refine ⟨h1, ?_⟩
  rcases h2 with h2 | ⟨g, cap, cur, rfl, hg, hh, r⟩
  · exact .inl h2
  · exact .inr ⟨g, cap, cur, rfl, hg, (hb g rfl).trans hh, r⟩
theorem own_kids2 {w w' : World} {W0 : World} {B e n : Nat} {v : Value} {l : List Ex} {xs : List Value} (h : w.ownsRow W0.heap.size e 8 v n xs) (hl : ∀ w2, Same W0.heap.size w.heap.size v.ownBlock w w2 → LC w2 l xs)
    (hw : ∀ b, W0.heap.size ≤ b → b < w.heap.size → w'.heap[b]? = w.heap[b]?) (hB : B ≤ W0.heap.size) (hs : w.heap.size ≤ w'.heap.size) :
    ∃ A c, v = .slice A n c ∧ l.length = n ∧ ∀ w2, Same B w'.heap.size none w' w2 → KidsAt w2 A l := by
  have h0 : LC w l xs := hl w fun _ _ _ _ => rfl
  obtain ⟨A, c, rfl, _, hn⟩ := own_kids h h0
  refine ⟨A, c, rfl, hn, fun w2 h2 => ?_⟩
  have h2' : ∀ b, W0.heap.size ≤ b → b < w.heap.size → w2.heap[b]? = w.heap[b]? := fun b h1 h3 => (h2 b (by omega) (by omega) (by simp)).trans (hw b h1 h3)
  have ho := own_same (w2 := w2) h fun g hg => by
    have h3 := (h.lt g hg)
    exact h2' g h3.1 h3.2
  obtain ⟨A', c', he, hk, _⟩ := own_kids ho (hl w2 fun b h1 h3 _ => h2' b h1 h3)
  injection he with e1 e2 e3
  subst e1
  exact hk
theorem reads_new (w : World) (cs : List Value) (e : TypeId) (hl : cs.length = 8) : Reads (w.alloc (.cells cs.toArray e)) (w.heap.size + 1) 8 (some ⟨w.heap.size, 0, none⟩) 1 cs :=
  ⟨by omega, fun _ => ⟨_, rfl, Nat.lt_succ_self _, news_at w cs.toArray e w.heap.size rfl⟩⟩
theorem numbered_any (n : Int) (hn : I64 n) : ∀ (e : Ex) (A : Option Addr) (m c : Nat) (w : World), ExV w e A m c → e.room →
    Calls Tryz.prog 25 #[e.d.val A m c, .int .i64 n] w fun r w' => ∃ A' c', r = .returned ((e.num n).d.val A' m c') ∧ (∀ w2, Same w.heap.size w'.heap.size none w' w2 → ExV w2 (e.num n) A' m c') ∧ Ext w w' := by
  intro e
  induction e using Ex.ind with
  | h d ks ih =>
    intro A m c w hv hroom
    obtain ⟨i0, hi, hz0, hz1, hz2⟩ := info_parts info_ex
    obtain ⟨h1, h2', h3, h4⟩ := hv
    have HL : Hid (ks.length = m) := h1
    have HK : Hid (KidsAt w A ks) := h4
    have HF : Hid ((({ d with ix := n } : Nd)).fit) := ⟨h3.op, hn, h3.vk, h3.vi, h3.tb, h3.nm, h3.vt⟩
    have HI := hid ih
    have HN : Hid ((Ex.mk d ks).num n = .mk { d with ix := n } (ks.map (Ex.num n))) := by unfold Hid; rw [Ex.num, numL_map]
    rw [Ex.room, roomL_iff] at hroom
    have HRm := hid hroom.2
    have hmb : m * 104 ≤ 140737488351232 := by have := hroom.1; have := HL.out; subst this; omega
    clear h1 h4 ih h3 hroom
    rw [HN.out]
    unfold Nd.val
    simp only [Ex.d]
    obtain ⟨op, tb, nm, ix, vk, vi, vt⟩ := d
    simp only at *
    go_enter Tryz.func25, Tryz.ntmps25
    go_wp2_with fail
    have HB := hid ((Blk.of_new w 35 [.int .i64 op, .string tb, .string nm, .int .i64 n, .int .i64 vk, .int .i64 vi, .string vt, .slice A m c]).ext ((Ext.refl _).alloc (.cells #[.int .i64 0, .string ⟨#[]⟩, .string ⟨#[]⟩, .int .i64 0, .int .i64 0, .int .i64 0, .string ⟨#[]⟩, .slice none 0 0] 35)))
    have hb2 := Blk.of_new (w.alloc (.cells #[.int .i64 op, .string tb, .string nm, .int .i64 n, .int .i64 vk, .int .i64 vi, .string vt, .slice A m c] 35)) 35 [.int .i64 0, .string ⟨#[]⟩, .string ⟨#[]⟩, .int .i64 0, .int .i64 0, .int .i64 0, .string ⟨#[]⟩, .slice none 0 0]
    rw [show (w.alloc (.cells #[.int .i64 op, .string tb, .string nm, .int .i64 n, .int .i64 vk, .int .i64 vi, .string vt, .slice A m c] 35)).heap.size = w.heap.size + 1 by simp] at hb2
    have HB2 := hid hb2
    have HX := hid (((Ext.refl w).alloc (.cells #[.int .i64 op, .string tb, .string nm, .int .i64 n, .int .i64 vk, .int .i64 vi, .string vt, .slice A m c] 35)).alloc (.cells #[.int .i64 0, .string ⟨#[]⟩, .string ⟨#[]⟩, .int .i64 0, .int .i64 0, .int .i64 0, .string ⟨#[]⟩, .slice none 0 0] 35))
    have HSz : Hid (((w.alloc (.cells #[.int .i64 op, .string tb, .string nm, .int .i64 n, .int .i64 vk, .int .i64 vi, .string vt, .slice A m c] 35)).alloc (.cells #[.int .i64 0, .string ⟨#[]⟩, .string ⟨#[]⟩, .int .i64 0, .int .i64 0, .int .i64 0, .string ⟨#[]⟩, .slice none 0 0] 35)).heap.size = w.heap.size + 2) := by unfold Hid; simp
    clear hb2
    generalize (w.alloc (.cells #[.int .i64 op, .string tb, .string nm, .int .i64 n, .int .i64 vk, .int .i64 vi, .string vt, .slice A m c] 35)).alloc (.cells #[.int .i64 0, .string ⟨#[]⟩, .string ⟨#[]⟩, .int .i64 0, .int .i64 0, .int .i64 0, .string ⟨#[]⟩, .slice none 0 0] 35) = W0 at *
    obtain ⟨g, hg⟩ : ∃ g, w.heap.size = g := ⟨_, rfl⟩
    have HG := hid hg
    rw [hg] at HB HB2 HSz ⊢
    clear hg
    go_loopw [5, 13] (fun nv iv wr => ∃ (k : Nat) (xs : List Value), k ≤ m ∧ iv = .int .i64 k ∧ wr.ownsRow W0.heap.size 35 8 nv k xs ∧ (∀ w2, Same W0.heap.size wr.heap.size nv.ownBlock wr w2 → LC w2 ((ks.take k).map (Ex.num n)) xs) ∧ Ext W0 wr) (fun _ i _ => m - (intOf i).toNat)
    case atStart => exact ⟨0, [], Nat.zero_le _, rfl, World.ownsRow_nil _ _ _ _, fun _ _ => by simpa using LC.nil, Ext.refl W0⟩
    case round =>
      obtain ⟨k, xs, hk, rfl, hown, hlc, hxr⟩ := hrel
      have HO := hid hown
      have HLC := hid hlc
      have HXr := hid hxr
      clear hown hlc
      by_cases hlt : k < m
      · obtain ⟨e', he⟩ := at_lt HL.out hlt
        obtain ⟨b, off, A', n', c', rfl, q0, q1, q2, q3, q4, q5, q6, q7, hv'⟩ := ((HK.out.ext HX.out).ext hxr).get he
        have HV := hid hv'
        have HM := hid (mem_at he)
        have HTk : Hid ((ks.take (k + 1)).map (Ex.num n) = (ks.take k).map (Ex.num n) ++ [e'.num n]) := map_step (Ex.num n) he
        have HND := hid (num_d n e')
        clear he hv' hxr
        have HIe := hid (fun W (hW : Ext wr W) => HI.out e' HM.out A' n' c' W (HV.out.ext hW) (HRm.out e' HM.out))
        rw [HND.out] at HIe
        unfold Nd.val at HIe
        generalize hd : e'.d = d at *
        obtain ⟨op', tb', nm', ix', vk', vi', vt'⟩ := d
        simp only at *
        clear hd
        have hk1 : (k + 1) * 104 ≤ 140737488355328 := by omega
        go_wp2_with (first | (go_at_call 25; refine (HIe.out _ ((Ext.refl wr).alloc _)).mono ?_; rintro _ w3 ⟨A3, c3, rfl, hk3, hx3⟩; have HONE := hid (cells8_one ⟨op', tb', nm', n, vk', vi', vt'⟩ A3 n' c3); unfold Nd.cells at HONE; have HK3 := hid hk3; clear hk3) | (at_builtin; refine wpList_append_any _ rfl (.tmp 17) (.tmp 21) 25 rfl W0.heap.size 35 i0 _ 8 104 Tryz.underlying25 hi hz0 hz1 hz2 rfl (by decide) _ k xs rfl (ownN_ext HO.out ((((Ext.refl wr).alloc _).trans hx3).alloc _)) _ _ 1 1 [.int .i64 op', .string tb', .string nm', .int .i64 n, .int .i64 vk', .int .i64 vi', .string vt', .slice A3 n' c3] rfl (reads_new w3 [.int .i64 op', .string tb', .string nm', .int .i64 n, .int .i64 vk', .int .i64 vi', .string vt', .slice A3 n' c3] 35 rfl) HONE.out (by unfold maxLen; omega) hk1 (HXr.out.trans ((((Ext.refl wr).alloc _).trans hx3).alloc _)).size ?_; intro v1 w5 hown5 hgr5 hblk5; have HO5 := hid hown5; have HG5 := hid hgr5; have HB5 := hid hblk5; clear hown5 hgr5 hblk5))
        go_roundw
        case rel =>
          have hx5 : Ext wr (w3.alloc (.cells #[.int .i64 op', .string tb', .string nm', .int .i64 n, .int .i64 vk', .int .i64 vi', .string vt', .slice A3 n' c3] 35)) := (((Ext.refl wr).alloc _).trans hx3).alloc _
          refine ⟨k + 1, xs ++ [.int .i64 op', .string tb', .string nm', .int .i64 n, .int .i64 vk', .int .i64 vi', .string vt', .slice A3 n' c3], by omega, by go_num, HO5.out, ?_, (HXr.out.trans hx5).grown HG5.out fun q hq => (HO.out.lt q hq).1⟩
          rw [HTk.out]
          have := lkp_step (e := e'.num n) (A := A3) (m := n') (c := c3) HLC.out HK3.out HXr.out.size ((Ext.refl wr).alloc _) hx3 ((Ext.refl w3).alloc (.cells #[.int .i64 op', .string tb', .string nm', .int .i64 n, .int .i64 vk', .int .i64 vi', .string vt', .slice A3 n' c3] 35)) (fun q hq => (HO.out.lt q hq).2) HG5.out HG5.out.size HB5.out
          rw [HND.out] at this
          exact this
        case measure => simp [intOf]; omega
      · obtain rfl : k = m := by omega
        rw [← HL.out, List.take_length] at HLC
        obtain ⟨A9, c9, rfl, _, hn9⟩ := own_kids HO.out (HLC.out wr fun _ _ _ _ => rfl)
        have HBr := HB.out.ext hxr
        have HCr := HB2.out.ext hxr
        have c0 := HBr.cell 0
        have c1 := HBr.cell 1
        have c2 := HBr.cell 2
        have c3 := HBr.cell 3
        have c4 := HBr.cell 4
        have c5 := HBr.cell 5
        have c6 := HBr.cell 6
        have c7 := HBr.cell 7
        have d0 := HCr.cell 0
        have d1 := HCr.cell 1
        have d2 := HCr.cell 2
        have d3 := HCr.cell 3
        have d4 := HCr.cell 4
        have d5 := HCr.cell 5
        have d6 := HCr.cell 6
        have d7 := HCr.cell 7
        have f0 := HBr.frozen 0
        have f1 := HBr.frozen 1
        have f2 := HBr.frozen 2
        have f3 := HBr.frozen 3
        have f4 := HBr.frozen 4
        have f5 := HBr.frozen 5
        have f6 := HBr.frozen 6
        have f7 := HBr.frozen 7
        have h0 := HCr.frozen 0
        have h1 := HCr.frozen 1
        have h2 := HCr.frozen 2
        have h3 := HCr.frozen 3
        have h4 := HCr.frozen 4
        have h5 := HCr.frozen 5
        have h6 := HCr.frozen 6
        have h7 := HCr.frozen 7
        simp only [List.getElem?_cons_succ, List.getElem?_cons_zero] at c0 d0 c1 d1 c2 d2 c3 d3 c4 d4 c5 d5 c6 d6 c7 d7
        go_wp2_with fail
        have hbf := (((((((((HCr.far (p := ⟨g, 7, none⟩) (Nat.succ_ne_self g) (.slice A9 k c9)).set 0 (.int .i64 op)).set 1 (.string tb)).set 2 (.string nm)).set 3 (.int .i64 n)).set 4 (.int .i64 vk)).set 5 (.int .i64 vi)).set 6 (.string vt)).set 7 (.slice A9 k c9))
        have hxf : Ext w (((((((((wr.setCell ⟨g, 7, none⟩ (.slice A9 k c9)).setCell ⟨g + 1, 0, none⟩ (.int .i64 op)).setCell ⟨g + 1, 1, none⟩ (.string tb)).setCell ⟨g + 1, 2, none⟩ (.string nm)).setCell ⟨g + 1, 3, none⟩ (.int .i64 n)).setCell ⟨g + 1, 4, none⟩ (.int .i64 vk)).setCell ⟨g + 1, 5, none⟩ (.int .i64 vi)).setCell ⟨g + 1, 6, none⟩ (.string vt)).setCell ⟨g + 1, 7, none⟩ (.slice A9 k c9)) := ((((((((((HX.out.trans hxr).setCell (p := ⟨g, 7, none⟩) (Nat.le_of_eq HG.out) (.slice A9 k c9)).setCell (p := ⟨g + 1, 0, none⟩) (by show w.heap.size ≤ g + 1; have := HG.out; omega) (.int .i64 op)).setCell (p := ⟨g + 1, 1, none⟩) (by show w.heap.size ≤ g + 1; have := HG.out; omega) (.string tb)).setCell (p := ⟨g + 1, 2, none⟩) (by show w.heap.size ≤ g + 1; have := HG.out; omega) (.string nm)).setCell (p := ⟨g + 1, 3, none⟩) (by show w.heap.size ≤ g + 1; have := HG.out; omega) (.int .i64 n)).setCell (p := ⟨g + 1, 4, none⟩) (by show w.heap.size ≤ g + 1; have := HG.out; omega) (.int .i64 vk)).setCell (p := ⟨g + 1, 5, none⟩) (by show w.heap.size ≤ g + 1; have := HG.out; omega) (.int .i64 vi)).setCell (p := ⟨g + 1, 6, none⟩) (by show w.heap.size ≤ g + 1; have := HG.out; omega) (.string vt)).setCell (p := ⟨g + 1, 7, none⟩) (by show w.heap.size ≤ g + 1; have := HG.out; omega) (.slice A9 k c9))
        have hhp : ∀ b, W0.heap.size ≤ b → b < wr.heap.size → (((((((((wr.setCell ⟨g, 7, none⟩ (.slice A9 k c9)).setCell ⟨g + 1, 0, none⟩ (.int .i64 op)).setCell ⟨g + 1, 1, none⟩ (.string tb)).setCell ⟨g + 1, 2, none⟩ (.string nm)).setCell ⟨g + 1, 3, none⟩ (.int .i64 n)).setCell ⟨g + 1, 4, none⟩ (.int .i64 vk)).setCell ⟨g + 1, 5, none⟩ (.int .i64 vi)).setCell ⟨g + 1, 6, none⟩ (.string vt)).setCell ⟨g + 1, 7, none⟩ (.slice A9 k c9)).heap[b]? = wr.heap[b]? := fun b hb1 hb2 => by
          have := HSz.out
          exact (Below.heap_setCell _ _ _ _ (by show b ≠ g + 1; omega)).trans ((Below.heap_setCell _ _ _ _ (by show b ≠ g + 1; omega)).trans ((Below.heap_setCell _ _ _ _ (by show b ≠ g + 1; omega)).trans ((Below.heap_setCell _ _ _ _ (by show b ≠ g + 1; omega)).trans ((Below.heap_setCell _ _ _ _ (by show b ≠ g + 1; omega)).trans ((Below.heap_setCell _ _ _ _ (by show b ≠ g + 1; omega)).trans ((Below.heap_setCell _ _ _ _ (by show b ≠ g + 1; omega)).trans ((Below.heap_setCell _ _ _ _ (by show b ≠ g + 1; omega)).trans (Below.heap_setCell _ _ _ _ (by show b ≠ g; omega)))))))))
        have hsz : wr.heap.size ≤ (((((((((wr.setCell ⟨g, 7, none⟩ (.slice A9 k c9)).setCell ⟨g + 1, 0, none⟩ (.int .i64 op)).setCell ⟨g + 1, 1, none⟩ (.string tb)).setCell ⟨g + 1, 2, none⟩ (.string nm)).setCell ⟨g + 1, 3, none⟩ (.int .i64 n)).setCell ⟨g + 1, 4, none⟩ (.int .i64 vk)).setCell ⟨g + 1, 5, none⟩ (.int .i64 vi)).setCell ⟨g + 1, 6, none⟩ (.string vt)).setCell ⟨g + 1, 7, none⟩ (.slice A9 k c9)).heap.size := by simp [World.size_setCell]
        generalize (((((((((wr.setCell ⟨g, 7, none⟩ (.slice A9 k c9)).setCell ⟨g + 1, 0, none⟩ (.int .i64 op)).setCell ⟨g + 1, 1, none⟩ (.string tb)).setCell ⟨g + 1, 2, none⟩ (.string nm)).setCell ⟨g + 1, 3, none⟩ (.int .i64 n)).setCell ⟨g + 1, 4, none⟩ (.int .i64 vk)).setCell ⟨g + 1, 5, none⟩ (.int .i64 vi)).setCell ⟨g + 1, 6, none⟩ (.string vt)).setCell ⟨g + 1, 7, none⟩ (.slice A9 k c9)) = wf at *
        obtain ⟨A8, c8, he8, hn8, hk8⟩ := own_kids2 (w' := wf) (B := w.heap.size) HO.out HLC.out hhp HX.out.size hsz
        injection he8 with e1 e2 e3
        subst e1
        have r0 := hbf.cell 0
        have r1 := hbf.cell 1
        have r2 := hbf.cell 2
        have r3 := hbf.cell 3
        have r4 := hbf.cell 4
        have r5 := hbf.cell 5
        have r6 := hbf.cell 6
        have r7 := hbf.cell 7
        simp only [List.set_cons_succ, List.set_cons_zero, List.getElem?_cons_succ, List.getElem?_cons_zero] at r0 r1 r2 r3 r4 r5 r6 r7
        exact bodyPost_ret (v := .agg #[.int .i64 op, .string tb, .string nm, .int .i64 n, .int .i64 vk, .int .i64 vi, .string vt, .slice A9 k c9]) (by simp [results, Tryz.results25, go_sem, r0, r1, r2, r3, r4, r5, r6, r7]) rfl
          ⟨A9, c9, rfl, fun w2 h2 => ⟨hn8, h2', HF.out, hk8 w2 h2⟩, hxf⟩
end Go.Proofs.YtcdnodjcnofogaaGreatDoor
