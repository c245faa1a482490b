/-
  Walks: operands in memory; the examples.
-/
import Derived.Test.YtcdnodjcnofogaaGreatDoorW24
import Derived.Deep.RegionHeld3
namespace Go.Proofs.YtcdnodjcnofogaaGreatDoor
open Go.RowKit
set_option linter.unusedVariables false
set_option linter.unusedSimpArgs false
set_option maxHeartbeats 4000000
set_option maxRecDepth 100000

theorem kids_blk2 {w : World} {g t : Nat} {e f : Ex} {A A' : Option Addr} {n c n' c' : Nat} (hb : Blk w g t (e.d.cells A n c ++ f.d.cells A' n' c')) (hv : ExV w e A n c) (hw : ExV w f A' n' c') : KidsAt w (some ⟨g, 0, none⟩) [e, f] := by
  unfold KidsAt
  rw [exsAt_iff]
  intro j x hx
  have hl : (e.d.cells A n c).length = 8 := rfl
  match j with
  | 0 =>
    simp at hx
    subst hx
    refine ⟨e.d.cells A n c, ⟨g, 0, rfl, fun j v hj => ?_⟩, elt_cells hv⟩
    have hj8 : j < 8 := by have := (List.getElem?_eq_some_iff.1 hj).1; omega
    exact hb.cell_some (i := 0 + (0 + 0) * 8 + j) (by rw [show 0 + (0 + 0) * 8 + j = j by omega, List.getElem?_append_left (by omega)]; exact hj)
  | 1 =>
    simp at hx
    subst hx
    refine ⟨f.d.cells A' n' c', ⟨g, 0, rfl, fun j v hj => ?_⟩, elt_cells hw⟩
    exact hb.cell_some (i := 0 + (0 + 1) * 8 + j) (by rw [List.getElem?_append_right (by omega), show 0 + (0 + 1) * 8 + j - (e.d.cells A n c).length = j by omega]; exact hj)
  | j + 2 => simp at hx
theorem fit_o {op : Int} (h : I64 op) : (ndO op).fit := ⟨h, ⟨by show (-9223372036854775808 : Int) ≤ 0; omega, by show (0 : Int) ≤ 9223372036854775807; omega⟩, ⟨by show (-9223372036854775808 : Int) ≤ 0; omega, by show (0 : Int) ≤ 9223372036854775807; omega⟩, ⟨by show (-9223372036854775808 : Int) ≤ 0; omega, by show (0 : Int) ≤ 9223372036854775807; omega⟩, Nat.zero_le _, Nat.zero_le _, Nat.zero_le _⟩
theorem node1 (op : Int) (e : Ex) (A : Option Addr) (n c : Nat) (W : World) (hop : I64 op) (hv : ExV W e A n c) :
    Calls Tryz.prog 35 #[.int .i64 op, .slice (some ⟨W.heap.size, 0, none⟩) 1 1] (W.alloc (.cells (e.d.cells A n c).toArray 35)) fun r w' =>
      r = .returned ((ndO op).val (some ⟨W.heap.size, 0, none⟩) 1 1) ∧ ExV w' (.mk (ndO op) [e]) (some ⟨W.heap.size, 0, none⟩) 1 1 ∧ Ext W w' :=
  (node_any op _ 1 1 _).mono fun r w' ⟨h1, h2⟩ =>
    ⟨h1, ⟨rfl, by omega, fit_o hop, (kids_blk (Blk.of_new W 35 _) (hv.ext ((Ext.refl W).alloc _))).ext h2⟩, ((Ext.refl W).alloc _).trans h2⟩
theorem node2 (op : Int) (e f : Ex) (A A' : Option Addr) (n c n' c' : Nat) (W : World) (hop : I64 op) (hv : ExV W e A n c) (hw : ExV W f A' n' c') :
    Calls Tryz.prog 35 #[.int .i64 op, .slice (some ⟨W.heap.size, 0, none⟩) 2 2] (W.alloc (.cells (e.d.cells A n c ++ f.d.cells A' n' c').toArray 35)) fun r w' =>
      r = .returned ((ndO op).val (some ⟨W.heap.size, 0, none⟩) 2 2) ∧ ExV w' (.mk (ndO op) [e, f]) (some ⟨W.heap.size, 0, none⟩) 2 2 ∧ Ext W w' :=
  (node_any op _ 2 2 _).mono fun r w' ⟨h1, h2⟩ =>
    ⟨h1, ⟨rfl, by omega, fit_o hop, (kids_blk2 (Blk.of_new W 35 _) (hv.ext ((Ext.refl W).alloc _)) (hw.ext ((Ext.refl W).alloc _))).ext h2⟩, ((Ext.refl W).alloc _).trans h2⟩
def exC (c : UInt8) : Ex := .mk (ndC ⟨#[c]⟩) []
def exI (n : Int) : Ex := .mk (ndI n) []
theorem exv_c (c : UInt8) (w : World) : ExV w (exC c) none 0 0 :=
  ⟨rfl, by omega, ⟨⟨by show (-9223372036854775808 : Int) ≤ 2; omega, by show (2 : Int) ≤ 9223372036854775807; omega⟩, ⟨by show (-9223372036854775808 : Int) ≤ 0; omega, by show (0 : Int) ≤ 9223372036854775807; omega⟩, ⟨by show (-9223372036854775808 : Int) ≤ 0; omega, by show (0 : Int) ≤ 9223372036854775807; omega⟩, ⟨by show (-9223372036854775808 : Int) ≤ 0; omega, by show (0 : Int) ≤ 9223372036854775807; omega⟩, Nat.zero_le _, by show 1 ≤ _; omega, Nat.zero_le _⟩, trivial⟩
theorem exv_5 (w : World) : ExV w (exI 5) none 0 0 :=
  ⟨rfl, by omega, ⟨⟨by show (-9223372036854775808 : Int) ≤ 1; omega, by show (1 : Int) ≤ 9223372036854775807; omega⟩, ⟨by show (-9223372036854775808 : Int) ≤ 0; omega, by show (0 : Int) ≤ 9223372036854775807; omega⟩, ⟨by show (-9223372036854775808 : Int) ≤ 1; omega, by show (1 : Int) ≤ 9223372036854775807; omega⟩, ⟨by show (-9223372036854775808 : Int) ≤ 5; omega, by show (5 : Int) ≤ 9223372036854775807; omega⟩, Nat.zero_le _, Nat.zero_le _, Nat.zero_le _⟩, trivial⟩
theorem i64_lit {n : Int} (h : 0 ≤ n) (h' : n ≤ 100) : I64 n := ⟨by omega, by omega⟩
def tr1 : Ex := (Ex.mk (ndO 19) [exC 97, (Ex.mk (ndO 18) [exC 98, (Ex.mk (ndO 20) [(Ex.mk (ndO 10) [exC 99, (Ex.mk (ndO 3) [exI 5])])])])])
theorem tr1_text : textE tr1 = ⟨#[97, 32, 79, 82, 32, 98, 32, 65, 78, 68, 32, 78, 79, 84, 32, 99, 32, 61, 32, 45, 53]⟩ ∧ validE tr1 = 0 := by
  constructor
  · apply N_inj
    kernel_rfl
  · kernel_rfl
def tr2 : Ex := (Ex.mk (ndO 18) [(Ex.mk (ndO 19) [exC 97, exC 98]), exC 99])
theorem tr2_text : textE tr2 = ⟨#[40, 97, 32, 79, 82, 32, 98, 41, 32, 65, 78, 68, 32, 99]⟩ ∧ validE tr2 = 0 := by
  constructor
  · apply N_inj
    kernel_rfl
  · kernel_rfl
def tr3 : Ex := (Ex.mk (ndO 5) [(Ex.mk (ndO 5) [exC 97, exC 98]), exC 99])
theorem tr3_text : textE tr3 = ⟨#[97, 32, 45, 32, 98, 32, 45, 32, 99]⟩ ∧ validE tr3 = 0 := by
  constructor
  · apply N_inj
    kernel_rfl
  · kernel_rfl
def tr4 : Ex := (Ex.mk (ndO 5) [exC 97, (Ex.mk (ndO 5) [exC 98, exC 99])])
theorem tr4_text : textE tr4 = ⟨#[97, 32, 45, 32, 40, 98, 32, 45, 32, 99, 41]⟩ ∧ validE tr4 = 0 := by
  constructor
  · apply N_inj
    kernel_rfl
  · kernel_rfl
def tr5 : Ex := (Ex.mk (ndO 17) [(Ex.mk (ndO 17) [exC 97])])
theorem tr5_all : tr5.formed = true ∧ tr5.absent = false ∧ largeB [tr5] = false ∧ nameB ⟨#[116]⟩ = true ∧ tr5.size = 3 := ⟨by kernel_rfl, by kernel_rfl, by kernel_rfl, by kernel_rfl, by kernel_rfl⟩
theorem tr5_text : sDelete ++ ⟨#[116]⟩ ++ (sWhere ++ tr5.tx 1) = ⟨#[68, 69, 76, 69, 84, 69, 32, 70, 82, 79, 77, 32, 116, 32, 87, 72, 69, 82, 69, 32, 40, 97, 32, 73, 83, 32, 78, 85, 76, 76, 41, 32, 73, 83, 32, 78, 85, 76, 76]⟩ := by
  apply N_inj
  kernel_rfl
end Go.Proofs.YtcdnodjcnofogaaGreatDoor
