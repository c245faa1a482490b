/-
  Walks: the laws of ValidExpr, FormatExpr, EqualExpr.
-/
import Derived.Test.YtcdnodjcnofogaaGreatDoorW26
import Derived.Test.YtcdnodjcnofogaaGreatDoorW27
namespace Go.Proofs.YtcdnodjcnofogaaGreatDoor
open Go.RowKit
set_option linter.unusedVariables false
set_option linter.unusedSimpArgs false
set_option maxHeartbeats 4000000
set_option maxRecDepth 100000

theorem law_vexpr (e : Ex) (A : Option Addr) (n c : Nat) (w : World) (hv : ExV w e A n c) (hg : Gd w) :
    Calls Tryz.prog 4 #[e.d.val A n c] w fun r w' => r = .returned (.bool true) ∧ Ext w w' := by
  have HA := hid (fun W (hW : Ext w W) => awake_any W (hg.ext hW))
  have HS := hid (fun W (hW : Ext w W) => smallx_any e A n c W (hv.ext hW))
  have HV := hid (fun W (hW : Ext w W) => valid_any e A n c W (hv.ext hW) (hg.sh.ext hW))
  have HR := hid (fun W (hW : Ext w W) => rvalid_any e A n c W (hv.ext hW))
  have HB := hid (Blk.of_new w 35 (e.d.cells A n c))
  have HX := hid ((Ext.refl w).alloc (.cells (e.d.cells A n c).toArray 35))
  clear hv hg
  generalize validE e = V at *
  generalize e.small = b at *
  unfold Nd.val at *
  unfold Nd.cells at *
  generalize e.d = d at *
  obtain ⟨op, tb, nm, ix, vk, vi, vt⟩ := d
  simp only at *
  cases b
  all_goals
    go_enter Tryz.func4, Tryz.ntmps4
    go_wp2_with fail
    generalize w.alloc (.cells #[.int .i64 op, .string tb, .string nm, .int .i64 ix, .int .i64 vk, .int .i64 vi, .string vt, .slice A n c] 35) = w1 at *
    generalize w.heap.size = g at *
    have HA1 : Hid (∀ z : Later w1, Calls Tryz.prog 12 _ z.now _) := fun z => HA.out z.now (HX.out.trans z.ext)
    have HS1 : Hid (∀ z : Later w1, Calls Tryz.prog 16 _ z.now _) := fun z => HS.out z.now (HX.out.trans z.ext)
    have HV1 : Hid (∀ z : Later w1, Calls Tryz.prog 17 _ z.now _) := fun z => HV.out z.now (HX.out.trans z.ext)
    have HR1 : Hid (∀ z : Later w1, Calls Tryz.prog 18 _ z.now _) := fun z => HR.out z.now (HX.out.trans z.ext)
    have k0 := Later.keep (HB.out.cell_some (i := 0) rfl)
    have k1 := Later.keep (HB.out.cell_some (i := 1) rfl)
    have k2 := Later.keep (HB.out.cell_some (i := 2) rfl)
    have k3 := Later.keep (HB.out.cell_some (i := 3) rfl)
    have k4 := Later.keep (HB.out.cell_some (i := 4) rfl)
    have k5 := Later.keep (HB.out.cell_some (i := 5) rfl)
    have k6 := Later.keep (HB.out.cell_some (i := 6) rfl)
    have k7 := Later.keep (HB.out.cell_some (i := 7) rfl)
    refine wp_region_later (by kernel_rfl) (by kernel_rfl) ?_
    repeat (go_big_quiet_step (first | (go_at_call 12; exact later_of (HA1.out _)) | (go_at_call 16; exact later_of (HS1.out _)) | (go_at_call 17; exact later_of (HV1.out _)) | (go_at_call 18; exact later_of (HR1.out _))))
    refine wpQuiet_nil ?_
    intro w2 hw2
    have hx2 := later_out hw2
    clear hw2 k0 k1 k2 k3 k4 k5 k6 k7
    go_wp2_with fail
    go_ret
    exact ⟨by simp, HX.out.trans hx2⟩
theorem law_fexpr (e : Ex) (A : Option Addr) (n c : Nat) (w : World) (hv : ExV w e A n c) (hg : Gd w) :
    Calls Tryz.prog 6 #[e.d.val A n c] w fun r w' => r = .returned (.bool true) ∧ Ext w w' := by
  have HA := hid (fun W (hW : Ext w W) => awake_any W (hg.ext hW))
  have HS := hid (fun W (hW : Ext w W) => smallx_any e A n c W (hv.ext hW))
  have HV := hid (fun W (hW : Ext w W) => format_any e A n c W (hv.ext hW) (hg.ext hW))
  have HR := hid (fun W (hW : Ext w W) => rtext_expr e A n c W (hv.ext hW))
  have HB := hid (Blk.of_new w 35 (e.d.cells A n c))
  have HX := hid ((Ext.refl w).alloc (.cells (e.d.cells A n c).toArray 35))
  clear hv hg
  generalize validE e = V at *
  generalize textE e = T at *
  generalize e.small = b at *
  unfold Nd.val at *
  unfold Nd.cells at *
  generalize e.d = d at *
  obtain ⟨op, tb, nm, ix, vk, vi, vt⟩ := d
  simp only at *
  cases b
  · go_enter Tryz.func6, Tryz.ntmps6
    go_wp2_with (first | (go_at_call 12; (with_reducible refine (HA.out _ ((HX.out.trans hx2).trans hx3)).mono ?_); rintro _ w4 ⟨rfl, hx4⟩) | (go_at_call 12; (with_reducible refine (HA.out _ HX.out).mono ?_); rintro _ w2 ⟨rfl, hx2⟩; have hb2 := HB.out.ext hx2; have c0 := hb2.cell 0; have c1 := hb2.cell 1; have c2 := hb2.cell 2; have c3 := hb2.cell 3; have c4 := hb2.cell 4; have c5 := hb2.cell 5; have c6 := hb2.cell 6; have c7 := hb2.cell 7; simp only [List.getElem?_cons_succ, List.getElem?_cons_zero] at c0 c1 c2 c3 c4 c5 c6 c7; clear hb2) | (go_at_call 16; refine (HS.out _ (HX.out.trans hx2)).mono ?_; rintro _ w3 ⟨rfl, hx3⟩))
    go_ret
    exact ⟨rfl, ((HX.out.trans hx2).trans hx3).trans hx4⟩
  · go_enter Tryz.func6, Tryz.ntmps6
    go_wp2_with (first | (go_at_call 12; (with_reducible refine (HA.out _ HX.out).mono ?_); rintro _ w2 ⟨rfl, hx2⟩; have hb2 := HB.out.ext hx2; have c0 := hb2.cell 0; have c1 := hb2.cell 1; have c2 := hb2.cell 2; have c3 := hb2.cell 3; have c4 := hb2.cell 4; have c5 := hb2.cell 5; have c6 := hb2.cell 6; have c7 := hb2.cell 7; simp only [List.getElem?_cons_succ, List.getElem?_cons_zero] at c0 c1 c2 c3 c4 c5 c6 c7; have HB2 := hid hb2; clear hb2) | (go_at_call 16; refine (HS.out _ (HX.out.trans hx2)).mono ?_; rintro _ w3 ⟨rfl, hx3⟩; have hb3 := HB2.out.ext hx3; have d0 := hb3.cell 0; have d1 := hb3.cell 1; have d2 := hb3.cell 2; have d3 := hb3.cell 3; have d4 := hb3.cell 4; have d5 := hb3.cell 5; have d6 := hb3.cell 6; have d7 := hb3.cell 7; simp only [List.getElem?_cons_succ, List.getElem?_cons_zero] at d0 d1 d2 d3 d4 d5 d6 d7; have HB3 := hid hb3; clear hb3) | (go_at_call 21; refine (HV.out _ ((HX.out.trans hx2).trans hx3)).mono ?_; rintro _ w4 ⟨rfl, hx4⟩; have hb4 := HB3.out.ext hx4; have e0 := hb4.cell 0; have e1 := hb4.cell 1; have e2 := hb4.cell 2; have e3 := hb4.cell 3; have e4 := hb4.cell 4; have e5 := hb4.cell 5; have e6 := hb4.cell 6; have e7 := hb4.cell 7; simp only [List.getElem?_cons_succ, List.getElem?_cons_zero] at e0 e1 e2 e3 e4 e5 e6 e7; clear hb4) | (go_at_call 22; refine (HR.out _ (((HX.out.trans hx2).trans hx3).trans hx4)).mono ?_; rintro _ w5 ⟨rfl, hx5⟩))
    go_ret
    exact ⟨by simp, (((HX.out.trans hx2).trans hx3).trans hx4).trans hx5⟩
end Go.Proofs.YtcdnodjcnofogaaGreatDoor
