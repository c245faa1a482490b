/-
  Walks: the law of EqualExpr.
-/
import Derived.Test.YtcdnodjcnofogaaGreatDoorW28
namespace Go.Proofs.YtcdnodjcnofogaaGreatDoor
open Go.RowKit
set_option linter.unusedVariables false
set_option linter.unusedSimpArgs false
set_option maxHeartbeats 4000000
set_option maxRecDepth 100000

theorem law_eqexpr (e : Ex) (aA : Option Addr) (an ac : Nat) (f : Ex) (bA : Option Addr) (bn bc : Nat) (w : World) (hv : ExV w e aA an ac) (hw : ExV w f bA bn bc) (hg : Gd w) :
    Calls Tryz.prog 7 #[e.d.val aA an ac, f.d.val bA bn bc] w fun r w' => r = .returned (.bool true) ∧ Ext w w' := by
  have HA := hid (fun W (hW : Ext w W) => awake_any W (hg.ext hW))
  have HS := hid (fun W (hW : Ext w W) => smallx_any e aA an ac W (hv.ext hW))
  have HS2 := hid (fun W (hW : Ext w W) => smallx_any f bA bn bc W (hw.ext hW))
  have HE := hid (fun W (hW : Ext w W) => equal_any e f aA bA an bn ac bc W (hv.ext hW) (hw.ext hW))
  have HE2 := hid (fun W (hW : Ext w W) => equal_any e e aA aA an an ac ac W (hv.ext hW) (hv.ext hW))
  have HR := hid (fun W (hW : Ext w W) => rsame_any e f aA bA an bn ac bc W (hv.ext hW) (hw.ext hW))
  have HB := hid ((Blk.of_new w 35 (e.d.cells aA an ac)).ext ((Ext.refl _).alloc (.cells (f.d.cells bA bn bc).toArray 35)))
  have HB2 := Blk.of_new (w.alloc (.cells (e.d.cells aA an ac).toArray 35)) 35 (f.d.cells bA bn bc)
  have HX := hid (((Ext.refl w).alloc (.cells (e.d.cells aA an ac).toArray 35)).alloc (.cells (f.d.cells bA bn bc).toArray 35))
  rw [show (w.alloc (.cells (e.d.cells aA an ac).toArray 35)).heap.size = w.heap.size + 1 by simp] at HB2
  replace HB2 := hid HB2
  rw [same_refl] at HE2
  clear hv hw hg
  generalize e.same f = V at *
  generalize e.small = b at *
  generalize f.small = b2 at *
  unfold Nd.val at *
  unfold Nd.cells at *
  generalize e.d = d at *
  generalize f.d = d2 at *
  obtain ⟨aop, atb, anm, aix, avk, avi, avt⟩ := d
  obtain ⟨bop, btb, bnm, bix, bvk, bvi, bvt⟩ := d2
  simp only at *
  cases b
  · go_enter Tryz.func7, Tryz.ntmps7
    go_upto_region 1 with fail
    generalize (w.alloc (.cells #[.int .i64 aop, .string atb, .string anm, .int .i64 aix, .int .i64 avk, .int .i64 avi, .string avt, .slice aA an ac] 35)).alloc (.cells #[.int .i64 bop, .string btb, .string bnm, .int .i64 bix, .int .i64 bvk, .int .i64 bvi, .string bvt, .slice bA bn bc] 35) = w1 at *
    generalize w.heap.size + 1 = g2 at *
    generalize w.heap.size = g at *
    go_wp2_with (first | (go_at_call 12; (with_reducible refine (HA.out _ ((HX.out.trans hw2).trans hw3)).mono ?_); rintro _ w4 ⟨rfl, hw4⟩) | (go_at_call 12; (with_reducible refine (HA.out _ HX.out).mono ?_); rintro _ w2 ⟨rfl, hw2⟩; have fp := HB.out.ext hw2; have p0 := fp.cell 0; have p1 := fp.cell 1; have p2 := fp.cell 2; have p3 := fp.cell 3; have p4 := fp.cell 4; have p5 := fp.cell 5; have p6 := fp.cell 6; have p7 := fp.cell 7; simp only [List.getElem?_cons_succ, List.getElem?_cons_zero] at p0 p1 p2 p3 p4 p5 p6 p7; clear fp) | (go_at_call 16; (with_reducible refine (HS.out _ (HX.out.trans hw2)).mono ?_); rintro _ w3 ⟨rfl, hw3⟩; have fq := (HB2.out.ext hw2).ext hw3; have q0 := fq.cell 0; have q1 := fq.cell 1; have q2 := fq.cell 2; have q3 := fq.cell 3; have q4 := fq.cell 4; have q5 := fq.cell 5; have q6 := fq.cell 6; have q7 := fq.cell 7; simp only [List.getElem?_cons_succ, List.getElem?_cons_zero] at q0 q1 q2 q3 q4 q5 q6 q7; clear fq))
    go_ret
    exact ⟨rfl, ((HX.out.trans hw2).trans hw3).trans hw4⟩
  · cases b2
    · go_enter Tryz.func7, Tryz.ntmps7
      go_upto_region 1 with fail
      generalize (w.alloc (.cells #[.int .i64 aop, .string atb, .string anm, .int .i64 aix, .int .i64 avk, .int .i64 avi, .string avt, .slice aA an ac] 35)).alloc (.cells #[.int .i64 bop, .string btb, .string bnm, .int .i64 bix, .int .i64 bvk, .int .i64 bvi, .string bvt, .slice bA bn bc] 35) = w1 at *
      generalize w.heap.size + 1 = g2 at *
      generalize w.heap.size = g at *
      go_wp2_with (first | (go_at_call 12; (with_reducible refine (HA.out _ (((HX.out.trans hw2).trans hw3).trans hw4)).mono ?_); rintro _ w5 ⟨rfl, hw5⟩) | (go_at_call 12; (with_reducible refine (HA.out _ HX.out).mono ?_); rintro _ w2 ⟨rfl, hw2⟩; have fp := HB.out.ext hw2; have p0 := fp.cell 0; have p1 := fp.cell 1; have p2 := fp.cell 2; have p3 := fp.cell 3; have p4 := fp.cell 4; have p5 := fp.cell 5; have p6 := fp.cell 6; have p7 := fp.cell 7; simp only [List.getElem?_cons_succ, List.getElem?_cons_zero] at p0 p1 p2 p3 p4 p5 p6 p7; clear fp) | (go_at_call 16; (with_reducible refine (HS2.out _ ((HX.out.trans hw2).trans hw3)).mono ?_); rintro _ w4 ⟨rfl, hw4⟩) | (go_at_call 16; (with_reducible refine (HS.out _ (HX.out.trans hw2)).mono ?_); rintro _ w3 ⟨rfl, hw3⟩; have fq := (HB2.out.ext hw2).ext hw3; have q0 := fq.cell 0; have q1 := fq.cell 1; have q2 := fq.cell 2; have q3 := fq.cell 3; have q4 := fq.cell 4; have q5 := fq.cell 5; have q6 := fq.cell 6; have q7 := fq.cell 7; simp only [List.getElem?_cons_succ, List.getElem?_cons_zero] at q0 q1 q2 q3 q4 q5 q6 q7; clear fq))
      go_ret
      exact ⟨rfl, (((HX.out.trans hw2).trans hw3).trans hw4).trans hw5⟩
    · go_enter Tryz.func7, Tryz.ntmps7
      go_upto_region 1 with fail
      generalize (w.alloc (.cells #[.int .i64 aop, .string atb, .string anm, .int .i64 aix, .int .i64 avk, .int .i64 avi, .string avt, .slice aA an ac] 35)).alloc (.cells #[.int .i64 bop, .string btb, .string bnm, .int .i64 bix, .int .i64 bvk, .int .i64 bvi, .string bvt, .slice bA bn bc] 35) = w1 at *
      generalize w.heap.size + 1 = g2 at *
      generalize w.heap.size = g at *
      go_wp2_with (first | (go_at_call 12; (with_reducible refine (HA.out _ HX.out).mono ?_); rintro _ w2 ⟨rfl, hw2⟩; have fp := HB.out.ext hw2; have p0 := fp.cell 0; have p1 := fp.cell 1; have p2 := fp.cell 2; have p3 := fp.cell 3; have p4 := fp.cell 4; have p5 := fp.cell 5; have p6 := fp.cell 6; have p7 := fp.cell 7; simp only [List.getElem?_cons_succ, List.getElem?_cons_zero] at p0 p1 p2 p3 p4 p5 p6 p7; clear fp) | (go_at_call 16; (with_reducible refine (HS2.out _ ((HX.out.trans hw2).trans hw3)).mono ?_); rintro _ w4 ⟨rfl, hw4⟩) | (go_at_call 16; (with_reducible refine (HS.out _ (HX.out.trans hw2)).mono ?_); rintro _ w3 ⟨rfl, hw3⟩; have fq := (HB2.out.ext hw2).ext hw3; have q0 := fq.cell 0; have q1 := fq.cell 1; have q2 := fq.cell 2; have q3 := fq.cell 3; have q4 := fq.cell 4; have q5 := fq.cell 5; have q6 := fq.cell 6; have q7 := fq.cell 7; simp only [List.getElem?_cons_succ, List.getElem?_cons_zero] at q0 q1 q2 q3 q4 q5 q6 q7; clear fq))
      have HX4 := hid (((HX.out.trans hw2).trans hw3).trans hw4)
      have HB4 := hid (((HB.out.ext hw2).ext hw3).ext hw4)
      have HC4 := hid (((HB2.out.ext hw2).ext hw3).ext hw4)
      clear hw2 hw3 hw4 p0 p1 p2 p3 p4 p5 p6 p7 q0 q1 q2 q3 q4 q5 q6 q7
      have HE3 : Hid (∀ z : Later w4, Calls Tryz.prog 23 _ z.now _) := fun z => HE.out z.now (HX4.out.trans z.ext)
      have HE4 : Hid (∀ z : Later w4, Calls Tryz.prog 23 _ z.now _) := fun z => HE2.out z.now (HX4.out.trans z.ext)
      have HR3 : Hid (∀ z : Later w4, Calls Tryz.prog 24 _ z.now _) := fun z => HR.out z.now (HX4.out.trans z.ext)
      have p0 := Later.keep (HB4.out.cell_some (i := 0) rfl)
      have p1 := Later.keep (HB4.out.cell_some (i := 1) rfl)
      have p2 := Later.keep (HB4.out.cell_some (i := 2) rfl)
      have p3 := Later.keep (HB4.out.cell_some (i := 3) rfl)
      have p4 := Later.keep (HB4.out.cell_some (i := 4) rfl)
      have p5 := Later.keep (HB4.out.cell_some (i := 5) rfl)
      have p6 := Later.keep (HB4.out.cell_some (i := 6) rfl)
      have p7 := Later.keep (HB4.out.cell_some (i := 7) rfl)
      have q0 := Later.keep (HC4.out.cell_some (i := 0) rfl)
      have q1 := Later.keep (HC4.out.cell_some (i := 1) rfl)
      have q2 := Later.keep (HC4.out.cell_some (i := 2) rfl)
      have q3 := Later.keep (HC4.out.cell_some (i := 3) rfl)
      have q4 := Later.keep (HC4.out.cell_some (i := 4) rfl)
      have q5 := Later.keep (HC4.out.cell_some (i := 5) rfl)
      have q6 := Later.keep (HC4.out.cell_some (i := 6) rfl)
      have q7 := Later.keep (HC4.out.cell_some (i := 7) rfl)
      cases V
      all_goals
        refine wp_region_later (by kernel_rfl) (by kernel_rfl) ?_
        repeat (go_big_quiet_step (first | (go_at_call 23; with_reducible exact later_of (HE3.out _)) | (go_at_call 23; with_reducible exact later_of (HE4.out _)) | (go_at_call 24; with_reducible exact later_of (HR3.out _))))
        refine wpQuiet_nil ?_
        intro w5 hw5
        have hx5 := later_out hw5
        clear hw5
        go_wp2_with fail
        go_ret
        exact ⟨rfl, HX4.out.trans hx5⟩
end Go.Proofs.YtcdnodjcnofogaaGreatDoor
