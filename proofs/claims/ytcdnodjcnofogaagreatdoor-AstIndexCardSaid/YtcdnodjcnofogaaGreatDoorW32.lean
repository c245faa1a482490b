/-
  Walks: the law of Index.
-/
import Derived.Test.YtcdnodjcnofogaaGreatDoorW28
import Derived.Test.YtcdnodjcnofogaaGreatDoorW31
namespace Go.Proofs.YtcdnodjcnofogaaGreatDoor
open Go.RowKit
set_option linter.unusedVariables false
set_option linter.unusedSimpArgs false
set_option maxHeartbeats 4000000
set_option maxRecDepth 100000

theorem law_index (e : Ex) (aA : Option Addr) (an ac : Nat) (n : Int) (w : World) (hv : ExV w e aA an ac) (hroom : e.room) (hn : I64 n) (hg : Gd w) :
    Calls Tryz.prog 9 #[e.d.val aA an ac, .int .i64 n] w fun r w' => r = .returned (.bool true) ∧ Ext w w' := by
  have HA := hid (fun W (hW : Ext w W) => awake_any W (hg.ext hW))
  have HS := hid (fun W (hW : Ext w W) => smallx_any e aA an ac W (hv.ext hW))
  have HN := hid (fun W (hW : Ext w W) => numbered_any n hn e aA an ac W (hv.ext hW) hroom)
  have HF1 := hid (fun W (hW : Ext w W) => format_any e aA an ac W (hv.ext hW) (hg.ext hW))
  have HF2 := hid (fun W A4 c4 (hW : Ext w W) (hx : ExV W (e.num n) A4 an c4) => format_any (e.num n) A4 an c4 W hx (hg.ext hW))
  have HV1 := hid (fun W (hW : Ext w W) => valid_any e aA an ac W (hv.ext hW) (hg.sh.ext hW))
  have HV2 := hid (fun W A4 c4 (hW : Ext w W) (hx : ExV W (e.num n) A4 an c4) => valid_any (e.num n) A4 an c4 W hx (hg.sh.ext hW))
  have HE := hid (fun W A4 c4 (hW : Ext w W) (hx : ExV W (e.num n) A4 an c4) => equal_any e (e.num n) aA A4 an an ac c4 W (hv.ext hW) hx)
  have HN1 := hid (fun W (hW : Ext w W) => nodes_any e aA an ac W (hv.ext hW))
  have HN2 := hid (fun W A4 c4 (hx : ExV W (e.num n) A4 an c4) => nodes_any (e.num n) A4 an c4 W hx)
  simp only [num_d, num_text, num_valid, num_same, num_nodes] at HN HF2 HV2 HE HN2
  have HB := hid (Blk.of_new w 35 (e.d.cells aA an ac))
  have HX := hid ((Ext.refl w).alloc (.cells (e.d.cells aA an ac).toArray 35))
  clear hv hg hroom hn
  generalize wrap64 (e.nodes : Int) = NN at *
  generalize validE e = V at *
  generalize textE e = T at *
  generalize e.small = b at *
  generalize e.num n = x at *
  unfold Nd.val at *
  unfold Nd.cells at *
  generalize e.d = d at *
  obtain ⟨aop, atb, anm, aix, avk, avi, avt⟩ := d
  simp only at *
  cases b
  · go_enter Tryz.func9, Tryz.ntmps9
    go_upto_region 1 with fail
    generalize w.alloc (.cells #[.int .i64 aop, .string atb, .string anm, .int .i64 aix, .int .i64 avk, .int .i64 avi, .string avt, .slice aA an ac] 35) = w1 at *
    generalize w.heap.size = g at *
    go_wp2_with (first | (go_at_call 12; (with_reducible refine (HA.out _ ((HX.out.trans hw2).trans hw3)).mono ?_); rintro _ w4 ⟨rfl, hw4⟩) | (go_at_call 12; (with_reducible refine (HA.out _ HX.out).mono ?_); rintro _ w2 ⟨rfl, hw2⟩; have fp := HB.out.ext hw2; have p0 := fp.cell 0; have p1 := fp.cell 1; have p2 := fp.cell 2; have p3 := fp.cell 3; have p4 := fp.cell 4; have p5 := fp.cell 5; have p6 := fp.cell 6; have p7 := fp.cell 7; simp only [List.getElem?_cons_succ, List.getElem?_cons_zero] at p0 p1 p2 p3 p4 p5 p6 p7; clear fp) | (go_at_call 16; (with_reducible refine (HS.out _ (HX.out.trans hw2)).mono ?_); rintro _ w3 ⟨rfl, hw3⟩; have fq := (HB.out.ext hw2).ext hw3; have q0 := fq.cell 0; have q1 := fq.cell 1; have q2 := fq.cell 2; have q3 := fq.cell 3; have q4 := fq.cell 4; have q5 := fq.cell 5; have q6 := fq.cell 6; have q7 := fq.cell 7; simp only [List.getElem?_cons_succ, List.getElem?_cons_zero] at q0 q1 q2 q3 q4 q5 q6 q7; clear fq))
    go_ret
    exact ⟨rfl, ((HX.out.trans hw2).trans hw3).trans hw4⟩
  · go_enter Tryz.func9, Tryz.ntmps9
    go_upto_region 1 with fail
    generalize w.alloc (.cells #[.int .i64 aop, .string atb, .string anm, .int .i64 aix, .int .i64 avk, .int .i64 avi, .string avt, .slice aA an ac] 35) = w1 at *
    generalize w.heap.size = g at *
    go_wp2_with (first | (go_at_call 21; (with_reducible refine (HF2.out _ A4 c4 (((((HX.out.trans hw2).trans hw3).trans hw4).alloc _).trans hw5) ((HU.out.ext ((Ext.refl w4).alloc _)).ext hw5)).mono ?_); rintro _ w6 ⟨rfl, hw6⟩) | (go_at_call 21; (with_reducible refine (HF1.out _ ((((HX.out.trans hw2).trans hw3).trans hw4).alloc _)).mono ?_); rintro _ w5 ⟨rfl, hw5⟩; have fs := (Blk.of_new w4 35 [.int .i64 aop, .string atb, .string anm, .int .i64 n, .int .i64 avk, .int .i64 avi, .string avt, .slice A4 an c4]).ext hw5; have s0 := fs.cell 0; have s1 := fs.cell 1; have s2 := fs.cell 2; have s3 := fs.cell 3; have s4 := fs.cell 4; have s5 := fs.cell 5; have s6 := fs.cell 6; have s7 := fs.cell 7; simp only [List.getElem?_cons_succ, List.getElem?_cons_zero] at s0 s1 s2 s3 s4 s5 s6 s7; clear fs) | (go_at_call 25; (with_reducible refine (HN.out _ ((HX.out.trans hw2).trans hw3)).mono ?_); rintro _ w4 ⟨A4, c4, rfl, hu4, hw4⟩; have HU := hid (hu4 w4 fun _ _ _ _ => rfl); clear hu4; have fr := (((HB.out.ext hw2).ext hw3).ext hw4).ext ((Ext.refl w4).alloc (.cells #[.int .i64 aop, .string atb, .string anm, .int .i64 n, .int .i64 avk, .int .i64 avi, .string avt, .slice A4 an c4] 35)); have r0 := fr.cell 0; have r1 := fr.cell 1; have r2 := fr.cell 2; have r3 := fr.cell 3; have r4 := fr.cell 4; have r5 := fr.cell 5; have r6 := fr.cell 6; have r7 := fr.cell 7; simp only [List.getElem?_cons_succ, List.getElem?_cons_zero] at r0 r1 r2 r3 r4 r5 r6 r7; clear fr) | (go_at_call 12; (with_reducible refine (HA.out _ HX.out).mono ?_); rintro _ w2 ⟨rfl, hw2⟩; have fp := HB.out.ext hw2; have p0 := fp.cell 0; have p1 := fp.cell 1; have p2 := fp.cell 2; have p3 := fp.cell 3; have p4 := fp.cell 4; have p5 := fp.cell 5; have p6 := fp.cell 6; have p7 := fp.cell 7; simp only [List.getElem?_cons_succ, List.getElem?_cons_zero] at p0 p1 p2 p3 p4 p5 p6 p7; clear fp) | (go_at_call 16; (with_reducible refine (HS.out _ (HX.out.trans hw2)).mono ?_); rintro _ w3 ⟨rfl, hw3⟩; have fq := (HB.out.ext hw2).ext hw3; have q0 := fq.cell 0; have q1 := fq.cell 1; have q2 := fq.cell 2; have q3 := fq.cell 3; have q4 := fq.cell 4; have q5 := fq.cell 5; have q6 := fq.cell 6; have q7 := fq.cell 7; simp only [List.getElem?_cons_succ, List.getElem?_cons_zero] at q0 q1 q2 q3 q4 q5 q6 q7; clear fq))
    have HX6 := hid (((((HX.out.trans hw2).trans hw3).trans hw4).alloc (.cells #[.int .i64 aop, .string atb, .string anm, .int .i64 n, .int .i64 avk, .int .i64 avi, .string avt, .slice A4 an c4] 35)).trans (hw5.trans hw6))
    have HB6 := hid ((((((HB.out.ext hw2).ext hw3).ext hw4).ext ((Ext.refl w4).alloc (.cells #[.int .i64 aop, .string atb, .string anm, .int .i64 n, .int .i64 avk, .int .i64 avi, .string avt, .slice A4 an c4] 35))).ext hw5).ext hw6)
    have HC6 := hid (((Blk.of_new w4 35 [.int .i64 aop, .string atb, .string anm, .int .i64 n, .int .i64 avk, .int .i64 avi, .string avt, .slice A4 an c4]).ext hw5).ext hw6)
    have HU6 := hid ((((HU.out.ext ((Ext.refl w4).alloc (.cells #[.int .i64 aop, .string atb, .string anm, .int .i64 n, .int .i64 avk, .int .i64 avi, .string avt, .slice A4 an c4] 35))).ext hw5).ext hw6))
    clear hw2 hw3 hw4 hw5 hw6 p0 p1 p2 p3 p4 p5 p6 p7 q0 q1 q2 q3 q4 q5 q6 q7 r0 r1 r2 r3 r4 r5 r6 r7 s0 s1 s2 s3 s4 s5 s6 s7
    generalize w4.heap.size = g2 at *
    have H1 : Hid (∀ z : Later w6, Calls Tryz.prog 17 _ z.now _) := fun z => HV1.out z.now (HX6.out.trans z.ext)
    have H2 : Hid (∀ z : Later w6, Calls Tryz.prog 17 _ z.now _) := fun z => HV2.out z.now A4 c4 (HX6.out.trans z.ext) (HU6.out.ext z.ext)
    have H3 : Hid (∀ z : Later w6, Calls Tryz.prog 23 _ z.now _) := fun z => HE.out z.now A4 c4 (HX6.out.trans z.ext) (HU6.out.ext z.ext)
    have H4 : Hid (∀ z : Later w6, Calls Tryz.prog 26 _ z.now _) := fun z => HN1.out z.now (HX6.out.trans z.ext)
    have H5 : Hid (∀ z : Later w6, Calls Tryz.prog 26 _ z.now _) := fun z => HN2.out z.now A4 c4 (HU6.out.ext z.ext)
    have p0 := Later.keep (HB6.out.cell_some (i := 0) rfl)
    have p1 := Later.keep (HB6.out.cell_some (i := 1) rfl)
    have p2 := Later.keep (HB6.out.cell_some (i := 2) rfl)
    have p3 := Later.keep (HB6.out.cell_some (i := 3) rfl)
    have p4 := Later.keep (HB6.out.cell_some (i := 4) rfl)
    have p5 := Later.keep (HB6.out.cell_some (i := 5) rfl)
    have p6 := Later.keep (HB6.out.cell_some (i := 6) rfl)
    have p7 := Later.keep (HB6.out.cell_some (i := 7) rfl)
    have q0 := Later.keep (HC6.out.cell_some (i := 0) rfl)
    have q1 := Later.keep (HC6.out.cell_some (i := 1) rfl)
    have q2 := Later.keep (HC6.out.cell_some (i := 2) rfl)
    have q3 := Later.keep (HC6.out.cell_some (i := 3) rfl)
    have q4 := Later.keep (HC6.out.cell_some (i := 4) rfl)
    have q5 := Later.keep (HC6.out.cell_some (i := 5) rfl)
    have q6 := Later.keep (HC6.out.cell_some (i := 6) rfl)
    have q7 := Later.keep (HC6.out.cell_some (i := 7) rfl)
    refine wp_region_later (by kernel_rfl) (by kernel_rfl) ?_
    repeat (go_big_quiet_step (first | (go_at_call 17; with_reducible exact later_of (H1.out _)) | (go_at_call 17; with_reducible exact later_of (H2.out _)) | (go_at_call 23; with_reducible exact later_of (H3.out _)) | (go_at_call 26; with_reducible exact later_of (H4.out _)) | (go_at_call 26; with_reducible exact later_of (H5.out _))))
    refine wpQuiet_nil ?_
    intro w7 hw7
    have hx7 := later_out hw7
    clear hw7
    go_wp2_with fail
    go_ret
    exact ⟨by simp, HX6.out.trans hx7⟩
end Go.Proofs.YtcdnodjcnofogaaGreatDoor
