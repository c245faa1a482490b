/-
  Walks: Equal of statements.
-/
import Derived.Test.YtcdnodjcnofogaaGreatDoorW41
import Derived.Deep.RegionHeld3
import Derived.BigRegion
namespace Go.Proofs.YtcdnodjcnofogaaGreatDoor
open Go.RowKit
set_option linter.unusedVariables false
set_option linter.unusedSimpArgs false
set_option maxHeartbeats 4000000
set_option maxRecDepth 100000

theorem sN_eq (a b : ByteArray) : sN a b = (a.toList == b.toList) := by unfold sN; rw [str_eq]
theorem stequal_any (s t : St) (a b : SA) (w : World) (hv : StV w s a) (hv2 : StV w t b) :
    Calls Tryz.prog 32 #[s.val a, t.val b] w fun r w' => r = .returned (.bool (s.same t)) ∧ Ext w w' := by
  have HB := hid ((Blk.of_new w 38 (s.cells a)).ext ((Ext.refl _).alloc (.cells (t.cells b).toArray 38)))
  have hb2 := Blk.of_new (w.alloc (.cells (s.cells a).toArray 38)) 38 (t.cells b)
  have HX := hid (((Ext.refl w).alloc (.cells (s.cells a).toArray 38)).alloc (.cells (t.cells b).toArray 38))
  rw [show (w.alloc (.cells (s.cells a).toArray 38)).heap.size = w.heap.size + 1 by simp] at hb2
  have HC := hid hb2
  clear hb2
  have H1 := hid (fun W (hW : Ext w W) => equal_any s.whr t.whr a.whr.A b.whr.A a.whr.n b.whr.n a.whr.c b.whr.c W (hv.whr.ext hW) (hv2.whr.ext hW))
  have H2 := hid (fun W (hW : Ext w W) => eq_src s.frm t.frm a.frm.A b.frm.A a.frm.n b.frm.n a.frm.c b.frm.c W hv.frm.1 hv2.frm.1 hv.frm.2.1 hv2.frm.2.1 (hv.frm.2.2.ext hW) (hv2.frm.2.2.ext hW))
  have H3 := hid (fun W (hW : Ext w W) => eq_ord s.ord t.ord a.ord.A b.ord.A a.ord.n b.ord.n a.ord.c b.ord.c W hv.ord.1 hv2.ord.1 hv.ord.2.1 hv2.ord.2.1 (hv.ord.2.2.ext hW) (hv2.ord.2.2.ext hW))
  have H4 := hid (fun W (hW : Ext w W) => eqexprs_any s.grp t.grp a.grp.A b.grp.A a.grp.n b.grp.n a.grp.c b.grp.c W hv.grp.1 hv2.grp.1 hv.grp.2.1 hv2.grp.2.1 (hv.grp.2.2.ext hW) (hv2.grp.2.2.ext hW))
  have H5 := hid (fun W (hW : Ext w W) => ef_rows s.vals t.vals a.vals.A b.vals.A a.vals.n b.vals.n a.vals.c b.vals.c W hv.vals.1 hv2.vals.1 hv.vals.2.1 hv2.vals.2.1 (hv.vals.2.2.ext hW) (hv2.vals.2.2.ext hW) hv.valn hv2.valn)
  have H6 := hid (fun W (hW : Ext w W) => ef_asg s.sets t.sets a.sets.A b.sets.A a.sets.n b.sets.n a.sets.c b.sets.c W hv.sets.1 hv2.sets.1 hv.sets.2.1 hv2.sets.2.1 (hv.sets.2.2.ext hW) (hv2.sets.2.2.ext hW))
  have H7 := hid (fun W (hW : Ext w W) => ef_itm s.itms t.itms a.itms.A b.itms.A a.itms.n b.itms.n a.itms.c b.itms.c W hv.itms.1 hv2.itms.1 hv.itms.2.1 hv2.itms.2.1 (hv.itms.2.2.ext hW) (hv2.itms.2.2.ext hW))
  have H8 := hid (fun W (hW : Ext w W) => eq_cd s.cols t.cols a.cols.A b.cols.A a.cols.n b.cols.n a.cols.c b.cols.c W hv.cols.1 hv2.cols.1 hv.cols.2.1 hv2.cols.2.1 (hv.cols.2.2.ext hW) (hv2.cols.2.2.ext hW))
  have H9 := hid (fun W (hW : Ext w W) => ef_keys s.keys t.keys a.keys.A b.keys.A a.keys.n b.keys.n a.keys.c b.keys.c W hv.keys.1 hv2.keys.1 hv.keys.2.1 hv2.keys.2.1 (hv.keys.2.2.ext hW) (hv2.keys.2.2.ext hW))
  have H10 := hid (fun W (hW : Ext w W) => ef_rf s.frs t.frs a.frs.A b.frs.A a.frs.n b.frs.n a.frs.c b.frs.c W hv.frs.1 hv2.frs.1 hv.frs.2.1 hv2.frs.2.1 (hv.frs.2.2.ext hW) (hv2.frs.2.2.ext hW))
  have H11 := hid (fun W (hW : Ext w W) => eqexprs_any s.chk t.chk a.chk.A b.chk.A a.chk.n b.chk.n a.chk.c b.chk.c W hv.chk.1 hv2.chk.1 hv.chk.2.1 hv2.chk.2.1 (hv.chk.2.2.ext hW) (hv2.chk.2.2.ext hW))
  clear hv hv2
  obtain ⟨R, hR⟩ : ∃ R, s.same t = R := ⟨_, rfl⟩
  rw [hR]
  unfold St.same St.sb SB.all at hR
  dsimp only at hR
  rw [sN_eq s.tb, sN_eq s.nm] at hR
  unfold St.val St.cells Sl.v at *
  unfold Nd.val at H1
  generalize s.whr.same t.whr = b5 at *
  generalize allS Src.same s.frm t.frm = b6 at *
  generalize allS Ord'.same s.ord t.ord = b7 at *
  generalize sameL s.grp t.grp = b8 at *
  generalize allS sameL s.vals t.vals = b9 at *
  generalize allS Asg.same s.sets t.sets = b10 at *
  generalize allS Itm.same s.itms t.itms = b11 at *
  generalize allS Cd.same s.cols t.cols = b12 at *
  generalize allS (allS sN) s.keys t.keys = b13 at *
  generalize allS Rf.same s.frs t.frs = b14 at *
  generalize sameL s.chk t.chk = b15 at *
  generalize s.whr.d = d at *
  generalize t.whr.d = d' at *
  obtain ⟨op, tb, nm, ix, vk, vi, vt⟩ := d
  obtain ⟨op', tb', nm', ix', vk', vi', vt'⟩ := d'
  simp only at *
  obtain ⟨b1, hb1⟩ : ∃ b, (s.kd == t.kd) = b := ⟨_, rfl⟩
  obtain ⟨b2, hb2⟩ : ∃ b, (s.tb.toList == t.tb.toList) = b := ⟨_, rfl⟩
  obtain ⟨b3, hb3⟩ : ∃ b, (s.nm.toList == t.nm.toList) = b := ⟨_, rfl⟩
  obtain ⟨b4, hb4⟩ : ∃ b, (s.lim == t.lim) = b := ⟨_, rfl⟩
  have n1 : (s.kd != t.kd) = !b1 := by rw [bne, hb1]
  have n2 : (s.tb.toList != t.tb.toList) = !b2 := by rw [bne, hb2]
  have n3 : (s.nm.toList != t.nm.toList) = !b3 := by rw [bne, hb3]
  have n4 : (s.lim != t.lim) = !b4 := by rw [bne, hb4]
  rw [hb1, hb2, hb3, hb4] at hR
  have HR := hid hR
  clear hR
  go_enter Tryz.func32, Tryz.ntmps32
  go_upto_region 1 with fail
  generalize (w.alloc (.cells _ 38)).alloc (.cells _ 38) = w1 at *
  generalize w.heap.size + 1 = g2 at *
  generalize w.heap.size = g at *
  have p0 := (HB.out).cell 0; have p1 := (HB.out).cell 1; have p20 := (HB.out).cell 20; have p21 := (HB.out).cell 21; have p10 := (HB.out).cell 10; have p11 := (HB.out).cell 11; have p12 := (HB.out).cell 12; have p13 := (HB.out).cell 13; have p14 := (HB.out).cell 14; have p15 := (HB.out).cell 15; have p16 := (HB.out).cell 16; have p17 := (HB.out).cell 17; simp only [List.getElem?_cons_succ, List.getElem?_cons_zero] at p0 p1 p20 p21 p10 p11 p12 p13 p14 p15 p16 p17
  have q0 := (HC.out).cell 0; have q1 := (HC.out).cell 1; have q20 := (HC.out).cell 20; have q21 := (HC.out).cell 21; have q10 := (HC.out).cell 10; have q11 := (HC.out).cell 11; have q12 := (HC.out).cell 12; have q13 := (HC.out).cell 13; have q14 := (HC.out).cell 14; have q15 := (HC.out).cell 15; have q16 := (HC.out).cell 16; have q17 := (HC.out).cell 17; simp only [List.getElem?_cons_succ, List.getElem?_cons_zero] at q0 q1 q20 q21 q10 q11 q12 q13 q14 q15 q16 q17
  go_cut [43] from 10 to 42 (fun cv wx => cv = .bool (!(b1 && b2 && b3 && b4 && b5)) ∧ Ext w1 wx)
  case first =>
    cases b1
    · simp only [Bool.not_true, Bool.not_false] at n1 n2 n3 n4
      go_wp2_with (go_at_call 23; (with_reducible refine (H1.out _ (HX.out)).mono ?_); rintro _ w2 ⟨rfl, hw2⟩)
      go_meet
      first | exact ⟨rfl, hw2⟩ | exact ⟨rfl, Ext.refl w1⟩
    · cases b2
      · simp only [Bool.not_true, Bool.not_false] at n1 n2 n3 n4
        go_wp2_with (go_at_call 23; (with_reducible refine (H1.out _ (HX.out)).mono ?_); rintro _ w2 ⟨rfl, hw2⟩)
        go_meet
        first | exact ⟨rfl, hw2⟩ | exact ⟨rfl, Ext.refl w1⟩
      · cases b3
        · simp only [Bool.not_true, Bool.not_false] at n1 n2 n3 n4
          go_wp2_with (go_at_call 23; (with_reducible refine (H1.out _ (HX.out)).mono ?_); rintro _ w2 ⟨rfl, hw2⟩)
          go_meet
          first | exact ⟨rfl, hw2⟩ | exact ⟨rfl, Ext.refl w1⟩
        · cases b4
          · simp only [Bool.not_true, Bool.not_false] at n1 n2 n3 n4
            go_wp2_with (go_at_call 23; (with_reducible refine (H1.out _ (HX.out)).mono ?_); rintro _ w2 ⟨rfl, hw2⟩)
            go_meet
            first | exact ⟨rfl, hw2⟩ | exact ⟨rfl, Ext.refl w1⟩
          · cases b5
            · simp only [Bool.not_true, Bool.not_false] at n1 n2 n3 n4
              go_wp2_with (go_at_call 23; (with_reducible refine (H1.out _ (HX.out)).mono ?_); rintro _ w2 ⟨rfl, hw2⟩)
              go_meet
              first | exact ⟨rfl, hw2⟩ | exact ⟨rfl, Ext.refl w1⟩
            · simp only [Bool.not_true, Bool.not_false] at n1 n2 n3 n4
              go_wp2_with (go_at_call 23; (with_reducible refine (H1.out _ (HX.out)).mono ?_); rintro _ w2 ⟨rfl, hw2⟩)
              go_meet
              first | exact ⟨rfl, hw2⟩ | exact ⟨rfl, Ext.refl w1⟩
  case rest =>
    obtain ⟨rfl, hxN⟩ := hcut
    generalize wc = wa at *
    have HXa := hid (HX.out.trans hxN)
    replace HB := hid (HB.out.ext hxN)
    replace HC := hid (HC.out.ext hxN)
    clear hxN p0 q0 p1 q1 p20 q20 p21 q21 p10 q10 p11 q11 p12 q12 p13 q13 p14 q14 p15 q15 p16 q16 p17 q17 n1 n2 n3 n4 hb1 hb2 hb3 hb4
    generalize (b1 && b2 && b3 && b4 && b5) = C1 at *
    cases C1
    · go_wp2_with fail
      go_ret
      exact ⟨ret_bool (by rw [← HR.out]; simp), HXa.out⟩
    · have hr := HR.out
      simp only [Bool.true_and] at hr
      replace HR := hid hr
      clear hr
      have p9 := (HB.out).cell 9
      have p19 := (HB.out).cell 19
      have p18 := (HB.out).cell 18
      have p6 := (HB.out).cell 6
      simp only [List.getElem?_cons_succ, List.getElem?_cons_zero] at p9 p19 p18 p6
      have q9 := (HC.out).cell 9
      have q19 := (HC.out).cell 19
      have q18 := (HC.out).cell 18
      have q6 := (HC.out).cell 6
      simp only [List.getElem?_cons_succ, List.getElem?_cons_zero] at q9 q19 q18 q6
      go_upto_region 3 with fail
      go_cut [73] from 44 to 72 (fun cv wx => cv = .bool (!(b6 && b7 && b8 && b9)) ∧ Ext wa wx)
      case first =>
        cases b6
        · go_wp2_with (first | (go_at_call 56; (with_reducible refine (H5.out _ (((HXa.out.trans hw2).trans hw3).trans hw4)).mono ?_); rintro _ w5 ⟨rfl, hw5⟩) | (go_at_call 51; (with_reducible refine (H4.out _ ((HXa.out.trans hw2).trans hw3)).mono ?_); rintro _ w4 ⟨rfl, hw4⟩; have e6 := (HB.out.ext ((hw2.trans hw3).trans hw4)).cell 6; simp only [List.getElem?_cons_succ, List.getElem?_cons_zero] at e6; have f6 := (HC.out.ext ((hw2.trans hw3).trans hw4)).cell 6; simp only [List.getElem?_cons_succ, List.getElem?_cons_zero] at f6) | (go_at_call 55; (with_reducible refine (H3.out _ (HXa.out.trans hw2)).mono ?_); rintro _ w3 ⟨rfl, hw3⟩; have e18 := (HB.out.ext (hw2.trans hw3)).cell 18; simp only [List.getElem?_cons_succ, List.getElem?_cons_zero] at e18; have f18 := (HC.out.ext (hw2.trans hw3)).cell 18; simp only [List.getElem?_cons_succ, List.getElem?_cons_zero] at f18) | (go_at_call 54; (with_reducible refine (H2.out _ (HXa.out)).mono ?_); rintro _ w2 ⟨rfl, hw2⟩; have e19 := (HB.out.ext hw2).cell 19; simp only [List.getElem?_cons_succ, List.getElem?_cons_zero] at e19; have f19 := (HC.out.ext hw2).cell 19; simp only [List.getElem?_cons_succ, List.getElem?_cons_zero] at f19))
          go_meet
          first | exact ⟨rfl, ((hw2.trans hw3).trans hw4).trans hw5⟩ | exact ⟨rfl, (hw2.trans hw3).trans hw4⟩ | exact ⟨rfl, hw2.trans hw3⟩ | exact ⟨rfl, hw2⟩
        · cases b7
          · go_wp2_with (first | (go_at_call 56; (with_reducible refine (H5.out _ (((HXa.out.trans hw2).trans hw3).trans hw4)).mono ?_); rintro _ w5 ⟨rfl, hw5⟩) | (go_at_call 51; (with_reducible refine (H4.out _ ((HXa.out.trans hw2).trans hw3)).mono ?_); rintro _ w4 ⟨rfl, hw4⟩; have e6 := (HB.out.ext ((hw2.trans hw3).trans hw4)).cell 6; simp only [List.getElem?_cons_succ, List.getElem?_cons_zero] at e6; have f6 := (HC.out.ext ((hw2.trans hw3).trans hw4)).cell 6; simp only [List.getElem?_cons_succ, List.getElem?_cons_zero] at f6) | (go_at_call 55; (with_reducible refine (H3.out _ (HXa.out.trans hw2)).mono ?_); rintro _ w3 ⟨rfl, hw3⟩; have e18 := (HB.out.ext (hw2.trans hw3)).cell 18; simp only [List.getElem?_cons_succ, List.getElem?_cons_zero] at e18; have f18 := (HC.out.ext (hw2.trans hw3)).cell 18; simp only [List.getElem?_cons_succ, List.getElem?_cons_zero] at f18) | (go_at_call 54; (with_reducible refine (H2.out _ (HXa.out)).mono ?_); rintro _ w2 ⟨rfl, hw2⟩; have e19 := (HB.out.ext hw2).cell 19; simp only [List.getElem?_cons_succ, List.getElem?_cons_zero] at e19; have f19 := (HC.out.ext hw2).cell 19; simp only [List.getElem?_cons_succ, List.getElem?_cons_zero] at f19))
            go_meet
            first | exact ⟨rfl, ((hw2.trans hw3).trans hw4).trans hw5⟩ | exact ⟨rfl, (hw2.trans hw3).trans hw4⟩ | exact ⟨rfl, hw2.trans hw3⟩ | exact ⟨rfl, hw2⟩
          · cases b8
            · go_wp2_with (first | (go_at_call 56; (with_reducible refine (H5.out _ (((HXa.out.trans hw2).trans hw3).trans hw4)).mono ?_); rintro _ w5 ⟨rfl, hw5⟩) | (go_at_call 51; (with_reducible refine (H4.out _ ((HXa.out.trans hw2).trans hw3)).mono ?_); rintro _ w4 ⟨rfl, hw4⟩; have e6 := (HB.out.ext ((hw2.trans hw3).trans hw4)).cell 6; simp only [List.getElem?_cons_succ, List.getElem?_cons_zero] at e6; have f6 := (HC.out.ext ((hw2.trans hw3).trans hw4)).cell 6; simp only [List.getElem?_cons_succ, List.getElem?_cons_zero] at f6) | (go_at_call 55; (with_reducible refine (H3.out _ (HXa.out.trans hw2)).mono ?_); rintro _ w3 ⟨rfl, hw3⟩; have e18 := (HB.out.ext (hw2.trans hw3)).cell 18; simp only [List.getElem?_cons_succ, List.getElem?_cons_zero] at e18; have f18 := (HC.out.ext (hw2.trans hw3)).cell 18; simp only [List.getElem?_cons_succ, List.getElem?_cons_zero] at f18) | (go_at_call 54; (with_reducible refine (H2.out _ (HXa.out)).mono ?_); rintro _ w2 ⟨rfl, hw2⟩; have e19 := (HB.out.ext hw2).cell 19; simp only [List.getElem?_cons_succ, List.getElem?_cons_zero] at e19; have f19 := (HC.out.ext hw2).cell 19; simp only [List.getElem?_cons_succ, List.getElem?_cons_zero] at f19))
              go_meet
              first | exact ⟨rfl, ((hw2.trans hw3).trans hw4).trans hw5⟩ | exact ⟨rfl, (hw2.trans hw3).trans hw4⟩ | exact ⟨rfl, hw2.trans hw3⟩ | exact ⟨rfl, hw2⟩
            · cases b9
              · go_wp2_with (first | (go_at_call 56; (with_reducible refine (H5.out _ (((HXa.out.trans hw2).trans hw3).trans hw4)).mono ?_); rintro _ w5 ⟨rfl, hw5⟩) | (go_at_call 51; (with_reducible refine (H4.out _ ((HXa.out.trans hw2).trans hw3)).mono ?_); rintro _ w4 ⟨rfl, hw4⟩; have e6 := (HB.out.ext ((hw2.trans hw3).trans hw4)).cell 6; simp only [List.getElem?_cons_succ, List.getElem?_cons_zero] at e6; have f6 := (HC.out.ext ((hw2.trans hw3).trans hw4)).cell 6; simp only [List.getElem?_cons_succ, List.getElem?_cons_zero] at f6) | (go_at_call 55; (with_reducible refine (H3.out _ (HXa.out.trans hw2)).mono ?_); rintro _ w3 ⟨rfl, hw3⟩; have e18 := (HB.out.ext (hw2.trans hw3)).cell 18; simp only [List.getElem?_cons_succ, List.getElem?_cons_zero] at e18; have f18 := (HC.out.ext (hw2.trans hw3)).cell 18; simp only [List.getElem?_cons_succ, List.getElem?_cons_zero] at f18) | (go_at_call 54; (with_reducible refine (H2.out _ (HXa.out)).mono ?_); rintro _ w2 ⟨rfl, hw2⟩; have e19 := (HB.out.ext hw2).cell 19; simp only [List.getElem?_cons_succ, List.getElem?_cons_zero] at e19; have f19 := (HC.out.ext hw2).cell 19; simp only [List.getElem?_cons_succ, List.getElem?_cons_zero] at f19))
                go_meet
                first | exact ⟨rfl, ((hw2.trans hw3).trans hw4).trans hw5⟩ | exact ⟨rfl, (hw2.trans hw3).trans hw4⟩ | exact ⟨rfl, hw2.trans hw3⟩ | exact ⟨rfl, hw2⟩
              · go_wp2_with (first | (go_at_call 56; (with_reducible refine (H5.out _ (((HXa.out.trans hw2).trans hw3).trans hw4)).mono ?_); rintro _ w5 ⟨rfl, hw5⟩) | (go_at_call 51; (with_reducible refine (H4.out _ ((HXa.out.trans hw2).trans hw3)).mono ?_); rintro _ w4 ⟨rfl, hw4⟩; have e6 := (HB.out.ext ((hw2.trans hw3).trans hw4)).cell 6; simp only [List.getElem?_cons_succ, List.getElem?_cons_zero] at e6; have f6 := (HC.out.ext ((hw2.trans hw3).trans hw4)).cell 6; simp only [List.getElem?_cons_succ, List.getElem?_cons_zero] at f6) | (go_at_call 55; (with_reducible refine (H3.out _ (HXa.out.trans hw2)).mono ?_); rintro _ w3 ⟨rfl, hw3⟩; have e18 := (HB.out.ext (hw2.trans hw3)).cell 18; simp only [List.getElem?_cons_succ, List.getElem?_cons_zero] at e18; have f18 := (HC.out.ext (hw2.trans hw3)).cell 18; simp only [List.getElem?_cons_succ, List.getElem?_cons_zero] at f18) | (go_at_call 54; (with_reducible refine (H2.out _ (HXa.out)).mono ?_); rintro _ w2 ⟨rfl, hw2⟩; have e19 := (HB.out.ext hw2).cell 19; simp only [List.getElem?_cons_succ, List.getElem?_cons_zero] at e19; have f19 := (HC.out.ext hw2).cell 19; simp only [List.getElem?_cons_succ, List.getElem?_cons_zero] at f19))
                go_meet
                first | exact ⟨rfl, ((hw2.trans hw3).trans hw4).trans hw5⟩ | exact ⟨rfl, (hw2.trans hw3).trans hw4⟩ | exact ⟨rfl, hw2.trans hw3⟩ | exact ⟨rfl, hw2⟩
      case rest =>
        obtain ⟨rfl, hxN⟩ := hcut
        generalize wc = wb at *
        have HXb := hid (HXa.out.trans hxN)
        replace HB := hid (HB.out.ext hxN)
        replace HC := hid (HC.out.ext hxN)
        clear hxN p9 q9 p19 q19 p18 q18 p6 q6
        generalize (b6 && b7 && b8 && b9) = C2 at *
        cases C2
        · go_wp2_with fail
          go_ret
          exact ⟨ret_bool (by rw [← HR.out]; simp), HXb.out⟩
        · have hr := HR.out
          simp only [Bool.true_and] at hr
          replace HR := hid hr
          clear hr
          have p7 := (HB.out).cell 7
          have p8 := (HB.out).cell 8
          simp only [List.getElem?_cons_succ, List.getElem?_cons_zero] at p7 p8
          have q7 := (HC.out).cell 7
          have q8 := (HC.out).cell 8
          simp only [List.getElem?_cons_succ, List.getElem?_cons_zero] at q7 q8
          go_upto_region 7 with fail
          go_cut [89] from 74 to 88 (fun cv wx => cv = .bool (!(b10 && b11)) ∧ Ext wb wx)
          case first =>
            cases b10
            · go_wp2_with (first | (go_at_call 60; (with_reducible refine (H7.out _ (HXb.out.trans hw2)).mono ?_); rintro _ w3 ⟨rfl, hw3⟩) | (go_at_call 59; (with_reducible refine (H6.out _ (HXb.out)).mono ?_); rintro _ w2 ⟨rfl, hw2⟩; have e8 := (HB.out.ext hw2).cell 8; simp only [List.getElem?_cons_succ, List.getElem?_cons_zero] at e8; have f8 := (HC.out.ext hw2).cell 8; simp only [List.getElem?_cons_succ, List.getElem?_cons_zero] at f8))
              go_meet
              first | exact ⟨rfl, hw2.trans hw3⟩ | exact ⟨rfl, hw2⟩
            · cases b11
              · go_wp2_with (first | (go_at_call 60; (with_reducible refine (H7.out _ (HXb.out.trans hw2)).mono ?_); rintro _ w3 ⟨rfl, hw3⟩) | (go_at_call 59; (with_reducible refine (H6.out _ (HXb.out)).mono ?_); rintro _ w2 ⟨rfl, hw2⟩; have e8 := (HB.out.ext hw2).cell 8; simp only [List.getElem?_cons_succ, List.getElem?_cons_zero] at e8; have f8 := (HC.out.ext hw2).cell 8; simp only [List.getElem?_cons_succ, List.getElem?_cons_zero] at f8))
                go_meet
                first | exact ⟨rfl, hw2.trans hw3⟩ | exact ⟨rfl, hw2⟩
              · go_wp2_with (first | (go_at_call 60; (with_reducible refine (H7.out _ (HXb.out.trans hw2)).mono ?_); rintro _ w3 ⟨rfl, hw3⟩) | (go_at_call 59; (with_reducible refine (H6.out _ (HXb.out)).mono ?_); rintro _ w2 ⟨rfl, hw2⟩; have e8 := (HB.out.ext hw2).cell 8; simp only [List.getElem?_cons_succ, List.getElem?_cons_zero] at e8; have f8 := (HC.out.ext hw2).cell 8; simp only [List.getElem?_cons_succ, List.getElem?_cons_zero] at f8))
                go_meet
                first | exact ⟨rfl, hw2.trans hw3⟩ | exact ⟨rfl, hw2⟩
          case rest =>
            obtain ⟨rfl, hxN⟩ := hcut
            generalize wc = wd at *
            have HXc := hid (HXb.out.trans hxN)
            replace HB := hid (HB.out.ext hxN)
            replace HC := hid (HC.out.ext hxN)
            clear hxN p7 q7 p8 q8
            generalize (b10 && b11) = C3 at *
            cases C3
            · go_wp2_with fail
              go_ret
              exact ⟨ret_bool (by rw [← HR.out]; simp), HXc.out⟩
            · have hr := HR.out
              simp only [Bool.true_and] at hr
              replace HR := hid hr
              clear hr
              have p2 := (HB.out).cell 2
              have p3 := (HB.out).cell 3
              have p4 := (HB.out).cell 4
              have p5 := (HB.out).cell 5
              simp only [List.getElem?_cons_succ, List.getElem?_cons_zero] at p2 p3 p4 p5
              have q2 := (HC.out).cell 2
              have q3 := (HC.out).cell 3
              have q4 := (HC.out).cell 4
              have q5 := (HC.out).cell 5
              simp only [List.getElem?_cons_succ, List.getElem?_cons_zero] at q2 q3 q4 q5
              go_upto_region 10 with fail
              go_cut [8, 9] from 90 to 93 (fun u8 u9 wx => ∃ ga gb, u8 = .pointer (some ⟨ga, 0, none⟩) ∧ u9 = .pointer (some ⟨gb, 0, none⟩) ∧ Blk wx ga 27 [.slice a.cols.A a.cols.n a.cols.c, .slice a.keys.A a.keys.n a.keys.c, .slice a.frs.A a.frs.n a.frs.c, .slice a.chk.A a.chk.n a.chk.c] ∧ Blk wx gb 27 [.slice b.cols.A b.cols.n b.cols.c, .slice b.keys.A b.keys.n b.keys.c, .slice b.frs.A b.frs.n b.frs.c, .slice b.chk.A b.chk.n b.chk.c] ∧ Ext wd wx)
              case first =>
                go_region_held3 (fun w' => w'.cell? ⟨g, 2, none⟩ = some (.slice a.cols.A a.cols.n a.cols.c) ∧ w'.cell? ⟨g, 3, none⟩ = some (.slice a.keys.A a.keys.n a.keys.c) ∧ w'.cell? ⟨g, 4, none⟩ = some (.slice a.frs.A a.frs.n a.frs.c) ∧ w'.cell? ⟨g, 5, none⟩ = some (.slice a.chk.A a.chk.n a.chk.c) ∧ w'.cell? ⟨g2, 2, none⟩ = some (.slice b.cols.A b.cols.n b.cols.c) ∧ w'.cell? ⟨g2, 3, none⟩ = some (.slice b.keys.A b.keys.n b.keys.c) ∧ w'.cell? ⟨g2, 4, none⟩ = some (.slice b.frs.A b.frs.n b.frs.c) ∧ w'.cell? ⟨g2, 5, none⟩ = some (.slice b.chk.A b.chk.n b.chk.c))
                  (first | go_keep)
                  (first | fail)
                · have hb := Blk.of_new (wd.alloc (.cells #[.slice a.cols.A a.cols.n a.cols.c, .slice a.keys.A a.keys.n a.keys.c, .slice a.frs.A a.frs.n a.frs.c, .slice a.chk.A a.chk.n a.chk.c] 27)) 27 [.slice b.cols.A b.cols.n b.cols.c, .slice b.keys.A b.keys.n b.keys.c, .slice b.frs.A b.frs.n b.frs.c, .slice b.chk.A b.chk.n b.chk.c]
                  rw [show (wd.alloc (.cells #[.slice a.cols.A a.cols.n a.cols.c, .slice a.keys.A a.keys.n a.keys.c, .slice a.frs.A a.frs.n a.frs.c, .slice a.chk.A a.chk.n a.chk.c] 27)).heap.size = wd.heap.size + 1 by simp] at hb
                  go_wp2_with fail
                  go_meet
                  exact ⟨_, _, rfl, rfl, ((Blk.of_new wd 27 [.slice a.cols.A a.cols.n a.cols.c, .slice a.keys.A a.keys.n a.keys.c, .slice a.frs.A a.frs.n a.frs.c, .slice a.chk.A a.chk.n a.chk.c]).ext ((Ext.refl _).alloc _)).drew, hb.drew, (((Ext.refl wd).alloc _).alloc _).drew⟩
                · have hb := Blk.of_new (wd.alloc (.cells #[.slice b.cols.A b.cols.n b.cols.c, .slice b.keys.A b.keys.n b.keys.c, .slice b.frs.A b.frs.n b.frs.c, .slice b.chk.A b.chk.n b.chk.c] 27)) 27 [.slice a.cols.A a.cols.n a.cols.c, .slice a.keys.A a.keys.n a.keys.c, .slice a.frs.A a.frs.n a.frs.c, .slice a.chk.A a.chk.n a.chk.c]
                  rw [show (wd.alloc (.cells #[.slice b.cols.A b.cols.n b.cols.c, .slice b.keys.A b.keys.n b.keys.c, .slice b.frs.A b.frs.n b.frs.c, .slice b.chk.A b.chk.n b.chk.c] 27)).heap.size = wd.heap.size + 1 by simp] at hb
                  go_wp2_with fail
                  go_meet
                  exact ⟨_, _, rfl, rfl, hb.drew, ((Blk.of_new wd 27 [.slice b.cols.A b.cols.n b.cols.c, .slice b.keys.A b.keys.n b.keys.c, .slice b.frs.A b.frs.n b.frs.c, .slice b.chk.A b.chk.n b.chk.c]).ext ((Ext.refl _).alloc _)).drew, (((Ext.refl wd).alloc _).alloc _).drew⟩
              case rest =>
                obtain ⟨ga, gb, rfl, rfl, hda, hdb, hxN⟩ := hcut
                generalize wc = we at *
                have HXe := hid (HXc.out.trans hxN)
                have HDa := hid hda
                have HDb := hid hdb
                clear hxN hda hdb p2 q2 p3 q3 p4 q4 p5 q5 HB HC
                have d0 := (HDa.out).cell 0
                have e0 := (HDb.out).cell 0
                simp only [List.getElem?_cons_succ, List.getElem?_cons_zero] at d0 e0
                go_upto_region 11 with fail
                cases b12
                · go_wp2_with (first | (go_at_call 51; (with_reducible refine (H11.out _ (((HXe.out.trans hw2).trans hw3).trans hw4)).mono ?_); rintro _ w5 ⟨rfl, hw5⟩) | (go_at_call 65; (with_reducible refine (H10.out _ ((HXe.out.trans hw2).trans hw3)).mono ?_); rintro _ w4 ⟨rfl, hw4⟩; have d3 := (HDa.out.ext ((hw2.trans hw3).trans hw4)).cell 3; have e3 := (HDb.out.ext ((hw2.trans hw3).trans hw4)).cell 3; simp only [List.getElem?_cons_succ, List.getElem?_cons_zero] at d3 e3) | (go_at_call 64; (with_reducible refine (H9.out _ (HXe.out.trans hw2)).mono ?_); rintro _ w3 ⟨rfl, hw3⟩; have d2 := (HDa.out.ext (hw2.trans hw3)).cell 2; have e2 := (HDb.out.ext (hw2.trans hw3)).cell 2; simp only [List.getElem?_cons_succ, List.getElem?_cons_zero] at d2 e2) | (go_at_call 63; (with_reducible refine (H8.out _ (HXe.out)).mono ?_); rintro _ w2 ⟨rfl, hw2⟩; have d1 := (HDa.out.ext (hw2)).cell 1; have e1 := (HDb.out.ext (hw2)).cell 1; simp only [List.getElem?_cons_succ, List.getElem?_cons_zero] at d1 e1))
                  go_ret
                  first | exact ⟨ret_bool (by rw [← HR.out]; simp), (((HXe.out.trans hw2).trans hw3).trans hw4).trans hw5⟩ | exact ⟨ret_bool (by rw [← HR.out]; simp), ((HXe.out.trans hw2).trans hw3).trans hw4⟩ | exact ⟨ret_bool (by rw [← HR.out]; simp), (HXe.out.trans hw2).trans hw3⟩ | exact ⟨ret_bool (by rw [← HR.out]; simp), HXe.out.trans hw2⟩
                · cases b13
                  · go_wp2_with (first | (go_at_call 51; (with_reducible refine (H11.out _ (((HXe.out.trans hw2).trans hw3).trans hw4)).mono ?_); rintro _ w5 ⟨rfl, hw5⟩) | (go_at_call 65; (with_reducible refine (H10.out _ ((HXe.out.trans hw2).trans hw3)).mono ?_); rintro _ w4 ⟨rfl, hw4⟩; have d3 := (HDa.out.ext ((hw2.trans hw3).trans hw4)).cell 3; have e3 := (HDb.out.ext ((hw2.trans hw3).trans hw4)).cell 3; simp only [List.getElem?_cons_succ, List.getElem?_cons_zero] at d3 e3) | (go_at_call 64; (with_reducible refine (H9.out _ (HXe.out.trans hw2)).mono ?_); rintro _ w3 ⟨rfl, hw3⟩; have d2 := (HDa.out.ext (hw2.trans hw3)).cell 2; have e2 := (HDb.out.ext (hw2.trans hw3)).cell 2; simp only [List.getElem?_cons_succ, List.getElem?_cons_zero] at d2 e2) | (go_at_call 63; (with_reducible refine (H8.out _ (HXe.out)).mono ?_); rintro _ w2 ⟨rfl, hw2⟩; have d1 := (HDa.out.ext (hw2)).cell 1; have e1 := (HDb.out.ext (hw2)).cell 1; simp only [List.getElem?_cons_succ, List.getElem?_cons_zero] at d1 e1))
                    go_ret
                    first | exact ⟨ret_bool (by rw [← HR.out]; simp), (((HXe.out.trans hw2).trans hw3).trans hw4).trans hw5⟩ | exact ⟨ret_bool (by rw [← HR.out]; simp), ((HXe.out.trans hw2).trans hw3).trans hw4⟩ | exact ⟨ret_bool (by rw [← HR.out]; simp), (HXe.out.trans hw2).trans hw3⟩ | exact ⟨ret_bool (by rw [← HR.out]; simp), HXe.out.trans hw2⟩
                  · cases b14
                    · go_wp2_with (first | (go_at_call 51; (with_reducible refine (H11.out _ (((HXe.out.trans hw2).trans hw3).trans hw4)).mono ?_); rintro _ w5 ⟨rfl, hw5⟩) | (go_at_call 65; (with_reducible refine (H10.out _ ((HXe.out.trans hw2).trans hw3)).mono ?_); rintro _ w4 ⟨rfl, hw4⟩; have d3 := (HDa.out.ext ((hw2.trans hw3).trans hw4)).cell 3; have e3 := (HDb.out.ext ((hw2.trans hw3).trans hw4)).cell 3; simp only [List.getElem?_cons_succ, List.getElem?_cons_zero] at d3 e3) | (go_at_call 64; (with_reducible refine (H9.out _ (HXe.out.trans hw2)).mono ?_); rintro _ w3 ⟨rfl, hw3⟩; have d2 := (HDa.out.ext (hw2.trans hw3)).cell 2; have e2 := (HDb.out.ext (hw2.trans hw3)).cell 2; simp only [List.getElem?_cons_succ, List.getElem?_cons_zero] at d2 e2) | (go_at_call 63; (with_reducible refine (H8.out _ (HXe.out)).mono ?_); rintro _ w2 ⟨rfl, hw2⟩; have d1 := (HDa.out.ext (hw2)).cell 1; have e1 := (HDb.out.ext (hw2)).cell 1; simp only [List.getElem?_cons_succ, List.getElem?_cons_zero] at d1 e1))
                      go_ret
                      first | exact ⟨ret_bool (by rw [← HR.out]; simp), (((HXe.out.trans hw2).trans hw3).trans hw4).trans hw5⟩ | exact ⟨ret_bool (by rw [← HR.out]; simp), ((HXe.out.trans hw2).trans hw3).trans hw4⟩ | exact ⟨ret_bool (by rw [← HR.out]; simp), (HXe.out.trans hw2).trans hw3⟩ | exact ⟨ret_bool (by rw [← HR.out]; simp), HXe.out.trans hw2⟩
                    · cases b15
                      · go_wp2_with (first | (go_at_call 51; (with_reducible refine (H11.out _ (((HXe.out.trans hw2).trans hw3).trans hw4)).mono ?_); rintro _ w5 ⟨rfl, hw5⟩) | (go_at_call 65; (with_reducible refine (H10.out _ ((HXe.out.trans hw2).trans hw3)).mono ?_); rintro _ w4 ⟨rfl, hw4⟩; have d3 := (HDa.out.ext ((hw2.trans hw3).trans hw4)).cell 3; have e3 := (HDb.out.ext ((hw2.trans hw3).trans hw4)).cell 3; simp only [List.getElem?_cons_succ, List.getElem?_cons_zero] at d3 e3) | (go_at_call 64; (with_reducible refine (H9.out _ (HXe.out.trans hw2)).mono ?_); rintro _ w3 ⟨rfl, hw3⟩; have d2 := (HDa.out.ext (hw2.trans hw3)).cell 2; have e2 := (HDb.out.ext (hw2.trans hw3)).cell 2; simp only [List.getElem?_cons_succ, List.getElem?_cons_zero] at d2 e2) | (go_at_call 63; (with_reducible refine (H8.out _ (HXe.out)).mono ?_); rintro _ w2 ⟨rfl, hw2⟩; have d1 := (HDa.out.ext (hw2)).cell 1; have e1 := (HDb.out.ext (hw2)).cell 1; simp only [List.getElem?_cons_succ, List.getElem?_cons_zero] at d1 e1))
                        go_ret
                        first | exact ⟨ret_bool (by rw [← HR.out]; simp), (((HXe.out.trans hw2).trans hw3).trans hw4).trans hw5⟩ | exact ⟨ret_bool (by rw [← HR.out]; simp), ((HXe.out.trans hw2).trans hw3).trans hw4⟩ | exact ⟨ret_bool (by rw [← HR.out]; simp), (HXe.out.trans hw2).trans hw3⟩ | exact ⟨ret_bool (by rw [← HR.out]; simp), HXe.out.trans hw2⟩
                      · go_wp2_with (first | (go_at_call 51; (with_reducible refine (H11.out _ (((HXe.out.trans hw2).trans hw3).trans hw4)).mono ?_); rintro _ w5 ⟨rfl, hw5⟩) | (go_at_call 65; (with_reducible refine (H10.out _ ((HXe.out.trans hw2).trans hw3)).mono ?_); rintro _ w4 ⟨rfl, hw4⟩; have d3 := (HDa.out.ext ((hw2.trans hw3).trans hw4)).cell 3; have e3 := (HDb.out.ext ((hw2.trans hw3).trans hw4)).cell 3; simp only [List.getElem?_cons_succ, List.getElem?_cons_zero] at d3 e3) | (go_at_call 64; (with_reducible refine (H9.out _ (HXe.out.trans hw2)).mono ?_); rintro _ w3 ⟨rfl, hw3⟩; have d2 := (HDa.out.ext (hw2.trans hw3)).cell 2; have e2 := (HDb.out.ext (hw2.trans hw3)).cell 2; simp only [List.getElem?_cons_succ, List.getElem?_cons_zero] at d2 e2) | (go_at_call 63; (with_reducible refine (H8.out _ (HXe.out)).mono ?_); rintro _ w2 ⟨rfl, hw2⟩; have d1 := (HDa.out.ext (hw2)).cell 1; have e1 := (HDb.out.ext (hw2)).cell 1; simp only [List.getElem?_cons_succ, List.getElem?_cons_zero] at d1 e1))
                        go_ret
                        first | exact ⟨ret_bool (by rw [← HR.out]; simp), (((HXe.out.trans hw2).trans hw3).trans hw4).trans hw5⟩ | exact ⟨ret_bool (by rw [← HR.out]; simp), ((HXe.out.trans hw2).trans hw3).trans hw4⟩ | exact ⟨ret_bool (by rw [← HR.out]; simp), (HXe.out.trans hw2).trans hw3⟩ | exact ⟨ret_bool (by rw [← HR.out]; simp), HXe.out.trans hw2⟩
end Go.Proofs.YtcdnodjcnofogaaGreatDoor
