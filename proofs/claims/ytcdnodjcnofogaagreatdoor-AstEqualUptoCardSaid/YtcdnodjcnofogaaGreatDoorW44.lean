/-
  Walks: the reference's Same.
-/
import Derived.Test.YtcdnodjcnofogaaGreatDoorW43
namespace Go.Proofs.YtcdnodjcnofogaaGreatDoor
open Go.RowKit
set_option linter.unusedVariables false
set_option linter.unusedSimpArgs false
set_option maxHeartbeats 4000000
set_option maxRecDepth 100000

theorem rstsame_any (s t : St) (a b : SA) (w : World) (hv : StV w s a) (hv2 : StV w t b) :
    Calls Tryz.prog 33 #[s.val a, t.val b] w fun r w' => r = .returned (.bool (s.same t)) ∧ Ext w w' := by
  have HS := hid hv
  have HT := hid hv2
  have HB := hid ((Blk.of_new w 38 (s.cells a)).ext ((Ext.refl _).alloc (.cells (t.cells b).toArray 38)))
  have hb2 := Blk.of_new (w.alloc (.cells (s.cells a).toArray 38)) 38 (t.cells b)
  have HX := hid (((Ext.refl w).alloc (.cells (s.cells a).toArray 38)).alloc (.cells (t.cells b).toArray 38))
  rw [show (w.alloc (.cells (s.cells a).toArray 38)).heap.size = w.heap.size + 1 by simp] at hb2
  have HC := hid hb2
  clear hb2
  have H1 := hid (fun W (hW : Ext w W) => rdef_any s t a b W (hv.ext hW) (hv2.ext hW))
  have H2 := hid (fun W (hW : Ext w W) => rsame_any s.whr t.whr a.whr.A b.whr.A a.whr.n b.whr.n a.whr.c b.whr.c W (hv.whr.ext hW) (hv2.whr.ext hW))
  have H3 := hid (fun W (hW : Ext w W) => rsames_any s.grp t.grp a.grp.A b.grp.A a.grp.n b.grp.n a.grp.c b.grp.c W hv.grp.1 hv2.grp.1 hv.grp.2.1 hv2.grp.2.1 (hv.grp.2.2.ext hW) (hv2.grp.2.2.ext hW))
  have m1 := hv.vals.2.1
  have m2 := hv.sets.2.1
  have m3 := hv.itms.2.1
  have m4 := hv.frm.2.1
  have m5 := hv.ord.2.1
  clear hv hv2
  obtain ⟨R, hR⟩ : ∃ R, s.same t = R := ⟨_, rfl⟩
  rw [hR]
  replace hR : ((s.kd == t.kd) && (s.tb.toList == t.tb.toList) && (s.nm.toList == t.nm.toList) && (s.lim == t.lim) && s.whr.same t.whr && allS Src.same s.frm t.frm && allS Ord'.same s.ord t.ord && sameL s.grp t.grp && allS sameL s.vals t.vals && allS Asg.same s.sets t.sets && allS Itm.same s.itms t.itms && (allS Cd.same s.cols t.cols && allS (allS sN) s.keys t.keys && allS Rf.same s.frs t.frs && sameL s.chk t.chk)) = R := by
    rw [← hR]
    unfold St.same St.sb SB.all
    rw [← sN_eq, ← sN_eq]
    simp only [Bool.and_assoc]
  unfold St.val St.cells Sl.v at *
  unfold Nd.val at H2
  generalize (allS Cd.same s.cols t.cols && allS (allS sN) s.keys t.keys && allS Rf.same s.frs t.frs && sameL s.chk t.chk) = b12 at *
  generalize s.whr.same t.whr = b5 at *
  generalize sameL s.grp t.grp = b8 at *
  generalize s.whr.d = d at *
  generalize t.whr.d = d' at *
  obtain ⟨op, tb, nm, ix, vk, vi, vt⟩ := d
  obtain ⟨op', tb', nm', ix', vk', vi', vt'⟩ := d'
  simp only at *
  obtain ⟨b1, hb1⟩ : ∃ b, (s.kd == t.kd) = b := ⟨_, rfl⟩
  obtain ⟨b2, hb2⟩ : ∃ b, (s.tb.toList == t.tb.toList) = b := ⟨_, rfl⟩
  obtain ⟨b3, hb3⟩ : ∃ b, (s.nm.toList == t.nm.toList) = b := ⟨_, rfl⟩
  obtain ⟨b4, hb4⟩ : ∃ b, (s.lim == t.lim) = b := ⟨_, rfl⟩
  have n1 : (s.kd != t.kd) = !b1 := by rw [bne, hb1]
  have n2 : (s.tb.toList != t.tb.toList) = !b2 := by rw [bne, hb2]
  have n3 : (s.nm.toList != t.nm.toList) = !b3 := by rw [bne, hb3]
  have n4 : (s.lim != t.lim) = !b4 := by rw [bne, hb4]
  rw [hb1, hb2, hb3, hb4] at hR
  have HR := hid hR
  clear hR
  go_enter Tryz.func33, Tryz.ntmps33
  go_upto_region 1 with fail
  dsimp only [List.append]
  generalize (w.alloc (.cells _ 38)).alloc (.cells _ 38) = w1 at *
  generalize w.heap.size + 1 = g2 at *
  generalize w.heap.size = g at *
  have p0 := (HB.out).cell 0
  have p1 := (HB.out).cell 1
  have p2 := (HB.out).cell 2
  have p3 := (HB.out).cell 3
  have p4 := (HB.out).cell 4
  have p5 := (HB.out).cell 5
  have p6 := (HB.out).cell 6
  have p7 := (HB.out).cell 7
  have p8 := (HB.out).cell 8
  have p9 := (HB.out).cell 9
  have p10 := (HB.out).cell 10
  have p11 := (HB.out).cell 11
  have p12 := (HB.out).cell 12
  have p13 := (HB.out).cell 13
  have p14 := (HB.out).cell 14
  have p15 := (HB.out).cell 15
  have p16 := (HB.out).cell 16
  have p17 := (HB.out).cell 17
  have p18 := (HB.out).cell 18
  have p19 := (HB.out).cell 19
  have p20 := (HB.out).cell 20
  have p21 := (HB.out).cell 21
  simp only [List.getElem?_cons_succ, List.getElem?_cons_zero] at p0 p1 p2 p3 p4 p5 p6 p7 p8 p9 p10 p11 p12 p13 p14 p15 p16 p17 p18 p19 p20 p21
  have q0 := (HC.out).cell 0
  have q1 := (HC.out).cell 1
  have q2 := (HC.out).cell 2
  have q3 := (HC.out).cell 3
  have q4 := (HC.out).cell 4
  have q5 := (HC.out).cell 5
  have q6 := (HC.out).cell 6
  have q7 := (HC.out).cell 7
  have q8 := (HC.out).cell 8
  have q9 := (HC.out).cell 9
  have q10 := (HC.out).cell 10
  have q11 := (HC.out).cell 11
  have q12 := (HC.out).cell 12
  have q13 := (HC.out).cell 13
  have q14 := (HC.out).cell 14
  have q15 := (HC.out).cell 15
  have q16 := (HC.out).cell 16
  have q17 := (HC.out).cell 17
  have q18 := (HC.out).cell 18
  have q19 := (HC.out).cell 19
  have q20 := (HC.out).cell 20
  have q21 := (HC.out).cell 21
  simp only [List.getElem?_cons_succ, List.getElem?_cons_zero] at q0 q1 q2 q3 q4 q5 q6 q7 q8 q9 q10 q11 q12 q13 q14 q15 q16 q17 q18 q19 q20 q21
  cases b1
  · simp only [Bool.not_true, Bool.not_false] at n1 n2 n3 n4
    go_wp2_with (first | (go_at_call 52; (with_reducible refine (H3.out _ ((HX.out.trans hw2).trans hw3)).mono ?_); rintro _ w4 ⟨rfl, hw4⟩; have e19 := (HB.out.ext ((hw2.trans hw3).trans hw4)).cell 19; have e20 := (HB.out.ext ((hw2.trans hw3).trans hw4)).cell 20; have e21 := (HB.out.ext ((hw2.trans hw3).trans hw4)).cell 21; simp only [List.getElem?_cons_succ, List.getElem?_cons_zero] at e19 e20 e21; have f19 := (HC.out.ext ((hw2.trans hw3).trans hw4)).cell 19; have f20 := (HC.out.ext ((hw2.trans hw3).trans hw4)).cell 20; have f21 := (HC.out.ext ((hw2.trans hw3).trans hw4)).cell 21; simp only [List.getElem?_cons_succ, List.getElem?_cons_zero] at f19 f20 f21) | (go_at_call 24; (with_reducible refine (H2.out _ (HX.out.trans hw2)).mono ?_); rintro _ w3 ⟨rfl, hw3⟩; have e18 := (HB.out.ext (hw2.trans hw3)).cell 18; have e19 := (HB.out.ext (hw2.trans hw3)).cell 19; have e20 := (HB.out.ext (hw2.trans hw3)).cell 20; have e21 := (HB.out.ext (hw2.trans hw3)).cell 21; simp only [List.getElem?_cons_succ, List.getElem?_cons_zero] at e18 e19 e20 e21; have f18 := (HC.out.ext (hw2.trans hw3)).cell 18; have f19 := (HC.out.ext (hw2.trans hw3)).cell 19; have f20 := (HC.out.ext (hw2.trans hw3)).cell 20; have f21 := (HC.out.ext (hw2.trans hw3)).cell 21; simp only [List.getElem?_cons_succ, List.getElem?_cons_zero] at f18 f19 f20 f21) | (go_at_call 66; (with_reducible refine (H1.out _ (HX.out)).mono ?_); rintro _ w2 ⟨rfl, hw2⟩; have e6 := (HB.out.ext (hw2)).cell 6; have e7 := (HB.out.ext (hw2)).cell 7; have e8 := (HB.out.ext (hw2)).cell 8; have e9 := (HB.out.ext (hw2)).cell 9; have e10 := (HB.out.ext (hw2)).cell 10; have e11 := (HB.out.ext (hw2)).cell 11; have e12 := (HB.out.ext (hw2)).cell 12; have e13 := (HB.out.ext (hw2)).cell 13; have e14 := (HB.out.ext (hw2)).cell 14; have e15 := (HB.out.ext (hw2)).cell 15; have e16 := (HB.out.ext (hw2)).cell 16; have e17 := (HB.out.ext (hw2)).cell 17; have e18 := (HB.out.ext (hw2)).cell 18; have e19 := (HB.out.ext (hw2)).cell 19; have e20 := (HB.out.ext (hw2)).cell 20; have e21 := (HB.out.ext (hw2)).cell 21; simp only [List.getElem?_cons_succ, List.getElem?_cons_zero] at e6 e7 e8 e9 e10 e11 e12 e13 e14 e15 e16 e17 e18 e19 e20 e21; have f6 := (HC.out.ext (hw2)).cell 6; have f7 := (HC.out.ext (hw2)).cell 7; have f8 := (HC.out.ext (hw2)).cell 8; have f9 := (HC.out.ext (hw2)).cell 9; have f10 := (HC.out.ext (hw2)).cell 10; have f11 := (HC.out.ext (hw2)).cell 11; have f12 := (HC.out.ext (hw2)).cell 12; have f13 := (HC.out.ext (hw2)).cell 13; have f14 := (HC.out.ext (hw2)).cell 14; have f15 := (HC.out.ext (hw2)).cell 15; have f16 := (HC.out.ext (hw2)).cell 16; have f17 := (HC.out.ext (hw2)).cell 17; have f18 := (HC.out.ext (hw2)).cell 18; have f19 := (HC.out.ext (hw2)).cell 19; have f20 := (HC.out.ext (hw2)).cell 20; have f21 := (HC.out.ext (hw2)).cell 21; simp only [List.getElem?_cons_succ, List.getElem?_cons_zero] at f6 f7 f8 f9 f10 f11 f12 f13 f14 f15 f16 f17 f18 f19 f20 f21))
    go_ret
    first | exact ⟨ret_bool (by rw [← HR.out]; simp), ((HX.out.trans hw2).trans hw3).trans hw4⟩ | exact ⟨ret_bool (by rw [← HR.out]; simp), (HX.out.trans hw2).trans hw3⟩ | exact ⟨ret_bool (by rw [← HR.out]; simp), HX.out.trans hw2⟩ | exact ⟨ret_bool (by rw [← HR.out]; simp), HX.out⟩
  · cases b2
    · simp only [Bool.not_true, Bool.not_false] at n1 n2 n3 n4
      go_wp2_with (first | (go_at_call 52; (with_reducible refine (H3.out _ ((HX.out.trans hw2).trans hw3)).mono ?_); rintro _ w4 ⟨rfl, hw4⟩; have e19 := (HB.out.ext ((hw2.trans hw3).trans hw4)).cell 19; have e20 := (HB.out.ext ((hw2.trans hw3).trans hw4)).cell 20; have e21 := (HB.out.ext ((hw2.trans hw3).trans hw4)).cell 21; simp only [List.getElem?_cons_succ, List.getElem?_cons_zero] at e19 e20 e21; have f19 := (HC.out.ext ((hw2.trans hw3).trans hw4)).cell 19; have f20 := (HC.out.ext ((hw2.trans hw3).trans hw4)).cell 20; have f21 := (HC.out.ext ((hw2.trans hw3).trans hw4)).cell 21; simp only [List.getElem?_cons_succ, List.getElem?_cons_zero] at f19 f20 f21) | (go_at_call 24; (with_reducible refine (H2.out _ (HX.out.trans hw2)).mono ?_); rintro _ w3 ⟨rfl, hw3⟩; have e18 := (HB.out.ext (hw2.trans hw3)).cell 18; have e19 := (HB.out.ext (hw2.trans hw3)).cell 19; have e20 := (HB.out.ext (hw2.trans hw3)).cell 20; have e21 := (HB.out.ext (hw2.trans hw3)).cell 21; simp only [List.getElem?_cons_succ, List.getElem?_cons_zero] at e18 e19 e20 e21; have f18 := (HC.out.ext (hw2.trans hw3)).cell 18; have f19 := (HC.out.ext (hw2.trans hw3)).cell 19; have f20 := (HC.out.ext (hw2.trans hw3)).cell 20; have f21 := (HC.out.ext (hw2.trans hw3)).cell 21; simp only [List.getElem?_cons_succ, List.getElem?_cons_zero] at f18 f19 f20 f21) | (go_at_call 66; (with_reducible refine (H1.out _ (HX.out)).mono ?_); rintro _ w2 ⟨rfl, hw2⟩; have e6 := (HB.out.ext (hw2)).cell 6; have e7 := (HB.out.ext (hw2)).cell 7; have e8 := (HB.out.ext (hw2)).cell 8; have e9 := (HB.out.ext (hw2)).cell 9; have e10 := (HB.out.ext (hw2)).cell 10; have e11 := (HB.out.ext (hw2)).cell 11; have e12 := (HB.out.ext (hw2)).cell 12; have e13 := (HB.out.ext (hw2)).cell 13; have e14 := (HB.out.ext (hw2)).cell 14; have e15 := (HB.out.ext (hw2)).cell 15; have e16 := (HB.out.ext (hw2)).cell 16; have e17 := (HB.out.ext (hw2)).cell 17; have e18 := (HB.out.ext (hw2)).cell 18; have e19 := (HB.out.ext (hw2)).cell 19; have e20 := (HB.out.ext (hw2)).cell 20; have e21 := (HB.out.ext (hw2)).cell 21; simp only [List.getElem?_cons_succ, List.getElem?_cons_zero] at e6 e7 e8 e9 e10 e11 e12 e13 e14 e15 e16 e17 e18 e19 e20 e21; have f6 := (HC.out.ext (hw2)).cell 6; have f7 := (HC.out.ext (hw2)).cell 7; have f8 := (HC.out.ext (hw2)).cell 8; have f9 := (HC.out.ext (hw2)).cell 9; have f10 := (HC.out.ext (hw2)).cell 10; have f11 := (HC.out.ext (hw2)).cell 11; have f12 := (HC.out.ext (hw2)).cell 12; have f13 := (HC.out.ext (hw2)).cell 13; have f14 := (HC.out.ext (hw2)).cell 14; have f15 := (HC.out.ext (hw2)).cell 15; have f16 := (HC.out.ext (hw2)).cell 16; have f17 := (HC.out.ext (hw2)).cell 17; have f18 := (HC.out.ext (hw2)).cell 18; have f19 := (HC.out.ext (hw2)).cell 19; have f20 := (HC.out.ext (hw2)).cell 20; have f21 := (HC.out.ext (hw2)).cell 21; simp only [List.getElem?_cons_succ, List.getElem?_cons_zero] at f6 f7 f8 f9 f10 f11 f12 f13 f14 f15 f16 f17 f18 f19 f20 f21))
      go_ret
      first | exact ⟨ret_bool (by rw [← HR.out]; simp), ((HX.out.trans hw2).trans hw3).trans hw4⟩ | exact ⟨ret_bool (by rw [← HR.out]; simp), (HX.out.trans hw2).trans hw3⟩ | exact ⟨ret_bool (by rw [← HR.out]; simp), HX.out.trans hw2⟩ | exact ⟨ret_bool (by rw [← HR.out]; simp), HX.out⟩
    · cases b12
      · simp only [Bool.not_true, Bool.not_false] at n1 n2 n3 n4
        go_wp2_with (first | (go_at_call 52; (with_reducible refine (H3.out _ ((HX.out.trans hw2).trans hw3)).mono ?_); rintro _ w4 ⟨rfl, hw4⟩; have e19 := (HB.out.ext ((hw2.trans hw3).trans hw4)).cell 19; have e20 := (HB.out.ext ((hw2.trans hw3).trans hw4)).cell 20; have e21 := (HB.out.ext ((hw2.trans hw3).trans hw4)).cell 21; simp only [List.getElem?_cons_succ, List.getElem?_cons_zero] at e19 e20 e21; have f19 := (HC.out.ext ((hw2.trans hw3).trans hw4)).cell 19; have f20 := (HC.out.ext ((hw2.trans hw3).trans hw4)).cell 20; have f21 := (HC.out.ext ((hw2.trans hw3).trans hw4)).cell 21; simp only [List.getElem?_cons_succ, List.getElem?_cons_zero] at f19 f20 f21) | (go_at_call 24; (with_reducible refine (H2.out _ (HX.out.trans hw2)).mono ?_); rintro _ w3 ⟨rfl, hw3⟩; have e18 := (HB.out.ext (hw2.trans hw3)).cell 18; have e19 := (HB.out.ext (hw2.trans hw3)).cell 19; have e20 := (HB.out.ext (hw2.trans hw3)).cell 20; have e21 := (HB.out.ext (hw2.trans hw3)).cell 21; simp only [List.getElem?_cons_succ, List.getElem?_cons_zero] at e18 e19 e20 e21; have f18 := (HC.out.ext (hw2.trans hw3)).cell 18; have f19 := (HC.out.ext (hw2.trans hw3)).cell 19; have f20 := (HC.out.ext (hw2.trans hw3)).cell 20; have f21 := (HC.out.ext (hw2.trans hw3)).cell 21; simp only [List.getElem?_cons_succ, List.getElem?_cons_zero] at f18 f19 f20 f21) | (go_at_call 66; (with_reducible refine (H1.out _ (HX.out)).mono ?_); rintro _ w2 ⟨rfl, hw2⟩; have e6 := (HB.out.ext (hw2)).cell 6; have e7 := (HB.out.ext (hw2)).cell 7; have e8 := (HB.out.ext (hw2)).cell 8; have e9 := (HB.out.ext (hw2)).cell 9; have e10 := (HB.out.ext (hw2)).cell 10; have e11 := (HB.out.ext (hw2)).cell 11; have e12 := (HB.out.ext (hw2)).cell 12; have e13 := (HB.out.ext (hw2)).cell 13; have e14 := (HB.out.ext (hw2)).cell 14; have e15 := (HB.out.ext (hw2)).cell 15; have e16 := (HB.out.ext (hw2)).cell 16; have e17 := (HB.out.ext (hw2)).cell 17; have e18 := (HB.out.ext (hw2)).cell 18; have e19 := (HB.out.ext (hw2)).cell 19; have e20 := (HB.out.ext (hw2)).cell 20; have e21 := (HB.out.ext (hw2)).cell 21; simp only [List.getElem?_cons_succ, List.getElem?_cons_zero] at e6 e7 e8 e9 e10 e11 e12 e13 e14 e15 e16 e17 e18 e19 e20 e21; have f6 := (HC.out.ext (hw2)).cell 6; have f7 := (HC.out.ext (hw2)).cell 7; have f8 := (HC.out.ext (hw2)).cell 8; have f9 := (HC.out.ext (hw2)).cell 9; have f10 := (HC.out.ext (hw2)).cell 10; have f11 := (HC.out.ext (hw2)).cell 11; have f12 := (HC.out.ext (hw2)).cell 12; have f13 := (HC.out.ext (hw2)).cell 13; have f14 := (HC.out.ext (hw2)).cell 14; have f15 := (HC.out.ext (hw2)).cell 15; have f16 := (HC.out.ext (hw2)).cell 16; have f17 := (HC.out.ext (hw2)).cell 17; have f18 := (HC.out.ext (hw2)).cell 18; have f19 := (HC.out.ext (hw2)).cell 19; have f20 := (HC.out.ext (hw2)).cell 20; have f21 := (HC.out.ext (hw2)).cell 21; simp only [List.getElem?_cons_succ, List.getElem?_cons_zero] at f6 f7 f8 f9 f10 f11 f12 f13 f14 f15 f16 f17 f18 f19 f20 f21))
        go_ret
        first | exact ⟨ret_bool (by rw [← HR.out]; simp), ((HX.out.trans hw2).trans hw3).trans hw4⟩ | exact ⟨ret_bool (by rw [← HR.out]; simp), (HX.out.trans hw2).trans hw3⟩ | exact ⟨ret_bool (by rw [← HR.out]; simp), HX.out.trans hw2⟩ | exact ⟨ret_bool (by rw [← HR.out]; simp), HX.out⟩
      · by_cases hn1 : a.vals.n = b.vals.n
        · have l1 : ((a.vals.n : Int) != (b.vals.n : Int)) = false := by simp [hn1]
          have HN1 := hid hn1
          clear hn1
          by_cases hn2 : a.sets.n = b.sets.n
          · have l2 : ((a.sets.n : Int) != (b.sets.n : Int)) = false := by simp [hn2]
            have HN2 := hid hn2
            clear hn2
            by_cases hn3 : a.itms.n = b.itms.n
            · have l3 : ((a.itms.n : Int) != (b.itms.n : Int)) = false := by simp [hn3]
              have HN3 := hid hn3
              clear hn3
              by_cases hn4 : a.frm.n = b.frm.n
              · have l4 : ((a.frm.n : Int) != (b.frm.n : Int)) = false := by simp [hn4]
                have HN4 := hid hn4
                clear hn4
                cases b5
                · simp only [Bool.not_true, Bool.not_false] at n1 n2 n3 n4
                  go_wp2_with (first | (go_at_call 52; (with_reducible refine (H3.out _ ((HX.out.trans hw2).trans hw3)).mono ?_); rintro _ w4 ⟨rfl, hw4⟩; have e19 := (HB.out.ext ((hw2.trans hw3).trans hw4)).cell 19; have e20 := (HB.out.ext ((hw2.trans hw3).trans hw4)).cell 20; have e21 := (HB.out.ext ((hw2.trans hw3).trans hw4)).cell 21; simp only [List.getElem?_cons_succ, List.getElem?_cons_zero] at e19 e20 e21; have f19 := (HC.out.ext ((hw2.trans hw3).trans hw4)).cell 19; have f20 := (HC.out.ext ((hw2.trans hw3).trans hw4)).cell 20; have f21 := (HC.out.ext ((hw2.trans hw3).trans hw4)).cell 21; simp only [List.getElem?_cons_succ, List.getElem?_cons_zero] at f19 f20 f21) | (go_at_call 24; (with_reducible refine (H2.out _ (HX.out.trans hw2)).mono ?_); rintro _ w3 ⟨rfl, hw3⟩; have e18 := (HB.out.ext (hw2.trans hw3)).cell 18; have e19 := (HB.out.ext (hw2.trans hw3)).cell 19; have e20 := (HB.out.ext (hw2.trans hw3)).cell 20; have e21 := (HB.out.ext (hw2.trans hw3)).cell 21; simp only [List.getElem?_cons_succ, List.getElem?_cons_zero] at e18 e19 e20 e21; have f18 := (HC.out.ext (hw2.trans hw3)).cell 18; have f19 := (HC.out.ext (hw2.trans hw3)).cell 19; have f20 := (HC.out.ext (hw2.trans hw3)).cell 20; have f21 := (HC.out.ext (hw2.trans hw3)).cell 21; simp only [List.getElem?_cons_succ, List.getElem?_cons_zero] at f18 f19 f20 f21) | (go_at_call 66; (with_reducible refine (H1.out _ (HX.out)).mono ?_); rintro _ w2 ⟨rfl, hw2⟩; have e6 := (HB.out.ext (hw2)).cell 6; have e7 := (HB.out.ext (hw2)).cell 7; have e8 := (HB.out.ext (hw2)).cell 8; have e9 := (HB.out.ext (hw2)).cell 9; have e10 := (HB.out.ext (hw2)).cell 10; have e11 := (HB.out.ext (hw2)).cell 11; have e12 := (HB.out.ext (hw2)).cell 12; have e13 := (HB.out.ext (hw2)).cell 13; have e14 := (HB.out.ext (hw2)).cell 14; have e15 := (HB.out.ext (hw2)).cell 15; have e16 := (HB.out.ext (hw2)).cell 16; have e17 := (HB.out.ext (hw2)).cell 17; have e18 := (HB.out.ext (hw2)).cell 18; have e19 := (HB.out.ext (hw2)).cell 19; have e20 := (HB.out.ext (hw2)).cell 20; have e21 := (HB.out.ext (hw2)).cell 21; simp only [List.getElem?_cons_succ, List.getElem?_cons_zero] at e6 e7 e8 e9 e10 e11 e12 e13 e14 e15 e16 e17 e18 e19 e20 e21; have f6 := (HC.out.ext (hw2)).cell 6; have f7 := (HC.out.ext (hw2)).cell 7; have f8 := (HC.out.ext (hw2)).cell 8; have f9 := (HC.out.ext (hw2)).cell 9; have f10 := (HC.out.ext (hw2)).cell 10; have f11 := (HC.out.ext (hw2)).cell 11; have f12 := (HC.out.ext (hw2)).cell 12; have f13 := (HC.out.ext (hw2)).cell 13; have f14 := (HC.out.ext (hw2)).cell 14; have f15 := (HC.out.ext (hw2)).cell 15; have f16 := (HC.out.ext (hw2)).cell 16; have f17 := (HC.out.ext (hw2)).cell 17; have f18 := (HC.out.ext (hw2)).cell 18; have f19 := (HC.out.ext (hw2)).cell 19; have f20 := (HC.out.ext (hw2)).cell 20; have f21 := (HC.out.ext (hw2)).cell 21; simp only [List.getElem?_cons_succ, List.getElem?_cons_zero] at f6 f7 f8 f9 f10 f11 f12 f13 f14 f15 f16 f17 f18 f19 f20 f21))
                  go_ret
                  first | exact ⟨ret_bool (by rw [← HR.out]; simp), ((HX.out.trans hw2).trans hw3).trans hw4⟩ | exact ⟨ret_bool (by rw [← HR.out]; simp), (HX.out.trans hw2).trans hw3⟩ | exact ⟨ret_bool (by rw [← HR.out]; simp), HX.out.trans hw2⟩ | exact ⟨ret_bool (by rw [← HR.out]; simp), HX.out⟩
                · cases b8
                  · simp only [Bool.not_true, Bool.not_false] at n1 n2 n3 n4
                    go_wp2_with (first | (go_at_call 52; (with_reducible refine (H3.out _ ((HX.out.trans hw2).trans hw3)).mono ?_); rintro _ w4 ⟨rfl, hw4⟩; have e19 := (HB.out.ext ((hw2.trans hw3).trans hw4)).cell 19; have e20 := (HB.out.ext ((hw2.trans hw3).trans hw4)).cell 20; have e21 := (HB.out.ext ((hw2.trans hw3).trans hw4)).cell 21; simp only [List.getElem?_cons_succ, List.getElem?_cons_zero] at e19 e20 e21; have f19 := (HC.out.ext ((hw2.trans hw3).trans hw4)).cell 19; have f20 := (HC.out.ext ((hw2.trans hw3).trans hw4)).cell 20; have f21 := (HC.out.ext ((hw2.trans hw3).trans hw4)).cell 21; simp only [List.getElem?_cons_succ, List.getElem?_cons_zero] at f19 f20 f21) | (go_at_call 24; (with_reducible refine (H2.out _ (HX.out.trans hw2)).mono ?_); rintro _ w3 ⟨rfl, hw3⟩; have e18 := (HB.out.ext (hw2.trans hw3)).cell 18; have e19 := (HB.out.ext (hw2.trans hw3)).cell 19; have e20 := (HB.out.ext (hw2.trans hw3)).cell 20; have e21 := (HB.out.ext (hw2.trans hw3)).cell 21; simp only [List.getElem?_cons_succ, List.getElem?_cons_zero] at e18 e19 e20 e21; have f18 := (HC.out.ext (hw2.trans hw3)).cell 18; have f19 := (HC.out.ext (hw2.trans hw3)).cell 19; have f20 := (HC.out.ext (hw2.trans hw3)).cell 20; have f21 := (HC.out.ext (hw2.trans hw3)).cell 21; simp only [List.getElem?_cons_succ, List.getElem?_cons_zero] at f18 f19 f20 f21) | (go_at_call 66; (with_reducible refine (H1.out _ (HX.out)).mono ?_); rintro _ w2 ⟨rfl, hw2⟩; have e6 := (HB.out.ext (hw2)).cell 6; have e7 := (HB.out.ext (hw2)).cell 7; have e8 := (HB.out.ext (hw2)).cell 8; have e9 := (HB.out.ext (hw2)).cell 9; have e10 := (HB.out.ext (hw2)).cell 10; have e11 := (HB.out.ext (hw2)).cell 11; have e12 := (HB.out.ext (hw2)).cell 12; have e13 := (HB.out.ext (hw2)).cell 13; have e14 := (HB.out.ext (hw2)).cell 14; have e15 := (HB.out.ext (hw2)).cell 15; have e16 := (HB.out.ext (hw2)).cell 16; have e17 := (HB.out.ext (hw2)).cell 17; have e18 := (HB.out.ext (hw2)).cell 18; have e19 := (HB.out.ext (hw2)).cell 19; have e20 := (HB.out.ext (hw2)).cell 20; have e21 := (HB.out.ext (hw2)).cell 21; simp only [List.getElem?_cons_succ, List.getElem?_cons_zero] at e6 e7 e8 e9 e10 e11 e12 e13 e14 e15 e16 e17 e18 e19 e20 e21; have f6 := (HC.out.ext (hw2)).cell 6; have f7 := (HC.out.ext (hw2)).cell 7; have f8 := (HC.out.ext (hw2)).cell 8; have f9 := (HC.out.ext (hw2)).cell 9; have f10 := (HC.out.ext (hw2)).cell 10; have f11 := (HC.out.ext (hw2)).cell 11; have f12 := (HC.out.ext (hw2)).cell 12; have f13 := (HC.out.ext (hw2)).cell 13; have f14 := (HC.out.ext (hw2)).cell 14; have f15 := (HC.out.ext (hw2)).cell 15; have f16 := (HC.out.ext (hw2)).cell 16; have f17 := (HC.out.ext (hw2)).cell 17; have f18 := (HC.out.ext (hw2)).cell 18; have f19 := (HC.out.ext (hw2)).cell 19; have f20 := (HC.out.ext (hw2)).cell 20; have f21 := (HC.out.ext (hw2)).cell 21; simp only [List.getElem?_cons_succ, List.getElem?_cons_zero] at f6 f7 f8 f9 f10 f11 f12 f13 f14 f15 f16 f17 f18 f19 f20 f21))
                    go_ret
                    first | exact ⟨ret_bool (by rw [← HR.out]; simp), ((HX.out.trans hw2).trans hw3).trans hw4⟩ | exact ⟨ret_bool (by rw [← HR.out]; simp), (HX.out.trans hw2).trans hw3⟩ | exact ⟨ret_bool (by rw [← HR.out]; simp), HX.out.trans hw2⟩ | exact ⟨ret_bool (by rw [← HR.out]; simp), HX.out⟩
                  · by_cases hn5 : a.ord.n = b.ord.n
                    · have l5 : ((a.ord.n : Int) != (b.ord.n : Int)) = false := by simp [hn5]
                      have HN5 := hid hn5
                      clear hn5
                      cases b4
                      · simp only [Bool.not_true, Bool.not_false] at n1 n2 n3 n4
                        go_wp2_with (first | (go_at_call 52; (with_reducible refine (H3.out _ ((HX.out.trans hw2).trans hw3)).mono ?_); rintro _ w4 ⟨rfl, hw4⟩; have e19 := (HB.out.ext ((hw2.trans hw3).trans hw4)).cell 19; have e20 := (HB.out.ext ((hw2.trans hw3).trans hw4)).cell 20; have e21 := (HB.out.ext ((hw2.trans hw3).trans hw4)).cell 21; simp only [List.getElem?_cons_succ, List.getElem?_cons_zero] at e19 e20 e21; have f19 := (HC.out.ext ((hw2.trans hw3).trans hw4)).cell 19; have f20 := (HC.out.ext ((hw2.trans hw3).trans hw4)).cell 20; have f21 := (HC.out.ext ((hw2.trans hw3).trans hw4)).cell 21; simp only [List.getElem?_cons_succ, List.getElem?_cons_zero] at f19 f20 f21) | (go_at_call 24; (with_reducible refine (H2.out _ (HX.out.trans hw2)).mono ?_); rintro _ w3 ⟨rfl, hw3⟩; have e18 := (HB.out.ext (hw2.trans hw3)).cell 18; have e19 := (HB.out.ext (hw2.trans hw3)).cell 19; have e20 := (HB.out.ext (hw2.trans hw3)).cell 20; have e21 := (HB.out.ext (hw2.trans hw3)).cell 21; simp only [List.getElem?_cons_succ, List.getElem?_cons_zero] at e18 e19 e20 e21; have f18 := (HC.out.ext (hw2.trans hw3)).cell 18; have f19 := (HC.out.ext (hw2.trans hw3)).cell 19; have f20 := (HC.out.ext (hw2.trans hw3)).cell 20; have f21 := (HC.out.ext (hw2.trans hw3)).cell 21; simp only [List.getElem?_cons_succ, List.getElem?_cons_zero] at f18 f19 f20 f21) | (go_at_call 66; (with_reducible refine (H1.out _ (HX.out)).mono ?_); rintro _ w2 ⟨rfl, hw2⟩; have e6 := (HB.out.ext (hw2)).cell 6; have e7 := (HB.out.ext (hw2)).cell 7; have e8 := (HB.out.ext (hw2)).cell 8; have e9 := (HB.out.ext (hw2)).cell 9; have e10 := (HB.out.ext (hw2)).cell 10; have e11 := (HB.out.ext (hw2)).cell 11; have e12 := (HB.out.ext (hw2)).cell 12; have e13 := (HB.out.ext (hw2)).cell 13; have e14 := (HB.out.ext (hw2)).cell 14; have e15 := (HB.out.ext (hw2)).cell 15; have e16 := (HB.out.ext (hw2)).cell 16; have e17 := (HB.out.ext (hw2)).cell 17; have e18 := (HB.out.ext (hw2)).cell 18; have e19 := (HB.out.ext (hw2)).cell 19; have e20 := (HB.out.ext (hw2)).cell 20; have e21 := (HB.out.ext (hw2)).cell 21; simp only [List.getElem?_cons_succ, List.getElem?_cons_zero] at e6 e7 e8 e9 e10 e11 e12 e13 e14 e15 e16 e17 e18 e19 e20 e21; have f6 := (HC.out.ext (hw2)).cell 6; have f7 := (HC.out.ext (hw2)).cell 7; have f8 := (HC.out.ext (hw2)).cell 8; have f9 := (HC.out.ext (hw2)).cell 9; have f10 := (HC.out.ext (hw2)).cell 10; have f11 := (HC.out.ext (hw2)).cell 11; have f12 := (HC.out.ext (hw2)).cell 12; have f13 := (HC.out.ext (hw2)).cell 13; have f14 := (HC.out.ext (hw2)).cell 14; have f15 := (HC.out.ext (hw2)).cell 15; have f16 := (HC.out.ext (hw2)).cell 16; have f17 := (HC.out.ext (hw2)).cell 17; have f18 := (HC.out.ext (hw2)).cell 18; have f19 := (HC.out.ext (hw2)).cell 19; have f20 := (HC.out.ext (hw2)).cell 20; have f21 := (HC.out.ext (hw2)).cell 21; simp only [List.getElem?_cons_succ, List.getElem?_cons_zero] at f6 f7 f8 f9 f10 f11 f12 f13 f14 f15 f16 f17 f18 f19 f20 f21))
                        go_ret
                        first | exact ⟨ret_bool (by rw [← HR.out]; simp), ((HX.out.trans hw2).trans hw3).trans hw4⟩ | exact ⟨ret_bool (by rw [← HR.out]; simp), (HX.out.trans hw2).trans hw3⟩ | exact ⟨ret_bool (by rw [← HR.out]; simp), HX.out.trans hw2⟩ | exact ⟨ret_bool (by rw [← HR.out]; simp), HX.out⟩
                      · cases b3
                        · simp only [Bool.not_true, Bool.not_false] at n1 n2 n3 n4
                          go_wp2_with (first | (go_at_call 52; (with_reducible refine (H3.out _ ((HX.out.trans hw2).trans hw3)).mono ?_); rintro _ w4 ⟨rfl, hw4⟩; have e19 := (HB.out.ext ((hw2.trans hw3).trans hw4)).cell 19; have e20 := (HB.out.ext ((hw2.trans hw3).trans hw4)).cell 20; have e21 := (HB.out.ext ((hw2.trans hw3).trans hw4)).cell 21; simp only [List.getElem?_cons_succ, List.getElem?_cons_zero] at e19 e20 e21; have f19 := (HC.out.ext ((hw2.trans hw3).trans hw4)).cell 19; have f20 := (HC.out.ext ((hw2.trans hw3).trans hw4)).cell 20; have f21 := (HC.out.ext ((hw2.trans hw3).trans hw4)).cell 21; simp only [List.getElem?_cons_succ, List.getElem?_cons_zero] at f19 f20 f21) | (go_at_call 24; (with_reducible refine (H2.out _ (HX.out.trans hw2)).mono ?_); rintro _ w3 ⟨rfl, hw3⟩; have e18 := (HB.out.ext (hw2.trans hw3)).cell 18; have e19 := (HB.out.ext (hw2.trans hw3)).cell 19; have e20 := (HB.out.ext (hw2.trans hw3)).cell 20; have e21 := (HB.out.ext (hw2.trans hw3)).cell 21; simp only [List.getElem?_cons_succ, List.getElem?_cons_zero] at e18 e19 e20 e21; have f18 := (HC.out.ext (hw2.trans hw3)).cell 18; have f19 := (HC.out.ext (hw2.trans hw3)).cell 19; have f20 := (HC.out.ext (hw2.trans hw3)).cell 20; have f21 := (HC.out.ext (hw2.trans hw3)).cell 21; simp only [List.getElem?_cons_succ, List.getElem?_cons_zero] at f18 f19 f20 f21) | (go_at_call 66; (with_reducible refine (H1.out _ (HX.out)).mono ?_); rintro _ w2 ⟨rfl, hw2⟩; have e6 := (HB.out.ext (hw2)).cell 6; have e7 := (HB.out.ext (hw2)).cell 7; have e8 := (HB.out.ext (hw2)).cell 8; have e9 := (HB.out.ext (hw2)).cell 9; have e10 := (HB.out.ext (hw2)).cell 10; have e11 := (HB.out.ext (hw2)).cell 11; have e12 := (HB.out.ext (hw2)).cell 12; have e13 := (HB.out.ext (hw2)).cell 13; have e14 := (HB.out.ext (hw2)).cell 14; have e15 := (HB.out.ext (hw2)).cell 15; have e16 := (HB.out.ext (hw2)).cell 16; have e17 := (HB.out.ext (hw2)).cell 17; have e18 := (HB.out.ext (hw2)).cell 18; have e19 := (HB.out.ext (hw2)).cell 19; have e20 := (HB.out.ext (hw2)).cell 20; have e21 := (HB.out.ext (hw2)).cell 21; simp only [List.getElem?_cons_succ, List.getElem?_cons_zero] at e6 e7 e8 e9 e10 e11 e12 e13 e14 e15 e16 e17 e18 e19 e20 e21; have f6 := (HC.out.ext (hw2)).cell 6; have f7 := (HC.out.ext (hw2)).cell 7; have f8 := (HC.out.ext (hw2)).cell 8; have f9 := (HC.out.ext (hw2)).cell 9; have f10 := (HC.out.ext (hw2)).cell 10; have f11 := (HC.out.ext (hw2)).cell 11; have f12 := (HC.out.ext (hw2)).cell 12; have f13 := (HC.out.ext (hw2)).cell 13; have f14 := (HC.out.ext (hw2)).cell 14; have f15 := (HC.out.ext (hw2)).cell 15; have f16 := (HC.out.ext (hw2)).cell 16; have f17 := (HC.out.ext (hw2)).cell 17; have f18 := (HC.out.ext (hw2)).cell 18; have f19 := (HC.out.ext (hw2)).cell 19; have f20 := (HC.out.ext (hw2)).cell 20; have f21 := (HC.out.ext (hw2)).cell 21; simp only [List.getElem?_cons_succ, List.getElem?_cons_zero] at f6 f7 f8 f9 f10 f11 f12 f13 f14 f15 f16 f17 f18 f19 f20 f21))
                          go_ret
                          first | exact ⟨ret_bool (by rw [← HR.out]; simp), ((HX.out.trans hw2).trans hw3).trans hw4⟩ | exact ⟨ret_bool (by rw [← HR.out]; simp), (HX.out.trans hw2).trans hw3⟩ | exact ⟨ret_bool (by rw [← HR.out]; simp), HX.out.trans hw2⟩ | exact ⟨ret_bool (by rw [← HR.out]; simp), HX.out⟩
                        · simp only [Bool.not_true, Bool.not_false] at n1 n2 n3 n4
                          go_wp2_with (first | (go_at_call 52; (with_reducible refine (H3.out _ ((HX.out.trans hw2).trans hw3)).mono ?_); rintro _ w4 ⟨rfl, hw4⟩; have e19 := (HB.out.ext ((hw2.trans hw3).trans hw4)).cell 19; have e20 := (HB.out.ext ((hw2.trans hw3).trans hw4)).cell 20; have e21 := (HB.out.ext ((hw2.trans hw3).trans hw4)).cell 21; simp only [List.getElem?_cons_succ, List.getElem?_cons_zero] at e19 e20 e21; have f19 := (HC.out.ext ((hw2.trans hw3).trans hw4)).cell 19; have f20 := (HC.out.ext ((hw2.trans hw3).trans hw4)).cell 20; have f21 := (HC.out.ext ((hw2.trans hw3).trans hw4)).cell 21; simp only [List.getElem?_cons_succ, List.getElem?_cons_zero] at f19 f20 f21) | (go_at_call 24; (with_reducible refine (H2.out _ (HX.out.trans hw2)).mono ?_); rintro _ w3 ⟨rfl, hw3⟩; have e18 := (HB.out.ext (hw2.trans hw3)).cell 18; have e19 := (HB.out.ext (hw2.trans hw3)).cell 19; have e20 := (HB.out.ext (hw2.trans hw3)).cell 20; have e21 := (HB.out.ext (hw2.trans hw3)).cell 21; simp only [List.getElem?_cons_succ, List.getElem?_cons_zero] at e18 e19 e20 e21; have f18 := (HC.out.ext (hw2.trans hw3)).cell 18; have f19 := (HC.out.ext (hw2.trans hw3)).cell 19; have f20 := (HC.out.ext (hw2.trans hw3)).cell 20; have f21 := (HC.out.ext (hw2.trans hw3)).cell 21; simp only [List.getElem?_cons_succ, List.getElem?_cons_zero] at f18 f19 f20 f21) | (go_at_call 66; (with_reducible refine (H1.out _ (HX.out)).mono ?_); rintro _ w2 ⟨rfl, hw2⟩; have e6 := (HB.out.ext (hw2)).cell 6; have e7 := (HB.out.ext (hw2)).cell 7; have e8 := (HB.out.ext (hw2)).cell 8; have e9 := (HB.out.ext (hw2)).cell 9; have e10 := (HB.out.ext (hw2)).cell 10; have e11 := (HB.out.ext (hw2)).cell 11; have e12 := (HB.out.ext (hw2)).cell 12; have e13 := (HB.out.ext (hw2)).cell 13; have e14 := (HB.out.ext (hw2)).cell 14; have e15 := (HB.out.ext (hw2)).cell 15; have e16 := (HB.out.ext (hw2)).cell 16; have e17 := (HB.out.ext (hw2)).cell 17; have e18 := (HB.out.ext (hw2)).cell 18; have e19 := (HB.out.ext (hw2)).cell 19; have e20 := (HB.out.ext (hw2)).cell 20; have e21 := (HB.out.ext (hw2)).cell 21; simp only [List.getElem?_cons_succ, List.getElem?_cons_zero] at e6 e7 e8 e9 e10 e11 e12 e13 e14 e15 e16 e17 e18 e19 e20 e21; have f6 := (HC.out.ext (hw2)).cell 6; have f7 := (HC.out.ext (hw2)).cell 7; have f8 := (HC.out.ext (hw2)).cell 8; have f9 := (HC.out.ext (hw2)).cell 9; have f10 := (HC.out.ext (hw2)).cell 10; have f11 := (HC.out.ext (hw2)).cell 11; have f12 := (HC.out.ext (hw2)).cell 12; have f13 := (HC.out.ext (hw2)).cell 13; have f14 := (HC.out.ext (hw2)).cell 14; have f15 := (HC.out.ext (hw2)).cell 15; have f16 := (HC.out.ext (hw2)).cell 16; have f17 := (HC.out.ext (hw2)).cell 17; have f18 := (HC.out.ext (hw2)).cell 18; have f19 := (HC.out.ext (hw2)).cell 19; have f20 := (HC.out.ext (hw2)).cell 20; have f21 := (HC.out.ext (hw2)).cell 21; simp only [List.getElem?_cons_succ, List.getElem?_cons_zero] at f6 f7 f8 f9 f10 f11 f12 f13 f14 f15 f16 f17 f18 f19 f20 f21))
                          have HX4 := hid (((HX.out.trans hw2).trans hw3).trans hw4)
                          replace HB := hid (HB.out.ext ((hw2.trans hw3).trans hw4))
                          replace HC := hid (HC.out.ext ((hw2.trans hw3).trans hw4))
                          clear hw2 hw3 hw4 n1 n2 n3 n4 l1 l2 l3 l4 l5 p0 q0 p1 q1 p2 q2 p3 q3 p4 q4 p5 q5 p6 q6 p7 q7 p8 q8 p9 q9 p10 q10 p11 q11 p12 q12 p13 q13 p14 q14 p15 q15 p16 q16 p17 q17 p18 q18 p19 q19 p20 q20 p21 q21 H1 H2 H3
                          go_loopw [5] (fun iv wr => ∃ (k : Nat), k ≤ a.vals.n ∧ iv = .int .i64 k ∧ STo sameL s.vals t.vals k ∧ Ext w4 wr) (fun i _ => a.vals.n - (intOf i).toNat)
                          case atStart => exact ⟨0, Nat.zero_le _, rfl, STo.zero _ _ _, Ext.refl w4⟩
                          case round =>
                            obtain ⟨k, hkn, rfl, hr, hxr⟩ := hrel
                            have HXr := hid hxr
                            have HRr := hid hr
                            have cb := (HB.out.ext hxr).cell 6
                            have cc := (HC.out.ext hxr).cell 6
                            simp only [List.getElem?_cons_succ, List.getElem?_cons_zero] at cb cc
                            by_cases hlt : k < a.vals.n
                            · obtain ⟨x, hx⟩ := rat_lt HS.out.vals.1 hlt
                              obtain ⟨y, hy⟩ := rat_lt HT.out.vals.1 (show k < b.vals.n by have := HN1.out; omega)
                              have i0 : (0 : Int) ≤ (k : Int) := by omega
                              have i1 : (k : Int) < (a.vals.n : Int) := by omega
                              have i2 : (k : Int) < (b.vals.n : Int) := by have := HN1.out; omega
                              have HE := hid hx
                              have HE2 := hid hy
                              obtain ⟨eb, off, Ai, ni, ci, hA1, q0, hl1, hk1⟩ := HS.out.vals.2.2 k x hx
                              obtain ⟨eb2, off2, Aj, nj, cj, hA2, s0, hl2, hk2⟩ := HT.out.vals.2.2 k y hy
                              rw [hA1] at cb
                              rw [hA2] at cc
                              replace q0 := Later.keep ((HX4.out.trans hxr).keep q0)
                              replace s0 := Later.keep ((HX4.out.trans hxr).keep s0)
                              have cbl := Later.keep cb
                              have ccl := Later.keep cc
                              have bx := HS.out.valn x (List.mem_of_getElem? hx)
                              have bY := HT.out.valn y (List.mem_of_getElem? hy)
                              have H1 : Hid (∀ z : Later wr, Calls Tryz.prog 52 #[.slice Ai ni ci, .slice Aj nj cj] z.now _) := fun z => rsames_any x y Ai Aj ni nj ci cj z.now hl1 hl2 (by omega) (by omega) (hk1.ext ((HX4.out.trans hxr).trans z.ext)) (hk2.ext ((HX4.out.trans hxr).trans z.ext))
                              clear hx hy hxr hr hl1 hl2 hk1 hk2 bx bY
                              obtain ⟨b0, hb0⟩ : ∃ b, (sameL x y) = b := ⟨_, rfl⟩
                              rw [hb0] at H1
                              cases b0
                              · have HF : Hid (sameL x y = false) := by exact hb0
                                have HP : Hid (allS sameL s.vals t.vals = false) := allS_no HE.out HE2.out HF.out
                                go_wp2_with fail
                                refine wp_region_later (by kernel_rfl) (by kernel_rfl) ?_
                                repeat (go_big_quiet_step ((go_at_call 52; with_reducible exact later_of (H1.out _))))
                                refine wpQuiet_nil ?_
                                intro w2 hw2
                                have hx2 := later_out hw2
                                clear hw2
                                go_wp2_with fail
                                go_ret
                                exact ⟨ret_bool (by rw [← HR.out, HP.out]; simp), HX4.out.trans (HXr.out.trans hx2)⟩
                              · have HF : Hid (sameL x y = true) := by exact hb0
                                go_wp2_with fail
                                refine wp_region_later (by kernel_rfl) (by kernel_rfl) ?_
                                repeat (go_big_quiet_step ((go_at_call 52; with_reducible exact later_of (H1.out _))))
                                refine wpQuiet_nil ?_
                                intro w2 hw2
                                have hx2 := later_out hw2
                                clear hw2
                                go_wp2_with fail
                                go_roundw
                                case rel => exact ⟨k + 1, by omega, by go_num, HRr.out.succ HE.out HE2.out HF.out, HXr.out.trans hx2⟩
                                case measure => simp [intOf]; omega
                            · obtain hkk : k = a.vals.n := by omega
                              subst hkk
                              have HPx1 : Hid (allS sameL s.vals t.vals = true) := allS_yes HS.out.vals.1 (HT.out.vals.1.trans HN1.out.symm) HRr.out
                              go_wp2_with fail
                              go_loopw [6] (fun iv wr => ∃ (k : Nat), k ≤ a.sets.n ∧ iv = .int .i64 k ∧ STo Asg.same s.sets t.sets k ∧ Ext w4 wr) (fun i _ => a.sets.n - (intOf i).toNat)
                              case atStart => exact ⟨0, Nat.zero_le _, rfl, STo.zero _ _ _, HXr.out⟩
                              case round =>
                                obtain ⟨k, hkn, rfl, hr, hxr⟩ := hrel
                                have HXr := hid hxr
                                have HRr := hid hr
                                have cb := (HB.out.ext hxr).cell 7
                                have cc := (HC.out.ext hxr).cell 7
                                simp only [List.getElem?_cons_succ, List.getElem?_cons_zero] at cb cc
                                by_cases hlt : k < a.sets.n
                                · obtain ⟨x, hx⟩ := rat_lt HS.out.sets.1 hlt
                                  obtain ⟨y, hy⟩ := rat_lt HT.out.sets.1 (show k < b.sets.n by have := HN2.out; omega)
                                  have i0 : (0 : Int) ≤ (k : Int) := by omega
                                  have i1 : (k : Int) < (a.sets.n : Int) := by omega
                                  have i2 : (k : Int) < (b.sets.n : Int) := by have := HN2.out; omega
                                  have HE := hid hx
                                  have HE2 := hid hy
                                  obtain ⟨eb, off, A1, n1', c1, hA1, q0, q1, q2, q3, q4, q5, q6, q7, q8, q9, hv1⟩ := asg_get HS.out.sets.2.2 hx
                                  obtain ⟨eb2, off2, A2, n2', c2, hA2, s0, s1, s2, s3, s4, s5, s6, s7, s8, s9, hv2⟩ := asg_get HT.out.sets.2.2 hy
                                  rw [hA1] at cb
                                  rw [hA2] at cc
                                  replace q0 := Later.keep ((HX4.out.trans hxr).keep q0)
                                  replace s0 := Later.keep ((HX4.out.trans hxr).keep s0)
                                  replace q1 := Later.keep ((HX4.out.trans hxr).keep q1)
                                  replace s1 := Later.keep ((HX4.out.trans hxr).keep s1)
                                  replace q2 := Later.keep ((HX4.out.trans hxr).keep q2)
                                  replace s2 := Later.keep ((HX4.out.trans hxr).keep s2)
                                  replace q3 := Later.keep ((HX4.out.trans hxr).keep q3)
                                  replace s3 := Later.keep ((HX4.out.trans hxr).keep s3)
                                  replace q4 := Later.keep ((HX4.out.trans hxr).keep q4)
                                  replace s4 := Later.keep ((HX4.out.trans hxr).keep s4)
                                  replace q5 := Later.keep ((HX4.out.trans hxr).keep q5)
                                  replace s5 := Later.keep ((HX4.out.trans hxr).keep s5)
                                  replace q6 := Later.keep ((HX4.out.trans hxr).keep q6)
                                  replace s6 := Later.keep ((HX4.out.trans hxr).keep s6)
                                  replace q7 := Later.keep ((HX4.out.trans hxr).keep q7)
                                  replace s7 := Later.keep ((HX4.out.trans hxr).keep s7)
                                  replace q8 := Later.keep ((HX4.out.trans hxr).keep q8)
                                  replace s8 := Later.keep ((HX4.out.trans hxr).keep s8)
                                  replace q9 := Later.keep ((HX4.out.trans hxr).keep q9)
                                  replace s9 := Later.keep ((HX4.out.trans hxr).keep s9)
                                  have cbl := Later.keep cb
                                  have ccl := Later.keep cc
                                  have H1 : Hid (∀ z : Later wr, Calls Tryz.prog 24 #[x.ex.d.val A1 n1' c1, y.ex.d.val A2 n2' c2] z.now _) := fun z => rsame_any x.ex y.ex A1 A2 n1' n2' c1 c2 z.now (hv1.ext ((HX4.out.trans hxr).trans z.ext)) (hv2.ext ((HX4.out.trans hxr).trans z.ext))
                                  unfold Nd.val at H1
                                  clear hx hy hxr hr hv1 hv2
                                  obtain ⟨b0, hb0⟩ : ∃ b, (x.cl.toList == y.cl.toList) = b := ⟨_, rfl⟩
                                  have nb : (x.cl.toList != y.cl.toList) = !b0 := by rw [bne, hb0]
                                  cases b0
                                  · have HF : Hid (Asg.same x y = false) := by unfold Hid Asg.same; rw [sN_eq x.cl]; simp [← str_eq, hb0]
                                    have HP : Hid (allS Asg.same s.sets t.sets = false) := allS_no HE.out HE2.out HF.out
                                    go_wp2_with fail
                                    refine wp_region_later (by kernel_rfl) (by kernel_rfl) ?_
                                    repeat (go_big_quiet_step ((go_at_call 24; with_reducible exact later_of (H1.out _))))
                                    refine wpQuiet_nil ?_
                                    intro w2 hw2
                                    have hx2 := later_out hw2
                                    clear hw2
                                    go_wp2_with fail
                                    go_ret
                                    exact ⟨ret_bool (by rw [← HR.out, HP.out]; simp), HX4.out.trans (HXr.out.trans hx2)⟩
                                  · obtain ⟨b1, hb1⟩ : ∃ b, (x.ex.same y.ex) = b := ⟨_, rfl⟩
                                    rw [hb1] at H1
                                    cases b1
                                    · have HF : Hid (Asg.same x y = false) := by unfold Hid Asg.same; rw [sN_eq x.cl]; simp [← str_eq, hb0, hb1]
                                      have HP : Hid (allS Asg.same s.sets t.sets = false) := allS_no HE.out HE2.out HF.out
                                      go_wp2_with fail
                                      refine wp_region_later (by kernel_rfl) (by kernel_rfl) ?_
                                      repeat (go_big_quiet_step ((go_at_call 24; with_reducible exact later_of (H1.out _))))
                                      refine wpQuiet_nil ?_
                                      intro w2 hw2
                                      have hx2 := later_out hw2
                                      clear hw2
                                      go_wp2_with fail
                                      go_ret
                                      exact ⟨ret_bool (by rw [← HR.out, HP.out]; simp), HX4.out.trans (HXr.out.trans hx2)⟩
                                    · have HF : Hid (Asg.same x y = true) := by unfold Hid Asg.same; rw [sN_eq x.cl]; simp [← str_eq, hb0, hb1]
                                      go_wp2_with fail
                                      refine wp_region_later (by kernel_rfl) (by kernel_rfl) ?_
                                      repeat (go_big_quiet_step ((go_at_call 24; with_reducible exact later_of (H1.out _))))
                                      refine wpQuiet_nil ?_
                                      intro w2 hw2
                                      have hx2 := later_out hw2
                                      clear hw2
                                      go_wp2_with fail
                                      go_roundw
                                      case rel => exact ⟨k + 1, by omega, by go_num, HRr.out.succ HE.out HE2.out HF.out, HXr.out.trans hx2⟩
                                      case measure => simp [intOf]; omega
                                · obtain hkk : k = a.sets.n := by omega
                                  subst hkk
                                  have HPx2 : Hid (allS Asg.same s.sets t.sets = true) := allS_yes HS.out.sets.1 (HT.out.sets.1.trans HN2.out.symm) HRr.out
                                  go_wp2_with fail
                                  go_loopw [7] (fun iv wr => ∃ (k : Nat), k ≤ a.itms.n ∧ iv = .int .i64 k ∧ STo Itm.same s.itms t.itms k ∧ Ext w4 wr) (fun i _ => a.itms.n - (intOf i).toNat)
                                  case atStart => exact ⟨0, Nat.zero_le _, rfl, STo.zero _ _ _, HXr.out⟩
                                  case round =>
                                    obtain ⟨k, hkn, rfl, hr, hxr⟩ := hrel
                                    have HXr := hid hxr
                                    have HRr := hid hr
                                    have cb := (HB.out.ext hxr).cell 8
                                    have cc := (HC.out.ext hxr).cell 8
                                    simp only [List.getElem?_cons_succ, List.getElem?_cons_zero] at cb cc
                                    by_cases hlt : k < a.itms.n
                                    · obtain ⟨x, hx⟩ := rat_lt HS.out.itms.1 hlt
                                      obtain ⟨y, hy⟩ := rat_lt HT.out.itms.1 (show k < b.itms.n by have := HN3.out; omega)
                                      have i0 : (0 : Int) ≤ (k : Int) := by omega
                                      have i1 : (k : Int) < (a.itms.n : Int) := by omega
                                      have i2 : (k : Int) < (b.itms.n : Int) := by have := HN3.out; omega
                                      have HE := hid hx
                                      have HE2 := hid hy
                                      obtain ⟨eb, off, A1, n1', c1, hA1, q0, q1, q2, q3, q4, q5, q6, q7, q8, hv1⟩ := itm_get HS.out.itms.2.2 hx
                                      obtain ⟨eb2, off2, A2, n2', c2, hA2, s0, s1, s2, s3, s4, s5, s6, s7, s8, hv2⟩ := itm_get HT.out.itms.2.2 hy
                                      rw [hA1] at cb
                                      rw [hA2] at cc
                                      replace q0 := Later.keep ((HX4.out.trans hxr).keep q0)
                                      replace s0 := Later.keep ((HX4.out.trans hxr).keep s0)
                                      replace q1 := Later.keep ((HX4.out.trans hxr).keep q1)
                                      replace s1 := Later.keep ((HX4.out.trans hxr).keep s1)
                                      replace q2 := Later.keep ((HX4.out.trans hxr).keep q2)
                                      replace s2 := Later.keep ((HX4.out.trans hxr).keep s2)
                                      replace q3 := Later.keep ((HX4.out.trans hxr).keep q3)
                                      replace s3 := Later.keep ((HX4.out.trans hxr).keep s3)
                                      replace q4 := Later.keep ((HX4.out.trans hxr).keep q4)
                                      replace s4 := Later.keep ((HX4.out.trans hxr).keep s4)
                                      replace q5 := Later.keep ((HX4.out.trans hxr).keep q5)
                                      replace s5 := Later.keep ((HX4.out.trans hxr).keep s5)
                                      replace q6 := Later.keep ((HX4.out.trans hxr).keep q6)
                                      replace s6 := Later.keep ((HX4.out.trans hxr).keep s6)
                                      replace q7 := Later.keep ((HX4.out.trans hxr).keep q7)
                                      replace s7 := Later.keep ((HX4.out.trans hxr).keep s7)
                                      replace q8 := Later.keep ((HX4.out.trans hxr).keep q8)
                                      replace s8 := Later.keep ((HX4.out.trans hxr).keep s8)
                                      have cbl := Later.keep cb
                                      have ccl := Later.keep cc
                                      have H1 : Hid (∀ z : Later wr, Calls Tryz.prog 24 #[x.ex.d.val A1 n1' c1, y.ex.d.val A2 n2' c2] z.now _) := fun z => rsame_any x.ex y.ex A1 A2 n1' n2' c1 c2 z.now (hv1.ext ((HX4.out.trans hxr).trans z.ext)) (hv2.ext ((HX4.out.trans hxr).trans z.ext))
                                      unfold Nd.val at H1
                                      clear hx hy hxr hr hv1 hv2
                                      obtain ⟨b0, hb0⟩ : ∃ b, (x.ag == y.ag) = b := ⟨_, rfl⟩
                                      have nb : (x.ag != y.ag) = !b0 := by rw [bne, hb0]
                                      cases b0
                                      · have HF : Hid (Itm.same x y = false) := by unfold Hid Itm.same; simp [← str_eq, hb0]
                                        have HP : Hid (allS Itm.same s.itms t.itms = false) := allS_no HE.out HE2.out HF.out
                                        go_wp2_with fail
                                        refine wp_region_later (by kernel_rfl) (by kernel_rfl) ?_
                                        repeat (go_big_quiet_step ((go_at_call 24; with_reducible exact later_of (H1.out _))))
                                        refine wpQuiet_nil ?_
                                        intro w2 hw2
                                        have hx2 := later_out hw2
                                        clear hw2
                                        go_wp2_with fail
                                        go_ret
                                        exact ⟨ret_bool (by rw [← HR.out, HP.out]; simp), HX4.out.trans (HXr.out.trans hx2)⟩
                                      · obtain ⟨b1, hb1⟩ : ∃ b, (x.ex.same y.ex) = b := ⟨_, rfl⟩
                                        rw [hb1] at H1
                                        cases b1
                                        · have HF : Hid (Itm.same x y = false) := by unfold Hid Itm.same; simp [← str_eq, hb0, hb1]
                                          have HP : Hid (allS Itm.same s.itms t.itms = false) := allS_no HE.out HE2.out HF.out
                                          go_wp2_with fail
                                          refine wp_region_later (by kernel_rfl) (by kernel_rfl) ?_
                                          repeat (go_big_quiet_step ((go_at_call 24; with_reducible exact later_of (H1.out _))))
                                          refine wpQuiet_nil ?_
                                          intro w2 hw2
                                          have hx2 := later_out hw2
                                          clear hw2
                                          go_wp2_with fail
                                          go_ret
                                          exact ⟨ret_bool (by rw [← HR.out, HP.out]; simp), HX4.out.trans (HXr.out.trans hx2)⟩
                                        · have HF : Hid (Itm.same x y = true) := by unfold Hid Itm.same; simp [← str_eq, hb0, hb1]
                                          go_wp2_with fail
                                          refine wp_region_later (by kernel_rfl) (by kernel_rfl) ?_
                                          repeat (go_big_quiet_step ((go_at_call 24; with_reducible exact later_of (H1.out _))))
                                          refine wpQuiet_nil ?_
                                          intro w2 hw2
                                          have hx2 := later_out hw2
                                          clear hw2
                                          go_wp2_with fail
                                          go_roundw
                                          case rel => exact ⟨k + 1, by omega, by go_num, HRr.out.succ HE.out HE2.out HF.out, HXr.out.trans hx2⟩
                                          case measure => simp [intOf]; omega
                                    · obtain hkk : k = a.itms.n := by omega
                                      subst hkk
                                      have HPx3 : Hid (allS Itm.same s.itms t.itms = true) := allS_yes HS.out.itms.1 (HT.out.itms.1.trans HN3.out.symm) HRr.out
                                      go_wp2_with fail
                                      go_loopw [8] (fun iv wr => ∃ (k : Nat), k ≤ a.frm.n ∧ iv = .int .i64 k ∧ STo Src.same s.frm t.frm k ∧ Ext w4 wr) (fun i _ => a.frm.n - (intOf i).toNat)
                                      case atStart => exact ⟨0, Nat.zero_le _, rfl, STo.zero _ _ _, HXr.out⟩
                                      case round =>
                                        obtain ⟨k, hkn, rfl, hr, hxr⟩ := hrel
                                        have HXr := hid hxr
                                        have HRr := hid hr
                                        have cb := (HB.out.ext hxr).cell 9
                                        have cc := (HC.out.ext hxr).cell 9
                                        simp only [List.getElem?_cons_succ, List.getElem?_cons_zero] at cb cc
                                        by_cases hlt : k < a.frm.n
                                        · obtain ⟨x, hx⟩ := rat_lt HS.out.frm.1 hlt
                                          obtain ⟨y, hy⟩ := rat_lt HT.out.frm.1 (show k < b.frm.n by have := HN4.out; omega)
                                          have i0 : (0 : Int) ≤ (k : Int) := by omega
                                          have i1 : (k : Int) < (a.frm.n : Int) := by omega
                                          have i2 : (k : Int) < (b.frm.n : Int) := by have := HN4.out; omega
                                          have HE := hid hx
                                          have HE2 := hid hy
                                          obtain ⟨_, eb, off, hA1, q0, q1⟩ := HS.out.frm.2.2 k x hx
                                          obtain ⟨_, eb2, off2, hA2, s0, s1⟩ := HT.out.frm.2.2 k y hy
                                          rw [hA1] at cb
                                          rw [hA2] at cc
                                          replace q0 := Later.keep ((HX4.out.trans hxr).keep q0)
                                          replace s0 := Later.keep ((HX4.out.trans hxr).keep s0)
                                          replace q1 := Later.keep ((HX4.out.trans hxr).keep q1)
                                          replace s1 := Later.keep ((HX4.out.trans hxr).keep s1)
                                          have cbl := Later.keep cb
                                          have ccl := Later.keep cc
                                          clear hx hy hxr hr
                                          obtain ⟨x0, x1⟩ := x
                                          obtain ⟨y0, y1⟩ := y
                                          simp only at *
                                          obtain ⟨b0, hb0⟩ : ∃ b, (x0.toList == y0.toList) = b := ⟨_, rfl⟩
                                          cases b0
                                          · have HF : Hid (Src.same ⟨x0, x1⟩ ⟨y0, y1⟩ = false) := by unfold Hid Src.same sN; simp [← str_eq, hb0]
                                            have HP : Hid (allS Src.same s.frm t.frm = false) := allS_no HE.out HE2.out HF.out
                                            go_wp2_with fail
                                            refine wp_region_later (by kernel_rfl) (by kernel_rfl) ?_
                                            repeat (go_big_quiet_step (fail))
                                            refine wpQuiet_nil ?_
                                            intro w2 hw2
                                            have hx2 := later_out hw2
                                            clear hw2
                                            go_wp2_with fail
                                            go_ret
                                            exact ⟨ret_bool (by rw [← HR.out, HP.out]; simp), HX4.out.trans (HXr.out.trans hx2)⟩
                                          · obtain ⟨b1, hb1⟩ : ∃ b, (x1.toList == y1.toList) = b := ⟨_, rfl⟩
                                            cases b1
                                            · have HF : Hid (Src.same ⟨x0, x1⟩ ⟨y0, y1⟩ = false) := by unfold Hid Src.same sN; simp [← str_eq, hb0, hb1]
                                              have HP : Hid (allS Src.same s.frm t.frm = false) := allS_no HE.out HE2.out HF.out
                                              go_wp2_with fail
                                              refine wp_region_later (by kernel_rfl) (by kernel_rfl) ?_
                                              repeat (go_big_quiet_step (fail))
                                              refine wpQuiet_nil ?_
                                              intro w2 hw2
                                              have hx2 := later_out hw2
                                              clear hw2
                                              go_wp2_with fail
                                              go_ret
                                              exact ⟨ret_bool (by rw [← HR.out, HP.out]; simp), HX4.out.trans (HXr.out.trans hx2)⟩
                                            · have HF : Hid (Src.same ⟨x0, x1⟩ ⟨y0, y1⟩ = true) := by unfold Hid Src.same sN; simp [← str_eq, hb0, hb1]
                                              go_wp2_with fail
                                              refine wp_region_later (by kernel_rfl) (by kernel_rfl) ?_
                                              repeat (go_big_quiet_step (fail))
                                              refine wpQuiet_nil ?_
                                              intro w2 hw2
                                              have hx2 := later_out hw2
                                              clear hw2
                                              go_wp2_with fail
                                              go_roundw
                                              case rel => exact ⟨k + 1, by omega, by go_num, HRr.out.succ HE.out HE2.out HF.out, HXr.out.trans hx2⟩
                                              case measure => simp [intOf]; omega
                                        · obtain hkk : k = a.frm.n := by omega
                                          subst hkk
                                          have HPx4 : Hid (allS Src.same s.frm t.frm = true) := allS_yes HS.out.frm.1 (HT.out.frm.1.trans HN4.out.symm) HRr.out
                                          go_wp2_with fail
                                          go_loopw [9] (fun iv wr => ∃ (k : Nat), k ≤ a.ord.n ∧ iv = .int .i64 k ∧ STo Ord'.same s.ord t.ord k ∧ Ext w4 wr) (fun i _ => a.ord.n - (intOf i).toNat)
                                          case atStart => exact ⟨0, Nat.zero_le _, rfl, STo.zero _ _ _, HXr.out⟩
                                          case round =>
                                            obtain ⟨k, hkn, rfl, hr, hxr⟩ := hrel
                                            have HXr := hid hxr
                                            have HRr := hid hr
                                            have cb := (HB.out.ext hxr).cell 19
                                            have cc := (HC.out.ext hxr).cell 19
                                            simp only [List.getElem?_cons_succ, List.getElem?_cons_zero] at cb cc
                                            by_cases hlt : k < a.ord.n
                                            · obtain ⟨x, hx⟩ := rat_lt HS.out.ord.1 hlt
                                              obtain ⟨y, hy⟩ := rat_lt HT.out.ord.1 (show k < b.ord.n by have := HN5.out; omega)
                                              have i0 : (0 : Int) ≤ (k : Int) := by omega
                                              have i1 : (k : Int) < (a.ord.n : Int) := by omega
                                              have i2 : (k : Int) < (b.ord.n : Int) := by have := HN5.out; omega
                                              have HE := hid hx
                                              have HE2 := hid hy
                                              obtain ⟨_, eb, off, hA1, q0, q1⟩ := HS.out.ord.2.2 k x hx
                                              obtain ⟨_, eb2, off2, hA2, s0, s1⟩ := HT.out.ord.2.2 k y hy
                                              rw [hA1] at cb
                                              rw [hA2] at cc
                                              replace q0 := Later.keep ((HX4.out.trans hxr).keep q0)
                                              replace s0 := Later.keep ((HX4.out.trans hxr).keep s0)
                                              replace q1 := Later.keep ((HX4.out.trans hxr).keep q1)
                                              replace s1 := Later.keep ((HX4.out.trans hxr).keep s1)
                                              have cbl := Later.keep cb
                                              have ccl := Later.keep cc
                                              clear hx hy hxr hr
                                              obtain ⟨x0, x1⟩ := x
                                              obtain ⟨y0, y1⟩ := y
                                              simp only at *
                                              obtain ⟨b0, hb0⟩ : ∃ b, (x0 == y0) = b := ⟨_, rfl⟩
                                              cases b0
                                              · have HF : Hid (Ord'.same ⟨x0, x1⟩ ⟨y0, y1⟩ = false) := by unfold Hid Ord'.same; simp [← str_eq, hb0]
                                                have HP : Hid (allS Ord'.same s.ord t.ord = false) := allS_no HE.out HE2.out HF.out
                                                go_wp2_with fail
                                                refine wp_region_later (by kernel_rfl) (by kernel_rfl) ?_
                                                repeat (go_big_quiet_step (fail))
                                                refine wpQuiet_nil ?_
                                                intro w2 hw2
                                                have hx2 := later_out hw2
                                                clear hw2
                                                go_wp2_with fail
                                                go_ret
                                                exact ⟨ret_bool (by rw [← HR.out, HP.out]; simp), HX4.out.trans (HXr.out.trans hx2)⟩
                                              · obtain ⟨b1, hb1⟩ : ∃ b, (x1 == y1) = b := ⟨_, rfl⟩
                                                cases b1
                                                · have HF : Hid (Ord'.same ⟨x0, x1⟩ ⟨y0, y1⟩ = false) := by unfold Hid Ord'.same; simp [← str_eq, hb0, hb1]
                                                  have HP : Hid (allS Ord'.same s.ord t.ord = false) := allS_no HE.out HE2.out HF.out
                                                  go_wp2_with fail
                                                  refine wp_region_later (by kernel_rfl) (by kernel_rfl) ?_
                                                  repeat (go_big_quiet_step (fail))
                                                  refine wpQuiet_nil ?_
                                                  intro w2 hw2
                                                  have hx2 := later_out hw2
                                                  clear hw2
                                                  go_wp2_with fail
                                                  go_ret
                                                  exact ⟨ret_bool (by rw [← HR.out, HP.out]; simp), HX4.out.trans (HXr.out.trans hx2)⟩
                                                · have HF : Hid (Ord'.same ⟨x0, x1⟩ ⟨y0, y1⟩ = true) := by unfold Hid Ord'.same; simp [← str_eq, hb0, hb1]
                                                  go_wp2_with fail
                                                  refine wp_region_later (by kernel_rfl) (by kernel_rfl) ?_
                                                  repeat (go_big_quiet_step (fail))
                                                  refine wpQuiet_nil ?_
                                                  intro w2 hw2
                                                  have hx2 := later_out hw2
                                                  clear hw2
                                                  go_wp2_with fail
                                                  go_roundw
                                                  case rel => exact ⟨k + 1, by omega, by go_num, HRr.out.succ HE.out HE2.out HF.out, HXr.out.trans hx2⟩
                                                  case measure => simp [intOf]; omega
                                            · obtain hkk : k = a.ord.n := by omega
                                              subst hkk
                                              have HPx5 : Hid (allS Ord'.same s.ord t.ord = true) := allS_yes HS.out.ord.1 (HT.out.ord.1.trans HN5.out.symm) HRr.out
                                              go_wp2_with fail
                                              go_ret
                                              exact ⟨ret_bool (by rw [← HR.out, HPx1.out, HPx2.out, HPx3.out, HPx4.out, HPx5.out]; rfl), HX4.out.trans HXr.out⟩
                    · have l5 : ((a.ord.n : Int) != (b.ord.n : Int)) = true := by simp; omega
                      have HP : Hid (allS Ord'.same s.ord t.ord = false) := allS_len (by rw [HS.out.ord.1, HT.out.ord.1]; exact hn5)
                      simp only [Bool.not_true, Bool.not_false] at n1 n2 n3 n4
                      go_wp2_with (first | (go_at_call 52; (with_reducible refine (H3.out _ ((HX.out.trans hw2).trans hw3)).mono ?_); rintro _ w4 ⟨rfl, hw4⟩; have e19 := (HB.out.ext ((hw2.trans hw3).trans hw4)).cell 19; have e20 := (HB.out.ext ((hw2.trans hw3).trans hw4)).cell 20; have e21 := (HB.out.ext ((hw2.trans hw3).trans hw4)).cell 21; simp only [List.getElem?_cons_succ, List.getElem?_cons_zero] at e19 e20 e21; have f19 := (HC.out.ext ((hw2.trans hw3).trans hw4)).cell 19; have f20 := (HC.out.ext ((hw2.trans hw3).trans hw4)).cell 20; have f21 := (HC.out.ext ((hw2.trans hw3).trans hw4)).cell 21; simp only [List.getElem?_cons_succ, List.getElem?_cons_zero] at f19 f20 f21) | (go_at_call 24; (with_reducible refine (H2.out _ (HX.out.trans hw2)).mono ?_); rintro _ w3 ⟨rfl, hw3⟩; have e18 := (HB.out.ext (hw2.trans hw3)).cell 18; have e19 := (HB.out.ext (hw2.trans hw3)).cell 19; have e20 := (HB.out.ext (hw2.trans hw3)).cell 20; have e21 := (HB.out.ext (hw2.trans hw3)).cell 21; simp only [List.getElem?_cons_succ, List.getElem?_cons_zero] at e18 e19 e20 e21; have f18 := (HC.out.ext (hw2.trans hw3)).cell 18; have f19 := (HC.out.ext (hw2.trans hw3)).cell 19; have f20 := (HC.out.ext (hw2.trans hw3)).cell 20; have f21 := (HC.out.ext (hw2.trans hw3)).cell 21; simp only [List.getElem?_cons_succ, List.getElem?_cons_zero] at f18 f19 f20 f21) | (go_at_call 66; (with_reducible refine (H1.out _ (HX.out)).mono ?_); rintro _ w2 ⟨rfl, hw2⟩; have e6 := (HB.out.ext (hw2)).cell 6; have e7 := (HB.out.ext (hw2)).cell 7; have e8 := (HB.out.ext (hw2)).cell 8; have e9 := (HB.out.ext (hw2)).cell 9; have e10 := (HB.out.ext (hw2)).cell 10; have e11 := (HB.out.ext (hw2)).cell 11; have e12 := (HB.out.ext (hw2)).cell 12; have e13 := (HB.out.ext (hw2)).cell 13; have e14 := (HB.out.ext (hw2)).cell 14; have e15 := (HB.out.ext (hw2)).cell 15; have e16 := (HB.out.ext (hw2)).cell 16; have e17 := (HB.out.ext (hw2)).cell 17; have e18 := (HB.out.ext (hw2)).cell 18; have e19 := (HB.out.ext (hw2)).cell 19; have e20 := (HB.out.ext (hw2)).cell 20; have e21 := (HB.out.ext (hw2)).cell 21; simp only [List.getElem?_cons_succ, List.getElem?_cons_zero] at e6 e7 e8 e9 e10 e11 e12 e13 e14 e15 e16 e17 e18 e19 e20 e21; have f6 := (HC.out.ext (hw2)).cell 6; have f7 := (HC.out.ext (hw2)).cell 7; have f8 := (HC.out.ext (hw2)).cell 8; have f9 := (HC.out.ext (hw2)).cell 9; have f10 := (HC.out.ext (hw2)).cell 10; have f11 := (HC.out.ext (hw2)).cell 11; have f12 := (HC.out.ext (hw2)).cell 12; have f13 := (HC.out.ext (hw2)).cell 13; have f14 := (HC.out.ext (hw2)).cell 14; have f15 := (HC.out.ext (hw2)).cell 15; have f16 := (HC.out.ext (hw2)).cell 16; have f17 := (HC.out.ext (hw2)).cell 17; have f18 := (HC.out.ext (hw2)).cell 18; have f19 := (HC.out.ext (hw2)).cell 19; have f20 := (HC.out.ext (hw2)).cell 20; have f21 := (HC.out.ext (hw2)).cell 21; simp only [List.getElem?_cons_succ, List.getElem?_cons_zero] at f6 f7 f8 f9 f10 f11 f12 f13 f14 f15 f16 f17 f18 f19 f20 f21))
                      go_ret
                      first | exact ⟨ret_bool (by rw [← HR.out, HP.out]; simp), ((HX.out.trans hw2).trans hw3).trans hw4⟩ | exact ⟨ret_bool (by rw [← HR.out, HP.out]; simp), (HX.out.trans hw2).trans hw3⟩ | exact ⟨ret_bool (by rw [← HR.out, HP.out]; simp), HX.out.trans hw2⟩ | exact ⟨ret_bool (by rw [← HR.out, HP.out]; simp), HX.out⟩
              · have l4 : ((a.frm.n : Int) != (b.frm.n : Int)) = true := by simp; omega
                have HP : Hid (allS Src.same s.frm t.frm = false) := allS_len (by rw [HS.out.frm.1, HT.out.frm.1]; exact hn4)
                simp only [Bool.not_true, Bool.not_false] at n1 n2 n3 n4
                go_wp2_with (first | (go_at_call 52; (with_reducible refine (H3.out _ ((HX.out.trans hw2).trans hw3)).mono ?_); rintro _ w4 ⟨rfl, hw4⟩; have e19 := (HB.out.ext ((hw2.trans hw3).trans hw4)).cell 19; have e20 := (HB.out.ext ((hw2.trans hw3).trans hw4)).cell 20; have e21 := (HB.out.ext ((hw2.trans hw3).trans hw4)).cell 21; simp only [List.getElem?_cons_succ, List.getElem?_cons_zero] at e19 e20 e21; have f19 := (HC.out.ext ((hw2.trans hw3).trans hw4)).cell 19; have f20 := (HC.out.ext ((hw2.trans hw3).trans hw4)).cell 20; have f21 := (HC.out.ext ((hw2.trans hw3).trans hw4)).cell 21; simp only [List.getElem?_cons_succ, List.getElem?_cons_zero] at f19 f20 f21) | (go_at_call 24; (with_reducible refine (H2.out _ (HX.out.trans hw2)).mono ?_); rintro _ w3 ⟨rfl, hw3⟩; have e18 := (HB.out.ext (hw2.trans hw3)).cell 18; have e19 := (HB.out.ext (hw2.trans hw3)).cell 19; have e20 := (HB.out.ext (hw2.trans hw3)).cell 20; have e21 := (HB.out.ext (hw2.trans hw3)).cell 21; simp only [List.getElem?_cons_succ, List.getElem?_cons_zero] at e18 e19 e20 e21; have f18 := (HC.out.ext (hw2.trans hw3)).cell 18; have f19 := (HC.out.ext (hw2.trans hw3)).cell 19; have f20 := (HC.out.ext (hw2.trans hw3)).cell 20; have f21 := (HC.out.ext (hw2.trans hw3)).cell 21; simp only [List.getElem?_cons_succ, List.getElem?_cons_zero] at f18 f19 f20 f21) | (go_at_call 66; (with_reducible refine (H1.out _ (HX.out)).mono ?_); rintro _ w2 ⟨rfl, hw2⟩; have e6 := (HB.out.ext (hw2)).cell 6; have e7 := (HB.out.ext (hw2)).cell 7; have e8 := (HB.out.ext (hw2)).cell 8; have e9 := (HB.out.ext (hw2)).cell 9; have e10 := (HB.out.ext (hw2)).cell 10; have e11 := (HB.out.ext (hw2)).cell 11; have e12 := (HB.out.ext (hw2)).cell 12; have e13 := (HB.out.ext (hw2)).cell 13; have e14 := (HB.out.ext (hw2)).cell 14; have e15 := (HB.out.ext (hw2)).cell 15; have e16 := (HB.out.ext (hw2)).cell 16; have e17 := (HB.out.ext (hw2)).cell 17; have e18 := (HB.out.ext (hw2)).cell 18; have e19 := (HB.out.ext (hw2)).cell 19; have e20 := (HB.out.ext (hw2)).cell 20; have e21 := (HB.out.ext (hw2)).cell 21; simp only [List.getElem?_cons_succ, List.getElem?_cons_zero] at e6 e7 e8 e9 e10 e11 e12 e13 e14 e15 e16 e17 e18 e19 e20 e21; have f6 := (HC.out.ext (hw2)).cell 6; have f7 := (HC.out.ext (hw2)).cell 7; have f8 := (HC.out.ext (hw2)).cell 8; have f9 := (HC.out.ext (hw2)).cell 9; have f10 := (HC.out.ext (hw2)).cell 10; have f11 := (HC.out.ext (hw2)).cell 11; have f12 := (HC.out.ext (hw2)).cell 12; have f13 := (HC.out.ext (hw2)).cell 13; have f14 := (HC.out.ext (hw2)).cell 14; have f15 := (HC.out.ext (hw2)).cell 15; have f16 := (HC.out.ext (hw2)).cell 16; have f17 := (HC.out.ext (hw2)).cell 17; have f18 := (HC.out.ext (hw2)).cell 18; have f19 := (HC.out.ext (hw2)).cell 19; have f20 := (HC.out.ext (hw2)).cell 20; have f21 := (HC.out.ext (hw2)).cell 21; simp only [List.getElem?_cons_succ, List.getElem?_cons_zero] at f6 f7 f8 f9 f10 f11 f12 f13 f14 f15 f16 f17 f18 f19 f20 f21))
                go_ret
                first | exact ⟨ret_bool (by rw [← HR.out, HP.out]; simp), ((HX.out.trans hw2).trans hw3).trans hw4⟩ | exact ⟨ret_bool (by rw [← HR.out, HP.out]; simp), (HX.out.trans hw2).trans hw3⟩ | exact ⟨ret_bool (by rw [← HR.out, HP.out]; simp), HX.out.trans hw2⟩ | exact ⟨ret_bool (by rw [← HR.out, HP.out]; simp), HX.out⟩
            · have l3 : ((a.itms.n : Int) != (b.itms.n : Int)) = true := by simp; omega
              have HP : Hid (allS Itm.same s.itms t.itms = false) := allS_len (by rw [HS.out.itms.1, HT.out.itms.1]; exact hn3)
              simp only [Bool.not_true, Bool.not_false] at n1 n2 n3 n4
              go_wp2_with (first | (go_at_call 52; (with_reducible refine (H3.out _ ((HX.out.trans hw2).trans hw3)).mono ?_); rintro _ w4 ⟨rfl, hw4⟩; have e19 := (HB.out.ext ((hw2.trans hw3).trans hw4)).cell 19; have e20 := (HB.out.ext ((hw2.trans hw3).trans hw4)).cell 20; have e21 := (HB.out.ext ((hw2.trans hw3).trans hw4)).cell 21; simp only [List.getElem?_cons_succ, List.getElem?_cons_zero] at e19 e20 e21; have f19 := (HC.out.ext ((hw2.trans hw3).trans hw4)).cell 19; have f20 := (HC.out.ext ((hw2.trans hw3).trans hw4)).cell 20; have f21 := (HC.out.ext ((hw2.trans hw3).trans hw4)).cell 21; simp only [List.getElem?_cons_succ, List.getElem?_cons_zero] at f19 f20 f21) | (go_at_call 24; (with_reducible refine (H2.out _ (HX.out.trans hw2)).mono ?_); rintro _ w3 ⟨rfl, hw3⟩; have e18 := (HB.out.ext (hw2.trans hw3)).cell 18; have e19 := (HB.out.ext (hw2.trans hw3)).cell 19; have e20 := (HB.out.ext (hw2.trans hw3)).cell 20; have e21 := (HB.out.ext (hw2.trans hw3)).cell 21; simp only [List.getElem?_cons_succ, List.getElem?_cons_zero] at e18 e19 e20 e21; have f18 := (HC.out.ext (hw2.trans hw3)).cell 18; have f19 := (HC.out.ext (hw2.trans hw3)).cell 19; have f20 := (HC.out.ext (hw2.trans hw3)).cell 20; have f21 := (HC.out.ext (hw2.trans hw3)).cell 21; simp only [List.getElem?_cons_succ, List.getElem?_cons_zero] at f18 f19 f20 f21) | (go_at_call 66; (with_reducible refine (H1.out _ (HX.out)).mono ?_); rintro _ w2 ⟨rfl, hw2⟩; have e6 := (HB.out.ext (hw2)).cell 6; have e7 := (HB.out.ext (hw2)).cell 7; have e8 := (HB.out.ext (hw2)).cell 8; have e9 := (HB.out.ext (hw2)).cell 9; have e10 := (HB.out.ext (hw2)).cell 10; have e11 := (HB.out.ext (hw2)).cell 11; have e12 := (HB.out.ext (hw2)).cell 12; have e13 := (HB.out.ext (hw2)).cell 13; have e14 := (HB.out.ext (hw2)).cell 14; have e15 := (HB.out.ext (hw2)).cell 15; have e16 := (HB.out.ext (hw2)).cell 16; have e17 := (HB.out.ext (hw2)).cell 17; have e18 := (HB.out.ext (hw2)).cell 18; have e19 := (HB.out.ext (hw2)).cell 19; have e20 := (HB.out.ext (hw2)).cell 20; have e21 := (HB.out.ext (hw2)).cell 21; simp only [List.getElem?_cons_succ, List.getElem?_cons_zero] at e6 e7 e8 e9 e10 e11 e12 e13 e14 e15 e16 e17 e18 e19 e20 e21; have f6 := (HC.out.ext (hw2)).cell 6; have f7 := (HC.out.ext (hw2)).cell 7; have f8 := (HC.out.ext (hw2)).cell 8; have f9 := (HC.out.ext (hw2)).cell 9; have f10 := (HC.out.ext (hw2)).cell 10; have f11 := (HC.out.ext (hw2)).cell 11; have f12 := (HC.out.ext (hw2)).cell 12; have f13 := (HC.out.ext (hw2)).cell 13; have f14 := (HC.out.ext (hw2)).cell 14; have f15 := (HC.out.ext (hw2)).cell 15; have f16 := (HC.out.ext (hw2)).cell 16; have f17 := (HC.out.ext (hw2)).cell 17; have f18 := (HC.out.ext (hw2)).cell 18; have f19 := (HC.out.ext (hw2)).cell 19; have f20 := (HC.out.ext (hw2)).cell 20; have f21 := (HC.out.ext (hw2)).cell 21; simp only [List.getElem?_cons_succ, List.getElem?_cons_zero] at f6 f7 f8 f9 f10 f11 f12 f13 f14 f15 f16 f17 f18 f19 f20 f21))
              go_ret
              first | exact ⟨ret_bool (by rw [← HR.out, HP.out]; simp), ((HX.out.trans hw2).trans hw3).trans hw4⟩ | exact ⟨ret_bool (by rw [← HR.out, HP.out]; simp), (HX.out.trans hw2).trans hw3⟩ | exact ⟨ret_bool (by rw [← HR.out, HP.out]; simp), HX.out.trans hw2⟩ | exact ⟨ret_bool (by rw [← HR.out, HP.out]; simp), HX.out⟩
          · have l2 : ((a.sets.n : Int) != (b.sets.n : Int)) = true := by simp; omega
            have HP : Hid (allS Asg.same s.sets t.sets = false) := allS_len (by rw [HS.out.sets.1, HT.out.sets.1]; exact hn2)
            simp only [Bool.not_true, Bool.not_false] at n1 n2 n3 n4
            go_wp2_with (first | (go_at_call 52; (with_reducible refine (H3.out _ ((HX.out.trans hw2).trans hw3)).mono ?_); rintro _ w4 ⟨rfl, hw4⟩; have e19 := (HB.out.ext ((hw2.trans hw3).trans hw4)).cell 19; have e20 := (HB.out.ext ((hw2.trans hw3).trans hw4)).cell 20; have e21 := (HB.out.ext ((hw2.trans hw3).trans hw4)).cell 21; simp only [List.getElem?_cons_succ, List.getElem?_cons_zero] at e19 e20 e21; have f19 := (HC.out.ext ((hw2.trans hw3).trans hw4)).cell 19; have f20 := (HC.out.ext ((hw2.trans hw3).trans hw4)).cell 20; have f21 := (HC.out.ext ((hw2.trans hw3).trans hw4)).cell 21; simp only [List.getElem?_cons_succ, List.getElem?_cons_zero] at f19 f20 f21) | (go_at_call 24; (with_reducible refine (H2.out _ (HX.out.trans hw2)).mono ?_); rintro _ w3 ⟨rfl, hw3⟩; have e18 := (HB.out.ext (hw2.trans hw3)).cell 18; have e19 := (HB.out.ext (hw2.trans hw3)).cell 19; have e20 := (HB.out.ext (hw2.trans hw3)).cell 20; have e21 := (HB.out.ext (hw2.trans hw3)).cell 21; simp only [List.getElem?_cons_succ, List.getElem?_cons_zero] at e18 e19 e20 e21; have f18 := (HC.out.ext (hw2.trans hw3)).cell 18; have f19 := (HC.out.ext (hw2.trans hw3)).cell 19; have f20 := (HC.out.ext (hw2.trans hw3)).cell 20; have f21 := (HC.out.ext (hw2.trans hw3)).cell 21; simp only [List.getElem?_cons_succ, List.getElem?_cons_zero] at f18 f19 f20 f21) | (go_at_call 66; (with_reducible refine (H1.out _ (HX.out)).mono ?_); rintro _ w2 ⟨rfl, hw2⟩; have e6 := (HB.out.ext (hw2)).cell 6; have e7 := (HB.out.ext (hw2)).cell 7; have e8 := (HB.out.ext (hw2)).cell 8; have e9 := (HB.out.ext (hw2)).cell 9; have e10 := (HB.out.ext (hw2)).cell 10; have e11 := (HB.out.ext (hw2)).cell 11; have e12 := (HB.out.ext (hw2)).cell 12; have e13 := (HB.out.ext (hw2)).cell 13; have e14 := (HB.out.ext (hw2)).cell 14; have e15 := (HB.out.ext (hw2)).cell 15; have e16 := (HB.out.ext (hw2)).cell 16; have e17 := (HB.out.ext (hw2)).cell 17; have e18 := (HB.out.ext (hw2)).cell 18; have e19 := (HB.out.ext (hw2)).cell 19; have e20 := (HB.out.ext (hw2)).cell 20; have e21 := (HB.out.ext (hw2)).cell 21; simp only [List.getElem?_cons_succ, List.getElem?_cons_zero] at e6 e7 e8 e9 e10 e11 e12 e13 e14 e15 e16 e17 e18 e19 e20 e21; have f6 := (HC.out.ext (hw2)).cell 6; have f7 := (HC.out.ext (hw2)).cell 7; have f8 := (HC.out.ext (hw2)).cell 8; have f9 := (HC.out.ext (hw2)).cell 9; have f10 := (HC.out.ext (hw2)).cell 10; have f11 := (HC.out.ext (hw2)).cell 11; have f12 := (HC.out.ext (hw2)).cell 12; have f13 := (HC.out.ext (hw2)).cell 13; have f14 := (HC.out.ext (hw2)).cell 14; have f15 := (HC.out.ext (hw2)).cell 15; have f16 := (HC.out.ext (hw2)).cell 16; have f17 := (HC.out.ext (hw2)).cell 17; have f18 := (HC.out.ext (hw2)).cell 18; have f19 := (HC.out.ext (hw2)).cell 19; have f20 := (HC.out.ext (hw2)).cell 20; have f21 := (HC.out.ext (hw2)).cell 21; simp only [List.getElem?_cons_succ, List.getElem?_cons_zero] at f6 f7 f8 f9 f10 f11 f12 f13 f14 f15 f16 f17 f18 f19 f20 f21))
            go_ret
            first | exact ⟨ret_bool (by rw [← HR.out, HP.out]; simp), ((HX.out.trans hw2).trans hw3).trans hw4⟩ | exact ⟨ret_bool (by rw [← HR.out, HP.out]; simp), (HX.out.trans hw2).trans hw3⟩ | exact ⟨ret_bool (by rw [← HR.out, HP.out]; simp), HX.out.trans hw2⟩ | exact ⟨ret_bool (by rw [← HR.out, HP.out]; simp), HX.out⟩
        · have l1 : ((a.vals.n : Int) != (b.vals.n : Int)) = true := by simp; omega
          have HP : Hid (allS sameL s.vals t.vals = false) := allS_len (by rw [HS.out.vals.1, HT.out.vals.1]; exact hn1)
          simp only [Bool.not_true, Bool.not_false] at n1 n2 n3 n4
          go_wp2_with (first | (go_at_call 52; (with_reducible refine (H3.out _ ((HX.out.trans hw2).trans hw3)).mono ?_); rintro _ w4 ⟨rfl, hw4⟩; have e19 := (HB.out.ext ((hw2.trans hw3).trans hw4)).cell 19; have e20 := (HB.out.ext ((hw2.trans hw3).trans hw4)).cell 20; have e21 := (HB.out.ext ((hw2.trans hw3).trans hw4)).cell 21; simp only [List.getElem?_cons_succ, List.getElem?_cons_zero] at e19 e20 e21; have f19 := (HC.out.ext ((hw2.trans hw3).trans hw4)).cell 19; have f20 := (HC.out.ext ((hw2.trans hw3).trans hw4)).cell 20; have f21 := (HC.out.ext ((hw2.trans hw3).trans hw4)).cell 21; simp only [List.getElem?_cons_succ, List.getElem?_cons_zero] at f19 f20 f21) | (go_at_call 24; (with_reducible refine (H2.out _ (HX.out.trans hw2)).mono ?_); rintro _ w3 ⟨rfl, hw3⟩; have e18 := (HB.out.ext (hw2.trans hw3)).cell 18; have e19 := (HB.out.ext (hw2.trans hw3)).cell 19; have e20 := (HB.out.ext (hw2.trans hw3)).cell 20; have e21 := (HB.out.ext (hw2.trans hw3)).cell 21; simp only [List.getElem?_cons_succ, List.getElem?_cons_zero] at e18 e19 e20 e21; have f18 := (HC.out.ext (hw2.trans hw3)).cell 18; have f19 := (HC.out.ext (hw2.trans hw3)).cell 19; have f20 := (HC.out.ext (hw2.trans hw3)).cell 20; have f21 := (HC.out.ext (hw2.trans hw3)).cell 21; simp only [List.getElem?_cons_succ, List.getElem?_cons_zero] at f18 f19 f20 f21) | (go_at_call 66; (with_reducible refine (H1.out _ (HX.out)).mono ?_); rintro _ w2 ⟨rfl, hw2⟩; have e6 := (HB.out.ext (hw2)).cell 6; have e7 := (HB.out.ext (hw2)).cell 7; have e8 := (HB.out.ext (hw2)).cell 8; have e9 := (HB.out.ext (hw2)).cell 9; have e10 := (HB.out.ext (hw2)).cell 10; have e11 := (HB.out.ext (hw2)).cell 11; have e12 := (HB.out.ext (hw2)).cell 12; have e13 := (HB.out.ext (hw2)).cell 13; have e14 := (HB.out.ext (hw2)).cell 14; have e15 := (HB.out.ext (hw2)).cell 15; have e16 := (HB.out.ext (hw2)).cell 16; have e17 := (HB.out.ext (hw2)).cell 17; have e18 := (HB.out.ext (hw2)).cell 18; have e19 := (HB.out.ext (hw2)).cell 19; have e20 := (HB.out.ext (hw2)).cell 20; have e21 := (HB.out.ext (hw2)).cell 21; simp only [List.getElem?_cons_succ, List.getElem?_cons_zero] at e6 e7 e8 e9 e10 e11 e12 e13 e14 e15 e16 e17 e18 e19 e20 e21; have f6 := (HC.out.ext (hw2)).cell 6; have f7 := (HC.out.ext (hw2)).cell 7; have f8 := (HC.out.ext (hw2)).cell 8; have f9 := (HC.out.ext (hw2)).cell 9; have f10 := (HC.out.ext (hw2)).cell 10; have f11 := (HC.out.ext (hw2)).cell 11; have f12 := (HC.out.ext (hw2)).cell 12; have f13 := (HC.out.ext (hw2)).cell 13; have f14 := (HC.out.ext (hw2)).cell 14; have f15 := (HC.out.ext (hw2)).cell 15; have f16 := (HC.out.ext (hw2)).cell 16; have f17 := (HC.out.ext (hw2)).cell 17; have f18 := (HC.out.ext (hw2)).cell 18; have f19 := (HC.out.ext (hw2)).cell 19; have f20 := (HC.out.ext (hw2)).cell 20; have f21 := (HC.out.ext (hw2)).cell 21; simp only [List.getElem?_cons_succ, List.getElem?_cons_zero] at f6 f7 f8 f9 f10 f11 f12 f13 f14 f15 f16 f17 f18 f19 f20 f21))
          go_ret
          first | exact ⟨ret_bool (by rw [← HR.out, HP.out]; simp), ((HX.out.trans hw2).trans hw3).trans hw4⟩ | exact ⟨ret_bool (by rw [← HR.out, HP.out]; simp), (HX.out.trans hw2).trans hw3⟩ | exact ⟨ret_bool (by rw [← HR.out, HP.out]; simp), HX.out.trans hw2⟩ | exact ⟨ret_bool (by rw [← HR.out, HP.out]; simp), HX.out⟩
end Go.Proofs.YtcdnodjcnofogaaGreatDoor
