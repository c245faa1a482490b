/-
  Walks: the reference's test of a statement.
-/
import Derived.Test.YtcdnodjcnofogaaGreatDoorMe
import Derived.Test.YtcdnodjcnofogaaGreatDoorMe
import Derived.Test.YtcdnodjcnofogaaGreatDoorRow
namespace Go.Proofs.YtcdnodjcnofogaaGreatDoor
open Go.RowKit
set_option linter.unusedVariables false
set_option linter.unusedSimpArgs false
set_option maxHeartbeats 4000000
set_option maxRecDepth 100000

theorem rstate_any (s : St) (a : SA) (w : World) (hv : StV w s a) (hb : s.cols.length + s.keys.length + s.frs.length + s.chk.length ≤ 1048576) (hb2 : s.itms.length + s.frm.length + s.grp.length + s.ord.length ≤ 1048576) :
    Calls Tryz.prog 45 #[s.val a] w fun r w' => r = .returned (.bool s.formed) ∧ Ext w w' := by
  rw [← rformed_eq]
  have H1 := hid (fun W => rname_any s.tb W hv.tb)
  have H2 := hid (fun W => rname_any s.nm W hv.nm)
  have H3 := hid (fun W (hW : Ext w W) => rabsent_any s.whr a.whr.A a.whr.n a.whr.c W (hv.whr.ext hW))
  have H4 := hid (fun W (hW : Ext w W) => rformed_any s.whr a.whr.A a.whr.n a.whr.c W (hv.whr.ext hW))
  have H6 := hid (fun W (hW : Ext w W) => create_any s a W (hv.ext hW) hb)
  have H7 := hid (fun W (hW : Ext w W) => rinsert_any s.vals a.vals.A a.vals.n a.vals.c W hv.vals.1 hv.vals.2.1 (hv.vals.2.2.ext hW) hv.valn)
  have H8 := hid (fun W (hW : Ext w W) => rsets_any s.sets a.sets.A a.sets.n a.sets.c W hv.sets.1 hv.sets.2.1 (hv.sets.2.2.ext hW))
  have H9 := hid (fun W (hW : Ext w W) => rquery_any s a W (hv.ext hW))
  have HB := hid (Blk.of_new w 38 (s.cells a))
  have HX := hid ((Ext.refl w).alloc (.cells (s.cells a).toArray 38))
  obtain ⟨R, hR⟩ : ∃ R, s.rformed = R := ⟨_, rfl⟩
  rw [hR]
  unfold St.rformed at hR
  dsimp only at hR
  have hnd : s.noDef = decide (a.cols.n + a.keys.n + a.frs.n + a.chk.n = 0) := by unfold St.noDef; rw [hv.cols.1, hv.keys.1, hv.frs.1, hv.chk.1]
  rw [hv.vals.1, hv.sets.1, hv.frm.1, hv.itms.1, hv.grp.1, hv.ord.1] at hR
  rw [hv.itms.1, hv.frm.1, hv.grp.1, hv.ord.1] at hb2
  rw [hv.cols.1, hv.keys.1, hv.frs.1, hv.chk.1] at hb
  simp only [← beq_iff_eq (a := s.kd)] at hR
  clear hv
  unfold St.val at *
  unfold St.cells Sl.v at *
  unfold Nd.val at H3 H4
  generalize s.whr.absent = ba at *
  generalize s.whr.formed = bf at *
  generalize nameB s.tb = bn at *
  generalize nameB s.nm = bm at *
  generalize s.noDef = e0 at *
  generalize s.defOk = q1 at *
  generalize s.vals.all rowOk = q2 at *
  generalize s.sets.all Asg.ok = q3 at *
  generalize s.qOk = q5 at *
  obtain ⟨te, hte⟩ : ∃ b, s.tb.toList.isEmpty = b := ⟨_, rfl⟩
  obtain ⟨ne, hne⟩ : ∃ b, s.nm.toList.isEmpty = b := ⟨_, rfl⟩
  obtain ⟨k1, hk1⟩ : ∃ b, (s.kd == 1) = b := ⟨_, rfl⟩
  obtain ⟨k2, hk2⟩ : ∃ b, (s.kd == 2) = b := ⟨_, rfl⟩
  obtain ⟨k3, hk3⟩ : ∃ b, (s.kd == 3) = b := ⟨_, rfl⟩
  obtain ⟨k4, hk4⟩ : ∃ b, (s.kd == 4) = b := ⟨_, rfl⟩
  obtain ⟨k5, hk5⟩ : ∃ b, (s.kd == 5) = b := ⟨_, rfl⟩
  obtain ⟨l14, h14⟩ : ∃ b, (decide (1 ≤ s.kd)) = b := ⟨_, rfl⟩
  obtain ⟨l4, h4'⟩ : ∃ b, (decide (s.kd ≤ 4)) = b := ⟨_, rfl⟩
  obtain ⟨l9, h9'⟩ : ∃ b, (decide (9 ≤ s.kd)) = b := ⟨_, rfl⟩
  obtain ⟨l11, h11'⟩ : ∃ b, (decide (s.kd ≤ 11)) = b := ⟨_, rfl⟩
  obtain ⟨l3, h3'⟩ : ∃ b, (decide (s.kd < 3)) = b := ⟨_, rfl⟩
  obtain ⟨l5, h5'⟩ : ∃ b, (decide (5 < s.kd)) = b := ⟨_, rfl⟩
  obtain ⟨l6, h6'⟩ : ∃ b, (decide (6 ≤ s.kd)) = b := ⟨_, rfl⟩
  obtain ⟨v0, hv0⟩ : ∃ b, decide (0 < a.vals.n) = b := ⟨_, rfl⟩
  obtain ⟨s0, hs0⟩ : ∃ b, decide (0 < a.sets.n) = b := ⟨_, rfl⟩
  obtain ⟨z0, hz0⟩ : ∃ b, decide (0 < a.itms.n + a.frm.n + a.grp.n + a.ord.n) = b := ⟨_, rfl⟩
  obtain ⟨lz, hl0⟩ : ∃ b, (s.lim == 0) = b := ⟨_, rfl⟩
  have n1 : (s.kd != 1) = !k1 := by rw [bne, hk1]
  have n2 : (s.kd != 2) = !k2 := by rw [bne, hk2]
  have n3 : (s.kd != 3) = !k3 := by rw [bne, hk3]
  have n5 : (s.kd != 5) = !k5 := by rw [bne, hk5]
  have nl : (s.lim != 0) = !lz := by rw [bne, hl0]
  rw [n1, n2, n3, n5, nl, hte, hne, hk1, hk2, hk3, hk4, hk5, h14, h4', h9', h11', h3', h5', h6', hv0, hs0, hz0] at hR
  have HR := hid hR
  clear hR
  go_enter Tryz.func45, Tryz.ntmps45
  go_upto_region 1 with fail
  generalize w.alloc (.cells _ 38) = w1 at *
  generalize w.heap.size = g at *
  have p0 := (HB.out).cell 0
  have p1 := (HB.out).cell 1
  have p2 := (HB.out).cell 2
  have p3 := (HB.out).cell 3
  have p4 := (HB.out).cell 4
  have p5 := (HB.out).cell 5
  have p6 := (HB.out).cell 6
  have p7 := (HB.out).cell 7
  have p8 := (HB.out).cell 8
  have p9 := (HB.out).cell 9
  have p10 := (HB.out).cell 10
  have p11 := (HB.out).cell 11
  have p12 := (HB.out).cell 12
  have p13 := (HB.out).cell 13
  have p14 := (HB.out).cell 14
  have p15 := (HB.out).cell 15
  have p16 := (HB.out).cell 16
  have p17 := (HB.out).cell 17
  have p18 := (HB.out).cell 18
  have p19 := (HB.out).cell 19
  have p20 := (HB.out).cell 20
  have p21 := (HB.out).cell 21
  simp only [List.getElem?_cons_succ, List.getElem?_cons_zero] at p0 p1 p2 p3 p4 p5 p6 p7 p8 p9 p10 p11 p12 p13 p14 p15 p16 p17 p18 p19 p20 p21
  go_upto_region 3 with fail
  have HB2 := hid (Blk.of_new w1 27 [.slice a.cols.A a.cols.n a.cols.c, .slice a.keys.A a.keys.n a.keys.c, .slice a.frs.A a.frs.n a.frs.c, .slice a.chk.A a.chk.n a.chk.c])
  have HX2 := hid ((Ext.refl w1).alloc (.cells #[.slice a.cols.A a.cols.n a.cols.c, .slice a.keys.A a.keys.n a.keys.c, .slice a.frs.A a.frs.n a.frs.c, .slice a.chk.A a.chk.n a.chk.c] 27))
  replace HB := hid (HB.out.ext HX2.out)
  generalize w1.alloc (.cells _ 27) = w2 at *
  generalize w1.heap.size = g2 at *
  clear p0 p1 p2 p3 p4 p5 p6 p7 p8 p9 p10 p11 p12 p13 p14 p15 p16 p17 p18 p19 p20 p21
  have p0 := (HB.out).cell 0
  have p1 := (HB.out).cell 1
  have p2 := (HB.out).cell 2
  have p3 := (HB.out).cell 3
  have p4 := (HB.out).cell 4
  have p5 := (HB.out).cell 5
  have p6 := (HB.out).cell 6
  have p7 := (HB.out).cell 7
  have p8 := (HB.out).cell 8
  have p9 := (HB.out).cell 9
  have p10 := (HB.out).cell 10
  have p11 := (HB.out).cell 11
  have p12 := (HB.out).cell 12
  have p13 := (HB.out).cell 13
  have p14 := (HB.out).cell 14
  have p15 := (HB.out).cell 15
  have p16 := (HB.out).cell 16
  have p17 := (HB.out).cell 17
  have p18 := (HB.out).cell 18
  have p19 := (HB.out).cell 19
  have p20 := (HB.out).cell 20
  have p21 := (HB.out).cell 21
  simp only [List.getElem?_cons_succ, List.getElem?_cons_zero] at p0 p1 p2 p3 p4 p5 p6 p7 p8 p9 p10 p11 p12 p13 p14 p15 p16 p17 p18 p19 p20 p21
  have dd0 := (HB2.out).cell 0
  have dd1 := (HB2.out).cell 1
  have dd2 := (HB2.out).cell 2
  have dd3 := (HB2.out).cell 3
  simp only [List.getElem?_cons_succ, List.getElem?_cons_zero] at dd0 dd1 dd2 dd3
  have HXw := hid (HX.out.trans HX2.out)
  clear HX2 HX
  have ie0 : decide ((0 : Int) < (a.cols.n : Int) + (a.keys.n : Int) + (a.frs.n : Int) + (a.chk.n : Int)) = !e0 := by rw [hnd, Bool.eq_iff_iff]; simp; omega
  have iz0 : decide ((0 : Int) < (a.itms.n : Int) + (a.frm.n : Int) + (a.grp.n : Int) + (a.ord.n : Int)) = z0 := by rw [← hz0, Bool.eq_iff_iff]; simp; omega
  have f1 : (IntKind.i64.wrap ((a.cols.n : Int) + (a.keys.n : Int))) = (a.cols.n : Int) + (a.keys.n : Int) := IntWalk.i64_in _ (by omega)
  clear hnd
  go_cut [50] from 11 to 50 (fun cv wx => cv = .bool ((!k1 && !e0) || (!k2 && v0) || (!k3 && s0)) ∧ w2 = wx)
  case first =>
    by_cases hvn : 0 < a.vals.n <;> by_cases hsn : 0 < a.sets.n <;> cases k1 <;> cases e0 <;> cases k2 <;> cases k3
    all_goals
      go_wp2_with fail
      go_meet
      exact ⟨by rw [← hv0, ← hs0]; simp [hvn, hsn], rfl⟩
  case rest =>
    obtain ⟨rfl, rfl⟩ := hcut
    generalize ((!k1 && !e0) || (!k2 && v0) || (!k3 && s0)) = C1 at *
    cases C1
    · go_upto_region 5 with fail
      go_cut [75] from 51 to 75 (fun cv wx => cv = .bool (!k5 && (z0 || !lz)) ∧ w2 = wx)
      case first =>
        cases k5 <;> cases z0 <;> cases lz
        all_goals
          go_wp2_with fail
          go_meet
          exact ⟨rfl, rfl⟩
      case rest =>
        obtain ⟨rfl, rfl⟩ := hcut
        generalize (!k5 && (z0 || !lz)) = C2 at *
        cases C2
        · go_upto_region 7 with fail
          go_cut [5, 6] from 76 to 87 (fun tv nv wx => tv = .bool (l14 && l4) ∧ nv = .bool (l9 && l11) ∧ w2 = wx)
          case first =>
            cases l14 <;> cases l4 <;> cases l9 <;> cases l11
            all_goals
              go_wp2_with fail
              go_meet
              exact ⟨rfl, rfl, rfl⟩
          case rest =>
            obtain ⟨rfl, rfl, rfl⟩ := hcut
            generalize (l14 && l4) = td at *
            generalize (l9 && l11) = nd at *
            go_upto_region 8 with fail
            have HQ : Hid (∀ W, Ext w2 W → W.cell? ⟨g, 1, none⟩ = some (.string s.tb) ∧ W.cell? ⟨g, 21, none⟩ = some (.string s.nm)) := fun W hW => ⟨hW.keep p1, hW.keep p21⟩
            go_cut [121] from 88 to 121 (fun cv wx => cv = .bool ((td && !bn) || (!td && !te) || (nd && !bm) || (!nd && !ne)) ∧ Ext w2 wx)
            case first =>
              cases td <;> cases bn <;> cases te <;> cases nd <;> cases bm <;> cases ne
              all_goals
                go_wp2_with (first | (go_at_call 89; (with_reducible refine (H1.out _).mono ?_); rintro _ w3 ⟨rfl, hx3⟩; obtain ⟨e1, e21⟩ := HQ.out _ hx3) | (go_at_call 89; (with_reducible refine (H2.out _).mono ?_); rintro _ w4 ⟨rfl, hx4⟩; obtain ⟨d1, d21⟩ := (HQ.out _ (by first | exact hx3.trans hx4 | exact hx4) : _ ∧ _)))
                go_meet
                first | exact ⟨rfl, hx3.trans hx4⟩ | exact ⟨rfl, hx3⟩ | exact ⟨rfl, hx4⟩ | exact ⟨rfl, Ext.refl _⟩
            case rest =>
              obtain ⟨rfl, hxN⟩ := hcut
              generalize wc = wa at *
              have HXa := hid (HXw.out.trans hxN)
              replace HB := hid (HB.out.ext hxN)
              replace HB2 := hid (HB2.out.ext hxN)
              clear hxN H1 H2 HQ p0 p1 p2 p3 p4 p5 p6 p7 p8 p9 p10 p11 p12 p13 p14 p15 p16 p17 p18 p19 p20 p21 dd0 dd1 dd2 dd3
              generalize ((td && !bn) || (!td && !te) || (nd && !bm) || (!nd && !ne)) = C3 at *
              cases C3
              · have p0 := (HB.out).cell 0
                have p10 := (HB.out).cell 10
                have p11 := (HB.out).cell 11
                have p12 := (HB.out).cell 12
                have p13 := (HB.out).cell 13
                have p14 := (HB.out).cell 14
                have p15 := (HB.out).cell 15
                have p16 := (HB.out).cell 16
                have p17 := (HB.out).cell 17
                simp only [List.getElem?_cons_succ, List.getElem?_cons_zero] at p0 p10 p11 p12 p13 p14 p15 p16 p17
                go_upto_region 10 with fail
                go_cut [139] from 122 to 139 (fun cv wx => cv = .bool (!ba && ((l3 || l5) || !bf)) ∧ Ext wa wx)
                case first =>
                  cases ba <;> cases l3 <;> cases l5
                  all_goals
                    go_wp2_with (first | (go_at_call 90; (with_reducible refine (H3.out _ HXa.out).mono ?_); rintro _ w3 ⟨rfl, hx3⟩; have e10 := (HB.out.ext hx3).cell 10; have e11 := (HB.out.ext hx3).cell 11; have e12 := (HB.out.ext hx3).cell 12; have e13 := (HB.out.ext hx3).cell 13; have e14 := (HB.out.ext hx3).cell 14; have e15 := (HB.out.ext hx3).cell 15; have e16 := (HB.out.ext hx3).cell 16; have e17 := (HB.out.ext hx3).cell 17; simp only [List.getElem?_cons_succ, List.getElem?_cons_zero] at e10 e11 e12 e13 e14 e15 e16 e17) | (go_at_call 48; (with_reducible refine (H4.out _ (HXa.out.trans hx3)).mono ?_); rintro _ w4 ⟨rfl, hx4⟩))
                    go_meet
                    first | exact ⟨rfl, hx3.trans hx4⟩ | exact ⟨rfl, hx3⟩
                case rest =>
                  obtain ⟨rfl, hxN⟩ := hcut
                  generalize wc = wb at *
                  have HXb := hid (HXa.out.trans hxN)
                  replace HB := hid (HB.out.ext hxN)
                  replace HB2 := hid (HB2.out.ext hxN)
                  clear hxN H3 H4 p0 p10 p11 p12 p13 p14 p15 p16 p17
                  generalize (!ba && ((l3 || l5) || !bf)) = C4 at *
                  cases C4
                  · have p0 := (HB.out).cell 0
                    have p1 := (HB.out).cell 1
                    have p2 := (HB.out).cell 2
                    have p3 := (HB.out).cell 3
                    have p4 := (HB.out).cell 4
                    have p5 := (HB.out).cell 5
                    have p6 := (HB.out).cell 6
                    have p7 := (HB.out).cell 7
                    have p8 := (HB.out).cell 8
                    have p9 := (HB.out).cell 9
                    have p10 := (HB.out).cell 10
                    have p11 := (HB.out).cell 11
                    have p12 := (HB.out).cell 12
                    have p13 := (HB.out).cell 13
                    have p14 := (HB.out).cell 14
                    have p15 := (HB.out).cell 15
                    have p16 := (HB.out).cell 16
                    have p17 := (HB.out).cell 17
                    have p18 := (HB.out).cell 18
                    have p19 := (HB.out).cell 19
                    have p20 := (HB.out).cell 20
                    have p21 := (HB.out).cell 21
                    simp only [List.getElem?_cons_succ, List.getElem?_cons_zero] at p0 p1 p2 p3 p4 p5 p6 p7 p8 p9 p10 p11 p12 p13 p14 p15 p16 p17 p18 p19 p20 p21
                    have dd0 := (HB2.out).cell 0
                    have dd1 := (HB2.out).cell 1
                    have dd2 := (HB2.out).cell 2
                    have dd3 := (HB2.out).cell 3
                    simp only [List.getElem?_cons_succ, List.getElem?_cons_zero] at dd0 dd1 dd2 dd3
                    cases k1
                    · cases k2
                      · cases k3
                        · cases k5
                          · cases k4 <;> cases l6 <;> cases l11
                            all_goals
                              go_wp2_with fail
                              go_ret
                              exact ⟨ret_bool (by rw [← HR.out]; simp [hk1, hk2, hk3, hk5]), HXb.out⟩
                          · go_wp2_with (first | (refine wpList_load_blk rfl 38 (.tmp 1) rfl g rfl 38 _ _ HB.out Tryz.underlying38 rfl (by kernel_rfl) ?_) | (go_at_call 94; (with_reducible refine (H9.out _ HXb.out).mono ?_); rintro _ w5 ⟨rfl, hx5⟩))
                            go_ret
                            exact ⟨ret_bool (by rw [← HR.out]; simp [hk1, hk2, hk3, hk5]), HXb.out.trans hx5⟩
                        · go_wp2_with ((go_at_call 93; (with_reducible refine (H8.out _ HXb.out).mono ?_); rintro _ w5 ⟨rfl, hx5⟩))
                          go_ret
                          exact ⟨ret_bool (by rw [← HR.out, ← hs0]; simp [hk1, hk2, hk3]), HXb.out.trans hx5⟩
                      · go_wp2_with ((go_at_call 92; (with_reducible refine (H7.out _ HXb.out).mono ?_); rintro _ w5 ⟨rfl, hx5⟩))
                        go_ret
                        exact ⟨ret_bool (by rw [← HR.out, ← hv0]; simp [hk1, hk2]), HXb.out.trans hx5⟩
                    · go_wp2_with ((go_at_call 91; (with_reducible refine (H6.out _ HXb.out).mono ?_); rintro _ w5 ⟨rfl, hx5⟩))
                      go_ret
                      exact ⟨ret_bool (by rw [← HR.out]; simp [hk1]), HXb.out.trans hx5⟩
                  · go_wp2_with fail
                    go_ret
                    exact ⟨ret_bool (by rw [← HR.out]; simp), HXb.out⟩
              · go_wp2_with fail
                go_ret
                exact ⟨ret_bool (by rw [← HR.out]; simp), HXa.out⟩
        · go_wp2_with fail
          go_ret
          exact ⟨ret_bool (by rw [← HR.out]; simp), HXw.out⟩
    · go_wp2_with fail
      go_ret
      exact ⟨ret_bool (by rw [← HR.out]; simp), HXw.out⟩
end Go.Proofs.YtcdnodjcnofogaaGreatDoor
