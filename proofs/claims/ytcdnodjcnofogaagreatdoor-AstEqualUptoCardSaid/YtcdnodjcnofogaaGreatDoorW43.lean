/-
  Walks: the reference's comparison of definitions.
-/
import Derived.Test.YtcdnodjcnofogaaGreatDoorW42
namespace Go.Proofs.YtcdnodjcnofogaaGreatDoor
open Go.RowKit
set_option linter.unusedVariables false
set_option linter.unusedSimpArgs false
set_option maxHeartbeats 4000000
set_option maxRecDepth 100000

theorem rstrs_any (l m : List ByteArray) (A B : Option Addr) (n p c c' : Nat) (w : World) (hl : l.length = n) (hm : m.length = p) (hn : n ≤ 9223372036854775807) (hp : p ≤ 9223372036854775807) (hk : StrsAt w A l) (hk2 : StrsAt w B m) :
    Calls Tryz.prog 112 #[.slice A n c, .slice B p c'] w fun r w' => r = .returned (.bool (allS sN l m)) ∧ Ext w w' := by
  have HL := hid hl
  have HM := hid hm
  have HK := hid hk
  have HK2 := hid hk2
  clear hl hm hk hk2
  obtain ⟨R, hR⟩ : ∃ R, allS sN l m = R := ⟨_, rfl⟩
  have HR := hid hR
  rw [hR]
  clear hR
  by_cases hnp : n = p
  · subst hnp
    have bN : ((n : Int) != (n : Int)) = false := by simp
    go_enter Tryz.func112, Tryz.ntmps112
    go_wp2_with fail
    go_loopw [5] (fun iv wr => ∃ (k : Nat), k ≤ n ∧ iv = .int .i64 k ∧ STo sN l m k ∧ Ext w wr) (fun i _ => n - (intOf i).toNat)
    case atStart => exact ⟨0, Nat.zero_le _, rfl, STo.zero _ l m, Ext.refl w⟩
    case round =>
      obtain ⟨k, hkn, rfl, hr, hxr⟩ := hrel
      have HXr := hid hxr
      have HRr := hid hr
      by_cases hlt : k < n
      · obtain ⟨x, hx⟩ := rat_lt HL.out hlt
        obtain ⟨y, hy⟩ := rat_lt HM.out hlt
        obtain ⟨_, b, off, rfl, q0⟩ := (HK.out.ext hxr) k x hx
        obtain ⟨_, b2, off2, rfl, s0⟩ := (HK2.out.ext hxr) k y hy
        have i0 : (0 : Int) ≤ (k : Int) := by omega
        have i1 : (k : Int) < (n : Int) := by omega
        have HE := hid hx
        have HE2 := hid hy
        replace q0 := Later.keep q0
        replace s0 := Later.keep s0
        clear hx hy hxr hr
        obtain ⟨b0, hb0⟩ : ∃ b, (x.toList == y.toList) = b := ⟨_, rfl⟩
        cases b0
        · have HF : Hid (sN x y = false) := by unfold Hid sN; simp [← str_eq, hb0]
          have HP : Hid (allS sN l m = false) := allS_no HE.out HE2.out HF.out
          go_wp2_with fail
          refine wp_region_later (by kernel_rfl) (by kernel_rfl) ?_
          repeat (go_big_quiet_step (fail))
          refine wpQuiet_nil ?_
          intro w2 hw2
          have hx2 := later_out hw2
          clear hw2
          go_wp2_with fail
          go_ret
          exact ⟨ret_bool (by rw [← HR.out, HP.out]), HXr.out.trans hx2⟩
        · have HF : Hid (sN x y = true) := by unfold Hid sN; simp [← str_eq, hb0]
          go_wp2_with fail
          refine wp_region_later (by kernel_rfl) (by kernel_rfl) ?_
          repeat (go_big_quiet_step (fail))
          refine wpQuiet_nil ?_
          intro w2 hw2
          have hx2 := later_out hw2
          clear hw2
          go_wp2_with fail
          go_roundw
          case rel => exact ⟨k + 1, by omega, by go_num, HRr.out.succ HE.out HE2.out HF.out, HXr.out.trans hx2⟩
          case measure => simp [intOf]; omega
      · obtain rfl : k = n := by omega
        have HP : Hid (allS sN l m = true) := allS_yes HL.out HM.out HRr.out
        go_wp2_with fail
        go_ret
        exact ⟨ret_bool (by rw [← HR.out, HP.out]), HXr.out⟩
  · have bN : ((n : Int) != (p : Int)) = true := by simp; omega
    have HP : Hid (allS sN l m = false) := allS_len (by rw [HL.out, HM.out]; exact hnp)
    go_enter Tryz.func112, Tryz.ntmps112
    go_wp2_with fail
    go_ret
    exact ⟨ret_bool (by rw [← HR.out, HP.out]), Ext.refl w⟩
theorem rdef_any (s t : St) (a b : SA) (w : World) (hv : StV w s a) (hv2 : StV w t b) :
    Calls Tryz.prog 66 #[.agg #[.slice a.cols.A a.cols.n a.cols.c, .slice a.keys.A a.keys.n a.keys.c, .slice a.frs.A a.frs.n a.frs.c, .slice a.chk.A a.chk.n a.chk.c], .agg #[.slice b.cols.A b.cols.n b.cols.c, .slice b.keys.A b.keys.n b.keys.c, .slice b.frs.A b.frs.n b.frs.c, .slice b.chk.A b.chk.n b.chk.c]] w fun r w' => r = .returned (.bool (allS Cd.same s.cols t.cols && allS (allS sN) s.keys t.keys && allS Rf.same s.frs t.frs && sameL s.chk t.chk)) ∧ Ext w w' := by
  have HS := hid hv
  have HT := hid hv2
  have H0 := hid (fun W (hW : Ext w W) => rsames_any s.chk t.chk a.chk.A b.chk.A a.chk.n b.chk.n a.chk.c b.chk.c W hv.chk.1 hv2.chk.1 hv.chk.2.1 hv2.chk.2.1 (hv.chk.2.2.ext hW) (hv2.chk.2.2.ext hW))
  have HB := hid ((Blk.of_new w 27 [.slice a.cols.A a.cols.n a.cols.c, .slice a.keys.A a.keys.n a.keys.c, .slice a.frs.A a.frs.n a.frs.c, .slice a.chk.A a.chk.n a.chk.c]).ext ((Ext.refl _).alloc (.cells #[.slice b.cols.A b.cols.n b.cols.c, .slice b.keys.A b.keys.n b.keys.c, .slice b.frs.A b.frs.n b.frs.c, .slice b.chk.A b.chk.n b.chk.c] 27)))
  have hb2 := Blk.of_new (w.alloc (.cells #[.slice a.cols.A a.cols.n a.cols.c, .slice a.keys.A a.keys.n a.keys.c, .slice a.frs.A a.frs.n a.frs.c, .slice a.chk.A a.chk.n a.chk.c] 27)) 27 [.slice b.cols.A b.cols.n b.cols.c, .slice b.keys.A b.keys.n b.keys.c, .slice b.frs.A b.frs.n b.frs.c, .slice b.chk.A b.chk.n b.chk.c]
  have HX := hid (((Ext.refl w).alloc (.cells #[.slice a.cols.A a.cols.n a.cols.c, .slice a.keys.A a.keys.n a.keys.c, .slice a.frs.A a.frs.n a.frs.c, .slice a.chk.A a.chk.n a.chk.c] 27)).alloc (.cells #[.slice b.cols.A b.cols.n b.cols.c, .slice b.keys.A b.keys.n b.keys.c, .slice b.frs.A b.frs.n b.frs.c, .slice b.chk.A b.chk.n b.chk.c] 27))
  rw [show (w.alloc (.cells #[.slice a.cols.A a.cols.n a.cols.c, .slice a.keys.A a.keys.n a.keys.c, .slice a.frs.A a.frs.n a.frs.c, .slice a.chk.A a.chk.n a.chk.c] 27)).heap.size = w.heap.size + 1 by simp] at hb2
  have HC := hid hb2
  have m1 := hv.cols.2.1
  have m2 := hv.keys.2.1
  have m3 := hv.frs.2.1
  clear hb2 hv hv2
  generalize sameL s.chk t.chk = b15 at *
  obtain ⟨R, hR⟩ : ∃ R, (allS Cd.same s.cols t.cols && allS (allS sN) s.keys t.keys && allS Rf.same s.frs t.frs && b15) = R := ⟨_, rfl⟩
  rw [hR]
  have HR := hid hR
  clear hR
  go_enter Tryz.func66, Tryz.ntmps66
  go_upto_region 1 with fail
  generalize (w.alloc (.cells #[.slice a.cols.A a.cols.n a.cols.c, .slice a.keys.A a.keys.n a.keys.c, .slice a.frs.A a.frs.n a.frs.c, .slice a.chk.A a.chk.n a.chk.c] 27)).alloc (.cells #[.slice b.cols.A b.cols.n b.cols.c, .slice b.keys.A b.keys.n b.keys.c, .slice b.frs.A b.frs.n b.frs.c, .slice b.chk.A b.chk.n b.chk.c] 27) = w1 at *
  generalize w.heap.size + 1 = g2 at *
  generalize w.heap.size = g at *
  have p0 := HB.out.cell 0
  have q0 := HC.out.cell 0
  have p1 := HB.out.cell 1
  have q1 := HC.out.cell 1
  have p2 := HB.out.cell 2
  have q2 := HC.out.cell 2
  have p3 := HB.out.cell 3
  have q3 := HC.out.cell 3
  simp only [List.getElem?_cons_succ, List.getElem?_cons_zero] at p0 p1 p2 p3 q0 q1 q2 q3
  by_cases hn1 : a.cols.n = b.cols.n
  · have e1 : ((a.cols.n : Int) != (b.cols.n : Int)) = false := by simp [hn1]
    have HN1 := hid hn1
    clear hn1
    by_cases hn2 : a.keys.n = b.keys.n
    · have e2 : ((a.keys.n : Int) != (b.keys.n : Int)) = false := by simp [hn2]
      have HN2 := hid hn2
      clear hn2
      by_cases hn3 : a.frs.n = b.frs.n
      · have e3 : ((a.frs.n : Int) != (b.frs.n : Int)) = false := by simp [hn3]
        have HN3 := hid hn3
        clear hn3
        cases b15
        · go_wp2_with (go_at_call 52; (with_reducible refine (H0.out _ HX.out).mono ?_); rintro _ w2 ⟨rfl, hw2⟩)
          go_ret
          exact ⟨ret_bool (by rw [← HR.out]; simp), HX.out.trans hw2⟩
        · go_wp2_with (go_at_call 52; (with_reducible refine (H0.out _ HX.out).mono ?_); rintro _ w2 ⟨rfl, hw2⟩)
          clear p0 p1 p2 p3 q0 q1 q2 q3 e1 e2 e3
          go_loopw [5] (fun iv wr => ∃ (k : Nat), k ≤ a.cols.n ∧ iv = .int .i64 k ∧ STo Cd.same s.cols t.cols k ∧ Ext w1 wr) (fun i _ => a.cols.n - (intOf i).toNat)
          case atStart => exact ⟨0, Nat.zero_le _, rfl, STo.zero _ _ _, hw2⟩
          case round =>
            obtain ⟨k, hkn, rfl, hr, hxr⟩ := hrel
            have HXr := hid hxr
            have HRr := hid hr
            have cb := (HB.out.ext hxr).cell 0
            have cc := (HC.out.ext hxr).cell 0
            simp only [List.getElem?_cons_succ, List.getElem?_cons_zero] at cb cc
            by_cases hlt : k < a.cols.n
            · obtain ⟨x, hx⟩ := rat_lt HS.out.cols.1 hlt
              obtain ⟨y, hy⟩ := rat_lt HT.out.cols.1 (show k < b.cols.n by have := HN1.out; have := HN2.out; have := HN3.out; omega)
              have i0 : (0 : Int) ≤ (k : Int) := by omega
              have i1 : (k : Int) < (a.cols.n : Int) := by omega
              have i2 : (k : Int) < (b.cols.n : Int) := by have := HN1.out; have := HN2.out; have := HN3.out; omega
              have HE := hid hx
              have HE2 := hid hy
              obtain ⟨_, eb, off, hA1, q0, q1, q2, q3, q4, q5⟩ := HS.out.cols.2.2 k x hx
              obtain ⟨_, eb2, off2, hA2, s0, s1, s2, s3, s4, s5⟩ := HT.out.cols.2.2 k y hy
              rw [hA1] at cb
              rw [hA2] at cc
              replace q0 := Later.keep ((HX.out.trans hxr).keep q0)
              replace s0 := Later.keep ((HX.out.trans hxr).keep s0)
              replace q1 := Later.keep ((HX.out.trans hxr).keep q1)
              replace s1 := Later.keep ((HX.out.trans hxr).keep s1)
              replace q2 := Later.keep ((HX.out.trans hxr).keep q2)
              replace s2 := Later.keep ((HX.out.trans hxr).keep s2)
              replace q3 := Later.keep ((HX.out.trans hxr).keep q3)
              replace s3 := Later.keep ((HX.out.trans hxr).keep s3)
              replace q4 := Later.keep ((HX.out.trans hxr).keep q4)
              replace s4 := Later.keep ((HX.out.trans hxr).keep s4)
              replace q5 := Later.keep ((HX.out.trans hxr).keep q5)
              replace s5 := Later.keep ((HX.out.trans hxr).keep s5)
              have cbl := Later.keep cb
              have ccl := Later.keep cc
              clear hx hy hxr hr
              obtain ⟨x0, x1, x2, x3, x4, x5⟩ := x
              obtain ⟨y0, y1, y2, y3, y4, y5⟩ := y
              simp only at *
              obtain ⟨b0, hb0⟩ : ∃ b, (x0.toList == y0.toList) = b := ⟨_, rfl⟩
              cases b0
              · have HF : Hid (Cd.same ⟨x0, x1, x2, x3, x4, x5⟩ ⟨y0, y1, y2, y3, y4, y5⟩ = false) := by unfold Hid Cd.same sN; simp [← str_eq, hb0]
                have HP : Hid (allS Cd.same s.cols t.cols = false) := allS_no HE.out HE2.out HF.out
                go_wp2_with fail
                refine wp_region_later (by kernel_rfl) (by kernel_rfl) ?_
                repeat (go_big_quiet_step (fail))
                refine wpQuiet_nil ?_
                intro w2 hw2
                have hx2 := later_out hw2
                clear hw2
                go_wp2_with fail
                go_ret
                exact ⟨ret_bool (by rw [← HR.out, HP.out]; simp), HX.out.trans (HXr.out.trans hx2)⟩
              · obtain ⟨b1, hb1⟩ : ∃ b, (x1 == y1) = b := ⟨_, rfl⟩
                cases b1
                · have HF : Hid (Cd.same ⟨x0, x1, x2, x3, x4, x5⟩ ⟨y0, y1, y2, y3, y4, y5⟩ = false) := by unfold Hid Cd.same sN; simp [← str_eq, hb0, hb1]
                  have HP : Hid (allS Cd.same s.cols t.cols = false) := allS_no HE.out HE2.out HF.out
                  go_wp2_with fail
                  refine wp_region_later (by kernel_rfl) (by kernel_rfl) ?_
                  repeat (go_big_quiet_step (fail))
                  refine wpQuiet_nil ?_
                  intro w2 hw2
                  have hx2 := later_out hw2
                  clear hw2
                  go_wp2_with fail
                  go_ret
                  exact ⟨ret_bool (by rw [← HR.out, HP.out]; simp), HX.out.trans (HXr.out.trans hx2)⟩
                · obtain ⟨b2, hb2⟩ : ∃ b, (x2 == y2) = b := ⟨_, rfl⟩
                  cases b2
                  · have HF : Hid (Cd.same ⟨x0, x1, x2, x3, x4, x5⟩ ⟨y0, y1, y2, y3, y4, y5⟩ = false) := by unfold Hid Cd.same sN; simp [← str_eq, hb0, hb1, hb2]
                    have HP : Hid (allS Cd.same s.cols t.cols = false) := allS_no HE.out HE2.out HF.out
                    go_wp2_with fail
                    refine wp_region_later (by kernel_rfl) (by kernel_rfl) ?_
                    repeat (go_big_quiet_step (fail))
                    refine wpQuiet_nil ?_
                    intro w2 hw2
                    have hx2 := later_out hw2
                    clear hw2
                    go_wp2_with fail
                    go_ret
                    exact ⟨ret_bool (by rw [← HR.out, HP.out]; simp), HX.out.trans (HXr.out.trans hx2)⟩
                  · obtain ⟨b3, hb3⟩ : ∃ b, (x3 == y3) = b := ⟨_, rfl⟩
                    cases b3
                    · have HF : Hid (Cd.same ⟨x0, x1, x2, x3, x4, x5⟩ ⟨y0, y1, y2, y3, y4, y5⟩ = false) := by unfold Hid Cd.same sN; simp [← str_eq, hb0, hb1, hb2, hb3]
                      have HP : Hid (allS Cd.same s.cols t.cols = false) := allS_no HE.out HE2.out HF.out
                      go_wp2_with fail
                      refine wp_region_later (by kernel_rfl) (by kernel_rfl) ?_
                      repeat (go_big_quiet_step (fail))
                      refine wpQuiet_nil ?_
                      intro w2 hw2
                      have hx2 := later_out hw2
                      clear hw2
                      go_wp2_with fail
                      go_ret
                      exact ⟨ret_bool (by rw [← HR.out, HP.out]; simp), HX.out.trans (HXr.out.trans hx2)⟩
                    · obtain ⟨b4, hb4⟩ : ∃ b, (x4 == y4) = b := ⟨_, rfl⟩
                      cases b4
                      · have HF : Hid (Cd.same ⟨x0, x1, x2, x3, x4, x5⟩ ⟨y0, y1, y2, y3, y4, y5⟩ = false) := by unfold Hid Cd.same sN; simp [← str_eq, hb0, hb1, hb2, hb3, hb4]
                        have HP : Hid (allS Cd.same s.cols t.cols = false) := allS_no HE.out HE2.out HF.out
                        go_wp2_with fail
                        refine wp_region_later (by kernel_rfl) (by kernel_rfl) ?_
                        repeat (go_big_quiet_step (fail))
                        refine wpQuiet_nil ?_
                        intro w2 hw2
                        have hx2 := later_out hw2
                        clear hw2
                        go_wp2_with fail
                        go_ret
                        exact ⟨ret_bool (by rw [← HR.out, HP.out]; simp), HX.out.trans (HXr.out.trans hx2)⟩
                      · obtain ⟨b5, hb5⟩ : ∃ b, (x5 == y5) = b := ⟨_, rfl⟩
                        cases b5
                        · have HF : Hid (Cd.same ⟨x0, x1, x2, x3, x4, x5⟩ ⟨y0, y1, y2, y3, y4, y5⟩ = false) := by unfold Hid Cd.same sN; simp [← str_eq, hb0, hb1, hb2, hb3, hb4, hb5]
                          have HP : Hid (allS Cd.same s.cols t.cols = false) := allS_no HE.out HE2.out HF.out
                          go_wp2_with fail
                          refine wp_region_later (by kernel_rfl) (by kernel_rfl) ?_
                          repeat (go_big_quiet_step (fail))
                          refine wpQuiet_nil ?_
                          intro w2 hw2
                          have hx2 := later_out hw2
                          clear hw2
                          go_wp2_with fail
                          go_ret
                          exact ⟨ret_bool (by rw [← HR.out, HP.out]; simp), HX.out.trans (HXr.out.trans hx2)⟩
                        · have HF : Hid (Cd.same ⟨x0, x1, x2, x3, x4, x5⟩ ⟨y0, y1, y2, y3, y4, y5⟩ = true) := by unfold Hid Cd.same sN; simp [← str_eq, hb0, hb1, hb2, hb3, hb4, hb5]
                          go_wp2_with fail
                          refine wp_region_later (by kernel_rfl) (by kernel_rfl) ?_
                          repeat (go_big_quiet_step (fail))
                          refine wpQuiet_nil ?_
                          intro w2 hw2
                          have hx2 := later_out hw2
                          clear hw2
                          go_wp2_with fail
                          go_roundw
                          case rel => exact ⟨k + 1, by omega, by go_num, HRr.out.succ HE.out HE2.out HF.out, HXr.out.trans hx2⟩
                          case measure => simp [intOf]; omega
            · obtain hkk : k = a.cols.n := by omega
              subst hkk
              have HPc : Hid (allS Cd.same s.cols t.cols = true) := allS_yes HS.out.cols.1 (HT.out.cols.1.trans HN1.out.symm) HRr.out
              go_wp2_with fail
              go_loopw [6] (fun iv wr => ∃ (k : Nat), k ≤ a.keys.n ∧ iv = .int .i64 k ∧ STo (allS sN) s.keys t.keys k ∧ Ext w1 wr) (fun i _ => a.keys.n - (intOf i).toNat)
              case atStart => exact ⟨0, Nat.zero_le _, rfl, STo.zero _ _ _, HXr.out⟩
              case round =>
                obtain ⟨k, hkn, rfl, hr, hxr⟩ := hrel
                have HXr := hid hxr
                have HRr := hid hr
                have cb := (HB.out.ext hxr).cell 1
                have cc := (HC.out.ext hxr).cell 1
                simp only [List.getElem?_cons_succ, List.getElem?_cons_zero] at cb cc
                by_cases hlt : k < a.keys.n
                · obtain ⟨x, hx⟩ := rat_lt HS.out.keys.1 hlt
                  obtain ⟨y, hy⟩ := rat_lt HT.out.keys.1 (show k < b.keys.n by have := HN1.out; have := HN2.out; have := HN3.out; omega)
                  have i0 : (0 : Int) ≤ (k : Int) := by omega
                  have i1 : (k : Int) < (a.keys.n : Int) := by omega
                  have i2 : (k : Int) < (b.keys.n : Int) := by have := HN1.out; have := HN2.out; have := HN3.out; omega
                  have HE := hid hx
                  have HE2 := hid hy
                  obtain ⟨eb, off, Ai, ni, ci, hA1, q0, hl1, hm1, hk1⟩ := HS.out.keys.2.2 k x hx
                  obtain ⟨eb2, off2, Aj, nj, cj, hA2, s0, hl2, hm2, hk2⟩ := HT.out.keys.2.2 k y hy
                  rw [hA1] at cb
                  rw [hA2] at cc
                  replace q0 := Later.keep ((HX.out.trans hxr).keep q0)
                  replace s0 := Later.keep ((HX.out.trans hxr).keep s0)
                  have cbl := Later.keep cb
                  have ccl := Later.keep cc
                  have H1 : Hid (∀ z : Later wr, Calls Tryz.prog 112 #[.slice Ai ni ci, .slice Aj nj cj] z.now _) := fun z => rstrs_any x y Ai Aj ni nj ci cj z.now hl1 hl2 hm1 hm2 (hk1.ext ((HX.out.trans hxr).trans z.ext)) (hk2.ext ((HX.out.trans hxr).trans z.ext))
                  clear hx hy hxr hr hl1 hl2 hk1 hk2
                  obtain ⟨b0, hb0⟩ : ∃ b, (allS sN x y) = b := ⟨_, rfl⟩
                  rw [hb0] at H1
                  cases b0
                  · have HF : Hid (allS sN x y = false) := by exact hb0
                    have HP : Hid (allS (allS sN) s.keys t.keys = false) := allS_no HE.out HE2.out HF.out
                    go_wp2_with fail
                    refine wp_region_later (by kernel_rfl) (by kernel_rfl) ?_
                    repeat (go_big_quiet_step ((go_at_call 112; with_reducible exact later_of (H1.out _))))
                    refine wpQuiet_nil ?_
                    intro w2 hw2
                    have hx2 := later_out hw2
                    clear hw2
                    go_wp2_with fail
                    go_ret
                    exact ⟨ret_bool (by rw [← HR.out, HP.out]; simp), HX.out.trans (HXr.out.trans hx2)⟩
                  · have HF : Hid (allS sN x y = true) := by exact hb0
                    go_wp2_with fail
                    refine wp_region_later (by kernel_rfl) (by kernel_rfl) ?_
                    repeat (go_big_quiet_step ((go_at_call 112; with_reducible exact later_of (H1.out _))))
                    refine wpQuiet_nil ?_
                    intro w2 hw2
                    have hx2 := later_out hw2
                    clear hw2
                    go_wp2_with fail
                    go_roundw
                    case rel => exact ⟨k + 1, by omega, by go_num, HRr.out.succ HE.out HE2.out HF.out, HXr.out.trans hx2⟩
                    case measure => simp [intOf]; omega
                · obtain hkk : k = a.keys.n := by omega
                  subst hkk
                  have HPk : Hid (allS (allS sN) s.keys t.keys = true) := allS_yes HS.out.keys.1 (HT.out.keys.1.trans HN2.out.symm) HRr.out
                  go_wp2_with fail
                  go_loopw [7] (fun iv wr => ∃ (k : Nat), k ≤ a.frs.n ∧ iv = .int .i64 k ∧ STo Rf.same s.frs t.frs k ∧ Ext w1 wr) (fun i _ => a.frs.n - (intOf i).toNat)
                  case atStart => exact ⟨0, Nat.zero_le _, rfl, STo.zero _ _ _, HXr.out⟩
                  case round =>
                    obtain ⟨k, hkn, rfl, hr, hxr⟩ := hrel
                    have HXr := hid hxr
                    have HRr := hid hr
                    have cb := (HB.out.ext hxr).cell 2
                    have cc := (HC.out.ext hxr).cell 2
                    simp only [List.getElem?_cons_succ, List.getElem?_cons_zero] at cb cc
                    by_cases hlt : k < a.frs.n
                    · obtain ⟨x, hx⟩ := rat_lt HS.out.frs.1 hlt
                      obtain ⟨y, hy⟩ := rat_lt HT.out.frs.1 (show k < b.frs.n by have := HN1.out; have := HN2.out; have := HN3.out; omega)
                      have i0 : (0 : Int) ≤ (k : Int) := by omega
                      have i1 : (k : Int) < (a.frs.n : Int) := by omega
                      have i2 : (k : Int) < (b.frs.n : Int) := by have := HN1.out; have := HN2.out; have := HN3.out; omega
                      have HE := hid hx
                      have HE2 := hid hy
                      obtain ⟨_, eb, off, A1, n1, c1, A2, n2, c2, hA1, q0, q1, q2, g1, g3, g4, g5, g6, g7⟩ := HS.out.frs.2.2 k x hx
                      obtain ⟨_, eb2, off2, B1, m1, d1, B2, m2, d2, hA2, s0, s1, s2, h1, h3, h4, h5, h6, h7⟩ := HT.out.frs.2.2 k y hy
                      rw [hA1] at cb
                      rw [hA2] at cc
                      replace q0 := (HX.out.trans hxr).keep q0
                      replace s0 := (HX.out.trans hxr).keep s0
                      replace q1 := (HX.out.trans hxr).keep q1
                      replace s1 := (HX.out.trans hxr).keep s1
                      replace q2 := (HX.out.trans hxr).keep q2
                      replace s2 := (HX.out.trans hxr).keep s2
                      have H1 := hid (fun W (hW : Ext w W) => rstrs_any x.cs y.cs A1 B1 n1 m1 c1 d1 W g1 h1 g3 h3 (g4.ext hW) (h4.ext hW))
                      have H2 := hid (fun W (hW : Ext w W) => rstrs_any x.tg y.tg A2 B2 n2 m2 c2 d2 W g5 h5 g6 h6 (g7.ext hW) (h7.ext hW))
                      clear hx hy hxr hr g1 g4 g5 g7 h1 h4 h5 h7 hA1 hA2
                      go_upto_region 16 with fail
                      go_cut [8, 9] from 80 to 117 (fun u8 u9 wx => ∃ ga gb, u8 = .pointer (some ⟨ga, 0, none⟩) ∧ u9 = .pointer (some ⟨gb, 0, none⟩) ∧ Blk wx ga 67 [.slice A1 n1 c1, .string x.tb, .slice A2 n2 c2] ∧ Blk wx gb 67 [.slice B1 m1 d1, .string y.tb, .slice B2 m2 d2] ∧ Ext wr wx)
                      case first =>
                        go_region_held3 (fun w' => w'.cell? ⟨g, 2, none⟩ = some (.slice (some ⟨eb, off, none⟩) a.frs.n a.frs.c) ∧ w'.cell? ⟨g2, 2, none⟩ = some (.slice (some ⟨eb2, off2, none⟩) b.frs.n b.frs.c) ∧ w'.cell? ⟨eb, off + k * 3, none⟩ = some (.slice A1 n1 c1) ∧ w'.cell? ⟨eb, off + k * 3 + 1, none⟩ = some (.string x.tb) ∧ w'.cell? ⟨eb, off + k * 3 + 2, none⟩ = some (.slice A2 n2 c2) ∧ w'.cell? ⟨eb2, off2 + k * 3, none⟩ = some (.slice B1 m1 d1) ∧ w'.cell? ⟨eb2, off2 + k * 3 + 1, none⟩ = some (.string y.tb) ∧ w'.cell? ⟨eb2, off2 + k * 3 + 2, none⟩ = some (.slice B2 m2 d2))
                          (first | go_keep)
                          (first | fail)
                        · have hb := Blk.of_new (wr.alloc (.cells #[.slice A1 n1 c1, .string x.tb, .slice A2 n2 c2] 67)) 67 [.slice B1 m1 d1, .string y.tb, .slice B2 m2 d2]
                          rw [show (wr.alloc (.cells #[.slice A1 n1 c1, .string x.tb, .slice A2 n2 c2] 67)).heap.size = wr.heap.size + 1 by simp] at hb
                          go_wp2_with fail
                          go_meet
                          exact ⟨_, _, rfl, rfl, ((Blk.of_new wr 67 [.slice A1 n1 c1, .string x.tb, .slice A2 n2 c2]).ext ((Ext.refl _).alloc _)).drew, hb.drew, (((Ext.refl wr).alloc _).alloc _).drew⟩
                        · have hb := Blk.of_new (wr.alloc (.cells #[.slice B1 m1 d1, .string y.tb, .slice B2 m2 d2] 67)) 67 [.slice A1 n1 c1, .string x.tb, .slice A2 n2 c2]
                          rw [show (wr.alloc (.cells #[.slice B1 m1 d1, .string y.tb, .slice B2 m2 d2] 67)).heap.size = wr.heap.size + 1 by simp] at hb
                          go_wp2_with fail
                          go_meet
                          exact ⟨_, _, rfl, rfl, hb.drew, ((Blk.of_new wr 67 [.slice B1 m1 d1, .string y.tb, .slice B2 m2 d2]).ext ((Ext.refl _).alloc _)).drew, (((Ext.refl wr).alloc _).alloc _).drew⟩
                      case rest =>
                        obtain ⟨ga, gb, rfl, rfl, hda, hdb, hxN⟩ := hcut
                        generalize wc = we at *
                        have HXf := hid (HXr.out.trans hxN)
                        have HXe := hid (HX.out.trans (HXr.out.trans hxN))
                        have HDa := hid hda
                        have HDb := hid hdb
                        clear hxN hda hdb q0 q1 q2 s0 s1 s2 cb cc
                        have d0 := (HDa.out).cell 0
                        have e0 := (HDb.out).cell 0
                        simp only [List.getElem?_cons_succ, List.getElem?_cons_zero] at d0 e0
                        have d1 := (HDa.out).cell 1
                        have e1 := (HDb.out).cell 1
                        simp only [List.getElem?_cons_succ, List.getElem?_cons_zero] at d1 e1
                        have d2 := (HDa.out).cell 2
                        have e2 := (HDb.out).cell 2
                        simp only [List.getElem?_cons_succ, List.getElem?_cons_zero] at d2 e2
                        obtain ⟨b0, hb0⟩ : ∃ b, (allS sN x.cs y.cs) = b := ⟨_, rfl⟩
                        rw [hb0] at H1
                        cases b0
                        · have HF : Hid (Rf.same x y = false) := by unfold Hid Rf.same; rw [sN_eq x.tb]; simp [← str_eq, hb0]
                          have HP : Hid (allS Rf.same s.frs t.frs = false) := allS_no HE.out HE2.out HF.out
                          go_wp2_with (first | (go_at_call 112; (with_reducible refine (H2.out _ ((HXe.out).trans hw2)).mono ?_); rintro _ w3 ⟨rfl, hw3⟩) | (go_at_call 112; (with_reducible refine (H1.out _ HXe.out).mono ?_); rintro _ w2 ⟨rfl, hw2⟩; have d1 := (HDa.out.ext (hw2)).cell 1; have e1 := (HDb.out.ext (hw2)).cell 1; simp only [List.getElem?_cons_succ, List.getElem?_cons_zero] at d1 e1; have d2 := (HDa.out.ext (hw2)).cell 2; have e2 := (HDb.out.ext (hw2)).cell 2; simp only [List.getElem?_cons_succ, List.getElem?_cons_zero] at d2 e2))
                          go_wp2_with fail
                          go_ret
                          first | exact ⟨ret_bool (by rw [← HR.out, HP.out]; simp), HX.out.trans (HXf.out.trans (hw2.trans hw3))⟩ | exact ⟨ret_bool (by rw [← HR.out, HP.out]; simp), HX.out.trans (HXf.out.trans hw2)⟩
                        · obtain ⟨b1, hb1⟩ : ∃ b, (x.tb.toList == y.tb.toList) = b := ⟨_, rfl⟩
                          have n1 : (x.tb.toList != y.tb.toList) = !b1 := by rw [bne, hb1]
                          cases b1
                          · have HF : Hid (Rf.same x y = false) := by unfold Hid Rf.same; rw [sN_eq x.tb]; simp [← str_eq, hb0, hb1]
                            have HP : Hid (allS Rf.same s.frs t.frs = false) := allS_no HE.out HE2.out HF.out
                            go_wp2_with (first | (go_at_call 112; (with_reducible refine (H2.out _ ((HXe.out).trans hw2)).mono ?_); rintro _ w3 ⟨rfl, hw3⟩) | (go_at_call 112; (with_reducible refine (H1.out _ HXe.out).mono ?_); rintro _ w2 ⟨rfl, hw2⟩; have d1 := (HDa.out.ext (hw2)).cell 1; have e1 := (HDb.out.ext (hw2)).cell 1; simp only [List.getElem?_cons_succ, List.getElem?_cons_zero] at d1 e1; have d2 := (HDa.out.ext (hw2)).cell 2; have e2 := (HDb.out.ext (hw2)).cell 2; simp only [List.getElem?_cons_succ, List.getElem?_cons_zero] at d2 e2))
                            go_wp2_with fail
                            go_ret
                            first | exact ⟨ret_bool (by rw [← HR.out, HP.out]; simp), HX.out.trans (HXf.out.trans (hw2.trans hw3))⟩ | exact ⟨ret_bool (by rw [← HR.out, HP.out]; simp), HX.out.trans (HXf.out.trans hw2)⟩
                          · obtain ⟨b2, hb2⟩ : ∃ b, (allS sN x.tg y.tg) = b := ⟨_, rfl⟩
                            rw [hb2] at H2
                            cases b2
                            · have HF : Hid (Rf.same x y = false) := by unfold Hid Rf.same; rw [sN_eq x.tb]; simp [← str_eq, hb0, hb1, hb2]
                              have HP : Hid (allS Rf.same s.frs t.frs = false) := allS_no HE.out HE2.out HF.out
                              go_wp2_with (first | (go_at_call 112; (with_reducible refine (H2.out _ ((HXe.out).trans hw2)).mono ?_); rintro _ w3 ⟨rfl, hw3⟩) | (go_at_call 112; (with_reducible refine (H1.out _ HXe.out).mono ?_); rintro _ w2 ⟨rfl, hw2⟩; have d1 := (HDa.out.ext (hw2)).cell 1; have e1 := (HDb.out.ext (hw2)).cell 1; simp only [List.getElem?_cons_succ, List.getElem?_cons_zero] at d1 e1; have d2 := (HDa.out.ext (hw2)).cell 2; have e2 := (HDb.out.ext (hw2)).cell 2; simp only [List.getElem?_cons_succ, List.getElem?_cons_zero] at d2 e2))
                              go_wp2_with fail
                              go_ret
                              first | exact ⟨ret_bool (by rw [← HR.out, HP.out]; simp), HX.out.trans (HXf.out.trans (hw2.trans hw3))⟩ | exact ⟨ret_bool (by rw [← HR.out, HP.out]; simp), HX.out.trans (HXf.out.trans hw2)⟩
                            · have HF : Hid (Rf.same x y = true) := by unfold Hid Rf.same; rw [sN_eq x.tb]; simp [← str_eq, hb0, hb1, hb2]
                              go_wp2_with (first | (go_at_call 112; (with_reducible refine (H2.out _ ((HXe.out).trans hw2)).mono ?_); rintro _ w3 ⟨rfl, hw3⟩) | (go_at_call 112; (with_reducible refine (H1.out _ HXe.out).mono ?_); rintro _ w2 ⟨rfl, hw2⟩; have d1 := (HDa.out.ext (hw2)).cell 1; have e1 := (HDb.out.ext (hw2)).cell 1; simp only [List.getElem?_cons_succ, List.getElem?_cons_zero] at d1 e1; have d2 := (HDa.out.ext (hw2)).cell 2; have e2 := (HDb.out.ext (hw2)).cell 2; simp only [List.getElem?_cons_succ, List.getElem?_cons_zero] at d2 e2))
                              go_wp2_with fail
                              go_roundw
                              case rel => exact ⟨k + 1, by omega, by go_num, HRr.out.succ HE.out HE2.out HF.out, HXf.out.trans (hw2.trans hw3)⟩
                              case measure => simp [intOf]; omega
                    · obtain hkk : k = a.frs.n := by omega
                      subst hkk
                      have HPf : Hid (allS Rf.same s.frs t.frs = true) := allS_yes HS.out.frs.1 (HT.out.frs.1.trans HN3.out.symm) HRr.out
                      go_wp2_with fail
                      go_ret
                      exact ⟨ret_bool (by rw [← HR.out, HPc.out, HPk.out, HPf.out]; rfl), HX.out.trans HXr.out⟩
      · have e3 : ((a.frs.n : Int) != (b.frs.n : Int)) = true := by simp; omega
        have HP : Hid (allS Rf.same s.frs t.frs = false) := allS_len (by rw [HS.out.frs.1, HT.out.frs.1]; exact hn3)
        go_wp2_with (go_at_call 52; (with_reducible refine (H0.out _ HX.out).mono ?_); rintro _ w2 ⟨rfl, hw2⟩)
        go_ret
        exact ⟨ret_bool (by rw [← HR.out, HP.out]; simp), HX.out⟩
    · have e2 : ((a.keys.n : Int) != (b.keys.n : Int)) = true := by simp; omega
      have HP : Hid (allS (allS sN) s.keys t.keys = false) := allS_len (by rw [HS.out.keys.1, HT.out.keys.1]; exact hn2)
      go_wp2_with (go_at_call 52; (with_reducible refine (H0.out _ HX.out).mono ?_); rintro _ w2 ⟨rfl, hw2⟩)
      go_ret
      exact ⟨ret_bool (by rw [← HR.out, HP.out]; simp), HX.out⟩
  · have e1 : ((a.cols.n : Int) != (b.cols.n : Int)) = true := by simp; omega
    have HP : Hid (allS Cd.same s.cols t.cols = false) := allS_len (by rw [HS.out.cols.1, HT.out.cols.1]; exact hn1)
    go_wp2_with (go_at_call 52; (with_reducible refine (H0.out _ HX.out).mono ?_); rintro _ w2 ⟨rfl, hw2⟩)
    go_ret
    exact ⟨ret_bool (by rw [← HR.out, HP.out]; simp), HX.out⟩
end Go.Proofs.YtcdnodjcnofogaaGreatDoor
