/-
  Walks: Small.
-/
import Derived.Test.YtcdnodjcnofogaaGreatDoorW38
import Derived.Test.YtcdnodjcnofogaaGreatDoorW27
namespace Go.Proofs.YtcdnodjcnofogaaGreatDoor
open Go.RowKit
set_option linter.unusedVariables false
set_option linter.unusedSimpArgs false
set_option maxHeartbeats 4000000
set_option maxRecDepth 100000

theorem small_any (s : St) (a : SA) (w : World) (hv : StV w s a) (hT : s.rall.length ≤ 100000000) :
    Calls Tryz.prog 13 #[s.val a] w fun r w' => ∃ b, r = .returned (.bool b) ∧ Ext w w' := by
  have HV := hid hv
  have HRA := hid (fun W (hW : Ext w W) => rall_any s a W (hv.ext hW) hT)
  have HB := hid (Blk.of_new w 38 (s.cells a))
  have HX := hid ((Ext.refl w).alloc (.cells (s.cells a).toArray 38))
  have hnR : s.rall.length ≤ 100000000 := hT
  have hsn := hv.sets.2.1
  have hfn := hv.frm.2.1
  have hcn := hv.cols.2.1
  have hkn := hv.keys.2.1
  have hrn := hv.frs.2.1
  obtain ⟨R, hR⟩ : ∃ R, s.rall = R := ⟨_, rfl⟩
  rw [hR] at HRA hnR
  clear hv hT hR
  obtain ⟨N0, hN0⟩ : ∃ N0, R.length = N0 := ⟨_, rfl⟩
  have HN0 := hid hN0
  rw [hN0] at hnR HRA
  clear hN0
  unfold St.val at *
  unfold St.cells at *
  unfold Sl.v at *
  have Hsets := hid HV.out.sets
  have Hfrm := hid HV.out.frm
  have Hcols := hid HV.out.cols
  have Hkeys := hid HV.out.keys
  have Hfrs := hid HV.out.frs
  generalize a.sets.A = P1 at *
  generalize a.frm.A = P2 at *
  generalize a.cols.A = P3 at *
  generalize a.keys.A = P4 at *
  generalize a.frs.A = P5 at *
  generalize s.whr.d = dw at *
  obtain ⟨wop, wtb, wnm, wix, wvk, wvi, wvt⟩ := dw
  simp only at *
  go_enter Tryz.func13, Tryz.ntmps13
  go_upto_region 1 with fail
  generalize hw1 : w.alloc (.cells _ 38) = w1 at *
  have HSz : Hid (w1.heap.size = w.heap.size + 1) := by unfold Hid; rw [← hw1]; simp
  clear hw1
  generalize w.heap.size = g at *
  have c2 := HB.out.cell 2
  have c3 := HB.out.cell 3
  have c4 := HB.out.cell 4
  have c5 := HB.out.cell 5
  simp only [List.getElem?_cons_succ, List.getElem?_cons_zero] at c2 c3 c4 c5
  go_upto_region 2 with fail
  have HB2 := hid (Blk.of_new w1 27 [.slice P3 a.cols.n a.cols.c, .slice P4 a.keys.n a.keys.c, .slice P5 a.frs.n a.frs.c, .slice a.chk.A a.chk.n a.chk.c])
  have HX2 := hid ((Ext.refl w1).alloc (.cells #[.slice P3 a.cols.n a.cols.c, .slice P4 a.keys.n a.keys.c, .slice P5 a.frs.n a.frs.c, .slice a.chk.A a.chk.n a.chk.c] 27))
  clear c2 c3 c4 c5
  generalize w1.alloc (.cells #[.slice P3 a.cols.n a.cols.c, .slice P4 a.keys.n a.keys.c, .slice P5 a.frs.n a.frs.c, .slice a.chk.A a.chk.n a.chk.c] 27) = w2 at *
  generalize w1.heap.size = g2 at *
  have HX2w := hid (HX.out.trans HX2.out)
  have c1 := (HB.out.ext HX2.out).cell 1
  have c6 := (HB.out.ext HX2.out).cell 6
  have c9 := (HB.out.ext HX2.out).cell 9
  have c19 := (HB.out.ext HX2.out).cell 19
  have c21 := (HB.out.ext HX2.out).cell 21
  simp only [List.getElem?_cons_succ, List.getElem?_cons_zero] at c1 c6 c9 c19 c21
  have d0 := HB2.out.cell 0
  have d1 := HB2.out.cell 1
  have d2 := HB2.out.cell 2
  simp only [List.getElem?_cons_succ, List.getElem?_cons_zero] at d0 d1 d2
  go_cut [4] from 12 to 45 (fun nv wx => (∃ x, nv = .int .i64 x) ∧ wx = w2)
  case first =>
    go_wp2_with fail
    go_meet
    exact ⟨⟨_, rfl⟩, rfl⟩
  case rest =>
    obtain ⟨⟨x0, rfl⟩, rfl⟩ := hcut
    by_cases hx0 : (200 : Int) < x0
    · go_wp2_with fail
      go_ret
      exact ⟨_, rfl, HX2w.out⟩
    · clear c1 c6 c9 c19 c21 d0 d1 d2
      go_wp2_with (first | (refine wpList_load_blk rfl 38 (.tmp 1) rfl g rfl 38 _ _ (HB.out.ext HX2.out) Tryz.underlying38 rfl (by kernel_rfl) ?_) | (go_at_call 37; refine (HRA.out _ HX2w.out).mono ?_; rintro _ w3 ⟨A3, c3', rfl, hk3, hx3⟩))
      have HB3 := hid ((HB.out.ext HX2.out).ext hx3)
      have HC3 := hid (HB2.out.ext hx3)
      have HX3 := hid (HX2w.out.trans hx3)
      have HK3 := hid hk3
      clear hx3 hk3
      go_loopw [4, 6] (fun nv iv wr => ∃ (k : Nat) (x : Int), k ≤ N0 ∧ iv = .int .i64 k ∧ nv = .int .i64 x ∧ Ext w3 wr) (fun _ i _ => N0 - (intOf i).toNat)
      case atStart => exact ⟨0, _, Nat.zero_le _, rfl, rfl, Ext.refl w3⟩
      case round =>
        obtain ⟨k, x, hk, rfl, rfl, hxr⟩ := hrel
        have HXr := hid hxr
        have cb := (HB3.out.ext hxr).cell 7
        simp only [List.getElem?_cons_succ, List.getElem?_cons_zero] at cb
        by_cases hlt : k < N0
        · obtain ⟨e, he⟩ := at_lt HN0.out hlt
          obtain ⟨b, off, A', n', c', rfl, q0, q1, q2, q3, q4, q5, q6, q7, hv'⟩ := (HK3.out.ext hxr).get he
          have HW := hid (weight_any e A' n' c' wr hv')
          clear he hv'
          unfold Nd.val at HW
          generalize e.wt = y at *
          generalize e.d = d at *
          obtain ⟨op, tb, nm, ix, vk, vi, vt⟩ := d
          simp only at *
          go_wp2_with (go_at_call 38; refine HW.out.mono ?_; rintro _ w7 ⟨rfl, hx7⟩)
          go_roundw
          case rel => exact ⟨k + 1, _, by omega, by go_num, rfl, HXr.out.trans hx7⟩
          case measure => simp [intOf]; omega
        · obtain rfl : k = N0 := by omega
          go_wp2_with fail
          clear hxr cb
          go_loopw [4, 7] (fun nv iv wr => ∃ (k : Nat) (x : Int), k ≤ a.sets.n ∧ iv = .int .i64 k ∧ nv = .int .i64 x ∧ Ext w3 wr) (fun _ i _ => a.sets.n - (intOf i).toNat)
          case atStart => exact ⟨0, _, Nat.zero_le _, rfl, rfl, HXr.out⟩
          case round =>
            obtain ⟨k, x, hk, rfl, rfl, hxr⟩ := hrel
            have HXr := hid hxr
            have cb := (HB3.out.ext hxr).cell 7
            simp only [List.getElem?_cons_succ, List.getElem?_cons_zero] at cb
            by_cases hlt : k < a.sets.n
            · obtain ⟨y, hy⟩ := rat_lt Hsets.out.1 hlt
              obtain ⟨_, b, off, A', n', c', hA, q0, _, _⟩ := Hsets.out.2.2 k y hy
              subst hA
              replace q0 := (HX3.out.trans hxr).keep q0
              go_wp2_with fail
              go_roundw
              case rel => exact ⟨k + 1, _, by omega, by go_num, rfl, HXr.out⟩
              case measure => simp [intOf]; omega
            · obtain rfl : k = a.sets.n := by omega
              go_wp2_with fail
              clear hxr cb
              go_loopw [4, 8] (fun nv iv wr => ∃ (k : Nat) (x : Int), k ≤ a.frm.n ∧ iv = .int .i64 k ∧ nv = .int .i64 x ∧ Ext w3 wr) (fun _ i _ => a.frm.n - (intOf i).toNat)
              case atStart => exact ⟨0, _, Nat.zero_le _, rfl, rfl, HXr.out⟩
              case round =>
                obtain ⟨k, x, hk, rfl, rfl, hxr⟩ := hrel
                have HXr := hid hxr
                have cb := (HB3.out.ext hxr).cell 9
                simp only [List.getElem?_cons_succ, List.getElem?_cons_zero] at cb
                by_cases hlt : k < a.frm.n
                · obtain ⟨y, hy⟩ := rat_lt Hfrm.out.1 hlt
                  obtain ⟨_, b, off, hA, q0, q1⟩ := Hfrm.out.2.2 k y hy
                  subst hA
                  replace q0 := Later.keep ((HX3.out.trans hxr).keep q0)
                  replace q1 := Later.keep ((HX3.out.trans hxr).keep q1)
                  clear hy
                  have i0 : (0 : Int) ≤ (k : Int) := by omega
                  have i1 : (k : Int) < (a.frm.n : Int) := by omega
                  have cbl := Later.keep cb
                  go_wp2_with fail
                  refine wp_region_later (by kernel_rfl) (by kernel_rfl) ?_
                  repeat (go_big_quiet_step (fail))
                  refine wpQuiet_nil ?_
                  intro w7 hw7
                  have hx7 := later_out hw7
                  clear hw7
                  go_wp2_with fail
                  go_roundw
                  case rel => exact ⟨k + 1, _, by omega, by go_num, rfl, HXr.out.trans hx7⟩
                  case measure => simp [intOf]; omega
                · obtain rfl : k = a.frm.n := by omega
                  go_wp2_with fail
                  clear hxr cb
                  go_loopw [4, 9] (fun nv iv wr => ∃ (k : Nat) (x : Int), k ≤ a.cols.n ∧ iv = .int .i64 k ∧ nv = .int .i64 x ∧ Ext w3 wr) (fun _ i _ => a.cols.n - (intOf i).toNat)
                  case atStart => exact ⟨0, _, Nat.zero_le _, rfl, rfl, HXr.out⟩
                  case round =>
                    obtain ⟨k, x, hk, rfl, rfl, hxr⟩ := hrel
                    have HXr := hid hxr
                    have cb := (HC3.out.ext hxr).cell 0
                    simp only [List.getElem?_cons_succ, List.getElem?_cons_zero] at cb
                    by_cases hlt : k < a.cols.n
                    · obtain ⟨y, hy⟩ := rat_lt Hcols.out.1 hlt
                      obtain ⟨_, b, off, hA, q0, _⟩ := Hcols.out.2.2 k y hy
                      subst hA
                      replace q0 := (HX3.out.trans hxr).keep q0
                      go_wp2_with fail
                      go_roundw
                      case rel => exact ⟨k + 1, _, by omega, by go_num, rfl, HXr.out⟩
                      case measure => simp [intOf]; omega
                    · obtain rfl : k = a.cols.n := by omega
                      go_wp2_with fail
                      clear hxr cb
                      go_loopw [4, 10] (fun nv iv wr => ∃ (k : Nat) (x : Int), k ≤ a.keys.n ∧ iv = .int .i64 k ∧ nv = .int .i64 x ∧ Ext w3 wr) (fun _ i _ => a.keys.n - (intOf i).toNat)
                      case atStart => exact ⟨0, _, Nat.zero_le _, rfl, rfl, HXr.out⟩
                      case round =>
                        obtain ⟨k, x, hk, rfl, rfl, hxr⟩ := hrel
                        have HXr := hid hxr
                        have cb := (HC3.out.ext hxr).cell 1
                        simp only [List.getElem?_cons_succ, List.getElem?_cons_zero] at cb
                        by_cases hlt : k < a.keys.n
                        · obtain ⟨y, hy⟩ := rat_lt Hkeys.out.1 hlt
                          obtain ⟨b, off, Ai, ni, ci, hA, q0, hyn, hym, hys⟩ := Hkeys.out.2.2 k y hy
                          subst hA
                          replace q0 := (HX3.out.trans hxr).keep q0
                          have HW := hid (wide_any y Ai ni ci wr hyn hym (hys.ext (HX3.out.trans hxr)))
                          clear hy hyn hys
                          generalize wideI y = z at *
                          go_wp2_with (go_at_call 39; refine HW.out.mono ?_; rintro _ w7 ⟨rfl, hx7⟩)
                          go_roundw
                          case rel => exact ⟨k + 1, _, by omega, by go_num, rfl, HXr.out.trans hx7⟩
                          case measure => simp [intOf]; omega
                        · obtain rfl : k = a.keys.n := by omega
                          go_wp2_with fail
                          clear hxr cb
                          go_loopw [4, 11] (fun nv iv wr => ∃ (k : Nat) (x : Int), k ≤ a.frs.n ∧ iv = .int .i64 k ∧ nv = .int .i64 x ∧ Ext w3 wr) (fun _ i _ => a.frs.n - (intOf i).toNat)
                          case atStart => exact ⟨0, _, Nat.zero_le _, rfl, rfl, HXr.out⟩
                          case round =>
                            obtain ⟨k, x, hk, rfl, rfl, hxr⟩ := hrel
                            have HXr := hid hxr
                            have cb := (HC3.out.ext hxr).cell 2
                            simp only [List.getElem?_cons_succ, List.getElem?_cons_zero] at cb
                            by_cases hlt : k < a.frs.n
                            · obtain ⟨y, hy⟩ := rat_lt Hfrs.out.1 hlt
                              obtain ⟨_, b, off, A1, n1, c1, A2, n2, c2, hA, q0, q1, q2, h1, h2, h3, h4, h5, h6⟩ := Hfrs.out.2.2 k y hy
                              subst hA
                              replace q0 := Later.keep ((HX3.out.trans hxr).keep q0)
                              replace q1 := Later.keep ((HX3.out.trans hxr).keep q1)
                              replace q2 := Later.keep ((HX3.out.trans hxr).keep q2)
                              have H1 : Hid (∀ z : Later wr, Calls Tryz.prog 39 #[.slice A1 n1 c1] z.now _) := fun z => wide_any y.cs A1 n1 c1 z.now h1 h2 (h3.ext ((HX3.out.trans hxr).trans z.ext))
                              have H2 : Hid (∀ z : Later wr, Calls Tryz.prog 39 #[.slice A2 n2 c2] z.now _) := fun z => wide_any y.tg A2 n2 c2 z.now h4 h5 (h6.ext ((HX3.out.trans hxr).trans z.ext))
                              clear hy h1 h2 h3 h4 h5 h6
                              generalize wideI y.cs = z1 at *
                              generalize wideI y.tg = z2 at *
                              have i0 : (0 : Int) ≤ (k : Int) := by omega
                              have i1 : (k : Int) < (a.frs.n : Int) := by omega
                              have cbl := Later.keep cb
                              go_wp2_with fail
                              refine wp_region_later (by kernel_rfl) (by kernel_rfl) ?_
                              repeat (go_big_quiet_step (first | (go_at_call 39; with_reducible exact later_of (H1.out _)) | (go_at_call 39; with_reducible exact later_of (H2.out _))))
                              refine wpQuiet_nil ?_
                              intro w7 hw7
                              have hx7 := later_out hw7
                              clear hw7
                              go_wp2_with fail
                              go_roundw
                              case rel => exact ⟨k + 1, _, by omega, by go_num, rfl, HXr.out.trans hx7⟩
                              case measure => simp [intOf]; omega
                            · obtain rfl : k = a.frs.n := by omega
                              go_wp2_with fail
                              go_ret
                              exact ⟨_, rfl, HX3.out.trans HXr.out⟩
end Go.Proofs.YtcdnodjcnofogaaGreatDoor
