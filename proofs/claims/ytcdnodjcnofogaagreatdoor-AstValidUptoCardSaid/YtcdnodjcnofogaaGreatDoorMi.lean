/-
  Walks: weight (its number), SmallExpr. · Walks: Small. · Walks: the law of Valid of a statement. · The wrap of a row that lists variables (with a condition of its own too), the world's shape kept; what the library's variables hold. · Top.
-/
import Derived.Test.YtcdnodjcnofogaaGreatDoorW2
import Derived.Test.YtcdnodjcnofogaaGreatDoorMg
import Derived.Test.YtcdnodjcnofogaaGreatDoorMf
import Derived.Deep.DeepHandedRow
import Derived.LaidLaws
import Derived.JoinedCond
import Derived.Handed
import Derived.SizedLaws
import Derived.Shelf.Vars
import Derived.Stop.LaidErr
import Derived.Lib.LaidTab
import Derived.LaidMore
import Derived.Stop.Joined
import Derived.MakeChecks
import Derived.Test.YtcdnodjcnofogaaGreatDoorW16
import Derived.Test.YtcdnodjcnofogaaGreatDoorRows
namespace Go.Proofs.YtcdnodjcnofogaaGreatDoor
open Go.RowKit
set_option linter.unusedVariables false
set_option maxHeartbeats 1000000
set_option maxRecDepth 100000

mutual
/-- the weight that the reference reckons -/
def Ex.wt : Ex → Int
  | .mk d ks => wtL (wrap64 (wrap64 (wrap64 (1 + (d.tb.size : Int)) + d.nm.size) + d.vt.size)) ks
def wtL : Int → List Ex → Int
  | r, [] => r
  | r, e :: es => if r < 1000 then wtL (wrap64 (r + e.wt)) es else r
end
theorem wtL_full {r : Int} (h : ¬ r < 1000) (l : List Ex) : wtL r l = r := by
  cases l with
  | nil => rfl
  | cons e l => rw [wtL, if_neg h]
theorem wtL_step {r : Int} {l : List Ex} {k : Nat} {e : Ex} (h : r < 1000) (he : l[k]? = some e) : wtL r (l.drop k) = wtL (wrap64 (r + e.wt)) (l.drop (k + 1)) := by
  obtain ⟨hi, rfl⟩ := List.getElem?_eq_some_iff.1 he
  rw [List.drop_eq_getElem_cons hi, wtL, if_pos h]
theorem wtL_end {r : Int} {l : List Ex} {k : Nat} (h : l.length ≤ k) : wtL r (l.drop k) = r := by
  rw [List.drop_eq_nil_of_le h, wtL]
theorem weight_any : ∀ (e : Ex) (A : Option Addr) (n c : Nat) (w : World), ExV w e A n c →
    Calls Tryz.prog 38 #[e.d.val A n c] w fun r w' => r = .returned (.int .i64 e.wt) ∧ Ext w w' := by
  intro e
  induction e using Ex.ind with
  | h d ks ih =>
    intro A n c w hv
    obtain ⟨h1, h2, h3, h4⟩ := hv
    have HL : Hid (ks.length = n) := h1
    have HK : Hid (KidsAt w A ks) := h4
    have HI := hid ih
    have HW : Hid ((Ex.mk d ks).wt = wtL (wrap64 (wrap64 (wrap64 (1 + (d.tb.size : Int)) + d.nm.size) + d.vt.size)) ks) := by unfold Hid; rw [Ex.wt]
    clear h1 h4 ih h3
    generalize (Ex.mk d ks).wt = V at *
    unfold Nd.val
    simp only [Ex.d]
    obtain ⟨op, tb, nm, ix, vk, vi, vt⟩ := d
    simp only at *
    have HB := hid (Blk.of_new w 35 [.int .i64 op, .string tb, .string nm, .int .i64 ix, .int .i64 vk, .int .i64 vi, .string vt, .slice A n c])
    have HX := hid ((Ext.refl w).alloc (.cells #[.int .i64 op, .string tb, .string nm, .int .i64 ix, .int .i64 vk, .int .i64 vi, .string vt, .slice A n c] 35))
    go_enter Tryz.func38, Tryz.ntmps38
    go_wp2_with fail
    generalize wrap64 (wrap64 (wrap64 (1 + (tb.size : Int)) + nm.size) + vt.size) = r0 at *
    generalize w.alloc (.cells #[.int .i64 op, .string tb, .string nm, .int .i64 ix, .int .i64 vk, .int .i64 vi, .string vt, .slice A n c] 35) = w1 at *
    generalize w.heap.size = g at *
    go_loopw [3, 4] (fun nv iv wr => ∃ (r : Int) (k : Nat), V = wtL r (ks.drop k) ∧ k ≤ n ∧ nv = .int .i64 r ∧ iv = .int .i64 k ∧ Ext w1 wr) (fun _ i _ => n - (intOf i).toNat)
    case atStart => exact ⟨r0, 0, HW.out, Nat.zero_le _, rfl, rfl, Ext.refl w1⟩
    case round =>
      obtain ⟨r, k, hr, hk, rfl, rfl, hxr⟩ := hrel
      have HXr := hid hxr
      have HRr := hid hr
      have c7 := (HB.out.ext hxr).cell 7
      simp only [List.getElem?_cons_succ, List.getElem?_cons_zero] at c7
      clear hr
      by_cases hlt : k < n
      · obtain ⟨e', he⟩ := at_lt HL.out hlt
        obtain ⟨b, off, A', n', c', rfl, q0, q1, q2, q3, q4, q5, q6, q7, hv'⟩ := ((HK.out.ext HX.out).ext hxr).get he
        have HV := hid hv'
        have HM := hid (mem_at he)
        have HE := hid he
        clear he hv' hxr
        by_cases hr1 : r < 1000
        · have d1 : decide (r < 1000) = true := by simpa using hr1
          have HR1 := hid hr1
          clear hr1
          go_wp2_with (go_at_call 38; refine (HI.out e' HM.out A' n' c' _ HV.out).mono ?_; rintro _ w2 ⟨rfl, hx2⟩)
          go_roundw
          case rel => exact ⟨_, k + 1, HRr.out.trans (wtL_step HR1.out HE.out), by omega, rfl, by go_num, HXr.out.trans hx2⟩
          case measure => simp [intOf]; omega
        · have d1 : decide (r < 1000) = false := by simpa using hr1
          have HR1 := hid hr1
          clear hr1
          go_wp2_with fail
          go_ret
          exact ⟨ret_int (HRr.out.trans (wtL_full (by have := HR1.out; omega) _)).symm, HX.out.trans HXr.out⟩
      · go_wp2_with fail
        go_ret
        exact ⟨ret_int (HRr.out.trans (wtL_end (by have := HL.out; omega))).symm, HX.out.trans HXr.out⟩
/-- small enough for the statements -/
def Ex.small (e : Ex) : Bool := decide (e.wt ≤ 600)
theorem smallx_any (e : Ex) (A : Option Addr) (n c : Nat) (w : World) (hv : ExV w e A n c) :
    Calls Tryz.prog 16 #[e.d.val A n c] w fun r w' => r = .returned (.bool e.small) ∧ Ext w w' := by
  have HW := hid (fun W (hW : Ext w W) => weight_any e A n c W (hv.ext hW))
  have HS : Hid (e.small = decide (e.wt ≤ 600)) := rfl
  generalize e.small = b at *
  generalize e.wt = V at *
  clear hv
  unfold Nd.val at *
  generalize e.d = d at *
  obtain ⟨op, tb, nm, ix, vk, vi, vt⟩ := d
  simp only at *
  have HX := hid ((Ext.refl w).alloc (.cells #[.int .i64 op, .string tb, .string nm, .int .i64 ix, .int .i64 vk, .int .i64 vi, .string vt, .slice A n c] 35))
  go_enter Tryz.func16, Tryz.ntmps16
  go_wp2_with (go_at_call 38; refine (HW.out _ HX.out).mono ?_; rintro _ w2 ⟨rfl, hx2⟩)
  go_ret
  exact ⟨ret_bool HS.out.symm, HX.out.trans hx2⟩
end Go.Proofs.YtcdnodjcnofogaaGreatDoor
namespace Go.Proofs.YtcdnodjcnofogaaGreatDoor
open Go.RowKit
set_option linter.unusedVariables false
set_option linter.unusedSimpArgs false
set_option maxHeartbeats 4000000
set_option maxRecDepth 100000

def sT1 (n : Int) (e : Ex) : Int := wrap64 (n + e.wt)
def sT2 (n : Int) (x : Asg) : Int := wrap64 (n + (x.cl.size : Int))
def sT3 (n : Int) (x : Src) : Int := wrap64 (n + wrap64 ((x.tb.size : Int) + (x.al.size : Int)))
def sT4 (n : Int) (x : Cd) : Int := wrap64 (n + (x.nm.size : Int))
def sT5 (n : Int) (x : List ByteArray) : Int := wrap64 (n + wideI x)
def sT6 (n : Int) (x : Rf) : Int := wrap64 (n + wrap64 (wrap64 (wideI x.cs + (x.tb.size : Int)) + wideI x.tg))
theorem fold_step {α : Type} {T : Int → α → Int} {l : List α} {k : Nat} {x : α} {n : Int} (h : l[k]? = some x) : (l.take (k + 1)).foldl T n = T ((l.take k).foldl T n) x := by
  obtain ⟨hi, rfl⟩ := List.getElem?_eq_some_iff.1 h
  rw [List.take_succ_eq_append_getElem hi, List.foldl_append]
  rfl
def sN0 (s : St) : Int := wrap64 (wrap64 (wrap64 (wrap64 (wrap64 (wrap64 (wrap64 ((s.tb.size : Int) + (s.nm.size : Int)) + (s.vals.length : Int)) + (s.frm.length : Int)) + (s.ord.length : Int)) + (s.cols.length : Int)) + (s.keys.length : Int)) + (s.frs.length : Int))
def St.small (s : St) : Bool := if 200 < sN0 s then false else decide (s.frs.foldl sT6 (s.keys.foldl sT5 (s.cols.foldl sT4 (s.frm.foldl sT3 (s.sets.foldl sT2 (s.rall.foldl sT1 (sN0 s)))))) ≤ 1200)
theorem smallS_any (s : St) (a : SA) (w : World) (hv : StV w s a) (hT : s.rall.length ≤ 100000000) :
    Calls Tryz.prog 13 #[s.val a] w fun r w' => r = .returned (.bool s.small) ∧ Ext w w' := by
  have HV := hid hv
  have HR : Hid (s.small = if 200 < sN0 s then false else decide (s.frs.foldl sT6 (s.keys.foldl sT5 (s.cols.foldl sT4 (s.frm.foldl sT3 (s.sets.foldl sT2 (s.rall.foldl sT1 (sN0 s)))))) ≤ 1200)) := rfl
  have HN1 : Hid (sN0 s = wrap64 (wrap64 (wrap64 (wrap64 (wrap64 (wrap64 (wrap64 ((s.tb.size : Int) + (s.nm.size : Int)) + (a.vals.n : Int)) + (a.frm.n : Int)) + (a.ord.n : Int)) + (a.cols.n : Int)) + (a.keys.n : Int)) + (a.frs.n : Int))) := by
    unfold Hid sN0; rw [hv.vals.1, hv.frm.1, hv.ord.1, hv.cols.1, hv.keys.1, hv.frs.1]
  generalize sN0 s = n1 at *
  generalize s.small = SB at *
  have HRA := hid (fun W (hW : Ext w W) => rall_any s a W (hv.ext hW) hT)
  have HB := hid (Blk.of_new w 38 (s.cells a))
  have HX := hid ((Ext.refl w).alloc (.cells (s.cells a).toArray 38))
  have hnR : s.rall.length ≤ 100000000 := hT
  have hsn := hv.sets.2.1
  have hfn := hv.frm.2.1
  have hcn := hv.cols.2.1
  have hkn := hv.keys.2.1
  have hrn := hv.frs.2.1
  obtain ⟨R, hR⟩ : ∃ R, s.rall = R := ⟨_, rfl⟩
  rw [hR] at HRA hnR HR
  clear hv hT hR
  obtain ⟨N0, hN0⟩ : ∃ N0, R.length = N0 := ⟨_, rfl⟩
  have HN0 := hid hN0
  rw [hN0] at hnR HRA
  clear hN0
  unfold St.val at *
  unfold St.cells at *
  unfold Sl.v at *
  have Hsets := hid HV.out.sets
  have Hfrm := hid HV.out.frm
  have Hcols := hid HV.out.cols
  have Hkeys := hid HV.out.keys
  have Hfrs := hid HV.out.frs
  generalize a.sets.A = P1 at *
  generalize a.frm.A = P2 at *
  generalize a.cols.A = P3 at *
  generalize a.keys.A = P4 at *
  generalize a.frs.A = P5 at *
  generalize s.whr.d = dw at *
  obtain ⟨wop, wtb, wnm, wix, wvk, wvi, wvt⟩ := dw
  simp only at *
  go_enter Tryz.func13, Tryz.ntmps13
  go_upto_region 1 with fail
  generalize hw1 : w.alloc (.cells _ 38) = w1 at *
  have HSz : Hid (w1.heap.size = w.heap.size + 1) := by unfold Hid; rw [← hw1]; simp
  clear hw1
  generalize w.heap.size = g at *
  have c2 := HB.out.cell 2
  have c3 := HB.out.cell 3
  have c4 := HB.out.cell 4
  have c5 := HB.out.cell 5
  simp only [List.getElem?_cons_succ, List.getElem?_cons_zero] at c2 c3 c4 c5
  go_upto_region 2 with fail
  have HB2 := hid (Blk.of_new w1 27 [.slice P3 a.cols.n a.cols.c, .slice P4 a.keys.n a.keys.c, .slice P5 a.frs.n a.frs.c, .slice a.chk.A a.chk.n a.chk.c])
  have HX2 := hid ((Ext.refl w1).alloc (.cells #[.slice P3 a.cols.n a.cols.c, .slice P4 a.keys.n a.keys.c, .slice P5 a.frs.n a.frs.c, .slice a.chk.A a.chk.n a.chk.c] 27))
  clear c2 c3 c4 c5
  generalize w1.alloc (.cells #[.slice P3 a.cols.n a.cols.c, .slice P4 a.keys.n a.keys.c, .slice P5 a.frs.n a.frs.c, .slice a.chk.A a.chk.n a.chk.c] 27) = w2 at *
  generalize w1.heap.size = g2 at *
  have HX2w := hid (HX.out.trans HX2.out)
  have c1 := (HB.out.ext HX2.out).cell 1
  have c6 := (HB.out.ext HX2.out).cell 6
  have c9 := (HB.out.ext HX2.out).cell 9
  have c19 := (HB.out.ext HX2.out).cell 19
  have c21 := (HB.out.ext HX2.out).cell 21
  simp only [List.getElem?_cons_succ, List.getElem?_cons_zero] at c1 c6 c9 c19 c21
  have d0 := HB2.out.cell 0
  have d1 := HB2.out.cell 1
  have d2 := HB2.out.cell 2
  simp only [List.getElem?_cons_succ, List.getElem?_cons_zero] at d0 d1 d2
  go_cut [4] from 12 to 45 (fun nv wx => nv = .int .i64 n1 ∧ wx = w2)
  case first =>
    go_wp2_with fail
    go_meet
    exact ⟨by rw [HN1.out], rfl⟩
  case rest =>
    obtain ⟨rfl, rfl⟩ := hcut
    clear HN1
    by_cases hx0 : (200 : Int) < n1
    · go_wp2_with fail
      go_ret
      exact ⟨ret_bool (by rw [HR.out, if_pos hx0]), HX2w.out⟩
    · clear c1 c6 c9 c19 c21 d0 d1 d2
      go_wp2_with (first | (refine wpList_load_blk rfl 38 (.tmp 1) rfl g rfl 38 _ _ (HB.out.ext HX2.out) Tryz.underlying38 rfl (by kernel_rfl) ?_) | (go_at_call 37; refine (HRA.out _ HX2w.out).mono ?_; rintro _ w3 ⟨A3, c3', rfl, hk3, hx3⟩))
      have HB3 := hid ((HB.out.ext HX2.out).ext hx3)
      have HC3 := hid (HB2.out.ext hx3)
      have HX3 := hid (HX2w.out.trans hx3)
      have HK3 := hid hk3
      clear hx3 hk3
      go_loopw [4, 6] (fun nv iv wr => ∃ (k : Nat), k ≤ N0 ∧ iv = .int .i64 k ∧ nv = .int .i64 ((R.take k).foldl sT1 n1) ∧ Ext w3 wr) (fun _ i _ => N0 - (intOf i).toNat)
      case atStart => exact ⟨0, Nat.zero_le _, rfl, by rw [List.take_zero, List.foldl_nil], Ext.refl w3⟩
      case round =>
        obtain ⟨k, hk, rfl, rfl, hxr⟩ := hrel
        generalize hxk : (R.take k).foldl sT1 n1 = x1 at *
        have HF1 := hid hxk
        clear hxk
        have HXr := hid hxr
        have cb := (HB3.out.ext hxr).cell 7
        simp only [List.getElem?_cons_succ, List.getElem?_cons_zero] at cb
        by_cases hlt : k < N0
        · obtain ⟨e, he⟩ := at_lt HN0.out hlt
          have HEl := hid he
          obtain ⟨b, off, A', n', c', rfl, q0, q1, q2, q3, q4, q5, q6, q7, hv'⟩ := (HK3.out.ext hxr).get he
          have HW := hid (weight_any e A' n' c' wr hv')
          clear he hv'
          unfold Nd.val at HW
          generalize hZ1 : e.wt = y at *
          have HZ1 := hid hZ1
          clear hZ1
          generalize e.d = d at *
          obtain ⟨op, tb, nm, ix, vk, vi, vt⟩ := d
          simp only at *
          go_wp2_with (go_at_call 38; refine HW.out.mono ?_; rintro _ w7 ⟨rfl, hx7⟩)
          go_roundw
          case rel => exact ⟨k + 1, by omega, by go_num, by rw [fold_step HEl.out, HF1.out]; unfold sT1; rw [HZ1.out], HXr.out.trans hx7⟩
          case measure => simp [intOf]; omega
        · obtain rfl : k = N0 := by omega
          rw [List.take_of_length_le (Nat.le_of_eq HN0.out)] at HF1
          go_wp2_with fail
          clear hxr cb
          go_loopw [4, 7] (fun nv iv wr => ∃ (k : Nat), k ≤ a.sets.n ∧ iv = .int .i64 k ∧ nv = .int .i64 ((s.sets.take k).foldl sT2 x1) ∧ Ext w3 wr) (fun _ i _ => a.sets.n - (intOf i).toNat)
          case atStart => exact ⟨0, Nat.zero_le _, rfl, by rw [List.take_zero, List.foldl_nil], HXr.out⟩
          case round =>
            obtain ⟨k, hk, rfl, rfl, hxr⟩ := hrel
            generalize hxk : (s.sets.take k).foldl sT2 x1 = x2 at *
            have HF2 := hid hxk
            clear hxk
            have HXr := hid hxr
            have cb := (HB3.out.ext hxr).cell 7
            simp only [List.getElem?_cons_succ, List.getElem?_cons_zero] at cb
            by_cases hlt : k < a.sets.n
            · obtain ⟨y, hy⟩ := rat_lt Hsets.out.1 hlt
              have HEl := hid hy
              obtain ⟨_, b, off, A', n', c', hA, q0, _, _⟩ := Hsets.out.2.2 k y hy
              subst hA
              replace q0 := (HX3.out.trans hxr).keep q0
              go_wp2_with fail
              go_roundw
              case rel => exact ⟨k + 1, by omega, by go_num, by rw [fold_step HEl.out, HF2.out]; unfold sT2; with_reducible rfl, HXr.out⟩
              case measure => simp [intOf]; omega
            · obtain rfl : k = a.sets.n := by omega
              rw [List.take_of_length_le (Nat.le_of_eq Hsets.out.1)] at HF2
              go_wp2_with fail
              clear hxr cb
              go_loopw [4, 8] (fun nv iv wr => ∃ (k : Nat), k ≤ a.frm.n ∧ iv = .int .i64 k ∧ nv = .int .i64 ((s.frm.take k).foldl sT3 x2) ∧ Ext w3 wr) (fun _ i _ => a.frm.n - (intOf i).toNat)
              case atStart => exact ⟨0, Nat.zero_le _, rfl, by rw [List.take_zero, List.foldl_nil], HXr.out⟩
              case round =>
                obtain ⟨k, hk, rfl, rfl, hxr⟩ := hrel
                generalize hxk : (s.frm.take k).foldl sT3 x2 = x3 at *
                have HF3 := hid hxk
                clear hxk
                have HXr := hid hxr
                have cb := (HB3.out.ext hxr).cell 9
                simp only [List.getElem?_cons_succ, List.getElem?_cons_zero] at cb
                by_cases hlt : k < a.frm.n
                · obtain ⟨y, hy⟩ := rat_lt Hfrm.out.1 hlt
                  have HEl := hid hy
                  obtain ⟨_, b, off, hA, q0, q1⟩ := Hfrm.out.2.2 k y hy
                  subst hA
                  replace q0 := Later.keep ((HX3.out.trans hxr).keep q0)
                  replace q1 := Later.keep ((HX3.out.trans hxr).keep q1)
                  clear hy
                  have i0 : (0 : Int) ≤ (k : Int) := by omega
                  have i1 : (k : Int) < (a.frm.n : Int) := by omega
                  have cbl := Later.keep cb
                  go_wp2_with fail
                  refine wp_region_later (by kernel_rfl) (by kernel_rfl) ?_
                  repeat (go_big_quiet_step (fail))
                  refine wpQuiet_nil ?_
                  intro w7 hw7
                  have hx7 := later_out hw7
                  clear hw7
                  go_wp2_with fail
                  go_roundw
                  case rel => exact ⟨k + 1, by omega, by go_num, by rw [fold_step HEl.out, HF3.out]; unfold sT3; with_reducible rfl, HXr.out.trans hx7⟩
                  case measure => simp [intOf]; omega
                · obtain rfl : k = a.frm.n := by omega
                  rw [List.take_of_length_le (Nat.le_of_eq Hfrm.out.1)] at HF3
                  go_wp2_with fail
                  clear hxr cb
                  go_loopw [4, 9] (fun nv iv wr => ∃ (k : Nat), k ≤ a.cols.n ∧ iv = .int .i64 k ∧ nv = .int .i64 ((s.cols.take k).foldl sT4 x3) ∧ Ext w3 wr) (fun _ i _ => a.cols.n - (intOf i).toNat)
                  case atStart => exact ⟨0, Nat.zero_le _, rfl, by rw [List.take_zero, List.foldl_nil], HXr.out⟩
                  case round =>
                    obtain ⟨k, hk, rfl, rfl, hxr⟩ := hrel
                    generalize hxk : (s.cols.take k).foldl sT4 x3 = x4 at *
                    have HF4 := hid hxk
                    clear hxk
                    have HXr := hid hxr
                    have cb := (HC3.out.ext hxr).cell 0
                    simp only [List.getElem?_cons_succ, List.getElem?_cons_zero] at cb
                    by_cases hlt : k < a.cols.n
                    · obtain ⟨y, hy⟩ := rat_lt Hcols.out.1 hlt
                      have HEl := hid hy
                      obtain ⟨_, b, off, hA, q0, _⟩ := Hcols.out.2.2 k y hy
                      subst hA
                      replace q0 := (HX3.out.trans hxr).keep q0
                      go_wp2_with fail
                      go_roundw
                      case rel => exact ⟨k + 1, by omega, by go_num, by rw [fold_step HEl.out, HF4.out]; unfold sT4; with_reducible rfl, HXr.out⟩
                      case measure => simp [intOf]; omega
                    · obtain rfl : k = a.cols.n := by omega
                      rw [List.take_of_length_le (Nat.le_of_eq Hcols.out.1)] at HF4
                      go_wp2_with fail
                      clear hxr cb
                      go_loopw [4, 10] (fun nv iv wr => ∃ (k : Nat), k ≤ a.keys.n ∧ iv = .int .i64 k ∧ nv = .int .i64 ((s.keys.take k).foldl sT5 x4) ∧ Ext w3 wr) (fun _ i _ => a.keys.n - (intOf i).toNat)
                      case atStart => exact ⟨0, Nat.zero_le _, rfl, by rw [List.take_zero, List.foldl_nil], HXr.out⟩
                      case round =>
                        obtain ⟨k, hk, rfl, rfl, hxr⟩ := hrel
                        generalize hxk : (s.keys.take k).foldl sT5 x4 = x5 at *
                        have HF5 := hid hxk
                        clear hxk
                        have HXr := hid hxr
                        have cb := (HC3.out.ext hxr).cell 1
                        simp only [List.getElem?_cons_succ, List.getElem?_cons_zero] at cb
                        by_cases hlt : k < a.keys.n
                        · obtain ⟨y, hy⟩ := rat_lt Hkeys.out.1 hlt
                          have HEl := hid hy
                          obtain ⟨b, off, Ai, ni, ci, hA, q0, hyn, hym, hys⟩ := Hkeys.out.2.2 k y hy
                          subst hA
                          replace q0 := (HX3.out.trans hxr).keep q0
                          have HW := hid (wide_any y Ai ni ci wr hyn hym (hys.ext (HX3.out.trans hxr)))
                          clear hy hyn hys
                          generalize hZ5 : wideI y = z at *
                          have HZ5 := hid hZ5
                          clear hZ5
                          go_wp2_with (go_at_call 39; refine HW.out.mono ?_; rintro _ w7 ⟨rfl, hx7⟩)
                          go_roundw
                          case rel => exact ⟨k + 1, by omega, by go_num, by rw [fold_step HEl.out, HF5.out]; unfold sT5; rw [HZ5.out], HXr.out.trans hx7⟩
                          case measure => simp [intOf]; omega
                        · obtain rfl : k = a.keys.n := by omega
                          rw [List.take_of_length_le (Nat.le_of_eq Hkeys.out.1)] at HF5
                          go_wp2_with fail
                          clear hxr cb
                          go_loopw [4, 11] (fun nv iv wr => ∃ (k : Nat), k ≤ a.frs.n ∧ iv = .int .i64 k ∧ nv = .int .i64 ((s.frs.take k).foldl sT6 x5) ∧ Ext w3 wr) (fun _ i _ => a.frs.n - (intOf i).toNat)
                          case atStart => exact ⟨0, Nat.zero_le _, rfl, by rw [List.take_zero, List.foldl_nil], HXr.out⟩
                          case round =>
                            obtain ⟨k, hk, rfl, rfl, hxr⟩ := hrel
                            generalize hxk : (s.frs.take k).foldl sT6 x5 = x6 at *
                            have HF6 := hid hxk
                            clear hxk
                            have HXr := hid hxr
                            have cb := (HC3.out.ext hxr).cell 2
                            simp only [List.getElem?_cons_succ, List.getElem?_cons_zero] at cb
                            by_cases hlt : k < a.frs.n
                            · obtain ⟨y, hy⟩ := rat_lt Hfrs.out.1 hlt
                              have HEl := hid hy
                              obtain ⟨_, b, off, A1, n1, c1, A2, n2, c2, hA, q0, q1, q2, h1, h2, h3, h4, h5, h6⟩ := Hfrs.out.2.2 k y hy
                              subst hA
                              replace q0 := Later.keep ((HX3.out.trans hxr).keep q0)
                              replace q1 := Later.keep ((HX3.out.trans hxr).keep q1)
                              replace q2 := Later.keep ((HX3.out.trans hxr).keep q2)
                              have H1 : Hid (∀ z : Later wr, Calls Tryz.prog 39 #[.slice A1 n1 c1] z.now _) := fun z => wide_any y.cs A1 n1 c1 z.now h1 h2 (h3.ext ((HX3.out.trans hxr).trans z.ext))
                              have H2 : Hid (∀ z : Later wr, Calls Tryz.prog 39 #[.slice A2 n2 c2] z.now _) := fun z => wide_any y.tg A2 n2 c2 z.now h4 h5 (h6.ext ((HX3.out.trans hxr).trans z.ext))
                              clear hy h1 h2 h3 h4 h5 h6
                              generalize hZ6 : wideI y.cs = z1 at *
                              have HZ6 := hid hZ6
                              clear hZ6
                              generalize hZ7 : wideI y.tg = z2 at *
                              have HZ7 := hid hZ7
                              clear hZ7
                              have i0 : (0 : Int) ≤ (k : Int) := by omega
                              have i1 : (k : Int) < (a.frs.n : Int) := by omega
                              have cbl := Later.keep cb
                              go_wp2_with fail
                              refine wp_region_later (by kernel_rfl) (by kernel_rfl) ?_
                              repeat (go_big_quiet_step (first | (go_at_call 39; with_reducible exact later_of (H1.out _)) | (go_at_call 39; with_reducible exact later_of (H2.out _))))
                              refine wpQuiet_nil ?_
                              intro w7 hw7
                              have hx7 := later_out hw7
                              clear hw7
                              go_wp2_with fail
                              go_roundw
                              case rel => exact ⟨k + 1, by omega, by go_num, by rw [fold_step HEl.out, HF6.out]; unfold sT6; rw [HZ6.out, HZ7.out], HXr.out.trans hx7⟩
                              case measure => simp [intOf]; omega
                            · obtain rfl : k = a.frs.n := by omega
                              rw [List.take_of_length_le (Nat.le_of_eq Hfrs.out.1)] at HF6
                              go_wp2_with fail
                              go_ret
                              exact ⟨ret_bool (by rw [HR.out, if_neg (by omega), HF1.out, HF2.out, HF3.out, HF4.out, HF5.out, HF6.out]), HX3.out.trans HXr.out⟩
end Go.Proofs.YtcdnodjcnofogaaGreatDoor
namespace Go.Proofs.YtcdnodjcnofogaaGreatDoor
open Go.RowKit
set_option linter.unusedVariables false
set_option linter.unusedSimpArgs false
set_option maxHeartbeats 4000000
set_option maxRecDepth 100000

theorem quiet_load_blkg {P : Program} {ops : Array Oper} {C : World → Prop} {Q : Act → Prop} {rest : List Oper} {o : Oper} {a : Act} (hw : Region.wanted o (yielded ops a.tmps) = true) (ty : TypeId) (x : Operand) (ho : o.op = .load ty x)
    (g : Nat) (hx : a.eval x = .pointer (some ⟨g, 0, none⟩)) (t : TypeId) (cs : List Value) (d : TypeDesc) (hg : ∀ w, C w → Blk w g t cs)
    (hu : P.underlying ty = some d) (hd : (match d with | .struct _ | .array _ _ => true | _ => false) = true) (hi : (P.info? ty).map (·.size) = some cs.length)
    (h : wpQuiet P ops C Q rest (a.put o.dst (.agg cs.toArray))) : wpQuiet P ops C Q (o :: rest) a := by
  unfold wpQuiet
  rw [if_pos hw]
  refine ⟨.agg cs.toArray, fun w hC => ?_, h⟩
  unfold Oper.quietAt execOp
  simp only [ho, hx, Instr.loadAt, Instr.sureAddr, Sem.run_bind, Sem.run_pure, Result.andThen_ok, run_loadVar_row w g t ty cs.toArray (0, 0) d (hg w hC) hu hd (by simpa using hi)]
  exact ⟨rfl, rfl⟩
theorem law_valid (s : St) (a : SA) (w : World) (hv : StV w s a) (hb : s.bulk ≤ 1048576) (hc : CapK w a.keys.A a.keys.n ∧ CapR w a.frs.A a.frs.n) (hg : Gd w) :
    Calls Tryz.prog 3 #[s.val a] w fun r w' => r = .returned (.bool true) ∧ Ext w w' := by
  have HA := hid (fun W (hW : Ext w W) => awake_any W (hg.ext hW))
  have HS := hid (fun W (hW : Ext w W) => smallS_any s a W (hv.ext hW) (rallS_len s hb))
  have HF := hid (fun W (hW : Ext w W) => svalid_any s a W (hg.ext hW) (hv.ext hW) (hc.1.ext hW) (hc.2.ext hW) hb)
  have HT := hid (fun W (hW : Ext w W) => rsvalid_any s a W (hv.ext hW) hb)
  have HB := hid (Blk.of_new w 38 (s.cells a))
  have HX := hid ((Ext.refl w).alloc (.cells (s.cells a).toArray 38))
  clear hg hv hb hc
  generalize validS s = V at *
  generalize s.small = SB at *
  have hi1 : (Tryz.prog.info? 38).map (·.size) = some (s.cells a).length := by rw [show (s.cells a).length = 22 from rfl]; kernel_rfl
  unfold St.val at *
  generalize s.cells a = cs at *
  have HI1 := hid hi1
  clear hi1
  go_enter Tryz.func3, Tryz.ntmps3
  go_upto_region 1 with fail
  generalize w.alloc (.cells _ 38) = w1 at *
  generalize w.heap.size = g at *
  have K1 : Hid (∀ z : Later w1, Calls Tryz.prog 12 _ z.now _) := fun z => HA.out z.now (HX.out.trans z.ext)
  have K2 : Hid (∀ z : Later w1, Calls Tryz.prog 13 _ z.now _) := fun z => HS.out z.now (HX.out.trans z.ext)
  have K3 : Hid (∀ z : Later w1, Calls Tryz.prog 14 _ z.now _) := fun z => HF.out z.now (HX.out.trans z.ext)
  have K4 : Hid (∀ z : Later w1, Calls Tryz.prog 15 _ z.now _) := fun z => HT.out z.now (HX.out.trans z.ext)
  clear HA HS HF HT
  cases SB
  all_goals
    refine wp_region_later (by kernel_rfl) (by kernel_rfl) ?_
    repeat (first | (refine quiet_load_blkg rfl 38 (.tmp 1) rfl g rfl 38 _ _ (later_blk HB.out) Tryz.underlying38 rfl HI1.out ?_; go_simp) | go_big_quiet_step (first | (go_at_call 12; with_reducible exact later_of (K1.out _)) | (go_at_call 13; with_reducible exact later_of (K2.out _)) | (go_at_call 14; with_reducible exact later_of (K3.out _)) | (go_at_call 15; with_reducible exact later_of (K4.out _))))
    refine wpQuiet_nil ?_
    first | (intro w5 hw9; have hx9 := later_out hw9; clear hw9) | (intro xb; have hx9 := xb.ext; generalize xb.now = w5 at *; clear xb)
    go_wp2_with fail
    go_ret
    exact ⟨by simp, HX.out.trans hx9⟩
end Go.Proofs.YtcdnodjcnofogaaGreatDoor
namespace Go.Proofs.YtcdnodjcnofogaaGreatDoor
open Go Go.RowKit
set_option maxRecDepth 100000

section
variable {H : Type} {enc : TypeId × Value → H}
theorem handed_and {a : Assume} {C : Checked} {os : Os} {f : FuncId} {fn : Func} {s : ChangeSpec} {conds : List PathCond} {apart fresh handsOn again : Bool} {X : World → Array Value → Prop}
    (hX : ∀ (w w' : World) (args : Array Value), w.heap = w'.heap → X w args → X w' args)
    (own : ownKnob C.prog.godebug = none) (started : os.Started) (noInit : C.prog.inits.idxOf? f = none) (hfn : C.prog.funcs[f]? = some fn)
    (witness : ∃ (w : World) (tape : Tape) (i : Input), w.os = os ∧ (w.forCall tape i).Shaped C.prog ∧ i.vars = [] ∧ Input.okWide C.prog (w.forCall tape i) .any w.heap.size f i ∧
      ((s.pre enc C.prog fn conds apart (w.forCall tape i).memory i.args ∧ X (w.forCall tape i).memory i.args) ∧ sizedMet enc C.prog fn (OpenSpec.ofChange s) apart (w.forCall tape i).memory i.args) ∧ a.holds C.prog (lone (Frame.enter C.prog f i.args .normal) [] (w.forCall tape i)))
    (contract : ∀ (W : World) (base : Nat) (args : Array Value) (ds gs : List (DataW H)) (before : List MemPlace),
      (∀ (j : Nat) t v, fn.params[j]? = some t → args[j]? = some v → Value.okWide C.prog W .any base t v) →
      DataW.Whole enc C.prog fn.params.toList s.vars apart W args.toList ds gs before →
      conds.all (PathCond.test C.prog ⟨fn.params.toList, ds, s.plain.varTypes C.prog, gs⟩) = true →
      (DataW.weightsEach C.prog (fn.params.toList ++ s.plain.varTypes C.prog) (ds ++ gs)).all (· ≤ reachBytes) = true → X W args → W.ShapedOpen C.prog →
      a.holds C.prog (lone (Frame.enter C.prog f args .normal) [] W) →
      Calls C.prog f args W fun e W' => ∃ v, e = .returned v ∧ s.post enc C.prog fn apart fresh handsOn again W args v W') :
    ReturnsInHanded a C os f .any (fun w args => (s.pre enc C.prog fn conds apart w args ∧ X w args) ∧ sizedMet enc C.prog fn (OpenSpec.ofChange s) apart w args) (s.post enc C.prog fn apart fresh handsOn again) := by
  refine returnsInHanded_of_calls own started noInit witness ?_
  intro w tape i _ hsh _ hok hpre hholds
  obtain ⟨_, _, _, fn', hfn', _, _, _, _, hval⟩ := hok
  have e : fn' = fn := Option.some.inj (hfn'.symm.trans hfn)
  subst e
  obtain ⟨⟨⟨ds, gs, before, hw, hc⟩, hx⟩, hz⟩ := hpre
  have hw' := DataW.Whole.of_heap (w' := w.forCall tape i) (by rfl) hw
  refine (contract (w.forCall tape i) w.heap.size i.args ds gs before hval hw' hc (hz.weights hw) (hX _ _ _ (by rfl) hx) hsh hholds).mono fun e W' ⟨v, he, hp⟩ => ?_
  subst he
  exact ChangeSpec.post_blind hp
end

theorem sh_of {W : World} (h : W.ShapedOpen Tryz.prog) : Sh W :=
  cell_of_shapedOpen_int (g := 0) (t := 3) (zero := #[.int .i64 0]) h (by decide) (by kernel_rfl) rfl (by kernel_rfl) (by kernel_rfl) Tryz.underlying3
theorem tyTab : (Tryz.prog.globals[1]?).map (·.type) = some 185 := by kernel_rfl
theorem laid_tab {x0 x1 : String × DataW Unit} {r : List (String × DataW Unit)} {W : World} (h : laidMet Tryz.prog (x0 :: x1 :: ("internal/strconv.uint64pow10", Rows.laid_internal_strconv_uint64pow10) :: r) W) : Tab W := by
  have h2 := h.tail.tail
  have htab : Lib.TabIs Tryz.prog W "internal/strconv.uint64pow10" .u64 Lib.pow10Tab := Lib.tabIs_of_head gTab tyTab Tryz.underlying185 Tryz.underlying172 (by kernel_rfl) (by kernel_rfl) h2
  refine ⟨htab, ?_⟩
  have := cell_lt (htab.cell gTab 0 (by decide))
  exact this
theorem gd_of {x0 x1 : String × DataW Unit} {r : List (String × DataW Unit)} {W : World} (h : laidMetH Tryz.prog (x0 :: x1 :: ("internal/strconv.uint64pow10", Rows.laid_internal_strconv_uint64pow10) :: r) W)
    (hp : laidMetH Tryz.prog (x0 :: x1 :: ("internal/strconv.uint64pow10", Rows.laid_internal_strconv_uint64pow10) :: r) W = laidMet Tryz.prog (x0 :: x1 :: ("internal/strconv.uint64pow10", Rows.laid_internal_strconv_uint64pow10) :: r) W) (hs : W.ShapedOpen Tryz.prog) : Gd W := ⟨sh_of hs, laid_tab (hp ▸ h)⟩
section
variable {H : Type} {enc : TypeId × Value → H}
theorem witness_upto {C : Checked} {os : Os} {f : FuncId} {fn : Func} {s : OpenSpec} {conds : List PathCond} {apart : Bool} {laid : List (String × DataW Unit)} (w0 : World) (args : Array Value) (hos : w0.os = os)
    (hsh : (w0.forCall (fun _ _ => 0) ⟨#[], args, []⟩).Shaped C.prog)
    (hok : Input.okWideB C.prog (w0.forCall (fun _ _ => 0) ⟨#[], args, []⟩) f ⟨#[], args, []⟩ = true)
    (hrow : s.preRow enc C.prog fn conds apart laid (w0.forCall (fun _ _ => 0) ⟨#[], args, []⟩).memory args) :
    ∃ (w : World) (tape : Tape) (i : Input), w.os = os ∧ (w.forCall tape i).Shaped C.prog ∧ i.vars = [] ∧ Input.okWide C.prog (w.forCall tape i) .any w.heap.size f i ∧
      s.preRow enc C.prog fn conds apart laid (w.forCall tape i).memory i.args ∧ ({} : Assume).holds C.prog (lone (Frame.enter C.prog f i.args .normal) [] (w.forCall tape i)) :=
  ⟨w0, fun _ _ => 0, ⟨#[], args, []⟩, hos, hsh, (Input.okWide_of_okWideB (base := 0) hok).1, (Input.okWide_of_okWideB hok).2, hrow, by
    simp only [Assume.holds]
    exact ⟨by simp, by simp, fun _ => Modest.zero, by simp, by simp⟩⟩
theorem preRow_of_test {P : Program} {f : Func} {s : OpenSpec} {conds : List PathCond} {apart : Bool} {laid : List (String × DataW Unit)} {w : World} {args : Array Value} (fuel : Nat) (k : (H : Type) → List (DataW H) → Bool) (hk : s.cond = some k)
    (ht : (DataW.whole enc P w f.params.toList s.vars apart args.toList fuel).any (fun x => conds.all (PathCond.test P ⟨f.params.toList, x.1, s.bare.plain.varTypes P, x.2.1⟩) && k H (x.1 ++ x.2.1)) = true)
    (hsz : s.bare.sizedB enc P f apart w args fuel = true) (hl : laidMetH P laid w) : s.preRow enc P f conds apart laid w args := by
  cases hx : DataW.whole enc P w f.params.toList s.vars apart args.toList fuel with
  | none => rw [hx] at ht; cases ht
  | some x =>
    rw [hx] at ht
    have h : conds.all (PathCond.test P ⟨f.params.toList, x.1, s.bare.plain.varTypes P, x.2.1⟩) = true ∧ k H (x.1 ++ x.2.1) = true := by simpa using ht
    exact OpenSpec.preRow_of_cond fuel hx h.1 (fun k' hk' => by rw [hk] at hk'; cases hk'; exact h.2) hsz hl
end
end Go.Proofs.YtcdnodjcnofogaaGreatDoor
namespace Go.Proofs.YtcdnodjcnofogaaGreatDoor
end Go.Proofs.YtcdnodjcnofogaaGreatDoor
