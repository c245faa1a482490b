/-
  Walks: weight (its number), SmallExpr.
-/
import Derived.Test.YtcdnodjcnofogaaGreatDoorW2
namespace Go.Proofs.YtcdnodjcnofogaaGreatDoor
open Go.RowKit
set_option linter.unusedVariables false
set_option maxHeartbeats 1000000
set_option maxRecDepth 100000

mutual
/-- the weight that the reference reckons -/
def Ex.wt : Ex → Int
  | .mk d ks => wtL (wrap64 (wrap64 (wrap64 (1 + (d.tb.size : Int)) + d.nm.size) + d.vt.size)) ks
def wtL : Int → List Ex → Int
  | r, [] => r
  | r, e :: es => if r < 1000 then wtL (wrap64 (r + e.wt)) es else r
end
theorem wtL_full {r : Int} (h : ¬ r < 1000) (l : List Ex) : wtL r l = r := by
  cases l with
  | nil => rfl
  | cons e l => rw [wtL, if_neg h]
theorem wtL_step {r : Int} {l : List Ex} {k : Nat} {e : Ex} (h : r < 1000) (he : l[k]? = some e) : wtL r (l.drop k) = wtL (wrap64 (r + e.wt)) (l.drop (k + 1)) := by
  obtain ⟨hi, rfl⟩ := List.getElem?_eq_some_iff.1 he
  rw [List.drop_eq_getElem_cons hi, wtL, if_pos h]
theorem wtL_end {r : Int} {l : List Ex} {k : Nat} (h : l.length ≤ k) : wtL r (l.drop k) = r := by
  rw [List.drop_eq_nil_of_le h, wtL]
theorem weight_any : ∀ (e : Ex) (A : Option Addr) (n c : Nat) (w : World), ExV w e A n c →
    Calls Tryz.prog 38 #[e.d.val A n c] w fun r w' => r = .returned (.int .i64 e.wt) ∧ Ext w w' := by
  intro e
  induction e using Ex.ind with
  | h d ks ih =>
    intro A n c w hv
    obtain ⟨h1, h2, h3, h4⟩ := hv
    have HL : Hid (ks.length = n) := h1
    have HK : Hid (KidsAt w A ks) := h4
    have HI := hid ih
    have HW : Hid ((Ex.mk d ks).wt = wtL (wrap64 (wrap64 (wrap64 (1 + (d.tb.size : Int)) + d.nm.size) + d.vt.size)) ks) := by unfold Hid; rw [Ex.wt]
    clear h1 h4 ih h3
    generalize (Ex.mk d ks).wt = V at *
    unfold Nd.val
    simp only [Ex.d]
    obtain ⟨op, tb, nm, ix, vk, vi, vt⟩ := d
    simp only at *
    have HB := hid (Blk.of_new w 35 [.int .i64 op, .string tb, .string nm, .int .i64 ix, .int .i64 vk, .int .i64 vi, .string vt, .slice A n c])
    have HX := hid ((Ext.refl w).alloc (.cells #[.int .i64 op, .string tb, .string nm, .int .i64 ix, .int .i64 vk, .int .i64 vi, .string vt, .slice A n c] 35))
    go_enter Tryz.func38, Tryz.ntmps38
    go_wp2_with fail
    generalize wrap64 (wrap64 (wrap64 (1 + (tb.size : Int)) + nm.size) + vt.size) = r0 at *
    generalize w.alloc (.cells #[.int .i64 op, .string tb, .string nm, .int .i64 ix, .int .i64 vk, .int .i64 vi, .string vt, .slice A n c] 35) = w1 at *
    generalize w.heap.size = g at *
    go_loopw [3, 4] (fun nv iv wr => ∃ (r : Int) (k : Nat), V = wtL r (ks.drop k) ∧ k ≤ n ∧ nv = .int .i64 r ∧ iv = .int .i64 k ∧ Ext w1 wr) (fun _ i _ => n - (intOf i).toNat)
    case atStart => exact ⟨r0, 0, HW.out, Nat.zero_le _, rfl, rfl, Ext.refl w1⟩
    case round =>
      obtain ⟨r, k, hr, hk, rfl, rfl, hxr⟩ := hrel
      have HXr := hid hxr
      have HRr := hid hr
      have c7 := (HB.out.ext hxr).cell 7
      simp only [List.getElem?_cons_succ, List.getElem?_cons_zero] at c7
      clear hr
      by_cases hlt : k < n
      · obtain ⟨e', he⟩ := at_lt HL.out hlt
        obtain ⟨b, off, A', n', c', rfl, q0, q1, q2, q3, q4, q5, q6, q7, hv'⟩ := ((HK.out.ext HX.out).ext hxr).get he
        have HV := hid hv'
        have HM := hid (mem_at he)
        have HE := hid he
        clear he hv' hxr
        by_cases hr1 : r < 1000
        · have d1 : decide (r < 1000) = true := by simpa using hr1
          have HR1 := hid hr1
          clear hr1
          go_wp2_with (go_at_call 38; refine (HI.out e' HM.out A' n' c' _ HV.out).mono ?_; rintro _ w2 ⟨rfl, hx2⟩)
          go_roundw
          case rel => exact ⟨_, k + 1, HRr.out.trans (wtL_step HR1.out HE.out), by omega, rfl, by go_num, HXr.out.trans hx2⟩
          case measure => simp [intOf]; omega
        · have d1 : decide (r < 1000) = false := by simpa using hr1
          have HR1 := hid hr1
          clear hr1
          go_wp2_with fail
          go_ret
          exact ⟨ret_int (HRr.out.trans (wtL_full (by have := HR1.out; omega) _)).symm, HX.out.trans HXr.out⟩
      · go_wp2_with fail
        go_ret
        exact ⟨ret_int (HRr.out.trans (wtL_end (by have := HL.out; omega))).symm, HX.out.trans HXr.out⟩
/-- small enough for the statements -/
def Ex.small (e : Ex) : Bool := decide (e.wt ≤ 600)
theorem smallx_any (e : Ex) (A : Option Addr) (n c : Nat) (w : World) (hv : ExV w e A n c) :
    Calls Tryz.prog 16 #[e.d.val A n c] w fun r w' => r = .returned (.bool e.small) ∧ Ext w w' := by
  have HW := hid (fun W (hW : Ext w W) => weight_any e A n c W (hv.ext hW))
  have HS : Hid (e.small = decide (e.wt ≤ 600)) := rfl
  generalize e.small = b at *
  generalize e.wt = V at *
  clear hv
  unfold Nd.val at *
  generalize e.d = d at *
  obtain ⟨op, tb, nm, ix, vk, vi, vt⟩ := d
  simp only at *
  have HX := hid ((Ext.refl w).alloc (.cells #[.int .i64 op, .string tb, .string nm, .int .i64 ix, .int .i64 vk, .int .i64 vi, .string vt, .slice A n c] 35))
  go_enter Tryz.func16, Tryz.ntmps16
  go_wp2_with (go_at_call 38; refine (HW.out _ HX.out).mono ?_; rintro _ w2 ⟨rfl, hx2⟩)
  go_ret
  exact ⟨ret_bool HS.out.symm, HX.out.trans hx2⟩
end Go.Proofs.YtcdnodjcnofogaaGreatDoor
