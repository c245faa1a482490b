/-
  Walks: weight, Nodes, Depth.
-/
import Derived.Test.YtcdnodjcnofogaaGreatDoorProg
import Derived.Test.YtcdnodjcnofogaaGreatDoorMem
import Derived.Test.YtcdnodjcnofogaaGreatDoorOwn
namespace Go.Proofs.YtcdnodjcnofogaaGreatDoor
open Go.RowKit
set_option linter.unusedVariables false
set_option maxHeartbeats 1000000
set_option maxRecDepth 100000

/-- some number -/
def SomeI (e : Ending) : Prop := ∃ r : Int, I64 r ∧ e = .returned (.int .i64 r)
theorem i64_wrap (x : Int) : I64 (wrap64 x) := by unfold I64 wrap64; omega
theorem mem_at {l : List Ex} {i : Nat} {e : Ex} (h : l[i]? = some e) : e ∈ l := List.mem_of_getElem? h
theorem at_lt {l : List Ex} {i n : Nat} (hl : l.length = n) (h : i < n) : ∃ e, l[i]? = some e := ⟨_, List.getElem?_eq_getElem (by omega)⟩
theorem take_at {l : List Ex} {i : Nat} {e : Ex} (h : l[i]? = some e) : l.take (i + 1) = l.take i ++ [e] := by
  obtain ⟨hi, rfl⟩ := List.getElem?_eq_some_iff.1 h
  exact List.take_succ_eq_append_getElem hi

theorem weight_some : ∀ (e : Ex) (A : Option Addr) (n c : Nat) (w : World), ExV w e A n c →
    Calls Tryz.prog 38 #[e.d.val A n c] w fun r w' => SomeI r ∧ Ext w w' := by
  intro e
  induction e using Ex.ind with
  | h d ks ih =>
    intro A n c w hv
    obtain ⟨h1, h2, h3, h4⟩ := hv
    have HL := hid h1
    have HK := hid h4
    have HI := hid ih
    clear h1 h4 ih h3
    unfold Nd.val
    simp only [Ex.d]
    obtain ⟨op, tb, nm, ix, vk, vi, vt⟩ := d
    simp only
    have HB := hid (Blk.of_new w 35 [.int .i64 op, .string tb, .string nm, .int .i64 ix, .int .i64 vk, .int .i64 vi, .string vt, .slice A n c])
    have HX := hid ((Ext.refl w).alloc (.cells #[.int .i64 op, .string tb, .string nm, .int .i64 ix, .int .i64 vk, .int .i64 vi, .string vt, .slice A n c] 35))
    go_enter Tryz.func38, Tryz.ntmps38
    go_wp2_with fail
    obtain ⟨r0, hr0⟩ : ∃ r0, wrap64 (wrap64 (wrap64 (1 + (tb.size : Int)) + nm.size) + vt.size) = r0 := ⟨_, rfl⟩
    have HR0 : Hid (I64 r0) := by unfold Hid; rw [← hr0]; exact i64_wrap _
    rw [hr0]
    clear hr0
    generalize w.alloc (.cells #[.int .i64 op, .string tb, .string nm, .int .i64 ix, .int .i64 vk, .int .i64 vi, .string vt, .slice A n c] 35) = w1 at *
    generalize w.heap.size = g at *
    go_loopw [3, 4] (fun nv iv wr => ∃ (r : Int) (k : Nat), I64 r ∧ k ≤ n ∧ nv = .int .i64 r ∧ iv = .int .i64 k ∧ Ext w1 wr) (fun _ i _ => n - (intOf i).toNat)
    case atStart => exact ⟨r0, 0, HR0.out, Nat.zero_le _, rfl, rfl, Ext.refl w1⟩
    case round =>
      obtain ⟨r, k, hr, hk, rfl, rfl, hxr⟩ := hrel
      have HXr := hid hxr
      have HRr := hid hr
      have c7 := (HB.out.ext hxr).cell 7
      simp only [List.getElem?_cons_succ, List.getElem?_cons_zero] at c7
      by_cases hlt : k < n
      · obtain ⟨e', he⟩ := at_lt HL.out hlt
        obtain ⟨b, off, A', n', c', rfl, q0, q1, q2, q3, q4, q5, q6, q7, hv'⟩ := ((HK.out.ext HX.out).ext hxr).get he
        have HV := hid hv'
        have HM := hid (mem_at he)
        clear he hv' hxr hr
        go_wp2_with (go_at_call 38; refine (HI.out e' HM.out A' n' c' _ HV.out).mono ?_; rintro _ w2 ⟨⟨r2, hr2, rfl⟩, hx2⟩; have HR2 := hid hr2; clear hr2)
        · go_roundw
          case rel => exact ⟨_, k + 1, i64_wrap _, by omega, rfl, by go_num, HXr.out.trans hx2⟩
          case measure => simp [intOf]; omega
        · go_ret
          exact ⟨⟨_, HRr.out, rfl⟩, HX.out.trans HXr.out⟩
      · go_wp2_with fail
        go_ret
        exact ⟨⟨_, HRr.out, rfl⟩, HX.out.trans HXr.out⟩
end Go.Proofs.YtcdnodjcnofogaaGreatDoor
