/-
  Walks: the reference's Formed.
-/
import Derived.Test.YtcdnodjcnofogaaGreatDoorW10
namespace Go.Proofs.YtcdnodjcnofogaaGreatDoor
open Go.RowKit
set_option linter.unusedVariables false
set_option linter.unusedSimpArgs false
set_option maxHeartbeats 4000000
set_option maxRecDepth 100000

/-- what a walk of Formed needs -/
structure RC (ks : List Ex) (tb nm vt : ByteArray) (A : Option Addr) (n c : Nat) (w : World) : Prop where
  tb : tb.size ≤ 9223372036854775807
  nm : nm.size ≤ 9223372036854775807
  vt : vt.size ≤ 9223372036854775807
  len : ks.length = n
  le : n ≤ 9223372036854775807
  kids : KidsAt w A ks
  call : ∀ x ∈ ks, ∀ (A' : Option Addr) (n' c' : Nat) (W : World), ExV W x A' n' c' → Calls Tryz.prog 48 #[x.d.val A' n' c'] W fun r W' => r = .returned (.bool x.formed) ∧ Ext W W'
theorem rc1 (op : Int) (tb nm vt : ByteArray) (ix vk vi : Int) (A : Option Addr) (n c : Nat) (w : World) (ks : List Ex) (h : RC ks tb nm vt A n c w) (bN : (opN op != (n : Int)) = true) :
    Calls Tryz.prog 48 #[.agg #[.int .i64 op, .string tb, .string nm, .int .i64 ix, .int .i64 vk, .int .i64 vi, .string vt, .slice A n c]] w fun r w' => r = .returned (.bool false) ∧ Ext w w' := by
  have H := hid h
  clear h
  have HB := hid (Blk.of_new w 35 [.int .i64 op, .string tb, .string nm, .int .i64 ix, .int .i64 vk, .int .i64 vi, .string vt, .slice A n c])
  have HX := hid ((Ext.refl w).alloc (.cells #[.int .i64 op, .string tb, .string nm, .int .i64 ix, .int .i64 vk, .int .i64 vi, .string vt, .slice A n c] 35))
  have hle := H.out.le
  go_enter Tryz.func48, Tryz.ntmps48
  go_wp2_with fail
  generalize w.alloc (.cells #[.int .i64 op, .string tb, .string nm, .int .i64 ix, .int .i64 vk, .int .i64 vi, .string vt, .slice A n c] 35) = w1 at *
  generalize w.heap.size = g at *
  have k0 := Later.keep (HB.out.cell_some (i := 0) rfl)
  have k7 := Later.keep (HB.out.cell_some (i := 7) rfl)
  refine wp_region_later (by kernel_rfl) (by kernel_rfl) ?_
  repeat (go_big_quiet_step ((go_at_call 103; exact later_same (args_any _ _))))
  refine wpQuiet_nil ?_
  intro w2 hw2
  have hx2 := later_out hw2
  clear hw2 k0 k7
  have HX2 := hid (HX.out.trans hx2)
  have HB2 := hid (HB.out.ext hx2)
  clear hx2
  go_wp2_with fail
  go_ret
  exact ⟨rfl, HX2.out⟩
theorem rc2 (op : Int) (tb nm vt : ByteArray) (ix vk vi : Int) (A : Option Addr) (n c : Nat) (w : World) (ks : List Ex) (h : RC ks tb nm vt A n c w) (HAll : Hid (ks.any (fun x => !x.formed) = true)) (bN : (opN op != (n : Int)) = false)  :
    Calls Tryz.prog 48 #[.agg #[.int .i64 op, .string tb, .string nm, .int .i64 ix, .int .i64 vk, .int .i64 vi, .string vt, .slice A n c]] w fun r w' => r = .returned (.bool false) ∧ Ext w w' := by
  have H := hid h
  clear h
  have HB := hid (Blk.of_new w 35 [.int .i64 op, .string tb, .string nm, .int .i64 ix, .int .i64 vk, .int .i64 vi, .string vt, .slice A n c])
  have HX := hid ((Ext.refl w).alloc (.cells #[.int .i64 op, .string tb, .string nm, .int .i64 ix, .int .i64 vk, .int .i64 vi, .string vt, .slice A n c] 35))
  have hle := H.out.le
  go_enter Tryz.func48, Tryz.ntmps48
  go_wp2_with fail
  generalize w.alloc (.cells #[.int .i64 op, .string tb, .string nm, .int .i64 ix, .int .i64 vk, .int .i64 vi, .string vt, .slice A n c] 35) = w1 at *
  generalize w.heap.size = g at *
  have k0 := Later.keep (HB.out.cell_some (i := 0) rfl)
  have k7 := Later.keep (HB.out.cell_some (i := 7) rfl)
  refine wp_region_later (by kernel_rfl) (by kernel_rfl) ?_
  repeat (go_big_quiet_step ((go_at_call 103; exact later_same (args_any _ _))))
  refine wpQuiet_nil ?_
  intro w2 hw2
  have hx2 := later_out hw2
  clear hw2 k0 k7
  have HX2 := hid (HX.out.trans hx2)
  have HB2 := hid (HB.out.ext hx2)
  clear hx2
  go_wp2_with fail
  go_loopw [3] (fun iv wr => ∃ k : Nat, k ≤ n ∧ iv = .int .i64 k ∧ (ks.take k).any (fun x => !x.formed) = false ∧ Ext w2 wr) (fun i _ => n - (intOf i).toNat)
  case atStart => exact ⟨0, Nat.zero_le _, rfl, rfl, Ext.refl w2⟩
  case round =>
    obtain ⟨k, hk, rfl, hv, hxr⟩ := hrel
    have HXr := hid hxr
    have HVr := hid hv
    have hBr := HB2.out.ext hxr
    have c0 := hBr.cell 0
    have c1 := hBr.cell 1
    have c2 := hBr.cell 2
    have c4 := hBr.cell 4
    have c5 := hBr.cell 5
    have c6 := hBr.cell 6
    have c7 := hBr.cell 7
    simp only [List.getElem?_cons_succ, List.getElem?_cons_zero] at c0 c1 c2 c4 c5 c6 c7
    clear hBr hv
    by_cases hlt : k < n
    · obtain ⟨e', he⟩ := at_lt H.out.len hlt
      obtain ⟨b', off', A', n', c', hA, q0, q1, q2, q3, q4, q5, q6, q7, hv'⟩ := ((H.out.kids.ext HX2.out).ext hxr).get he
      subst hA
      have HC := hid (H.out.call e' (mem_at he) A' n' c' _ hv')
      obtain ⟨z, hz⟩ : ∃ z, e'.formed = z := ⟨_, rfl⟩
      have HFm := hid hz
      have HV1 : Hid (z = true → (ks.take (k + 1)).any (fun x => !x.formed) = false) := fun h => any_step he HVr.out (by simp [hz, h])
      clear hz
      clear he hv' hxr
      cases z
      · go_wp2_with (go_at_call 48; refine HC.out.mono ?_; rintro _ w3 ⟨rfl, hx3⟩; rw [HFm.out])
        go_ret
        exact ⟨rfl, (HX2.out.trans HXr.out).trans hx3⟩
      · go_wp2_with (go_at_call 48; refine HC.out.mono ?_; rintro _ w3 ⟨rfl, hx3⟩; rw [HFm.out])
        go_roundw
        case rel => exact ⟨k + 1, by omega, by go_num, HV1.out (by first | rfl | trivial), HXr.out.trans hx3⟩
        case measure => simp [intOf]; omega
    · obtain rfl : k = n := by omega
      have HX3 := hid (HX2.out.trans HXr.out)
      exact absurd (any_end H.out.len HVr.out) (by rw [HAll.out]; simp)
theorem rc3a (op : Int) (tb nm vt : ByteArray) (ix vk vi : Int) (A : Option Addr) (n c : Nat) (w : World) (ks : List Ex) (h : RC ks tb nm vt A n c w) (HAll : Hid (ks.any (fun x => !x.formed) = false)) (bN : (opN op != (n : Int)) = false) (b2 : (op == 2) = true) (HN1 : Hid (nameB nm = false)) :
    Calls Tryz.prog 48 #[.agg #[.int .i64 op, .string tb, .string nm, .int .i64 ix, .int .i64 vk, .int .i64 vi, .string vt, .slice A n c]] w fun r w' => r = .returned (.bool false) ∧ Ext w w' := by
  have H := hid h
  clear h
  have HB := hid (Blk.of_new w 35 [.int .i64 op, .string tb, .string nm, .int .i64 ix, .int .i64 vk, .int .i64 vi, .string vt, .slice A n c])
  have HX := hid ((Ext.refl w).alloc (.cells #[.int .i64 op, .string tb, .string nm, .int .i64 ix, .int .i64 vk, .int .i64 vi, .string vt, .slice A n c] 35))
  have hle := H.out.le
  go_enter Tryz.func48, Tryz.ntmps48
  go_wp2_with fail
  generalize w.alloc (.cells #[.int .i64 op, .string tb, .string nm, .int .i64 ix, .int .i64 vk, .int .i64 vi, .string vt, .slice A n c] 35) = w1 at *
  generalize w.heap.size = g at *
  have k0 := Later.keep (HB.out.cell_some (i := 0) rfl)
  have k7 := Later.keep (HB.out.cell_some (i := 7) rfl)
  refine wp_region_later (by kernel_rfl) (by kernel_rfl) ?_
  repeat (go_big_quiet_step ((go_at_call 103; exact later_same (args_any _ _))))
  refine wpQuiet_nil ?_
  intro w2 hw2
  have hx2 := later_out hw2
  clear hw2 k0 k7
  have HX2 := hid (HX.out.trans hx2)
  have HB2 := hid (HB.out.ext hx2)
  clear hx2
  go_wp2_with fail
  go_loopw [3] (fun iv wr => ∃ k : Nat, k ≤ n ∧ iv = .int .i64 k ∧ (ks.take k).any (fun x => !x.formed) = false ∧ Ext w2 wr) (fun i _ => n - (intOf i).toNat)
  case atStart => exact ⟨0, Nat.zero_le _, rfl, rfl, Ext.refl w2⟩
  case round =>
    obtain ⟨k, hk, rfl, hv, hxr⟩ := hrel
    have HXr := hid hxr
    have HVr := hid hv
    have hBr := HB2.out.ext hxr
    have c0 := hBr.cell 0
    have c1 := hBr.cell 1
    have c2 := hBr.cell 2
    have c4 := hBr.cell 4
    have c5 := hBr.cell 5
    have c6 := hBr.cell 6
    have c7 := hBr.cell 7
    simp only [List.getElem?_cons_succ, List.getElem?_cons_zero] at c0 c1 c2 c4 c5 c6 c7
    clear hBr hv
    by_cases hlt : k < n
    · obtain ⟨e', he⟩ := at_lt H.out.len hlt
      obtain ⟨b', off', A', n', c', hA, q0, q1, q2, q3, q4, q5, q6, q7, hv'⟩ := ((H.out.kids.ext HX2.out).ext hxr).get he
      subst hA
      have HC := hid (H.out.call e' (mem_at he) A' n' c' _ hv')
      have HFm : Hid (e'.formed = true) := by
        unfold Hid
        cases hf : e'.formed
        · rw [any_take (p := fun x => !x.formed) he (by simp [hf])] at HAll
          exact absurd HAll.out (by simp)
        · rfl
      have HV1 : Hid ((ks.take (k + 1)).any (fun x => !x.formed) = false) := any_step he HVr.out (by simp [HFm.out])
      clear he hv' hxr
      go_wp2_with (go_at_call 48; refine HC.out.mono ?_; rintro _ w3 ⟨rfl, hx3⟩; rw [HFm.out])
      go_roundw
      case rel => exact ⟨k + 1, by omega, by go_num, HV1.out, HXr.out.trans hx3⟩
      case measure => simp [intOf]; omega
    · obtain rfl : k = n := by omega
      have HX3 := hid (HX2.out.trans HXr.out)
      go_wp2_with (go_at_call 89; (with_reducible refine (rname_any nm _ H.out.nm).mono ?_); rintro _ w4 ⟨rfl, hx4⟩; rw [HN1.out]; have d4 := hx4.keep c4; have d5 := hx4.keep c5; have d6 := hx4.keep c6; have d1 := hx4.keep c1)
      go_ret
      exact ⟨rfl, HX3.out.trans hx4⟩
theorem rc3b (op : Int) (nm vt : ByteArray) (ix vk vi : Int) (A : Option Addr) (n c : Nat) (w : World) (ks : List Ex) (h : RC ks ⟨#[]⟩ nm vt A n c w) (HAll : Hid (ks.any (fun x => !x.formed) = false)) (bN : (opN op != (n : Int)) = false) (b2 : (op == 2) = true) (HN1 : Hid (nameB nm = true)) :
    Calls Tryz.prog 48 #[.agg #[.int .i64 op, .string ⟨#[]⟩, .string nm, .int .i64 ix, .int .i64 vk, .int .i64 vi, .string vt, .slice A n c]] w fun r w' => r = .returned (.bool (vk == 0 && vi == 0 && vt.size == 0)) ∧ Ext w w' := by
  have H := hid h
  clear h
  have HB := hid (Blk.of_new w 35 [.int .i64 op, .string ⟨#[]⟩, .string nm, .int .i64 ix, .int .i64 vk, .int .i64 vi, .string vt, .slice A n c])
  have HX := hid ((Ext.refl w).alloc (.cells #[.int .i64 op, .string ⟨#[]⟩, .string nm, .int .i64 ix, .int .i64 vk, .int .i64 vi, .string vt, .slice A n c] 35))
  have hle := H.out.le
  go_enter Tryz.func48, Tryz.ntmps48
  go_wp2_with fail
  generalize w.alloc (.cells #[.int .i64 op, .string ⟨#[]⟩, .string nm, .int .i64 ix, .int .i64 vk, .int .i64 vi, .string vt, .slice A n c] 35) = w1 at *
  generalize w.heap.size = g at *
  have k0 := Later.keep (HB.out.cell_some (i := 0) rfl)
  have k7 := Later.keep (HB.out.cell_some (i := 7) rfl)
  refine wp_region_later (by kernel_rfl) (by kernel_rfl) ?_
  repeat (go_big_quiet_step ((go_at_call 103; exact later_same (args_any _ _))))
  refine wpQuiet_nil ?_
  intro w2 hw2
  have hx2 := later_out hw2
  clear hw2 k0 k7
  have HX2 := hid (HX.out.trans hx2)
  have HB2 := hid (HB.out.ext hx2)
  clear hx2
  go_wp2_with fail
  go_loopw [3] (fun iv wr => ∃ k : Nat, k ≤ n ∧ iv = .int .i64 k ∧ (ks.take k).any (fun x => !x.formed) = false ∧ Ext w2 wr) (fun i _ => n - (intOf i).toNat)
  case atStart => exact ⟨0, Nat.zero_le _, rfl, rfl, Ext.refl w2⟩
  case round =>
    obtain ⟨k, hk, rfl, hv, hxr⟩ := hrel
    have HXr := hid hxr
    have HVr := hid hv
    have hBr := HB2.out.ext hxr
    have c0 := hBr.cell 0
    have c1 := hBr.cell 1
    have c2 := hBr.cell 2
    have c4 := hBr.cell 4
    have c5 := hBr.cell 5
    have c6 := hBr.cell 6
    have c7 := hBr.cell 7
    simp only [List.getElem?_cons_succ, List.getElem?_cons_zero] at c0 c1 c2 c4 c5 c6 c7
    clear hBr hv
    by_cases hlt : k < n
    · obtain ⟨e', he⟩ := at_lt H.out.len hlt
      obtain ⟨b', off', A', n', c', hA, q0, q1, q2, q3, q4, q5, q6, q7, hv'⟩ := ((H.out.kids.ext HX2.out).ext hxr).get he
      subst hA
      have HC := hid (H.out.call e' (mem_at he) A' n' c' _ hv')
      have HFm : Hid (e'.formed = true) := by
        unfold Hid
        cases hf : e'.formed
        · rw [any_take (p := fun x => !x.formed) he (by simp [hf])] at HAll
          exact absurd HAll.out (by simp)
        · rfl
      have HV1 : Hid ((ks.take (k + 1)).any (fun x => !x.formed) = false) := any_step he HVr.out (by simp [HFm.out])
      clear he hv' hxr
      go_wp2_with (go_at_call 48; refine HC.out.mono ?_; rintro _ w3 ⟨rfl, hx3⟩; rw [HFm.out])
      go_roundw
      case rel => exact ⟨k + 1, by omega, by go_num, HV1.out, HXr.out.trans hx3⟩
      case measure => simp [intOf]; omega
    · obtain rfl : k = n := by omega
      have HX3 := hid (HX2.out.trans HXr.out)
      go_wp2_with (go_at_call 89; (with_reducible refine (rname_any nm _ H.out.nm).mono ?_); rintro _ w4 ⟨rfl, hx4⟩; rw [HN1.out]; have d4 := hx4.keep c4; have d5 := hx4.keep c5; have d6 := hx4.keep c6; have d1 := hx4.keep c1)
      all_goals
        go_ret
        refine ⟨ret_bool ?_, HX3.out.trans hx4⟩
        rw [str0_b]
        simp [*]
theorem rc3c (op : Int) (tb nm vt : ByteArray) (ix vk vi : Int) (A : Option Addr) (n c : Nat) (w : World) (ks : List Ex) (h : RC ks tb nm vt A n c w) (HAll : Hid (ks.any (fun x => !x.formed) = false)) (bN : (opN op != (n : Int)) = false) (b2 : (op == 2) = true) (HN1 : Hid (nameB nm = true)) (HN2 : Hid (nameB tb = false)) (t1 : ¬ tb.toList = []) (t2 : tb.toList.isEmpty = false)  :
    Calls Tryz.prog 48 #[.agg #[.int .i64 op, .string tb, .string nm, .int .i64 ix, .int .i64 vk, .int .i64 vi, .string vt, .slice A n c]] w fun r w' => r = .returned (.bool false) ∧ Ext w w' := by
  have H := hid h
  clear h
  have HB := hid (Blk.of_new w 35 [.int .i64 op, .string tb, .string nm, .int .i64 ix, .int .i64 vk, .int .i64 vi, .string vt, .slice A n c])
  have HX := hid ((Ext.refl w).alloc (.cells #[.int .i64 op, .string tb, .string nm, .int .i64 ix, .int .i64 vk, .int .i64 vi, .string vt, .slice A n c] 35))
  have hle := H.out.le
  go_enter Tryz.func48, Tryz.ntmps48
  go_wp2_with fail
  generalize w.alloc (.cells #[.int .i64 op, .string tb, .string nm, .int .i64 ix, .int .i64 vk, .int .i64 vi, .string vt, .slice A n c] 35) = w1 at *
  generalize w.heap.size = g at *
  have k0 := Later.keep (HB.out.cell_some (i := 0) rfl)
  have k7 := Later.keep (HB.out.cell_some (i := 7) rfl)
  refine wp_region_later (by kernel_rfl) (by kernel_rfl) ?_
  repeat (go_big_quiet_step ((go_at_call 103; exact later_same (args_any _ _))))
  refine wpQuiet_nil ?_
  intro w2 hw2
  have hx2 := later_out hw2
  clear hw2 k0 k7
  have HX2 := hid (HX.out.trans hx2)
  have HB2 := hid (HB.out.ext hx2)
  clear hx2
  go_wp2_with fail
  go_loopw [3] (fun iv wr => ∃ k : Nat, k ≤ n ∧ iv = .int .i64 k ∧ (ks.take k).any (fun x => !x.formed) = false ∧ Ext w2 wr) (fun i _ => n - (intOf i).toNat)
  case atStart => exact ⟨0, Nat.zero_le _, rfl, rfl, Ext.refl w2⟩
  case round =>
    obtain ⟨k, hk, rfl, hv, hxr⟩ := hrel
    have HXr := hid hxr
    have HVr := hid hv
    have hBr := HB2.out.ext hxr
    have c0 := hBr.cell 0
    have c1 := hBr.cell 1
    have c2 := hBr.cell 2
    have c4 := hBr.cell 4
    have c5 := hBr.cell 5
    have c6 := hBr.cell 6
    have c7 := hBr.cell 7
    simp only [List.getElem?_cons_succ, List.getElem?_cons_zero] at c0 c1 c2 c4 c5 c6 c7
    clear hBr hv
    by_cases hlt : k < n
    · obtain ⟨e', he⟩ := at_lt H.out.len hlt
      obtain ⟨b', off', A', n', c', hA, q0, q1, q2, q3, q4, q5, q6, q7, hv'⟩ := ((H.out.kids.ext HX2.out).ext hxr).get he
      subst hA
      have HC := hid (H.out.call e' (mem_at he) A' n' c' _ hv')
      have HFm : Hid (e'.formed = true) := by
        unfold Hid
        cases hf : e'.formed
        · rw [any_take (p := fun x => !x.formed) he (by simp [hf])] at HAll
          exact absurd HAll.out (by simp)
        · rfl
      have HV1 : Hid ((ks.take (k + 1)).any (fun x => !x.formed) = false) := any_step he HVr.out (by simp [HFm.out])
      clear he hv' hxr
      go_wp2_with (go_at_call 48; refine HC.out.mono ?_; rintro _ w3 ⟨rfl, hx3⟩; rw [HFm.out])
      go_roundw
      case rel => exact ⟨k + 1, by omega, by go_num, HV1.out, HXr.out.trans hx3⟩
      case measure => simp [intOf]; omega
    · obtain rfl : k = n := by omega
      have HX3 := hid (HX2.out.trans HXr.out)
      go_wp2_with (first | (go_at_call 89; (with_reducible refine (rname_any nm _ H.out.nm).mono ?_); rintro _ w4 ⟨rfl, hx4⟩; rw [HN1.out]; have d4 := hx4.keep c4; have d5 := hx4.keep c5; have d6 := hx4.keep c6; have d1 := hx4.keep c1) | (go_at_call 89; (with_reducible refine (rname_any tb _ H.out.tb).mono ?_); rintro _ w5 ⟨rfl, hx5⟩; rw [HN2.out]; have f4 := hx5.keep d4; have f5 := hx5.keep d5; have f6 := hx5.keep d6))
      go_ret
      exact ⟨rfl, (HX3.out.trans hx4).trans hx5⟩
theorem rc3d (op : Int) (tb nm vt : ByteArray) (ix vk vi : Int) (A : Option Addr) (n c : Nat) (w : World) (ks : List Ex) (h : RC ks tb nm vt A n c w) (HAll : Hid (ks.any (fun x => !x.formed) = false)) (bN : (opN op != (n : Int)) = false) (b2 : (op == 2) = true) (HN1 : Hid (nameB nm = true)) (HN2 : Hid (nameB tb = true)) (t1 : ¬ tb.toList = []) (t2 : tb.toList.isEmpty = false)  :
    Calls Tryz.prog 48 #[.agg #[.int .i64 op, .string tb, .string nm, .int .i64 ix, .int .i64 vk, .int .i64 vi, .string vt, .slice A n c]] w fun r w' => r = .returned (.bool (vk == 0 && vi == 0 && vt.size == 0)) ∧ Ext w w' := by
  have H := hid h
  clear h
  have HB := hid (Blk.of_new w 35 [.int .i64 op, .string tb, .string nm, .int .i64 ix, .int .i64 vk, .int .i64 vi, .string vt, .slice A n c])
  have HX := hid ((Ext.refl w).alloc (.cells #[.int .i64 op, .string tb, .string nm, .int .i64 ix, .int .i64 vk, .int .i64 vi, .string vt, .slice A n c] 35))
  have hle := H.out.le
  go_enter Tryz.func48, Tryz.ntmps48
  go_wp2_with fail
  generalize w.alloc (.cells #[.int .i64 op, .string tb, .string nm, .int .i64 ix, .int .i64 vk, .int .i64 vi, .string vt, .slice A n c] 35) = w1 at *
  generalize w.heap.size = g at *
  have k0 := Later.keep (HB.out.cell_some (i := 0) rfl)
  have k7 := Later.keep (HB.out.cell_some (i := 7) rfl)
  refine wp_region_later (by kernel_rfl) (by kernel_rfl) ?_
  repeat (go_big_quiet_step ((go_at_call 103; exact later_same (args_any _ _))))
  refine wpQuiet_nil ?_
  intro w2 hw2
  have hx2 := later_out hw2
  clear hw2 k0 k7
  have HX2 := hid (HX.out.trans hx2)
  have HB2 := hid (HB.out.ext hx2)
  clear hx2
  go_wp2_with fail
  go_loopw [3] (fun iv wr => ∃ k : Nat, k ≤ n ∧ iv = .int .i64 k ∧ (ks.take k).any (fun x => !x.formed) = false ∧ Ext w2 wr) (fun i _ => n - (intOf i).toNat)
  case atStart => exact ⟨0, Nat.zero_le _, rfl, rfl, Ext.refl w2⟩
  case round =>
    obtain ⟨k, hk, rfl, hv, hxr⟩ := hrel
    have HXr := hid hxr
    have HVr := hid hv
    have hBr := HB2.out.ext hxr
    have c0 := hBr.cell 0
    have c1 := hBr.cell 1
    have c2 := hBr.cell 2
    have c4 := hBr.cell 4
    have c5 := hBr.cell 5
    have c6 := hBr.cell 6
    have c7 := hBr.cell 7
    simp only [List.getElem?_cons_succ, List.getElem?_cons_zero] at c0 c1 c2 c4 c5 c6 c7
    clear hBr hv
    by_cases hlt : k < n
    · obtain ⟨e', he⟩ := at_lt H.out.len hlt
      obtain ⟨b', off', A', n', c', hA, q0, q1, q2, q3, q4, q5, q6, q7, hv'⟩ := ((H.out.kids.ext HX2.out).ext hxr).get he
      subst hA
      have HC := hid (H.out.call e' (mem_at he) A' n' c' _ hv')
      have HFm : Hid (e'.formed = true) := by
        unfold Hid
        cases hf : e'.formed
        · rw [any_take (p := fun x => !x.formed) he (by simp [hf])] at HAll
          exact absurd HAll.out (by simp)
        · rfl
      have HV1 : Hid ((ks.take (k + 1)).any (fun x => !x.formed) = false) := any_step he HVr.out (by simp [HFm.out])
      clear he hv' hxr
      go_wp2_with (go_at_call 48; refine HC.out.mono ?_; rintro _ w3 ⟨rfl, hx3⟩; rw [HFm.out])
      go_roundw
      case rel => exact ⟨k + 1, by omega, by go_num, HV1.out, HXr.out.trans hx3⟩
      case measure => simp [intOf]; omega
    · obtain rfl : k = n := by omega
      have HX3 := hid (HX2.out.trans HXr.out)
      go_wp2_with (first | (go_at_call 89; (with_reducible refine (rname_any nm _ H.out.nm).mono ?_); rintro _ w4 ⟨rfl, hx4⟩; rw [HN1.out]; have d4 := hx4.keep c4; have d5 := hx4.keep c5; have d6 := hx4.keep c6; have d1 := hx4.keep c1) | (go_at_call 89; (with_reducible refine (rname_any tb _ H.out.tb).mono ?_); rintro _ w5 ⟨rfl, hx5⟩; rw [HN2.out]; have f4 := hx5.keep d4; have f5 := hx5.keep d5; have f6 := hx5.keep d6))
      all_goals
        go_ret
        refine ⟨ret_bool ?_, (HX3.out.trans hx4).trans hx5⟩
        rw [str0_b]
        simp [*]
theorem rc4a (op : Int) (tb nm vt : ByteArray) (ix vk vi : Int) (A : Option Addr) (n c : Nat) (w : World) (ks : List Ex) (h : RC ks tb nm vt A n c w) (HAll : Hid (ks.any (fun x => !x.formed) = false)) (bN : (opN op != (n : Int)) = false) (b2 : (op == 2) = false) (t1 : ¬ tb.toList = []) (t2 : tb.toList.isEmpty = false)  :
    Calls Tryz.prog 48 #[.agg #[.int .i64 op, .string tb, .string nm, .int .i64 ix, .int .i64 vk, .int .i64 vi, .string vt, .slice A n c]] w fun r w' => r = .returned (.bool false) ∧ Ext w w' := by
  have H := hid h
  clear h
  have HB := hid (Blk.of_new w 35 [.int .i64 op, .string tb, .string nm, .int .i64 ix, .int .i64 vk, .int .i64 vi, .string vt, .slice A n c])
  have HX := hid ((Ext.refl w).alloc (.cells #[.int .i64 op, .string tb, .string nm, .int .i64 ix, .int .i64 vk, .int .i64 vi, .string vt, .slice A n c] 35))
  have hle := H.out.le
  go_enter Tryz.func48, Tryz.ntmps48
  go_wp2_with fail
  generalize w.alloc (.cells #[.int .i64 op, .string tb, .string nm, .int .i64 ix, .int .i64 vk, .int .i64 vi, .string vt, .slice A n c] 35) = w1 at *
  generalize w.heap.size = g at *
  have k0 := Later.keep (HB.out.cell_some (i := 0) rfl)
  have k7 := Later.keep (HB.out.cell_some (i := 7) rfl)
  refine wp_region_later (by kernel_rfl) (by kernel_rfl) ?_
  repeat (go_big_quiet_step ((go_at_call 103; exact later_same (args_any _ _))))
  refine wpQuiet_nil ?_
  intro w2 hw2
  have hx2 := later_out hw2
  clear hw2 k0 k7
  have HX2 := hid (HX.out.trans hx2)
  have HB2 := hid (HB.out.ext hx2)
  clear hx2
  go_wp2_with fail
  go_loopw [3] (fun iv wr => ∃ k : Nat, k ≤ n ∧ iv = .int .i64 k ∧ (ks.take k).any (fun x => !x.formed) = false ∧ Ext w2 wr) (fun i _ => n - (intOf i).toNat)
  case atStart => exact ⟨0, Nat.zero_le _, rfl, rfl, Ext.refl w2⟩
  case round =>
    obtain ⟨k, hk, rfl, hv, hxr⟩ := hrel
    have HXr := hid hxr
    have HVr := hid hv
    have hBr := HB2.out.ext hxr
    have c0 := hBr.cell 0
    have c1 := hBr.cell 1
    have c2 := hBr.cell 2
    have c4 := hBr.cell 4
    have c5 := hBr.cell 5
    have c6 := hBr.cell 6
    have c7 := hBr.cell 7
    simp only [List.getElem?_cons_succ, List.getElem?_cons_zero] at c0 c1 c2 c4 c5 c6 c7
    clear hBr hv
    by_cases hlt : k < n
    · obtain ⟨e', he⟩ := at_lt H.out.len hlt
      obtain ⟨b', off', A', n', c', hA, q0, q1, q2, q3, q4, q5, q6, q7, hv'⟩ := ((H.out.kids.ext HX2.out).ext hxr).get he
      subst hA
      have HC := hid (H.out.call e' (mem_at he) A' n' c' _ hv')
      have HFm : Hid (e'.formed = true) := by
        unfold Hid
        cases hf : e'.formed
        · rw [any_take (p := fun x => !x.formed) he (by simp [hf])] at HAll
          exact absurd HAll.out (by simp)
        · rfl
      have HV1 : Hid ((ks.take (k + 1)).any (fun x => !x.formed) = false) := any_step he HVr.out (by simp [HFm.out])
      clear he hv' hxr
      go_wp2_with (go_at_call 48; refine HC.out.mono ?_; rintro _ w3 ⟨rfl, hx3⟩; rw [HFm.out])
      go_roundw
      case rel => exact ⟨k + 1, by omega, by go_num, HV1.out, HXr.out.trans hx3⟩
      case measure => simp [intOf]; omega
    · obtain rfl : k = n := by omega
      have HX3 := hid (HX2.out.trans HXr.out)
      go_wp2_with fail
      go_ret
      exact ⟨rfl, HX3.out⟩
theorem rc4b (op : Int) (nm vt : ByteArray) (ix vk vi : Int) (A : Option Addr) (n c : Nat) (w : World) (ks : List Ex) (h : RC ks ⟨#[]⟩ nm vt A n c w) (HAll : Hid (ks.any (fun x => !x.formed) = false)) (bN : (opN op != (n : Int)) = false) (b2 : (op == 2) = false) (t1 : ¬ nm.toList = []) (t2 : nm.toList.isEmpty = false)  :
    Calls Tryz.prog 48 #[.agg #[.int .i64 op, .string ⟨#[]⟩, .string nm, .int .i64 ix, .int .i64 vk, .int .i64 vi, .string vt, .slice A n c]] w fun r w' => r = .returned (.bool false) ∧ Ext w w' := by
  have H := hid h
  clear h
  have HB := hid (Blk.of_new w 35 [.int .i64 op, .string ⟨#[]⟩, .string nm, .int .i64 ix, .int .i64 vk, .int .i64 vi, .string vt, .slice A n c])
  have HX := hid ((Ext.refl w).alloc (.cells #[.int .i64 op, .string ⟨#[]⟩, .string nm, .int .i64 ix, .int .i64 vk, .int .i64 vi, .string vt, .slice A n c] 35))
  have hle := H.out.le
  go_enter Tryz.func48, Tryz.ntmps48
  go_wp2_with fail
  generalize w.alloc (.cells #[.int .i64 op, .string ⟨#[]⟩, .string nm, .int .i64 ix, .int .i64 vk, .int .i64 vi, .string vt, .slice A n c] 35) = w1 at *
  generalize w.heap.size = g at *
  have k0 := Later.keep (HB.out.cell_some (i := 0) rfl)
  have k7 := Later.keep (HB.out.cell_some (i := 7) rfl)
  refine wp_region_later (by kernel_rfl) (by kernel_rfl) ?_
  repeat (go_big_quiet_step ((go_at_call 103; exact later_same (args_any _ _))))
  refine wpQuiet_nil ?_
  intro w2 hw2
  have hx2 := later_out hw2
  clear hw2 k0 k7
  have HX2 := hid (HX.out.trans hx2)
  have HB2 := hid (HB.out.ext hx2)
  clear hx2
  go_wp2_with fail
  go_loopw [3] (fun iv wr => ∃ k : Nat, k ≤ n ∧ iv = .int .i64 k ∧ (ks.take k).any (fun x => !x.formed) = false ∧ Ext w2 wr) (fun i _ => n - (intOf i).toNat)
  case atStart => exact ⟨0, Nat.zero_le _, rfl, rfl, Ext.refl w2⟩
  case round =>
    obtain ⟨k, hk, rfl, hv, hxr⟩ := hrel
    have HXr := hid hxr
    have HVr := hid hv
    have hBr := HB2.out.ext hxr
    have c0 := hBr.cell 0
    have c1 := hBr.cell 1
    have c2 := hBr.cell 2
    have c4 := hBr.cell 4
    have c5 := hBr.cell 5
    have c6 := hBr.cell 6
    have c7 := hBr.cell 7
    simp only [List.getElem?_cons_succ, List.getElem?_cons_zero] at c0 c1 c2 c4 c5 c6 c7
    clear hBr hv
    by_cases hlt : k < n
    · obtain ⟨e', he⟩ := at_lt H.out.len hlt
      obtain ⟨b', off', A', n', c', hA, q0, q1, q2, q3, q4, q5, q6, q7, hv'⟩ := ((H.out.kids.ext HX2.out).ext hxr).get he
      subst hA
      have HC := hid (H.out.call e' (mem_at he) A' n' c' _ hv')
      have HFm : Hid (e'.formed = true) := by
        unfold Hid
        cases hf : e'.formed
        · rw [any_take (p := fun x => !x.formed) he (by simp [hf])] at HAll
          exact absurd HAll.out (by simp)
        · rfl
      have HV1 : Hid ((ks.take (k + 1)).any (fun x => !x.formed) = false) := any_step he HVr.out (by simp [HFm.out])
      clear he hv' hxr
      go_wp2_with (go_at_call 48; refine HC.out.mono ?_; rintro _ w3 ⟨rfl, hx3⟩; rw [HFm.out])
      go_roundw
      case rel => exact ⟨k + 1, by omega, by go_num, HV1.out, HXr.out.trans hx3⟩
      case measure => simp [intOf]; omega
    · obtain rfl : k = n := by omega
      have HX3 := hid (HX2.out.trans HXr.out)
      go_wp2_with fail
      go_ret
      exact ⟨rfl, HX3.out⟩
theorem rc5 (op : Int) (vt : ByteArray) (ix vk vi : Int) (A : Option Addr) (n c : Nat) (w : World) (ks : List Ex) (d : Nd) (e0 : d.vk = vk) (e1 : d.vi = vi) (e2 : d.vt = vt) (h : RC ks ⟨#[]⟩ ⟨#[]⟩ vt A n c w) (HAll : Hid (ks.any (fun x => !x.formed) = false)) (bN : (opN op != (n : Int)) = false) (b2 : (op == 2) = false) (b1 : (op == 1) = true) :
    Calls Tryz.prog 48 #[.agg #[.int .i64 op, .string ⟨#[]⟩, .string ⟨#[]⟩, .int .i64 ix, .int .i64 vk, .int .i64 vi, .string vt, .slice A n c]] w fun r w' => r = .returned (.bool d.litB) ∧ Ext w w' := by
  have H := hid h
  clear h
  have HLit := hid (fun W => rliteral_any vk vi vt W H.out.vt d e0 e1 e2)
  clear e0 e1 e2
  have HB := hid (Blk.of_new w 35 [.int .i64 op, .string ⟨#[]⟩, .string ⟨#[]⟩, .int .i64 ix, .int .i64 vk, .int .i64 vi, .string vt, .slice A n c])
  have HX := hid ((Ext.refl w).alloc (.cells #[.int .i64 op, .string ⟨#[]⟩, .string ⟨#[]⟩, .int .i64 ix, .int .i64 vk, .int .i64 vi, .string vt, .slice A n c] 35))
  have hle := H.out.le
  go_enter Tryz.func48, Tryz.ntmps48
  go_wp2_with fail
  generalize w.alloc (.cells #[.int .i64 op, .string ⟨#[]⟩, .string ⟨#[]⟩, .int .i64 ix, .int .i64 vk, .int .i64 vi, .string vt, .slice A n c] 35) = w1 at *
  generalize w.heap.size = g at *
  have k0 := Later.keep (HB.out.cell_some (i := 0) rfl)
  have k7 := Later.keep (HB.out.cell_some (i := 7) rfl)
  refine wp_region_later (by kernel_rfl) (by kernel_rfl) ?_
  repeat (go_big_quiet_step ((go_at_call 103; exact later_same (args_any _ _))))
  refine wpQuiet_nil ?_
  intro w2 hw2
  have hx2 := later_out hw2
  clear hw2 k0 k7
  have HX2 := hid (HX.out.trans hx2)
  have HB2 := hid (HB.out.ext hx2)
  clear hx2
  go_wp2_with fail
  go_loopw [3] (fun iv wr => ∃ k : Nat, k ≤ n ∧ iv = .int .i64 k ∧ (ks.take k).any (fun x => !x.formed) = false ∧ Ext w2 wr) (fun i _ => n - (intOf i).toNat)
  case atStart => exact ⟨0, Nat.zero_le _, rfl, rfl, Ext.refl w2⟩
  case round =>
    obtain ⟨k, hk, rfl, hv, hxr⟩ := hrel
    have HXr := hid hxr
    have HVr := hid hv
    have hBr := HB2.out.ext hxr
    have c0 := hBr.cell 0
    have c1 := hBr.cell 1
    have c2 := hBr.cell 2
    have c4 := hBr.cell 4
    have c5 := hBr.cell 5
    have c6 := hBr.cell 6
    have c7 := hBr.cell 7
    simp only [List.getElem?_cons_succ, List.getElem?_cons_zero] at c0 c1 c2 c4 c5 c6 c7
    clear hBr hv
    by_cases hlt : k < n
    · obtain ⟨e', he⟩ := at_lt H.out.len hlt
      obtain ⟨b', off', A', n', c', hA, q0, q1, q2, q3, q4, q5, q6, q7, hv'⟩ := ((H.out.kids.ext HX2.out).ext hxr).get he
      subst hA
      have HC := hid (H.out.call e' (mem_at he) A' n' c' _ hv')
      have HFm : Hid (e'.formed = true) := by
        unfold Hid
        cases hf : e'.formed
        · rw [any_take (p := fun x => !x.formed) he (by simp [hf])] at HAll
          exact absurd HAll.out (by simp)
        · rfl
      have HV1 : Hid ((ks.take (k + 1)).any (fun x => !x.formed) = false) := any_step he HVr.out (by simp [HFm.out])
      clear he hv' hxr
      go_wp2_with (go_at_call 48; refine HC.out.mono ?_; rintro _ w3 ⟨rfl, hx3⟩; rw [HFm.out])
      go_roundw
      case rel => exact ⟨k + 1, by omega, by go_num, HV1.out, HXr.out.trans hx3⟩
      case measure => simp [intOf]; omega
    · obtain rfl : k = n := by omega
      have HX3 := hid (HX2.out.trans HXr.out)
      go_wp2_with (go_at_call 104; refine (HLit.out _).mono ?_; rintro _ w4 ⟨rfl, hx4⟩)
      go_ret
      exact ⟨rfl, HX3.out.trans hx4⟩
theorem rc6a (op : Int) (vt : ByteArray) (ix vk vi : Int) (n c : Nat) (w : World) (ks : List Ex) (b off : Nat) (op1 : Int) (vk1 : Int) (HQ : Hid (w.cell? ⟨b, off + 1 * 8, none⟩ = some (.int .i64 op1) ∧ w.cell? ⟨b, off + 1 * 8 + 4, none⟩ = some (.int .i64 vk1))) (h : RC ks ⟨#[]⟩ ⟨#[]⟩ vt (some ⟨b, off, none⟩) n c w) (HAll : Hid (ks.any (fun x => !x.formed) = false)) (bN : (opN op != (n : Int)) = false) (b2 : (op == 2) = false) (b1 : (op == 1) = false) (b16 : (op == 16) = true) (hn2 : (1 : Int) < (n : Int)) (p1 : (op1 != 1) = true) :
    Calls Tryz.prog 48 #[.agg #[.int .i64 op, .string ⟨#[]⟩, .string ⟨#[]⟩, .int .i64 ix, .int .i64 vk, .int .i64 vi, .string vt, .slice (some ⟨b, off, none⟩) n c]] w fun r w' => r = .returned (.bool false) ∧ Ext w w' := by
  have H := hid h
  clear h
  have HB := hid (Blk.of_new w 35 [.int .i64 op, .string ⟨#[]⟩, .string ⟨#[]⟩, .int .i64 ix, .int .i64 vk, .int .i64 vi, .string vt, .slice (some ⟨b, off, none⟩) n c])
  have HX := hid ((Ext.refl w).alloc (.cells #[.int .i64 op, .string ⟨#[]⟩, .string ⟨#[]⟩, .int .i64 ix, .int .i64 vk, .int .i64 vi, .string vt, .slice (some ⟨b, off, none⟩) n c] 35))
  have hle := H.out.le
  go_enter Tryz.func48, Tryz.ntmps48
  go_wp2_with fail
  generalize w.alloc (.cells #[.int .i64 op, .string ⟨#[]⟩, .string ⟨#[]⟩, .int .i64 ix, .int .i64 vk, .int .i64 vi, .string vt, .slice (some ⟨b, off, none⟩) n c] 35) = w1 at *
  generalize w.heap.size = g at *
  have k0 := Later.keep (HB.out.cell_some (i := 0) rfl)
  have k7 := Later.keep (HB.out.cell_some (i := 7) rfl)
  refine wp_region_later (by kernel_rfl) (by kernel_rfl) ?_
  repeat (go_big_quiet_step ((go_at_call 103; exact later_same (args_any _ _))))
  refine wpQuiet_nil ?_
  intro w2 hw2
  have hx2 := later_out hw2
  clear hw2 k0 k7
  have HX2 := hid (HX.out.trans hx2)
  have HB2 := hid (HB.out.ext hx2)
  clear hx2
  go_wp2_with fail
  go_loopw [3] (fun iv wr => ∃ k : Nat, k ≤ n ∧ iv = .int .i64 k ∧ (ks.take k).any (fun x => !x.formed) = false ∧ Ext w2 wr) (fun i _ => n - (intOf i).toNat)
  case atStart => exact ⟨0, Nat.zero_le _, rfl, rfl, Ext.refl w2⟩
  case round =>
    obtain ⟨k, hk, rfl, hv, hxr⟩ := hrel
    have HXr := hid hxr
    have HVr := hid hv
    have hBr := HB2.out.ext hxr
    have c0 := hBr.cell 0
    have c1 := hBr.cell 1
    have c2 := hBr.cell 2
    have c4 := hBr.cell 4
    have c5 := hBr.cell 5
    have c6 := hBr.cell 6
    have c7 := hBr.cell 7
    simp only [List.getElem?_cons_succ, List.getElem?_cons_zero] at c0 c1 c2 c4 c5 c6 c7
    clear hBr hv
    by_cases hlt : k < n
    · obtain ⟨e', he⟩ := at_lt H.out.len hlt
      obtain ⟨b', off', A', n', c', hA, q0, q1, q2, q3, q4, q5, q6, q7, hv'⟩ := ((H.out.kids.ext HX2.out).ext hxr).get he
      simp only [Option.some.injEq, Addr.mk.injEq, and_true] at hA
      obtain ⟨rfl, rfl⟩ := hA
      have HC := hid (H.out.call e' (mem_at he) A' n' c' _ hv')
      have HFm : Hid (e'.formed = true) := by
        unfold Hid
        cases hf : e'.formed
        · rw [any_take (p := fun x => !x.formed) he (by simp [hf])] at HAll
          exact absurd HAll.out (by simp)
        · rfl
      have HV1 : Hid ((ks.take (k + 1)).any (fun x => !x.formed) = false) := any_step he HVr.out (by simp [HFm.out])
      clear he hv' hxr
      go_wp2_with (go_at_call 48; refine HC.out.mono ?_; rintro _ w3 ⟨rfl, hx3⟩; rw [HFm.out])
      go_roundw
      case rel => exact ⟨k + 1, by omega, by go_num, HV1.out, HXr.out.trans hx3⟩
      case measure => simp [intOf]; omega
    · obtain rfl : k = n := by omega
      have HX3 := hid (HX2.out.trans HXr.out)
      obtain ⟨q0, q4⟩ := HQ.out
      replace q0 := HX3.out.keep q0
      replace q4 := HX3.out.keep q4
      go_wp2_with fail
      go_ret
      exact ⟨rfl, HX3.out⟩
theorem rc6b (op : Int) (vt : ByteArray) (ix vk vi : Int) (n c : Nat) (w : World) (ks : List Ex) (b off : Nat) (op1 : Int) (vk1 : Int) (HQ : Hid (w.cell? ⟨b, off + 1 * 8, none⟩ = some (.int .i64 op1) ∧ w.cell? ⟨b, off + 1 * 8 + 4, none⟩ = some (.int .i64 vk1))) (h : RC ks ⟨#[]⟩ ⟨#[]⟩ vt (some ⟨b, off, none⟩) n c w) (HAll : Hid (ks.any (fun x => !x.formed) = false)) (bN : (opN op != (n : Int)) = false) (b2 : (op == 2) = false) (b1 : (op == 1) = false) (b16 : (op == 16) = true) (hn2 : (1 : Int) < (n : Int)) (p1 : (op1 != 1) = false) (p2 : (vk1 != 2) = true) :
    Calls Tryz.prog 48 #[.agg #[.int .i64 op, .string ⟨#[]⟩, .string ⟨#[]⟩, .int .i64 ix, .int .i64 vk, .int .i64 vi, .string vt, .slice (some ⟨b, off, none⟩) n c]] w fun r w' => r = .returned (.bool false) ∧ Ext w w' := by
  have H := hid h
  clear h
  have HB := hid (Blk.of_new w 35 [.int .i64 op, .string ⟨#[]⟩, .string ⟨#[]⟩, .int .i64 ix, .int .i64 vk, .int .i64 vi, .string vt, .slice (some ⟨b, off, none⟩) n c])
  have HX := hid ((Ext.refl w).alloc (.cells #[.int .i64 op, .string ⟨#[]⟩, .string ⟨#[]⟩, .int .i64 ix, .int .i64 vk, .int .i64 vi, .string vt, .slice (some ⟨b, off, none⟩) n c] 35))
  have hle := H.out.le
  go_enter Tryz.func48, Tryz.ntmps48
  go_wp2_with fail
  generalize w.alloc (.cells #[.int .i64 op, .string ⟨#[]⟩, .string ⟨#[]⟩, .int .i64 ix, .int .i64 vk, .int .i64 vi, .string vt, .slice (some ⟨b, off, none⟩) n c] 35) = w1 at *
  generalize w.heap.size = g at *
  have k0 := Later.keep (HB.out.cell_some (i := 0) rfl)
  have k7 := Later.keep (HB.out.cell_some (i := 7) rfl)
  refine wp_region_later (by kernel_rfl) (by kernel_rfl) ?_
  repeat (go_big_quiet_step ((go_at_call 103; exact later_same (args_any _ _))))
  refine wpQuiet_nil ?_
  intro w2 hw2
  have hx2 := later_out hw2
  clear hw2 k0 k7
  have HX2 := hid (HX.out.trans hx2)
  have HB2 := hid (HB.out.ext hx2)
  clear hx2
  go_wp2_with fail
  go_loopw [3] (fun iv wr => ∃ k : Nat, k ≤ n ∧ iv = .int .i64 k ∧ (ks.take k).any (fun x => !x.formed) = false ∧ Ext w2 wr) (fun i _ => n - (intOf i).toNat)
  case atStart => exact ⟨0, Nat.zero_le _, rfl, rfl, Ext.refl w2⟩
  case round =>
    obtain ⟨k, hk, rfl, hv, hxr⟩ := hrel
    have HXr := hid hxr
    have HVr := hid hv
    have hBr := HB2.out.ext hxr
    have c0 := hBr.cell 0
    have c1 := hBr.cell 1
    have c2 := hBr.cell 2
    have c4 := hBr.cell 4
    have c5 := hBr.cell 5
    have c6 := hBr.cell 6
    have c7 := hBr.cell 7
    simp only [List.getElem?_cons_succ, List.getElem?_cons_zero] at c0 c1 c2 c4 c5 c6 c7
    clear hBr hv
    by_cases hlt : k < n
    · obtain ⟨e', he⟩ := at_lt H.out.len hlt
      obtain ⟨b', off', A', n', c', hA, q0, q1, q2, q3, q4, q5, q6, q7, hv'⟩ := ((H.out.kids.ext HX2.out).ext hxr).get he
      simp only [Option.some.injEq, Addr.mk.injEq, and_true] at hA
      obtain ⟨rfl, rfl⟩ := hA
      have HC := hid (H.out.call e' (mem_at he) A' n' c' _ hv')
      have HFm : Hid (e'.formed = true) := by
        unfold Hid
        cases hf : e'.formed
        · rw [any_take (p := fun x => !x.formed) he (by simp [hf])] at HAll
          exact absurd HAll.out (by simp)
        · rfl
      have HV1 : Hid ((ks.take (k + 1)).any (fun x => !x.formed) = false) := any_step he HVr.out (by simp [HFm.out])
      clear he hv' hxr
      go_wp2_with (go_at_call 48; refine HC.out.mono ?_; rintro _ w3 ⟨rfl, hx3⟩; rw [HFm.out])
      go_roundw
      case rel => exact ⟨k + 1, by omega, by go_num, HV1.out, HXr.out.trans hx3⟩
      case measure => simp [intOf]; omega
    · obtain rfl : k = n := by omega
      have HX3 := hid (HX2.out.trans HXr.out)
      obtain ⟨q0, q4⟩ := HQ.out
      replace q0 := HX3.out.keep q0
      replace q4 := HX3.out.keep q4
      go_wp2_with fail
      go_ret
      exact ⟨rfl, HX3.out⟩
theorem rc6c (op : Int) (vt : ByteArray) (ix vk vi : Int) (n c : Nat) (w : World) (ks : List Ex) (b off : Nat) (op1 : Int) (vk1 : Int) (HQ : Hid (w.cell? ⟨b, off + 1 * 8, none⟩ = some (.int .i64 op1) ∧ w.cell? ⟨b, off + 1 * 8 + 4, none⟩ = some (.int .i64 vk1))) (h : RC ks ⟨#[]⟩ ⟨#[]⟩ vt (some ⟨b, off, none⟩) n c w) (HAll : Hid (ks.any (fun x => !x.formed) = false)) (bN : (opN op != (n : Int)) = false) (b2 : (op == 2) = false) (b1 : (op == 1) = false) (b16 : (op == 16) = true) (hn2 : (1 : Int) < (n : Int)) (p1 : (op1 != 1) = false) (p2 : (vk1 != 2) = false) :
    Calls Tryz.prog 48 #[.agg #[.int .i64 op, .string ⟨#[]⟩, .string ⟨#[]⟩, .int .i64 ix, .int .i64 vk, .int .i64 vi, .string vt, .slice (some ⟨b, off, none⟩) n c]] w fun r w' => r = .returned (.bool (vk == 0 && vi == 0 && vt.size == 0)) ∧ Ext w w' := by
  have H := hid h
  clear h
  have HB := hid (Blk.of_new w 35 [.int .i64 op, .string ⟨#[]⟩, .string ⟨#[]⟩, .int .i64 ix, .int .i64 vk, .int .i64 vi, .string vt, .slice (some ⟨b, off, none⟩) n c])
  have HX := hid ((Ext.refl w).alloc (.cells #[.int .i64 op, .string ⟨#[]⟩, .string ⟨#[]⟩, .int .i64 ix, .int .i64 vk, .int .i64 vi, .string vt, .slice (some ⟨b, off, none⟩) n c] 35))
  have hle := H.out.le
  go_enter Tryz.func48, Tryz.ntmps48
  go_wp2_with fail
  generalize w.alloc (.cells #[.int .i64 op, .string ⟨#[]⟩, .string ⟨#[]⟩, .int .i64 ix, .int .i64 vk, .int .i64 vi, .string vt, .slice (some ⟨b, off, none⟩) n c] 35) = w1 at *
  generalize w.heap.size = g at *
  have k0 := Later.keep (HB.out.cell_some (i := 0) rfl)
  have k7 := Later.keep (HB.out.cell_some (i := 7) rfl)
  refine wp_region_later (by kernel_rfl) (by kernel_rfl) ?_
  repeat (go_big_quiet_step ((go_at_call 103; exact later_same (args_any _ _))))
  refine wpQuiet_nil ?_
  intro w2 hw2
  have hx2 := later_out hw2
  clear hw2 k0 k7
  have HX2 := hid (HX.out.trans hx2)
  have HB2 := hid (HB.out.ext hx2)
  clear hx2
  go_wp2_with fail
  go_loopw [3] (fun iv wr => ∃ k : Nat, k ≤ n ∧ iv = .int .i64 k ∧ (ks.take k).any (fun x => !x.formed) = false ∧ Ext w2 wr) (fun i _ => n - (intOf i).toNat)
  case atStart => exact ⟨0, Nat.zero_le _, rfl, rfl, Ext.refl w2⟩
  case round =>
    obtain ⟨k, hk, rfl, hv, hxr⟩ := hrel
    have HXr := hid hxr
    have HVr := hid hv
    have hBr := HB2.out.ext hxr
    have c0 := hBr.cell 0
    have c1 := hBr.cell 1
    have c2 := hBr.cell 2
    have c4 := hBr.cell 4
    have c5 := hBr.cell 5
    have c6 := hBr.cell 6
    have c7 := hBr.cell 7
    simp only [List.getElem?_cons_succ, List.getElem?_cons_zero] at c0 c1 c2 c4 c5 c6 c7
    clear hBr hv
    by_cases hlt : k < n
    · obtain ⟨e', he⟩ := at_lt H.out.len hlt
      obtain ⟨b', off', A', n', c', hA, q0, q1, q2, q3, q4, q5, q6, q7, hv'⟩ := ((H.out.kids.ext HX2.out).ext hxr).get he
      simp only [Option.some.injEq, Addr.mk.injEq, and_true] at hA
      obtain ⟨rfl, rfl⟩ := hA
      have HC := hid (H.out.call e' (mem_at he) A' n' c' _ hv')
      have HFm : Hid (e'.formed = true) := by
        unfold Hid
        cases hf : e'.formed
        · rw [any_take (p := fun x => !x.formed) he (by simp [hf])] at HAll
          exact absurd HAll.out (by simp)
        · rfl
      have HV1 : Hid ((ks.take (k + 1)).any (fun x => !x.formed) = false) := any_step he HVr.out (by simp [HFm.out])
      clear he hv' hxr
      go_wp2_with (go_at_call 48; refine HC.out.mono ?_; rintro _ w3 ⟨rfl, hx3⟩; rw [HFm.out])
      go_roundw
      case rel => exact ⟨k + 1, by omega, by go_num, HV1.out, HXr.out.trans hx3⟩
      case measure => simp [intOf]; omega
    · obtain rfl : k = n := by omega
      have HX3 := hid (HX2.out.trans HXr.out)
      obtain ⟨q0, q4⟩ := HQ.out
      replace q0 := HX3.out.keep q0
      replace q4 := HX3.out.keep q4
      go_wp2_with fail
      all_goals
        go_ret
        refine ⟨ret_bool ?_, HX3.out⟩
        rw [str0_b]
        simp [*]
theorem rc7 (op : Int) (vt : ByteArray) (ix vk vi : Int) (A : Option Addr) (n c : Nat) (w : World) (ks : List Ex) (h : RC ks ⟨#[]⟩ ⟨#[]⟩ vt A n c w) (HAll : Hid (ks.any (fun x => !x.formed) = false)) (bN : (opN op != (n : Int)) = false) (b2 : (op == 2) = false) (b1 : (op == 1) = false) (b16 : (op == 16) = false) :
    Calls Tryz.prog 48 #[.agg #[.int .i64 op, .string ⟨#[]⟩, .string ⟨#[]⟩, .int .i64 ix, .int .i64 vk, .int .i64 vi, .string vt, .slice A n c]] w fun r w' => r = .returned (.bool (vk == 0 && vi == 0 && vt.size == 0)) ∧ Ext w w' := by
  have H := hid h
  clear h
  have HB := hid (Blk.of_new w 35 [.int .i64 op, .string ⟨#[]⟩, .string ⟨#[]⟩, .int .i64 ix, .int .i64 vk, .int .i64 vi, .string vt, .slice A n c])
  have HX := hid ((Ext.refl w).alloc (.cells #[.int .i64 op, .string ⟨#[]⟩, .string ⟨#[]⟩, .int .i64 ix, .int .i64 vk, .int .i64 vi, .string vt, .slice A n c] 35))
  have hle := H.out.le
  go_enter Tryz.func48, Tryz.ntmps48
  go_wp2_with fail
  generalize w.alloc (.cells #[.int .i64 op, .string ⟨#[]⟩, .string ⟨#[]⟩, .int .i64 ix, .int .i64 vk, .int .i64 vi, .string vt, .slice A n c] 35) = w1 at *
  generalize w.heap.size = g at *
  have k0 := Later.keep (HB.out.cell_some (i := 0) rfl)
  have k7 := Later.keep (HB.out.cell_some (i := 7) rfl)
  refine wp_region_later (by kernel_rfl) (by kernel_rfl) ?_
  repeat (go_big_quiet_step ((go_at_call 103; exact later_same (args_any _ _))))
  refine wpQuiet_nil ?_
  intro w2 hw2
  have hx2 := later_out hw2
  clear hw2 k0 k7
  have HX2 := hid (HX.out.trans hx2)
  have HB2 := hid (HB.out.ext hx2)
  clear hx2
  go_wp2_with fail
  go_loopw [3] (fun iv wr => ∃ k : Nat, k ≤ n ∧ iv = .int .i64 k ∧ (ks.take k).any (fun x => !x.formed) = false ∧ Ext w2 wr) (fun i _ => n - (intOf i).toNat)
  case atStart => exact ⟨0, Nat.zero_le _, rfl, rfl, Ext.refl w2⟩
  case round =>
    obtain ⟨k, hk, rfl, hv, hxr⟩ := hrel
    have HXr := hid hxr
    have HVr := hid hv
    have hBr := HB2.out.ext hxr
    have c0 := hBr.cell 0
    have c1 := hBr.cell 1
    have c2 := hBr.cell 2
    have c4 := hBr.cell 4
    have c5 := hBr.cell 5
    have c6 := hBr.cell 6
    have c7 := hBr.cell 7
    simp only [List.getElem?_cons_succ, List.getElem?_cons_zero] at c0 c1 c2 c4 c5 c6 c7
    clear hBr hv
    by_cases hlt : k < n
    · obtain ⟨e', he⟩ := at_lt H.out.len hlt
      obtain ⟨b', off', A', n', c', hA, q0, q1, q2, q3, q4, q5, q6, q7, hv'⟩ := ((H.out.kids.ext HX2.out).ext hxr).get he
      subst hA
      have HC := hid (H.out.call e' (mem_at he) A' n' c' _ hv')
      have HFm : Hid (e'.formed = true) := by
        unfold Hid
        cases hf : e'.formed
        · rw [any_take (p := fun x => !x.formed) he (by simp [hf])] at HAll
          exact absurd HAll.out (by simp)
        · rfl
      have HV1 : Hid ((ks.take (k + 1)).any (fun x => !x.formed) = false) := any_step he HVr.out (by simp [HFm.out])
      clear he hv' hxr
      go_wp2_with (go_at_call 48; refine HC.out.mono ?_; rintro _ w3 ⟨rfl, hx3⟩; rw [HFm.out])
      go_roundw
      case rel => exact ⟨k + 1, by omega, by go_num, HV1.out, HXr.out.trans hx3⟩
      case measure => simp [intOf]; omega
    · obtain rfl : k = n := by omega
      have HX3 := hid (HX2.out.trans HXr.out)
      go_wp2_with fail
      all_goals
        go_ret
        refine ⟨ret_bool ?_, HX3.out⟩
        rw [str0_b]
        simp [*]
end Go.Proofs.YtcdnodjcnofogaaGreatDoor
