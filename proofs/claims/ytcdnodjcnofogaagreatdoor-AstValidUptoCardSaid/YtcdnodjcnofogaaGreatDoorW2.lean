/-
  Walks: Nodes, Depth.
-/
import Derived.Test.YtcdnodjcnofogaaGreatDoorW1
namespace Go.Proofs.YtcdnodjcnofogaaGreatDoor
open Go.RowKit
set_option linter.unusedVariables false
set_option maxHeartbeats 1000000
set_option maxRecDepth 100000

theorem wrap_add (a b : Int) : wrap64 (wrap64 a + wrap64 b) = wrap64 (a + b) := by unfold wrap64; omega
theorem wrap_id (a : Int) (h : I64 a) : wrap64 a = a := by unfold I64 at h; unfold wrap64; omega
theorem nodes_split (d : Nd) (ks : List Ex) : (Ex.mk d ks).nodes = (if d.op = 0 then 0 else 1) + nodesL ks := rfl
theorem nodes_step {l : List Ex} {k : Nat} {e : Ex} (h : l[k]? = some e) : nodesL (l.take (k + 1)) = nodesL (l.take k) + e.nodes := by
  rw [take_at h, nodesL_app, nodesL, nodesL, Nat.add_zero]
theorem depth_step {l : List Ex} {k : Nat} {e : Ex} (h : l[k]? = some e) : depthL (l.take (k + 1)) = max (depthL (l.take k)) e.depth := by
  rw [take_at h, depthL_app, depthL, depthL]; omega
theorem nodes_mem {l : List Ex} {e : Ex} (h : e ∈ l) : e.nodes ≤ nodesL l := by
  induction l with
  | nil => cases h
  | cons a l ih =>
    rw [nodesL]
    rcases List.mem_cons.1 h with rfl | h
    · omega
    · have := ih h; omega

theorem nodes_any : ∀ (e : Ex) (A : Option Addr) (n c : Nat) (w : World), ExV w e A n c →
    Calls Tryz.prog 26 #[e.d.val A n c] w fun r w' => r = .returned (.int .i64 (wrap64 (e.nodes : Int))) ∧ Ext w w' := by
  intro e
  induction e using Ex.ind with
  | h d ks ih =>
    intro A n c w hv
    obtain ⟨h1, h2, h3, h4⟩ := hv
    have HL : Hid (ks.length = n) := h1
    have HK : Hid (KidsAt w A ks) := h4
    have HI := hid ih
    clear h1 h4 ih h3
    have HN := hid (nodes_split d ks)
    unfold Nd.val
    simp only [Ex.d]
    obtain ⟨op, tb, nm, ix, vk, vi, vt⟩ := d
    simp only
    simp only at HN
    have HB := hid (Blk.of_new w 35 [.int .i64 op, .string tb, .string nm, .int .i64 ix, .int .i64 vk, .int .i64 vi, .string vt, .slice A n c])
    have HX := hid ((Ext.refl w).alloc (.cells #[.int .i64 op, .string tb, .string nm, .int .i64 ix, .int .i64 vk, .int .i64 vi, .string vt, .slice A n c] 35))
    obtain ⟨r0, b0, hb0, hr0⟩ : ∃ (r0 : Nat) (b0 : Bool), (op != 0) = b0 ∧ (b0 = true ∧ r0 = 1 ∨ b0 = false ∧ r0 = 0) ∧ (Ex.mk ⟨op, tb, nm, ix, vk, vi, vt⟩ ks).nodes = r0 + nodesL ks := by
      by_cases h : op = 0
      · exact ⟨0, false, by simp [h], .inr ⟨rfl, rfl⟩, by rw [HN.out, if_pos h]⟩
      · exact ⟨1, true, by simpa using h, .inl ⟨rfl, rfl⟩, by rw [HN.out, if_neg h]⟩
    obtain ⟨hb1, hr0⟩ := hr0
    have HR0 := hid hr0
    clear hr0 HN
    have HF : Hid (∀ x : Nat, Ending.returned (.int .i64 (wrap64 (x : Int))) = Ending.returned (.int .i64 (wrap64 (x : Int)))) := fun _ => rfl
    rcases hb1 with ⟨rfl, rfl⟩ | ⟨rfl, rfl⟩
    all_goals
      go_enter Tryz.func26, Tryz.ntmps26
      go_wp2_with fail
      generalize w.alloc (.cells #[.int .i64 op, .string tb, .string nm, .int .i64 ix, .int .i64 vk, .int .i64 vi, .string vt, .slice A n c] 35) = w1 at *
      generalize w.heap.size = g at *
      go_loopw [3, 12] (fun nv iv wr => ∃ (r : Int) (k : Nat), k ≤ n ∧ nv = .int .i64 r ∧ iv = .int .i64 k ∧ (∃ r0 : Nat, (Ex.mk ⟨op, tb, nm, ix, vk, vi, vt⟩ ks).nodes = r0 + nodesL ks ∧ r = wrap64 (r0 + nodesL (ks.take k) : Nat)) ∧ Ext w1 wr) (fun _ i _ => n - (intOf i).toNat)
      case atStart => exact ⟨_, 0, Nat.zero_le _, rfl, rfl, ⟨_, HR0.out, by simp [nodesL, wrap64]⟩, Ext.refl w1⟩
      case round =>
        obtain ⟨r, k, hk, rfl, rfl, hr, hxr⟩ := hrel
        have HXr := hid hxr
        have HRr := hid hr
        have c7 := (HB.out.ext hxr).cell 7
        simp only [List.getElem?_cons_succ, List.getElem?_cons_zero] at c7
        by_cases hlt : k < n
        · obtain ⟨e', he⟩ := at_lt HL.out hlt
          obtain ⟨b, off, A', n', c', rfl, q0, q1, q2, q3, q4, q5, q6, q7, hv'⟩ := ((HK.out.ext HX.out).ext hxr).get he
          have HV := hid hv'
          have HM := hid (mem_at he)
          have HS := hid (nodes_step he)
          clear he hv' hxr hr
          go_wp2_with (go_at_call 26; refine (HI.out e' HM.out A' n' c' _ (HV.out.ext ((Ext.refl wr).alloc _))).mono ?_; rintro _ w2 ⟨rfl, hx2⟩)
          go_roundw
          case rel =>
            refine ⟨_, k + 1, by omega, rfl, by go_num, ?_, (HXr.out.alloc _).trans hx2⟩
            obtain ⟨r0, h5, h6⟩ := HRr.out
            refine ⟨r0, h5, ?_⟩
            rw [h6, wrap_add, HS.out]
            congr 1; omega
          case measure => simp [intOf]; omega
        · obtain rfl : k = n := by omega
          have HT : Hid (ks.take k = ks) := List.take_of_length_le (Nat.le_of_eq HL.out)
          clear hr
          go_wp2_with fail
          go_ret
          obtain ⟨r0, h5, h6⟩ := HRr.out
          exact ⟨ret_int (by rw [h6, h5, HT.out]), HX.out.trans HXr.out⟩

theorem rnodes_any : ∀ (e : Ex) (A : Option Addr) (n c : Nat) (w : World), ExV w e A n c →
    Calls Tryz.prog 29 #[e.d.val A n c] w fun r w' => r = .returned (.int .i64 (wrap64 (e.nodes : Int))) ∧ Ext w w' := by
  intro e
  induction e using Ex.ind with
  | h d ks ih =>
    intro A n c w hv
    obtain ⟨h1, h2, h3, h4⟩ := hv
    have HL : Hid (ks.length = n) := h1
    have HK : Hid (KidsAt w A ks) := h4
    have HI := hid ih
    clear h1 h4 ih h3
    have HN := hid (nodes_split d ks)
    unfold Nd.val
    simp only [Ex.d]
    obtain ⟨op, tb, nm, ix, vk, vi, vt⟩ := d
    simp only
    simp only at HN
    have HB := hid (Blk.of_new w 35 [.int .i64 op, .string tb, .string nm, .int .i64 ix, .int .i64 vk, .int .i64 vi, .string vt, .slice A n c])
    have HX := hid ((Ext.refl w).alloc (.cells #[.int .i64 op, .string tb, .string nm, .int .i64 ix, .int .i64 vk, .int .i64 vi, .string vt, .slice A n c] 35))
    obtain ⟨r0, b0, hb0, hr0⟩ : ∃ (r0 : Nat) (b0 : Bool), (op != 0) = b0 ∧ (b0 = true ∧ r0 = 1 ∨ b0 = false ∧ r0 = 0) ∧ (Ex.mk ⟨op, tb, nm, ix, vk, vi, vt⟩ ks).nodes = r0 + nodesL ks := by
      by_cases h : op = 0
      · exact ⟨0, false, by simp [h], .inr ⟨rfl, rfl⟩, by rw [HN.out, if_pos h]⟩
      · exact ⟨1, true, by simpa using h, .inl ⟨rfl, rfl⟩, by rw [HN.out, if_neg h]⟩
    obtain ⟨hb1, hr0⟩ := hr0
    have HR0 := hid hr0
    clear hr0 HN
    have HF : Hid (∀ x : Nat, Ending.returned (.int .i64 (wrap64 (x : Int))) = Ending.returned (.int .i64 (wrap64 (x : Int)))) := fun _ => rfl
    rcases hb1 with ⟨rfl, rfl⟩ | ⟨rfl, rfl⟩
    all_goals
      go_enter Tryz.func29, Tryz.ntmps29
      go_wp2_with fail
      generalize w.alloc (.cells #[.int .i64 op, .string tb, .string nm, .int .i64 ix, .int .i64 vk, .int .i64 vi, .string vt, .slice A n c] 35) = w1 at *
      generalize w.heap.size = g at *
      go_loopw [3, 4] (fun nv iv wr => ∃ (r : Int) (k : Nat), k ≤ n ∧ nv = .int .i64 r ∧ iv = .int .i64 k ∧ (∃ r0 : Nat, (Ex.mk ⟨op, tb, nm, ix, vk, vi, vt⟩ ks).nodes = r0 + nodesL ks ∧ r = wrap64 (r0 + nodesL (ks.take k) : Nat)) ∧ Ext w1 wr) (fun _ i _ => n - (intOf i).toNat)
      case atStart => exact ⟨_, 0, Nat.zero_le _, rfl, rfl, ⟨_, HR0.out, by simp [nodesL, wrap64]⟩, Ext.refl w1⟩
      case round =>
        obtain ⟨r, k, hk, rfl, rfl, hr, hxr⟩ := hrel
        have HXr := hid hxr
        have HRr := hid hr
        have c7 := (HB.out.ext hxr).cell 7
        simp only [List.getElem?_cons_succ, List.getElem?_cons_zero] at c7
        by_cases hlt : k < n
        · obtain ⟨e', he⟩ := at_lt HL.out hlt
          obtain ⟨b, off, A', n', c', rfl, q0, q1, q2, q3, q4, q5, q6, q7, hv'⟩ := ((HK.out.ext HX.out).ext hxr).get he
          have HV := hid hv'
          have HM := hid (mem_at he)
          have HS := hid (nodes_step he)
          clear he hv' hxr hr
          go_wp2_with (go_at_call 29; refine (HI.out e' HM.out A' n' c' _ (HV.out.ext (Ext.refl wr))).mono ?_; rintro _ w2 ⟨rfl, hx2⟩)
          go_roundw
          case rel =>
            refine ⟨_, k + 1, by omega, rfl, by go_num, ?_, HXr.out.trans hx2⟩
            obtain ⟨r0, h5, h6⟩ := HRr.out
            refine ⟨r0, h5, ?_⟩
            rw [h6, wrap_add, HS.out]
            congr 1; omega
          case measure => simp [intOf]; omega
        · obtain rfl : k = n := by omega
          have HT : Hid (ks.take k = ks) := List.take_of_length_le (Nat.le_of_eq HL.out)
          clear hr
          go_wp2_with fail
          go_ret
          obtain ⟨r0, h5, h6⟩ := HRr.out
          exact ⟨ret_int (by rw [h6, h5, HT.out]), HX.out.trans HXr.out⟩

theorem depth_any : ∀ (e : Ex) (A : Option Addr) (n c : Nat) (w : World), ExV w e A n c → e.nodes ≤ 100000000 →
    Calls Tryz.prog 30 #[e.d.val A n c] w fun r w' => r = .returned (.int .i64 (e.depth : Int)) ∧ Ext w w' := by
  intro e
  induction e using Ex.ind with
  | h d ks ih =>
    intro A n c w hv hm
    obtain ⟨h1, h2, h3, h4⟩ := hv
    have HL : Hid (ks.length = n) := h1
    have HK : Hid (KidsAt w A ks) := h4
    have HI := hid ih
    have hm2 : nodesL ks ≤ 100000000 := by rw [nodes_split] at hm; omega
    have HM2 := hid hm2
    have HD : Hid (depthL ks ≤ nodesL ks) := (depthL_le ks).1
    clear h1 h4 ih h3 hm hm2
    have HN : Hid ((Ex.mk d ks).depth = (if d.op = 0 then 0 else 1) + depthL ks) := rfl
    unfold Nd.val
    simp only [Ex.d]
    obtain ⟨op, tb, nm, ix, vk, vi, vt⟩ := d
    simp only
    simp only at HN
    have HB := hid (Blk.of_new w 35 [.int .i64 op, .string tb, .string nm, .int .i64 ix, .int .i64 vk, .int .i64 vi, .string vt, .slice A n c])
    have HX := hid ((Ext.refl w).alloc (.cells #[.int .i64 op, .string tb, .string nm, .int .i64 ix, .int .i64 vk, .int .i64 vi, .string vt, .slice A n c] 35))
    go_enter Tryz.func30, Tryz.ntmps30
    go_wp2_with fail
    generalize w.alloc (.cells #[.int .i64 op, .string tb, .string nm, .int .i64 ix, .int .i64 vk, .int .i64 vi, .string vt, .slice A n c] 35) = w1 at *
    generalize w.heap.size = g at *
    go_loopw [3, 9] (fun nv iv wr => ∃ (r k : Nat), k ≤ n ∧ r ≤ 100000000 ∧ nv = .int .i64 r ∧ iv = .int .i64 k ∧ r = depthL (ks.take k) ∧ Ext w1 wr) (fun _ i _ => n - (intOf i).toNat)
    case atStart => exact ⟨0, 0, Nat.zero_le _, by omega, rfl, rfl, rfl, Ext.refl w1⟩
    case round =>
      obtain ⟨r, k, hk, hrl, rfl, rfl, hr, hxr⟩ := hrel
      have HXr := hid hxr
      have HRr := hid hr
      have c7 := (HB.out.ext hxr).cell 7
      have c0 := (HB.out.ext hxr).cell 0
      simp only [List.getElem?_cons_succ, List.getElem?_cons_zero] at c7 c0
      by_cases hlt : k < n
      · obtain ⟨e', he⟩ := at_lt HL.out hlt
        obtain ⟨b, off, A', n', c', rfl, q0, q1, q2, q3, q4, q5, q6, q7, hv'⟩ := ((HK.out.ext HX.out).ext hxr).get he
        have HV := hid hv'
        have HM := hid (mem_at he)
        have HS := hid (depth_step he)
        have HE : Hid (e'.nodes ≤ 100000000) := by unfold Hid; have := nodes_mem HM.out; have := HM2.out; omega
        have hdl : e'.depth ≤ 100000000 := by have := (depthL_le [e']).2 e' (by simp); have := HE.out; omega
        clear he hv' hxr hr
        go_wp2_with (go_at_call 30; refine (HI.out e' HM.out A' n' c' _ (HV.out.ext ((Ext.refl wr).alloc _)) HE.out).mono ?_; rintro _ w2 ⟨rfl, hx2⟩)
        go_roundw
        case rel =>
          refine ⟨max r e'.depth, k + 1, by omega, by omega, ?_, by go_num, ?_, (HXr.out.alloc _).trans hx2⟩
          · congr 1; omega
          · rw [HS.out, HRr.out]
        case measure => simp [intOf]; omega
      · obtain rfl : k = n := by omega
        have HT : Hid (ks.take k = ks) := List.take_of_length_le (Nat.le_of_eq HL.out)
        clear hr
        by_cases h0 : op = 0
        · have hb : (op != 0) = false := by simp [h0]
          have HN2 : Hid ((Ex.mk ⟨op, tb, nm, ix, vk, vi, vt⟩ ks).depth = r) := by unfold Hid; rw [HN.out, if_pos h0, HRr.out, HT.out, Nat.zero_add]
          clear h0
          go_wp2_with fail
          go_ret
          exact ⟨ret_int (by rw [HN2.out]), HX.out.trans HXr.out⟩
        · have hb : (op != 0) = true := by simpa using h0
          have HN2 : Hid (((Ex.mk ⟨op, tb, nm, ix, vk, vi, vt⟩ ks).depth : Int) = (r : Int) + 1) := by unfold Hid; rw [HN.out, if_neg h0, HRr.out, HT.out]; omega
          clear h0
          go_wp2_with fail
          go_ret
          exact ⟨ret_int (by rw [HN2.out]), HX.out.trans HXr.out⟩

theorem rdepth_any : ∀ (e : Ex) (A : Option Addr) (n c : Nat) (w : World), ExV w e A n c → e.nodes ≤ 100000000 →
    Calls Tryz.prog 31 #[e.d.val A n c] w fun r w' => r = .returned (.int .i64 (e.depth : Int)) ∧ Ext w w' := by
  intro e
  induction e using Ex.ind with
  | h d ks ih =>
    intro A n c w hv hm
    obtain ⟨h1, h2, h3, h4⟩ := hv
    have HL : Hid (ks.length = n) := h1
    have HK : Hid (KidsAt w A ks) := h4
    have HI := hid ih
    have hm2 : nodesL ks ≤ 100000000 := by rw [nodes_split] at hm; omega
    have HM2 := hid hm2
    have HD : Hid (depthL ks ≤ nodesL ks) := (depthL_le ks).1
    clear h1 h4 ih h3 hm hm2
    have HN : Hid ((Ex.mk d ks).depth = (if d.op = 0 then 0 else 1) + depthL ks) := rfl
    unfold Nd.val
    simp only [Ex.d]
    obtain ⟨op, tb, nm, ix, vk, vi, vt⟩ := d
    simp only
    simp only at HN
    have HB := hid (Blk.of_new w 35 [.int .i64 op, .string tb, .string nm, .int .i64 ix, .int .i64 vk, .int .i64 vi, .string vt, .slice A n c])
    have HX := hid ((Ext.refl w).alloc (.cells #[.int .i64 op, .string tb, .string nm, .int .i64 ix, .int .i64 vk, .int .i64 vi, .string vt, .slice A n c] 35))
    go_enter Tryz.func31, Tryz.ntmps31
    go_wp2_with fail
    generalize w.alloc (.cells #[.int .i64 op, .string tb, .string nm, .int .i64 ix, .int .i64 vk, .int .i64 vi, .string vt, .slice A n c] 35) = w1 at *
    generalize w.heap.size = g at *
    go_loopw [3, 4] (fun nv iv wr => ∃ (r k : Nat), k ≤ n ∧ r ≤ 100000000 ∧ nv = .int .i64 r ∧ iv = .int .i64 k ∧ r = depthL (ks.take k) ∧ Ext w1 wr) (fun _ i _ => n - (intOf i).toNat)
    case atStart => exact ⟨0, 0, Nat.zero_le _, by omega, rfl, rfl, rfl, Ext.refl w1⟩
    case round =>
      obtain ⟨r, k, hk, hrl, rfl, rfl, hr, hxr⟩ := hrel
      have HXr := hid hxr
      have HRr := hid hr
      have c7 := (HB.out.ext hxr).cell 7
      have c0 := (HB.out.ext hxr).cell 0
      simp only [List.getElem?_cons_succ, List.getElem?_cons_zero] at c7 c0
      by_cases hlt : k < n
      · obtain ⟨e', he⟩ := at_lt HL.out hlt
        obtain ⟨b, off, A', n', c', rfl, q0, q1, q2, q3, q4, q5, q6, q7, hv'⟩ := ((HK.out.ext HX.out).ext hxr).get he
        have HV := hid hv'
        have HM := hid (mem_at he)
        have HS := hid (depth_step he)
        have HE : Hid (e'.nodes ≤ 100000000) := by unfold Hid; have := nodes_mem HM.out; have := HM2.out; omega
        have hdl : e'.depth ≤ 100000000 := by have := (depthL_le [e']).2 e' (by simp); have := HE.out; omega
        clear he hv' hxr hr
        go_wp2_with (go_at_call 31; refine (HI.out e' HM.out A' n' c' _ (HV.out.ext (Ext.refl wr)) HE.out).mono ?_; rintro _ w2 ⟨rfl, hx2⟩)
        go_roundw
        case rel =>
          refine ⟨max r e'.depth, k + 1, by omega, by omega, ?_, by go_num, ?_, HXr.out.trans hx2⟩
          · congr 1; omega
          · rw [HS.out, HRr.out]
        case measure => simp [intOf]; omega
      · obtain rfl : k = n := by omega
        have HT : Hid (ks.take k = ks) := List.take_of_length_le (Nat.le_of_eq HL.out)
        clear hr
        by_cases h0 : op = 0
        · have hb : (op != 0) = false := by simp [h0]
          have HN2 : Hid ((Ex.mk ⟨op, tb, nm, ix, vk, vi, vt⟩ ks).depth = r) := by unfold Hid; rw [HN.out, if_pos h0, HRr.out, HT.out, Nat.zero_add]
          clear h0
          go_wp2_with fail
          go_ret
          exact ⟨ret_int (by rw [HN2.out]), HX.out.trans HXr.out⟩
        · have hb : (op != 0) = true := by simpa using h0
          have HN2 : Hid (((Ex.mk ⟨op, tb, nm, ix, vk, vi, vt⟩ ks).depth : Int) = (r : Int) + 1) := by unfold Hid; rw [HN.out, if_neg h0, HRr.out, HT.out]; omega
          clear h0
          go_wp2_with fail
          go_ret
          exact ⟨ret_int (by rw [HN2.out]), HX.out.trans HXr.out⟩
end Go.Proofs.YtcdnodjcnofogaaGreatDoor
