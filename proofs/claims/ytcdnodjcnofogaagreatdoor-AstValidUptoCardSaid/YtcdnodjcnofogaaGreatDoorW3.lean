/-
  Walks: counted, upTo.
-/
import Derived.Test.YtcdnodjcnofogaaGreatDoorW2
namespace Go.Proofs.YtcdnodjcnofogaaGreatDoor
open Go.RowKit
set_option linter.unusedVariables false
set_option maxHeartbeats 1000000
set_option maxRecDepth 100000

theorem kid_nodes {l : List Ex} {k : Nat} {d : Nd} {ks : List Ex} (h : l[k]? = some (.mk d ks)) : nodesL (l.take (k + 1)) = nodesL (l.take k) + ((if d.op = 0 then 0 else 1) + nodesL ks) := nodes_step h
theorem nodes_take (l : List Ex) (k : Nat) : nodesL (l.take k) ≤ nodesL l := by
  have := nodesL_app (l.take k) (l.drop k)
  rw [List.take_append_drop] at this
  omega
theorem size_ks (d : Nd) (ks : List Ex) : (Ex.mk d ks).size = 1 + sizeL ks := rfl

theorem counted_any : ∀ (N : Nat) (l : List Ex) (A : Option Addr) (n c L : Nat) (w : World), sizeL l ≤ N → l.length = n → n ≤ 9223372036854775807 → KidsAt w A l → L ≤ 100000 →
    Calls Tryz.prog 67 #[.slice A n c, .int .i64 (L : Int)] w fun r w' => r = .returned (.int .i64 ((min (nodesL l) (L + 1) : Nat) : Int)) ∧ Ext w w' := by
  intro N
  induction N with
  | zero =>
    intro l A n c L w hz hl hn hk hL
    have : l = [] := by
      cases l with
      | nil => rfl
      | cons a l => rw [sizeL] at hz; have := size_pos a; omega
    subst this
    obtain rfl : n = 0 := hl.symm
    go_enter Tryz.func67, Tryz.ntmps67
    go_wp2_with fail
    go_loop [5, 10] (fun nv iv => nv = .int .i64 0 ∧ iv = .int .i64 0) (fun _ _ => 0)
    case atStart => exact ⟨rfl, rfl⟩
    case round =>
      obtain ⟨rfl, rfl⟩ := hrel
      go_wp2_with fail
      go_ret
      exact ⟨ret_int (by simp [nodesL]), Ext.refl w⟩
  | succ N ih =>
    intro l A n c L w hz hl hn hk hL
    have HZ := hid hz
    have HL := hid hl
    have HK := hid hk
    have HI := hid ih
    clear hz hl hk ih
    go_enter Tryz.func67, Tryz.ntmps67
    go_wp2_with fail
    go_loopw [5, 10] (fun nv iv wr => ∃ (r k : Nat), k ≤ n ∧ r ≤ L ∧ nv = .int .i64 r ∧ iv = .int .i64 k ∧ r = nodesL (l.take k) ∧ Ext w wr) (fun _ i _ => n - (intOf i).toNat)
    case atStart => exact ⟨0, 0, Nat.zero_le _, Nat.zero_le _, rfl, rfl, rfl, Ext.refl w⟩
    case round =>
      obtain ⟨r, k, hkn, hrL, rfl, rfl, hr, hxr⟩ := hrel
      have HXr := hid hxr
      have HRr := hid hr
      by_cases hlt : k < n
      · obtain ⟨e', he⟩ := at_lt HL.out hlt
        obtain ⟨b, off, A', n', c', rfl, q0, q1, q2, q3, q4, q5, q6, q7, hv'⟩ := (HK.out.ext hxr).get he
        have HV := hid hv'
        have HM := hid (mem_at he)
        obtain ⟨⟨op, tb, nm, ix, vk, vi, vt⟩, ks⟩ := e'
        simp only [Ex.d] at q0 q1 q2 q3 q4 q5 q6
        have HS := hid (kid_nodes he)
        have hks : n' ≤ 9223372036854775807 := hv'.le
        have HSz : Hid (sizeL ks ≤ N) := by unfold Hid; have := sizeL_mem HM.out; rw [size_ks] at this; have := HZ.out; omega
        have HT := hid (nodes_take l (k + 1))
        clear he hv' hxr hr
        by_cases h0 : op = 0
        · have hb : (op != 0) = false := by simp [h0]
          have HS2 : Hid (nodesL (l.take (k + 1)) = r + nodesL ks) := by unfold Hid; rw [HS.out, if_pos h0, ← HRr.out, Nat.zero_add]
          obtain ⟨m, hm⟩ : ∃ m, min (nodesL ks) (L - r + 1) = m := ⟨_, rfl⟩
          have HMm := hid hm
          have hm2 : m ≤ 100001 := by omega
          clear h0 hm
          have hcl : ((L - r : Nat) : Int) = (L : Int) - (r : Int) := by omega
          have HC : Hid (∀ W, Ext wr W → Calls Tryz.prog 67 #[.slice A' n' c', .int .i64 ((L : Int) - (r : Int))] W fun r w' => r = .returned (.int .i64 (m : Int)) ∧ Ext W w') := by
            intro W hW
            rw [← hcl, ← HMm.out]
            exact HI.out ks A' n' c' (L - r) W HSz.out HV.out.len hks (HV.out.kids.ext hW) (by omega)
          clear hcl
          by_cases h2 : r + m ≤ L
          · have HR2 : Hid (r + m = nodesL (l.take (k + 1))) := by unfold Hid; have := HMm.out; rw [HS2.out]; omega
            have g2 : decide ((L : Int) < (r : Int) + (m : Int)) = false := by simp; omega
            go_wp2_with (go_at_call 67; refine (HC.out _ ((Ext.refl wr).alloc _)).mono ?_; rintro _ w2 ⟨rfl, hx2⟩)
            go_roundw
            case rel => exact ⟨r + m, k + 1, by omega, by omega, by go_num, by go_num, HR2.out, (HXr.out.alloc _).trans hx2⟩
            case measure => simp [intOf]; omega
          · have HR2 : Hid (r + m = L + 1 ∧ L + 1 ≤ nodesL l) := by unfold Hid; have := HMm.out; have := HS2.out; have := HT.out; omega
            have g2 : decide ((L : Int) < (r : Int) + (m : Int)) = true := by simp; omega
            clear h2
            go_wp2_with (go_at_call 67; refine (HC.out _ ((Ext.refl wr).alloc _)).mono ?_; rintro _ w2 ⟨rfl, hx2⟩)
            go_ret
            exact ⟨ret_int (by have := HR2.out; omega), (HXr.out.alloc _).trans hx2⟩
        · have hb : (op != 0) = true := by simpa using h0
          have HS2 : Hid (nodesL (l.take (k + 1)) = r + 1 + nodesL ks) := by unfold Hid; rw [HS.out, if_neg h0, ← HRr.out, Nat.add_assoc]
          clear h0
          by_cases h1 : r + 1 ≤ L
          · obtain ⟨m, hm⟩ : ∃ m, min (nodesL ks) (L - (r + 1) + 1) = m := ⟨_, rfl⟩
            have HMm := hid hm
            have hm2 : m ≤ 100001 := by omega
            clear hm
            have hcl : ((L - (r + 1) : Nat) : Int) = (L : Int) - ((r : Int) + 1) := by omega
            have HC : Hid (∀ W, Ext wr W → Calls Tryz.prog 67 #[.slice A' n' c', .int .i64 ((L : Int) - ((r : Int) + 1))] W fun r w' => r = .returned (.int .i64 (m : Int)) ∧ Ext W w') := by
              intro W hW
              rw [← hcl, ← HMm.out]
              exact HI.out ks A' n' c' (L - (r + 1)) W HSz.out HV.out.len hks (HV.out.kids.ext hW) (by omega)
            clear hcl
            have g1 : decide ((r : Int) + 1 ≤ (L : Int)) = true := by simp; omega
            by_cases h2 : r + 1 + m ≤ L
            · have HR2 : Hid (r + 1 + m = nodesL (l.take (k + 1))) := by unfold Hid; have := HMm.out; rw [HS2.out]; omega
              have g2 : decide ((L : Int) < (r : Int) + 1 + (m : Int)) = false := by simp; omega
              go_wp2_with (go_at_call 67; refine (HC.out _ ((Ext.refl wr).alloc _)).mono ?_; rintro _ w2 ⟨rfl, hx2⟩)
              go_roundw
              case rel => exact ⟨r + 1 + m, k + 1, by omega, by omega, by go_num, by go_num, HR2.out, (HXr.out.alloc _).trans hx2⟩
              case measure => simp [intOf]; omega
            · have HR2 : Hid (r + 1 + m = L + 1 ∧ L + 1 ≤ nodesL l) := by unfold Hid; have := HMm.out; have := HS2.out; have := HT.out; omega
              have g2 : decide ((L : Int) < (r : Int) + 1 + (m : Int)) = true := by simp; omega
              clear h2
              go_wp2_with (go_at_call 67; refine (HC.out _ ((Ext.refl wr).alloc _)).mono ?_; rintro _ w2 ⟨rfl, hx2⟩)
              go_ret
              exact ⟨ret_int (by have := HR2.out; omega), (HXr.out.alloc _).trans hx2⟩
          · have HR2 : Hid (r = L ∧ L + 1 ≤ nodesL l) := by unfold Hid; have := HS2.out; have := HT.out; omega
            have g1 : decide ((r : Int) + 1 ≤ (L : Int)) = false := by simp; omega
            have g2 : decide ((L : Int) < (r : Int) + 1) = true := by simp; omega
            clear h1
            go_wp2_with fail
            go_ret
            exact ⟨ret_int (by have := HR2.out; omega), HXr.out.alloc _⟩
      · obtain rfl : k = n := by omega
        have HT : Hid (l.take k = l) := List.take_of_length_le (Nat.le_of_eq HL.out)
        clear hr
        go_wp2_with fail
        go_ret
        exact ⟨ret_int (by rw [← HT.out, ← HRr.out]; omega), HXr.out⟩

theorem upto_any : ∀ (e : Ex) (A : Option Addr) (n c L : Nat) (w : World), ExV w e A n c → L ≤ 100000 →
    Calls Tryz.prog 44 #[e.d.val A n c, .int .i64 (L : Int)] w fun r w' => r = .returned (.int .i64 ((min e.nodes (L + 1) : Nat) : Int)) ∧ Ext w w' := by
  intro e
  induction e using Ex.ind with
  | h d ks ih =>
    intro A n c L w hv hL
    obtain ⟨h1, h2, h3, h4⟩ := hv
    have HL : Hid (ks.length = n) := h1
    have HK : Hid (KidsAt w A ks) := h4
    have HI := hid ih
    clear h1 h4 ih h3
    have HN := hid (nodes_split d ks)
    unfold Nd.val
    simp only [Ex.d]
    obtain ⟨op, tb, nm, ix, vk, vi, vt⟩ := d
    simp only
    simp only at HN
    have HB := hid (Blk.of_new w 35 [.int .i64 op, .string tb, .string nm, .int .i64 ix, .int .i64 vk, .int .i64 vi, .string vt, .slice A n c])
    have HX := hid ((Ext.refl w).alloc (.cells #[.int .i64 op, .string tb, .string nm, .int .i64 ix, .int .i64 vk, .int .i64 vi, .string vt, .slice A n c] 35))
    obtain ⟨r0, b0, hb0, hr0⟩ : ∃ (r0 : Nat) (b0 : Bool), (op != 0) = b0 ∧ (b0 = true ∧ r0 = 1 ∨ b0 = false ∧ r0 = 0) ∧ (Ex.mk ⟨op, tb, nm, ix, vk, vi, vt⟩ ks).nodes = r0 + nodesL ks := by
      by_cases h : op = 0
      · exact ⟨0, false, by simp [h], .inr ⟨rfl, rfl⟩, by rw [HN.out, if_pos h]⟩
      · exact ⟨1, true, by simpa using h, .inl ⟨rfl, rfl⟩, by rw [HN.out, if_neg h]⟩
    obtain ⟨hb1, hr0⟩ := hr0
    have HR0 : Hid (∃ r0 : Nat, (Ex.mk ⟨op, tb, nm, ix, vk, vi, vt⟩ ks).nodes = r0 + nodesL ks ∧ (b0 = true ∧ r0 = 1 ∨ b0 = false ∧ r0 = 0)) := ⟨r0, hr0, hb1⟩
    clear hr0 HN
    rcases hb1 with ⟨rfl, rfl⟩ | ⟨rfl, rfl⟩
    all_goals
      go_enter Tryz.func44, Tryz.ntmps44
      go_wp2_with fail
      generalize w.alloc (.cells #[.int .i64 op, .string tb, .string nm, .int .i64 ix, .int .i64 vk, .int .i64 vi, .string vt, .slice A n c] 35) = w1 at *
      generalize w.heap.size = g at *
      go_loopw [5, 6] (fun nv iv wr => ∃ (r k : Nat), k ≤ n ∧ r ≤ L + 1 ∧ nv = .int .i64 r ∧ iv = .int .i64 k ∧ (∃ r0 : Nat, (Ex.mk ⟨op, tb, nm, ix, vk, vi, vt⟩ ks).nodes = r0 + nodesL ks ∧ r = min (r0 + nodesL (ks.take k)) (L + 1)) ∧ Ext w1 wr) (fun _ i _ => n - (intOf i).toNat)
      case atStart =>
        obtain ⟨r0, h5, h6⟩ := HR0.out
        refine ⟨r0, 0, Nat.zero_le _, by omega, ?_, rfl, ⟨r0, h5, by simp [nodesL]; omega⟩, Ext.refl w1⟩
        rcases h6 with ⟨h6, rfl⟩ | ⟨h6, rfl⟩
        · first | rfl | cases h6
        · first | rfl | cases h6
      case round =>
        obtain ⟨r, k, hk, hrL, rfl, rfl, hr, hxr⟩ := hrel
        have HXr := hid hxr
        have HRr := hid hr
        have c7 := (HB.out.ext hxr).cell 7
        simp only [List.getElem?_cons_succ, List.getElem?_cons_zero] at c7
        by_cases hlt : k < n
        · by_cases hle : r ≤ L
          · obtain ⟨e', he⟩ := at_lt HL.out hlt
            obtain ⟨b, off, A', n', c', rfl, q0, q1, q2, q3, q4, q5, q6, q7, hv'⟩ := ((HK.out.ext HX.out).ext hxr).get he
            have HV := hid hv'
            have HM := hid (mem_at he)
            have HS := hid (nodes_step he)
            obtain ⟨m, hm⟩ : ∃ m, min e'.nodes (L - r + 1) = m := ⟨_, rfl⟩
            have HMm := hid hm
            have hm2 : m ≤ 100001 := by omega
            clear hm
            have hcl : ((L - r : Nat) : Int) = (L : Int) - (r : Int) := by omega
            have HC : Hid (Calls Tryz.prog 44 #[e'.d.val A' n' c', .int .i64 ((L : Int) - (r : Int))] wr fun r w' => r = .returned (.int .i64 (m : Int)) ∧ Ext wr w') := by
              unfold Hid
              rw [← hcl, ← HMm.out]
              exact HI.out e' HM.out A' n' c' (L - r) _ HV.out (by omega)
            have g1 : decide ((r : Int) ≤ (L : Int)) = true := by simp; omega
            have HR2 : Hid (∀ r0 : Nat, r = min (r0 + nodesL (ks.take k)) (L + 1) → r + m = min (r0 + nodesL (ks.take (k + 1))) (L + 1)) := by
              intro r0 h
              have h1 := HMm.out
              rw [HS.out]
              omega
            clear he hv' hxr hr hcl
            go_wp2_with (go_at_call 44; refine HC.out.mono ?_; rintro _ w2 ⟨rfl, hx2⟩)
            go_roundw
            case rel =>
              obtain ⟨r0, h5, h6⟩ := HRr.out
              refine ⟨r + m, k + 1, by omega, by have := HMm.out; omega, by go_num, by go_num, ⟨r0, h5, HR2.out r0 h6⟩, HXr.out.trans hx2⟩
            case measure => simp [intOf]; omega
          · have g1 : decide ((r : Int) ≤ (L : Int)) = false := by simp; omega
            have HT := hid (nodes_take ks k)
            have HLE := hid hle
            clear hr hle
            go_wp2_with fail
            go_ret
            obtain ⟨r0, h5, h6⟩ := HRr.out
            exact ⟨ret_int (by have := HT.out; have := HLE.out; rw [h5]; omega), HX.out.trans HXr.out⟩
        · obtain rfl : k = n := by omega
          have HT : Hid (ks.take k = ks) := List.take_of_length_le (Nat.le_of_eq HL.out)
          clear hr
          go_wp2_with fail
          go_ret
          obtain ⟨r0, h5, h6⟩ := HRr.out
          exact ⟨ret_int (by rw [h6, h5, HT.out]), HX.out.trans HXr.out⟩
end Go.Proofs.YtcdnodjcnofogaaGreatDoor
