/-
  Walks over the schedule package's reference: Parse.
-/
import Derived.Test.YtcdinoepjimkmaaDoorW17
namespace Go.Proofs.YtcdinoepjimkmaaDoor
open Go.RowKit
set_option linter.unusedVariables false
set_option maxHeartbeats 4000000
set_option maxRecDepth 100000

def RParRes (x : Pr) (v : Value) (w : World) : Prop := ∃ A c, v = .tuple #[.slice A (prL2 x).length c, .int .i64 (prN x)] ∧ ActsAt w A (prL2 x)
theorem last10 (t : ByteArray) (f : List UInt8) (h : t.data.toList = f ++ [10]) (h0 : t.size - 1 < t.size) : t[t.size - 1] = 10 := by
  have h1 : t.data.toList[t.size - 1]? = some (t[t.size - 1]) := List.getElem?_eq_getElem (show t.size - 1 < t.data.toList.length from h0)
  have hs : t.size = f.length + 1 := by
    have := congrArg List.length h
    rw [List.length_append, List.length_singleton] at this
    exact this
  have h2 : t.data.toList[t.size - 1]? = some 10 := by
    rw [h, show t.size - 1 = f.length by omega, List.getElem?_append_right (Nat.le_refl _), Nat.sub_self]
    rfl
  exact Option.some.inj (h1.symm.trans h2)
theorem rparse_any (s : ByteArray) (w : World) (hs : s.size ≤ 4000) : Calls Tryd.prog 22 #[.string s] w fun e w' => ∃ v, e = .returned v ∧ RParRes (prL s.data.toList 1) v w' ∧ Ext w w' := by
  obtain ⟨i0, hi, hz0, hz1, hz2⟩ := info_parts info29
  have hz : s.data.toList.length = s.size := rfl
  go_enter Tryd.func22, Tryd.ntmps22
  go_wp2_with fail
  go_loopw [4, 5, 6] (fun v av nv wr => ∃ (at_ k : Nat) (out : List Act), av = .int .i64 at_ ∧ nv = .int .i64 ((k + 1 : Nat) : Int) ∧ k ≤ at_ ∧ at_ ≤ s.size ∧ wr.ownsRow w.heap.size 29 4 v out.length (actc out) ∧ out.length = k ∧ Ext w wr ∧ prL s.data.toList 1 = (prL (s.data.toList.drop at_) (k + 1)).pre out) (fun _ av _ _ => s.size - (intOf av).toNat)
  case atStart => exact ⟨0, 0, [], rfl, rfl, Nat.le_refl _, Nat.zero_le _, World.ownsRow_nil _ _ _ _, rfl, Ext.refl w, by rw [List.drop_zero]; cases prL s.data.toList 1 <;> rfl⟩
  case round =>
    obtain ⟨a0, k, out, rfl, rfl, hka, has, hown, hol, hxr, hv⟩ := hrel
    have HV := hid hv
    clear hv
    by_cases hlt : a0 < s.size
    · go_wp2_with fail
      go_loop [7] (fun ev => ∃ e : Nat, a0 ≤ e ∧ e ≤ s.size ∧ ev = .int .i64 e ∧ (10 : UInt8) ∉ (s.data.toList.drop a0).take (e - a0)) (fun ev => s.size - (intOf ev).toNat)
      case atStart => exact ⟨a0, Nat.le_refl _, has, rfl, by simp⟩
      case round =>
        obtain ⟨e, hae, hes, rfl, hno⟩ := hrel
        have HNO := hid hno
        clear hno
        by_cases hel : e < s.size
        · have hge : (s.data.toList.drop a0)[e - a0]? = some s[e] := by
            rw [List.getElem?_drop, show a0 + (e - a0) = e by omega, List.getElem?_eq_getElem (show e < s.data.toList.length from hel)]
            rfl
          by_cases h10 : s[e].toNat = 10
          · have b10 : ((s[e].toNat : Int) != 10) = false := by rw [h10]; rfl
            have e10 : s[e] = 10 := UInt8.toNat_inj.1 h10
            have be : ((e : Int) == (s.size : Int)) = false := by rw [beq_eq_false_iff_ne]; omega
            have hD : s.data.toList.drop a0 = (s.data.toList.drop a0).take (e - a0) ++ 10 :: s.data.toList.drop (e + 1) := by
              conv => lhs; rw [← List.take_append_drop (e - a0) (s.data.toList.drop a0)]
              rw [List.drop_drop, show a0 + (e - a0) = e by omega, dr1 s e hel, e10]
            have hcut : cut10 (s.data.toList.drop a0) = some ((s.data.toList.drop a0).take (e - a0), s.data.toList.drop (e + 1)) := by
              conv => lhs; rw [hD]
              exact cut10_app _ _ HNO.out
            have hseg : (s.extract a0 (e + 1)).data.toList = (s.data.toList.drop a0).take (e - a0) ++ [10] := by
              rw [ex_list, show e + 1 - a0 = (e - a0) + 1 by omega, List.take_add_one, hge, e10]
              rfl
            obtain ⟨cc, rr, hcr⟩ : ∃ c r, s.data.toList.drop a0 = c :: r := ⟨_, _, dr1 s a0 hlt⟩
            have hsz : (s.extract a0 (e + 1)).size = e + 1 - a0 := by rw [ByteArray.size_extract]; omega
            have HA : Hid (∀ W, Calls Tryd.prog 35 #[.string (s.extract a0 (e + 1))] W fun e' w' => e' = .returned (rcand ((s.data.toList.drop a0).take (e - a0) ++ [10])).val ∧ Ext W w') := by
              intro W
              have := action_any (s.extract a0 (e + 1)) W (by omega) (by omega) (last10 _ _ hseg (by omega))
              rw [hseg] at this
              exact this
            have HS : Hid (rlineP ((s.data.toList.drop a0).take (e - a0) ++ [10]) = lineP ((s.data.toList.drop a0).take (e - a0))) := line_same _
            have HRL : Hid (rlineP ((s.data.toList.drop a0).take (e - a0) ++ [10]) = if rightB (rcand ((s.data.toList.drop a0).take (e - a0) ++ [10])) 8 = true ∧ (lineB (rcand ((s.data.toList.drop a0).take (e - a0) ++ [10]))).data.toList ++ [10] = (s.data.toList.drop a0).take (e - a0) ++ [10] then some (rcand ((s.data.toList.drop a0).take (e - a0) ++ [10])) else none) := rfl
            have HB1 : Hid (lineP ((s.data.toList.drop a0).take (e - a0)) = none → prL s.data.toList 1 = .bad (k + 1)) := by
              intro h
              rw [HV.out, hcr, pr_line cc rr _ _ (k + 1) (by rw [← hcr]; exact hcut) h]
              rfl
            have HB2 : Hid (∀ a, lineP ((s.data.toList.drop a0).take (e - a0)) = some a → prL s.data.toList 1 = (prL (s.data.toList.drop (e + 1)) (k + 1 + 1)).pre (out ++ [a])) := by
              intro a h
              rw [HV.out, hcr, pr_step cc rr _ _ (k + 1) a (by rw [← hcr]; exact hcut) h, pr_pre]
            have HSEG : Hid ((s.extract a0 (e + 1)).data.toList = (s.data.toList.drop a0).take (e - a0) ++ [10]) := hseg
            clear hge h10 e10 hD hcut hseg hcr hsz
            generalize (s.data.toList.drop a0).take (e - a0) = f at *
            generalize hcd : rcand (f ++ [10]) = a at *
            have HXw := hid hxr
            have hwq : ∀ w2 : World, Ext wr w2 → w.heap.size ≤ w2.heap.size := fun w2 h => (hxr.trans h).size
            go_wp2_with (go_at_call 35; refine (HA.out _).mono ?_; rintro e' w2 ⟨rfl, hx2⟩; unfold Act.val)
            have HBa := hid (Blk.of_new w2 29 [.int .i64 a.k, .int .i64 a.s, .int .i64 a.wr, .int .i64 a.b])
            have HXa : Hid (Ext wr (w2.alloc (.cells [Value.int .i64 a.k, .int .i64 a.s, .int .i64 a.wr, .int .i64 a.b].toArray 29))) := hx2.trans ((Ext.refl w2).alloc _)
            revert HBa HXa
            generalize hW : w2.alloc (.cells #[Value.int .i64 a.k, .int .i64 a.s, .int .i64 a.wr, .int .i64 a.b] 29) = Wa
            intro HBa HXa
            have k0 := Later.keep (HBa.out.cell_some (i := 0) rfl)
            have k1 := Later.keep (HBa.out.cell_some (i := 1) rfl)
            have k2 := Later.keep (HBa.out.cell_some (i := 2) rfl)
            have k3 := Later.keep (HBa.out.cell_some (i := 3) rfl)
            have HRI : Hid (∀ W, Calls Tryd.prog 26 #[.agg #[.int .i64 a.k, .int .i64 a.s, .int .i64 a.wr, .int .i64 a.b], .int .i64 8] W fun e w' => e = .returned (.bool (rightB a 8)) ∧ Ext W w') := fun W => ri_any a.k a.s a.wr a.b 8 W
            cases hr : rightB a 8
            · rw [hr] at HRI
              have HR : Hid (prL s.data.toList 1 = .bad (k + 1)) := HB1.out (by rw [← HS.out, HRL.out, if_neg (fun h => by rw [hr] at h; exact absurd h.1 (by decide))])
              clear hr HRL HS HB1 HB2
              refine wp_region_later (by kernel_rfl) (by kernel_rfl) ?_
              repeat (go_big_quiet_step ((go_at_call 26; exact later_of (HRI.out _))))
              refine wpQuiet_nil ?_
              intro w' hw'
              have hx := later_out hw'
              clear hw' k0 k1 k2 k3
              go_wp2_with fail
              go_ret2
              exact ⟨_, rfl, by rw [HR.out]; exact ⟨none, 0, rfl, fun i a h => by simp [prL2] at h⟩, (HXw.out.trans HXa.out).trans hx⟩
            · rw [hr] at HRI
              have HLI := hid (rline_any a hr)
              have HLS : Hid ((lineN a).data.toList = (lineB a).data.toList ++ [10]) := rfl
              have hsq : ((lineN a).toList == (s.extract a0 (e + 1)).toList) = decide ((lineB a).data.toList ++ [10] = f ++ [10]) := by
                rw [seq_list, ByteArray.toList_eq]
                rw [HSEG.out]
                rfl
              by_cases heq : (lineB a).data.toList ++ [10] = f ++ [10]
              · have b1 : ((lineN a).toList != (s.extract a0 (e + 1)).toList) = false := by rw [bne, hsq, decide_eq_true heq]; rfl
                have b2 : ((lineN a).toList == (s.extract a0 (e + 1)).toList) = true := by rw [hsq, decide_eq_true heq]
                have HR := hid (HB2.out a (by rw [← HS.out, HRL.out, if_pos ⟨hr, heq⟩]))
                clear hr HRL HS HB1 HB2 hsq heq HLS
                generalize lineN a = L at *
                refine wp_region_later (by kernel_rfl) (by kernel_rfl) ?_
                repeat (go_big_quiet_step ((first | (go_at_call 26; exact later_of (HRI.out _)) | (go_at_call 34; exact later_of (HLI.out _)))))
                refine wpQuiet_nil ?_
                intro w' hw'
                have hx := later_out hw'
                have HXb := hid (HXa.out.trans hx)
                have HBb := hid (HBa.out.ext hx)
                clear hw' k0 k1 k2 k3
                have d0 := HBb.out.cell_some (i := 0) rfl
                have d1 := HBb.out.cell_some (i := 1) rfl
                have d2 := HBb.out.cell_some (i := 2) rfl
                have d3 := HBb.out.cell_some (i := 3) rfl
                have HO := hid (ownN_ext hown (HXb.out.alloc (.cells #[.int .i64 a.k, .int .i64 a.s, .int .i64 a.wr, .int .i64 a.b] 29)))
                have hbe : w.heap.size ≤ w'.heap.size := hwq w' HXb.out
                go_wp2_with (at_builtin; refine wpList_append_own _ rfl _ _ 24 rfl w.heap.size 29 i0 (.agg #[.int .i64 0, .int .i64 0, .int .i64 0, .int .i64 0]) 4 32 Tryd.underlying24 hi hz0 hz1 hz2 rfl (by decide) _ _ _ rfl HO.out ⟨_, 0, none⟩ 1 1 (Act.cells a) rfl rfl (news_at _ _ _ _ (by simp)) (by intro u hu; simp [Act.cells] at hu; rcases hu with rfl | rfl | rfl | rfl <;> rfl) (by unfold maxLen; omega) (by omega) (by simp; omega) ?_; intro v' w4 hown' hgrow _)
                go_roundw
                case rel =>
                  exact ⟨e + 1, k + 1, out ++ [a], by go_num, by go_num, by omega, by omega, by rw [actc_snoc, List.length_append]; exact hown', by rw [List.length_append, hol]; rfl, Ext.grown ((HXw.out.trans HXb.out).alloc _) hgrow (fun g hg => own_ge hown hg), HR.out⟩
                case measure => simp [intOf]; omega
              · have b1 : ((lineN a).toList != (s.extract a0 (e + 1)).toList) = true := by rw [bne, hsq, decide_eq_false heq]; rfl
                have b2 : ((lineN a).toList == (s.extract a0 (e + 1)).toList) = false := by rw [hsq, decide_eq_false heq]
                have HR : Hid (prL s.data.toList 1 = .bad (k + 1)) := HB1.out (by rw [← HS.out, HRL.out, if_neg (fun h => heq h.2)])
                clear hr HRL HS HB1 HB2 hsq heq HLS
                generalize lineN a = L at *
                refine wp_region_later (by kernel_rfl) (by kernel_rfl) ?_
                repeat (go_big_quiet_step ((first | (go_at_call 26; exact later_of (HRI.out _)) | (go_at_call 34; exact later_of (HLI.out _)))))
                refine wpQuiet_nil ?_
                intro w' hw'
                have hx := later_out hw'
                clear hw' k0 k1 k2 k3
                go_wp2_with fail
                go_ret2
                exact ⟨_, rfl, by rw [HR.out]; exact ⟨none, 0, rfl, fun i a h => by simp [prL2] at h⟩, (HXw.out.trans HXa.out).trans hx⟩
          · have b10 : ((s[e].toNat : Int) != 10) = true := by rw [bne_iff_ne]; omega
            have HN2 : Hid ((10 : UInt8) ∉ (s.data.toList.drop a0).take (e + 1 - a0)) := by
              rw [show e + 1 - a0 = (e - a0) + 1 by omega, List.take_add_one, hge]
              intro hm
              rcases List.mem_append.1 hm with hm | hm
              · exact HNO.out hm
              · rw [Option.toList_some, List.mem_singleton] at hm
                rw [← hm] at h10
                exact h10 rfl
            clear h10 hge
            go_wp2_with fail
            go_round
            case rel => exact ⟨e + 1, by omega, by omega, by go_num, HN2.out⟩
            case measure => simp [intOf]; omega
        · obtain ⟨cc, rr, hcr⟩ : ∃ c r, s.data.toList.drop a0 = c :: r := ⟨_, _, dr1 s a0 hlt⟩
          have HR : Hid (prL s.data.toList 1 = .bad (k + 1)) := by
            unfold Hid
            have hn : (10 : UInt8) ∉ s.data.toList.drop a0 := by
              have h := HNO.out
              rw [List.take_of_length_le (by rw [List.length_drop, hz]; omega)] at h
              exact h
            rw [HV.out, hcr, pr_cut cc rr (k + 1) (by rw [← hcr]; exact (cut10_none _).2 hn)]
            rfl
          have be : ((e : Int) == (s.size : Int)) = true := by rw [beq_iff_eq]; omega
          clear hcr
          go_wp2_with fail
          go_ret2
          exact ⟨_, rfl, by rw [HR.out]; exact ⟨none, 0, rfl, fun i a h => by simp [prL2] at h⟩, hxr⟩
    · have HR : Hid (prL s.data.toList 1 = .ok out) := by
        unfold Hid
        rw [HV.out, List.drop_of_length_le (by rw [hz]; omega), pr_nil]
        simp [Pr.pre]
      obtain ⟨A, c, rfl, hat, hlen⟩ := own_acts hown
      go_wp2_with fail
      go_ret2
      exact ⟨_, rfl, by rw [HR.out]; exact ⟨A, c, by rw [show (prL2 (Pr.ok out)).length = _ from hol]; rfl, hat⟩, hxr⟩
end Go.Proofs.YtcdinoepjimkmaaDoor
