/-
  Walks: Columns of the reference.
-/
import Derived.Test.YtcdnodjcnofogaaGreatDoorW35
namespace Go.Proofs.YtcdnodjcnofogaaGreatDoor
open Go.RowKit
set_option linter.unusedVariables false
set_option linter.unusedSimpArgs false
set_option maxHeartbeats 4000000
set_option maxRecDepth 100000

theorem own_at {w : World} {B e n : Nat} {v : Value} {xs : List Value} (h : w.ownsRow B e 8 v n xs) : ∀ q, v.ownBlock = some q → B ≤ q := fun q hq => (h.lt q hq).1
theorem rcolumns_any : ∀ (e : Ex) (A : Option Addr) (m c : Nat) (w0 w : World), ExV w0 e A m c → Ext w0 w → e.size ≤ 1048576 →
    Calls Tryz.prog 28 #[e.d.val A m c] w fun r w' => ∃ v xs, r = .returned v ∧ w'.ownsRow w.heap.size 35 8 v e.cols.length xs ∧ LC w0 e.cols xs ∧ Ext w w' := by
  intro e
  induction e using Ex.ind with
  | h d ks ih =>
    intro A m c w0 w hv hx0 hsz
    have HX0 := hid hx0
    obtain ⟨i0, hi, hz0, hz1, hz2⟩ := info_parts info_ex
    have hcl := cols_len (.mk d ks)
    have hE0 := elt_cells hv
    obtain ⟨h1, h2', h3, h4⟩ := hv
    have HL : Hid (ks.length = m) := h1
    have HK : Hid (KidsAt w0 A ks) := h4
    have HI := hid ih
    have HS : Hid (∀ k ∈ ks, k.size ≤ 1048576) := fun k hk => by have := size_kid (d := d) hk; omega
    have hT : (Ex.mk d ks).cols = (if d.op = 2 then [Ex.mk d ks] else []) ++ colsL ks := by rw [Ex.cols]
    have hct : ((if d.op = 2 then [Ex.mk d ks] else []) ++ colsL ks).length ≤ 1048576 := by rw [← hT]; omega
    clear h1 h4 ih hcl hx0
    generalize (Ex.mk d ks).cols = T at *
    have hdv : (Ex.mk d ks).d = d := rfl
    rw [hdv] at hE0 ⊢
    have HE0 := hid hE0
    have HONE := hid (cells8_one d A m c)
    clear hE0
    unfold Nd.val
    unfold Nd.cells at HONE HE0
    obtain ⟨op, tb, nm, ix, vk, vi, vt⟩ := d
    simp only at *
    have HB := hid (Blk.of_new w 35 [.int .i64 op, .string tb, .string nm, .int .i64 ix, .int .i64 vk, .int .i64 vi, .string vt, .slice A m c])
    have HX := hid ((Ext.refl w).alloc (.cells #[.int .i64 op, .string tb, .string nm, .int .i64 ix, .int .i64 vk, .int .i64 vi, .string vt, .slice A m c] 35))
    have HSz : Hid ((w.alloc (.cells #[.int .i64 op, .string tb, .string nm, .int .i64 ix, .int .i64 vk, .int .i64 vi, .string vt, .slice A m c] 35)).heap.size = w.heap.size + 1) := by unfold Hid; simp
    obtain ⟨g, hg⟩ : ∃ g, w.heap.size = g := ⟨_, rfl⟩
    have HG := hid hg
    by_cases h2 : op = 2
    · subst h2
      rw [if_pos rfl] at hct hT
      have HT := hid hT
      clear hT
      have hlen1 : ∀ k, ([(Ex.mk ⟨2, tb, nm, ix, vk, vi, vt⟩ ks)] ++ colsL (ks.take k)).length ≤ 1048576 := fun k => by
        have := cols_le (ks := ks) k
        rw [List.length_append] at hct ⊢
        omega
      have HLN := hid hlen1
      clear hlen1 hct
      go_enter Tryz.func28, Tryz.ntmps28
      go_upto_region 1 with fail
      generalize w.alloc (.cells #[.int .i64 2, .string tb, .string nm, .int .i64 ix, .int .i64 vk, .int .i64 vi, .string vt, .slice A m c] 35) = w1 at *
      have HO1 := hid (own_room w1 35 8 0 0 0 w1.heap.size #[] (Nat.le_refl _) rfl (by decide))
      have HO2 := hid (ownN_ext HO1.out ((Ext.refl (w1.alloc (.cells #[] 35))).alloc (.cells #[.int .i64 2, .string tb, .string nm, .int .i64 ix, .int .i64 vk, .int .i64 vi, .string vt, .slice A m c] 35)))
      rw [hg] at HB HSz
      have c0 := ((HB.out.ext ((Ext.refl w1).alloc (.cells #[] 35)))).cell 0
      simp only [List.getElem?_cons_succ, List.getElem?_cons_zero] at c0 
      have c1 := ((HB.out.ext ((Ext.refl w1).alloc (.cells #[] 35)))).cell 1
      have c2 := ((HB.out.ext ((Ext.refl w1).alloc (.cells #[] 35)))).cell 2
      have c3 := ((HB.out.ext ((Ext.refl w1).alloc (.cells #[] 35)))).cell 3
      have c4 := ((HB.out.ext ((Ext.refl w1).alloc (.cells #[] 35)))).cell 4
      have c5 := ((HB.out.ext ((Ext.refl w1).alloc (.cells #[] 35)))).cell 5
      have c6 := ((HB.out.ext ((Ext.refl w1).alloc (.cells #[] 35)))).cell 6
      have c7 := ((HB.out.ext ((Ext.refl w1).alloc (.cells #[] 35)))).cell 7
      simp only [List.getElem?_cons_succ, List.getElem?_cons_zero] at c1 c2 c3 c4 c5 c6 c7
      have hrd := reads_new (w1.alloc (.cells #[] 35)) [.int .i64 2, .string tb, .string nm, .int .i64 ix, .int .i64 vk, .int .i64 vi, .string vt, .slice A m c] 35 rfl
      rw [show (w1.alloc (.cells #[] 35)).heap.size = w1.heap.size + 1 by simp] at hrd
      have HRD := hid hrd
      clear hrd
      have hb1 : some g ≠ some w1.heap.size := by have := HSz.out; intro h; have := Option.some.inj h; omega
      go_wp2_with (at_builtin; refine wpList_append_any _ rfl (.tmp 9) (.tmp 11) 25 rfl w1.heap.size 35 i0 _ 8 104 Tryz.underlying25 hi hz0 hz1 hz2 rfl (by decide) _ 0 [] rfl HO2.out _ _ 1 1 [.int .i64 2, .string tb, .string nm, .int .i64 ix, .int .i64 vk, .int .i64 vi, .string vt, .slice A m c] rfl HRD.out HONE.out (by unfold maxLen; omega) (by omega) (((Ext.refl w1).alloc _).alloc _).size ?_; intro v1 w5 hown5 hgr5 hblk5; have HO5 := hid hown5; have HG5 := hid hgr5; have HB5 := hid hblk5; clear hown5 hgr5 hblk5)
      have hbf : Blk w5 g 35 [.int .i64 2, .string tb, .string nm, .int .i64 ix, .int .i64 vk, .int .i64 vi, .string vt, .slice A m c] := (HB.out.ext (((Ext.refl w1).alloc (.cells #[] 35)).alloc (.cells #[.int .i64 2, .string tb, .string nm, .int .i64 ix, .int .i64 vk, .int .i64 vi, .string vt, .slice A m c] 35))).grown HG5.out hb1
      have HBF := hid hbf
      have HXS := hid ((((HX.out).alloc (.cells #[] 35)).alloc (.cells #[.int .i64 2, .string tb, .string nm, .int .i64 ix, .int .i64 vk, .int .i64 vi, .string vt, .slice A m c] 35)).grown HG5.out fun q hq => by have := own_at HO2.out q hq; have := HX.out.size; omega)
      have HOI : Hid (w5.ownsRow w1.heap.size 35 8 v1 ([(Ex.mk ⟨2, tb, nm, ix, vk, vi, vt⟩ ks)] ++ colsL (ks.take 0)).length [.int .i64 2, .string tb, .string nm, .int .i64 ix, .int .i64 vk, .int .i64 vi, .string vt, .slice A m c]) := by unfold Hid; simpa [colsL] using HO5.out
      have HLI : Hid (LC w0 ([(Ex.mk ⟨2, tb, nm, ix, vk, vi, vt⟩ ks)] ++ colsL (ks.take 0)) [.int .i64 2, .string tb, .string nm, .int .i64 ix, .int .i64 vk, .int .i64 vi, .string vt, .slice A m c]) := by unfold Hid; simpa [colsL] using LC.one HE0.out
      clear hbf HO5 HG5 HB5 HO1 HO2 c0  c1 c2 c3 c4 c5 c6 c7
      generalize [(Ex.mk ⟨2, tb, nm, ix, vk, vi, vt⟩ ks)] = L0 at HT HLN HOI HLI
      go_loopw [3, 4] (fun nv iv wr => ∃ (k : Nat) (xs : List Value), k ≤ m ∧ iv = .int .i64 k ∧ wr.ownsRow w1.heap.size 35 8 nv (L0 ++ colsL (ks.take k)).length xs ∧ LC w0 (L0 ++ colsL (ks.take k)) xs ∧ Ext w wr ∧ Blk wr g 35 [.int .i64 2, .string tb, .string nm, .int .i64 ix, .int .i64 vk, .int .i64 vi, .string vt, .slice A m c]) (fun _ i _ => m - (intOf i).toNat)
      case atStart => exact ⟨0, _, Nat.zero_le _, rfl, HOI.out, HLI.out, HXS.out, HBF.out⟩
      case round =>
        obtain ⟨k, xs, hk, rfl, hown1, hlc1, hxr, hbr⟩ := hrel
        have HO := hid hown1
        have HLC := hid hlc1
        have HXr := hid hxr
        have HBr := hid hbr
        have c7 := hbr.cell 7
        simp only [List.getElem?_cons_succ, List.getElem?_cons_zero] at c7
        clear hown1 hlc1 hbr
        by_cases hlt : k < m
        · obtain ⟨e', he⟩ := at_lt HL.out hlt
          obtain ⟨b, off, A', n', c', rfl, q0, q1, q2, q3, q4, q5, q6, q7, hv'⟩ := HK.out.get he
          replace q0 := (HX0.out.trans hxr).keep q0
          replace q1 := (HX0.out.trans hxr).keep q1
          replace q2 := (HX0.out.trans hxr).keep q2
          replace q3 := (HX0.out.trans hxr).keep q3
          replace q4 := (HX0.out.trans hxr).keep q4
          replace q5 := (HX0.out.trans hxr).keep q5
          replace q6 := (HX0.out.trans hxr).keep q6
          replace q7 := (HX0.out.trans hxr).keep q7
          have HV := hid hv'
          have HM := hid (mem_at he)
          have HTk : Hid (L0 ++ colsL (ks.take (k + 1)) = (L0 ++ colsL (ks.take k)) ++ e'.cols) := by unfold Hid; rw [cols_step he, List.append_assoc]
          have hb1 : (L0 ++ colsL (ks.take k)).length + e'.cols.length ≤ 1048576 := by
            have := HLN.out (k + 1)
            rw [HTk.out, List.length_append] at this
            omega
          have HIe := hid (fun W (hW : Ext wr W) => HI.out e' HM.out A' n' c' w0 W HV.out (HX0.out.trans (HXr.out.trans hW)) (HS.out e' HM.out))
          clear he hv' hxr
          unfold Nd.val at HIe
          generalize e'.d = d at *
          obtain ⟨op', tb', nm', ix', vk', vi', vt'⟩ := d
          simp only at *
          go_wp2_with (first | (go_at_call 28; refine (HIe.out _ (Ext.refl wr)).mono ?_; rintro _ w3 ⟨v3, xs3, rfl, ho3, hl3, hx3⟩; obtain ⟨A3, c3, rfl, _, _⟩ := own_kids ho3 (hl3.ext (HX0.out.trans (HXr.out.trans hx3))); have HO3 := hid ho3; have HL3 := hid hl3; clear ho3 hl3) | (at_builtin; refine wpList_append_any _ rfl (.tmp 20) (.tmp 26) 25 rfl w1.heap.size 35 i0 _ 8 104 Tryz.underlying25 hi hz0 hz1 hz2 rfl (by decide) _ _ xs rfl (ownN_ext HO.out hx3) _ _ _ _ xs3 rfl (Reads.of_own HO3.out) HL3.out.len.2 (by unfold maxLen; omega) (by omega) (by have := (HXr.out.trans hx3).size; have := HSz.out; have := hx3.size; have := HBr.out.lt; omega) ?_; intro v1 w5 hown5 hgr5 hblk5; have HO5 := hid hown5; have HG5 := hid hgr5; have HB5 := hid hblk5; clear hown5 hgr5 hblk5))
          go_roundw
          case rel =>
            have hge := own_at HO.out
            refine ⟨k + 1, xs ++ xs3, by omega, by go_num, ?_, ?_, (HXr.out.trans hx3).grown HG5.out fun q hq => by have := hge q hq; have := HX.out.size; omega, (HBr.out.ext hx3).grown HG5.out fun h => by have := hge g h.symm; have := HSz.out; omega⟩
            · rw [HTk.out, List.length_append (bs := e'.cols)]; exact HO5.out
            · rw [HTk.out]; exact HLC.out.app HL3.out
          case measure => simp [intOf]; omega
        · obtain rfl : k = m := by omega
          rw [← HL.out, List.take_length, ← HT.out] at HO HLC
          go_wp2_with fail
          go_ret
          exact ⟨_, xs, rfl, own_down HO.out (by have := HX.out.size; have := HG.out; omega), HLC.out, HXr.out⟩
    · rw [if_neg h2] at hct hT
      have HT := hid hT
      clear hT
      have hlen1 : ∀ k, (([] : List Ex) ++ colsL (ks.take k)).length ≤ 1048576 := fun k => by
        have := cols_le (ks := ks) k
        rw [List.length_append] at hct ⊢
        omega
      have HLN := hid hlen1
      clear hlen1 hct
      have H2 : Hid ((op == 2) = false) := by unfold Hid; simpa using h2
      go_enter Tryz.func28, Tryz.ntmps28
      go_upto_region 1 with fail
      generalize w.alloc (.cells #[.int .i64 op, .string tb, .string nm, .int .i64 ix, .int .i64 vk, .int .i64 vi, .string vt, .slice A m c] 35) = w1 at *
      have HO1 := hid (own_room w1 35 8 0 0 0 w1.heap.size #[] (Nat.le_refl _) rfl (by decide))
      rw [hg] at HB HSz
      have c0 := ((HB.out.ext ((Ext.refl w1).alloc (.cells #[] 35)))).cell 0
      simp only [List.getElem?_cons_succ, List.getElem?_cons_zero] at c0
      go_wp2_with fail
      rw [H2.out]
      have HBF := hid (HB.out.ext ((Ext.refl w1).alloc (.cells #[] 35)))
      have HXS := hid ((HX.out).alloc (.cells #[] 35))
      have HOI : Hid ((w1.alloc (.cells #[] 35)).ownsRow w1.heap.size 35 8 (.slice (some ⟨w1.heap.size, 0, none⟩) 0 0) (([] : List Ex) ++ colsL (ks.take 0)).length []) := by unfold Hid; simpa [colsL] using HO1.out
      have HLI : Hid (LC w0 ([] ++ colsL (ks.take 0)) []) := by unfold Hid; simpa [colsL] using LC.nil
      generalize ([] : List Ex) = L0 at HT HLN HOI HLI
      go_loopw [3, 4] (fun nv iv wr => ∃ (k : Nat) (xs : List Value), k ≤ m ∧ iv = .int .i64 k ∧ wr.ownsRow w1.heap.size 35 8 nv (L0 ++ colsL (ks.take k)).length xs ∧ LC w0 (L0 ++ colsL (ks.take k)) xs ∧ Ext w wr ∧ Blk wr g 35 [.int .i64 op, .string tb, .string nm, .int .i64 ix, .int .i64 vk, .int .i64 vi, .string vt, .slice A m c]) (fun _ i _ => m - (intOf i).toNat)
      case atStart => exact ⟨0, _, Nat.zero_le _, rfl, HOI.out, HLI.out, HXS.out, HBF.out⟩
      case round =>
        obtain ⟨k, xs, hk, rfl, hown1, hlc1, hxr, hbr⟩ := hrel
        have HO := hid hown1
        have HLC := hid hlc1
        have HXr := hid hxr
        have HBr := hid hbr
        have c7 := hbr.cell 7
        simp only [List.getElem?_cons_succ, List.getElem?_cons_zero] at c7
        clear hown1 hlc1 hbr
        by_cases hlt : k < m
        · obtain ⟨e', he⟩ := at_lt HL.out hlt
          obtain ⟨b, off, A', n', c', rfl, q0, q1, q2, q3, q4, q5, q6, q7, hv'⟩ := HK.out.get he
          replace q0 := (HX0.out.trans hxr).keep q0
          replace q1 := (HX0.out.trans hxr).keep q1
          replace q2 := (HX0.out.trans hxr).keep q2
          replace q3 := (HX0.out.trans hxr).keep q3
          replace q4 := (HX0.out.trans hxr).keep q4
          replace q5 := (HX0.out.trans hxr).keep q5
          replace q6 := (HX0.out.trans hxr).keep q6
          replace q7 := (HX0.out.trans hxr).keep q7
          have HV := hid hv'
          have HM := hid (mem_at he)
          have HTk : Hid (L0 ++ colsL (ks.take (k + 1)) = (L0 ++ colsL (ks.take k)) ++ e'.cols) := by unfold Hid; rw [cols_step he, List.append_assoc]
          have hb1 : (L0 ++ colsL (ks.take k)).length + e'.cols.length ≤ 1048576 := by
            have := HLN.out (k + 1)
            rw [HTk.out, List.length_append] at this
            omega
          have HIe := hid (fun W (hW : Ext wr W) => HI.out e' HM.out A' n' c' w0 W HV.out (HX0.out.trans (HXr.out.trans hW)) (HS.out e' HM.out))
          clear he hv' hxr
          unfold Nd.val at HIe
          generalize e'.d = d at *
          obtain ⟨op', tb', nm', ix', vk', vi', vt'⟩ := d
          simp only at *
          go_wp2_with (first | (go_at_call 28; refine (HIe.out _ (Ext.refl wr)).mono ?_; rintro _ w3 ⟨v3, xs3, rfl, ho3, hl3, hx3⟩; obtain ⟨A3, c3, rfl, _, _⟩ := own_kids ho3 (hl3.ext (HX0.out.trans (HXr.out.trans hx3))); have HO3 := hid ho3; have HL3 := hid hl3; clear ho3 hl3) | (at_builtin; refine wpList_append_any _ rfl (.tmp 20) (.tmp 26) 25 rfl w1.heap.size 35 i0 _ 8 104 Tryz.underlying25 hi hz0 hz1 hz2 rfl (by decide) _ _ xs rfl (ownN_ext HO.out hx3) _ _ _ _ xs3 rfl (Reads.of_own HO3.out) HL3.out.len.2 (by unfold maxLen; omega) (by omega) (by have := (HXr.out.trans hx3).size; have := HSz.out; have := hx3.size; have := HBr.out.lt; omega) ?_; intro v1 w5 hown5 hgr5 hblk5; have HO5 := hid hown5; have HG5 := hid hgr5; have HB5 := hid hblk5; clear hown5 hgr5 hblk5))
          go_roundw
          case rel =>
            have hge := own_at HO.out
            refine ⟨k + 1, xs ++ xs3, by omega, by go_num, ?_, ?_, (HXr.out.trans hx3).grown HG5.out fun q hq => by have := hge q hq; have := HX.out.size; omega, (HBr.out.ext hx3).grown HG5.out fun h => by have := hge g h.symm; have := HSz.out; omega⟩
            · rw [HTk.out, List.length_append (bs := e'.cols)]; exact HO5.out
            · rw [HTk.out]; exact HLC.out.app HL3.out
          case measure => simp [intOf]; omega
        · obtain rfl : k = m := by omega
          rw [← HL.out, List.take_length, ← HT.out] at HO HLC
          go_wp2_with fail
          go_ret
          exact ⟨_, xs, rfl, own_down HO.out (by have := HX.out.size; have := HG.out; omega), HLC.out, HXr.out⟩
end Go.Proofs.YtcdnodjcnofogaaGreatDoor
