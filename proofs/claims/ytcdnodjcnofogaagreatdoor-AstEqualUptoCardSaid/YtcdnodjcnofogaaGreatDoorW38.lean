/-
  Walks: wide; all of the reference.
-/
import Derived.Test.YtcdnodjcnofogaaGreatDoorW30
namespace Go.Proofs.YtcdnodjcnofogaaGreatDoor
open Go.RowKit
set_option linter.unusedVariables false
set_option linter.unusedSimpArgs false
set_option maxHeartbeats 4000000
set_option maxRecDepth 100000

/-- the lengths of strings, as they are summed up -/
def wideI (l : List ByteArray) : Int := l.foldl (fun acc s => wrap64 (acc + (s.size : Int))) (l.length : Int)
def wideK (l : List ByteArray) (k : Nat) : Int := (l.take k).foldl (fun acc s => wrap64 (acc + (s.size : Int))) (l.length : Int)
theorem wideK_step {l : List ByteArray} {k : Nat} {s : ByteArray} (h : l[k]? = some s) : wideK l (k + 1) = wrap64 (wideK l k + (s.size : Int)) := by
  obtain ⟨hi, rfl⟩ := List.getElem?_eq_some_iff.1 h
  unfold wideK
  rw [List.take_succ_eq_append_getElem hi, List.foldl_append]
  rfl
theorem wide_any (l : List ByteArray) (A : Option Addr) (n c : Nat) (w : World) (hl : l.length = n) (hn : n ≤ 9223372036854775807) (hs : StrsAt w A l) :
    Calls Tryz.prog 39 #[.slice A n c] w fun r w' => r = .returned (.int .i64 (wideI l)) ∧ Ext w w' := by
  have HL := hid hl
  have HS := hid hs
  clear hl hs
  go_enter Tryz.func39, Tryz.ntmps39
  go_wp2_with fail
  go_loopw [3, 4] (fun nv iv wr => ∃ (k : Nat), k ≤ n ∧ iv = .int .i64 k ∧ nv = .int .i64 (wideK l k) ∧ Ext w wr) (fun _ i _ => n - (intOf i).toNat)
  case atStart => exact ⟨0, Nat.zero_le _, rfl, by unfold wideK; rw [HL.out]; rfl, Ext.refl w⟩
  case round =>
    obtain ⟨k, hk, rfl, rfl, hxr⟩ := hrel
    have HXr := hid hxr
    by_cases hlt : k < n
    · obtain ⟨s, hs⟩ := rat_lt HL.out hlt
      obtain ⟨hsz, b, off, rfl, q0⟩ := (HS.out.ext hxr) k s hs
      have HK := hid (wideK_step hs)
      clear hs
      generalize wideK l k = x at *
      go_wp2_with fail
      go_roundw
      case rel => exact ⟨k + 1, by omega, by go_num, by rw [HK.out], HXr.out⟩
      case measure => simp [intOf]; omega
    · obtain rfl : k = n := by omega
      have HT : Hid (wideK l k = wideI l) := by unfold Hid wideK wideI; rw [← HL.out, List.take_length]
      rw [HT.out]
      go_wp2_with fail
      go_ret
      exact ⟨rfl, HXr.out⟩
/-- the expressions of a statement, as the reference lists them -/
def St.rall (s : St) : List Ex := s.chk ++ s.vals.flatten ++ s.sets.map Asg.ex ++ s.itms.map Itm.ex ++ [s.whr] ++ s.grp
theorem rall_len (s : St) : s.rall.length = s.all.length := by
  unfold St.rall St.all
  simp only [List.length_append]
  omega
theorem rall_any (s : St) (a : SA) (w : World) (hv : StV w s a) (hT : s.rall.length ≤ 100000000) :
    Calls Tryz.prog 37 #[s.val a] w fun r w' => ∃ A c, r = .returned (.slice A s.rall.length c) ∧ KidsAt w' A s.rall ∧ Ext w w' := by
  obtain ⟨i0, hi, hz0, hz1, hz2⟩ := info_parts info_ex
  have HV := hid hv
  have HB := hid (Blk.of_new w 38 (s.cells a))
  have HX := hid ((Ext.refl w).alloc (.cells (s.cells a).toArray 38))
  have hvn := hv.vals.2.1
  have hsn := hv.sets.2.1
  have hin := hv.itms.2.1
  have hgn := hv.grp.2.1
  have hcn := hv.chk.1
  have hgl := hv.grp.1
  obtain ⟨L1, hL1⟩ : ∃ L1, s.chk ++ s.vals.flatten = L1 := ⟨_, rfl⟩
  obtain ⟨L2, hL2⟩ : ∃ L2, L1 ++ s.sets.map Asg.ex = L2 := ⟨_, rfl⟩
  obtain ⟨L3, hL3⟩ : ∃ L3, L2 ++ s.itms.map Itm.ex = L3 := ⟨_, rfl⟩
  have hfl : s.chk.length ≤ 100000000 ∧ s.chk.length + s.vals.flatten.length ≤ 100000000 ∧ L1.length + s.sets.length ≤ 100000000 ∧ L2.length + s.itms.length ≤ 100000000 ∧ L3.length + 1 + s.grp.length ≤ 100000000 := by
    unfold St.rall at hT
    rw [hL1, hL2, hL3] at hT
    have h1 := congrArg List.length hL1
    have h2 := congrArg List.length hL2
    have h3 := congrArg List.length hL3
    simp only [List.length_append, List.length_singleton, List.length_map] at *
    omega
  have HFL := hid hfl
  have HALL : Hid (s.rall = L3 ++ [s.whr] ++ s.grp) := by unfold Hid St.rall; rw [hL1, hL2, hL3]
  have HL1 := hid hL1
  have HL2 := hid hL2
  have HL3 := hid hL3
  obtain ⟨xc, hlcc, hrdc⟩ := kids_reads hv.chk.2.2 hv.chk.1
  have HLCc := hid hlcc
  have HRDc := hid hrdc
  obtain ⟨xg, hlcg, hrdg⟩ := kids_reads hv.grp.2.2 hv.grp.1
  have HLCg := hid hlcg
  have HRDg := hid hrdg
  have HVl := hid hv.vals
  have Hsets := hid hv.sets
  have Hitms := hid hv.itms
  have HEw := hid (elt_cells hv.whr)
  have HOw := hid (cells8_one s.whr.d a.whr.A a.whr.n a.whr.c)
  have HWN : Hid (L3.length + 1 ≤ 100000000) := by unfold Hid; omega
  clear hv hT hlcc hrdc hlcg hrdg hL1 hL2 hL3
  unfold Nd.cells at HEw HOw
  unfold St.val
  unfold St.cells at *
  unfold Sl.v at *
  generalize s.whr.d = dw at *
  obtain ⟨wop, wtb, wnm, wix, wvk, wvi, wvt⟩ := dw
  simp only at *
  generalize a.sets.A = P1 at *
  generalize a.itms.A = P2 at *
  generalize a.vals.A = P3 at *
  go_enter Tryz.func37, Tryz.ntmps37
  go_upto_region 1 with fail
  generalize w.alloc (.cells _ 38) = w1 at *
  generalize hg : w.heap.size = g at *
  have HO1 := hid (own_room w1 35 8 0 0 0 w1.heap.size #[] (Nat.le_refl _) rfl (by decide))
  have c5 := (HB.out.ext ((Ext.refl w1).alloc (.cells #[] 35))).cell 5
  simp only [List.getElem?_cons_succ, List.getElem?_cons_zero] at c5
  have HXr := hid (Ext.refl w1)
  rw [← hg] at HRDc HRDg
  go_wp2_with (at_builtin; refine wpList_append_any _ rfl (.tmp 7) (.tmp 10) 25 rfl w1.heap.size 35 i0 _ 8 104 Tryz.underlying25 hi hz0 hz1 hz2 rfl (by decide) _ 0 [] rfl (HO1.out) _ _ _ _ xc rfl (HRDc.out.below (HX.out.alloc _)) (HLCc.out.len.2) (by unfold maxLen; omega) (by omega) ((HXr.out.alloc _).size) ?_; intro v1 w5 hown5 hgr5 _; have HO5 := hid hown5; have HG5 := hid hgr5; clear hown5 hgr5; have c6 := ((HB.out.ext ((Ext.refl w1).alloc (.cells #[] 35))).grown HG5.out (fun h => by have := HO1.out.lt _ h.symm; have := HX.out.size; have := HB.out.lt; omega)).cell 6; simp only [List.getElem?_cons_succ, List.getElem?_cons_zero] at c6)
  have HOV : Hid (w5.ownsRow w1.heap.size 35 8 v1 (s.chk ++ (s.vals.take 0).flatten).length xc) := by unfold Hid; simpa [hcn] using HO5.out
  have HLV : Hid (LC w (s.chk ++ (s.vals.take 0).flatten) xc) := by unfold Hid; simpa using HLCc.out
  have HXV := hid (((Ext.refl w1).alloc (.cells #[] 35)).grown HG5.out fun q hq => own_ge HO1.out hq)
  clear HO5 HG5 HO1 HLCc HRDc c5 c6
  rw [hg] at HRDg
  go_loopw [3, 4] (fun nv iv wr => ∃ (k : Nat) (xs : List Value), k ≤ a.vals.n ∧ iv = .int .i64 k ∧ wr.ownsRow w1.heap.size 35 8 nv (s.chk ++ (s.vals.take k).flatten).length xs ∧ LC w (s.chk ++ (s.vals.take k).flatten) xs ∧ Ext w1 wr) (fun _ i _ => a.vals.n - (intOf i).toNat)
  case atStart => exact ⟨0, _, Nat.zero_le _, rfl, HOV.out, HLV.out, HXV.out⟩
  case round =>
    obtain ⟨k, xs, hk, rfl, hown1, hlc1, hxr⟩ := hrel
    have HO := hid hown1
    have HLC := hid hlc1
    have HXr := hid hxr
    have cb := (HB.out.ext hxr).cell 6
    simp only [List.getElem?_cons_succ, List.getElem?_cons_zero] at cb
    clear hown1 hlc1
    by_cases hlt : k < a.vals.n
    · obtain ⟨l, hl⟩ := rat_lt HVl.out.1 hlt
      obtain ⟨b, off, Ai, ni, ci, hA, q0, hln, hkl⟩ := HVl.out.2.2 k l hl
      subst hA
      replace q0 := (HX.out.trans hxr).keep q0
      obtain ⟨xn, hln1, hrn⟩ := kids_reads hkl hln
      have HLN := hid hln1
      have HRN := hid hrn
      have HMs : Hid (s.chk ++ (s.vals.take (k + 1)).flatten = (s.chk ++ (s.vals.take k).flatten) ++ l) := by unfold Hid; rw [flat_step hl, List.append_assoc]
      obtain ⟨p, hp⟩ : ∃ p, (s.chk ++ (s.vals.take k).flatten).length = p := ⟨_, rfl⟩
      have HP := hid hp
      have hpl : p + ni ≤ 100000000 := by
        have h1 := HFL.out.2.1
        have h2 := flat_le s.vals (k + 1)
        have h3 := congrArg List.length HMs.out
        rw [List.length_append, List.length_append (bs := l), hp] at h3
        omega
      have HNL := hid hln
      rw [hp] at HO
      clear hl hkl hln1 hrn hln hp hxr
      go_wp2_with (at_builtin; refine wpList_append_any _ rfl (.tmp 19) (.tmp 24) 25 rfl w1.heap.size 35 i0 _ 8 104 Tryz.underlying25 hi hz0 hz1 hz2 rfl (by decide) _ p xs rfl (HO.out) _ _ _ _ xn rfl (HRN.out.below (HX.out.trans HXr.out)) (HLN.out.len.2) (by unfold maxLen; omega) (by omega) (HXr.out.size) ?_; intro v1 w5 hown5 hgr5 _; have HO5 := hid hown5; have HG5 := hid hgr5; clear hown5 hgr5)
      go_roundw
      case rel =>
        refine ⟨k + 1, xs ++ xn, by omega, by go_num, ?_, ?_, ?_⟩
        · rw [HMs.out, List.length_append (bs := l), HP.out, HNL.out]; exact HO5.out
        · rw [HMs.out]; exact HLC.out.app HLN.out
        · exact (HXr.out).grown HG5.out fun q hq => own_ge HO.out hq
      case measure => simp [intOf]; omega
    · obtain rfl : k = a.vals.n := by omega
      have HTv : Hid (s.chk ++ (s.vals.take a.vals.n).flatten = L1) := by unfold Hid; rw [List.take_of_length_le (Nat.le_of_eq HVl.out.1), HL1.out]
      rw [HTv.out] at HO HLC
      clear hxr
      go_wp2_with fail
      go_loopw [3, 5] (fun nv iv wr => ∃ (k : Nat) (xs : List Value), k ≤ a.sets.n ∧ iv = .int .i64 k ∧ wr.ownsRow w1.heap.size 35 8 nv (L1 ++ (s.sets.take k).map Asg.ex).length xs ∧ LC w (L1 ++ (s.sets.take k).map Asg.ex) xs ∧ Ext w1 wr) (fun _ i _ => a.sets.n - (intOf i).toNat)
      case atStart => exact ⟨0, _, Nat.zero_le _, rfl, by simpa using HO.out, by simpa using HLC.out, HXr.out⟩
      case round =>
        obtain ⟨k, xs, hk, rfl, hown1, hlc1, hxr⟩ := hrel
        have HO := hid hown1
        have HLC := hid hlc1
        have HXr := hid hxr
        have cb := (HB.out.ext hxr).cell 7
        simp only [List.getElem?_cons_succ, List.getElem?_cons_zero] at cb
        clear hown1 hlc1
        by_cases hlt : k < a.sets.n
        · obtain ⟨x, hx⟩ := rat_lt Hsets.out.1 hlt
          obtain ⟨b, off, A', n', c', hA, q0, q1, q2, q3, q4, q5, q6, q7, q8, q9, hxv⟩ := asg_get Hsets.out.2.2 hx
          subst hA
          replace q0 := (HX.out.trans hxr).keep q0
          replace q1 := (HX.out.trans hxr).keep q1
          replace q2 := (HX.out.trans hxr).keep q2
          replace q3 := (HX.out.trans hxr).keep q3
          replace q4 := (HX.out.trans hxr).keep q4
          replace q5 := (HX.out.trans hxr).keep q5
          replace q6 := (HX.out.trans hxr).keep q6
          replace q7 := (HX.out.trans hxr).keep q7
          replace q8 := (HX.out.trans hxr).keep q8
          replace q9 := (HX.out.trans hxr).keep q9
          have HLN := hid (LC.one (elt_cells hxv))
          have HMs : Hid (L1 ++ (s.sets.take (k + 1)).map Asg.ex = (L1 ++ (s.sets.take k).map Asg.ex) ++ [x.ex]) := by unfold Hid; rw [map_step Asg.ex hx, List.append_assoc]
          have HONE := hid (cells8_one x.ex.d A' n' c')
          obtain ⟨p, hp⟩ : ∃ p, (L1 ++ (s.sets.take k).map Asg.ex).length = p := ⟨_, rfl⟩
          have HP := hid hp
          have hpl : p + 1 ≤ 100000000 := by
            have h1 := HFL.out.2.2.1
            have h2 : (s.sets.take (k + 1)).length ≤ s.sets.length := by rw [List.length_take]; omega
            rw [← hp]
            simp only [List.length_append, List.length_map, List.length_take] at *
            have := Hsets.out.1
            omega
          rw [hp] at HO
          clear hx hxv hp hxr
          unfold Nd.cells at HLN HONE
          generalize hd : x.ex.d = d at *
          obtain ⟨op, tb, nm, ix, vk, vi, vt⟩ := d
          simp only at *
          clear hd
          obtain ⟨xn, hxn⟩ : ∃ xn : List Value, [.int .i64 op, .string tb, .string nm, .int .i64 ix, .int .i64 vk, .int .i64 vi, .string vt, .slice A' n' c'] = xn := ⟨_, rfl⟩
          have HXN := hid hxn
          rw [hxn] at HLN
          clear hxn
          go_wp2_with (at_builtin; refine wpList_append_any _ rfl (.tmp 33) (.tmp 40) 25 rfl w1.heap.size 35 i0 _ 8 104 Tryz.underlying25 hi hz0 hz1 hz2 rfl (by decide) _ p xs rfl (ownN_ext HO.out ((Ext.refl wr).alloc _)) _ _ _ _ [.int .i64 op, .string tb, .string nm, .int .i64 ix, .int .i64 vk, .int .i64 vi, .string vt, .slice A' n' c'] rfl (reads_new wr [.int .i64 op, .string tb, .string nm, .int .i64 ix, .int .i64 vk, .int .i64 vi, .string vt, .slice A' n' c'] 35 rfl) (HONE.out) (by unfold maxLen; omega) (by omega) ((HXr.out.alloc _).size) ?_; intro v1 w5 hown5 hgr5 _; have HO5 := hid hown5; have HG5 := hid hgr5; clear hown5 hgr5)
          rw [HXN.out] at HO5
          go_roundw
          case rel =>
            refine ⟨k + 1, xs ++ xn, by omega, by go_num, ?_, ?_, ?_⟩
            · rw [HMs.out, List.length_append (bs := [x.ex]), HP.out]; exact HO5.out
            · rw [HMs.out]; exact HLC.out.app HLN.out
            · exact (HXr.out.alloc _).grown HG5.out fun q hq => own_ge HO.out hq
          case measure => simp [intOf]; omega
        · obtain rfl : k = a.sets.n := by omega
          have HTs : Hid (L1 ++ (s.sets.take a.sets.n).map Asg.ex = L2) := by unfold Hid; rw [List.take_of_length_le (Nat.le_of_eq Hsets.out.1), HL2.out]
          rw [HTs.out] at HO HLC
          clear hxr
          go_wp2_with fail
          go_loopw [3, 6] (fun nv iv wr => ∃ (k : Nat) (xs : List Value), k ≤ a.itms.n ∧ iv = .int .i64 k ∧ wr.ownsRow w1.heap.size 35 8 nv (L2 ++ (s.itms.take k).map Itm.ex).length xs ∧ LC w (L2 ++ (s.itms.take k).map Itm.ex) xs ∧ Ext w1 wr) (fun _ i _ => a.itms.n - (intOf i).toNat)
          case atStart => exact ⟨0, _, Nat.zero_le _, rfl, by simpa using HO.out, by simpa using HLC.out, HXr.out⟩
          case round =>
            obtain ⟨k, xs, hk, rfl, hown1, hlc1, hxr⟩ := hrel
            have HO := hid hown1
            have HLC := hid hlc1
            have HXr := hid hxr
            have cb := (HB.out.ext hxr).cell 8
            simp only [List.getElem?_cons_succ, List.getElem?_cons_zero] at cb
            clear hown1 hlc1
            by_cases hlt : k < a.itms.n
            · obtain ⟨x, hx⟩ := rat_lt Hitms.out.1 hlt
              obtain ⟨b, off, A', n', c', hA, q0, q1, q2, q3, q4, q5, q6, q7, q8, hxv⟩ := itm_get Hitms.out.2.2 hx
              subst hA
              replace q0 := (HX.out.trans hxr).keep q0
              replace q1 := (HX.out.trans hxr).keep q1
              replace q2 := (HX.out.trans hxr).keep q2
              replace q3 := (HX.out.trans hxr).keep q3
              replace q4 := (HX.out.trans hxr).keep q4
              replace q5 := (HX.out.trans hxr).keep q5
              replace q6 := (HX.out.trans hxr).keep q6
              replace q7 := (HX.out.trans hxr).keep q7
              replace q8 := (HX.out.trans hxr).keep q8
              have HLN := hid (LC.one (elt_cells hxv))
              have HMs : Hid (L2 ++ (s.itms.take (k + 1)).map Itm.ex = (L2 ++ (s.itms.take k).map Itm.ex) ++ [x.ex]) := by unfold Hid; rw [map_step Itm.ex hx, List.append_assoc]
              have HONE := hid (cells8_one x.ex.d A' n' c')
              obtain ⟨p, hp⟩ : ∃ p, (L2 ++ (s.itms.take k).map Itm.ex).length = p := ⟨_, rfl⟩
              have HP := hid hp
              have hpl : p + 1 ≤ 100000000 := by
                have h1 := HFL.out.2.2.2.1
                have h2 : (s.itms.take (k + 1)).length ≤ s.itms.length := by rw [List.length_take]; omega
                rw [← hp]
                simp only [List.length_append, List.length_map, List.length_take] at *
                have := Hitms.out.1
                omega
              rw [hp] at HO
              clear hx hxv hp hxr
              unfold Nd.cells at HLN HONE
              generalize hd : x.ex.d = d at *
              obtain ⟨op, tb, nm, ix, vk, vi, vt⟩ := d
              simp only at *
              clear hd
              obtain ⟨xn, hxn⟩ : ∃ xn : List Value, [.int .i64 op, .string tb, .string nm, .int .i64 ix, .int .i64 vk, .int .i64 vi, .string vt, .slice A' n' c'] = xn := ⟨_, rfl⟩
              have HXN := hid hxn
              rw [hxn] at HLN
              clear hxn
              go_wp2_with (at_builtin; refine wpList_append_any _ rfl (.tmp 49) (.tmp 56) 25 rfl w1.heap.size 35 i0 _ 8 104 Tryz.underlying25 hi hz0 hz1 hz2 rfl (by decide) _ p xs rfl (ownN_ext HO.out ((Ext.refl wr).alloc _)) _ _ _ _ [.int .i64 op, .string tb, .string nm, .int .i64 ix, .int .i64 vk, .int .i64 vi, .string vt, .slice A' n' c'] rfl (reads_new wr [.int .i64 op, .string tb, .string nm, .int .i64 ix, .int .i64 vk, .int .i64 vi, .string vt, .slice A' n' c'] 35 rfl) (HONE.out) (by unfold maxLen; omega) (by omega) ((HXr.out.alloc _).size) ?_; intro v1 w5 hown5 hgr5 _; have HO5 := hid hown5; have HG5 := hid hgr5; clear hown5 hgr5)
              rw [HXN.out] at HO5
              go_roundw
              case rel =>
                refine ⟨k + 1, xs ++ xn, by omega, by go_num, ?_, ?_, ?_⟩
                · rw [HMs.out, List.length_append (bs := [x.ex]), HP.out]; exact HO5.out
                · rw [HMs.out]; exact HLC.out.app HLN.out
                · exact (HXr.out.alloc _).grown HG5.out fun q hq => own_ge HO.out hq
              case measure => simp [intOf]; omega
            · obtain rfl : k = a.itms.n := by omega
              have HTi : Hid (L2 ++ (s.itms.take a.itms.n).map Itm.ex = L3) := by unfold Hid; rw [List.take_of_length_le (Nat.le_of_eq Hitms.out.1), HL3.out]
              rw [HTi.out] at HO HLC
              have hb := HB.out.ext hxr
              have d10 := hb.cell 10
              have d11 := hb.cell 11
              have d12 := hb.cell 12
              have d13 := hb.cell 13
              have d14 := hb.cell 14
              have d15 := hb.cell 15
              have d16 := hb.cell 16
              have d17 := hb.cell 17
              simp only [List.getElem?_cons_succ, List.getElem?_cons_zero] at d10 d11 d12 d13 d14 d15 d16 d17
              obtain ⟨p, hp⟩ : ∃ p, L3.length = p := ⟨_, rfl⟩
              have HP := hid hp
              have hpl : p + 1 + s.grp.length ≤ 100000000 := by have := HFL.out.2.2.2.2; omega
              rw [hp] at HO
              rw [hgl] at hpl
              rw [← hg] at HRDg
              clear hb hxr hp
              go_wp2_with (first | (at_builtin; refine wpList_append_any _ rfl (.tmp 58) (.tmp 61) 25 rfl w1.heap.size 35 i0 _ 8 104 Tryz.underlying25 hi hz0 hz1 hz2 rfl (by decide) _ p xs rfl (ownN_ext HO.out ((Ext.refl wr).alloc _)) _ _ _ _ [.int .i64 wop, .string wtb, .string wnm, .int .i64 wix, .int .i64 wvk, .int .i64 wvi, .string wvt, .slice a.whr.A a.whr.n a.whr.c] rfl (reads_new wr [.int .i64 wop, .string wtb, .string wnm, .int .i64 wix, .int .i64 wvk, .int .i64 wvi, .string wvt, .slice a.whr.A a.whr.n a.whr.c] 35 rfl) (HOw.out) (by unfold maxLen; omega) (by omega) ((HXr.out.alloc _).size) ?_; intro v1 w5 hown5 hgr5 _; have HO5 := hid hown5; have HG5 := hid hgr5; clear hown5 hgr5; have d18 := ((HB.out.ext (HXr.out.alloc (.cells #[.int .i64 wop, .string wtb, .string wnm, .int .i64 wix, .int .i64 wvk, .int .i64 wvi, .string wvt, .slice a.whr.A a.whr.n a.whr.c] 35))).grown HG5.out (fun h => by have := own_ge HO.out h.symm; have := HX.out.size; have := HB.out.lt; omega)).cell 18; simp only [List.getElem?_cons_succ, List.getElem?_cons_zero] at d18) | (at_builtin; refine wpList_append_any _ rfl (.tmp 63) (.tmp 65) 25 rfl w1.heap.size 35 i0 _ 8 104 Tryz.underlying25 hi hz0 hz1 hz2 rfl (by decide) _ (p + 1) _ rfl HO5.out _ _ _ _ xg rfl (HRDg.out.below (HX.out.trans ((HXr.out.alloc (.cells #[.int .i64 wop, .string wtb, .string wnm, .int .i64 wix, .int .i64 wvk, .int .i64 wvi, .string wvt, .slice a.whr.A a.whr.n a.whr.c] 35)).grown HG5.out fun q hq => own_ge HO.out hq))) HLCg.out.len.2 (by unfold maxLen; omega) (by omega) (((HXr.out.alloc (.cells #[.int .i64 wop, .string wtb, .string wnm, .int .i64 wix, .int .i64 wvk, .int .i64 wvi, .string wvt, .slice a.whr.A a.whr.n a.whr.c] 35)).grown HG5.out fun q hq => own_ge HO.out hq)).size ?_; intro v2 w6 hown6 hgr6 _; have HO6 := hid hown6; have HG6 := hid hgr6; clear hown6 hgr6))
              go_ret
              have hx6 : Ext w1 w6 := ((HXr.out.alloc (.cells #[.int .i64 wop, .string wtb, .string wnm, .int .i64 wix, .int .i64 wvk, .int .i64 wvi, .string wvt, .slice a.whr.A a.whr.n a.whr.c] 35)).grown HG5.out fun q hq => own_ge HO.out hq).grown HG6.out fun q hq => own_ge HO5.out hq
              have hlc6 := (HLC.out.app (LC.one HEw.out)).app HLCg.out
              rw [← HALL.out] at hlc6
              obtain ⟨A6, c6, rfl, hk6, hn6⟩ := own_kids HO6.out (hlc6.ext (HX.out.trans hx6))
              rw [hn6]
              exact ⟨A6, c6, rfl, hk6, HX.out.trans hx6⟩
end Go.Proofs.YtcdnodjcnofogaaGreatDoor
