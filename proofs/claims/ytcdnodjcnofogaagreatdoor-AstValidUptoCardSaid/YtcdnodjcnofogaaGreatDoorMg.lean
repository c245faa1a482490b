/-
  Walks: wide; all of the reference. · Walks: Valid and Format of a statement, the program's and the reference's. · Walks: Valid and Text of a statement, the reference's.
-/
import Derived.Test.YtcdnodjcnofogaaGreatDoorMf
import Derived.Test.YtcdnodjcnofogaaGreatDoorMe
import Derived.Test.YtcdnodjcnofogaaGreatDoorW58z
import Derived.Test.YtcdnodjcnofogaaGreatDoorMa
namespace Go.Proofs.YtcdnodjcnofogaaGreatDoor
open Go.RowKit
set_option linter.unusedVariables false
set_option linter.unusedSimpArgs false
set_option maxHeartbeats 4000000
set_option maxRecDepth 100000

/-- the lengths of strings, as they are summed up -/
def wideI (l : List ByteArray) : Int := l.foldl (fun acc s => wrap64 (acc + (s.size : Int))) (l.length : Int)
def wideK (l : List ByteArray) (k : Nat) : Int := (l.take k).foldl (fun acc s => wrap64 (acc + (s.size : Int))) (l.length : Int)
theorem wideK_step {l : List ByteArray} {k : Nat} {s : ByteArray} (h : l[k]? = some s) : wideK l (k + 1) = wrap64 (wideK l k + (s.size : Int)) := by
  obtain ⟨hi, rfl⟩ := List.getElem?_eq_some_iff.1 h
  unfold wideK
  rw [List.take_succ_eq_append_getElem hi, List.foldl_append]
  rfl
theorem wide_any (l : List ByteArray) (A : Option Addr) (n c : Nat) (w : World) (hl : l.length = n) (hn : n ≤ 9223372036854775807) (hs : StrsAt w A l) :
    Calls Tryz.prog 39 #[.slice A n c] w fun r w' => r = .returned (.int .i64 (wideI l)) ∧ Ext w w' := by
  have HL := hid hl
  have HS := hid hs
  clear hl hs
  go_enter Tryz.func39, Tryz.ntmps39
  go_wp2_with fail
  go_loopw [3, 4] (fun nv iv wr => ∃ (k : Nat), k ≤ n ∧ iv = .int .i64 k ∧ nv = .int .i64 (wideK l k) ∧ Ext w wr) (fun _ i _ => n - (intOf i).toNat)
  case atStart => exact ⟨0, Nat.zero_le _, rfl, by unfold wideK; rw [HL.out]; rfl, Ext.refl w⟩
  case round =>
    obtain ⟨k, hk, rfl, rfl, hxr⟩ := hrel
    have HXr := hid hxr
    by_cases hlt : k < n
    · obtain ⟨s, hs⟩ := rat_lt HL.out hlt
      obtain ⟨hsz, b, off, rfl, q0⟩ := (HS.out.ext hxr) k s hs
      have HK := hid (wideK_step hs)
      clear hs
      generalize wideK l k = x at *
      go_wp2_with fail
      go_roundw
      case rel => exact ⟨k + 1, by omega, by go_num, by rw [HK.out], HXr.out⟩
      case measure => simp [intOf]; omega
    · obtain rfl : k = n := by omega
      have HT : Hid (wideK l k = wideI l) := by unfold Hid wideK wideI; rw [← HL.out, List.take_length]
      rw [HT.out]
      go_wp2_with fail
      go_ret
      exact ⟨rfl, HXr.out⟩
/-- the expressions of a statement, as the reference lists them -/
def St.rall (s : St) : List Ex := s.chk ++ s.vals.flatten ++ s.sets.map Asg.ex ++ s.itms.map Itm.ex ++ [s.whr] ++ s.grp
theorem rall_len (s : St) : s.rall.length = s.all.length := by
  unfold St.rall St.all
  simp only [List.length_append]
  omega
theorem rall_any (s : St) (a : SA) (w : World) (hv : StV w s a) (hT : s.rall.length ≤ 100000000) :
    Calls Tryz.prog 37 #[s.val a] w fun r w' => ∃ A c, r = .returned (.slice A s.rall.length c) ∧ KidsAt w' A s.rall ∧ Ext w w' := by
  obtain ⟨i0, hi, hz0, hz1, hz2⟩ := info_parts info_ex
  have HV := hid hv
  have HB := hid (Blk.of_new w 38 (s.cells a))
  have HX := hid ((Ext.refl w).alloc (.cells (s.cells a).toArray 38))
  have hvn := hv.vals.2.1
  have hsn := hv.sets.2.1
  have hin := hv.itms.2.1
  have hgn := hv.grp.2.1
  have hcn := hv.chk.1
  have hgl := hv.grp.1
  obtain ⟨L1, hL1⟩ : ∃ L1, s.chk ++ s.vals.flatten = L1 := ⟨_, rfl⟩
  obtain ⟨L2, hL2⟩ : ∃ L2, L1 ++ s.sets.map Asg.ex = L2 := ⟨_, rfl⟩
  obtain ⟨L3, hL3⟩ : ∃ L3, L2 ++ s.itms.map Itm.ex = L3 := ⟨_, rfl⟩
  have hfl : s.chk.length ≤ 100000000 ∧ s.chk.length + s.vals.flatten.length ≤ 100000000 ∧ L1.length + s.sets.length ≤ 100000000 ∧ L2.length + s.itms.length ≤ 100000000 ∧ L3.length + 1 + s.grp.length ≤ 100000000 := by
    unfold St.rall at hT
    rw [hL1, hL2, hL3] at hT
    have h1 := congrArg List.length hL1
    have h2 := congrArg List.length hL2
    have h3 := congrArg List.length hL3
    simp only [List.length_append, List.length_singleton, List.length_map] at *
    omega
  have HFL := hid hfl
  have HALL : Hid (s.rall = L3 ++ [s.whr] ++ s.grp) := by unfold Hid St.rall; rw [hL1, hL2, hL3]
  have HL1 := hid hL1
  have HL2 := hid hL2
  have HL3 := hid hL3
  obtain ⟨xc, hlcc, hrdc⟩ := kids_reads hv.chk.2.2 hv.chk.1
  have HLCc := hid hlcc
  have HRDc := hid hrdc
  obtain ⟨xg, hlcg, hrdg⟩ := kids_reads hv.grp.2.2 hv.grp.1
  have HLCg := hid hlcg
  have HRDg := hid hrdg
  have HVl := hid hv.vals
  have Hsets := hid hv.sets
  have Hitms := hid hv.itms
  have HEw := hid (elt_cells hv.whr)
  have HOw := hid (cells8_one s.whr.d a.whr.A a.whr.n a.whr.c)
  have HWN : Hid (L3.length + 1 ≤ 100000000) := by unfold Hid; omega
  clear hv hT hlcc hrdc hlcg hrdg hL1 hL2 hL3
  unfold Nd.cells at HEw HOw
  unfold St.val
  unfold St.cells at *
  unfold Sl.v at *
  generalize s.whr.d = dw at *
  obtain ⟨wop, wtb, wnm, wix, wvk, wvi, wvt⟩ := dw
  simp only at *
  generalize a.sets.A = P1 at *
  generalize a.itms.A = P2 at *
  generalize a.vals.A = P3 at *
  go_enter Tryz.func37, Tryz.ntmps37
  go_upto_region 1 with fail
  generalize w.alloc (.cells _ 38) = w1 at *
  generalize hg : w.heap.size = g at *
  have HO1 := hid (own_room w1 35 8 0 0 0 w1.heap.size #[] (Nat.le_refl _) rfl (by decide))
  have c5 := (HB.out.ext ((Ext.refl w1).alloc (.cells #[] 35))).cell 5
  simp only [List.getElem?_cons_succ, List.getElem?_cons_zero] at c5
  have HXr := hid (Ext.refl w1)
  rw [← hg] at HRDc HRDg
  go_wp2_with (at_builtin; refine wpList_append_any _ rfl (.tmp 7) (.tmp 10) 25 rfl w1.heap.size 35 i0 _ 8 104 Tryz.underlying25 hi hz0 hz1 hz2 rfl (by decide) _ 0 [] rfl (HO1.out) _ _ _ _ xc rfl (HRDc.out.below (HX.out.alloc _)) (HLCc.out.len.2) (by unfold maxLen; omega) (by omega) ((HXr.out.alloc _).size) ?_; intro v1 w5 hown5 hgr5 _; have HO5 := hid hown5; have HG5 := hid hgr5; clear hown5 hgr5; have c6 := ((HB.out.ext ((Ext.refl w1).alloc (.cells #[] 35))).grown HG5.out (fun h => by have := HO1.out.lt _ h.symm; have := HX.out.size; have := HB.out.lt; omega)).cell 6; simp only [List.getElem?_cons_succ, List.getElem?_cons_zero] at c6)
  have HOV : Hid (w5.ownsRow w1.heap.size 35 8 v1 (s.chk ++ (s.vals.take 0).flatten).length xc) := by unfold Hid; simpa [hcn] using HO5.out
  have HLV : Hid (LC w (s.chk ++ (s.vals.take 0).flatten) xc) := by unfold Hid; simpa using HLCc.out
  have HXV := hid (((Ext.refl w1).alloc (.cells #[] 35)).grown HG5.out fun q hq => own_ge HO1.out hq)
  clear HO5 HG5 HO1 HLCc HRDc c5 c6
  rw [hg] at HRDg
  go_loopw [3, 4] (fun nv iv wr => ∃ (k : Nat) (xs : List Value), k ≤ a.vals.n ∧ iv = .int .i64 k ∧ wr.ownsRow w1.heap.size 35 8 nv (s.chk ++ (s.vals.take k).flatten).length xs ∧ LC w (s.chk ++ (s.vals.take k).flatten) xs ∧ Ext w1 wr) (fun _ i _ => a.vals.n - (intOf i).toNat)
  case atStart => exact ⟨0, _, Nat.zero_le _, rfl, HOV.out, HLV.out, HXV.out⟩
  case round =>
    obtain ⟨k, xs, hk, rfl, hown1, hlc1, hxr⟩ := hrel
    have HO := hid hown1
    have HLC := hid hlc1
    have HXr := hid hxr
    have cb := (HB.out.ext hxr).cell 6
    simp only [List.getElem?_cons_succ, List.getElem?_cons_zero] at cb
    clear hown1 hlc1
    by_cases hlt : k < a.vals.n
    · obtain ⟨l, hl⟩ := rat_lt HVl.out.1 hlt
      obtain ⟨b, off, Ai, ni, ci, hA, q0, hln, hkl⟩ := HVl.out.2.2 k l hl
      subst hA
      replace q0 := (HX.out.trans hxr).keep q0
      obtain ⟨xn, hln1, hrn⟩ := kids_reads hkl hln
      have HLN := hid hln1
      have HRN := hid hrn
      have HMs : Hid (s.chk ++ (s.vals.take (k + 1)).flatten = (s.chk ++ (s.vals.take k).flatten) ++ l) := by unfold Hid; rw [flat_step hl, List.append_assoc]
      obtain ⟨p, hp⟩ : ∃ p, (s.chk ++ (s.vals.take k).flatten).length = p := ⟨_, rfl⟩
      have HP := hid hp
      have hpl : p + ni ≤ 100000000 := by
        have h1 := HFL.out.2.1
        have h2 := flat_le s.vals (k + 1)
        have h3 := congrArg List.length HMs.out
        rw [List.length_append, List.length_append (bs := l), hp] at h3
        omega
      have HNL := hid hln
      rw [hp] at HO
      clear hl hkl hln1 hrn hln hp hxr
      go_wp2_with (at_builtin; refine wpList_append_any _ rfl (.tmp 19) (.tmp 24) 25 rfl w1.heap.size 35 i0 _ 8 104 Tryz.underlying25 hi hz0 hz1 hz2 rfl (by decide) _ p xs rfl (HO.out) _ _ _ _ xn rfl (HRN.out.below (HX.out.trans HXr.out)) (HLN.out.len.2) (by unfold maxLen; omega) (by omega) (HXr.out.size) ?_; intro v1 w5 hown5 hgr5 _; have HO5 := hid hown5; have HG5 := hid hgr5; clear hown5 hgr5)
      go_roundw
      case rel =>
        refine ⟨k + 1, xs ++ xn, by omega, by go_num, ?_, ?_, ?_⟩
        · rw [HMs.out, List.length_append (bs := l), HP.out, HNL.out]; exact HO5.out
        · rw [HMs.out]; exact HLC.out.app HLN.out
        · exact (HXr.out).grown HG5.out fun q hq => own_ge HO.out hq
      case measure => simp [intOf]; omega
    · obtain rfl : k = a.vals.n := by omega
      have HTv : Hid (s.chk ++ (s.vals.take a.vals.n).flatten = L1) := by unfold Hid; rw [List.take_of_length_le (Nat.le_of_eq HVl.out.1), HL1.out]
      rw [HTv.out] at HO HLC
      clear hxr
      go_wp2_with fail
      go_loopw [3, 5] (fun nv iv wr => ∃ (k : Nat) (xs : List Value), k ≤ a.sets.n ∧ iv = .int .i64 k ∧ wr.ownsRow w1.heap.size 35 8 nv (L1 ++ (s.sets.take k).map Asg.ex).length xs ∧ LC w (L1 ++ (s.sets.take k).map Asg.ex) xs ∧ Ext w1 wr) (fun _ i _ => a.sets.n - (intOf i).toNat)
      case atStart => exact ⟨0, _, Nat.zero_le _, rfl, by simpa using HO.out, by simpa using HLC.out, HXr.out⟩
      case round =>
        obtain ⟨k, xs, hk, rfl, hown1, hlc1, hxr⟩ := hrel
        have HO := hid hown1
        have HLC := hid hlc1
        have HXr := hid hxr
        have cb := (HB.out.ext hxr).cell 7
        simp only [List.getElem?_cons_succ, List.getElem?_cons_zero] at cb
        clear hown1 hlc1
        by_cases hlt : k < a.sets.n
        · obtain ⟨x, hx⟩ := rat_lt Hsets.out.1 hlt
          obtain ⟨b, off, A', n', c', hA, q0, q1, q2, q3, q4, q5, q6, q7, q8, q9, hxv⟩ := asg_get Hsets.out.2.2 hx
          subst hA
          replace q0 := (HX.out.trans hxr).keep q0
          replace q1 := (HX.out.trans hxr).keep q1
          replace q2 := (HX.out.trans hxr).keep q2
          replace q3 := (HX.out.trans hxr).keep q3
          replace q4 := (HX.out.trans hxr).keep q4
          replace q5 := (HX.out.trans hxr).keep q5
          replace q6 := (HX.out.trans hxr).keep q6
          replace q7 := (HX.out.trans hxr).keep q7
          replace q8 := (HX.out.trans hxr).keep q8
          replace q9 := (HX.out.trans hxr).keep q9
          have HLN := hid (LC.one (elt_cells hxv))
          have HMs : Hid (L1 ++ (s.sets.take (k + 1)).map Asg.ex = (L1 ++ (s.sets.take k).map Asg.ex) ++ [x.ex]) := by unfold Hid; rw [map_step Asg.ex hx, List.append_assoc]
          have HONE := hid (cells8_one x.ex.d A' n' c')
          obtain ⟨p, hp⟩ : ∃ p, (L1 ++ (s.sets.take k).map Asg.ex).length = p := ⟨_, rfl⟩
          have HP := hid hp
          have hpl : p + 1 ≤ 100000000 := by
            have h1 := HFL.out.2.2.1
            have h2 : (s.sets.take (k + 1)).length ≤ s.sets.length := by rw [List.length_take]; omega
            rw [← hp]
            simp only [List.length_append, List.length_map, List.length_take] at *
            have := Hsets.out.1
            omega
          rw [hp] at HO
          clear hx hxv hp hxr
          unfold Nd.cells at HLN HONE
          generalize hd : x.ex.d = d at *
          obtain ⟨op, tb, nm, ix, vk, vi, vt⟩ := d
          simp only at *
          clear hd
          obtain ⟨xn, hxn⟩ : ∃ xn : List Value, [.int .i64 op, .string tb, .string nm, .int .i64 ix, .int .i64 vk, .int .i64 vi, .string vt, .slice A' n' c'] = xn := ⟨_, rfl⟩
          have HXN := hid hxn
          rw [hxn] at HLN
          clear hxn
          go_wp2_with (at_builtin; refine wpList_append_any _ rfl (.tmp 33) (.tmp 40) 25 rfl w1.heap.size 35 i0 _ 8 104 Tryz.underlying25 hi hz0 hz1 hz2 rfl (by decide) _ p xs rfl (ownN_ext HO.out ((Ext.refl wr).alloc _)) _ _ _ _ [.int .i64 op, .string tb, .string nm, .int .i64 ix, .int .i64 vk, .int .i64 vi, .string vt, .slice A' n' c'] rfl (reads_new wr [.int .i64 op, .string tb, .string nm, .int .i64 ix, .int .i64 vk, .int .i64 vi, .string vt, .slice A' n' c'] 35 rfl) (HONE.out) (by unfold maxLen; omega) (by omega) ((HXr.out.alloc _).size) ?_; intro v1 w5 hown5 hgr5 _; have HO5 := hid hown5; have HG5 := hid hgr5; clear hown5 hgr5)
          rw [HXN.out] at HO5
          go_roundw
          case rel =>
            refine ⟨k + 1, xs ++ xn, by omega, by go_num, ?_, ?_, ?_⟩
            · rw [HMs.out, List.length_append (bs := [x.ex]), HP.out]; exact HO5.out
            · rw [HMs.out]; exact HLC.out.app HLN.out
            · exact (HXr.out.alloc _).grown HG5.out fun q hq => own_ge HO.out hq
          case measure => simp [intOf]; omega
        · obtain rfl : k = a.sets.n := by omega
          have HTs : Hid (L1 ++ (s.sets.take a.sets.n).map Asg.ex = L2) := by unfold Hid; rw [List.take_of_length_le (Nat.le_of_eq Hsets.out.1), HL2.out]
          rw [HTs.out] at HO HLC
          clear hxr
          go_wp2_with fail
          go_loopw [3, 6] (fun nv iv wr => ∃ (k : Nat) (xs : List Value), k ≤ a.itms.n ∧ iv = .int .i64 k ∧ wr.ownsRow w1.heap.size 35 8 nv (L2 ++ (s.itms.take k).map Itm.ex).length xs ∧ LC w (L2 ++ (s.itms.take k).map Itm.ex) xs ∧ Ext w1 wr) (fun _ i _ => a.itms.n - (intOf i).toNat)
          case atStart => exact ⟨0, _, Nat.zero_le _, rfl, by simpa using HO.out, by simpa using HLC.out, HXr.out⟩
          case round =>
            obtain ⟨k, xs, hk, rfl, hown1, hlc1, hxr⟩ := hrel
            have HO := hid hown1
            have HLC := hid hlc1
            have HXr := hid hxr
            have cb := (HB.out.ext hxr).cell 8
            simp only [List.getElem?_cons_succ, List.getElem?_cons_zero] at cb
            clear hown1 hlc1
            by_cases hlt : k < a.itms.n
            · obtain ⟨x, hx⟩ := rat_lt Hitms.out.1 hlt
              obtain ⟨b, off, A', n', c', hA, q0, q1, q2, q3, q4, q5, q6, q7, q8, hxv⟩ := itm_get Hitms.out.2.2 hx
              subst hA
              replace q0 := (HX.out.trans hxr).keep q0
              replace q1 := (HX.out.trans hxr).keep q1
              replace q2 := (HX.out.trans hxr).keep q2
              replace q3 := (HX.out.trans hxr).keep q3
              replace q4 := (HX.out.trans hxr).keep q4
              replace q5 := (HX.out.trans hxr).keep q5
              replace q6 := (HX.out.trans hxr).keep q6
              replace q7 := (HX.out.trans hxr).keep q7
              replace q8 := (HX.out.trans hxr).keep q8
              have HLN := hid (LC.one (elt_cells hxv))
              have HMs : Hid (L2 ++ (s.itms.take (k + 1)).map Itm.ex = (L2 ++ (s.itms.take k).map Itm.ex) ++ [x.ex]) := by unfold Hid; rw [map_step Itm.ex hx, List.append_assoc]
              have HONE := hid (cells8_one x.ex.d A' n' c')
              obtain ⟨p, hp⟩ : ∃ p, (L2 ++ (s.itms.take k).map Itm.ex).length = p := ⟨_, rfl⟩
              have HP := hid hp
              have hpl : p + 1 ≤ 100000000 := by
                have h1 := HFL.out.2.2.2.1
                have h2 : (s.itms.take (k + 1)).length ≤ s.itms.length := by rw [List.length_take]; omega
                rw [← hp]
                simp only [List.length_append, List.length_map, List.length_take] at *
                have := Hitms.out.1
                omega
              rw [hp] at HO
              clear hx hxv hp hxr
              unfold Nd.cells at HLN HONE
              generalize hd : x.ex.d = d at *
              obtain ⟨op, tb, nm, ix, vk, vi, vt⟩ := d
              simp only at *
              clear hd
              obtain ⟨xn, hxn⟩ : ∃ xn : List Value, [.int .i64 op, .string tb, .string nm, .int .i64 ix, .int .i64 vk, .int .i64 vi, .string vt, .slice A' n' c'] = xn := ⟨_, rfl⟩
              have HXN := hid hxn
              rw [hxn] at HLN
              clear hxn
              go_wp2_with (at_builtin; refine wpList_append_any _ rfl (.tmp 49) (.tmp 56) 25 rfl w1.heap.size 35 i0 _ 8 104 Tryz.underlying25 hi hz0 hz1 hz2 rfl (by decide) _ p xs rfl (ownN_ext HO.out ((Ext.refl wr).alloc _)) _ _ _ _ [.int .i64 op, .string tb, .string nm, .int .i64 ix, .int .i64 vk, .int .i64 vi, .string vt, .slice A' n' c'] rfl (reads_new wr [.int .i64 op, .string tb, .string nm, .int .i64 ix, .int .i64 vk, .int .i64 vi, .string vt, .slice A' n' c'] 35 rfl) (HONE.out) (by unfold maxLen; omega) (by omega) ((HXr.out.alloc _).size) ?_; intro v1 w5 hown5 hgr5 _; have HO5 := hid hown5; have HG5 := hid hgr5; clear hown5 hgr5)
              rw [HXN.out] at HO5
              go_roundw
              case rel =>
                refine ⟨k + 1, xs ++ xn, by omega, by go_num, ?_, ?_, ?_⟩
                · rw [HMs.out, List.length_append (bs := [x.ex]), HP.out]; exact HO5.out
                · rw [HMs.out]; exact HLC.out.app HLN.out
                · exact (HXr.out.alloc _).grown HG5.out fun q hq => own_ge HO.out hq
              case measure => simp [intOf]; omega
            · obtain rfl : k = a.itms.n := by omega
              have HTi : Hid (L2 ++ (s.itms.take a.itms.n).map Itm.ex = L3) := by unfold Hid; rw [List.take_of_length_le (Nat.le_of_eq Hitms.out.1), HL3.out]
              rw [HTi.out] at HO HLC
              have hb := HB.out.ext hxr
              have d10 := hb.cell 10
              have d11 := hb.cell 11
              have d12 := hb.cell 12
              have d13 := hb.cell 13
              have d14 := hb.cell 14
              have d15 := hb.cell 15
              have d16 := hb.cell 16
              have d17 := hb.cell 17
              simp only [List.getElem?_cons_succ, List.getElem?_cons_zero] at d10 d11 d12 d13 d14 d15 d16 d17
              obtain ⟨p, hp⟩ : ∃ p, L3.length = p := ⟨_, rfl⟩
              have HP := hid hp
              have hpl : p + 1 + s.grp.length ≤ 100000000 := by have := HFL.out.2.2.2.2; omega
              rw [hp] at HO
              rw [hgl] at hpl
              rw [← hg] at HRDg
              clear hb hxr hp
              go_wp2_with (first | (at_builtin; refine wpList_append_any _ rfl (.tmp 58) (.tmp 61) 25 rfl w1.heap.size 35 i0 _ 8 104 Tryz.underlying25 hi hz0 hz1 hz2 rfl (by decide) _ p xs rfl (ownN_ext HO.out ((Ext.refl wr).alloc _)) _ _ _ _ [.int .i64 wop, .string wtb, .string wnm, .int .i64 wix, .int .i64 wvk, .int .i64 wvi, .string wvt, .slice a.whr.A a.whr.n a.whr.c] rfl (reads_new wr [.int .i64 wop, .string wtb, .string wnm, .int .i64 wix, .int .i64 wvk, .int .i64 wvi, .string wvt, .slice a.whr.A a.whr.n a.whr.c] 35 rfl) (HOw.out) (by unfold maxLen; omega) (by omega) ((HXr.out.alloc _).size) ?_; intro v1 w5 hown5 hgr5 _; have HO5 := hid hown5; have HG5 := hid hgr5; clear hown5 hgr5; have d18 := ((HB.out.ext (HXr.out.alloc (.cells #[.int .i64 wop, .string wtb, .string wnm, .int .i64 wix, .int .i64 wvk, .int .i64 wvi, .string wvt, .slice a.whr.A a.whr.n a.whr.c] 35))).grown HG5.out (fun h => by have := own_ge HO.out h.symm; have := HX.out.size; have := HB.out.lt; omega)).cell 18; simp only [List.getElem?_cons_succ, List.getElem?_cons_zero] at d18) | (at_builtin; refine wpList_append_any _ rfl (.tmp 63) (.tmp 65) 25 rfl w1.heap.size 35 i0 _ 8 104 Tryz.underlying25 hi hz0 hz1 hz2 rfl (by decide) _ (p + 1) _ rfl HO5.out _ _ _ _ xg rfl (HRDg.out.below (HX.out.trans ((HXr.out.alloc (.cells #[.int .i64 wop, .string wtb, .string wnm, .int .i64 wix, .int .i64 wvk, .int .i64 wvi, .string wvt, .slice a.whr.A a.whr.n a.whr.c] 35)).grown HG5.out fun q hq => own_ge HO.out hq))) HLCg.out.len.2 (by unfold maxLen; omega) (by omega) (((HXr.out.alloc (.cells #[.int .i64 wop, .string wtb, .string wnm, .int .i64 wix, .int .i64 wvk, .int .i64 wvi, .string wvt, .slice a.whr.A a.whr.n a.whr.c] 35)).grown HG5.out fun q hq => own_ge HO.out hq)).size ?_; intro v2 w6 hown6 hgr6 _; have HO6 := hid hown6; have HG6 := hid hgr6; clear hown6 hgr6))
              go_ret
              have hx6 : Ext w1 w6 := ((HXr.out.alloc (.cells #[.int .i64 wop, .string wtb, .string wnm, .int .i64 wix, .int .i64 wvk, .int .i64 wvi, .string wvt, .slice a.whr.A a.whr.n a.whr.c] 35)).grown HG5.out fun q hq => own_ge HO.out hq).grown HG6.out fun q hq => own_ge HO5.out hq
              have hlc6 := (HLC.out.app (LC.one HEw.out)).app HLCg.out
              rw [← HALL.out] at hlc6
              obtain ⟨A6, c6, rfl, hk6, hn6⟩ := own_kids HO6.out (hlc6.ext (HX.out.trans hx6))
              rw [hn6]
              exact ⟨A6, c6, rfl, hk6, HX.out.trans hx6⟩
end Go.Proofs.YtcdnodjcnofogaaGreatDoor
namespace Go.Proofs.YtcdnodjcnofogaaGreatDoor
open Go.RowKit
set_option linter.unusedVariables false
set_option linter.unusedSimpArgs false
set_option maxHeartbeats 4000000
set_option maxRecDepth 100000

/-- the error of a statement -/
def validS (s : St) : Int := if largeB s.all = true then 3 else if s.formed = false then 1 else if 16384 < s.body.size then 3 else 0
def textS (s : St) : ByteArray := if validS s = 0 then s.body else ⟨#[]⟩
theorem large_rall (s : St) : largeB s.rall = largeB s.all := by
  unfold largeB
  have h1 : nodesL s.rall = nodesL s.all := by unfold St.rall St.all; simp only [nodesL_app]; omega
  have h2 : ∀ p : Ex → Bool, s.rall.any p = s.all.any p := fun p => by
    unfold St.rall St.all
    simp only [List.any_append]
    generalize s.chk.any p = b1
    generalize s.vals.flatten.any p = b2
    generalize s.grp.any p = b3
    generalize (s.sets.map Asg.ex).any p = b4
    generalize (s.itms.map Itm.ex).any p = b5
    generalize [s.whr].any p = b6
    cases b1 <;> cases b2 <;> cases b3 <;> cases b4 <;> cases b5 <;> cases b6 <;> rfl
  rw [h1, h2]
theorem nodes_small {s : St} (h : largeB s.all = false) : nodesL s.all ≤ 400 := by
  unfold largeB at h
  simp only [Bool.or_eq_false_iff, decide_eq_false_iff_not] at h
  omega
theorem flat_len (l : List (List Ex)) : l.flatten.length ≤ sumB bkR l := by
  have hl : ∀ l : List Ex, l.length ≤ sizeL l := fun l => by rw [← sumB_ex]; exact sumB_len (fun a => size_pos a) l
  induction l with
  | nil => simp [sumB]
  | cons a l ih => rw [List.flatten_cons, List.length_append, sumB]; unfold bkR at *; have := hl a; omega
theorem all_len (s : St) (h : s.bulk ≤ 1048576) : s.all.length ≤ 100000000 := by
  have h1 := lens_bulk s h
  have h2 := flat_len s.vals
  have h3 := (sum_bulk s h).2.2.2.1
  unfold St.all
  simp only [List.length_append, List.length_map, List.length_singleton]
  omega
theorem rallS_len (s : St) (h : s.bulk ≤ 1048576) : s.rall.length ≤ 100000000 := by
  have h1 := lens_bulk s h
  have h2 := flat_len s.vals
  have h3 := (sum_bulk s h).2.2.2.1
  unfold St.rall
  simp only [List.length_append, List.length_map, List.length_singleton]
  omega
theorem body_size (s : St) (hf : s.formed = true) (hF : s.Fits) (hb : s.bulk ≤ 1048576) : s.body.size ≤ 1000000000 := by
  have hkk := formed_kind hf
  have hsb := sum_bulk s hb
  have z3 := whT_size s (whr_of hf) hF.whr
  unfold St.body
  by_cases h1 : s.kd = 1
  · rw [if_pos h1]
    have := cma_size s.elts
    have := elts_size (hkk.2.1 h1)
    simp only [ByteArray.size_append]
    show 13 + _ + 2 + _ + 1 ≤ _
    omega
  rw [if_neg h1]
  by_cases h2 : s.kd = 2
  · rw [if_pos h2]
    have hrs : ∀ x ∈ s.vals, x.all Ex.formed = true := fun x hx => by have := List.all_eq_true.1 (hkk.2.2.2.1 h2) x hx; unfold rowOk at this; simp only [Bool.and_eq_true] at this; exact this.2
    have := cma_size (s.vals.map rowT)
    have := sumS_map rowT bkR 100 s.vals fun x hx => row_size (hrs x hx)
    simp only [ByteArray.size_append]
    show 12 + _ + 8 + _ ≤ _
    omega
  rw [if_neg h2]
  by_cases h3 : s.kd = 3
  · rw [if_pos h3]
    have := cma_size (s.sets.map Asg.tx)
    have := sumS_map Asg.tx bkA 100 s.sets fun x hx => asg_size (List.all_eq_true.1 (hkk.2.2.2.2.2.1 h3) x hx)
    simp only [ByteArray.size_append]
    show 7 + _ + 5 + _ + _ ≤ _
    omega
  rw [if_neg h3]
  by_cases h4 : s.kd = 4
  · rw [if_pos h4]
    simp only [ByteArray.size_append]
    show 12 + _ + _ ≤ _
    omega
  rw [if_neg h4]
  by_cases h5 : s.kd = 5
  · rw [if_pos h5]
    obtain ⟨hq1, hq2, hq3, hq4, hq5, hq6⟩ := q_parts (hkk.2.2.2.2.2.2.2.1 h5)
    have z1 := itT_size s hq1 hsb.2.2.2.2.2.1
    have z2 : (cma (s.frm.map Src.tx)).size ≤ 104857600 := Nat.le_trans (cma_size _) (Nat.le_trans (sumS_map Src.tx bkF 100 s.frm fun x hx => src_size x) (by omega))
    have z4 : (exsT s.grp).size ≤ 100000 := Nat.le_trans (cma_size _) (Nat.le_trans (exs_size hq3) (by have := hF.grp; omega))
    have z5 : (cma (s.ord.map Ord'.tx)).size ≤ 104857600 := Nat.le_trans (cma_size _) (Nat.le_trans (sumS_map Ord'.tx bkO 100 s.ord fun x hx => ord_size (List.all_eq_true.1 hq4 x hx)) (by omega))
    have z6 := itoB_size s.lim (by omega) (by omega)
    have y0 : s.sel0.size ≤ 300000000 := by unfold St.sel0; simp only [ByteArray.size_append]; show 7 + _ + 6 + _ + _ ≤ _; omega
    have y1 : s.sel1.size ≤ 300100100 := by unfold St.sel1; refine ite_size _ _ _ _ (by omega) ?_; simp only [ByteArray.size_append]; show _ + (10 + _) ≤ _; omega
    have y2 : s.sel2.size ≤ 500000000 := by unfold St.sel2; refine ite_size _ _ _ _ (by omega) ?_; simp only [ByteArray.size_append]; show _ + (10 + _) ≤ _; omega
    unfold St.sel
    refine ite_size _ _ _ _ ?_ (by omega)
    simp only [ByteArray.size_append]
    show _ + (7 + _) ≤ _
    omega
  rw [if_neg h5]
  refine ite_size _ _ _ _ (show 5 ≤ _ by omega) (ite_size _ _ _ _ (show 6 ≤ _ by omega) (ite_size _ _ _ _ (show 8 ≤ _ by omega) (ite_size _ _ _ _ ?_ (ite_size _ _ _ _ ?_ ?_))))
  · rw [ByteArray.size_append]; show 10 + _ ≤ _; omega
  · rw [ByteArray.size_append]; show 12 + _ ≤ _; omega
  · rw [ByteArray.size_append]; show 8 + _ ≤ _; omega
theorem valid_formed {s : St} (h : validS s = 0) : s.formed = true ∧ s.Fits := by
  unfold validS at h
  cases hL : largeB s.all
  · rw [hL] at h
    simp only [Bool.false_eq_true, if_false] at h
    cases hF : s.formed
    · rw [hF] at h; simp at h
    · exact ⟨rfl, fits_of hF (nodes_small hL)⟩
  · rw [hL] at h; simp at h
theorem svalid_any (s : St) (a : SA) (w : World) (hg : Gd w) (hv : StV w s a) (hcK : CapK w a.keys.A a.keys.n) (hcR : CapR w a.frs.A a.frs.n) (hb : s.bulk ≤ 1048576) :
    Calls Tryz.prog 14 #[s.val a] w fun r w' => r = .returned (.int .i64 (validS s)) ∧ Ext w w' := by
  have hlb := lens_bulk s hb
  have H1 := hid (fun W (hW : Ext w W) => all_any s a W (hv.ext hW) (all_len s hb))
  have H2 := hid (fun (W : World) (A : Option Addr) (c : Nat) (hk : KidsAt W A s.all) => large_any s.all A s.all.length c W rfl (by have := all_len s hb; omega) hk)
  have H3 := hid (fun W (hW : Ext w W) => statement_any s a W (hg.ext hW).sh (hv.ext hW) hlb.1 (by omega))
  have H4 := hid (fun W (hW : Ext w W) (hf : s.formed = true) (hF : s.Fits) => form_any s a W (hg.ext hW) (hv.ext hW) (hcK.ext hW) (hcR.ext hW) hf hF hb)
  have HV : Hid (validS s = if largeB s.all = true then 3 else if s.formed = false then 1 else if 16384 < s.body.size then 3 else 0) := rfl
  have HF : Hid (largeB s.all = false → s.formed = true → s.Fits) := fun h1 h2 => fits_of h2 (nodes_small h1)
  have HS : Hid (s.formed = true → s.Fits → s.body.size ≤ 1000000000) := fun h1 h2 => body_size s h1 h2 hb
  have HB := hid (Blk.of_new w 38 (s.cells a))
  have HX := hid ((Ext.refl w).alloc (.cells (s.cells a).toArray 38))
  clear hg hv hcK hcR hb hlb
  unfold St.val at *
  unfold St.cells Sl.v at *
  generalize validS s = V at *
  go_enter Tryz.func14, Tryz.ntmps14
  go_upto_region 1 with fail
  generalize w.alloc (.cells _ 38) = w1 at *
  generalize w.heap.size = g at *
  cases hL : largeB s.all
  · rw [hL] at H2 HV
    simp only [Bool.false_eq_true, if_false] at HV
    cases hF : s.formed
    · rw [hF] at H3 HV
      simp only [if_true] at HV
      have hV := HV.out
      subst hV
      clear H4 HS HV HF hL hF
      go_wp2_with (first | (refine wpList_load_blk rfl 38 (.tmp 1) rfl g rfl 38 _ _ HB.out Tryz.underlying38 rfl (by kernel_rfl) ?_) | (refine wpList_load_blk rfl 38 (.tmp 1) rfl g rfl 38 _ _ (HB.out.ext (hx2.trans hx3)) Tryz.underlying38 rfl (by kernel_rfl) ?_) | (go_at_call 41; (with_reducible refine (H1.out _ HX.out).mono ?_); rintro _ w2 ⟨A1, c1, rfl, hk1, hx2⟩) | (go_at_call 40; (with_reducible refine (H2.out _ _ _ hk1).mono ?_); rintro _ w3 ⟨rfl, hx3⟩) | (go_at_call 42; (with_reducible refine (H3.out _ (HX.out.trans (hx2.trans hx3))).mono ?_); rintro _ w4 ⟨rfl, hx4⟩))
      go_ret
      exact ⟨rfl, HX.out.trans ((hx2.trans hx3).trans hx4)⟩
    · have hFi := HF.out hL hF
      have hz := HS.out hF hFi
      have H5 := hid (fun W (hW : Ext w W) => H4.out W hW hF hFi)
      rw [hF] at H3 HV
      simp only [Bool.true_eq_false, if_false] at HV
      clear H4 HS HF hL hF hFi
      generalize s.body = TB at *
      by_cases hs : 16384 < TB.size
      · rw [if_pos hs] at HV
        have hV := HV.out
        subst hV
        have hd : decide ((16384 : Int) < (TB.size : Int)) = true := by simp; omega
        clear HV
        go_wp2_with (first | (refine wpList_load_blk rfl 38 (.tmp 1) rfl g rfl 38 _ _ HB.out Tryz.underlying38 rfl (by kernel_rfl) ?_) | (refine wpList_load_blk rfl 38 (.tmp 1) rfl g rfl 38 _ _ (HB.out.ext (hx2.trans hx3)) Tryz.underlying38 rfl (by kernel_rfl) ?_) | (refine wpList_load_blk rfl 38 (.tmp 1) rfl g rfl 38 _ _ (HB.out.ext ((hx2.trans hx3).trans hx4)) Tryz.underlying38 rfl (by kernel_rfl) ?_) | (go_at_call 41; (with_reducible refine (H1.out _ HX.out).mono ?_); rintro _ w2 ⟨A1, c1, rfl, hk1, hx2⟩) | (go_at_call 40; (with_reducible refine (H2.out _ _ _ hk1).mono ?_); rintro _ w3 ⟨rfl, hx3⟩) | (go_at_call 42; (with_reducible refine (H3.out _ (HX.out.trans (hx2.trans hx3))).mono ?_); rintro _ w4 ⟨rfl, hx4⟩) | (go_at_call 43; (with_reducible refine (H5.out _ (HX.out.trans ((hx2.trans hx3).trans hx4))).mono ?_); rintro _ w5 ⟨rfl, hx5⟩))
        go_ret
        exact ⟨rfl, HX.out.trans (((hx2.trans hx3).trans hx4).trans hx5)⟩
      · rw [if_neg hs] at HV
        have hV := HV.out
        subst hV
        have hd : decide ((16384 : Int) < (TB.size : Int)) = false := by simp; omega
        clear HV
        go_wp2_with (first | (refine wpList_load_blk rfl 38 (.tmp 1) rfl g rfl 38 _ _ HB.out Tryz.underlying38 rfl (by kernel_rfl) ?_) | (refine wpList_load_blk rfl 38 (.tmp 1) rfl g rfl 38 _ _ (HB.out.ext (hx2.trans hx3)) Tryz.underlying38 rfl (by kernel_rfl) ?_) | (refine wpList_load_blk rfl 38 (.tmp 1) rfl g rfl 38 _ _ (HB.out.ext ((hx2.trans hx3).trans hx4)) Tryz.underlying38 rfl (by kernel_rfl) ?_) | (go_at_call 41; (with_reducible refine (H1.out _ HX.out).mono ?_); rintro _ w2 ⟨A1, c1, rfl, hk1, hx2⟩) | (go_at_call 40; (with_reducible refine (H2.out _ _ _ hk1).mono ?_); rintro _ w3 ⟨rfl, hx3⟩) | (go_at_call 42; (with_reducible refine (H3.out _ (HX.out.trans (hx2.trans hx3))).mono ?_); rintro _ w4 ⟨rfl, hx4⟩) | (go_at_call 43; (with_reducible refine (H5.out _ (HX.out.trans ((hx2.trans hx3).trans hx4))).mono ?_); rintro _ w5 ⟨rfl, hx5⟩))
        go_ret
        exact ⟨rfl, HX.out.trans (((hx2.trans hx3).trans hx4).trans hx5)⟩
  · rw [hL] at H2 HV
    simp only [if_true] at HV
    have hV := HV.out
    subst hV
    clear H3 H4 HS HV HF hL
    go_wp2_with (first | (refine wpList_load_blk rfl 38 (.tmp 1) rfl g rfl 38 _ _ HB.out Tryz.underlying38 rfl (by kernel_rfl) ?_) | (go_at_call 41; (with_reducible refine (H1.out _ HX.out).mono ?_); rintro _ w2 ⟨A1, c1, rfl, hk1, hx2⟩) | (go_at_call 40; (with_reducible refine (H2.out _ _ _ hk1).mono ?_); rintro _ w3 ⟨rfl, hx3⟩))
    go_ret
    exact ⟨rfl, HX.out.trans (hx2.trans hx3)⟩
theorem sformat_any (s : St) (a : SA) (w : World) (hg : Gd w) (hv : StV w s a) (hcK : CapK w a.keys.A a.keys.n) (hcR : CapR w a.frs.A a.frs.n) (hb : s.bulk ≤ 1048576) :
    Calls Tryz.prog 19 #[s.val a] w fun r w' => r = .returned (.tuple #[.string (textS s), .int .i64 (validS s)]) ∧ Ext w w' := by
  have H1 := hid (fun W (hW : Ext w W) => svalid_any s a W (hg.ext hW) (hv.ext hW) (hcK.ext hW) (hcR.ext hW) hb)
  have H4 := hid (fun W (hW : Ext w W) (h : validS s = 0) => form_any s a W (hg.ext hW) (hv.ext hW) (hcK.ext hW) (hcR.ext hW) (valid_formed h).1 (valid_formed h).2 hb)
  have HT : Hid (textS s = if validS s = 0 then s.body else ⟨#[]⟩) := rfl
  have HB := hid (Blk.of_new w 38 (s.cells a))
  have HX := hid ((Ext.refl w).alloc (.cells (s.cells a).toArray 38))
  clear hg hv hcK hcR hb
  unfold St.val at *
  unfold St.cells Sl.v at *
  generalize textS s = T at *
  generalize s.body = TB at *
  generalize validS s = V at *
  go_enter Tryz.func19, Tryz.ntmps19
  go_upto_region 1 with fail
  generalize w.alloc (.cells _ 38) = w1 at *
  generalize w.heap.size = g at *
  by_cases h : V = 0
  · subst h
    have hT := HT.out
    simp only [if_true] at hT
    subst hT
    have H5 := hid (fun W (hW : Ext w W) => H4.out W hW rfl)
    clear H4 HT
    go_wp2_with (first | (refine wpList_load_blk rfl 38 (.tmp 1) rfl g rfl 38 _ _ HB.out Tryz.underlying38 rfl (by kernel_rfl) ?_) | (refine wpList_load_blk rfl 38 (.tmp 1) rfl g rfl 38 _ _ (HB.out.ext hx2) Tryz.underlying38 rfl (by kernel_rfl) ?_) | (go_at_call 14; (with_reducible refine (H1.out _ HX.out).mono ?_); rintro _ w2 ⟨rfl, hx2⟩) | (go_at_call 43; (with_reducible refine (H5.out _ (HX.out.trans hx2)).mono ?_); rintro _ w5 ⟨rfl, hx5⟩))
    go_ret2
    exact ⟨rfl, HX.out.trans (hx2.trans hx5)⟩
  · have hT := HT.out
    rw [if_neg h] at hT
    subst hT
    have hd : (V != 0) = true := by simpa using h
    clear H4 HT h
    go_wp2_with (first | (refine wpList_load_blk rfl 38 (.tmp 1) rfl g rfl 38 _ _ HB.out Tryz.underlying38 rfl (by kernel_rfl) ?_) | (go_at_call 14; (with_reducible refine (H1.out _ HX.out).mono ?_); rintro _ w2 ⟨rfl, hx2⟩))
    go_ret2
    exact ⟨rfl, HX.out.trans hx2⟩
end Go.Proofs.YtcdnodjcnofogaaGreatDoor
namespace Go.Proofs.YtcdnodjcnofogaaGreatDoor
open Go.RowKit
set_option linter.unusedVariables false
set_option linter.unusedSimpArgs false
set_option maxHeartbeats 4000000
set_option maxRecDepth 100000

def minL : List Ex → Nat
  | [] => 0
  | e :: es => min e.nodes 401 + minL es
theorem minL_app (a b : List Ex) : minL (a ++ b) = minL a + minL b := by
  induction a with
  | nil => simp [minL]
  | cons e a ih => rw [List.cons_append, minL, minL, ih]; omega
theorem minL_le (l : List Ex) : minL l ≤ nodesL l := by
  induction l with
  | nil => exact Nat.le_refl _
  | cons e l ih => rw [minL, nodesL]; omega
theorem minL_eq {l : List Ex} (h : minL l ≤ 400) : minL l = nodesL l := by
  induction l with
  | nil => rfl
  | cons e l ih => rw [minL] at h ⊢; rw [nodesL]; have := ih (by omega); omega
theorem minL_take {l : List Ex} {k : Nat} {e : Ex} (h : l[k]? = some e) : minL (l.take (k + 1)) = minL (l.take k) + min e.nodes 401 := by
  rw [takeA h, minL_app, minL, minL, Nat.add_zero]
theorem minL_part (l : List Ex) (k : Nat) : minL (l.take k) ≤ minL l := by
  conv => rhs; rw [← List.take_append_drop k l, minL_app]
  omega
theorem large_of_min {l : List Ex} {k : Nat} (h : 400 < minL (l.take k)) : largeB l = true := by
  have := minL_part l k
  have := minL_le l
  unfold largeB
  rw [decide_eq_true (show 400 < nodesL l by omega)]
  rfl
theorem large_of_deep {l : List Ex} {k : Nat} {e : Ex} (h : l[k]? = some e) (hd : 50 < e.depth) : largeB l = true := by
  unfold largeB
  have : (l.any fun e => decide (50 < e.depth)) = true := List.any_eq_true.2 ⟨e, List.mem_of_getElem? h, by simpa using hd⟩
  rw [this, Bool.or_true]
theorem large_no {l : List Ex} (h : minL l ≤ 400) (hd : (l.any fun e => decide (50 < e.depth)) = false) : largeB l = false := by
  unfold largeB
  rw [hd, ← minL_eq h, decide_eq_false (by omega)]
  rfl
theorem rsvalid_any (s : St) (a : SA) (w : World) (hv : StV w s a) (hb : s.bulk ≤ 1048576) :
    Calls Tryz.prog 15 #[s.val a] w fun r w' => r = .returned (.int .i64 (validS s)) ∧ Ext w w' := by
  have hlb := lens_bulk s hb
  have hlen := rallS_len s hb
  have H1 := hid (fun W (hW : Ext w W) => rall_any s a W (hv.ext hW) hlen)
  have H3 := hid (fun W (hW : Ext w W) => rstate_any s a W (hv.ext hW) hlb.1 hlb.2.2.2)
  have H4 := hid (fun W (hW : Ext w W) (hf : s.formed = true) (hF : s.Fits) => rbody_any s a W (hv.ext hW) hf hF hb)
  have HV : Hid (validS s = if largeB s.rall = true then 3 else if s.formed = false then 1 else if 16384 < s.body.size then 3 else 0) := by unfold Hid; rw [large_rall]; rfl
  have HF : Hid (largeB s.rall = false → s.formed = true → s.Fits) := fun h1 h2 => fits_of h2 (nodes_small (by rw [← large_rall]; exact h1))
  have HS : Hid (s.formed = true → s.Fits → s.body.size ≤ 1000000000) := fun h1 h2 => body_size s h1 h2 hb
  have HB := hid (Blk.of_new w 38 (s.cells a))
  have HX := hid ((Ext.refl w).alloc (.cells (s.cells a).toArray 38))
  clear hv hb hlb
  unfold St.val at *
  unfold St.cells Sl.v at *
  generalize validS s = V at *
  go_enter Tryz.func15, Tryz.ntmps15
  go_upto_region 1 with fail
  generalize w.alloc (.cells _ 38) = w1 at *
  generalize w.heap.size = g at *
  go_wp2_with (first | (refine wpList_load_blk rfl 38 (.tmp 1) rfl g rfl 38 _ _ HB.out Tryz.underlying38 rfl (by kernel_rfl) ?_) | (go_at_call 37; (with_reducible refine (H1.out _ HX.out).mono ?_); rintro _ w2 ⟨A1, c1, rfl, hk1, hx2⟩))
  replace HB := hid (HB.out.ext hx2)
  replace HX := hid (HX.out.trans hx2)
  have HK := hid hk1
  clear hk1 hx2 H1
  obtain ⟨l, hl⟩ : ∃ l, s.rall = l := ⟨_, rfl⟩
  rw [hl] at hlen HV HF HK ⊢
  clear hl
  obtain ⟨L, hL⟩ : ∃ L, l.length = L := ⟨_, rfl⟩
  rw [hL] at hlen ⊢
  have HL := hid hL
  clear hL
  go_loopw [4, 5] (fun nv iv wr => ∃ (k : Nat), k ≤ L ∧ iv = .int .i64 k ∧ nv = .int .i64 ((minL (l.take k) : Nat) : Int) ∧ minL (l.take k) ≤ 801 ∧ Ext w2 wr) (fun _ i _ => L - (intOf i).toNat)
  case atStart => exact ⟨0, Nat.zero_le _, rfl, rfl, by simp [minL], Ext.refl _⟩
  case round =>
    obtain ⟨k, hkn, rfl, rfl, hm, hxr⟩ := hrel
    have HXr := hid hxr
    by_cases hm4 : minL (l.take k) ≤ 400
    · have hmd : decide (((minL (l.take k) : Nat) : Int) ≤ 400) = true := by simp; omega
      have hmd2 : decide ((400 : Int) < ((minL (l.take k) : Nat) : Int)) = false := by simp; omega
      by_cases hlt : k < L
      · obtain ⟨x, hx⟩ := rat_lt HL.out hlt
        obtain ⟨b, off, Ai, ni, ci, rfl, q0, q1, q2, q3, q4, q5, q6, q7, h1⟩ := (HK.out.ext hxr).get hx
        have HC : Hid (Calls Tryz.prog 44 #[x.d.val Ai ni ci, .int .i64 400] wr fun r w' => r = .returned (.int .i64 ((min x.nodes 401 : Nat) : Int)) ∧ Ext wr w') := upto_any x Ai ni ci 400 wr h1 (by omega)
        have HT := hid (minL_take hx)
        have hb2 : minL (l.take k) + min x.nodes 401 ≤ 801 := by omega
        clear hx hxr h1
        unfold Nd.val at HC
        generalize minL (l.take k) = m at *
        generalize min x.nodes 401 = mx at *
        go_wp2_with (go_at_call 44; (with_reducible refine HC.out.mono ?_); rintro _ w3 ⟨rfl, hx3⟩)
        go_roundw
        case rel => exact ⟨k + 1, by omega, by go_num, by rw [HT.out]; go_num, by rw [HT.out]; exact hb2, HXr.out.trans hx3⟩
        case measure => simp [intOf]; omega
      · obtain rfl : k = L := by omega
        rw [List.take_of_length_le (Nat.le_of_eq HL.out)] at hm4 hmd hmd2 hm ⊢
        have HM := hid hm4
        clear hm
        go_wp2_with fail
        clear hxr
        go_loopw [6] (fun iv wr => ∃ (j : Nat), j ≤ k ∧ iv = .int .i64 j ∧ (l.take j).any (fun e => decide (50 < e.depth)) = false ∧ Ext w2 wr) (fun i _ => k - (intOf i).toNat)
        case atStart => exact ⟨0, Nat.zero_le _, rfl, rfl, HXr.out⟩
        case round =>
          obtain ⟨j, hjn, rfl, hd, hxq⟩ := hrel
          have HXq := hid hxq
          have HD := hid hd
          clear hd
          by_cases hlt2 : j < k
          · obtain ⟨x, hx⟩ := rat_lt HL.out hlt2
            obtain ⟨b, off, Ai, ni, ci, rfl, q0, q1, q2, q3, q4, q5, q6, q7, h1⟩ := (HK.out.ext hxq).get hx
            have hnx : x.nodes ≤ 400 := by have := nodesL_mem (List.mem_of_getElem? hx); rw [← minL_eq HM.out] at this; omega
            have HC := hid (rdepth_any x Ai ni ci wr h1 (by omega))
            have HE := hid hx
            have hdx : x.depth ≤ 400 := Nat.le_trans ((depthL_le [x]).2 x (by simp)) hnx
            clear hx hxq h1 hnx
            unfold Nd.val at HC
            by_cases hd : 50 < x.depth
            · have hdd : decide ((50 : Int) < (x.depth : Int)) = true := by simp; omega
              have hV := HV.out
              rw [large_of_deep HE.out hd, if_pos rfl] at hV
              subst hV
              clear hd
              generalize x.depth = dx at *
              go_wp2_with (go_at_call 31; (with_reducible refine HC.out.mono ?_); rintro _ w3 ⟨rfl, hx3⟩)
              go_ret
              exact ⟨rfl, HX.out.trans (HXq.out.trans hx3)⟩
            · have hdd : decide ((50 : Int) < (x.depth : Int)) = false := by simp; omega
              have HP : Hid ((l.take (j + 1)).any (fun e => decide (50 < e.depth)) = false) := by unfold Hid; rw [takeA HE.out, List.any_append, HD.out]; simpa using hd
              clear hd
              generalize x.depth = dx at *
              go_wp2_with (go_at_call 31; (with_reducible refine HC.out.mono ?_); rintro _ w3 ⟨rfl, hx3⟩)
              go_roundw
              case rel => exact ⟨j + 1, by omega, by go_num, HP.out, HXq.out.trans hx3⟩
              case measure => simp [intOf]; omega
          · obtain rfl : j = k := by omega
            rw [List.take_of_length_le (Nat.le_of_eq HL.out)] at HD
            have hLg := large_no HM.out HD.out
            rw [hLg] at HV
            simp only [Bool.false_eq_true, if_false] at HV
            replace HB := hid (HB.out.ext HXq.out)
            replace HX := hid (HX.out.trans HXq.out)
            clear hxq
            cases hF : s.formed
            · rw [hF] at H3 HV
              simp only [if_true] at HV
              have hV := HV.out
              subst hV
              clear H4 HS HV HF hLg hF
              go_wp2_with (first | (refine wpList_load_blk rfl 38 (.tmp 1) rfl g rfl 38 _ _ HB.out Tryz.underlying38 rfl (by kernel_rfl) ?_) | (go_at_call 45; (with_reducible refine (H3.out _ HX.out).mono ?_); rintro _ w4 ⟨rfl, hx4⟩))
              go_ret
              exact ⟨rfl, HX.out.trans hx4⟩
            · have hFi := HF.out hLg hF
              have hz := HS.out hF hFi
              have H5 := hid (fun W (hW : Ext w W) => H4.out W hW hF hFi)
              rw [hF] at H3 HV
              simp only [Bool.true_eq_false, if_false] at HV
              clear H4 HS HF hLg hF hFi
              generalize s.body = TB at *
              by_cases hs : 16384 < TB.size
              · rw [if_pos hs] at HV
                have hV := HV.out
                subst hV
                have hd : decide ((16384 : Int) < (TB.size : Int)) = true := by simp; omega
                clear HV
                go_wp2_with (first | (refine wpList_load_blk rfl 38 (.tmp 1) rfl g rfl 38 _ _ HB.out Tryz.underlying38 rfl (by kernel_rfl) ?_) | (refine wpList_load_blk rfl 38 (.tmp 1) rfl g rfl 38 _ _ (HB.out.ext hx4) Tryz.underlying38 rfl (by kernel_rfl) ?_) | (go_at_call 45; (with_reducible refine (H3.out _ HX.out).mono ?_); rintro _ w4 ⟨rfl, hx4⟩) | (go_at_call 46; (with_reducible refine (H5.out _ (HX.out.trans hx4)).mono ?_); rintro _ w5 ⟨rfl, hx5⟩))
                go_ret
                exact ⟨rfl, HX.out.trans (hx4.trans hx5)⟩
              · rw [if_neg hs] at HV
                have hV := HV.out
                subst hV
                have hd : decide ((16384 : Int) < (TB.size : Int)) = false := by simp; omega
                clear HV
                go_wp2_with (first | (refine wpList_load_blk rfl 38 (.tmp 1) rfl g rfl 38 _ _ HB.out Tryz.underlying38 rfl (by kernel_rfl) ?_) | (refine wpList_load_blk rfl 38 (.tmp 1) rfl g rfl 38 _ _ (HB.out.ext hx4) Tryz.underlying38 rfl (by kernel_rfl) ?_) | (go_at_call 45; (with_reducible refine (H3.out _ HX.out).mono ?_); rintro _ w4 ⟨rfl, hx4⟩) | (go_at_call 46; (with_reducible refine (H5.out _ (HX.out.trans hx4)).mono ?_); rintro _ w5 ⟨rfl, hx5⟩))
                go_ret
                exact ⟨rfl, HX.out.trans (hx4.trans hx5)⟩
    · have hmd : decide (((minL (l.take k) : Nat) : Int) ≤ 400) = false := by simp; omega
      have hmd2 : decide ((400 : Int) < ((minL (l.take k) : Nat) : Int)) = true := by simp; omega
      have hV := HV.out
      rw [large_of_min (k := k) (by omega), if_pos rfl] at hV
      subst hV
      generalize minL (l.take k) = m at *
      clear HV HF
      by_cases hlt : k < L
      all_goals
        go_wp2_with fail
        go_ret
        exact ⟨rfl, HX.out.trans HXr.out⟩
theorem rstext_any (s : St) (a : SA) (w : World) (hv : StV w s a) (hb : s.bulk ≤ 1048576) :
    Calls Tryz.prog 20 #[s.val a] w fun r w' => r = .returned (.tuple #[.string (textS s), .int .i64 (validS s)]) ∧ Ext w w' := by
  have H1 := hid (fun W (hW : Ext w W) => rsvalid_any s a W (hv.ext hW) hb)
  have H4 := hid (fun W (hW : Ext w W) (h : validS s = 0) => rbody_any s a W (hv.ext hW) (valid_formed h).1 (valid_formed h).2 hb)
  have HT : Hid (textS s = if validS s = 0 then s.body else ⟨#[]⟩) := rfl
  have HB := hid (Blk.of_new w 38 (s.cells a))
  have HX := hid ((Ext.refl w).alloc (.cells (s.cells a).toArray 38))
  clear hv hb
  unfold St.val at *
  unfold St.cells Sl.v at *
  generalize textS s = T at *
  generalize s.body = TB at *
  generalize validS s = V at *
  go_enter Tryz.func20, Tryz.ntmps20
  go_upto_region 1 with fail
  generalize w.alloc (.cells _ 38) = w1 at *
  generalize w.heap.size = g at *
  by_cases h : V = 0
  · subst h
    have hT := HT.out
    simp only [if_true] at hT
    subst hT
    have H5 := hid (fun W (hW : Ext w W) => H4.out W hW rfl)
    clear H4 HT
    go_wp2_with (first | (refine wpList_load_blk rfl 38 (.tmp 1) rfl g rfl 38 _ _ HB.out Tryz.underlying38 rfl (by kernel_rfl) ?_) | (refine wpList_load_blk rfl 38 (.tmp 1) rfl g rfl 38 _ _ (HB.out.ext hx2) Tryz.underlying38 rfl (by kernel_rfl) ?_) | (go_at_call 15; (with_reducible refine (H1.out _ HX.out).mono ?_); rintro _ w2 ⟨rfl, hx2⟩) | (go_at_call 46; (with_reducible refine (H5.out _ (HX.out.trans hx2)).mono ?_); rintro _ w5 ⟨rfl, hx5⟩))
    go_ret2
    exact ⟨rfl, HX.out.trans (hx2.trans hx5)⟩
  · have hT := HT.out
    rw [if_neg h] at hT
    subst hT
    have hd : (V != 0) = true := by simpa using h
    clear H4 HT h
    go_wp2_with (first | (refine wpList_load_blk rfl 38 (.tmp 1) rfl g rfl 38 _ _ HB.out Tryz.underlying38 rfl (by kernel_rfl) ?_) | (go_at_call 15; (with_reducible refine (H1.out _ HX.out).mono ?_); rintro _ w2 ⟨rfl, hx2⟩))
    go_ret2
    exact ⟨rfl, HX.out.trans hx2⟩
end Go.Proofs.YtcdnodjcnofogaaGreatDoor
