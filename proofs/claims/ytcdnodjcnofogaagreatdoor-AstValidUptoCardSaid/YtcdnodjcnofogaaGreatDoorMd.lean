/-
  Walks: the reference's texts of definitions. · The canonical text of a statement, part by part; no program in sight. · Walks: the text of a query, and of a statement. · Walks: the reference's texts of queries.
-/
import Derived.Test.YtcdnodjcnofogaaGreatDoorMb
import Derived.Test.YtcdnodjcnofogaaGreatDoorMc
import Derived.Test.YtcdnodjcnofogaaGreatDoorFmt
namespace Go.Proofs.YtcdnodjcnofogaaGreatDoor
open Go.RowKit
set_option linter.unusedVariables false
set_option linter.unusedSimpArgs false
set_option maxHeartbeats 4000000
set_option maxRecDepth 100000

theorem cma_take {l : List ByteArray} {k : Nat} {x : ByteArray} (h : l[k]? = some x) (h0 : 0 < k) : cma (l.take (k + 1)) = cma (l.take k) ++ comS ++ x := by
  rw [takeA h]
  refine cma_step _ ?_ x
  intro he
  have := (List.getElem?_eq_some_iff.1 h).1
  have hl : (l.take k).length = k := by rw [List.length_take]; omega
  rw [he] at hl
  simp at hl
  omega
theorem cma_first {l : List ByteArray} {x : ByteArray} (h : l[0]? = some x) : cma (l.take (0 + 1)) = x := by
  rw [takeA h]; rfl
theorem rcomma_any (l : List ByteArray) (A : Option Addr) (n c : Nat) (w : World) (hl : l.length = n) (hk : StrsAt w A l) (hz : sumS l ≤ 1000000000) :
    Calls Tryz.prog 97 #[.slice A n c] w fun r w' => r = .returned (.string (cma l)) ∧ Ext w w' := by
  have HL := hid hl
  have HK := hid hk
  have HZ := hid hz
  have hn : n ≤ 1000000000 := by have := sumS_len l; omega
  clear hl hk hz
  go_enter Tryz.func97, Tryz.ntmps97
  go_wp2_with fail
  go_loopw [3, 4] (fun ov iv wr => ∃ (k : Nat), k ≤ n ∧ iv = .int .i64 k ∧ ov = .string (cma (l.take k)) ∧ Ext w wr) (fun _ i _ => n - (intOf i).toNat)
  case atStart => exact ⟨0, Nat.zero_le _, rfl, rfl, Ext.refl w⟩
  case round =>
    obtain ⟨k, hkn, rfl, rfl, hxr⟩ := hrel
    have HXr := hid hxr
    by_cases hlt : k < n
    · obtain ⟨x, hx⟩ := rat_lt HL.out hlt
      obtain ⟨hc, b, off, rfl, q0⟩ := (HK.out.ext hxr) k x hx
      have hs1 : x.size ≤ 1000000000 := by have := sumS_mem (List.mem_of_getElem? hx); have := HZ.out; omega
      have hs2 : (cma (l.take k)).size ≤ 1000000000 := Nat.le_trans (cma_size _) (Nat.le_trans (sumS_take l k) HZ.out)
      by_cases h0 : k = 0
      · subst h0
        have hd : decide ((0 : Int) < ((0 : Nat) : Int)) = false := by decide
        have HT : Hid (cma (l.take (0 + 1)) = cma (l.take 0) ++ x) := by
          unfold Hid
          rw [cma_first hx]
          apply N_inj
          show _ = (List.map _ (([] : List UInt8) ++ x.data.toList))
          rfl
        clear hx hxr
        generalize cma (l.take 0) = T at *
        rw [Nat.add_zero] at q0
        go_wp2_with fail
        go_roundw
        case rel => exact ⟨0 + 1, by omega, by go_num, by rw [HT.out], HXr.out⟩
        case measure => simp [intOf]; omega
      · have hd : 0 < k := by omega
        have HT := hid (cma_take hx hd)
        unfold comS at HT
        clear hx hxr h0
        generalize cma (l.take k) = T at *
        go_wp2_with fail
        go_roundw
        case rel => exact ⟨k + 1, by omega, by go_num, by rw [HT.out], HXr.out⟩
        case measure => simp [intOf]; omega
    · obtain rfl : k = n := by omega
      rw [List.take_of_length_le (Nat.le_of_eq HL.out)]
      go_wp2_with fail
      go_ret
      exact ⟨rfl, HXr.out⟩
theorem rcomma_own (l : List ByteArray) (v : Value) (B n : Nat) (w : World) (h : w.ownsRow B 9 1 v n (strV l)) (hz : sumS l ≤ 1000000000) :
    Calls Tryz.prog 97 #[v] w fun r w' => r = .returned (.string (cma l)) ∧ Ext w w' := by
  obtain ⟨A, c, rfl, hk, hl⟩ := own_strs h fun s hs => by have := sumS_mem hs; omega
  exact rcomma_any l A n c w hl hk hz
theorem rexprs_any (l : List Ex) (A : Option Addr) (n c : Nat) (w : World) (hl : l.length = n) (hk : KidsAt w A l) (hf : l.all Ex.formed = true) (hs : sizeL l ≤ 1000) :
    Calls Tryz.prog 96 #[.slice A n c] w fun r w' => r = .returned (.string (exsT l)) ∧ Ext w w' := by
  obtain ⟨i0, hi, hz0, hz1, hz2⟩ := info_parts info_str
  have HL := hid hl
  have HK := hid hk
  have HF := hid hf
  have HS := hid hs
  have hn : n ≤ 1000 := by have h : l.length ≤ sizeL l := by rw [← sumB_ex]; exact sumB_len (fun a => size_pos a) l
                           omega
  have HZ : Hid (sumS (l.map fun e => e.tx 1) ≤ 1000000000) := Nat.le_trans (exs_size hf) (by omega)
  clear hl hk hf hs
  unfold exsT
  go_enter Tryz.func96, Tryz.ntmps96
  go_wp2_with fail
  have HO0 := hid (own_room w 9 1 0 0 0 w.heap.size #[] (Nat.le_refl _) rfl (by decide))
  go_loopw [3, 4] (fun nv iv wr => ∃ (k : Nat), k ≤ n ∧ iv = .int .i64 k ∧ wr.ownsRow w.heap.size 9 1 nv k (strV ((l.take k).map fun e => e.tx 1)) ∧ Ext w wr) (fun _ i _ => n - (intOf i).toNat)
  case atStart => exact ⟨0, Nat.zero_le _, rfl, HO0.out, (Ext.refl w).alloc _⟩
  case round =>
    obtain ⟨k, hkn, rfl, hown, hxr⟩ := hrel
    have HO := hid hown
    have HXr := hid hxr
    clear hown
    by_cases hlt : k < n
    · obtain ⟨x, hx⟩ := rat_lt HL.out hlt
      obtain ⟨b, off, Ai, ni, ci, rfl, q0, q1, q2, q3, q4, q5, q6, q7, h1⟩ := (HK.out.ext hxr).get hx
      have HT : Hid ((l.take (k + 1)).map (fun e => e.tx 1) = (l.take k).map (fun e => e.tx 1) ++ [x.tx 1]) := by unfold Hid; rw [takeA hx, List.map_append]; rfl
      have HE := hid (rprint_any x 1 Ai ni ci wr h1 (List.all_eq_true.1 HF.out x (List.mem_of_getElem? hx)) (Nat.le_trans (sizeL_mem (List.mem_of_getElem? hx)) HS.out))
      clear hx hxr h1
      unfold Nd.val at HE
      generalize x.tx 1 = TX at *
      generalize x.d = d at *
      obtain ⟨op, tb, nm, ix, vk, vi, vt⟩ := d
      simp only at *
      go_wp2_with (first | (go_at_call 50; (with_reducible refine HE.out.mono ?_); rintro _ w2 ⟨rfl, hx2⟩) | (at_builtin; refine wpList_append_any _ rfl (.tmp 12) (.tmp 18) 65 rfl w.heap.size 9 i0 _ 1 16 Tryz.underlying65 hi hz0 hz1 hz2 rfl (by decide) _ k _ rfl ((ownN_ext HO.out hx2).alloc _) _ _ 1 1 [.string TX] rfl (reads_new1 w2 _ _) (by simp [Value.oneCell']) (by unfold maxLen; omega) (by omega) (Nat.le_trans (HXr.out.trans hx2).size (by simp)) ?_; intro v1 w5 hown5 hgr5 hblk5; have HO5 := hid hown5; have HG5 := hid hgr5; clear hown5 hgr5 hblk5))
      go_roundw
      case rel =>
        have hge := own_atN HO.out
        refine ⟨k + 1, by omega, by go_num, ?_, ((HXr.out.trans hx2).alloc _).grown HG5.out fun q hq => hge q hq⟩
        rw [HT.out, strV_app]
        exact HO5.out
      case measure => simp [intOf]; omega
    · obtain rfl : k = n := by omega
      rw [List.take_of_length_le (Nat.le_of_eq HL.out)] at HO
      have HJ := hid (rcomma_own _ _ _ _ wr HO.out HZ.out)
      go_wp2_with (go_at_call 97; refine HJ.out.mono ?_; rintro _ w2 ⟨rfl, hx2⟩)
      go_ret
      exact ⟨rfl, HXr.out.trans hx2⟩
theorem cd_num {x : Cd} (h : x.ok = true) : -9223372036854775808 < x.lo ∧ -9223372036854775808 < x.hi ∧ -9223372036854775808 < x.mx := by
  unfold Cd.ok at h
  split at h <;> simp only [Bool.and_eq_true, inB_iff, beq_iff_eq] at h <;> omega
set_option maxHeartbeats 5000000 in
theorem relements_any (s : St) (a : SA) (w : World) (hv : StV w s a) (hok : s.defOk = true) (hb : s.cols.length + s.keys.length + s.frs.length + s.chk.length ≤ 1048576) (hz : sumS s.elts ≤ 400000000) (hs : sizeL s.chk ≤ 1000) :
    Calls Tryz.prog 95 #[.agg #[a.cols.v, a.keys.v, a.frs.v, a.chk.v]] w fun r w' => r = .returned (.string (cma s.elts)) ∧ Ext w w' := by
  obtain ⟨i0, hi, hz0, hz1, hz2⟩ := info_parts info_str
  have HX := hid ((Ext.refl w).alloc (.cells #[.slice a.cols.A a.cols.n a.cols.c, .slice a.keys.A a.keys.n a.keys.c, .slice a.frs.A a.frs.n a.frs.c, .slice a.chk.A a.chk.n a.chk.c] 27))
  have HL1 := hid hv.cols.1
  have HL2 := hid hv.keys.1
  have HL3 := hid hv.frs.1
  have HL4 := hid hv.chk.1
  have HK1 := hid (hv.cols.2.2.ext HX.out)
  have HK2 := hid (hv.keys.2.2.ext HX.out)
  have HK3 := hid (hv.frs.2.2.ext HX.out)
  have HK4 := hid (hv.chk.2.2.ext HX.out)
  have HS4 := hid hs
  have HZ := hid hz
  rw [hv.cols.1, hv.keys.1, hv.frs.1, hv.chk.1] at hb
  unfold St.defOk at hok
  simp only [Bool.and_eq_true] at hok
  have HOK1 := hid hok.1.1.1.2
  have HOK3 := hid hok.1.2
  have HOK4 := hid hok.2
  have HMK : Hid (∀ x ∈ s.keys, keyT x ∈ s.elts) := fun x hx => by unfold St.elts; simp only [List.mem_append]; exact .inl (.inl (.inr (List.mem_map_of_mem hx)))
  have HMR : Hid (∀ x ∈ s.frs, Rf.tx x ∈ s.elts) := fun x hx => by unfold St.elts; simp only [List.mem_append]; exact .inl (.inr (List.mem_map_of_mem hx))
  have HB := hid (Blk.of_new w 27 [.slice a.cols.A a.cols.n a.cols.c, .slice a.keys.A a.keys.n a.keys.c, .slice a.frs.A a.frs.n a.frs.c, .slice a.chk.A a.chk.n a.chk.c])
  clear hv hok hz hs
  unfold Sl.v
  generalize a.cols.A = cA at *
  generalize a.keys.A = kA at *
  generalize a.frs.A = fA at *
  generalize a.chk.A = xA at *
  go_enter Tryz.func95, Tryz.ntmps95
  go_wp2_with fail
  have HSz : Hid ((w.alloc (.cells #[.slice cA a.cols.n a.cols.c, .slice kA a.keys.n a.keys.c, .slice fA a.frs.n a.frs.c, .slice xA a.chk.n a.chk.c] 27)).heap.size = w.heap.size + 1) := by unfold Hid; simp
  generalize w.alloc (.cells _ 27) = w1 at *
  have HO0 := hid (own_room w1 9 1 0 0 0 w1.heap.size #[] (Nat.le_refl _) rfl (by decide))
  go_loopw [3, 4] (fun nv iv wr => ∃ (k : Nat), k ≤ a.cols.n ∧ iv = .int .i64 k ∧ wr.ownsRow w1.heap.size 9 1 nv (k) (strV ((s.cols.take k).map Cd.tx)) ∧ Ext w1 wr) (fun _ i _ => a.cols.n - (intOf i).toNat)
  case atStart => exact ⟨0, Nat.zero_le _, rfl, by rw [← HSz.out]; exact HO0.out, (Ext.refl w1).alloc _⟩
  case round =>
    obtain ⟨k, hkn, rfl, hown, hxr⟩ := hrel
    have HO := hid hown
    have HXr := hid hxr
    clear hown
    by_cases hlt : k < a.cols.n
    · obtain ⟨x, hx⟩ := rat_lt HL1.out hlt
      obtain ⟨⟨hc1, hc2, hc3, hc4, hc5⟩, b, off, hA, q0, q1, q2, q3, q4, q5⟩ := (HK1.out.ext hxr) k x hx
      subst hA
      have HT : Hid ((s.cols.take (k + 1)).map Cd.tx = ((s.cols.take k).map Cd.tx) ++ [Cd.tx x]) := by unfold Hid; rw [takeA hx, List.map_append]; rfl
      have hok := List.all_eq_true.1 HOK1.out x (List.mem_of_getElem? hx)
      have hnm : x.nm.size ≤ 1000 := Nat.le_trans (cd_nm hok) (by omega)
      have hty := cd_ty hok
      have hlo := Nat.le_trans (itoB_size x.lo hc3.1 hc3.2) (show 21 ≤ 1000 by omega)
      have hhi := Nat.le_trans (itoB_size x.hi hc4.1 hc4.2) (show 21 ≤ 1000 by omega)
      have hmx := Nat.le_trans (itoB_size x.mx hc5.1 hc5.2) (show 21 ≤ 1000 by omega)
      have hnb := cd_num hok
      have HN1 := hid (fun W => rnum_any x.lo W hnb.1 hc3.2)
      have HN2 := hid (fun W => rnum_any x.hi W hnb.2.1 hc4.2)
      have HN3 := hid (fun W => rnum_any x.mx W hnb.2.2 hc5.2)
      have HTx : Hid (Cd.tx x = if x.nn = true then (if x.ty = 1 then x.nm ++ ⟨#[32, 73, 78, 84, 69, 71, 69, 82, 40]⟩ ++ itoB x.lo ++ ⟨#[44, 32]⟩ ++ itoB x.hi ++ ⟨#[41]⟩ else x.nm ++ ⟨#[32, 84, 69, 88, 84, 40]⟩ ++ itoB x.mx ++ ⟨#[41]⟩) ++ ⟨#[32, 78, 79, 84, 32, 78, 85, 76, 76]⟩ else (if x.ty = 1 then x.nm ++ ⟨#[32, 73, 78, 84, 69, 71, 69, 82, 40]⟩ ++ itoB x.lo ++ ⟨#[44, 32]⟩ ++ itoB x.hi ++ ⟨#[41]⟩ else x.nm ++ ⟨#[32, 84, 69, 88, 84, 40]⟩ ++ itoB x.mx ++ ⟨#[41]⟩)) := rfl
      clear hx hxr hc1 hc2 hc3 hc4 hc5 hok hnb
      have cb := (HB.out.ext HXr.out).cell 0
      simp only [List.getElem?_cons_succ, List.getElem?_cons_zero] at cb
      generalize Cd.tx x = TX at *
      generalize itoB x.lo = T1 at *
      generalize itoB x.hi = T2 at *
      generalize itoB x.mx = T3 at *
      obtain ⟨nm, ty, lo, hi', mx, nn⟩ := x
      simp only at *
      have HB2 := hid (Blk.of_new wr 63 [.string nm, .int .i64 ty, .int .i64 lo, .int .i64 hi', .int .i64 mx, .bool nn])
      have HX2 := hid ((Ext.refl wr).alloc (.cells #[.string nm, .int .i64 ty, .int .i64 lo, .int .i64 hi', .int .i64 mx, .bool nn] 63))
      go_wp2_with fail
      generalize wr.alloc (.cells _ 63) = w2 at *
      generalize wr.heap.size = g2 at *
      have H3 : Hid (∀ z : Later w2, Calls Tryz.prog 108 _ z.now _) := fun z => HN3.out z.now
      have l0 := Later.keep (HB2.out.cell_some (i := 0) rfl)
      have l1 := Later.keep (HB2.out.cell_some (i := 1) rfl)
      have l2 := Later.keep (HB2.out.cell_some (i := 2) rfl)
      have l3 := Later.keep (HB2.out.cell_some (i := 3) rfl)
      have l4 := Later.keep (HB2.out.cell_some (i := 4) rfl)
      have l5 := Later.keep (HB2.out.cell_some (i := 5) rfl)
      refine wp_region_later (by kernel_rfl) (by kernel_rfl) ?_
      repeat (go_big_quiet_step ((go_at_call 108; with_reducible exact later_of (H3.out _))))
      refine wpQuiet_nil ?_
      intro w3 hw9
      have hx9 := later_out hw9
      clear hw9
      clear l0 l1 l2 l3 l4 l5 H3 HN3 q0 q1 q2 q3 q4 q5 cb
      replace HB2 := hid (HB2.out.ext hx9)
      replace HX2 := hid (HX2.out.trans hx9)
      clear hx9
      have hcz : (nm ++ ⟨#[32, 84, 69, 88, 84, 40]⟩ ++ T3 ++ ⟨#[41]⟩).size ≤ 10000 := by simp only [ByteArray.size_append]; show nm.size + 6 + T3.size + 1 ≤ _; omega
      generalize nm ++ ⟨#[32, 84, 69, 88, 84, 40]⟩ ++ T3 ++ ⟨#[41]⟩ = TC at *
      rcases hty with rfl | rfl
      · cases nn
        · have hT := HTx.out
          clear HTx
          simp only [if_true, Bool.false_eq_true, if_false, (by decide : ¬ (2 : Int) = 1)] at hT
          rw [hT] at HT
          clear hT
          have e0 := (HB2.out).cell 0
          have e1 := (HB2.out).cell 1
          have e2 := (HB2.out).cell 2
          have e3 := (HB2.out).cell 3
          have e4 := (HB2.out).cell 4
          have e5 := (HB2.out).cell 5
          simp only [List.getElem?_cons_succ, List.getElem?_cons_zero] at e0 e1 e2 e3 e4 e5
          go_wp2_with fail
          clear e0 e1 e2 e3 e4 e5
          have H1 : Hid (∀ z : Later w3, Calls Tryz.prog 108 _ z.now _) := fun z => HN1.out z.now
          have H2 : Hid (∀ z : Later w3, Calls Tryz.prog 108 _ z.now _) := fun z => HN2.out z.now
          have l0 := Later.keep (HB2.out.cell_some (i := 0) rfl)
          have l1 := Later.keep (HB2.out.cell_some (i := 1) rfl)
          have l2 := Later.keep (HB2.out.cell_some (i := 2) rfl)
          have l3 := Later.keep (HB2.out.cell_some (i := 3) rfl)
          have l4 := Later.keep (HB2.out.cell_some (i := 4) rfl)
          have l5 := Later.keep (HB2.out.cell_some (i := 5) rfl)
          refine wp_region_later (by kernel_rfl) (by kernel_rfl) ?_
          repeat (go_big_quiet_step (first | (go_at_call 108; with_reducible exact later_of (H1.out _)) | (go_at_call 108; with_reducible exact later_of (H2.out _))))
          refine wpQuiet_nil ?_
          intro w4 hw9
          have hx9 := later_out hw9
          clear hw9
          have hbz : (nm ++ ⟨#[32, 73, 78, 84, 69, 71, 69, 82, 40]⟩ ++ T1 ++ ⟨#[44, 32]⟩ ++ T2 ++ ⟨#[41]⟩).size ≤ 10000 := by simp only [ByteArray.size_append]; show nm.size + 9 + T1.size + 2 + T2.size + 1 ≤ _; omega
          generalize nm ++ ⟨#[32, 73, 78, 84, 69, 71, 69, 82, 40]⟩ ++ T1 ++ ⟨#[44, 32]⟩ ++ T2 ++ ⟨#[41]⟩ = TB at *
          clear l0 l1 l2 l3 l4 l5 H1 H2
          replace HB2 := hid (HB2.out.ext hx9)
          replace HX2 := hid (HX2.out.trans hx9)
          clear hx9
          have e0 := (HB2.out).cell 0
          have e1 := (HB2.out).cell 1
          have e2 := (HB2.out).cell 2
          have e3 := (HB2.out).cell 3
          have e4 := (HB2.out).cell 4
          have e5 := (HB2.out).cell 5
          simp only [List.getElem?_cons_succ, List.getElem?_cons_zero] at e0 e1 e2 e3 e4 e5
          have HO1 := hid ((ownN_ext HO.out HX2.out).alloc (.cells #[.string TB] 9))
          have HRd := hid (reads_new1 w4 (.string TB) 9)
          go_wp2_with (at_builtin; refine wpList_append_any _ rfl (.tmp 52) (.tmp 54) 65 rfl w1.heap.size 9 i0 _ 1 16 Tryz.underlying65 hi hz0 hz1 hz2 rfl (by decide) _ (k) _ rfl HO1.out _ _ 1 1 [.string TB] rfl HRd.out (by simp [Value.oneCell']) (by unfold maxLen; omega) (by omega) (Nat.le_trans (HXr.out.trans HX2.out).size (by simp)) ?_; intro v1 w5 hown5 hgr5 hblk5; have HO5 := hid hown5; have HG5 := hid hgr5; clear hown5 hgr5 hblk5)
          go_roundw
          case rel =>
            have hge := own_atN HO.out
            refine ⟨k + 1, by omega, by go_num, ?_, ((HXr.out.trans HX2.out).alloc _).grown HG5.out fun q hq => hge q hq⟩
            rw [HT.out, strV_app]
            exact HO5.out
          case measure => simp [intOf]; omega
        · have hT := HTx.out
          clear HTx
          simp only [if_true, Bool.false_eq_true, if_false, (by decide : ¬ (2 : Int) = 1)] at hT
          rw [hT] at HT
          clear hT
          have e0 := (HB2.out).cell 0
          have e1 := (HB2.out).cell 1
          have e2 := (HB2.out).cell 2
          have e3 := (HB2.out).cell 3
          have e4 := (HB2.out).cell 4
          have e5 := (HB2.out).cell 5
          simp only [List.getElem?_cons_succ, List.getElem?_cons_zero] at e0 e1 e2 e3 e4 e5
          go_wp2_with fail
          clear e0 e1 e2 e3 e4 e5
          have H1 : Hid (∀ z : Later w3, Calls Tryz.prog 108 _ z.now _) := fun z => HN1.out z.now
          have H2 : Hid (∀ z : Later w3, Calls Tryz.prog 108 _ z.now _) := fun z => HN2.out z.now
          have l0 := Later.keep (HB2.out.cell_some (i := 0) rfl)
          have l1 := Later.keep (HB2.out.cell_some (i := 1) rfl)
          have l2 := Later.keep (HB2.out.cell_some (i := 2) rfl)
          have l3 := Later.keep (HB2.out.cell_some (i := 3) rfl)
          have l4 := Later.keep (HB2.out.cell_some (i := 4) rfl)
          have l5 := Later.keep (HB2.out.cell_some (i := 5) rfl)
          refine wp_region_later (by kernel_rfl) (by kernel_rfl) ?_
          repeat (go_big_quiet_step (first | (go_at_call 108; with_reducible exact later_of (H1.out _)) | (go_at_call 108; with_reducible exact later_of (H2.out _))))
          refine wpQuiet_nil ?_
          intro w4 hw9
          have hx9 := later_out hw9
          clear hw9
          have hbz : (nm ++ ⟨#[32, 73, 78, 84, 69, 71, 69, 82, 40]⟩ ++ T1 ++ ⟨#[44, 32]⟩ ++ T2 ++ ⟨#[41]⟩).size ≤ 10000 := by simp only [ByteArray.size_append]; show nm.size + 9 + T1.size + 2 + T2.size + 1 ≤ _; omega
          generalize nm ++ ⟨#[32, 73, 78, 84, 69, 71, 69, 82, 40]⟩ ++ T1 ++ ⟨#[44, 32]⟩ ++ T2 ++ ⟨#[41]⟩ = TB at *
          clear l0 l1 l2 l3 l4 l5 H1 H2
          replace HB2 := hid (HB2.out.ext hx9)
          replace HX2 := hid (HX2.out.trans hx9)
          clear hx9
          have e0 := (HB2.out).cell 0
          have e1 := (HB2.out).cell 1
          have e2 := (HB2.out).cell 2
          have e3 := (HB2.out).cell 3
          have e4 := (HB2.out).cell 4
          have e5 := (HB2.out).cell 5
          simp only [List.getElem?_cons_succ, List.getElem?_cons_zero] at e0 e1 e2 e3 e4 e5
          have HO1 := hid ((ownN_ext HO.out HX2.out).alloc (.cells #[.string (TB ++ ⟨#[32, 78, 79, 84, 32, 78, 85, 76, 76]⟩)] 9))
          have HRd := hid (reads_new1 w4 (.string (TB ++ ⟨#[32, 78, 79, 84, 32, 78, 85, 76, 76]⟩)) 9)
          go_wp2_with (at_builtin; refine wpList_append_any _ rfl (.tmp 52) (.tmp 54) 65 rfl w1.heap.size 9 i0 _ 1 16 Tryz.underlying65 hi hz0 hz1 hz2 rfl (by decide) _ (k) _ rfl HO1.out _ _ 1 1 [.string (TB ++ ⟨#[32, 78, 79, 84, 32, 78, 85, 76, 76]⟩)] rfl HRd.out (by simp [Value.oneCell']) (by unfold maxLen; omega) (by omega) (Nat.le_trans (HXr.out.trans HX2.out).size (by simp)) ?_; intro v1 w5 hown5 hgr5 hblk5; have HO5 := hid hown5; have HG5 := hid hgr5; clear hown5 hgr5 hblk5)
          go_roundw
          case rel =>
            have hge := own_atN HO.out
            refine ⟨k + 1, by omega, by go_num, ?_, ((HXr.out.trans HX2.out).alloc _).grown HG5.out fun q hq => hge q hq⟩
            rw [HT.out, strV_app]
            exact HO5.out
          case measure => simp [intOf]; omega
      · cases nn
        · have hT := HTx.out
          clear HTx
          simp only [if_true, Bool.false_eq_true, if_false, (by decide : ¬ (2 : Int) = 1)] at hT
          rw [hT] at HT
          clear hT
          have e0 := (HB2.out).cell 0
          have e1 := (HB2.out).cell 1
          have e2 := (HB2.out).cell 2
          have e3 := (HB2.out).cell 3
          have e4 := (HB2.out).cell 4
          have e5 := (HB2.out).cell 5
          simp only [List.getElem?_cons_succ, List.getElem?_cons_zero] at e0 e1 e2 e3 e4 e5
          have HO1 := hid ((ownN_ext HO.out HX2.out).alloc (.cells #[.string TC] 9))
          have HRd := hid (reads_new1 w3 (.string TC) 9)
          go_wp2_with (at_builtin; refine wpList_append_any _ rfl (.tmp 52) (.tmp 54) 65 rfl w1.heap.size 9 i0 _ 1 16 Tryz.underlying65 hi hz0 hz1 hz2 rfl (by decide) _ (k) _ rfl HO1.out _ _ 1 1 [.string TC] rfl HRd.out (by simp [Value.oneCell']) (by unfold maxLen; omega) (by omega) (Nat.le_trans (HXr.out.trans HX2.out).size (by simp)) ?_; intro v1 w5 hown5 hgr5 hblk5; have HO5 := hid hown5; have HG5 := hid hgr5; clear hown5 hgr5 hblk5)
          go_roundw
          case rel =>
            have hge := own_atN HO.out
            refine ⟨k + 1, by omega, by go_num, ?_, ((HXr.out.trans HX2.out).alloc _).grown HG5.out fun q hq => hge q hq⟩
            rw [HT.out, strV_app]
            exact HO5.out
          case measure => simp [intOf]; omega
        · have hT := HTx.out
          clear HTx
          simp only [if_true, Bool.false_eq_true, if_false, (by decide : ¬ (2 : Int) = 1)] at hT
          rw [hT] at HT
          clear hT
          have e0 := (HB2.out).cell 0
          have e1 := (HB2.out).cell 1
          have e2 := (HB2.out).cell 2
          have e3 := (HB2.out).cell 3
          have e4 := (HB2.out).cell 4
          have e5 := (HB2.out).cell 5
          simp only [List.getElem?_cons_succ, List.getElem?_cons_zero] at e0 e1 e2 e3 e4 e5
          have HO1 := hid ((ownN_ext HO.out HX2.out).alloc (.cells #[.string (TC ++ ⟨#[32, 78, 79, 84, 32, 78, 85, 76, 76]⟩)] 9))
          have HRd := hid (reads_new1 w3 (.string (TC ++ ⟨#[32, 78, 79, 84, 32, 78, 85, 76, 76]⟩)) 9)
          go_wp2_with (at_builtin; refine wpList_append_any _ rfl (.tmp 52) (.tmp 54) 65 rfl w1.heap.size 9 i0 _ 1 16 Tryz.underlying65 hi hz0 hz1 hz2 rfl (by decide) _ (k) _ rfl HO1.out _ _ 1 1 [.string (TC ++ ⟨#[32, 78, 79, 84, 32, 78, 85, 76, 76]⟩)] rfl HRd.out (by simp [Value.oneCell']) (by unfold maxLen; omega) (by omega) (Nat.le_trans (HXr.out.trans HX2.out).size (by simp)) ?_; intro v1 w5 hown5 hgr5 hblk5; have HO5 := hid hown5; have HG5 := hid hgr5; clear hown5 hgr5 hblk5)
          go_roundw
          case rel =>
            have hge := own_atN HO.out
            refine ⟨k + 1, by omega, by go_num, ?_, ((HXr.out.trans HX2.out).alloc _).grown HG5.out fun q hq => hge q hq⟩
            rw [HT.out, strV_app]
            exact HO5.out
          case measure => simp [intOf]; omega
    · have cb := (HB.out.ext HXr.out).cell 0
      simp only [List.getElem?_cons_succ, List.getElem?_cons_zero] at cb
      obtain rfl : k = a.cols.n := by omega
      rw [List.take_of_length_le (Nat.le_of_eq HL1.out)] at HO
      go_wp2_with fail
      clear cb hxr
      have HOp := HO
      have HXp := HXr
      clear HO HXr
      go_loopw [3, 7] (fun nv iv wr => ∃ (k : Nat), k ≤ a.keys.n ∧ iv = .int .i64 k ∧ wr.ownsRow w1.heap.size 9 1 nv (a.cols.n + k) (strV (s.cols.map Cd.tx ++ (s.keys.take k).map keyT)) ∧ Ext w1 wr) (fun _ i _ => a.keys.n - (intOf i).toNat)
      case atStart => exact ⟨0, Nat.zero_le _, rfl, by simpa using HOp.out, HXp.out⟩
      case round =>
        obtain ⟨k, hkn, rfl, hown, hxr⟩ := hrel
        have HO := hid hown
        have HXr := hid hxr
        clear hown
        by_cases hlt : k < a.keys.n
        · obtain ⟨x, hx⟩ := rat_lt HL2.out hlt
          obtain ⟨b, off, Ai, ni, ci, hA, q0, h1, h2, h3⟩ := (HK2.out.ext hxr) k x hx
          have HT : Hid (s.cols.map Cd.tx ++ (s.keys.take (k + 1)).map keyT = (s.cols.map Cd.tx ++ (s.keys.take k).map keyT) ++ [keyT x]) := by unfold Hid; rw [takeA hx, List.map_append]; exact (List.append_assoc _ _ _).symm
          have hsz := sumS_mem (HMK.out x (List.mem_of_getElem? hx))
          have hs2 : sumS x ≤ (cma x).size + 2 := sumS_cma x
          have hkz : (keyT x).size = 8 + (cma x).size + 1 := by unfold keyT; rw [ByteArray.size_append, ByteArray.size_append]; rfl
          have hJz : (cma x).size ≤ 1000000000 := by have := HZ.out; omega
          have HJ := hid (rcomma_any x Ai ni ci wr h1 h3 (by have := HZ.out; omega))
          have HTx : Hid (keyT x = ⟨#[85, 78, 73, 81, 85, 69, 32, 40]⟩ ++ cma x ++ ⟨#[41]⟩) := rfl
          clear hx hxr h1 h2 h3 hsz hs2 hkz
          generalize cma x = T1 at *
          subst hA
          have hT := HTx.out
          clear HTx
          rw [hT] at HT
          clear hT
          have HX2 : Hid (Ext wr wr) := Ext.refl wr
          have cb := (HB.out.ext HXr.out).cell 1
          simp only [List.getElem?_cons_succ, List.getElem?_cons_zero] at cb
          go_wp2_with (first | (go_at_call 97; refine HJ.out.mono ?_; rintro _ w2 ⟨rfl, hx2⟩; replace HX2 : Hid (Ext wr w2) := hx2) | (at_builtin; generalize ⟨#[85, 78, 73, 81, 85, 69, 32, 40]⟩ ++ T1 ++ ⟨#[41]⟩ = TB at *; refine wpList_append_any _ rfl (.tmp 63) (.tmp 72) 65 rfl w1.heap.size 9 i0 _ 1 16 Tryz.underlying65 hi hz0 hz1 hz2 rfl (by decide) _ (a.cols.n + k) _ rfl ((ownN_ext HO.out HX2.out).alloc _) _ _ 1 1 [.string TB] rfl (reads_new1 w2 _ _) (by simp [Value.oneCell']) (by unfold maxLen; omega) (by omega) (Nat.le_trans (HXr.out.trans HX2.out).size (by simp)) ?_; intro v1 w5 hown5 hgr5 hblk5; have HO5 := hid hown5; have HG5 := hid hgr5; clear hown5 hgr5 hblk5))
          go_roundw
          case rel =>
            have hge := own_atN HO.out
            refine ⟨k + 1, by omega, by go_num, ?_, ((HXr.out.trans HX2.out).alloc _).grown HG5.out fun q hq => hge q hq⟩
            rw [HT.out, strV_app]
            exact HO5.out
          case measure => simp [intOf]; omega
        · have cb := (HB.out.ext HXr.out).cell 1
          simp only [List.getElem?_cons_succ, List.getElem?_cons_zero] at cb
          obtain rfl : k = a.keys.n := by omega
          rw [List.take_of_length_le (Nat.le_of_eq HL2.out)] at HO
          go_wp2_with fail
          clear cb hxr
          have HOp := HO
          have HXp := HXr
          clear HO HXr
          go_loopw [3, 8] (fun nv iv wr => ∃ (k : Nat), k ≤ a.frs.n ∧ iv = .int .i64 k ∧ wr.ownsRow w1.heap.size 9 1 nv (a.cols.n + a.keys.n + k) (strV (s.cols.map Cd.tx ++ s.keys.map keyT ++ (s.frs.take k).map Rf.tx)) ∧ Ext w1 wr) (fun _ i _ => a.frs.n - (intOf i).toNat)
          case atStart => exact ⟨0, Nat.zero_le _, rfl, by simpa using HOp.out, HXp.out⟩
          case round =>
            obtain ⟨k, hkn, rfl, hown, hxr⟩ := hrel
            have HO := hid hown
            have HXr := hid hxr
            clear hown
            by_cases hlt : k < a.frs.n
            · obtain ⟨x, hx⟩ := rat_lt HL3.out hlt
              obtain ⟨h0, b, off, A1, n1, c1, A2, n2, c2, hA, q0, q1, q2, h1, h2, h3, h4, h5, h6⟩ := (HK3.out.ext hxr) k x hx
              have HT : Hid (s.cols.map Cd.tx ++ s.keys.map keyT ++ (s.frs.take (k + 1)).map Rf.tx = (s.cols.map Cd.tx ++ s.keys.map keyT ++ (s.frs.take k).map Rf.tx) ++ [Rf.tx x]) := by unfold Hid; rw [takeA hx, List.map_append]; exact (List.append_assoc _ _ _).symm
              have hsz := sumS_mem (HMR.out x (List.mem_of_getElem? hx))
              have hok := List.all_eq_true.1 HOK3.out x (List.mem_of_getElem? hx)
              have hs1 : sumS x.cs ≤ (cma x.cs).size + 2 := sumS_cma x.cs
              have hs2 : sumS x.tg ≤ (cma x.tg).size + 2 := sumS_cma x.tg
              have htb : x.tb.size ≤ 1000 := Nat.le_trans (rf_nm hok) (by omega)
              have hkz : x.tx.size = 13 + (cma x.cs).size + 13 + x.tb.size + 2 + (cma x.tg).size + 1 := by unfold Rf.tx; simp only [ByteArray.size_append]; rfl
              have hJ1 : (cma x.cs).size ≤ 500000000 := by have := HZ.out; omega
              have hJ2 : (cma x.tg).size ≤ 500000000 := by have := HZ.out; omega
              have HJ1 := hid (fun W (hW : Ext wr W) => rcomma_any x.cs A1 n1 c1 W h1 (h3.ext hW) (by omega))
              have HJ2 := hid (fun W (hW : Ext wr W) => rcomma_any x.tg A2 n2 c2 W h4 (h6.ext hW) (by omega))
              have HTx : Hid (Rf.tx x = ⟨#[70, 79, 82, 69, 73, 71, 78, 32, 75, 69, 89, 32, 40]⟩ ++ cma x.cs ++ ⟨#[41, 32, 82, 69, 70, 69, 82, 69, 78, 67, 69, 83, 32]⟩ ++ x.tb ++ ⟨#[32, 40]⟩ ++ cma x.tg ++ ⟨#[41]⟩) := rfl
              clear hx hxr h0 h1 h2 h3 h4 h5 h6 hsz hs1 hs2 hkz hok
              generalize cma x.cs = T1 at *
              generalize cma x.tg = T2 at *
              generalize x.tb = tb at *
              subst hA
              have hT := HTx.out
              clear HTx
              rw [hT] at HT
              clear hT
              have HB2 := hid (Blk.of_new wr 67 [.slice A1 n1 c1, .string tb, .slice A2 n2 c2])
              have HX2 := hid ((Ext.refl wr).alloc (.cells #[.slice A1 n1 c1, .string tb, .slice A2 n2 c2] 67))
              have HOw := hid (ownN_ext HO.out HX2.out)
              have HNE := hid (own_ne HO.out)
              have cb := (HB.out.ext HXr.out).cell 2
              simp only [List.getElem?_cons_succ, List.getElem?_cons_zero] at cb
              go_wp2_with fail
              generalize wr.alloc (.cells _ 67) = w2 at *
              generalize wr.heap.size = g2 at *
              have e0 := (HB2.out).cell 0
              have e1 := (HB2.out).cell 1
              have e2 := (HB2.out).cell 2
              simp only [List.getElem?_cons_succ, List.getElem?_cons_zero] at e0 e1 e2

              go_region_held_law (fun w' => w'.cell? ⟨g2, 0, none⟩ = some (.slice A1 n1 c1) ∧ w'.cell? ⟨g2, 1, none⟩ = some (.string tb) ∧ w'.cell? ⟨g2, 2, none⟩ = some (.slice A2 n2 c2))
                (first | go_keep | exact blk3 (HB2.out.ext hx3) | exact blk3 ((HB2.out.ext hx3).ext hx4) | exact blk3 (((HB2.out.ext hx3).ext hx4).ext ((Ext.refl _).alloc _)) | exact blk3 ((((HB2.out.ext hx3).ext hx4).ext ((Ext.refl _).alloc _)).grown hgr5 HNE.out))
                (first
                  | (go_at_call 97; (with_reducible refine (HJ2.out _ (HX2.out.trans hx3)).mono ?_); rintro _ w4 ⟨rfl, hx4⟩)
                  | (go_at_call 97; (with_reducible refine (HJ1.out _ HX2.out.drew).mono ?_); rintro _ w3 ⟨rfl, hx3⟩; replace hx3 : Ext w2 w3 := (Ext.refl w2).drew.trans hx3)
                  | (generalize ⟨#[70, 79, 82, 69, 73, 71, 78, 32, 75, 69, 89, 32, 40]⟩ ++ T1 ++ ⟨#[41, 32, 82, 69, 70, 69, 82, 69, 78, 67, 69, 83, 32]⟩ ++ tb ++ ⟨#[32, 40]⟩ ++ T2 ++ ⟨#[41]⟩ = TB at *; refine step_append_any _ rfl (.tmp 86) (.tmp 101) 65 rfl w1.heap.size 9 i0 _ 1 16 Tryz.underlying65 hi hz0 hz1 hz2 rfl (by decide) _ (a.cols.n + a.keys.n + k) _ rfl ((ownN_ext HOw.out (hx3.trans hx4)).alloc _) _ _ 1 1 [.string TB] rfl (reads_new1 w4 _ _) (by simp [Value.oneCell']) (by unfold maxLen; omega) (by omega) (Nat.le_trans (HXr.out.trans (HX2.out.trans (hx3.trans hx4))).size (by simp)) ?_; intro v1 w5 hown5 hgr5 hblk5))
              all_goals
                have HO5 := hid hown5
                have HG5 := hid hgr5
                replace HX2 := hid (HX2.out.trans (hx3.trans hx4))
                rename_i hHeld
                clear hHeld hown5 hgr5 hblk5 e0 e1 e2
                go_wp2_with fail
                go_roundw
                case rel =>
                  have hge := own_atN HO.out
                  refine ⟨k + 1, by omega, by go_num, ?_, ((HXr.out.trans HX2.out).alloc _).grown HG5.out fun q hq => hge q hq⟩
                  rw [HT.out, strV_app]
                  exact HO5.out
                case measure => simp [intOf]; omega
            · have cb := (HB.out.ext HXr.out).cell 2
              simp only [List.getElem?_cons_succ, List.getElem?_cons_zero] at cb
              obtain rfl : k = a.frs.n := by omega
              rw [List.take_of_length_le (Nat.le_of_eq HL3.out)] at HO
              go_wp2_with fail
              clear cb hxr
              have HOp := HO
              have HXp := HXr
              clear HO HXr
              go_loopw [3, 10] (fun nv iv wr => ∃ (k : Nat), k ≤ a.chk.n ∧ iv = .int .i64 k ∧ wr.ownsRow w1.heap.size 9 1 nv (a.cols.n + a.keys.n + a.frs.n + k) (strV (s.cols.map Cd.tx ++ s.keys.map keyT ++ s.frs.map Rf.tx ++ (s.chk.take k).map chkT)) ∧ Ext w1 wr) (fun _ i _ => a.chk.n - (intOf i).toNat)
              case atStart => exact ⟨0, Nat.zero_le _, rfl, by simpa using HOp.out, HXp.out⟩
              case round =>
                obtain ⟨k, hkn, rfl, hown, hxr⟩ := hrel
                have HO := hid hown
                have HXr := hid hxr
                clear hown
                by_cases hlt : k < a.chk.n
                · obtain ⟨x, hx⟩ := rat_lt HL4.out hlt
                  obtain ⟨b, off, Ai, ni, ci, hA, q0, q1, q2, q3, q4, q5, q6, q7, h1⟩ := (HK4.out.ext hxr).get hx
                  subst hA
                  have cb := (HB.out.ext HXr.out).cell 3
                  simp only [List.getElem?_cons_succ, List.getElem?_cons_zero] at cb
                  have HT : Hid (s.cols.map Cd.tx ++ s.keys.map keyT ++ s.frs.map Rf.tx ++ (s.chk.take (k + 1)).map chkT = (s.cols.map Cd.tx ++ s.keys.map keyT ++ s.frs.map Rf.tx ++ (s.chk.take k).map chkT) ++ [chkT x]) := by unfold Hid; rw [takeA hx, List.map_append]; exact (List.append_assoc _ _ _).symm
                  have hf := List.all_eq_true.1 HOK4.out x (List.mem_of_getElem? hx)
                  have hxs := sizeL_mem (List.mem_of_getElem? hx)
                  have HE := hid (fun W (hW : Ext wr W) => rprint_any x 1 Ai ni ci W (h1.ext hW) hf (by have := HS4.out; omega))
                  have hJz : (x.tx 1).size ≤ 100000 := by have := tx_size x 1 hf; have := HS4.out; omega
                  have HTx : Hid (chkT x = ⟨#[67, 72, 69, 67, 75, 32, 40]⟩ ++ x.tx 1 ++ ⟨#[41]⟩) := rfl
                  clear hx hxr h1 hf hxs
                  unfold Nd.val at HE
                  generalize x.tx 1 = T1 at *
                  have hT := HTx.out
                  clear HTx
                  rw [hT] at HT
                  clear hT
                  generalize x.d = d at *
                  obtain ⟨op, tb, nm, ix, vk, vi, vt⟩ := d
                  simp only at *
                  go_wp2_with (first | (go_at_call 50; (with_reducible refine (HE.out _ (Ext.refl wr)).mono ?_); rintro _ w2 ⟨rfl, hx2⟩; have HX2 : Hid (Ext wr w2) := hx2) | (at_builtin; generalize ⟨#[67, 72, 69, 67, 75, 32, 40]⟩ ++ T1 ++ ⟨#[41]⟩ = TB at *; refine wpList_append_any _ rfl (.tmp 110) (.tmp 119) 65 rfl w1.heap.size 9 i0 _ 1 16 Tryz.underlying65 hi hz0 hz1 hz2 rfl (by decide) _ (a.cols.n + a.keys.n + a.frs.n + k) _ rfl ((ownN_ext HO.out HX2.out).alloc _) _ _ 1 1 [.string TB] rfl (reads_new1 w2 _ _) (by simp [Value.oneCell']) (by unfold maxLen; omega) (by omega) (Nat.le_trans (HXr.out.trans HX2.out).size (by simp)) ?_; intro v1 w5 hown5 hgr5 hblk5; have HO5 := hid hown5; have HG5 := hid hgr5; clear hown5 hgr5 hblk5))
                  go_roundw
                  case rel =>
                    have hge := own_atN HO.out
                    refine ⟨k + 1, by omega, by go_num, ?_, ((HXr.out.trans HX2.out).alloc _).grown HG5.out fun q hq => hge q hq⟩
                    rw [HT.out, strV_app]
                    exact HO5.out
                  case measure => simp [intOf]; omega
                · have cb := (HB.out.ext HXr.out).cell 3
                  simp only [List.getElem?_cons_succ, List.getElem?_cons_zero] at cb
                  obtain rfl : k = a.chk.n := by omega
                  rw [List.take_of_length_le (Nat.le_of_eq HL4.out)] at HO
                  have HJ := hid (rcomma_own s.elts _ _ _ wr HO.out (by have := HZ.out; exact Nat.le_trans this (by omega)))
                  go_wp2_with (go_at_call 97; refine HJ.out.mono ?_; rintro _ w2 ⟨rfl, hx2⟩)
                  go_ret
                  exact ⟨rfl, HX.out.trans (HXr.out.trans hx2)⟩
end Go.Proofs.YtcdnodjcnofogaaGreatDoor
namespace Go.Proofs.YtcdnodjcnofogaaGreatDoor
open Go.RowKit
set_option linter.unusedVariables false
set_option maxHeartbeats 400000

def St.sel0 (s : St) : ByteArray := ⟨#[83, 69, 76, 69, 67, 84, 32]⟩ ++ s.itT ++ ⟨#[32, 70, 82, 79, 77, 32]⟩ ++ cma (s.frm.map Src.tx) ++ s.whT
def St.sel1 (s : St) : ByteArray := if s.grp.length = 0 then s.sel0 else s.sel0 ++ (⟨#[32, 71, 82, 79, 85, 80, 32, 66, 89, 32]⟩ ++ exsT s.grp)
def St.sel2 (s : St) : ByteArray := if s.ord.length = 0 then s.sel1 else s.sel1 ++ (⟨#[32, 79, 82, 68, 69, 82, 32, 66, 89, 32]⟩ ++ cma (s.ord.map Ord'.tx))
def St.sel (s : St) : ByteArray := if 0 < s.lim then s.sel2 ++ (⟨#[32, 76, 73, 77, 73, 84, 32]⟩ ++ itoB s.lim) else s.sel2
/-- the text of a statement -/
def St.body (s : St) : ByteArray :=
  if s.kd = 1 then ⟨#[67, 82, 69, 65, 84, 69, 32, 84, 65, 66, 76, 69, 32]⟩ ++ s.tb ++ ⟨#[32, 40]⟩ ++ cma s.elts ++ ⟨#[41]⟩
  else if s.kd = 2 then ⟨#[73, 78, 83, 69, 82, 84, 32, 73, 78, 84, 79, 32]⟩ ++ s.tb ++ ⟨#[32, 86, 65, 76, 85, 69, 83, 32]⟩ ++ cma (s.vals.map rowT)
  else if s.kd = 3 then ⟨#[85, 80, 68, 65, 84, 69, 32]⟩ ++ s.tb ++ ⟨#[32, 83, 69, 84, 32]⟩ ++ cma (s.sets.map Asg.tx) ++ s.whT
  else if s.kd = 4 then sDelete ++ s.tb ++ s.whT
  else if s.kd = 5 then s.sel
  else if s.kd = 6 then ⟨#[66, 69, 71, 73, 78]⟩ else if s.kd = 7 then ⟨#[67, 79, 77, 77, 73, 84]⟩ else if s.kd = 8 then ⟨#[82, 79, 76, 76, 66, 65, 67, 75]⟩
  else if s.kd = 9 then ⟨#[83, 65, 86, 69, 80, 79, 73, 78, 84, 32]⟩ ++ s.nm else if s.kd = 10 then ⟨#[82, 79, 76, 76, 66, 65, 67, 75, 32, 84, 79, 32]⟩ ++ s.nm else ⟨#[82, 69, 76, 69, 65, 83, 69, 32]⟩ ++ s.nm
/-- its expressions are small -/
structure St.Fits (s : St) : Prop where
  itms : ∀ x ∈ s.itms, x.ex.size ≤ 1000
  whr : s.whr.size ≤ 1000
  grp : sizeL s.grp ≤ 1000
  vals : ∀ l ∈ s.vals, sizeL l ≤ 1000
  sets : ∀ x ∈ s.sets, x.ex.size ≤ 1000
  chk : sizeL s.chk ≤ 1000
theorem nodesL_mem {e : Ex} {l : List Ex} (h : e ∈ l) : e.nodes ≤ nodesL l := by
  induction l with
  | nil => cases h
  | cons a l ih =>
    rw [nodesL]
    rcases List.mem_cons.1 h with rfl | h
    · omega
    · have := ih h; omega
theorem nodes_all {l : List Ex} (h : l.all Ex.formed = true) : nodesL l = sizeL l := by
  induction l with
  | nil => rfl
  | cons a l ih =>
    rw [List.all_cons, Bool.and_eq_true] at h
    rw [nodesL, sizeL, formed_nodes a h.1, ih h.2]
theorem absent_size {e : Ex} (h : e.absent = true) : e.size = 1 := by
  cases e with
  | mk d ks =>
    unfold Ex.absent at h
    simp only [Bool.and_eq_true, List.isEmpty_iff] at h
    have hk : ks = [] := h.2
    subst hk
    rw [Ex.size]; rfl
theorem sz_of {e : Ex} {n : Nat} (h : e.formed = true ∨ e.absent = true) (hn : e.nodes ≤ n) (h1 : 1 ≤ n) : e.size ≤ n := by
  rcases h with h | h
  · rw [← formed_nodes e h]; exact hn
  · rw [absent_size h]; exact h1
theorem whr_of {s : St} (h : s.formed = true) : s.whr.absent = true ∨ s.whr.formed = true := by
  unfold St.formed at h
  dsimp only at h
  simp only [Bool.and_eq_true, Bool.or_eq_true] at h
  rcases h.1.1.1.1.1.1.2 with h | h
  · exact .inl h
  · exact .inr h.2
theorem nil_of {α : Type} {l : List α} (h : l.length = 0) : l = [] := List.eq_nil_of_length_eq_zero h
/-- what a well-formed statement has, by its kind -/
theorem formed_kind {s : St} (h : s.formed = true) : (1 ≤ s.kd ∧ s.kd ≤ 11) ∧ (s.kd = 1 → s.defOk = true) ∧ (s.kd ≠ 1 → s.chk = []) ∧ (s.kd = 2 → s.vals.all rowOk = true) ∧ (s.kd ≠ 2 → s.vals = []) ∧ (s.kd = 3 → s.sets.all Asg.ok = true) ∧ (s.kd ≠ 3 → s.sets = []) ∧
    (s.kd = 5 → s.qOk = true) ∧ (s.kd ≠ 5 → s.itms = [] ∧ s.grp = []) := by
  unfold St.formed at h
  dsimp only at h
  simp only [Bool.and_eq_true, decide_eq_true_eq] at h
  obtain ⟨⟨⟨⟨⟨⟨⟨⟨⟨⟨⟨⟨h1, h2⟩, _⟩, _⟩, _⟩, _⟩, _⟩, h3⟩, h4⟩, h5⟩, _⟩, h6⟩, h7⟩ := h
  refine ⟨⟨h1, h2⟩, fun e => ?_, fun e => ?_, fun e => ?_, fun e => ?_, fun e => ?_, fun e => ?_, fun e => ?_, fun e => ?_⟩
  · rw [if_pos e] at h7; exact h7
  · have e1 : (s.kd == 1) = false := by simpa using e
    rw [e1] at h3
    have h3 : s.noDef = true := by simpa using h3
    unfold St.noDef at h3
    exact nil_of (by have := of_decide_eq_true h3; omega)
  · rw [if_neg (by omega), if_pos e] at h7; exact h7
  · have e1 : (s.kd == 2) = false := by simpa using e
    rw [e1] at h4
    exact nil_of (by simpa using h4)
  · rw [if_neg (by omega), if_neg (by omega), if_pos e] at h7; exact h7
  · have e1 : (s.kd == 3) = false := by simpa using e
    rw [e1] at h5
    exact nil_of (by simpa using h5)
  · rw [if_neg (by omega), if_neg (by omega), if_neg (by omega), if_pos e] at h7; exact h7
  · have e1 : (s.kd == 5) = false := by simpa using e
    rw [e1] at h6
    simp only [Bool.false_or, Bool.and_eq_true, decide_eq_true_eq] at h6
    exact ⟨nil_of (by omega), nil_of (by omega)⟩
theorem nodesL_flat {l : List Ex} {L : List (List Ex)} (h : l ∈ L) : nodesL l ≤ nodesL L.flatten := by
  induction L with
  | nil => cases h
  | cons a L ih =>
    rw [List.flatten_cons, nodesL_app]
    rcases List.mem_cons.1 h with rfl | h
    · omega
    · have := ih h; omega
theorem fits_of {s : St} (h : s.formed = true) (hn : nodesL s.all ≤ 400) : s.Fits := by
  have hk := formed_kind h
  have hw := whr_of h
  have hall : ∀ e ∈ s.all, e.nodes ≤ 400 := fun e he => Nat.le_trans (nodesL_mem he) hn
  unfold St.all at hn hall
  simp only [nodesL_app] at hn
  refine ⟨fun x hx => ?_, ?_, ?_, fun l hl => ?_, fun x hx => ?_, ?_⟩
  · by_cases h5 : s.kd = 5
    · have hq := hk.2.2.2.2.2.2.2.1 h5
      unfold St.qOk at hq
      simp only [Bool.and_eq_true] at hq
      have hx2 := List.all_eq_true.1 hq.1.1.1.1.1 x hx
      unfold Itm.ok at hx2
      have hn2 : x.ex.nodes ≤ 400 := hall _ (by simp only [List.mem_append]; exact .inl (.inr (List.mem_map_of_mem hx)))
      refine Nat.le_trans (sz_of ?_ hn2 (by omega)) (by omega)
      split at hx2
      · exact .inr hx2
      · simp only [Bool.and_eq_true] at hx2; exact .inl hx2.2
    · rw [(hk.2.2.2.2.2.2.2.2 h5).1] at hx; cases hx
  · exact Nat.le_trans (sz_of hw.symm (hall _ (by simp)) (by omega)) (by omega)
  · by_cases h5 : s.kd = 5
    · have hq := hk.2.2.2.2.2.2.2.1 h5
      unfold St.qOk at hq
      simp only [Bool.and_eq_true] at hq
      have hg : s.grp.all Ex.formed = true := List.all_eq_true.2 fun e he => by
        have := List.all_eq_true.1 hq.1.1.2 e he
        unfold colX at this
        simp only [Bool.and_eq_true] at this
        exact this.2
      rw [← nodes_all hg]; omega
    · rw [(hk.2.2.2.2.2.2.2.2 h5).2]; exact Nat.zero_le _
  · by_cases h2 : s.kd = 2
    · have hv := List.all_eq_true.1 (hk.2.2.2.1 h2) l hl
      unfold rowOk at hv
      simp only [Bool.and_eq_true] at hv
      rw [← nodes_all hv.2]
      have : nodesL l ≤ nodesL s.vals.flatten := nodesL_flat hl
      omega
    · rw [hk.2.2.2.2.1 h2] at hl; cases hl
  · by_cases h3 : s.kd = 3
    · have hv := List.all_eq_true.1 (hk.2.2.2.2.2.1 h3) x hx
      unfold Asg.ok at hv
      simp only [Bool.and_eq_true] at hv
      have hn2 : x.ex.nodes ≤ 400 := hall _ (by simp only [List.mem_append]; exact .inl (.inl (.inr (List.mem_map_of_mem hx))))
      exact Nat.le_trans (sz_of (.inl hv.2) hn2 (by omega)) (by omega)
    · rw [hk.2.2.2.2.2.2.1 h3] at hx; cases hx
  · by_cases h1 : s.kd = 1
    · have hd := hk.2.1 h1
      unfold St.defOk at hd
      simp only [Bool.and_eq_true] at hd
      rw [← nodes_all hd.2]
      omega
    · rw [hk.2.2.1 h1]; exact Nat.zero_le _
end Go.Proofs.YtcdnodjcnofogaaGreatDoor
namespace Go.Proofs.YtcdnodjcnofogaaGreatDoor
open Go.RowKit
set_option linter.unusedVariables false
set_option linter.unusedSimpArgs false
set_option maxHeartbeats 4000000
set_option maxRecDepth 100000

theorem sumS_le {α : Type} {tx : α → ByteArray} {bk : α → Nat} {l : List α} {b : Nat} (h : sumS (l.map tx) ≤ 100 * sumB bk l) (hb : sumB bk l ≤ 1048576) : sumS (l.map tx) ≤ 104857600 := by omega
theorem sum_bulk (s : St) (h : s.bulk ≤ 1048576) : s.tb.size ≤ 1048576 ∧ s.nm.size ≤ 1048576 ∧ sumB bkCd s.cols + sumB bkK s.keys + sumB bkRf s.frs + sizeL s.chk ≤ 1048576 ∧ sumB bkR s.vals ≤ 1048576 ∧ sumB bkA s.sets ≤ 1048576 ∧ sumB bkI s.itms ≤ 1048576 ∧ sumB bkF s.frm ≤ 1048576 ∧ sumB bkO s.ord ≤ 1048576 := by
  unfold St.bulk at h; omega
theorem lens_bulk (s : St) (h : s.bulk ≤ 1048576) : s.cols.length + s.keys.length + s.frs.length + s.chk.length ≤ 1048576 ∧ s.vals.length ≤ 1048576 ∧ s.sets.length ≤ 1048576 ∧ s.itms.length + s.frm.length + s.grp.length + s.ord.length ≤ 1048576 := by
  have hl : ∀ l : List Ex, l.length ≤ sizeL l := fun l => by rw [← sumB_ex]; exact sumB_len (fun a => size_pos a) l
  have h1 := sumB_len (bk := bkCd) (fun a => by unfold bkCd; omega) s.cols
  have h2 := sumB_len (bk := bkK) (fun a => by unfold bkK; omega) s.keys
  have h3 := sumB_len (bk := bkRf) (fun a => by unfold bkRf; omega) s.frs
  have h4 := hl s.chk
  have h5 := sumB_len (bk := bkR) (fun a => by unfold bkR; omega) s.vals
  have h6 := sumB_len (bk := bkA) (fun a => by unfold bkA; omega) s.sets
  have h7 := sumB_len (bk := bkI) (fun a => by unfold bkI; omega) s.itms
  have h8 := sumB_len (bk := bkF) (fun a => by unfold bkF; omega) s.frm
  have h9 := hl s.grp
  have h10 := sumB_len (bk := bkO) (fun a => by unfold bkO; omega) s.ord
  unfold St.bulk at h
  omega
theorem whT_size (s : St) (hf : s.whr.absent = true ∨ s.whr.formed = true) (hs : s.whr.size ≤ 1000) : s.whT.size ≤ 100000 := by
  unfold St.whT
  split
  · exact Nat.zero_le _
  · rename_i h
    have hf2 := hf.resolve_left h
    have := tx_size s.whr 1 hf2
    rw [ByteArray.size_append]
    show 7 + _ ≤ _
    omega
theorem q_parts {s : St} (h : s.qOk = true) : s.itms.all Itm.ok = true ∧ s.frm.all Src.ok = true ∧ s.grp.all Ex.formed = true ∧ s.ord.all Ord'.ok = true ∧ 0 ≤ s.lim ∧ s.lim ≤ 2147483648 := by
  unfold St.qOk at h
  simp only [Bool.and_eq_true, inB_iff] at h
  refine ⟨h.1.1.1.1.1, h.1.1.1.2, List.all_eq_true.2 fun e he => ?_, h.1.2, h.2⟩
  have := List.all_eq_true.1 h.1.1.2 e he
  unfold colX at this
  simp only [Bool.and_eq_true] at this
  exact this.2
theorem src_nm {x : Src} (h : x.ok = true) : x.tb.size ≤ 1000 ∧ x.al.size ≤ 1000 := by
  unfold Src.ok at h
  simp only [Bool.and_eq_true, Bool.or_eq_true] at h
  refine ⟨Nat.le_trans (nameB_size h.1) (by omega), ?_⟩
  rcases h.2 with h | h
  · rw [← str0_b] at h; have : x.al.size = 0 := by simpa using h
    omega
  · exact Nat.le_trans (nameB_size h) (by omega)
theorem asg_nm {x : Asg} (h : x.ok = true) : x.cl.size ≤ 1000 ∧ x.ex.formed = true := by
  unfold Asg.ok at h
  simp only [Bool.and_eq_true] at h
  exact ⟨Nat.le_trans (nameB_size h.1) (by omega), h.2⟩
theorem itT_size (s : St) (hq : s.itms.all Itm.ok = true) (hb : sumB bkI s.itms ≤ 1048576) : s.itT.size ≤ 104857600 := by
  unfold St.itT
  split
  · show 1 ≤ _; omega
  · have h1 := cma_size (s.itms.map Itm.tx)
    have h2 := sumS_map Itm.tx bkI 100 s.itms fun x hx => itm_size (List.all_eq_true.1 hq x hx)
    omega
theorem sel_any (s : St) (a : SA) (w : World) (hg : Gd w) (hv : StV w s a) (hq : s.qOk = true) (hw : s.whr.absent = true ∨ s.whr.formed = true) (hF : s.Fits) (hb : s.bulk ≤ 1048576) :
    Calls Tryz.prog 88 #[s.val a] w fun r w' => r = .returned (.string s.sel) ∧ Ext w w' := by
  obtain ⟨hq1, hq2, hq3, hq4, hq5, hq6⟩ := q_parts hq
  have hsb := sum_bulk s hb
  have hlb := lens_bulk s hb
  have H1 := hid (fun W (hW : Ext w W) => ls_itm 140 ent_itmt Itm.tx s.itms a.itms.A a.itms.n a.itms.c W hv.itms.1 (by have := hv.itms.1; omega) (hv.itms.2.2.ext hW) (Nat.le_trans (sumS_map Itm.tx bkI 100 s.itms fun x hx => itm_size (List.all_eq_true.1 hq1 x hx)) (by omega)) fun x hx W2 hW2 Ai ni ci hc => itmt_any x Ai ni ci W2 (hg.ext (hW.trans hW2)) hc (List.all_eq_true.1 hq1 x hx) (hF.itms x hx))
  have H2 := hid (fun W (hW : Ext w W) => ls_src 143 ent_srct Src.tx s.frm a.frm.A a.frm.n a.frm.c W hv.frm.1 (by have := hv.frm.1; omega) (hv.frm.2.2.ext hW) (Nat.le_trans (sumS_map Src.tx bkF 100 s.frm fun x hx => src_size x) (by omega)) fun x hx W2 hW2 hc => srct_any x W2 (src_nm (List.all_eq_true.1 hq2 x hx)))
  have H3 := hid (fun W (hW : Ext w W) => where_any s a W (hg.ext hW) (hv.whr.ext hW) hw hF.whr)
  have H4 := hid (fun W (hW : Ext w W) => exprs_any s.grp a.grp.A a.grp.n a.grp.c W (hg.ext hW) hv.grp.1 (hv.grp.2.2.ext hW) hq3 hF.grp)
  have H5 := hid (fun W (hW : Ext w W) => ls_ord 145 ent_ordt Ord'.tx s.ord a.ord.A a.ord.n a.ord.c W hv.ord.1 (by have := hv.ord.1; omega) (hv.ord.2.2.ext hW) (Nat.le_trans (sumS_map Ord'.tx bkO 100 s.ord fun x hx => ord_size (List.all_eq_true.1 hq4 x hx)) (by omega)) fun x hx W2 hW2 hc => ordt_any x W2 (hg.ext (hW.trans hW2)) (List.all_eq_true.1 hq4 x hx))
  have H6 := hid (fun W (hW : Ext w W) => number_any s.lim W ((hg.ext hW).can hv.lim))
  have z1 := itT_size s hq1 hsb.2.2.2.2.2.1
  have z2 : (cma (s.frm.map Src.tx)).size ≤ 104857600 := Nat.le_trans (cma_size _) (Nat.le_trans (sumS_map Src.tx bkF 100 s.frm fun x hx => src_size x) (by omega))
  have z3 := whT_size s hw hF.whr
  have z4 : (exsT s.grp).size ≤ 100000 := Nat.le_trans (cma_size _) (Nat.le_trans (exs_size hq3) (by have := hF.grp; omega))
  have z5 : (cma (s.ord.map Ord'.tx)).size ≤ 104857600 := Nat.le_trans (cma_size _) (Nat.le_trans (sumS_map Ord'.tx bkO 100 s.ord fun x hx => ord_size (List.all_eq_true.1 hq4 x hx)) (by omega))
  have z6 := Nat.le_trans (itoB_size s.lim (by omega) (by omega)) (show 21 ≤ 1000 by omega)
  have D0 : Hid (s.sel0 = ⟨#[83, 69, 76, 69, 67, 84, 32]⟩ ++ s.itT ++ ⟨#[32, 70, 82, 79, 77, 32]⟩ ++ cma (s.frm.map Src.tx) ++ s.whT) := rfl
  have D1 : Hid (s.sel1 = if s.grp.length = 0 then s.sel0 else s.sel0 ++ (⟨#[32, 71, 82, 79, 85, 80, 32, 66, 89, 32]⟩ ++ exsT s.grp)) := rfl
  have D2 : Hid (s.sel2 = if s.ord.length = 0 then s.sel1 else s.sel1 ++ (⟨#[32, 79, 82, 68, 69, 82, 32, 66, 89, 32]⟩ ++ cma (s.ord.map Ord'.tx))) := rfl
  have D3 : Hid (s.sel = if 0 < s.lim then s.sel2 ++ (⟨#[32, 76, 73, 77, 73, 84, 32]⟩ ++ itoB s.lim) else s.sel2) := rfl
  have DI : Hid (s.itT = if s.itms.length = 0 then ⟨#[42]⟩ else cma (s.itms.map Itm.tx)) := rfl
  rw [hv.grp.1] at D1
  rw [hv.ord.1] at D2
  rw [hv.itms.1] at DI
  have y0 : s.sel0.size ≤ 300000000 := by
    rw [D0.out]; simp only [ByteArray.size_append]; show 7 + _ + 6 + _ + _ ≤ _; omega
  have y1 : s.sel1.size ≤ 300100100 := by
    rw [D1.out]; refine ite_size _ _ _ _ (by omega) ?_; simp only [ByteArray.size_append]; show _ + (10 + _) ≤ _; omega
  have y2 : s.sel2.size ≤ 500000000 := by
    rw [D2.out]; refine ite_size _ _ _ _ (by omega) ?_; simp only [ByteArray.size_append]; show _ + (10 + _) ≤ _; omega
  have HB := hid (Blk.of_new w 38 (s.cells a))
  have HX := hid ((Ext.refl w).alloc (.cells (s.cells a).toArray 38))
  clear hg hv hq hw hF hb hq1 hq2 hq3 hq4 hq5 hq6 hsb hlb
  unfold St.val at *
  unfold St.cells Sl.v at *
  generalize s.sel = O3 at *
  generalize s.sel2 = O2 at *
  generalize s.sel1 = O1 at *
  generalize s.sel0 = O0 at *
  generalize s.itT = TI at *
  generalize s.whT = TW at *
  generalize cma (s.frm.map Src.tx) = TS at *
  generalize exsT s.grp = TG at *
  generalize cma (s.ord.map Ord'.tx) = TO at *
  generalize itoB s.lim = TL at *
  generalize cma (s.itms.map Itm.tx) = TI0 at *
  go_enter Tryz.func88, Tryz.ntmps88
  go_upto_region 1 with fail
  generalize w.alloc (.cells _ 38) = w1 at *
  generalize w.heap.size = g at *
  have p8 := (HB.out).cell 8
  simp only [List.getElem?_cons_succ, List.getElem?_cons_zero] at p8
  go_upto_if 8 with fail
  go_cut [3] from 5 to 11 (fun ov wx => ov = .string TI ∧ Ext w1 wx)
  case first =>
    by_cases hn : 0 < a.itms.n
    · have hT := DI.out
      rw [if_neg (by omega)] at hT
      subst hT
      go_wp2_with (go_at_call 139; (with_reducible refine (H1.out _ HX.out).mono ?_); rintro _ w2 ⟨rfl, hx2⟩)
      go_meet
      exact ⟨rfl, hx2⟩
    · have hT := DI.out
      rw [if_pos (by omega)] at hT
      subst hT
      go_wp2_with fail
      go_meet
      exact ⟨rfl, Ext.refl _⟩
  case rest =>
    obtain ⟨rfl, hxN⟩ := hcut
    generalize wc = wa at *
    have HXa := hid (HX.out.trans hxN)
    replace HB := hid (HB.out.ext hxN)
    clear hxN H1 DI p8
    go_upto_region 4 with fail
    have K2 : Hid (∀ z : Later wa, Calls Tryz.prog 142 _ z.now _) := fun z => H2.out z.now (HXa.out.trans z.ext)
    have K3 : Hid (∀ z : Later wa, Calls Tryz.prog 87 _ z.now _) := fun z => H3.out z.now (HXa.out.trans z.ext)
    have l9 := Later.keep (HB.out.cell_some (i := 9) rfl)
    refine wp_region_later (by kernel_rfl) (by kernel_rfl) ?_
    repeat (first | (refine quiet_load_blk rfl 38 (.tmp 1) rfl g rfl 38 _ _ (later_blk HB.out) Tryz.underlying38 rfl (by kernel_rfl) ?_; go_simp) | go_big_quiet_step (first | (go_at_call 142; with_reducible exact later_of (K2.out _)) | (go_at_call 87; with_reducible exact later_of (K3.out _))))
    refine wpQuiet_nil ?_
    first | (intro wb hw9; have hx9 := later_out hw9; clear hw9) | (intro xb; have hx9 := xb.ext; generalize xb.now = wb at *; clear xb)
    have hD0 := D0.out
    generalize ⟨#[83, 69, 76, 69, 67, 84, 32]⟩ ++ TI ++ ⟨#[32, 70, 82, 79, 77, 32]⟩ ++ TS ++ TW = TX at *
    subst hD0
    replace HB := hid (HB.out.ext hx9)
    have HXb := hid (HXa.out.trans hx9)
    clear hx9 K2 K3 H2 H3 l9 D0
    have p18 := (HB.out).cell 18
    simp only [List.getElem?_cons_succ, List.getElem?_cons_zero] at p18
    go_upto_if 25 with fail
    go_cut [4] from 22 to 31 (fun ov wx => ov = .string O1 ∧ Ext wb wx)
    case first =>
      by_cases hn : 0 < a.grp.n
      · have hT := D1.out
        rw [if_neg (by omega)] at hT
        go_wp2_with (go_at_call 84; (with_reducible refine (H4.out _ HXb.out).mono ?_); rintro _ w2 ⟨rfl, hx2⟩)
        go_meet
        exact ⟨by rw [hT], hx2⟩
      · have hT := D1.out
        rw [if_pos (by omega)] at hT
        subst hT
        go_wp2_with fail
        go_meet
        exact ⟨rfl, Ext.refl _⟩
    case rest =>
      obtain ⟨rfl, hxN⟩ := hcut
      generalize wc = wd at *
      have HXd := hid (HXb.out.trans hxN)
      replace HB := hid (HB.out.ext hxN)
      clear hxN H4 D1 p18 y0
      have p19 := (HB.out).cell 19
      simp only [List.getElem?_cons_succ, List.getElem?_cons_zero] at p19
      go_upto_if 35 with fail
      go_cut [4] from 32 to 41 (fun ov wx => ov = .string O2 ∧ Ext wd wx)
      case first =>
        by_cases hn : 0 < a.ord.n
        · have hT := D2.out
          rw [if_neg (by omega)] at hT
          go_wp2_with (go_at_call 144; (with_reducible refine (H5.out _ HXd.out).mono ?_); rintro _ w2 ⟨rfl, hx2⟩)
          go_meet
          exact ⟨by rw [hT], hx2⟩
        · have hT := D2.out
          rw [if_pos (by omega)] at hT
          subst hT
          go_wp2_with fail
          go_meet
          exact ⟨rfl, Ext.refl _⟩
      case rest =>
        obtain ⟨rfl, hxN⟩ := hcut
        generalize wc = we at *
        have HXe := hid (HXd.out.trans hxN)
        replace HB := hid (HB.out.ext hxN)
        clear hxN H5 D2 p19 y1
        have p20 := (HB.out).cell 20
        simp only [List.getElem?_cons_succ, List.getElem?_cons_zero] at p20
        have hT := D3.out
        by_cases hn : 0 < s.lim
        · rw [if_pos hn] at hT
          have hd : decide (0 < s.lim) = true := by simpa using hn
          clear hn
          go_wp2_with (go_at_call 135; (with_reducible refine (H6.out _ HXe.out).mono ?_); rintro _ w2 ⟨rfl, hx2⟩)
          go_ret
          exact ⟨ret_str hT.symm, HXe.out.trans hx2⟩
        · rw [if_neg hn] at hT
          have hd : decide (0 < s.lim) = false := by simpa using hn
          clear hn
          subst hT
          go_wp2_with fail
          go_ret
          exact ⟨rfl, HXe.out⟩
theorem form_any (s : St) (a : SA) (w : World) (hg : Gd w) (hv : StV w s a) (hcK : CapK w a.keys.A a.keys.n) (hcR : CapR w a.frs.A a.frs.n) (hf : s.formed = true) (hF : s.Fits) (hb : s.bulk ≤ 1048576) :
    Calls Tryz.prog 43 #[s.val a] w fun r w' => r = .returned (.string s.body) ∧ Ext w w' := by
  have hkk := formed_kind hf
  have hsb := sum_bulk s hb
  have hlb := lens_bulk s hb
  have HB := hid (Blk.of_new w 38 (s.cells a))
  have HX := hid ((Ext.refl w).alloc (.cells (s.cells a).toArray 38))
  have z1 : s.tb.size ≤ 1048576 := hsb.1
  have z2 : s.nm.size ≤ 1048576 := hsb.2.1
  have z3 := whT_size s (whr_of hf) hF.whr
  have HW := hid (fun W (hW : Ext w W) => where_any s a W (hg.ext hW) (hv.whr.ext hW) (whr_of hf) hF.whr)
  have hkd : s.kd = 1 ∨ s.kd = 2 ∨ s.kd = 3 ∨ s.kd = 4 ∨ s.kd = 5 ∨ s.kd = 6 ∨ s.kd = 7 ∨ s.kd = 8 ∨ s.kd = 9 ∨ s.kd = 10 ∨ s.kd = 11 := by have := hkk.1; omega
  have hkd2 := hkd
  rcases hkd2 with hk | hk | hk | hk | hk | hk | hk | hk | hk | hk | hk
  · have hT : s.body = ⟨#[67, 82, 69, 65, 84, 69, 32, 84, 65, 66, 76, 69, 32]⟩ ++ s.tb ++ ⟨#[32, 40]⟩ ++ cma s.elts ++ ⟨#[41]⟩ := by unfold St.body; simp [hk]
    rw [hT]
    have hd := hkk.2.1 hk
    have hes := Nat.le_trans (elts_size hd) (show _ ≤ 104857600 by omega)
    have z4 : (cma s.elts).size ≤ 104857600 := Nat.le_trans (cma_size _) hes
    have HE := hid (fun W (hW : Ext w W) => elements_any s a W (hg.ext hW) (hv.ext hW) (hcK.ext hW) (hcR.ext hW) hd hlb.1 (by omega) hF.chk)
    clear hd hes HW
    generalize cma s.elts = TE at *
    have e1 : (s.kd == 1) = true := by simp [hk]
    have e2 : (s.kd == 2) = false := by simp [hk]
    have e3 : (s.kd == 3) = false := by simp [hk]
    have e4 : (s.kd == 4) = false := by simp [hk]
    have e5 : (s.kd == 5) = false := by simp [hk]
    have e6 : (s.kd == 6) = false := by simp [hk]
    have e7 : (s.kd == 7) = false := by simp [hk]
    have e8 : (s.kd == 8) = false := by simp [hk]
    have e9 : (s.kd == 9) = false := by simp [hk]
    have e10 : (s.kd == 10) = false := by simp [hk]
    clear hg hv hk hcK hcR hf hF hb hkk hsb hlb hT hkd
    unfold St.val at *
    unfold St.cells Sl.v at *
    go_enter Tryz.func43, Tryz.ntmps43
    go_upto_region 1 with fail
    generalize w.alloc (.cells _ 38) = w1 at *
    generalize w.heap.size = g at *
    have p0 := (HB.out).cell 0
    have p21 := (HB.out).cell 21
    simp only [List.getElem?_cons_succ, List.getElem?_cons_zero] at p0 p21
    go_wp2_with fail
    have K1 : Hid (∀ z : Later w1, Calls Tryz.prog 81 _ z.now _) := fun z => HE.out z.now (HX.out.trans z.ext)
    have l1 := Later.keep (HB.out.cell_some (i := 1) rfl)
    have l2 := Later.keep (HB.out.cell_some (i := 2) rfl)
    have l3 := Later.keep (HB.out.cell_some (i := 3) rfl)
    have l4 := Later.keep (HB.out.cell_some (i := 4) rfl)
    have l5 := Later.keep (HB.out.cell_some (i := 5) rfl)
    refine wp_region_later (by kernel_rfl) (by kernel_rfl) ?_
    repeat (first | (refine quiet_load_blk rfl 38 (.tmp 1) rfl g rfl 38 _ _ (later_blk HB.out) Tryz.underlying38 rfl (by kernel_rfl) ?_; go_simp) | go_big_quiet_step (first | (go_at_call 81; with_reducible exact later_of (K1.out _))))
    refine wpQuiet_nil ?_
    first | (intro wb hw9; have hx9 := later_out hw9; clear hw9) | (intro xb; have hx9 := xb.ext; generalize xb.now = wb at *; clear xb)
    go_wp2_with fail
    go_ret
    exact ⟨rfl, HX.out.trans hx9⟩
  · have hT : s.body = ⟨#[73, 78, 83, 69, 82, 84, 32, 73, 78, 84, 79, 32]⟩ ++ s.tb ++ ⟨#[32, 86, 65, 76, 85, 69, 83, 32]⟩ ++ cma (s.vals.map rowT) := by unfold St.body; simp [hk]
    rw [hT]
    have hv2 := hkk.2.2.2.1 hk
    have hrs : ∀ x ∈ s.vals, x.all Ex.formed = true := fun x hx => by have := List.all_eq_true.1 hv2 x hx; unfold rowOk at this; simp only [Bool.and_eq_true] at this; exact this.2
    have hes := Nat.le_trans (sumS_map rowT bkR 100 s.vals fun x hx => row_size (hrs x hx)) (show _ ≤ 104857600 by omega)
    have z4 : (cma (s.vals.map rowT)).size ≤ 104857600 := Nat.le_trans (cma_size _) hes
    have HE := hid (fun W (hW : Ext w W) => ls_row 83 ent_rowt rowT s.vals a.vals.A a.vals.n a.vals.c W hv.vals.1 (by have := hv.vals.1; omega) (hv.vals.2.2.ext hW) (by omega) fun x hx W2 hW2 Ai ni ci hc => rowt_any x Ai ni ci W2 (hg.ext (hW.trans hW2)) hc.1 hc.2 (hrs x hx) (hF.vals x hx))
    clear hv2 hrs hes HW
    generalize cma (s.vals.map rowT) = TE at *
    have e1 : (s.kd == 1) = false := by simp [hk]
    have e2 : (s.kd == 2) = true := by simp [hk]
    have e3 : (s.kd == 3) = false := by simp [hk]
    have e4 : (s.kd == 4) = false := by simp [hk]
    have e5 : (s.kd == 5) = false := by simp [hk]
    have e6 : (s.kd == 6) = false := by simp [hk]
    have e7 : (s.kd == 7) = false := by simp [hk]
    have e8 : (s.kd == 8) = false := by simp [hk]
    have e9 : (s.kd == 9) = false := by simp [hk]
    have e10 : (s.kd == 10) = false := by simp [hk]
    clear hg hv hk hcK hcR hf hF hb hkk hsb hlb hT hkd
    unfold St.val at *
    unfold St.cells Sl.v at *
    go_enter Tryz.func43, Tryz.ntmps43
    go_upto_region 1 with fail
    generalize w.alloc (.cells _ 38) = w1 at *
    generalize w.heap.size = g at *
    have p0 := (HB.out).cell 0
    have p21 := (HB.out).cell 21
    simp only [List.getElem?_cons_succ, List.getElem?_cons_zero] at p0 p21
    go_wp2_with fail
    have K1 : Hid (∀ z : Later w1, Calls Tryz.prog 82 _ z.now _) := fun z => HE.out z.now (HX.out.trans z.ext)
    have l1 := Later.keep (HB.out.cell_some (i := 1) rfl)
    have l6 := Later.keep (HB.out.cell_some (i := 6) rfl)
    refine wp_region_later (by kernel_rfl) (by kernel_rfl) ?_
    repeat (first | (refine quiet_load_blk rfl 38 (.tmp 1) rfl g rfl 38 _ _ (later_blk HB.out) Tryz.underlying38 rfl (by kernel_rfl) ?_; go_simp) | go_big_quiet_step (first | (go_at_call 82; with_reducible exact later_of (K1.out _))))
    refine wpQuiet_nil ?_
    first | (intro wb hw9; have hx9 := later_out hw9; clear hw9) | (intro xb; have hx9 := xb.ext; generalize xb.now = wb at *; clear xb)
    go_wp2_with fail
    go_ret
    exact ⟨rfl, HX.out.trans hx9⟩
  · have hT : s.body = ⟨#[85, 80, 68, 65, 84, 69, 32]⟩ ++ s.tb ++ ⟨#[32, 83, 69, 84, 32]⟩ ++ cma (s.sets.map Asg.tx) ++ s.whT := by unfold St.body; simp [hk]
    rw [hT]
    have hv2 := hkk.2.2.2.2.2.1 hk
    have hes := Nat.le_trans (sumS_map Asg.tx bkA 100 s.sets fun x hx => asg_size (List.all_eq_true.1 hv2 x hx)) (show _ ≤ 104857600 by omega)
    have z4 : (cma (s.sets.map Asg.tx)).size ≤ 104857600 := Nat.le_trans (cma_size _) hes
    have HE := hid (fun W (hW : Ext w W) => ls_asg 86 ent_asgt Asg.tx s.sets a.sets.A a.sets.n a.sets.c W hv.sets.1 (by have := hv.sets.1; omega) (hv.sets.2.2.ext hW) (by omega) fun x hx W2 hW2 Ai ni ci hc => asgt_any x Ai ni ci W2 (hg.ext (hW.trans hW2)) (asg_nm (List.all_eq_true.1 hv2 x hx)).1 hc (asg_nm (List.all_eq_true.1 hv2 x hx)).2 (hF.sets x hx))
    clear hv2 hes
    generalize cma (s.sets.map Asg.tx) = TE at *
    generalize s.whT = TW at *
    have e1 : (s.kd == 1) = false := by simp [hk]
    have e2 : (s.kd == 2) = false := by simp [hk]
    have e3 : (s.kd == 3) = true := by simp [hk]
    have e4 : (s.kd == 4) = false := by simp [hk]
    have e5 : (s.kd == 5) = false := by simp [hk]
    have e6 : (s.kd == 6) = false := by simp [hk]
    have e7 : (s.kd == 7) = false := by simp [hk]
    have e8 : (s.kd == 8) = false := by simp [hk]
    have e9 : (s.kd == 9) = false := by simp [hk]
    have e10 : (s.kd == 10) = false := by simp [hk]
    clear hg hv hk hcK hcR hf hF hb hkk hsb hlb hT hkd
    unfold St.val at *
    unfold St.cells Sl.v at *
    go_enter Tryz.func43, Tryz.ntmps43
    go_upto_region 1 with fail
    generalize w.alloc (.cells _ 38) = w1 at *
    generalize w.heap.size = g at *
    have p0 := (HB.out).cell 0
    have p21 := (HB.out).cell 21
    simp only [List.getElem?_cons_succ, List.getElem?_cons_zero] at p0 p21
    go_wp2_with fail
    have K1 : Hid (∀ z : Later w1, Calls Tryz.prog 85 _ z.now _) := fun z => HE.out z.now (HX.out.trans z.ext)
    have K2 : Hid (∀ z : Later w1, Calls Tryz.prog 87 _ z.now _) := fun z => HW.out z.now (HX.out.trans z.ext)
    have l1 := Later.keep (HB.out.cell_some (i := 1) rfl)
    have l7 := Later.keep (HB.out.cell_some (i := 7) rfl)
    refine wp_region_later (by kernel_rfl) (by kernel_rfl) ?_
    repeat (first | (refine quiet_load_blk rfl 38 (.tmp 1) rfl g rfl 38 _ _ (later_blk HB.out) Tryz.underlying38 rfl (by kernel_rfl) ?_; go_simp) | go_big_quiet_step (first | (go_at_call 85; with_reducible exact later_of (K1.out _)) | (go_at_call 87; with_reducible exact later_of (K2.out _))))
    refine wpQuiet_nil ?_
    first | (intro wb hw9; have hx9 := later_out hw9; clear hw9) | (intro xb; have hx9 := xb.ext; generalize xb.now = wb at *; clear xb)
    go_wp2_with fail
    go_ret
    exact ⟨rfl, HX.out.trans hx9⟩
  · have hT : s.body = sDelete ++ s.tb ++ s.whT := by unfold St.body; simp [hk]
    rw [hT]
    generalize s.whT = TW at *
    unfold sDelete
    have e1 : (s.kd == 1) = false := by simp [hk]
    have e2 : (s.kd == 2) = false := by simp [hk]
    have e3 : (s.kd == 3) = false := by simp [hk]
    have e4 : (s.kd == 4) = true := by simp [hk]
    have e5 : (s.kd == 5) = false := by simp [hk]
    have e6 : (s.kd == 6) = false := by simp [hk]
    have e7 : (s.kd == 7) = false := by simp [hk]
    have e8 : (s.kd == 8) = false := by simp [hk]
    have e9 : (s.kd == 9) = false := by simp [hk]
    have e10 : (s.kd == 10) = false := by simp [hk]
    clear hg hv hk hcK hcR hf hF hb hkk hsb hlb hT hkd
    unfold St.val at *
    unfold St.cells Sl.v at *
    go_enter Tryz.func43, Tryz.ntmps43
    go_upto_region 1 with fail
    generalize w.alloc (.cells _ 38) = w1 at *
    generalize w.heap.size = g at *
    have p0 := (HB.out).cell 0
    have p21 := (HB.out).cell 21
    simp only [List.getElem?_cons_succ, List.getElem?_cons_zero] at p0 p21
    go_wp2_with fail
    have K2 : Hid (∀ z : Later w1, Calls Tryz.prog 87 _ z.now _) := fun z => HW.out z.now (HX.out.trans z.ext)
    have l1 := Later.keep (HB.out.cell_some (i := 1) rfl)
    refine wp_region_later (by kernel_rfl) (by kernel_rfl) ?_
    repeat (first | (refine quiet_load_blk rfl 38 (.tmp 1) rfl g rfl 38 _ _ (later_blk HB.out) Tryz.underlying38 rfl (by kernel_rfl) ?_; go_simp) | go_big_quiet_step (first | (go_at_call 87; with_reducible exact later_of (K2.out _))))
    refine wpQuiet_nil ?_
    first | (intro wb hw9; have hx9 := later_out hw9; clear hw9) | (intro xb; have hx9 := xb.ext; generalize xb.now = wb at *; clear xb)
    go_wp2_with fail
    go_ret
    exact ⟨rfl, HX.out.trans hx9⟩
  · have hT : s.body = s.sel := by unfold St.body; simp [hk]
    rw [hT]
    have HE := hid (fun W (hW : Ext w W) => sel_any s a W (hg.ext hW) (hv.ext hW) (hkk.2.2.2.2.2.2.2.1 hk) (whr_of hf) hF hb)
    clear HW z3
    generalize s.sel = TE at *
    have e1 : (s.kd == 1) = false := by simp [hk]
    have e2 : (s.kd == 2) = false := by simp [hk]
    have e3 : (s.kd == 3) = false := by simp [hk]
    have e4 : (s.kd == 4) = false := by simp [hk]
    have e5 : (s.kd == 5) = true := by simp [hk]
    have e6 : (s.kd == 6) = false := by simp [hk]
    have e7 : (s.kd == 7) = false := by simp [hk]
    have e8 : (s.kd == 8) = false := by simp [hk]
    have e9 : (s.kd == 9) = false := by simp [hk]
    have e10 : (s.kd == 10) = false := by simp [hk]
    clear hg hv hk hcK hcR hf hF hb hkk hsb hlb hT hkd
    unfold St.val at *
    unfold St.cells Sl.v at *
    go_enter Tryz.func43, Tryz.ntmps43
    go_upto_region 1 with fail
    generalize w.alloc (.cells _ 38) = w1 at *
    generalize w.heap.size = g at *
    have p0 := (HB.out).cell 0
    have p21 := (HB.out).cell 21
    simp only [List.getElem?_cons_succ, List.getElem?_cons_zero] at p0 p21
    go_wp2_with (first | (refine wpList_load_blk rfl 38 (.tmp 1) rfl g rfl 38 _ _ HB.out Tryz.underlying38 rfl (by kernel_rfl) ?_) | (go_at_call 88; (with_reducible refine (HE.out _ HX.out).mono ?_); rintro _ w5 ⟨rfl, hx5⟩))
    go_ret
    exact ⟨rfl, HX.out.trans hx5⟩
  · have hT : s.body = ⟨#[66, 69, 71, 73, 78]⟩ := by unfold St.body; simp [hk]
    rw [hT]
    clear HW z3
    have e1 : (s.kd == 1) = false := by simp [hk]
    have e2 : (s.kd == 2) = false := by simp [hk]
    have e3 : (s.kd == 3) = false := by simp [hk]
    have e4 : (s.kd == 4) = false := by simp [hk]
    have e5 : (s.kd == 5) = false := by simp [hk]
    have e6 : (s.kd == 6) = true := by simp [hk]
    have e7 : (s.kd == 7) = false := by simp [hk]
    have e8 : (s.kd == 8) = false := by simp [hk]
    have e9 : (s.kd == 9) = false := by simp [hk]
    have e10 : (s.kd == 10) = false := by simp [hk]
    clear hg hv hk hcK hcR hf hF hb hkk hsb hlb hT hkd
    unfold St.val at *
    unfold St.cells Sl.v at *
    go_enter Tryz.func43, Tryz.ntmps43
    go_upto_region 1 with fail
    generalize w.alloc (.cells _ 38) = w1 at *
    generalize w.heap.size = g at *
    have p0 := (HB.out).cell 0
    have p21 := (HB.out).cell 21
    simp only [List.getElem?_cons_succ, List.getElem?_cons_zero] at p0 p21
    go_wp2_with fail
    go_ret
    exact ⟨rfl, HX.out⟩
  · have hT : s.body = ⟨#[67, 79, 77, 77, 73, 84]⟩ := by unfold St.body; simp [hk]
    rw [hT]
    clear HW z3
    have e1 : (s.kd == 1) = false := by simp [hk]
    have e2 : (s.kd == 2) = false := by simp [hk]
    have e3 : (s.kd == 3) = false := by simp [hk]
    have e4 : (s.kd == 4) = false := by simp [hk]
    have e5 : (s.kd == 5) = false := by simp [hk]
    have e6 : (s.kd == 6) = false := by simp [hk]
    have e7 : (s.kd == 7) = true := by simp [hk]
    have e8 : (s.kd == 8) = false := by simp [hk]
    have e9 : (s.kd == 9) = false := by simp [hk]
    have e10 : (s.kd == 10) = false := by simp [hk]
    clear hg hv hk hcK hcR hf hF hb hkk hsb hlb hT hkd
    unfold St.val at *
    unfold St.cells Sl.v at *
    go_enter Tryz.func43, Tryz.ntmps43
    go_upto_region 1 with fail
    generalize w.alloc (.cells _ 38) = w1 at *
    generalize w.heap.size = g at *
    have p0 := (HB.out).cell 0
    have p21 := (HB.out).cell 21
    simp only [List.getElem?_cons_succ, List.getElem?_cons_zero] at p0 p21
    go_wp2_with fail
    go_ret
    exact ⟨rfl, HX.out⟩
  · have hT : s.body = ⟨#[82, 79, 76, 76, 66, 65, 67, 75]⟩ := by unfold St.body; simp [hk]
    rw [hT]
    clear HW z3
    have e1 : (s.kd == 1) = false := by simp [hk]
    have e2 : (s.kd == 2) = false := by simp [hk]
    have e3 : (s.kd == 3) = false := by simp [hk]
    have e4 : (s.kd == 4) = false := by simp [hk]
    have e5 : (s.kd == 5) = false := by simp [hk]
    have e6 : (s.kd == 6) = false := by simp [hk]
    have e7 : (s.kd == 7) = false := by simp [hk]
    have e8 : (s.kd == 8) = true := by simp [hk]
    have e9 : (s.kd == 9) = false := by simp [hk]
    have e10 : (s.kd == 10) = false := by simp [hk]
    clear hg hv hk hcK hcR hf hF hb hkk hsb hlb hT hkd
    unfold St.val at *
    unfold St.cells Sl.v at *
    go_enter Tryz.func43, Tryz.ntmps43
    go_upto_region 1 with fail
    generalize w.alloc (.cells _ 38) = w1 at *
    generalize w.heap.size = g at *
    have p0 := (HB.out).cell 0
    have p21 := (HB.out).cell 21
    simp only [List.getElem?_cons_succ, List.getElem?_cons_zero] at p0 p21
    go_wp2_with fail
    go_ret
    exact ⟨rfl, HX.out⟩
  · have hT : s.body = ⟨#[83, 65, 86, 69, 80, 79, 73, 78, 84, 32]⟩ ++ s.nm := by unfold St.body; simp [hk]
    rw [hT]
    clear HW z3
    have e1 : (s.kd == 1) = false := by simp [hk]
    have e2 : (s.kd == 2) = false := by simp [hk]
    have e3 : (s.kd == 3) = false := by simp [hk]
    have e4 : (s.kd == 4) = false := by simp [hk]
    have e5 : (s.kd == 5) = false := by simp [hk]
    have e6 : (s.kd == 6) = false := by simp [hk]
    have e7 : (s.kd == 7) = false := by simp [hk]
    have e8 : (s.kd == 8) = false := by simp [hk]
    have e9 : (s.kd == 9) = true := by simp [hk]
    have e10 : (s.kd == 10) = false := by simp [hk]
    clear hg hv hk hcK hcR hf hF hb hkk hsb hlb hT hkd
    unfold St.val at *
    unfold St.cells Sl.v at *
    go_enter Tryz.func43, Tryz.ntmps43
    go_upto_region 1 with fail
    generalize w.alloc (.cells _ 38) = w1 at *
    generalize w.heap.size = g at *
    have p0 := (HB.out).cell 0
    have p21 := (HB.out).cell 21
    simp only [List.getElem?_cons_succ, List.getElem?_cons_zero] at p0 p21
    go_wp2_with fail
    go_ret
    exact ⟨rfl, HX.out⟩
  · have hT : s.body = ⟨#[82, 79, 76, 76, 66, 65, 67, 75, 32, 84, 79, 32]⟩ ++ s.nm := by unfold St.body; simp [hk]
    rw [hT]
    clear HW z3
    have e1 : (s.kd == 1) = false := by simp [hk]
    have e2 : (s.kd == 2) = false := by simp [hk]
    have e3 : (s.kd == 3) = false := by simp [hk]
    have e4 : (s.kd == 4) = false := by simp [hk]
    have e5 : (s.kd == 5) = false := by simp [hk]
    have e6 : (s.kd == 6) = false := by simp [hk]
    have e7 : (s.kd == 7) = false := by simp [hk]
    have e8 : (s.kd == 8) = false := by simp [hk]
    have e9 : (s.kd == 9) = false := by simp [hk]
    have e10 : (s.kd == 10) = true := by simp [hk]
    clear hg hv hk hcK hcR hf hF hb hkk hsb hlb hT hkd
    unfold St.val at *
    unfold St.cells Sl.v at *
    go_enter Tryz.func43, Tryz.ntmps43
    go_upto_region 1 with fail
    generalize w.alloc (.cells _ 38) = w1 at *
    generalize w.heap.size = g at *
    have p0 := (HB.out).cell 0
    have p21 := (HB.out).cell 21
    simp only [List.getElem?_cons_succ, List.getElem?_cons_zero] at p0 p21
    go_wp2_with fail
    go_ret
    exact ⟨rfl, HX.out⟩
  · have hT : s.body = ⟨#[82, 69, 76, 69, 65, 83, 69, 32]⟩ ++ s.nm := by unfold St.body; simp [hk]
    rw [hT]
    clear HW z3
    have e1 : (s.kd == 1) = false := by simp [hk]
    have e2 : (s.kd == 2) = false := by simp [hk]
    have e3 : (s.kd == 3) = false := by simp [hk]
    have e4 : (s.kd == 4) = false := by simp [hk]
    have e5 : (s.kd == 5) = false := by simp [hk]
    have e6 : (s.kd == 6) = false := by simp [hk]
    have e7 : (s.kd == 7) = false := by simp [hk]
    have e8 : (s.kd == 8) = false := by simp [hk]
    have e9 : (s.kd == 9) = false := by simp [hk]
    have e10 : (s.kd == 10) = false := by simp [hk]
    clear hg hv hk hcK hcR hf hF hb hkk hsb hlb hT hkd
    unfold St.val at *
    unfold St.cells Sl.v at *
    go_enter Tryz.func43, Tryz.ntmps43
    go_upto_region 1 with fail
    generalize w.alloc (.cells _ 38) = w1 at *
    generalize w.heap.size = g at *
    have p0 := (HB.out).cell 0
    have p21 := (HB.out).cell 21
    simp only [List.getElem?_cons_succ, List.getElem?_cons_zero] at p0 p21
    go_wp2_with fail
    go_ret
    exact ⟨rfl, HX.out⟩
end Go.Proofs.YtcdnodjcnofogaaGreatDoor
namespace Go.Proofs.YtcdnodjcnofogaaGreatDoor
open Go.RowKit
set_option linter.unusedVariables false
set_option linter.unusedSimpArgs false
set_option maxHeartbeats 4000000
set_option maxRecDepth 100000

theorem agW_2 : agW 2 = ⟨#[67, 79, 85, 78, 84]⟩ := rfl
theorem agW_3 : agW 3 = ⟨#[83, 85, 77]⟩ := rfl
theorem agW_4 : agW 4 = ⟨#[77, 73, 78]⟩ := rfl
theorem agW_5 : agW 5 = ⟨#[77, 65, 88]⟩ := rfl
theorem rwhere_any (s : St) (a : SA) (w : World) (hv : ExV w s.whr a.whr.A a.whr.n a.whr.c) (hf : s.whr.absent = true ∨ s.whr.formed = true) (hs : s.whr.size ≤ 1000) :
    Calls Tryz.prog 98 #[s.val a] w fun r w' => r = .returned (.string s.whT) ∧ Ext w w' := by
  unfold St.whT
  have HB := hid (Blk.of_new w 38 (s.cells a))
  have HX := hid ((Ext.refl w).alloc (.cells (s.cells a).toArray 38))
  unfold St.val at *
  unfold St.cells Sl.v at *
  cases hab : s.whr.absent
  · have hf2 := hf.resolve_left (by rw [hab]; simp)
    have HE := hid (fun W (hW : Ext w W) => rprint_any s.whr 1 a.whr.A a.whr.n a.whr.c W (hv.ext hW) hf2 hs)
    have hts : (s.whr.tx 1).size ≤ 100000 := by have := tx_size s.whr 1 hf2; omega
    have ho : (s.whr.d.op == 0) = false := by
      have h : s.whr.d.op ≠ 0 := by
        generalize s.whr = e at hf2
        cases e with
        | mk d ks => exact formed_op hf2
      simpa using h
    unfold Nd.val at HE
    clear hv hf hs hab hf2
    unfold sWhere
    simp only [Bool.false_eq_true, if_false]
    generalize s.whr.tx 1 = T at *
    go_enter Tryz.func98, Tryz.ntmps98
    go_wp2_with (go_at_call 50; refine (HE.out _ HX.out).mono ?_; rintro _ w4 ⟨rfl, hx4⟩)
    go_ret
    exact ⟨rfl, HX.out.trans hx4⟩
  · have ho : (s.whr.d.op == 0) = true := by
      unfold Ex.absent at hab
      simp only [Bool.and_eq_true] at hab
      exact hab.1.1.1.1
    clear hv hf hs hab
    simp only [if_true]
    go_enter Tryz.func98, Tryz.ntmps98
    go_wp2_with fail
    go_ret
    exact ⟨rfl, HX.out⟩
theorem itm_cases {x : Itm} (h : x.ok = true) : (x.ag = 1 ∨ x.ag = 0 ∧ x.ex.formed = true ∨ (x.ag = 2 ∨ x.ag = 3 ∨ x.ag = 4 ∨ x.ag = 5) ∧ x.ex.formed = true) := by
  unfold Itm.ok at h
  split at h
  · rename_i h1; exact .inl (by simpa using h1)
  · rename_i h1
    have h1 : x.ag ≠ 1 := by simpa using h1
    simp only [Bool.and_eq_true, decide_eq_true_eq] at h
    by_cases h0 : x.ag = 0
    · exact .inr (.inl ⟨h0, h.2⟩)
    · exact .inr (.inr ⟨by omega, h.2⟩)
theorem ritems_any (l : List Itm) (A : Option Addr) (n c : Nat) (w : World) (hl : l.length = n) (hn : n ≤ 1048576) (hk : ItmsAt w A l) (hf : l.all Itm.ok = true) (hs : ∀ x ∈ l, x.ex.size ≤ 1000) (hz : sumS (l.map Itm.tx) ≤ 1000000000) :
    Calls Tryz.prog 150 #[.slice A n c] w fun r w' => r = .returned (.string (if l.length = 0 then ⟨#[42]⟩ else cma (l.map Itm.tx))) ∧ Ext w w' := by
  obtain ⟨i0, hi, hz0, hz1, hz2⟩ := info_parts info_str
  have HL := hid hl
  have HK := hid hk
  have HF := hid hf
  have HS := hid hs
  have HZ := hid hz
  rw [hl]
  clear hl hk hf hs hz
  by_cases h0 : n = 0
  · subst h0
    simp only [if_true]
    go_enter Tryz.func150, Tryz.ntmps150
    go_wp2_with fail
    go_ret
    exact ⟨rfl, Ext.refl w⟩
  · have hd : ((n : Int) == 0) = false := by simp [h0]
    rw [if_neg h0]
    clear h0
    go_enter Tryz.func150, Tryz.ntmps150
    go_wp2_with fail
    have HO0 := hid (own_room w 9 1 0 0 0 w.heap.size #[] (Nat.le_refl _) rfl (by decide))
    go_loopw [3, 4] (fun nv iv wr => ∃ (k : Nat), k ≤ n ∧ iv = .int .i64 k ∧ wr.ownsRow w.heap.size 9 1 nv k (strV ((l.take k).map Itm.tx)) ∧ Ext w wr) (fun _ i _ => n - (intOf i).toNat)
    case atStart => exact ⟨0, Nat.zero_le _, rfl, HO0.out, (Ext.refl w).alloc _⟩
    case round =>
      obtain ⟨k, hkn, rfl, hown, hxr⟩ := hrel
      have HO := hid hown
      have HXr := hid hxr
      clear hown
      by_cases hlt : k < n
      · obtain ⟨x, hx⟩ := rat_lt HL.out hlt
        have hk2 := HK.out.ext hxr
        obtain ⟨b, off, Ai, ni, ci, rfl, q0, q1, q2, q3, q4, q5, q6, q7, q8, h1⟩ := itm_get hk2 hx
        have HT : Hid ((l.take (k + 1)).map Itm.tx = (l.take k).map Itm.tx ++ [x.tx]) := by unfold Hid; rw [takeA hx, List.map_append]; rfl
        have hc := itm_cases (List.all_eq_true.1 HF.out x (List.mem_of_getElem? hx))
        have hsx := HS.out x (List.mem_of_getElem? hx)
        have HE := hid (fun W (hW : Ext wr W) (hf : x.ex.formed = true) => rprint_any x.ex 1 Ai ni ci W (h1.ext hW) hf hsx)
        have hts : x.ex.formed = true → (x.ex.tx 1).size ≤ 100000 := fun hf => by have := tx_size x.ex 1 hf; omega
        have HTx : Hid (x.tx = if x.ag = 1 then ⟨#[67, 79, 85, 78, 84, 40, 42, 41]⟩ else if x.ag = 0 then x.ex.tx 1 else agW x.ag ++ ⟨#[40]⟩ ++ x.ex.tx 1 ++ ⟨#[41]⟩) := rfl
        have HQ : Hid (∀ W, Ext wr W → W.cell? ⟨b, off + k * 9, none⟩ = some (.int .i64 x.ag) ∧ W.cell? ⟨b, off + k * 9 + 1, none⟩ = some (.int .i64 x.ex.d.op) ∧ W.cell? ⟨b, off + k * 9 + 2, none⟩ = some (.string x.ex.d.tb) ∧ W.cell? ⟨b, off + k * 9 + 3, none⟩ = some (.string x.ex.d.nm) ∧ W.cell? ⟨b, off + k * 9 + 4, none⟩ = some (.int .i64 x.ex.d.ix) ∧ W.cell? ⟨b, off + k * 9 + 5, none⟩ = some (.int .i64 x.ex.d.vk) ∧ W.cell? ⟨b, off + k * 9 + 6, none⟩ = some (.int .i64 x.ex.d.vi) ∧ W.cell? ⟨b, off + k * 9 + 7, none⟩ = some (.string x.ex.d.vt) ∧ W.cell? ⟨b, off + k * 9 + 8, none⟩ = some (.slice Ai ni ci)) := fun W hW => ⟨hW.keep q0, hW.keep q1, hW.keep q2, hW.keep q3, hW.keep q4, hW.keep q5, hW.keep q6, hW.keep q7, hW.keep q8⟩
        clear hx hxr h1 hk2 hsx q0 q1 q2 q3 q4 q5 q6 q7 q8
        unfold Nd.val at HE
        have HXA := hid ((Ext.refl wr).alloc (.cells #[.string ⟨#[]⟩, .string ⟨#[67, 79, 85, 78, 84]⟩, .string ⟨#[67, 79, 85, 78, 84]⟩, .string ⟨#[83, 85, 77]⟩, .string ⟨#[77, 73, 78]⟩, .string ⟨#[77, 65, 88]⟩] 9))
        have HB := hid (Blk.of_new wr 9 [.string ⟨#[]⟩, .string ⟨#[67, 79, 85, 78, 84]⟩, .string ⟨#[67, 79, 85, 78, 84]⟩, .string ⟨#[83, 85, 77]⟩, .string ⟨#[77, 73, 78]⟩, .string ⟨#[77, 65, 88]⟩])
        have hQ := HQ.out _ HXA.out
        obtain ⟨e0, e1, e2, e3, e4, e5, e6, e7, e8⟩ := hQ
        have b0 := HB.out.cell 0
        have b1 := HB.out.cell 1
        have b2 := HB.out.cell 2
        have b3 := HB.out.cell 3
        have b4 := HB.out.cell 4
        have b5 := HB.out.cell 5
        simp only [List.getElem?_cons_succ, List.getElem?_cons_zero] at b0 b1 b2 b3 b4 b5
        obtain ⟨ag, ex⟩ := x
        simp only at *
        generalize Itm.tx ⟨ag, ex⟩ = TX at *
        rcases hc with rfl | ⟨rfl, hf⟩ | ⟨rfl | rfl | rfl | rfl, hf⟩
        · have hT := HTx.out
          simp only [if_true] at hT
          rw [hT] at HT
          clear hT HTx HE hts
          go_upto_region 8 with fail
          generalize wr.alloc (.cells _ 9) = wq at *
          go_wp2_with (at_builtin; refine wpList_append_any _ rfl (.tmp 55) (.tmp 56) 65 rfl w.heap.size 9 i0 _ 1 16 Tryz.underlying65 hi hz0 hz1 hz2 rfl (by decide) _ (k) _ rfl ((ownN_ext HO.out HXA.out).alloc _) _ _ 1 1 [.string ⟨#[67, 79, 85, 78, 84, 40, 42, 41]⟩] rfl (reads_new1 _ _ _) (by simp [Value.oneCell']) (by unfold maxLen; omega) (by omega) (Nat.le_trans (HXr.out.trans HXA.out).size (by simp)) ?_; intro v1 w5 hown5 hgr5 hblk5; have HO5 := hid hown5; have HG5 := hid hgr5; clear hown5 hgr5 hblk5)
          go_roundw
          case rel =>
            have hge := own_atN HO.out
            refine ⟨k + 1, by omega, by go_num, ?_, ((HXr.out.trans HXA.out).alloc _).grown HG5.out fun q hq => hge q hq⟩
            rw [HT.out, strV_app]
            exact HO5.out
          case measure => simp [intOf]; omega
        · have hT := HTx.out
          simp only [(by decide : ¬ (0 : Int) = 1), if_true, if_false] at hT
          rw [hT] at HT
          have HE2 := hid (HE.out _ HXA.out hf)
          have hz := hts hf
          clear hT HTx HE hts
          generalize ex.tx 1 = T1 at *
          go_wp2_with (first | (go_at_call 50; (with_reducible refine HE2.out.mono ?_); rintro _ w2 ⟨rfl, hx2⟩) | (at_builtin; refine wpList_append_any _ rfl (.tmp 44) (.tmp 51) 65 rfl w.heap.size 9 i0 _ 1 16 Tryz.underlying65 hi hz0 hz1 hz2 rfl (by decide) _ (k) _ rfl ((ownN_ext HO.out (HXA.out.trans hx2)).alloc _) _ _ 1 1 [.string T1] rfl (reads_new1 w2 _ _) (by simp [Value.oneCell']) (by unfold maxLen; omega) (by omega) (Nat.le_trans (HXr.out.trans (HXA.out.trans hx2)).size (by simp)) ?_; intro v1 w5 hown5 hgr5 hblk5; have HO5 := hid hown5; have HG5 := hid hgr5; clear hown5 hgr5 hblk5))
          go_roundw
          case rel =>
            have hge := own_atN HO.out
            refine ⟨k + 1, by omega, by go_num, ?_, ((HXr.out.trans (HXA.out.trans hx2)).alloc _).grown HG5.out fun q hq => hge q hq⟩
            rw [HT.out, strV_app]
            exact HO5.out
          case measure => simp [intOf]; omega
        · have hT := HTx.out
          simp only [(by decide : ¬ (2 : Int) = 1), (by decide : ¬ (2 : Int) = 0), if_false, agW_2] at hT
          rw [hT] at HT
          have HE2 := hid (HE.out _ HXA.out hf)
          have hz := hts hf
          clear hT HTx HE hts
          generalize ex.tx 1 = T1 at *
          go_wp2_with (first | (go_at_call 50; (with_reducible refine HE2.out.mono ?_); rintro _ w2 ⟨rfl, hx2⟩) | (at_builtin; generalize ⟨#[67, 79, 85, 78, 84]⟩ ++ ⟨#[40]⟩ ++ T1 ++ ⟨#[41]⟩ = TB at *; refine wpList_append_any _ rfl (.tmp 29) (.tmp 40) 65 rfl w.heap.size 9 i0 _ 1 16 Tryz.underlying65 hi hz0 hz1 hz2 rfl (by decide) _ (k) _ rfl ((ownN_ext HO.out (HXA.out.trans hx2)).alloc _) _ _ 1 1 [.string TB] rfl (reads_new1 w2 _ _) (by simp [Value.oneCell']) (by unfold maxLen; omega) (by omega) (Nat.le_trans (HXr.out.trans (HXA.out.trans hx2)).size (by simp)) ?_; intro v1 w5 hown5 hgr5 hblk5; have HO5 := hid hown5; have HG5 := hid hgr5; clear hown5 hgr5 hblk5))
          go_roundw
          case rel =>
            have hge := own_atN HO.out
            refine ⟨k + 1, by omega, by go_num, ?_, ((HXr.out.trans (HXA.out.trans hx2)).alloc _).grown HG5.out fun q hq => hge q hq⟩
            rw [HT.out, strV_app]
            exact HO5.out
          case measure => simp [intOf]; omega
        · have hT := HTx.out
          simp only [(by decide : ¬ (3 : Int) = 1), (by decide : ¬ (3 : Int) = 0), if_false, agW_3] at hT
          rw [hT] at HT
          have HE2 := hid (HE.out _ HXA.out hf)
          have hz := hts hf
          clear hT HTx HE hts
          generalize ex.tx 1 = T1 at *
          go_wp2_with (first | (go_at_call 50; (with_reducible refine HE2.out.mono ?_); rintro _ w2 ⟨rfl, hx2⟩) | (at_builtin; generalize ⟨#[83, 85, 77]⟩ ++ ⟨#[40]⟩ ++ T1 ++ ⟨#[41]⟩ = TB at *; refine wpList_append_any _ rfl (.tmp 29) (.tmp 40) 65 rfl w.heap.size 9 i0 _ 1 16 Tryz.underlying65 hi hz0 hz1 hz2 rfl (by decide) _ (k) _ rfl ((ownN_ext HO.out (HXA.out.trans hx2)).alloc _) _ _ 1 1 [.string TB] rfl (reads_new1 w2 _ _) (by simp [Value.oneCell']) (by unfold maxLen; omega) (by omega) (Nat.le_trans (HXr.out.trans (HXA.out.trans hx2)).size (by simp)) ?_; intro v1 w5 hown5 hgr5 hblk5; have HO5 := hid hown5; have HG5 := hid hgr5; clear hown5 hgr5 hblk5))
          go_roundw
          case rel =>
            have hge := own_atN HO.out
            refine ⟨k + 1, by omega, by go_num, ?_, ((HXr.out.trans (HXA.out.trans hx2)).alloc _).grown HG5.out fun q hq => hge q hq⟩
            rw [HT.out, strV_app]
            exact HO5.out
          case measure => simp [intOf]; omega
        · have hT := HTx.out
          simp only [(by decide : ¬ (4 : Int) = 1), (by decide : ¬ (4 : Int) = 0), if_false, agW_4] at hT
          rw [hT] at HT
          have HE2 := hid (HE.out _ HXA.out hf)
          have hz := hts hf
          clear hT HTx HE hts
          generalize ex.tx 1 = T1 at *
          go_wp2_with (first | (go_at_call 50; (with_reducible refine HE2.out.mono ?_); rintro _ w2 ⟨rfl, hx2⟩) | (at_builtin; generalize ⟨#[77, 73, 78]⟩ ++ ⟨#[40]⟩ ++ T1 ++ ⟨#[41]⟩ = TB at *; refine wpList_append_any _ rfl (.tmp 29) (.tmp 40) 65 rfl w.heap.size 9 i0 _ 1 16 Tryz.underlying65 hi hz0 hz1 hz2 rfl (by decide) _ (k) _ rfl ((ownN_ext HO.out (HXA.out.trans hx2)).alloc _) _ _ 1 1 [.string TB] rfl (reads_new1 w2 _ _) (by simp [Value.oneCell']) (by unfold maxLen; omega) (by omega) (Nat.le_trans (HXr.out.trans (HXA.out.trans hx2)).size (by simp)) ?_; intro v1 w5 hown5 hgr5 hblk5; have HO5 := hid hown5; have HG5 := hid hgr5; clear hown5 hgr5 hblk5))
          go_roundw
          case rel =>
            have hge := own_atN HO.out
            refine ⟨k + 1, by omega, by go_num, ?_, ((HXr.out.trans (HXA.out.trans hx2)).alloc _).grown HG5.out fun q hq => hge q hq⟩
            rw [HT.out, strV_app]
            exact HO5.out
          case measure => simp [intOf]; omega
        · have hT := HTx.out
          simp only [(by decide : ¬ (5 : Int) = 1), (by decide : ¬ (5 : Int) = 0), if_false, agW_5] at hT
          rw [hT] at HT
          have HE2 := hid (HE.out _ HXA.out hf)
          have hz := hts hf
          clear hT HTx HE hts
          generalize ex.tx 1 = T1 at *
          go_wp2_with (first | (go_at_call 50; (with_reducible refine HE2.out.mono ?_); rintro _ w2 ⟨rfl, hx2⟩) | (at_builtin; generalize ⟨#[77, 65, 88]⟩ ++ ⟨#[40]⟩ ++ T1 ++ ⟨#[41]⟩ = TB at *; refine wpList_append_any _ rfl (.tmp 29) (.tmp 40) 65 rfl w.heap.size 9 i0 _ 1 16 Tryz.underlying65 hi hz0 hz1 hz2 rfl (by decide) _ (k) _ rfl ((ownN_ext HO.out (HXA.out.trans hx2)).alloc _) _ _ 1 1 [.string TB] rfl (reads_new1 w2 _ _) (by simp [Value.oneCell']) (by unfold maxLen; omega) (by omega) (Nat.le_trans (HXr.out.trans (HXA.out.trans hx2)).size (by simp)) ?_; intro v1 w5 hown5 hgr5 hblk5; have HO5 := hid hown5; have HG5 := hid hgr5; clear hown5 hgr5 hblk5))
          go_roundw
          case rel =>
            have hge := own_atN HO.out
            refine ⟨k + 1, by omega, by go_num, ?_, ((HXr.out.trans (HXA.out.trans hx2)).alloc _).grown HG5.out fun q hq => hge q hq⟩
            rw [HT.out, strV_app]
            exact HO5.out
          case measure => simp [intOf]; omega
      · obtain rfl : k = n := by omega
        rw [List.take_of_length_le (Nat.le_of_eq HL.out)] at HO
        have HJ := hid (rcomma_own _ _ _ _ wr HO.out HZ.out)
        go_wp2_with (go_at_call 97; refine HJ.out.mono ?_; rintro _ w2 ⟨rfl, hx2⟩)
        go_ret
        exact ⟨rfl, HXr.out.trans hx2⟩
end Go.Proofs.YtcdnodjcnofogaaGreatDoor
