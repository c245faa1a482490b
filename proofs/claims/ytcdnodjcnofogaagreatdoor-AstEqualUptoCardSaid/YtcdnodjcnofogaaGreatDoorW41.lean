/-
  Walks: EqualFunc, for the slices of a statement, and its closures.
-/
import Derived.Test.YtcdnodjcnofogaaGreatDoorW40
namespace Go.Proofs.YtcdnodjcnofogaaGreatDoor
open Go.RowKit
set_option linter.unusedVariables false
set_option linter.unusedSimpArgs false
set_option maxHeartbeats 4000000
set_option maxRecDepth 100000

theorem eqexprs_any (l m : List Ex) (A B : Option Addr) (n p c c' : Nat) (w : World) (hl : l.length = n) (hm : m.length = p) (hn : n ≤ 9223372036854775807) (hp : p ≤ 9223372036854775807) (hk : KidsAt w A l) (hk2 : KidsAt w B m) :
    Calls Tryz.prog 51 #[.slice A n c, .slice B p c'] w fun r w' => r = .returned (.bool (sameL l m)) ∧ Ext w w' := by
  have HE := hid (eqfunc_ex l m A B n p c c' w hl hm hn hp hk hk2 fun x hx y A1 A2 n1 n2 c1 c2 W2 hv1 hv2 => equal_any x y A1 A2 n1 n2 c1 c2 W2 hv1 hv2)
  generalize sameL l m = S at *
  go_enter Tryz.func51, Tryz.ntmps51
  go_wp2_with fail
  refine HE.out.mono ?_
  rintro _ w2 ⟨rfl, hx2⟩
  go_wp2_with fail
  go_ret
  exact ⟨rfl, hx2⟩
theorem rsames_any (l m : List Ex) (A B : Option Addr) (n p c c' : Nat) (w : World) (hl : l.length = n) (hm : m.length = p) (hn : n ≤ 9223372036854775807) (hp : p ≤ 9223372036854775807) (hk : KidsAt w A l) (hk2 : KidsAt w B m) :
    Calls Tryz.prog 52 #[.slice A n c, .slice B p c'] w fun r w' => r = .returned (.bool (sameL l m)) ∧ Ext w w' :=
  rsames_ex l m A B n p c c' w hl hm hn hp hk hk2 fun x hx y A1 A2 n1 n2 c1 c2 W2 hv1 hv2 => rsame_any x y A1 A2 n1 n2 c1 c2 W2 hv1 hv2
theorem cl_asg (x y : Asg) (A1 A2 : Option Addr) (n1 n2 c1 c2 : Nat) (w : World) (hv : ExV w x.ex A1 n1 c1) (hv2 : ExV w y.ex A2 n2 c2) :
    Calls Tryz.prog 57 #[.agg #[.string x.cl, .int .i64 x.ix, .int .i64 x.ex.d.op, .string x.ex.d.tb, .string x.ex.d.nm, .int .i64 x.ex.d.ix, .int .i64 x.ex.d.vk, .int .i64 x.ex.d.vi, .string x.ex.d.vt, .slice A1 n1 c1], .agg #[.string y.cl, .int .i64 y.ix, .int .i64 y.ex.d.op, .string y.ex.d.tb, .string y.ex.d.nm, .int .i64 y.ex.d.ix, .int .i64 y.ex.d.vk, .int .i64 y.ex.d.vi, .string y.ex.d.vt, .slice A2 n2 c2]] w fun r w' => r = .returned (.bool (x.same y)) ∧ Ext w w' := by
  have HC := hid (fun W (hW : Ext w W) => equal_any x.ex y.ex A1 A2 n1 n2 c1 c2 W (hv.ext hW) (hv2.ext hW))
  have HS : Hid (x.same y = (x.cl.toList == y.cl.toList && x.ex.same y.ex)) := by unfold Hid Asg.same sN; simp [str_eq]
  rw [HS.out]
  clear hv hv2 HS
  unfold Nd.val at HC
  generalize x.ex.same y.ex = R at *
  generalize x.ex.d = d at *
  generalize y.ex.d = d' at *
  obtain ⟨op, tb, nm, ix, vk, vi, vt⟩ := d
  obtain ⟨op', tb', nm', ix', vk', vi', vt'⟩ := d'
  simp only at *
  go_enter Tryz.func57, Tryz.ntmps57
  go_wp2_with (go_at_call 23; refine (HC.out _ (((Ext.refl w).alloc _).alloc _)).mono ?_; rintro _ w2 ⟨rfl, hx2⟩)
  all_goals
    go_ret
    refine ⟨ret_bool (by simp [*]), ?_⟩
    first | exact (((Ext.refl w).alloc _).alloc _).trans hx2 | exact ((Ext.refl w).alloc _).alloc _
theorem cl_itm (x y : Itm) (A1 A2 : Option Addr) (n1 n2 c1 c2 : Nat) (w : World) (hv : ExV w x.ex A1 n1 c1) (hv2 : ExV w y.ex A2 n2 c2) :
    Calls Tryz.prog 58 #[.agg #[.int .i64 x.ag, .int .i64 x.ex.d.op, .string x.ex.d.tb, .string x.ex.d.nm, .int .i64 x.ex.d.ix, .int .i64 x.ex.d.vk, .int .i64 x.ex.d.vi, .string x.ex.d.vt, .slice A1 n1 c1], .agg #[.int .i64 y.ag, .int .i64 y.ex.d.op, .string y.ex.d.tb, .string y.ex.d.nm, .int .i64 y.ex.d.ix, .int .i64 y.ex.d.vk, .int .i64 y.ex.d.vi, .string y.ex.d.vt, .slice A2 n2 c2]] w fun r w' => r = .returned (.bool (x.same y)) ∧ Ext w w' := by
  have HC := hid (fun W (hW : Ext w W) => equal_any x.ex y.ex A1 A2 n1 n2 c1 c2 W (hv.ext hW) (hv2.ext hW))
  have HS : Hid (x.same y = (x.ag == y.ag && x.ex.same y.ex)) := by unfold Hid Itm.same; simp [str_eq]
  rw [HS.out]
  clear hv hv2 HS
  unfold Nd.val at HC
  generalize x.ex.same y.ex = R at *
  generalize x.ex.d = d at *
  generalize y.ex.d = d' at *
  obtain ⟨op, tb, nm, ix, vk, vi, vt⟩ := d
  obtain ⟨op', tb', nm', ix', vk', vi', vt'⟩ := d'
  simp only at *
  go_enter Tryz.func58, Tryz.ntmps58
  go_wp2_with (go_at_call 23; refine (HC.out _ (((Ext.refl w).alloc _).alloc _)).mono ?_; rintro _ w2 ⟨rfl, hx2⟩)
  all_goals
    go_ret
    refine ⟨ret_bool (by simp [*]), ?_⟩
    first | exact (((Ext.refl w).alloc _).alloc _).trans hx2 | exact ((Ext.refl w).alloc _).alloc _
theorem cl_rf (x y : Rf) (A1 A2 B1 B2 : Option Addr) (n1 n2 m1 m2 c1 c2 d1 d2 : Nat) (w : World) (h1 : x.cs.length = n1) (h2 : n1 ≤ 9223372036854775807) (h3 : StrsAt w A1 x.cs) (h4 : x.tg.length = n2) (h5 : n2 ≤ 9223372036854775807) (h6 : StrsAt w A2 x.tg)
    (g1 : y.cs.length = m1) (g2 : m1 ≤ 9223372036854775807) (g3 : StrsAt w B1 y.cs) (g4 : y.tg.length = m2) (g5 : m2 ≤ 9223372036854775807) (g6 : StrsAt w B2 y.tg) :
    Calls Tryz.prog 61 #[.agg #[.slice A1 n1 c1, .string x.tb, .slice A2 n2 c2], .agg #[.slice B1 m1 d1, .string y.tb, .slice B2 m2 d2]] w fun r w' => r = .returned (.bool (x.same y)) ∧ Ext w w' := by
  have HC := hid (fun W (hW : Ext w W) => eq_str x.cs y.cs A1 B1 n1 m1 c1 d1 W h1 g1 h2 g2 (h3.ext hW) (g3.ext hW))
  have HD := hid (fun W (hW : Ext w W) => eq_str x.tg y.tg A2 B2 n2 m2 c2 d2 W h4 g4 h5 g5 (h6.ext hW) (g6.ext hW))
  have HS : Hid (x.same y = ((x.tb.toList == y.tb.toList) && allS sN x.cs y.cs && allS sN x.tg y.tg)) := by unfold Hid Rf.same sN; simp [str_eq]
  rw [HS.out]
  clear h1 h2 h3 h4 h5 h6 g1 g2 g3 g4 g5 g6 HS
  generalize allS sN x.cs y.cs = R at *
  generalize allS sN x.tg y.tg = S at *
  have HB := hid ((Blk.of_new w 67 [.slice A1 n1 c1, .string x.tb, .slice A2 n2 c2]).ext ((Ext.refl _).alloc (.cells #[.slice B1 m1 d1, .string y.tb, .slice B2 m2 d2] 67)))
  have hb2 := Blk.of_new (w.alloc (.cells #[.slice A1 n1 c1, .string x.tb, .slice A2 n2 c2] 67)) 67 [.slice B1 m1 d1, .string y.tb, .slice B2 m2 d2]
  rw [show (w.alloc (.cells #[.slice A1 n1 c1, .string x.tb, .slice A2 n2 c2] 67)).heap.size = w.heap.size + 1 by simp] at hb2
  have HB2 := hid hb2
  have HX := hid (((Ext.refl w).alloc (.cells #[.slice A1 n1 c1, .string x.tb, .slice A2 n2 c2] 67)).alloc (.cells #[.slice B1 m1 d1, .string y.tb, .slice B2 m2 d2] 67))
  clear hb2
  go_enter Tryz.func61, Tryz.ntmps61
  go_upto_region 1 with fail
  generalize (w.alloc (.cells #[.slice A1 n1 c1, .string x.tb, .slice A2 n2 c2] 67)).alloc (.cells #[.slice B1 m1 d1, .string y.tb, .slice B2 m2 d2] 67) = w1 at *
  have p0 := HB.out.cell 0
  have p1 := HB.out.cell 1
  have p2 := HB.out.cell 2
  have q0 := HB2.out.cell 0
  have q1 := HB2.out.cell 1
  have q2 := HB2.out.cell 2
  simp only [List.getElem?_cons_succ, List.getElem?_cons_zero] at p0 p1 p2 q0 q1 q2
  generalize w.heap.size = g at *
  obtain ⟨b0, hb0⟩ : ∃ b, (x.tb.toList == y.tb.toList) = b := ⟨_, rfl⟩
  cases b0 <;> cases R
  all_goals
    go_wp2_with (first | (go_at_call 62; (with_reducible refine (HD.out _ (HX.out.trans hx2)).mono ?_); rintro _ w3 ⟨rfl, hx3⟩) | (go_at_call 62; (with_reducible refine (HC.out _ HX.out).mono ?_); rintro _ w2 ⟨rfl, hx2⟩; have e2 := (HB.out.ext hx2).cell 2; have f2 := (HB2.out.ext hx2).cell 2; simp only [List.getElem?_cons_succ, List.getElem?_cons_zero] at e2 f2))
    go_ret
    first | exact ⟨ret_bool (by simp [hb0]), (HX.out.trans hx2).trans hx3⟩ | exact ⟨ret_bool (by simp [hb0]), HX.out.trans hx2⟩ | exact ⟨ret_bool (by simp [hb0]), HX.out⟩
theorem ef_asg (l m : List Asg) (A B : Option Addr) (n p c c' : Nat) (w : World) (hl : l.length = n) (hm : m.length = p) (hn : n ≤ 9223372036854775807) (hp : p ≤ 9223372036854775807) (hk : AsgsAt w A l) (hk2 : AsgsAt w B m) :
    Calls Tryz.prog 59 #[.slice A n c, .slice B p c', .func (Fn.func 57) #[] #[]] w fun r w' => r = .returned (.bool (allS Asg.same l m)) ∧ Ext w w' := by
  have HL := hid hl
  have HM := hid hm
  have HK := hid hk
  have HK2 := hid hk2
  clear hl hm hk hk2
  by_cases hnp : n = p
  · subst hnp
    have bN : ((n : Int) != (n : Int)) = false := by simp
    go_enter Tryz.func59, Tryz.ntmps59
    go_wp2_with fail
    go_loopw [17] (fun iv wr => ∃ (k : Nat), k ≤ n ∧ iv = .int .i64 k ∧ STo Asg.same l m k ∧ Ext w wr) (fun i _ => n - (intOf i).toNat)
    case atStart => exact ⟨0, Nat.zero_le _, rfl, STo.zero _ l m, Ext.refl w⟩
    case round =>
      obtain ⟨k, hkn, rfl, hr, hxr⟩ := hrel
      have HXr := hid hxr
      have HRr := hid hr
      by_cases hlt : k < n
      · obtain ⟨x, hx⟩ := rat_lt HL.out hlt
        obtain ⟨y, hy⟩ := rat_lt HM.out hlt
        obtain ⟨b, off, A1, n1, c1, rfl, q0, q1, q2, q3, q4, q5, q6, q7, q8, q9, hv⟩ := asg_get (HK.out.ext hxr) hx
        obtain ⟨b2, off2, A2, n2, c2, rfl, s0, s1, s2, s3, s4, s5, s6, s7, s8, s9, hv2⟩ := asg_get (HK2.out.ext hxr) hy
        have p0 := fun o => ((Ext.refl wr).alloc o).keep s0
        have p1 := fun o => ((Ext.refl wr).alloc o).keep s1
        have p2 := fun o => ((Ext.refl wr).alloc o).keep s2
        have p3 := fun o => ((Ext.refl wr).alloc o).keep s3
        have p4 := fun o => ((Ext.refl wr).alloc o).keep s4
        have p5 := fun o => ((Ext.refl wr).alloc o).keep s5
        have p6 := fun o => ((Ext.refl wr).alloc o).keep s6
        have p7 := fun o => ((Ext.refl wr).alloc o).keep s7
        have p8 := fun o => ((Ext.refl wr).alloc o).keep s8
        have p9 := fun o => ((Ext.refl wr).alloc o).keep s9
        have HC := hid (fun W (hW : Ext wr W) => cl_asg x y A1 A2 n1 n2 c1 c2 W (hv.ext hW) (hv2.ext hW))
        have HE := hid hx
        have HE2 := hid hy
        clear hx hy hv hv2 hxr hr s0 s1 s2 s3 s4 s5 s6 s7 s8 s9
        cases hp : Asg.same x y
        · rw [hp] at HC
          have HP : Hid (allS Asg.same l m = false) := allS_no HE.out HE2.out hp
          clear hp
          go_wp2_with fail
          refine (HC.out _ (((Ext.refl wr).alloc _).alloc _)).mono ?_
          rintro _ w2 ⟨rfl, hx2⟩
          go_wp2_with fail
          go_ret
          exact ⟨ret_bool HP.out.symm, ((HXr.out.alloc _).alloc _).trans hx2⟩
        · rw [hp] at HC
          have HP := hid (HRr.out.succ HE.out HE2.out hp)
          clear hp
          go_wp2_with fail
          refine (HC.out _ (((Ext.refl wr).alloc _).alloc _)).mono ?_
          rintro _ w2 ⟨rfl, hx2⟩
          go_wp2_with fail
          go_roundw
          case rel => exact ⟨k + 1, by omega, by go_num, HP.out, ((HXr.out.alloc _).alloc _).trans hx2⟩
          case measure => simp [intOf]; omega
      · obtain rfl : k = n := by omega
        have HP : Hid (allS Asg.same l m = true) := allS_yes HL.out HM.out HRr.out
        go_wp2_with fail
        go_ret
        exact ⟨ret_bool HP.out.symm, HXr.out⟩
  · have bN : ((n : Int) != (p : Int)) = true := by simp; omega
    have HP : Hid (allS Asg.same l m = false) := allS_len (by rw [HL.out, HM.out]; exact hnp)
    go_enter Tryz.func59, Tryz.ntmps59
    go_wp2_with fail
    go_ret
    exact ⟨ret_bool HP.out.symm, Ext.refl w⟩
theorem ef_itm (l m : List Itm) (A B : Option Addr) (n p c c' : Nat) (w : World) (hl : l.length = n) (hm : m.length = p) (hn : n ≤ 9223372036854775807) (hp : p ≤ 9223372036854775807) (hk : ItmsAt w A l) (hk2 : ItmsAt w B m) :
    Calls Tryz.prog 60 #[.slice A n c, .slice B p c', .func (Fn.func 58) #[] #[]] w fun r w' => r = .returned (.bool (allS Itm.same l m)) ∧ Ext w w' := by
  have HL := hid hl
  have HM := hid hm
  have HK := hid hk
  have HK2 := hid hk2
  clear hl hm hk hk2
  by_cases hnp : n = p
  · subst hnp
    have bN : ((n : Int) != (n : Int)) = false := by simp
    go_enter Tryz.func60, Tryz.ntmps60
    go_wp2_with fail
    go_loopw [17] (fun iv wr => ∃ (k : Nat), k ≤ n ∧ iv = .int .i64 k ∧ STo Itm.same l m k ∧ Ext w wr) (fun i _ => n - (intOf i).toNat)
    case atStart => exact ⟨0, Nat.zero_le _, rfl, STo.zero _ l m, Ext.refl w⟩
    case round =>
      obtain ⟨k, hkn, rfl, hr, hxr⟩ := hrel
      have HXr := hid hxr
      have HRr := hid hr
      by_cases hlt : k < n
      · obtain ⟨x, hx⟩ := rat_lt HL.out hlt
        obtain ⟨y, hy⟩ := rat_lt HM.out hlt
        obtain ⟨b, off, A1, n1, c1, rfl, q0, q1, q2, q3, q4, q5, q6, q7, q8, hv⟩ := itm_get (HK.out.ext hxr) hx
        obtain ⟨b2, off2, A2, n2, c2, rfl, s0, s1, s2, s3, s4, s5, s6, s7, s8, hv2⟩ := itm_get (HK2.out.ext hxr) hy
        have p0 := fun o => ((Ext.refl wr).alloc o).keep s0
        have p1 := fun o => ((Ext.refl wr).alloc o).keep s1
        have p2 := fun o => ((Ext.refl wr).alloc o).keep s2
        have p3 := fun o => ((Ext.refl wr).alloc o).keep s3
        have p4 := fun o => ((Ext.refl wr).alloc o).keep s4
        have p5 := fun o => ((Ext.refl wr).alloc o).keep s5
        have p6 := fun o => ((Ext.refl wr).alloc o).keep s6
        have p7 := fun o => ((Ext.refl wr).alloc o).keep s7
        have p8 := fun o => ((Ext.refl wr).alloc o).keep s8
        have HC := hid (fun W (hW : Ext wr W) => cl_itm x y A1 A2 n1 n2 c1 c2 W (hv.ext hW) (hv2.ext hW))
        have HE := hid hx
        have HE2 := hid hy
        clear hx hy hv hv2 hxr hr s0 s1 s2 s3 s4 s5 s6 s7 s8
        cases hp : Itm.same x y
        · rw [hp] at HC
          have HP : Hid (allS Itm.same l m = false) := allS_no HE.out HE2.out hp
          clear hp
          go_wp2_with fail
          refine (HC.out _ (((Ext.refl wr).alloc _).alloc _)).mono ?_
          rintro _ w2 ⟨rfl, hx2⟩
          go_wp2_with fail
          go_ret
          exact ⟨ret_bool HP.out.symm, ((HXr.out.alloc _).alloc _).trans hx2⟩
        · rw [hp] at HC
          have HP := hid (HRr.out.succ HE.out HE2.out hp)
          clear hp
          go_wp2_with fail
          refine (HC.out _ (((Ext.refl wr).alloc _).alloc _)).mono ?_
          rintro _ w2 ⟨rfl, hx2⟩
          go_wp2_with fail
          go_roundw
          case rel => exact ⟨k + 1, by omega, by go_num, HP.out, ((HXr.out.alloc _).alloc _).trans hx2⟩
          case measure => simp [intOf]; omega
      · obtain rfl : k = n := by omega
        have HP : Hid (allS Itm.same l m = true) := allS_yes HL.out HM.out HRr.out
        go_wp2_with fail
        go_ret
        exact ⟨ret_bool HP.out.symm, HXr.out⟩
  · have bN : ((n : Int) != (p : Int)) = true := by simp; omega
    have HP : Hid (allS Itm.same l m = false) := allS_len (by rw [HL.out, HM.out]; exact hnp)
    go_enter Tryz.func60, Tryz.ntmps60
    go_wp2_with fail
    go_ret
    exact ⟨ret_bool HP.out.symm, Ext.refl w⟩
theorem ef_rows (l m : List (List Ex)) (A B : Option Addr) (n p c c' : Nat) (w : World) (hl : l.length = n) (hm : m.length = p) (hn : n ≤ 9223372036854775807) (hp : p ≤ 9223372036854775807) (hk : RowsAt w A l) (hk2 : RowsAt w B m) (hln : ∀ r ∈ l, r.length ≤ 9223372036854775807) (hmn : ∀ r ∈ m, r.length ≤ 9223372036854775807) :
    Calls Tryz.prog 56 #[.slice A n c, .slice B p c', .func (Fn.func 51) #[] #[]] w fun r w' => r = .returned (.bool (allS sameL l m)) ∧ Ext w w' := by
  have HL := hid hl
  have HM := hid hm
  have HK := hid hk
  have HK2 := hid hk2
  clear hl hm hk hk2
  by_cases hnp : n = p
  · subst hnp
    have bN : ((n : Int) != (n : Int)) = false := by simp
    go_enter Tryz.func56, Tryz.ntmps56
    go_wp2_with fail
    go_loopw [17] (fun iv wr => ∃ (k : Nat), k ≤ n ∧ iv = .int .i64 k ∧ STo sameL l m k ∧ Ext w wr) (fun i _ => n - (intOf i).toNat)
    case atStart => exact ⟨0, Nat.zero_le _, rfl, STo.zero _ l m, Ext.refl w⟩
    case round =>
      obtain ⟨k, hkn, rfl, hr, hxr⟩ := hrel
      have HXr := hid hxr
      have HRr := hid hr
      by_cases hlt : k < n
      · obtain ⟨x, hx⟩ := rat_lt HL.out hlt
        obtain ⟨y, hy⟩ := rat_lt HM.out hlt
        obtain ⟨b, off, A1, n1, c1, rfl, q0, hvl, hv⟩ := (HK.out.ext hxr) k x hx
        obtain ⟨b2, off2, A2, n2, c2, rfl, s0, hv2l, hv2⟩ := (HK2.out.ext hxr) k y hy
        have HC := hid (fun W (hW : Ext wr W) => eqexprs_any x y A1 A2 n1 n2 c1 c2 W hvl hv2l (by have := hln x (List.mem_of_getElem? hx); omega) (by have := hmn y (List.mem_of_getElem? hy); omega) (hv.ext hW) (hv2.ext hW))
        have HE := hid hx
        have HE2 := hid hy
        clear hx hy hv hv2 hxr hr 
        cases hp : sameL x y
        · rw [hp] at HC
          have HP : Hid (allS sameL l m = false) := allS_no HE.out HE2.out hp
          clear hp
          go_wp2_with fail
          refine (HC.out _ (Ext.refl wr)).mono ?_
          rintro _ w2 ⟨rfl, hx2⟩
          go_wp2_with fail
          go_ret
          exact ⟨ret_bool HP.out.symm, HXr.out.trans hx2⟩
        · rw [hp] at HC
          have HP := hid (HRr.out.succ HE.out HE2.out hp)
          clear hp
          go_wp2_with fail
          refine (HC.out _ (Ext.refl wr)).mono ?_
          rintro _ w2 ⟨rfl, hx2⟩
          go_wp2_with fail
          go_roundw
          case rel => exact ⟨k + 1, by omega, by go_num, HP.out, HXr.out.trans hx2⟩
          case measure => simp [intOf]; omega
      · obtain rfl : k = n := by omega
        have HP : Hid (allS sameL l m = true) := allS_yes HL.out HM.out HRr.out
        go_wp2_with fail
        go_ret
        exact ⟨ret_bool HP.out.symm, HXr.out⟩
  · have bN : ((n : Int) != (p : Int)) = true := by simp; omega
    have HP : Hid (allS sameL l m = false) := allS_len (by rw [HL.out, HM.out]; exact hnp)
    go_enter Tryz.func56, Tryz.ntmps56
    go_wp2_with fail
    go_ret
    exact ⟨ret_bool HP.out.symm, Ext.refl w⟩
theorem ef_keys (l m : List (List ByteArray)) (A B : Option Addr) (n p c c' : Nat) (w : World) (hl : l.length = n) (hm : m.length = p) (hn : n ≤ 9223372036854775807) (hp : p ≤ 9223372036854775807) (hk : KeysAt w A l) (hk2 : KeysAt w B m) :
    Calls Tryz.prog 64 #[.slice A n c, .slice B p c', .func (Fn.func 62) #[] #[]] w fun r w' => r = .returned (.bool (allS (allS sN) l m)) ∧ Ext w w' := by
  have HL := hid hl
  have HM := hid hm
  have HK := hid hk
  have HK2 := hid hk2
  clear hl hm hk hk2
  by_cases hnp : n = p
  · subst hnp
    have bN : ((n : Int) != (n : Int)) = false := by simp
    go_enter Tryz.func64, Tryz.ntmps64
    go_wp2_with fail
    go_loopw [17] (fun iv wr => ∃ (k : Nat), k ≤ n ∧ iv = .int .i64 k ∧ STo (allS sN) l m k ∧ Ext w wr) (fun i _ => n - (intOf i).toNat)
    case atStart => exact ⟨0, Nat.zero_le _, rfl, STo.zero _ l m, Ext.refl w⟩
    case round =>
      obtain ⟨k, hkn, rfl, hr, hxr⟩ := hrel
      have HXr := hid hxr
      have HRr := hid hr
      by_cases hlt : k < n
      · obtain ⟨x, hx⟩ := rat_lt HL.out hlt
        obtain ⟨y, hy⟩ := rat_lt HM.out hlt
        obtain ⟨b, off, A1, n1, c1, rfl, q0, hvl, hvm, hv⟩ := (HK.out.ext hxr) k x hx
        obtain ⟨b2, off2, A2, n2, c2, rfl, s0, hv2l, hv2m, hv2⟩ := (HK2.out.ext hxr) k y hy
        have HC := hid (fun W (hW : Ext wr W) => eq_str x y A1 A2 n1 n2 c1 c2 W hvl hv2l hvm hv2m (hv.ext hW) (hv2.ext hW))
        have HE := hid hx
        have HE2 := hid hy
        clear hx hy hv hv2 hxr hr 
        cases hp : (allS sN) x y
        · rw [hp] at HC
          have HP : Hid (allS (allS sN) l m = false) := allS_no HE.out HE2.out hp
          clear hp
          go_wp2_with fail
          refine (HC.out _ (Ext.refl wr)).mono ?_
          rintro _ w2 ⟨rfl, hx2⟩
          go_wp2_with fail
          go_ret
          exact ⟨ret_bool HP.out.symm, HXr.out.trans hx2⟩
        · rw [hp] at HC
          have HP := hid (HRr.out.succ HE.out HE2.out hp)
          clear hp
          go_wp2_with fail
          refine (HC.out _ (Ext.refl wr)).mono ?_
          rintro _ w2 ⟨rfl, hx2⟩
          go_wp2_with fail
          go_roundw
          case rel => exact ⟨k + 1, by omega, by go_num, HP.out, HXr.out.trans hx2⟩
          case measure => simp [intOf]; omega
      · obtain rfl : k = n := by omega
        have HP : Hid (allS (allS sN) l m = true) := allS_yes HL.out HM.out HRr.out
        go_wp2_with fail
        go_ret
        exact ⟨ret_bool HP.out.symm, HXr.out⟩
  · have bN : ((n : Int) != (p : Int)) = true := by simp; omega
    have HP : Hid (allS (allS sN) l m = false) := allS_len (by rw [HL.out, HM.out]; exact hnp)
    go_enter Tryz.func64, Tryz.ntmps64
    go_wp2_with fail
    go_ret
    exact ⟨ret_bool HP.out.symm, Ext.refl w⟩
theorem ef_rf (l m : List Rf) (A B : Option Addr) (n p c c' : Nat) (w : World) (hl : l.length = n) (hm : m.length = p) (hn : n ≤ 9223372036854775807) (hp : p ≤ 9223372036854775807) (hk : RfsAt w A l) (hk2 : RfsAt w B m) :
    Calls Tryz.prog 65 #[.slice A n c, .slice B p c', .func (Fn.func 61) #[] #[]] w fun r w' => r = .returned (.bool (allS Rf.same l m)) ∧ Ext w w' := by
  have HL := hid hl
  have HM := hid hm
  have HK := hid hk
  have HK2 := hid hk2
  clear hl hm hk hk2
  by_cases hnp : n = p
  · subst hnp
    have bN : ((n : Int) != (n : Int)) = false := by simp
    go_enter Tryz.func65, Tryz.ntmps65
    go_wp2_with fail
    go_loopw [17] (fun iv wr => ∃ (k : Nat), k ≤ n ∧ iv = .int .i64 k ∧ STo Rf.same l m k ∧ Ext w wr) (fun i _ => n - (intOf i).toNat)
    case atStart => exact ⟨0, Nat.zero_le _, rfl, STo.zero _ l m, Ext.refl w⟩
    case round =>
      obtain ⟨k, hkn, rfl, hr, hxr⟩ := hrel
      have HXr := hid hxr
      have HRr := hid hr
      by_cases hlt : k < n
      · obtain ⟨x, hx⟩ := rat_lt HL.out hlt
        obtain ⟨y, hy⟩ := rat_lt HM.out hlt
        obtain ⟨_, b, off, A1, n1, c1, A1x, n1x, c1x, rfl, q0, q1, q2, hv, hvb, hvc, hvd, hve, hvf⟩ := (HK.out.ext hxr) k x hx
        obtain ⟨_, b2, off2, A2, n2, c2, A2x, n2x, c2x, rfl, s0, s1, s2, hv2, hv2b, hv2c, hv2d, hv2e, hv2f⟩ := (HK2.out.ext hxr) k y hy
        have p0 := fun o => ((Ext.refl wr).alloc o).keep s0
        have p1 := fun o => ((Ext.refl wr).alloc o).keep s1
        have p2 := fun o => ((Ext.refl wr).alloc o).keep s2
        have HC := hid (fun W (hW : Ext wr W) => cl_rf x y A1 A1x A2 A2x n1 n1x n2 n2x c1 c1x c2 c2x W hv hvb (hvc.ext hW) hvd hve (hvf.ext hW) hv2 hv2b (hv2c.ext hW) hv2d hv2e (hv2f.ext hW))
        have HE := hid hx
        have HE2 := hid hy
        clear hx hy hv hv2 hxr hr s0 s1 s2
        cases hp : Rf.same x y
        · rw [hp] at HC
          have HP : Hid (allS Rf.same l m = false) := allS_no HE.out HE2.out hp
          clear hp
          go_wp2_with fail
          refine (HC.out _ (((Ext.refl wr).alloc _).alloc _)).mono ?_
          rintro _ w2 ⟨rfl, hx2⟩
          go_wp2_with fail
          go_ret
          exact ⟨ret_bool HP.out.symm, ((HXr.out.alloc _).alloc _).trans hx2⟩
        · rw [hp] at HC
          have HP := hid (HRr.out.succ HE.out HE2.out hp)
          clear hp
          go_wp2_with fail
          refine (HC.out _ (((Ext.refl wr).alloc _).alloc _)).mono ?_
          rintro _ w2 ⟨rfl, hx2⟩
          go_wp2_with fail
          go_roundw
          case rel => exact ⟨k + 1, by omega, by go_num, HP.out, ((HXr.out.alloc _).alloc _).trans hx2⟩
          case measure => simp [intOf]; omega
      · obtain rfl : k = n := by omega
        have HP : Hid (allS Rf.same l m = true) := allS_yes HL.out HM.out HRr.out
        go_wp2_with fail
        go_ret
        exact ⟨ret_bool HP.out.symm, HXr.out⟩
  · have bN : ((n : Int) != (p : Int)) = true := by simp; omega
    have HP : Hid (allS Rf.same l m = false) := allS_len (by rw [HL.out, HM.out]; exact hnp)
    go_enter Tryz.func65, Tryz.ntmps65
    go_wp2_with fail
    go_ret
    exact ⟨ret_bool HP.out.symm, Ext.refl w⟩
end Go.Proofs.YtcdnodjcnofogaaGreatDoor
