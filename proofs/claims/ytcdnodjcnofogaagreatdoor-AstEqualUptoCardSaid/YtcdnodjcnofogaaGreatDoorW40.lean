/-
  Walks: the library's comparisons of slices, for the slices of a statement.
-/
import Derived.Test.YtcdnodjcnofogaaGreatDoorEqP
import Derived.Test.YtcdnodjcnofogaaGreatDoorW22
import Derived.Test.YtcdnodjcnofogaaGreatDoorW13
import Derived.Laws.StructEq
namespace Go.Proofs.YtcdnodjcnofogaaGreatDoor
open Go.RowKit
set_option linter.unusedVariables false
set_option linter.unusedSimpArgs false
set_option maxHeartbeats 4000000
set_option maxRecDepth 100000

theorem eq_src (l m : List Src) (A B : Option Addr) (n p c c' : Nat) (w : World) (hl : l.length = n) (hm : m.length = p) (hn : n ≤ 9223372036854775807) (hp : p ≤ 9223372036854775807) (hk : SrcsAt w A l) (hk2 : SrcsAt w B m) :
    Calls Tryz.prog 54 #[.slice A n c, .slice B p c'] w fun r w' => r = .returned (.bool (allS Src.same l m)) ∧ Ext w w' := by
  have HL := hid hl
  have HM := hid hm
  have HK := hid hk
  have HK2 := hid hk2
  clear hl hm hk hk2
  by_cases hnp : n = p
  · subst hnp
    have bN : ((n : Int) != (n : Int)) = false := by simp
    go_enter Tryz.func54, Tryz.ntmps54
    go_wp2_with fail
    go_loopw [13] (fun iv wr => ∃ (k : Nat), k ≤ n ∧ iv = .int .i64 k ∧ STo Src.same l m k ∧ Ext w wr) (fun i _ => n - (intOf i).toNat)
    case atStart => exact ⟨0, Nat.zero_le _, rfl, STo.zero _ l m, Ext.refl w⟩
    case round =>
      obtain ⟨k, hkn, rfl, hr, hxr⟩ := hrel
      have HXr := hid hxr
      have HRr := hid hr
      by_cases hlt : k < n
      · obtain ⟨x, hx⟩ := rat_lt HL.out hlt
        obtain ⟨y, hy⟩ := rat_lt HM.out hlt
        obtain ⟨_, b, off, rfl, q0, q1⟩ := (HK.out.ext hxr) k x hx
        obtain ⟨_, b2, off2, rfl, s0, s1⟩ := (HK2.out.ext hxr) k y hy
        have i0 : (0 : Int) ≤ (k : Int) := by omega
        have i1 : (k : Int) < (n : Int) := by omega
        have HE := hid hx
        have HE2 := hid hy
        replace q0 := Later.keep q0
        replace s0 := Later.keep s0
        replace q1 := Later.keep q1
        replace s1 := Later.keep s1
        clear hx hy hxr hr
        obtain ⟨x0, x1⟩ := x
        obtain ⟨y0, y1⟩ := y
        simp only at *
        obtain ⟨b0, hb0⟩ : ∃ b, (x0.toList == y0.toList) = b := ⟨_, rfl⟩
        cases b0
        · have HF : Hid (Src.same ⟨x0, x1⟩ ⟨y0, y1⟩ = false) := by unfold Hid Src.same sN; simp [← str_eq, hb0]
          have HP : Hid (allS Src.same l m = false) := allS_no HE.out HE2.out HF.out
          go_wp2_with fail
          refine wp_region_later (by kernel_rfl) (by kernel_rfl) ?_
          repeat (go_big_quiet_step (fail))
          refine wpQuiet_nil ?_
          intro w2 hw2
          have hx2 := later_out hw2
          clear hw2
          go_wp2_with fail
          go_ret
          exact ⟨ret_bool HP.out.symm, HXr.out.trans hx2⟩
        · obtain ⟨b1, hb1⟩ : ∃ b, (x1.toList == y1.toList) = b := ⟨_, rfl⟩
          cases b1
          · have HF : Hid (Src.same ⟨x0, x1⟩ ⟨y0, y1⟩ = false) := by unfold Hid Src.same sN; simp [← str_eq, hb0, hb1]
            have HP : Hid (allS Src.same l m = false) := allS_no HE.out HE2.out HF.out
            go_wp2_with fail
            refine wp_region_later (by kernel_rfl) (by kernel_rfl) ?_
            repeat (go_big_quiet_step (fail))
            refine wpQuiet_nil ?_
            intro w2 hw2
            have hx2 := later_out hw2
            clear hw2
            go_wp2_with fail
            go_ret
            exact ⟨ret_bool HP.out.symm, HXr.out.trans hx2⟩
          · have HF : Hid (Src.same ⟨x0, x1⟩ ⟨y0, y1⟩ = true) := by unfold Hid Src.same sN; simp [← str_eq, hb0, hb1]
            go_wp2_with fail
            refine wp_region_later (by kernel_rfl) (by kernel_rfl) ?_
            repeat (go_big_quiet_step (fail))
            refine wpQuiet_nil ?_
            intro w2 hw2
            have hx2 := later_out hw2
            clear hw2
            go_wp2_with fail
            go_roundw
            case rel => exact ⟨k + 1, by omega, by go_num, HRr.out.succ HE.out HE2.out HF.out, HXr.out.trans hx2⟩
            case measure => simp [intOf]; omega
      · obtain rfl : k = n := by omega
        have HP : Hid (allS Src.same l m = true) := allS_yes HL.out HM.out HRr.out
        go_wp2_with fail
        go_ret
        exact ⟨ret_bool HP.out.symm, HXr.out⟩
  · have bN : ((n : Int) != (p : Int)) = true := by simp; omega
    have HP : Hid (allS Src.same l m = false) := allS_len (by rw [HL.out, HM.out]; exact hnp)
    go_enter Tryz.func54, Tryz.ntmps54
    go_wp2_with fail
    go_ret
    exact ⟨ret_bool HP.out.symm, Ext.refl w⟩
theorem eq_ord (l m : List Ord') (A B : Option Addr) (n p c c' : Nat) (w : World) (hl : l.length = n) (hm : m.length = p) (hn : n ≤ 9223372036854775807) (hp : p ≤ 9223372036854775807) (hk : OrdsAt w A l) (hk2 : OrdsAt w B m) :
    Calls Tryz.prog 55 #[.slice A n c, .slice B p c'] w fun r w' => r = .returned (.bool (allS Ord'.same l m)) ∧ Ext w w' := by
  have HL := hid hl
  have HM := hid hm
  have HK := hid hk
  have HK2 := hid hk2
  clear hl hm hk hk2
  by_cases hnp : n = p
  · subst hnp
    have bN : ((n : Int) != (n : Int)) = false := by simp
    go_enter Tryz.func55, Tryz.ntmps55
    go_wp2_with fail
    go_loopw [13] (fun iv wr => ∃ (k : Nat), k ≤ n ∧ iv = .int .i64 k ∧ STo Ord'.same l m k ∧ Ext w wr) (fun i _ => n - (intOf i).toNat)
    case atStart => exact ⟨0, Nat.zero_le _, rfl, STo.zero _ l m, Ext.refl w⟩
    case round =>
      obtain ⟨k, hkn, rfl, hr, hxr⟩ := hrel
      have HXr := hid hxr
      have HRr := hid hr
      by_cases hlt : k < n
      · obtain ⟨x, hx⟩ := rat_lt HL.out hlt
        obtain ⟨y, hy⟩ := rat_lt HM.out hlt
        obtain ⟨_, b, off, rfl, q0, q1⟩ := (HK.out.ext hxr) k x hx
        obtain ⟨_, b2, off2, rfl, s0, s1⟩ := (HK2.out.ext hxr) k y hy
        have i0 : (0 : Int) ≤ (k : Int) := by omega
        have i1 : (k : Int) < (n : Int) := by omega
        have HE := hid hx
        have HE2 := hid hy
        replace q0 := Later.keep q0
        replace s0 := Later.keep s0
        replace q1 := Later.keep q1
        replace s1 := Later.keep s1
        clear hx hy hxr hr
        obtain ⟨x0, x1⟩ := x
        obtain ⟨y0, y1⟩ := y
        simp only at *
        obtain ⟨b0, hb0⟩ : ∃ b, (x0 == y0) = b := ⟨_, rfl⟩
        cases b0
        · have HF : Hid (Ord'.same ⟨x0, x1⟩ ⟨y0, y1⟩ = false) := by unfold Hid Ord'.same; simp [← str_eq, hb0]
          have HP : Hid (allS Ord'.same l m = false) := allS_no HE.out HE2.out HF.out
          go_wp2_with fail
          refine wp_region_later (by kernel_rfl) (by kernel_rfl) ?_
          repeat (go_big_quiet_step (fail))
          refine wpQuiet_nil ?_
          intro w2 hw2
          have hx2 := later_out hw2
          clear hw2
          go_wp2_with fail
          go_ret
          exact ⟨ret_bool HP.out.symm, HXr.out.trans hx2⟩
        · obtain ⟨b1, hb1⟩ : ∃ b, (x1 == y1) = b := ⟨_, rfl⟩
          cases b1
          · have HF : Hid (Ord'.same ⟨x0, x1⟩ ⟨y0, y1⟩ = false) := by unfold Hid Ord'.same; simp [← str_eq, hb0, hb1]
            have HP : Hid (allS Ord'.same l m = false) := allS_no HE.out HE2.out HF.out
            go_wp2_with fail
            refine wp_region_later (by kernel_rfl) (by kernel_rfl) ?_
            repeat (go_big_quiet_step (fail))
            refine wpQuiet_nil ?_
            intro w2 hw2
            have hx2 := later_out hw2
            clear hw2
            go_wp2_with fail
            go_ret
            exact ⟨ret_bool HP.out.symm, HXr.out.trans hx2⟩
          · have HF : Hid (Ord'.same ⟨x0, x1⟩ ⟨y0, y1⟩ = true) := by unfold Hid Ord'.same; simp [← str_eq, hb0, hb1]
            go_wp2_with fail
            refine wp_region_later (by kernel_rfl) (by kernel_rfl) ?_
            repeat (go_big_quiet_step (fail))
            refine wpQuiet_nil ?_
            intro w2 hw2
            have hx2 := later_out hw2
            clear hw2
            go_wp2_with fail
            go_roundw
            case rel => exact ⟨k + 1, by omega, by go_num, HRr.out.succ HE.out HE2.out HF.out, HXr.out.trans hx2⟩
            case measure => simp [intOf]; omega
      · obtain rfl : k = n := by omega
        have HP : Hid (allS Ord'.same l m = true) := allS_yes HL.out HM.out HRr.out
        go_wp2_with fail
        go_ret
        exact ⟨ret_bool HP.out.symm, HXr.out⟩
  · have bN : ((n : Int) != (p : Int)) = true := by simp; omega
    have HP : Hid (allS Ord'.same l m = false) := allS_len (by rw [HL.out, HM.out]; exact hnp)
    go_enter Tryz.func55, Tryz.ntmps55
    go_wp2_with fail
    go_ret
    exact ⟨ret_bool HP.out.symm, Ext.refl w⟩
theorem eq_str (l m : List ByteArray) (A B : Option Addr) (n p c c' : Nat) (w : World) (hl : l.length = n) (hm : m.length = p) (hn : n ≤ 9223372036854775807) (hp : p ≤ 9223372036854775807) (hk : StrsAt w A l) (hk2 : StrsAt w B m) :
    Calls Tryz.prog 62 #[.slice A n c, .slice B p c'] w fun r w' => r = .returned (.bool (allS sN l m)) ∧ Ext w w' := by
  have HL := hid hl
  have HM := hid hm
  have HK := hid hk
  have HK2 := hid hk2
  clear hl hm hk hk2
  by_cases hnp : n = p
  · subst hnp
    have bN : ((n : Int) != (n : Int)) = false := by simp
    go_enter Tryz.func62, Tryz.ntmps62
    go_wp2_with fail
    go_loopw [13] (fun iv wr => ∃ (k : Nat), k ≤ n ∧ iv = .int .i64 k ∧ STo sN l m k ∧ Ext w wr) (fun i _ => n - (intOf i).toNat)
    case atStart => exact ⟨0, Nat.zero_le _, rfl, STo.zero _ l m, Ext.refl w⟩
    case round =>
      obtain ⟨k, hkn, rfl, hr, hxr⟩ := hrel
      have HXr := hid hxr
      have HRr := hid hr
      by_cases hlt : k < n
      · obtain ⟨x, hx⟩ := rat_lt HL.out hlt
        obtain ⟨y, hy⟩ := rat_lt HM.out hlt
        obtain ⟨_, b, off, rfl, q0⟩ := (HK.out.ext hxr) k x hx
        obtain ⟨_, b2, off2, rfl, s0⟩ := (HK2.out.ext hxr) k y hy
        have i0 : (0 : Int) ≤ (k : Int) := by omega
        have i1 : (k : Int) < (n : Int) := by omega
        have HE := hid hx
        have HE2 := hid hy
        replace q0 := Later.keep q0
        replace s0 := Later.keep s0
        clear hx hy hxr hr

        obtain ⟨b0, hb0⟩ : ∃ b, (x.toList == y.toList) = b := ⟨_, rfl⟩
        cases b0
        · have HF : Hid (sN x y = false) := by unfold Hid sN; simp [← str_eq, hb0]
          have HP : Hid (allS sN l m = false) := allS_no HE.out HE2.out HF.out
          go_wp2_with fail
          refine wp_region_later (by kernel_rfl) (by kernel_rfl) ?_
          repeat (go_big_quiet_step (fail))
          refine wpQuiet_nil ?_
          intro w2 hw2
          have hx2 := later_out hw2
          clear hw2
          go_wp2_with fail
          go_ret
          exact ⟨ret_bool HP.out.symm, HXr.out.trans hx2⟩
        · have HF : Hid (sN x y = true) := by unfold Hid sN; simp [← str_eq, hb0]
          go_wp2_with fail
          refine wp_region_later (by kernel_rfl) (by kernel_rfl) ?_
          repeat (go_big_quiet_step (fail))
          refine wpQuiet_nil ?_
          intro w2 hw2
          have hx2 := later_out hw2
          clear hw2
          go_wp2_with fail
          go_roundw
          case rel => exact ⟨k + 1, by omega, by go_num, HRr.out.succ HE.out HE2.out HF.out, HXr.out.trans hx2⟩
          case measure => simp [intOf]; omega
      · obtain rfl : k = n := by omega
        have HP : Hid (allS sN l m = true) := allS_yes HL.out HM.out HRr.out
        go_wp2_with fail
        go_ret
        exact ⟨ret_bool HP.out.symm, HXr.out⟩
  · have bN : ((n : Int) != (p : Int)) = true := by simp; omega
    have HP : Hid (allS sN l m = false) := allS_len (by rw [HL.out, HM.out]; exact hnp)
    go_enter Tryz.func62, Tryz.ntmps62
    go_wp2_with fail
    go_ret
    exact ⟨ret_bool HP.out.symm, Ext.refl w⟩
theorem eq_cd (l m : List Cd) (A B : Option Addr) (n p c c' : Nat) (w : World) (hl : l.length = n) (hm : m.length = p) (hn : n ≤ 9223372036854775807) (hp : p ≤ 9223372036854775807) (hk : CdsAt w A l) (hk2 : CdsAt w B m) :
    Calls Tryz.prog 63 #[.slice A n c, .slice B p c'] w fun r w' => r = .returned (.bool (allS Cd.same l m)) ∧ Ext w w' := by
  have HL := hid hl
  have HM := hid hm
  have HK := hid hk
  have HK2 := hid hk2
  clear hl hm hk hk2
  by_cases hnp : n = p
  · subst hnp
    have bN : ((n : Int) != (n : Int)) = false := by simp
    go_enter Tryz.func63, Tryz.ntmps63
    go_wp2_with fail
    go_loopw [13] (fun iv wr => ∃ (k : Nat), k ≤ n ∧ iv = .int .i64 k ∧ STo Cd.same l m k ∧ Ext w wr) (fun i _ => n - (intOf i).toNat)
    case atStart => exact ⟨0, Nat.zero_le _, rfl, STo.zero _ l m, Ext.refl w⟩
    case round =>
      obtain ⟨k, hkn, rfl, hr, hxr⟩ := hrel
      have HXr := hid hxr
      have HRr := hid hr
      by_cases hlt : k < n
      · obtain ⟨x, hx⟩ := rat_lt HL.out hlt
        obtain ⟨y, hy⟩ := rat_lt HM.out hlt
        obtain ⟨_, b, off, rfl, q0, q1, q2, q3, q4, q5⟩ := (HK.out.ext hxr) k x hx
        obtain ⟨_, b2, off2, rfl, s0, s1, s2, s3, s4, s5⟩ := (HK2.out.ext hxr) k y hy
        have i0 : (0 : Int) ≤ (k : Int) := by omega
        have i1 : (k : Int) < (n : Int) := by omega
        have HE := hid hx
        have HE2 := hid hy
        replace q0 := Later.keep q0
        replace s0 := Later.keep s0
        replace q1 := Later.keep q1
        replace s1 := Later.keep s1
        replace q2 := Later.keep q2
        replace s2 := Later.keep s2
        replace q3 := Later.keep q3
        replace s3 := Later.keep s3
        replace q4 := Later.keep q4
        replace s4 := Later.keep s4
        replace q5 := Later.keep q5
        replace s5 := Later.keep s5
        clear hx hy hxr hr
        obtain ⟨x0, x1, x2, x3, x4, x5⟩ := x
        obtain ⟨y0, y1, y2, y3, y4, y5⟩ := y
        simp only at *
        obtain ⟨b0, hb0⟩ : ∃ b, (x0.toList == y0.toList) = b := ⟨_, rfl⟩
        cases b0
        · have HF : Hid (Cd.same ⟨x0, x1, x2, x3, x4, x5⟩ ⟨y0, y1, y2, y3, y4, y5⟩ = false) := by unfold Hid Cd.same sN; simp [← str_eq, hb0]
          have HP : Hid (allS Cd.same l m = false) := allS_no HE.out HE2.out HF.out
          go_wp2_with fail
          refine wp_region_later (by kernel_rfl) (by kernel_rfl) ?_
          repeat (go_big_quiet_step (fail))
          refine wpQuiet_nil ?_
          intro w2 hw2
          have hx2 := later_out hw2
          clear hw2
          go_wp2_with fail
          go_ret
          exact ⟨ret_bool HP.out.symm, HXr.out.trans hx2⟩
        · obtain ⟨b1, hb1⟩ : ∃ b, (x1 == y1) = b := ⟨_, rfl⟩
          cases b1
          · have HF : Hid (Cd.same ⟨x0, x1, x2, x3, x4, x5⟩ ⟨y0, y1, y2, y3, y4, y5⟩ = false) := by unfold Hid Cd.same sN; simp [← str_eq, hb0, hb1]
            have HP : Hid (allS Cd.same l m = false) := allS_no HE.out HE2.out HF.out
            go_wp2_with fail
            refine wp_region_later (by kernel_rfl) (by kernel_rfl) ?_
            repeat (go_big_quiet_step (fail))
            refine wpQuiet_nil ?_
            intro w2 hw2
            have hx2 := later_out hw2
            clear hw2
            go_wp2_with fail
            go_ret
            exact ⟨ret_bool HP.out.symm, HXr.out.trans hx2⟩
          · obtain ⟨b2, hb2⟩ : ∃ b, (x2 == y2) = b := ⟨_, rfl⟩
            cases b2
            · have HF : Hid (Cd.same ⟨x0, x1, x2, x3, x4, x5⟩ ⟨y0, y1, y2, y3, y4, y5⟩ = false) := by unfold Hid Cd.same sN; simp [← str_eq, hb0, hb1, hb2]
              have HP : Hid (allS Cd.same l m = false) := allS_no HE.out HE2.out HF.out
              go_wp2_with fail
              refine wp_region_later (by kernel_rfl) (by kernel_rfl) ?_
              repeat (go_big_quiet_step (fail))
              refine wpQuiet_nil ?_
              intro w2 hw2
              have hx2 := later_out hw2
              clear hw2
              go_wp2_with fail
              go_ret
              exact ⟨ret_bool HP.out.symm, HXr.out.trans hx2⟩
            · obtain ⟨b3, hb3⟩ : ∃ b, (x3 == y3) = b := ⟨_, rfl⟩
              cases b3
              · have HF : Hid (Cd.same ⟨x0, x1, x2, x3, x4, x5⟩ ⟨y0, y1, y2, y3, y4, y5⟩ = false) := by unfold Hid Cd.same sN; simp [← str_eq, hb0, hb1, hb2, hb3]
                have HP : Hid (allS Cd.same l m = false) := allS_no HE.out HE2.out HF.out
                go_wp2_with fail
                refine wp_region_later (by kernel_rfl) (by kernel_rfl) ?_
                repeat (go_big_quiet_step (fail))
                refine wpQuiet_nil ?_
                intro w2 hw2
                have hx2 := later_out hw2
                clear hw2
                go_wp2_with fail
                go_ret
                exact ⟨ret_bool HP.out.symm, HXr.out.trans hx2⟩
              · obtain ⟨b4, hb4⟩ : ∃ b, (x4 == y4) = b := ⟨_, rfl⟩
                cases b4
                · have HF : Hid (Cd.same ⟨x0, x1, x2, x3, x4, x5⟩ ⟨y0, y1, y2, y3, y4, y5⟩ = false) := by unfold Hid Cd.same sN; simp [← str_eq, hb0, hb1, hb2, hb3, hb4]
                  have HP : Hid (allS Cd.same l m = false) := allS_no HE.out HE2.out HF.out
                  go_wp2_with fail
                  refine wp_region_later (by kernel_rfl) (by kernel_rfl) ?_
                  repeat (go_big_quiet_step (fail))
                  refine wpQuiet_nil ?_
                  intro w2 hw2
                  have hx2 := later_out hw2
                  clear hw2
                  go_wp2_with fail
                  go_ret
                  exact ⟨ret_bool HP.out.symm, HXr.out.trans hx2⟩
                · obtain ⟨b5, hb5⟩ : ∃ b, (x5 == y5) = b := ⟨_, rfl⟩
                  cases b5
                  · have HF : Hid (Cd.same ⟨x0, x1, x2, x3, x4, x5⟩ ⟨y0, y1, y2, y3, y4, y5⟩ = false) := by unfold Hid Cd.same sN; simp [← str_eq, hb0, hb1, hb2, hb3, hb4, hb5]
                    have HP : Hid (allS Cd.same l m = false) := allS_no HE.out HE2.out HF.out
                    go_wp2_with fail
                    refine wp_region_later (by kernel_rfl) (by kernel_rfl) ?_
                    repeat (go_big_quiet_step (fail))
                    refine wpQuiet_nil ?_
                    intro w2 hw2
                    have hx2 := later_out hw2
                    clear hw2
                    go_wp2_with fail
                    go_ret
                    exact ⟨ret_bool HP.out.symm, HXr.out.trans hx2⟩
                  · have HF : Hid (Cd.same ⟨x0, x1, x2, x3, x4, x5⟩ ⟨y0, y1, y2, y3, y4, y5⟩ = true) := by unfold Hid Cd.same sN; simp [← str_eq, hb0, hb1, hb2, hb3, hb4, hb5]
                    go_wp2_with fail
                    refine wp_region_later (by kernel_rfl) (by kernel_rfl) ?_
                    repeat (go_big_quiet_step (fail))
                    refine wpQuiet_nil ?_
                    intro w2 hw2
                    have hx2 := later_out hw2
                    clear hw2
                    go_wp2_with fail
                    go_roundw
                    case rel => exact ⟨k + 1, by omega, by go_num, HRr.out.succ HE.out HE2.out HF.out, HXr.out.trans hx2⟩
                    case measure => simp [intOf]; omega
      · obtain rfl : k = n := by omega
        have HP : Hid (allS Cd.same l m = true) := allS_yes HL.out HM.out HRr.out
        go_wp2_with fail
        go_ret
        exact ⟨ret_bool HP.out.symm, HXr.out⟩
  · have bN : ((n : Int) != (p : Int)) = true := by simp; omega
    have HP : Hid (allS Cd.same l m = false) := allS_len (by rw [HL.out, HM.out]; exact hnp)
    go_enter Tryz.func63, Tryz.ntmps63
    go_wp2_with fail
    go_ret
    exact ⟨ret_bool HP.out.symm, Ext.refl w⟩
end Go.Proofs.YtcdnodjcnofogaaGreatDoor
