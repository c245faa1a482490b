/-
  Walks: values of literals, levels.
-/
import Derived.Test.YtcdnodjcnofogaaGreatDoorW5
namespace Go.Proofs.YtcdnodjcnofogaaGreatDoor
open Go.RowKit
set_option linter.unusedVariables false
set_option linter.unusedSimpArgs false
set_option maxHeartbeats 4000000
set_option maxRecDepth 100000

theorem str0 (s : ByteArray) : s.toList = [] ↔ s.size = 0 := by
  rw [ByteArray.toList_eq]
  constructor
  · intro h; show s.data.size = 0; rw [← Array.length_toList, h]; rfl
  · intro h
    have h : s.data.size = 0 := h
    exact List.eq_nil_of_length_eq_zero (by rw [Array.length_toList]; exact h)
theorem str0_b (s : ByteArray) : (s.size == 0) = s.toList.isEmpty := by
  rw [Bool.eq_iff_iff, beq_iff_eq, List.isEmpty_iff]; exact (str0 s).symm
/-- a text is empty, or not, in all the walk's spellings -/
theorem empty_yes {s : ByteArray} (h : s.size = 0) : s = ⟨#[]⟩ := by
  apply N_inj
  rw [N_nil']
  exact List.eq_nil_of_length_eq_zero (by rw [N_len]; exact h)
theorem empty_no {s : ByteArray} (h : ¬ s.size = 0) : ¬ s.toList = [] := fun e => h ((str0 s).1 e)

theorem empty_no2 {s : ByteArray} (h : ¬ s.size = 0) : s.toList.isEmpty = false := by
  rw [← str0_b, beq_eq_false_iff_ne]; exact h
theorem literal_any (vk vi : Int) (vt : ByteArray) (w : World) (hs : vt.size ≤ 9223372036854775807) (d : Nd) (h0 : d.vk = vk) (h1 : d.vi = vi) (h2 : d.vt = vt) :
    Calls Tryz.prog 102 #[.agg #[.int .i64 vk, .int .i64 vi, .string vt]] w fun r w' => r = .returned (.bool d.litB) ∧ Ext w w' := by
  subst h0 h1 h2
  by_cases hk0 : d.vk = 0
  · have HL : Hid (d.litB = (d.vi == 0 && d.vt.size == 0)) := by unfold Hid Nd.litB; rw [if_pos hk0]
    generalize d.litB = L at *
    obtain ⟨op, tb, nm, ix, vk, vi, vt⟩ := d
    simp only at *
    subst hk0
    go_enter Tryz.func102, Tryz.ntmps102
    go_wp2_with fail
    all_goals
      go_ret
      refine ⟨ret_bool ?_, (Ext.refl w).alloc _⟩
      rw [HL.out, str0_b]
      simp [*]
  · by_cases hk1 : d.vk = 1
    · have HL : Hid (d.litB = (decide (0 ≤ d.vi) && decide (d.vi ≤ 2147483648) && d.vt.size == 0)) := by unfold Hid Nd.litB; rw [if_neg hk0, if_pos hk1]
      generalize d.litB = L at *
      obtain ⟨op, tb, nm, ix, vk, vi, vt⟩ := d
      simp only at *
      subst hk1
      clear hk0
      by_cases he : vt.size = 0
      · obtain rfl := empty_yes he
        go_enter Tryz.func102, Tryz.ntmps102
        go_wp2_with (go_at_call 130; refine (within_any _ _ _ _).mono ?_; rintro _ w2 ⟨rfl, rfl⟩)
        go_ret
        exact ⟨ret_bool (by rw [HL.out]; simp; intros; rfl), (Ext.refl w).alloc _⟩
      · have hne := empty_no he
        have HL2 : Hid (L = false) := by unfold Hid; rw [HL.out]; simp [he]
        clear he
        go_enter Tryz.func102, Tryz.ntmps102
        go_wp2_with fail
        go_ret
        exact ⟨ret_bool HL2.out.symm, (Ext.refl w).alloc _⟩
    · by_cases hk2 : d.vk = 2
      · have HL : Hid (d.litB = (d.vi == 0 && textB d.vt)) := by unfold Hid Nd.litB; rw [if_neg hk0, if_neg hk1, if_pos hk2]
        generalize d.litB = L at *
        obtain ⟨op, tb, nm, ix, vk, vi, vt⟩ := d
        simp only at *
        subst hk2
        clear hk0 hk1
        by_cases he : vi = 0
        · subst he
          go_enter Tryz.func102, Tryz.ntmps102
          go_wp2_with (go_at_call 151; refine (text_any _ _ hs).mono ?_; rintro _ w2 ⟨rfl, rfl⟩)
          go_ret
          exact ⟨ret_bool (by rw [HL.out]; simp), (Ext.refl w).alloc _⟩
        · have HL2 : Hid (L = false) := by unfold Hid; rw [HL.out]; simp [he]
          have hb : (vi == 0) = false := by simpa using he
          clear he
          go_enter Tryz.func102, Tryz.ntmps102
          go_wp2_with fail
          go_ret
          exact ⟨ret_bool HL2.out.symm, (Ext.refl w).alloc _⟩
      · have HL : Hid (d.litB = false) := by unfold Hid Nd.litB; rw [if_neg hk0, if_neg hk1, if_neg hk2]
        generalize d.litB = L at *
        obtain ⟨op, tb, nm, ix, vk, vi, vt⟩ := d
        simp only at *
        have b0 : (vk == 0) = false := by simpa using hk0
        have b1 : (vk == 1) = false := by simpa using hk1
        have b2 : (vk == 2) = false := by simpa using hk2
        clear hk0 hk1 hk2
        go_enter Tryz.func102, Tryz.ntmps102
        go_wp2_with fail
        go_ret
        exact ⟨ret_bool HL.out.symm, (Ext.refl w).alloc _⟩
theorem rliteral_any (vk vi : Int) (vt : ByteArray) (w : World) (hs : vt.size ≤ 9223372036854775807) (d : Nd) (h0 : d.vk = vk) (h1 : d.vi = vi) (h2 : d.vt = vt) :
    Calls Tryz.prog 104 #[.agg #[.int .i64 vk, .int .i64 vi, .string vt]] w fun r w' => r = .returned (.bool d.litB) ∧ Ext w w' := by
  subst h0 h1 h2
  by_cases hk0 : d.vk = 0
  · have HL : Hid (d.litB = (d.vi == 0 && d.vt.size == 0)) := by unfold Hid Nd.litB; rw [if_pos hk0]
    generalize d.litB = L at *
    obtain ⟨op, tb, nm, ix, vk, vi, vt⟩ := d
    simp only at *
    subst hk0
    by_cases he : vi = 0
    · subst he
      go_enter Tryz.func104, Tryz.ntmps104
      go_wp2_with fail
      go_ret
      exact ⟨ret_bool (by rw [HL.out, str0_b]; simp), (Ext.refl w).alloc _⟩
    · have HL2 : Hid (L = false) := by unfold Hid; rw [HL.out]; simp [he]
      have hb : (vi == 0) = false := by simpa using he
      clear he
      go_enter Tryz.func104, Tryz.ntmps104
      go_wp2_with fail
      go_ret
      exact ⟨ret_bool HL2.out.symm, (Ext.refl w).alloc _⟩
  · by_cases hk1 : d.vk = 1
    · have HL : Hid (d.litB = (decide (0 ≤ d.vi) && decide (d.vi ≤ 2147483648) && d.vt.size == 0)) := by unfold Hid Nd.litB; rw [if_neg hk0, if_pos hk1]
      generalize d.litB = L at *
      obtain ⟨op, tb, nm, ix, vk, vi, vt⟩ := d
      simp only at *
      subst hk1
      clear hk0
      have HN := hid (rnumber_any vi)
      obtain ⟨x, hx⟩ : ∃ x, (decide (0 ≤ vi) && decide (vi ≤ 2147483648)) = x := ⟨_, rfl⟩
      rw [hx] at HN HL
      clear hx
      cases x
      · go_enter Tryz.func104, Tryz.ntmps104
        go_wp2_with (go_at_call 149; refine (HN.out _).mono ?_; rintro _ w2 ⟨rfl, rfl⟩)
        go_ret
        exact ⟨ret_bool (by rw [HL.out]; rfl), (Ext.refl w).alloc _⟩
      · go_enter Tryz.func104, Tryz.ntmps104
        go_wp2_with (go_at_call 149; refine (HN.out _).mono ?_; rintro _ w2 ⟨rfl, rfl⟩)
        go_ret
        exact ⟨ret_bool (by rw [HL.out, str0_b]; simp), (Ext.refl w).alloc _⟩
    · by_cases hk2 : d.vk = 2
      · have HL : Hid (d.litB = (d.vi == 0 && textB d.vt)) := by unfold Hid Nd.litB; rw [if_neg hk0, if_neg hk1, if_pos hk2]
        generalize d.litB = L at *
        obtain ⟨op, tb, nm, ix, vk, vi, vt⟩ := d
        simp only at *
        subst hk2
        clear hk0 hk1
        by_cases he : vi = 0
        · subst he
          go_enter Tryz.func104, Tryz.ntmps104
          go_wp2_with (go_at_call 152; refine (rtext_any _ _ hs).mono ?_; rintro _ w2 ⟨rfl, rfl⟩)
          go_ret
          exact ⟨ret_bool (by rw [HL.out]; simp), (Ext.refl w).alloc _⟩
        · have HL2 : Hid (L = false) := by unfold Hid; rw [HL.out]; simp [he]
          have hb : (vi == 0) = false := by simpa using he
          clear he
          go_enter Tryz.func104, Tryz.ntmps104
          go_wp2_with fail
          go_ret
          exact ⟨ret_bool HL2.out.symm, (Ext.refl w).alloc _⟩
      · have HL : Hid (d.litB = false) := by unfold Hid Nd.litB; rw [if_neg hk0, if_neg hk1, if_neg hk2]
        generalize d.litB = L at *
        obtain ⟨op, tb, nm, ix, vk, vi, vt⟩ := d
        simp only at *
        have b0 : (vk == 0) = false := by simpa using hk0
        have b1 : (vk == 1) = false := by simpa using hk1
        have b2 : (vk == 2) = false := by simpa using hk2
        clear hk0 hk1 hk2
        go_enter Tryz.func104, Tryz.ntmps104
        go_wp2_with fail
        go_ret
        exact ⟨ret_bool HL.out.symm, (Ext.refl w).alloc _⟩
theorem level_any (e : Ex) (A : Option Addr) (n c : Nat) (w : World) : Calls Tryz.prog 106 #[e.d.val A n c] w fun r w' => r = .returned (.int .i64 (lvl e.d.op)) ∧ Ext w w' := by
  unfold Nd.val
  generalize e.d = d
  obtain ⟨op, tb, nm, ix, vk, vi, vt⟩ := d
  simp only
  go_enter Tryz.func106, Tryz.ntmps106
  go_wp2_with fail
  all_goals
    go_ret
    refine ⟨ret_int ?_, (Ext.refl w).alloc _⟩
    simp only [beq_iff_eq, beq_eq_false_iff_ne] at *
    unfold lvl
    first | (exfalso; omega) | repeat (first | rw [if_pos (by omega)] | rw [if_neg (by omega)])
theorem rlevel_any (e : Ex) (A : Option Addr) (n c : Nat) (w : World) (h : 1 ≤ e.d.op ∧ e.d.op ≤ 20) : Calls Tryz.prog 107 #[e.d.val A n c] w fun r w' => r = .returned (.int .i64 (lvl e.d.op)) ∧ Ext w w' := by
  unfold Nd.val
  generalize e.d = d at *
  obtain ⟨op, tb, nm, ix, vk, vi, vt⟩ := d
  simp only at *
  have H := hid h
  clear h
  go_enter Tryz.func107, Tryz.ntmps107
  go_wp2_with fail
  all_goals
    go_ret
    refine ⟨ret_int ?_, (Ext.refl w).alloc _⟩
    have h := H.out
    simp only [beq_iff_eq, beq_eq_false_iff_ne, decide_eq_true_eq, decide_eq_false_iff_not] at *
    unfold lvl
    first | (exfalso; omega) | repeat (first | rw [if_pos (by omega)] | rw [if_neg (by omega)])
end Go.Proofs.YtcdnodjcnofogaaGreatDoor
