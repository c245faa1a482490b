/-
  Walks over the schedule package and its reference: valid actions, valid schedules.
-/
import Derived.Test.YtcdinoepjimkmaaDoorW1
namespace Go.Proofs.YtcdinoepjimkmaaDoor
open Go.RowKit
set_option maxHeartbeats 1000000
set_option maxRecDepth 100000

theorem va_step (s x b S : Int) (w : World) : Calls Tryd.prog 25 #[.agg #[.int .i64 1, .int .i64 s, .int .i64 x, .int .i64 b], .int .i64 S] w fun e w' => e = .returned (.bool (rightB ⟨1, s, x, b⟩ S)) ∧ Ext w w' := by
  go_enter Tryd.func25, Tryd.ntmps25
  go_wp2
  all_goals
    go_ret
    refine ⟨ret_bool ?_, (Ext.refl w).alloc _⟩
    simp [rightB]
    grind

theorem va_zero (k s x b S : Int) (w : World) (hk : k = 2 ∨ k = 4) : Calls Tryd.prog 25 #[.agg #[.int .i64 k, .int .i64 s, .int .i64 x, .int .i64 b], .int .i64 S] w fun e w' => e = .returned (.bool (rightB ⟨k, s, x, b⟩ S)) ∧ Ext w w' := by
  have h1 : (k == 1) = false := by rcases hk with rfl | rfl <;> rfl
  have hr : Hid (rightB ⟨k, s, x, b⟩ S = (decide (s = 0) && decide (x = 0) && decide (b = 0))) := by
    rcases hk with rfl | rfl <;> simp [rightB, Hid]
  rcases hk with rfl | rfl
  all_goals
    go_enter Tryd.func25, Tryd.ntmps25
    go_wp2
    all_goals
      go_ret
      refine ⟨ret_bool ?_, (Ext.refl w).alloc _⟩
      simp [rightB]
      try grind

theorem va_crash (s x b S : Int) (w : World) : Calls Tryd.prog 25 #[.agg #[.int .i64 3, .int .i64 s, .int .i64 x, .int .i64 b], .int .i64 S] w fun e w' => e = .returned (.bool (rightB ⟨3, s, x, b⟩ S)) ∧ Ext w w' := by
  go_enter Tryd.func25, Tryd.ntmps25
  go_wp2
  all_goals
    go_ret
    refine ⟨ret_bool ?_, (Ext.refl w).alloc _⟩
    simp [rightB]
    grind

theorem va_other (k s x b S : Int) (w : World) (h1 : (k == 1) = false) (h2 : (k == 2) = false) (h3 : (k == 3) = false) (h4 : (k == 4) = false) :
    Calls Tryd.prog 25 #[.agg #[.int .i64 k, .int .i64 s, .int .i64 x, .int .i64 b], .int .i64 S] w fun e w' => e = .returned (.bool (rightB ⟨k, s, x, b⟩ S)) ∧ Ext w w' := by
  have hr : Hid (rightB ⟨k, s, x, b⟩ S = false) := by
    simp only [beq_eq_false_iff_ne, ne_eq] at h1 h2 h3 h4
    simp [rightB, Hid, h1, h2, h3, h4]
  go_enter Tryd.func25, Tryd.ntmps25
  go_wp2
  go_ret
  exact ⟨ret_bool hr.out.symm, (Ext.refl w).alloc _⟩

theorem ri_any (k s x b S : Int) (w : World) : Calls Tryd.prog 26 #[.agg #[.int .i64 k, .int .i64 s, .int .i64 x, .int .i64 b], .int .i64 S] w fun e w' => e = .returned (.bool (rightB ⟨k, s, x, b⟩ S)) ∧ Ext w w' := by
  go_enter Tryd.func26, Tryd.ntmps26
  go_wp2
  all_goals
    go_ret
    refine ⟨ret_bool ?_, (Ext.refl w).alloc _⟩
    simp only [rightB]
    grind

theorem va_any (k s x b S : Int) (w : World) : Calls Tryd.prog 25 #[.agg #[.int .i64 k, .int .i64 s, .int .i64 x, .int .i64 b], .int .i64 S] w fun e w' => e = .returned (.bool (rightB ⟨k, s, x, b⟩ S)) ∧ Ext w w' := by
  by_cases h1 : k = 1
  · subst h1; exact va_step s x b S w
  · by_cases h2 : k = 2 ∨ k = 4
    · exact va_zero k s x b S w h2
    · by_cases h3 : k = 3
      · subst h3; exact va_crash s x b S w
      · have h4 : ¬ k = 2 := fun e => h2 (.inl e)
        have h5 : ¬ k = 4 := fun e => h2 (.inr e)
        exact va_other k s x b S w (by simpa using h1) (by simpa using h4) (by simpa using h3) (by simpa using h5)

theorem valid_any (A : Option Addr) (l : List Act) (n c : Nat) (S : Int) (w : World) (hl : ActsAt w A l) (hn : l.length = n) (hm : n ≤ maxLen) :
    Calls Tryd.prog 15 #[.slice A n c, .int .i64 S] w fun e w' => e = .returned (.bool (validB l S)) ∧ Ext w w' := by
  have HN := hid hn
  clear hn
  unfold maxLen at hm
  go_enter Tryd.func15, Tryd.ntmps15
  go_wp2_with fail
  go_loopw [9] (fun i wr => ∃ k : Nat, k ≤ n ∧ i = .int .i64 k ∧ validB (l.take k) S = true ∧ Ext w wr) (fun i _ => n - (intOf i).toNat)
  case atStart => exact ⟨0, Nat.zero_le _, rfl, rfl, Ext.refl w⟩
  case round =>
    obtain ⟨k, hk, rfl, hv, hxr⟩ := hrel
    have HV := hid hv
    clear hv
    by_cases hlt : k < n
    · obtain ⟨a, ha⟩ : ∃ a, l[k]? = some a := ⟨_, List.getElem?_eq_getElem (by rw [HN.out]; exact hlt)⟩
      obtain ⟨b, off, rfl, hc0, hc1, hc2, hc3⟩ := (hl.ext hxr) k a ha
      have HA := hid ha
      clear ha
      cases hr : rightB a S
      · go_wp2_with (go_at_call 25; refine (va_any a.k a.s a.wr a.b S _).mono ?_; rintro e w1 ⟨rfl, hx1⟩; rw [hr])
        go_ret
        exact ⟨ret_bool (valid_no HA.out hr).symm, hxr.trans (((Ext.refl _).alloc _).trans hx1)⟩
      · go_wp2_with (go_at_call 25; refine (va_any a.k a.s a.wr a.b S _).mono ?_; rintro e w1 ⟨rfl, hx1⟩; rw [hr])
        go_roundw
        case rel => exact ⟨k + 1, by omega, by go_num, valid_step HA.out hr HV.out, hxr.trans (((Ext.refl _).alloc _).trans hx1)⟩
        case measure => simp [intOf]; omega
    · obtain rfl : k = n := by omega
      go_wp2_with fail
      go_ret
      exact ⟨ret_bool (by have := HV.out; rw [List.take_of_length_le (by rw [HN.out]; exact Nat.le_refl _)] at this; exact this.symm), hxr⟩

theorem rvalid_any (A : Option Addr) (l : List Act) (n c : Nat) (S : Int) (w : World) (hl : ActsAt w A l) (hn : l.length = n) (hm : n ≤ maxLen) :
    Calls Tryd.prog 16 #[.slice A n c, .int .i64 S] w fun e w' => e = .returned (.bool (validB l S)) ∧ Ext w w' := by
  have HN := hid hn
  clear hn
  unfold maxLen at hm
  go_enter Tryd.func16, Tryd.ntmps16
  go_wp2_with fail
  go_loopw [5] (fun i wr => ∃ k : Nat, k ≤ n ∧ i = .int .i64 k ∧ validB (l.take k) S = true ∧ Ext w wr) (fun i _ => n - (intOf i).toNat)
  case atStart => exact ⟨0, Nat.zero_le _, rfl, rfl, Ext.refl w⟩
  case round =>
    obtain ⟨k, hk, rfl, hv, hxr⟩ := hrel
    have HV := hid hv
    clear hv
    by_cases hlt : k < n
    · obtain ⟨a, ha⟩ : ∃ a, l[k]? = some a := ⟨_, List.getElem?_eq_getElem (by rw [HN.out]; exact hlt)⟩
      obtain ⟨b, off, rfl, hc0, hc1, hc2, hc3⟩ := (hl.ext hxr) k a ha
      have HA := hid ha
      clear ha
      cases hr : rightB a S
      · go_wp2_with (go_at_call 26; refine (ri_any a.k a.s a.wr a.b S _).mono ?_; rintro e w1 ⟨rfl, hx1⟩; rw [hr])
        go_ret
        exact ⟨ret_bool (valid_no HA.out hr).symm, hxr.trans hx1⟩
      · go_wp2_with (go_at_call 26; refine (ri_any a.k a.s a.wr a.b S _).mono ?_; rintro e w1 ⟨rfl, hx1⟩; rw [hr])
        go_roundw
        case rel => exact ⟨k + 1, by omega, by go_num, valid_step HA.out hr HV.out, hxr.trans hx1⟩
        case measure => simp [intOf]; omega
    · obtain rfl : k = n := by omega
      go_wp2_with fail
      go_ret
      exact ⟨ret_bool (by have := HV.out; rw [List.take_of_length_le (by rw [HN.out]; exact Nat.le_refl _)] at this; exact this.symm), hxr⟩

/-- equal lists -/
theorem same_any (A B : Option Addr) (l : List Act) (n c d : Nat) (w : World) (hl : ActsAt w A l) (hk : ActsAt w B l) (hn : l.length = n) (hm : n ≤ maxLen) :
    Calls Tryd.prog 13 #[.slice A n c, .slice B n d] w fun e w' => e = .returned (.bool true) ∧ Ext w w' := by
  have HN := hid hn
  clear hn
  unfold maxLen at hm
  go_enter Tryd.func13, Tryd.ntmps13
  go_wp2_with fail
  go_loopw [5] (fun i wr => ∃ k : Nat, k ≤ n ∧ i = .int .i64 k ∧ Ext w wr) (fun i _ => n - (intOf i).toNat)
  case atStart => exact ⟨0, Nat.zero_le _, rfl, Ext.refl w⟩
  case round =>
    obtain ⟨k, hk', rfl, hxr⟩ := hrel
    by_cases hlt : k < n
    · obtain ⟨a, ha⟩ : ∃ a, l[k]? = some a := ⟨_, List.getElem?_eq_getElem (by rw [HN.out]; exact hlt)⟩
      obtain ⟨b, off, rfl, hc0, hc1, hc2, hc3⟩ := (hl.ext hxr) k a ha
      obtain ⟨b2, off2, rfl, hd0, hd1, hd2, hd3⟩ := (hk.ext hxr) k a ha
      have HA := hid ha
      clear ha
      have hk0 : (0 : Int) ≤ (k : Int) := by omega
      have hkn : (k : Int) < (n : Int) := by omega
      go_wp2_with fail
      go_quiet (fail)
      go_wp2_with fail
      go_roundw
      case rel => exact ⟨k + 1, by omega, by go_num, hxr.drewN _⟩
      case measure => simp [intOf]; omega
    · obtain rfl : k = n := by omega
      go_wp2_with fail
      go_ret
      exact ⟨rfl, hxr⟩

end Go.Proofs.YtcdinoepjimkmaaDoor
