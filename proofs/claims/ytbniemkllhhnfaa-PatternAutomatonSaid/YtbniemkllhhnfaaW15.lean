/-
  Walks over the laws of the pattern package: PatternNegation.
-/
import Derived.Test.YtbniemkllhhnfaaW14
import Derived.Test.YtbniemkllhhnfaaPure6
namespace Go.Proofs.Ytbniemkllhhnfaa
open Go.RowKit
set_option maxHeartbeats 1000000
set_option maxRecDepth 100000

def vT (kd : Int) (p : ByteArray) : Bool := decide (0 ≤ kd) && decide (kd ≤ 3) && decide (p.size ≤ 16) && prn (N p)
theorem vT_out {kd : Int} {p : ByteArray} (h : vT kd p = true) : 0 ≤ kd ∧ kd ≤ 3 ∧ p.size ≤ 16 ∧ prn (N p) = true := by
  unfold vT at h
  simp only [Bool.and_eq_true, decide_eq_true_eq] at h
  exact ⟨h.1.1.1, h.1.1.2, h.1.2, h.2⟩
theorem rvalid_any (v kd : Int) (ng : Bool) (p : ByteArray) (w : World) (hs : p.size ≤ maxLen) :
    Calls Try.prog 12 #[.agg #[.int .i64 v, .int .i64 kd, .bool ng, .string p]] w fun e w' => e = .returned (.bool (vT kd p)) ∧ Ext w w' := by
  unfold maxLen at hs
  exact valid_any v kd ng p w hs
theorem rprintable_any (s : ByteArray) (w : World) (hs : s.size ≤ maxLen) : Calls Try.prog 13 #[.string s] w fun e w' => e = .returned (.bool (prn (N s))) ∧ w = w' := by
  unfold maxLen at hs
  exact printable_any s w hs

theorem law_neg (v kd : Int) (ng : Bool) (p t : ByteArray) (w : World) (hp : p.size ≤ maxLen) (ht : t.size ≤ maxLen) :
    Calls Try.prog 5 #[.agg #[.int .i64 v, .int .i64 kd, .bool ng, .string p], .string t] w fun e w' => e = .returned (.bool true) ∧ Ext w w' := by
  have ht2 := ht
  unfold maxLen at ht2
  have HP := hid hp
  have HT := hid ht
  clear hp ht
  cases hv : vT kd p
  · go_enter Try.func5, Try.ntmps5
    go_wp2_with fail
    refine (awake_any _).mono ?_
    rintro e w1 ⟨rfl, hx1⟩
    obtain ⟨hb0, hb1, hb2, hb3⟩ := box4 hx1
    have HX := hid (((Ext.refl w).alloc _).trans hx1)
    clear hx1
    go_wp2_with fail
    refine (rvalid_any v kd ng p _ HP.out).mono ?_
    rintro e w2 ⟨rfl, hx2⟩
    rw [hv]
    go_wp2_with fail
    refine (awake_any _).mono ?_
    rintro e w3 ⟨rfl, hx3⟩
    go_wp2_with fail
    go_ret
    exact ⟨rfl, HX.out.trans (hx2.trans hx3)⟩
  · by_cases hl : 30 < t.size
    · have hl2 : (30 : Int) < (t.size : Int) := by omega
      go_enter Try.func5, Try.ntmps5
      go_wp2_with fail
      refine (awake_any _).mono ?_
      rintro e w1 ⟨rfl, hx1⟩
      obtain ⟨hb0, hb1, hb2, hb3⟩ := box4 hx1
      have HX := hid (((Ext.refl w).alloc _).trans hx1)
      clear hx1
      go_wp2_with fail
      refine (rvalid_any v kd ng p _ HP.out).mono ?_
      rintro e w2 ⟨rfl, hx2⟩
      rw [hv]
      go_wp2_with fail
      refine (awake_any _).mono ?_
      rintro e w3 ⟨rfl, hx3⟩
      go_wp2_with fail
      go_ret
      exact ⟨rfl, HX.out.trans (hx2.trans hx3)⟩
    · have hl2 : ¬ (30 : Int) < (t.size : Int) := by omega
      cases hpr : prn (N t)
      · go_enter Try.func5, Try.ntmps5
        go_wp2_with fail
        refine (awake_any _).mono ?_
        rintro e w1 ⟨rfl, hx1⟩
        obtain ⟨hb0, hb1, hb2, hb3⟩ := box4 hx1
        have HX := hid (((Ext.refl w).alloc _).trans hx1)
        clear hx1
        go_wp2_with fail
        refine (rvalid_any v kd ng p _ HP.out).mono ?_
        rintro e w2 ⟨rfl, hx2⟩
        rw [hv]
        go_wp2_with fail
        refine (rprintable_any t _ HT.out).mono ?_
        rintro e w2 ⟨rfl, rfl⟩
        rw [hpr]
        go_wp2_with fail
        refine (awake_any _).mono ?_
        rintro e w3 ⟨rfl, hx3⟩
        go_wp2_with fail
        go_ret
        exact ⟨rfl, HX.out.trans (hx2.trans hx3)⟩
      · have hvo := hid (vT_out hv)
        go_enter Try.func5, Try.ntmps5
        go_wp2_with fail
        refine (awake_any _).mono ?_
        rintro e w1 ⟨rfl, hx1⟩
        obtain ⟨hb0, hb1, hb2, hb3⟩ := box4 hx1
        have HX := hid (((Ext.refl w).alloc _).trans hx1)
        clear hx1
        go_wp2_with fail
        refine (rvalid_any v kd ng p _ HP.out).mono ?_
        rintro e w2 ⟨rfl, hx2⟩
        have hc0 := hx2.keep hb0
        have hc1 := hx2.keep hb1
        have hc2 := hx2.keep hb2
        have hc3 := hx2.keep hb3
        clear hb0 hb1 hb2 hb3
        rw [hv]
        go_wp2_with fail
        refine (rprintable_any t _ HT.out).mono ?_
        rintro e w2' ⟨rfl, rfl⟩
        rw [hpr]
        have hl0 := fun c : Bool => boxL w2 (.int .i64 v) (.int .i64 kd) (.bool c) (.string p) 23
        obtain ⟨hn0, hn1, hn2, hn3⟩ := hl0 (!ng)
        have ht0 := fun o => Later.keep (w := w2.alloc o) (((Ext.refl w2).alloc o).keep hc0)
        have ht1 := fun o => Later.keep (w := w2.alloc o) (((Ext.refl w2).alloc o).keep hc1)
        have ht2 := fun o => Later.keep (w := w2.alloc o) (((Ext.refl w2).alloc o).keep hc2)
        have ht3 := fun o => Later.keep (w := w2.alloc o) (((Ext.refl w2).alloc o).keep hc3)
        have ha0 := fun o => ((Ext.refl w2).alloc o).keep hc0
        have ha1 := fun o => ((Ext.refl w2).alloc o).keep hc1
        have ha2 := fun o => ((Ext.refl w2).alloc o).keep hc2
        have ha3 := fun o => ((Ext.refl w2).alloc o).keep hc3
        have hpn := ps_neg kd ng (N p) (N t)
        clear hl0
        go_wp2_with fail
        refine wp_region_later (by kernel_rfl) (by kernel_rfl) ?_
        repeat (go_big_quiet_step ((first | (go_at_call_of 14 (Value.bool ng); exact later_of (passes_any v kd ng p t _ hvo.out.2.2.1 (by omega))) | (go_at_call_of 14 (Value.bool !ng); exact later_of (passes_any v kd (!ng) p t _ hvo.out.2.2.1 (by omega))))))
        refine wpQuiet_nil ?_
        intro w' hw'
        have hx := later_out hw'
        clear hw' hn0 hn1 hn2 hn3 ht0 ht1 ht2 ht3 hc0 hc1 hc2 hc3
        go_wp2_with fail
        go_ret
        exact ⟨ret_bool (by first | exact hpn | rfl), HX.out.trans (hx2.trans (((Ext.refl w2).alloc _).trans hx))⟩

end Go.Proofs.Ytbniemkllhhnfaa
