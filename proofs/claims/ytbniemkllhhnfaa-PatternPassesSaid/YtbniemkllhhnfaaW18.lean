/-
  Walk over the law PatternPasses.
-/
import Derived.Test.YtbniemkllhhnfaaW17
import Derived.Test.YtbniemkllhhnfaaW4
namespace Go.Proofs.Ytbniemkllhhnfaa
open Go.RowKit
set_option maxHeartbeats 1000000
set_option maxRecDepth 100000

theorem law_passes_a (v kd : Int) (ng : Bool) (p t : ByteArray) (w : World) (hp : p.size ≤ maxLen) (ht : t.size ≤ maxLen) (hv : vT kd p = false) :
    Calls Try.prog 3 #[.agg #[.int .i64 v, .int .i64 kd, .bool ng, .string p], .string t] w fun e w' => e = .returned (.bool true) ∧ Ext w w' := by
  have ht2 := ht
  unfold maxLen at ht2
  have HP := hid hp
  have HT := hid ht
  clear hp ht
  go_enter Try.func3, Try.ntmps3
  go_wp2_with fail
  refine (awake_any _).mono ?_
  rintro e w1 ⟨rfl, hx1⟩
  obtain ⟨hb0, hb1, hb2, hb3⟩ := box4 hx1
  have HX := hid (((Ext.refl w).alloc _).trans hx1)
  clear hx1
  go_wp2_with fail
  refine (rvalid_any v kd ng p _ HP.out).mono ?_
  rintro e w2 ⟨rfl, hx2⟩
  rw [hv]
  go_wp2_with fail
  refine (awake_any _).mono ?_
  rintro e w3 ⟨rfl, hx3⟩
  go_wp2_with fail
  go_ret
  exact ⟨rfl, HX.out.trans (hx2.trans hx3)⟩

theorem law_passes_b (v kd : Int) (ng : Bool) (p t : ByteArray) (w : World) (hp : p.size ≤ maxLen) (ht : t.size ≤ maxLen) (hv : vT kd p = true) (hl : 12 < t.size) :
    Calls Try.prog 3 #[.agg #[.int .i64 v, .int .i64 kd, .bool ng, .string p], .string t] w fun e w' => e = .returned (.bool true) ∧ Ext w w' := by
  have ht2 := ht
  unfold maxLen at ht2
  have HP := hid hp
  have HT := hid ht
  clear hp ht
  have hl2 : (12 : Int) < (t.size : Int) := by omega
  go_enter Try.func3, Try.ntmps3
  go_wp2_with fail
  refine (awake_any _).mono ?_
  rintro e w1 ⟨rfl, hx1⟩
  obtain ⟨hb0, hb1, hb2, hb3⟩ := box4 hx1
  have HX := hid (((Ext.refl w).alloc _).trans hx1)
  clear hx1
  go_wp2_with fail
  refine (rvalid_any v kd ng p _ HP.out).mono ?_
  rintro e w2 ⟨rfl, hx2⟩
  rw [hv]
  go_wp2_with fail
  refine (awake_any _).mono ?_
  rintro e w3 ⟨rfl, hx3⟩
  go_wp2_with fail
  go_ret
  exact ⟨rfl, HX.out.trans (hx2.trans hx3)⟩

theorem law_passes_c (v kd : Int) (ng : Bool) (p t : ByteArray) (w : World) (hp : p.size ≤ maxLen) (ht : t.size ≤ maxLen) (hv : vT kd p = true) (hl : ¬ 12 < t.size) (hpr : prn (N t) = false) :
    Calls Try.prog 3 #[.agg #[.int .i64 v, .int .i64 kd, .bool ng, .string p], .string t] w fun e w' => e = .returned (.bool true) ∧ Ext w w' := by
  have ht2 := ht
  unfold maxLen at ht2
  have HP := hid hp
  have HT := hid ht
  clear hp ht
  have hl2 : ¬ (12 : Int) < (t.size : Int) := by omega
  go_enter Try.func3, Try.ntmps3
  go_wp2_with fail
  refine (awake_any _).mono ?_
  rintro e w1 ⟨rfl, hx1⟩
  obtain ⟨hb0, hb1, hb2, hb3⟩ := box4 hx1
  have HX := hid (((Ext.refl w).alloc _).trans hx1)
  clear hx1
  go_wp2_with fail
  refine (rvalid_any v kd ng p _ HP.out).mono ?_
  rintro e w2 ⟨rfl, hx2⟩
  rw [hv]
  go_wp2_with fail
  refine (rprintable_any t _ HT.out).mono ?_
  rintro e w2 ⟨rfl, rfl⟩
  rw [hpr]
  go_wp2_with fail
  refine (awake_any _).mono ?_
  rintro e w3 ⟨rfl, hx3⟩
  go_wp2_with fail
  go_ret
  exact ⟨rfl, HX.out.trans (hx2.trans hx3)⟩

theorem law_passes_d (v kd : Int) (ng : Bool) (p t : ByteArray) (w : World) (hp : p.size ≤ maxLen) (ht : t.size ≤ maxLen) (hv : vT kd p = true) (hl : ¬ 12 < t.size) (hpr : prn (N t) = true) (hk : kd = 1) (hs8 : 8 < p.size) :
    Calls Try.prog 3 #[.agg #[.int .i64 v, .int .i64 kd, .bool ng, .string p], .string t] w fun e w' => e = .returned (.bool true) ∧ Ext w w' := by
  subst hk
  have ht2 := ht
  unfold maxLen at ht2
  have HP := hid hp
  have HT := hid ht
  clear hp ht
  have hl2 : ¬ (12 : Int) < (t.size : Int) := by omega
  have hvo := hid (vT_out hv)
  have hrel : rpsB 1 ng (N p) (N t) = psB 1 ng (N p) (N t) := (ps_eq 1 ng (N p) (N t) (N_len16 hvo.out.2.2.1) ⟨hvo.out.1, hvo.out.2.1⟩).symm
  have hmat : (1 : Int) = 1 → psB 1 ng (N p) (N t) = (mtc (N p) (N t) != ng) := fun h => by rw [h]; exact ps_match _ _ _
  have hsz : p.size ≤ 16 := hvo.out.2.2.1
  go_enter Try.func3, Try.ntmps3
  go_wp2_with fail
  refine (awake_any _).mono ?_
  rintro e w1 ⟨rfl, hx1⟩
  obtain ⟨hb0, hb1, hb2, hb3⟩ := box4 hx1
  have HX := hid (((Ext.refl w).alloc _).trans hx1)
  clear hx1
  go_wp2_with fail
  refine (rvalid_any v 1 ng p _ HP.out).mono ?_
  rintro e w2 ⟨rfl, hx2⟩
  have hc0 := hx2.keep hb0
  have hc1 := hx2.keep hb1
  have hc2 := hx2.keep hb2
  have hc3 := hx2.keep hb3
  clear hb0 hb1 hb2 hb3
  rw [hv]
  go_wp2_with fail
  refine (rprintable_any t _ HT.out).mono ?_
  rintro e w2' ⟨rfl, rfl⟩
  rw [hpr]
  go_wp2_with fail
  refine (passes_any v 1 ng p t _ hvo.out.2.2.1 (by omega)).mono ?_
  rintro e w3 ⟨rfl, hx3⟩
  have c15 : ∀ w, Calls Try.prog 15 #[.agg #[.int .i64 v, .int .i64 1, .bool ng, .string p], .string t] w fun e w' => e = .returned (.bool (psB 1 ng (N p) (N t))) ∧ Ext w w' := fun w => by
    rw [← hrel]; exact rpasses_any v 1 ng p t w hvo.out.2.2.1 ⟨hvo.out.1, hvo.out.2.1⟩ (by omega)
  have c16 : ∀ w, Calls Try.prog 16 #[.string p, .string t] w fun e w' => e = .returned (.bool (mtc (N p) (N t))) ∧ Ext w w' := fun w => match_any _ p t w (Nat.le_refl _) (by omega) (by omega)
  clear hrel
  generalize psB 1 ng (N p) (N t) = R at c15 hmat ⊢
  generalize mtc (N p) (N t) = M at c16 hmat
  have hRR : (R == R) = true := by cases R <;> rfl
  have ht0 := Later.keep (hx3.keep hc0)
  have ht1 := Later.keep (hx3.keep hc1)
  have ht2' := Later.keep (hx3.keep hc2)
  have ht3 := Later.keep (hx3.keep hc3)
  have ha0 := hx3.keep hc0
  have ha1 := hx3.keep hc1
  have ha2 := hx3.keep hc2
  have ha3 := hx3.keep hc3
  have HX3 := hid hx3
  clear hx3 hc0 hc1 hc2 hc3
  have fin : ∀ w', Ext w3 w' → Ext w w' := fun w' h => HX.out.trans (hx2.trans (HX3.out.trans h))
  have hmm := hmat trivial
  have hm2 : (R == (M != ng)) = true := by rw [hmm]; simp
  have hs9 : (8 : Int) < (p.size : Int) := by omega
  go_wp2_with fail
  refine wp_region_later (by kernel_rfl) (by kernel_rfl) ?_
  repeat (go_big_quiet_step ((first | (go_at_call 15; exact later_of (c15 _)))))
  refine wpQuiet_nil ?_
  intro w' hw'
  have hx := later_out hw'
  go_wp2_with fail
  go_ret
  refine ⟨ret_bool ?_, fin _ hx⟩
  simp

theorem law_passes_e (v kd : Int) (ng : Bool) (p t : ByteArray) (w : World) (hp : p.size ≤ maxLen) (ht : t.size ≤ maxLen) (hv : vT kd p = true) (hl : ¬ 12 < t.size) (hpr : prn (N t) = true) (hk : kd = 1) (hs8 : ¬ 8 < p.size) :
    Calls Try.prog 3 #[.agg #[.int .i64 v, .int .i64 kd, .bool ng, .string p], .string t] w fun e w' => e = .returned (.bool true) ∧ Ext w w' := by
  subst hk
  have ht2 := ht
  unfold maxLen at ht2
  have HP := hid hp
  have HT := hid ht
  clear hp ht
  have hl2 : ¬ (12 : Int) < (t.size : Int) := by omega
  have hvo := hid (vT_out hv)
  have hrel : rpsB 1 ng (N p) (N t) = psB 1 ng (N p) (N t) := (ps_eq 1 ng (N p) (N t) (N_len16 hvo.out.2.2.1) ⟨hvo.out.1, hvo.out.2.1⟩).symm
  have hmat : (1 : Int) = 1 → psB 1 ng (N p) (N t) = (mtc (N p) (N t) != ng) := fun h => by rw [h]; exact ps_match _ _ _
  have hsz : p.size ≤ 16 := hvo.out.2.2.1
  go_enter Try.func3, Try.ntmps3
  go_wp2_with fail
  refine (awake_any _).mono ?_
  rintro e w1 ⟨rfl, hx1⟩
  obtain ⟨hb0, hb1, hb2, hb3⟩ := box4 hx1
  have HX := hid (((Ext.refl w).alloc _).trans hx1)
  clear hx1
  go_wp2_with fail
  refine (rvalid_any v 1 ng p _ HP.out).mono ?_
  rintro e w2 ⟨rfl, hx2⟩
  have hc0 := hx2.keep hb0
  have hc1 := hx2.keep hb1
  have hc2 := hx2.keep hb2
  have hc3 := hx2.keep hb3
  clear hb0 hb1 hb2 hb3
  rw [hv]
  go_wp2_with fail
  refine (rprintable_any t _ HT.out).mono ?_
  rintro e w2' ⟨rfl, rfl⟩
  rw [hpr]
  go_wp2_with fail
  refine (passes_any v 1 ng p t _ hvo.out.2.2.1 (by omega)).mono ?_
  rintro e w3 ⟨rfl, hx3⟩
  have c15 : ∀ w, Calls Try.prog 15 #[.agg #[.int .i64 v, .int .i64 1, .bool ng, .string p], .string t] w fun e w' => e = .returned (.bool (psB 1 ng (N p) (N t))) ∧ Ext w w' := fun w => by
    rw [← hrel]; exact rpasses_any v 1 ng p t w hvo.out.2.2.1 ⟨hvo.out.1, hvo.out.2.1⟩ (by omega)
  have c16 : ∀ w, Calls Try.prog 16 #[.string p, .string t] w fun e w' => e = .returned (.bool (mtc (N p) (N t))) ∧ Ext w w' := fun w => match_any _ p t w (Nat.le_refl _) (by omega) (by omega)
  clear hrel
  generalize psB 1 ng (N p) (N t) = R at c15 hmat ⊢
  generalize mtc (N p) (N t) = M at c16 hmat
  have hRR : (R == R) = true := by cases R <;> rfl
  have ht0 := Later.keep (hx3.keep hc0)
  have ht1 := Later.keep (hx3.keep hc1)
  have ht2' := Later.keep (hx3.keep hc2)
  have ht3 := Later.keep (hx3.keep hc3)
  have ha0 := hx3.keep hc0
  have ha1 := hx3.keep hc1
  have ha2 := hx3.keep hc2
  have ha3 := hx3.keep hc3
  have HX3 := hid hx3
  clear hx3 hc0 hc1 hc2 hc3
  have fin : ∀ w', Ext w3 w' → Ext w w' := fun w' h => HX.out.trans (hx2.trans (HX3.out.trans h))
  have hmm := hmat trivial
  have hm2 : (R == (M != ng)) = true := by rw [hmm]; simp
  have hs10 : decide ((8 : Int) < (p.size : Int)) = false := by simp; omega
  go_wp2_with fail
  refine wp_region_later (by kernel_rfl) (by kernel_rfl) ?_
  repeat (go_big_quiet_step ((first | (go_at_call 15; exact later_of (c15 _)) | (go_at_call 16; exact later_of (c16 _)))))
  refine wpQuiet_nil ?_
  intro w' hw'
  have hx := later_out hw'
  go_wp2_with fail
  go_ret
  refine ⟨ret_bool ?_, fin _ hx⟩
  cases M <;> cases ng <;> rfl

theorem law_passes_f (v kd : Int) (ng : Bool) (p t : ByteArray) (w : World) (hp : p.size ≤ maxLen) (ht : t.size ≤ maxLen) (hv : vT kd p = true) (hl : ¬ 12 < t.size) (hpr : prn (N t) = true) (hk : kd ≠ 1) :
    Calls Try.prog 3 #[.agg #[.int .i64 v, .int .i64 kd, .bool ng, .string p], .string t] w fun e w' => e = .returned (.bool true) ∧ Ext w w' := by
  have ht2 := ht
  unfold maxLen at ht2
  have HP := hid hp
  have HT := hid ht
  clear hp ht
  have hl2 : ¬ (12 : Int) < (t.size : Int) := by omega
  have hvo := hid (vT_out hv)
  have hrel : rpsB kd ng (N p) (N t) = psB kd ng (N p) (N t) := (ps_eq kd ng (N p) (N t) (N_len16 hvo.out.2.2.1) ⟨hvo.out.1, hvo.out.2.1⟩).symm
  have hmat : kd = 1 → psB kd ng (N p) (N t) = (mtc (N p) (N t) != ng) := fun h => by rw [h]; exact ps_match _ _ _
  have hsz : p.size ≤ 16 := hvo.out.2.2.1
  go_enter Try.func3, Try.ntmps3
  go_wp2_with fail
  refine (awake_any _).mono ?_
  rintro e w1 ⟨rfl, hx1⟩
  obtain ⟨hb0, hb1, hb2, hb3⟩ := box4 hx1
  have HX := hid (((Ext.refl w).alloc _).trans hx1)
  clear hx1
  go_wp2_with fail
  refine (rvalid_any v kd ng p _ HP.out).mono ?_
  rintro e w2 ⟨rfl, hx2⟩
  have hc0 := hx2.keep hb0
  have hc1 := hx2.keep hb1
  have hc2 := hx2.keep hb2
  have hc3 := hx2.keep hb3
  clear hb0 hb1 hb2 hb3
  rw [hv]
  go_wp2_with fail
  refine (rprintable_any t _ HT.out).mono ?_
  rintro e w2' ⟨rfl, rfl⟩
  rw [hpr]
  go_wp2_with fail
  refine (passes_any v kd ng p t _ hvo.out.2.2.1 (by omega)).mono ?_
  rintro e w3 ⟨rfl, hx3⟩
  have c15 : ∀ w, Calls Try.prog 15 #[.agg #[.int .i64 v, .int .i64 kd, .bool ng, .string p], .string t] w fun e w' => e = .returned (.bool (psB kd ng (N p) (N t))) ∧ Ext w w' := fun w => by
    rw [← hrel]; exact rpasses_any v kd ng p t w hvo.out.2.2.1 ⟨hvo.out.1, hvo.out.2.1⟩ (by omega)
  have c16 : ∀ w, Calls Try.prog 16 #[.string p, .string t] w fun e w' => e = .returned (.bool (mtc (N p) (N t))) ∧ Ext w w' := fun w => match_any _ p t w (Nat.le_refl _) (by omega) (by omega)
  clear hrel
  generalize psB kd ng (N p) (N t) = R at c15 hmat ⊢
  generalize mtc (N p) (N t) = M at c16 hmat
  have hRR : (R == R) = true := by cases R <;> rfl
  have ht0 := Later.keep (hx3.keep hc0)
  have ht1 := Later.keep (hx3.keep hc1)
  have ht2' := Later.keep (hx3.keep hc2)
  have ht3 := Later.keep (hx3.keep hc3)
  have ha0 := hx3.keep hc0
  have ha1 := hx3.keep hc1
  have ha2 := hx3.keep hc2
  have ha3 := hx3.keep hc3
  have HX3 := hid hx3
  clear hx3 hc0 hc1 hc2 hc3
  have fin : ∀ w', Ext w3 w' → Ext w w' := fun w' h => HX.out.trans (hx2.trans (HX3.out.trans h))
  have hk2 : (kd == 1) = false := by rw [beq_eq_false_iff_ne]; exact hk
  have hk3 : (kd != 1) = true := by rw [bne, hk2]; rfl
  go_wp2_with fail
  refine wp_region_later (by kernel_rfl) (by kernel_rfl) ?_
  repeat (go_big_quiet_step ((first | (go_at_call 15; exact later_of (c15 _)))))
  refine wpQuiet_nil ?_
  intro w' hw'
  have hx := later_out hw'
  go_wp2_with fail
  go_ret
  refine ⟨ret_bool ?_, fin _ hx⟩
  simp

theorem law_passes (v kd : Int) (ng : Bool) (p t : ByteArray) (w : World) (hp : p.size ≤ maxLen) (ht : t.size ≤ maxLen) :
    Calls Try.prog 3 #[.agg #[.int .i64 v, .int .i64 kd, .bool ng, .string p], .string t] w fun e w' => e = .returned (.bool true) ∧ Ext w w' := by
  cases hv : vT kd p
  · exact law_passes_a v kd ng p t w hp ht hv
  by_cases hl : 12 < t.size
  · exact law_passes_b v kd ng p t w hp ht hv hl
  cases hpr : prn (N t)
  · exact law_passes_c v kd ng p t w hp ht hv hl hpr
  by_cases hk : kd = 1
  · by_cases hs8 : 8 < p.size
    · exact law_passes_d v kd ng p t w hp ht hv hl hpr hk hs8
    · exact law_passes_e v kd ng p t w hp ht hv hl hpr hk hs8
  · exact law_passes_f v kd ng p t w hp ht hv hl hpr hk

end Go.Proofs.Ytbniemkllhhnfaa
