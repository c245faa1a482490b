/-
  Walk over the law PatternAutomaton.
-/
import Derived.Test.YtbniemkllhhnfaaPAB
import Derived.Test.YtbniemkllhhnfaaW15
namespace Go.Proofs.Ytbniemkllhhnfaa
open Go.RowKit
set_option linter.unusedVariables false
set_option linter.unusedSimpArgs false
set_option maxHeartbeats 4000000
set_option maxRecDepth 100000

theorem law_automaton_a (v kd : Int) (ng : Bool) (p t : ByteArray) (w : World) (hp : p.size ≤ maxLen) (ht : t.size ≤ maxLen) (hv : vT kd p = false) :
    Calls Try.prog 9 #[.agg #[.int .i64 v, .int .i64 kd, .bool ng, .string p], .string t] w fun e w' => e = .returned (.bool true) ∧ Ext w w' := by
  have ht2 := ht
  unfold maxLen at ht2
  have HP := hid hp
  have HT := hid ht
  clear hp ht
  go_enter Try.func9, Try.ntmps9
  go_wp2_with fail
  refine (awake_any _).mono ?_
  rintro e w1 ⟨rfl, hx1⟩
  obtain ⟨hb0, hb1, hb2, hb3⟩ := box4 hx1
  have HX := hid (((Ext.refl w).alloc _).trans hx1)
  clear hx1
  go_wp2_with fail
  refine (rvalid_any v kd ng p _ HP.out).mono ?_
  rintro e w2 ⟨rfl, hx2⟩
  rw [hv]
  go_wp2_with fail
  refine (awake_any _).mono ?_
  rintro e w3 ⟨rfl, hx3⟩
  go_wp2_with fail
  go_ret
  exact ⟨rfl, HX.out.trans (hx2.trans hx3)⟩
theorem law_automaton_b (v kd : Int) (ng : Bool) (p t : ByteArray) (w : World) (hp : p.size ≤ maxLen) (ht : t.size ≤ maxLen) (hv : vT kd p = true) (hl : 30 < t.size) :
    Calls Try.prog 9 #[.agg #[.int .i64 v, .int .i64 kd, .bool ng, .string p], .string t] w fun e w' => e = .returned (.bool true) ∧ Ext w w' := by
  have ht2 := ht
  unfold maxLen at ht2
  have HP := hid hp
  have HT := hid ht
  clear hp ht
  have hl2 : (30 : Int) < (t.size : Int) := by omega
  go_enter Try.func9, Try.ntmps9
  go_wp2_with fail
  refine (awake_any _).mono ?_
  rintro e w1 ⟨rfl, hx1⟩
  obtain ⟨hb0, hb1, hb2, hb3⟩ := box4 hx1
  have HX := hid (((Ext.refl w).alloc _).trans hx1)
  clear hx1
  go_wp2_with fail
  refine (rvalid_any v kd ng p _ HP.out).mono ?_
  rintro e w2 ⟨rfl, hx2⟩
  rw [hv]
  go_wp2_with fail
  refine (awake_any _).mono ?_
  rintro e w3 ⟨rfl, hx3⟩
  go_wp2_with fail
  go_ret
  exact ⟨rfl, HX.out.trans (hx2.trans hx3)⟩
theorem law_automaton_c (v kd : Int) (ng : Bool) (p t : ByteArray) (w : World) (hp : p.size ≤ maxLen) (ht : t.size ≤ maxLen) (hv : vT kd p = true) (hl : ¬ 30 < t.size) (hpr : prn (N t) = false) :
    Calls Try.prog 9 #[.agg #[.int .i64 v, .int .i64 kd, .bool ng, .string p], .string t] w fun e w' => e = .returned (.bool true) ∧ Ext w w' := by
  have ht2 := ht
  unfold maxLen at ht2
  have HP := hid hp
  have HT := hid ht
  clear hp ht
  have hl2 : ¬ (30 : Int) < (t.size : Int) := by omega
  go_enter Try.func9, Try.ntmps9
  go_wp2_with fail
  refine (awake_any _).mono ?_
  rintro e w1 ⟨rfl, hx1⟩
  obtain ⟨hb0, hb1, hb2, hb3⟩ := box4 hx1
  have HX := hid (((Ext.refl w).alloc _).trans hx1)
  clear hx1
  go_wp2_with fail
  refine (rvalid_any v kd ng p _ HP.out).mono ?_
  rintro e w2 ⟨rfl, hx2⟩
  rw [hv]
  go_wp2_with fail
  refine (rprintable_any t _ HT.out).mono ?_
  rintro e w2' ⟨rfl, rfl⟩
  rw [hpr]
  go_wp2_with fail
  refine (awake_any _).mono ?_
  rintro e w3 ⟨rfl, hx3⟩
  go_wp2_with fail
  go_ret
  exact ⟨rfl, HX.out.trans (hx2.trans hx3)⟩
theorem law_automaton_d (v kd : Int) (ng : Bool) (p t : ByteArray) (w : World) (hp : p.size ≤ maxLen) (ht : t.size ≤ maxLen) (hv : vT kd p = true) (hl : ¬ 30 < t.size) (hpr : prn (N t) = true) :
    Calls Try.prog 9 #[.agg #[.int .i64 v, .int .i64 kd, .bool ng, .string p], .string t] w fun e w' => e = .returned (.bool true) ∧ Ext w w' := by
  have ht2 := ht
  unfold maxLen at ht2
  have HP := hid hp
  have HT := hid ht
  clear hp ht
  have hl2 : ¬ (30 : Int) < (t.size : Int) := by omega
  have hvo := hid (vT_out hv)
  have hsz : p.size ≤ 16 := hvo.out.2.2.1
  go_enter Try.func9, Try.ntmps9
  go_wp2_with fail
  refine (awake_any _).mono ?_
  rintro e w1 ⟨rfl, hx1⟩
  obtain ⟨hb0, hb1, hb2, hb3⟩ := box4 hx1
  have HX := hid (((Ext.refl w).alloc _).trans hx1)
  clear hx1
  go_wp2_with fail
  refine (rvalid_any v kd ng p _ HP.out).mono ?_
  rintro e w2 ⟨rfl, hx2⟩
  have hc0 := hx2.keep hb0
  have hc1 := hx2.keep hb1
  have hc2 := hx2.keep hb2
  have hc3 := hx2.keep hb3
  clear hb0 hb1 hb2 hb3
  rw [hv]
  go_wp2_with fail
  refine (rprintable_any t _ HT.out).mono ?_
  rintro e w2' ⟨rfl, rfl⟩
  rw [hpr]
  go_wp2_with fail
  refine (automaton_any v kd ng p _ hsz).mono ?_
  rintro e w3 ⟨hres, hx3⟩
  have ha0 := hx3.keep hc0
  have ha1 := hx3.keep hc1
  have ha2 := hx3.keep hc2
  have ha3 := hx3.keep hc3
  clear hc0 hc1 hc2 hc3
  have HX3 := hid (HX.out.trans (hx2.trans hx3))
  clear hx2 hx3 HX
  rcases hres with ⟨A, B, n, cA, cB, sts, Es, rfl, h1, h2, h3, hAut, hAcc, hEds⟩ | ⟨sts, rfl, hnd, hr, hl9⟩
  · have HAut := hid hAut
    have HAcc := hid hAcc
    have HEds := hid hEds
    have HN := hid h3
    clear hAut hAcc hEds h3
    have hlen : Es.length = n := by rw [HAut.out.len, HN.out]
    have HLn := hid hlen
    clear hlen
    have hxa := (Ext.refl w3).alloc (.cells #[.slice A n cA, .slice B n cB] 41)
    have hb0 := hxa.keep ha0
    have hb1 := hxa.keep ha1
    have hb2 := hxa.keep ha2
    have hb3 := hxa.keep ha3
    have HXa := hid hxa
    clear hxa ha0 ha1 ha2 ha3
    go_wp2_with fail
    refine (back_any A B n cA cB Es _ (HEds.out.ext HXa.out) HLn.out (aut_len HAut.out) h2).mono ?_
    rintro e w4 ⟨⟨B', c', rfl, hE4⟩, hx4⟩
    have hxb := hx4.alloc (.cells #[.slice A n cA, .slice B' n c'] 48)
    have hE5 := hE4.ext ((Ext.refl w4).alloc (.cells #[.slice A n cA, .slice B' n c'] 48))
    have hA5 := (HAcc.out.ext HXa.out).ext hxb
    have ha0 := hxb.keep hb0
    have ha1 := hxb.keep hb1
    have ha2 := hxb.keep hb2
    have ha3 := hxb.keep hb3
    have hd0 : (w4.alloc (.cells #[.slice A n cA, .slice B' n c'] 48)).cell? ⟨w4.heap.size, 0, none⟩ = some (.slice A n cA) := by simp [World.cell?_alloc_new]
    have hd1 : (w4.alloc (.cells #[.slice A n cA, .slice B' n c'] 48)).cell? ⟨w4.heap.size, 1, none⟩ = some (.slice B' n c') := by simp [World.cell?_alloc_new]
    have HE5 := hid hE5
    have HA5 := hid hA5
    have HX5 := hid (HX3.out.trans (HXa.out.trans hxb))
    clear hE4 hE5 hA5 hxb hx4 hb0 hb1 hb2 hb3
    go_upto_region 7 with fail
    generalize w4.alloc (.cells #[.slice A n cA, .slice B' n c'] 48) = W5 at *
    generalize w4.heap.size = g5 at *
    have hT := HT.out
    have HL95 := hid (fun E (h : E ∈ Es) => Nat.le_trans (aut_len HAut.out E h) (by decide : 95 ≤ 1000000))
    have c26 : ∀ x : Later W5, Calls Try.prog 26 #[.agg #[.slice A n cA, .slice B' n c']] x.now fun e w' => e = .returned (.bool true) ∧ Ext x.now w' := fun x => avalid_any A B' n cA c' kd (N p) sts Es x.now (HE5.out.ext x.ext) HLn.out HAut.out h1 h2
    have c27 : ∀ x : Later W5, Calls Try.prog 27 #[.agg #[.slice A n cA, .slice B' n c'], .string t] x.now fun e w' => e = .returned (.bool (psB kd ng (N p) (N t))) ∧ Ext x.now w' := fun x => accepts_any A B' n cA c' kd ng (N p) sts _ Es t x.now (HA5.out.ext x.ext) (HE5.out.ext x.ext) HLn.out HAut.out rfl HL95.out (by omega) (by omega) hpr
    have hrel : rpsB kd ng (N p) (N t) = psB kd ng (N p) (N t) := (ps_eq kd ng (N p) (N t) (N_len16 hvo.out.2.2.1) ⟨hvo.out.1, hvo.out.2.1⟩).symm
    have c15 : ∀ w, Calls Try.prog 15 #[.agg #[.int .i64 v, .int .i64 kd, .bool ng, .string p], .string t] w fun e w' => e = .returned (.bool (psB kd ng (N p) (N t))) ∧ Ext w w' := fun w => by
      rw [← hrel]; exact rpasses_any v kd ng p t w hvo.out.2.2.1 ⟨hvo.out.1, hvo.out.2.1⟩ (by omega)
    clear hrel
    generalize psB kd ng (N p) (N t) = R at c15 c27
    have hRR : (R == R) = true := by cases R <;> rfl
    have ht0 := Later.keep ha0
    have ht1 := Later.keep ha1
    have ht2' := Later.keep ha2
    have ht3 := Later.keep ha3
    have he0 := Later.keep hd0
    have he1 := Later.keep hd1
    refine wp_region_later (by kernel_rfl) (by kernel_rfl) ?_
    repeat (go_big_quiet_step ((first | (go_at_call 26; exact later_of (c26 _)) | (go_at_call 27; exact later_of (c27 _)) | (go_at_call 15; exact later_of (c15 _)))))
    refine wpQuiet_nil ?_
    intro w' hw'
    have hx := later_out hw'
    go_wp2_with fail
    go_ret
    refine ⟨ret_bool ?_, HX5.out.trans hx⟩
    simp
  · have hk : kd = 1 := by
      rcases Int.decEq kd 1 with hk | hk
      · have := few_states kd hk (N p) (N_len16 hsz) sts hnd hr
        omega
      · exact hk
    subst hk
    have HS := hid (fun m (h : SetsOk (N p) m) => sets_many (N p) (N_len16 hsz) m h sts hnd hr hl9)
    clear hnd hr
    have hxa := (Ext.refl w3).alloc (.cells #[.slice none 0 0, .slice none 0 0] 41)
    have hb1 := hxa.keep ha1
    have hb3 := hxa.keep ha3
    have HXa := hid hxa
    clear hxa ha0 ha1 ha2 ha3
    go_wp2_with fail
    refine (sets_any p _ hsz).mono ?_
    rintro e w4 ⟨⟨m, rfl, hm, hm9⟩, hx4⟩
    have hm2 := HS.out m hm
    have hm3 : (100 : Int) < (m : Int) := by omega
    go_wp2_with fail
    go_ret
    exact ⟨rfl, HX3.out.trans (HXa.out.trans hx4)⟩
theorem law_automaton (v kd : Int) (ng : Bool) (p t : ByteArray) (w : World) (hp : p.size ≤ maxLen) (ht : t.size ≤ maxLen) :
    Calls Try.prog 9 #[.agg #[.int .i64 v, .int .i64 kd, .bool ng, .string p], .string t] w fun e w' => e = .returned (.bool true) ∧ Ext w w' := by
  cases hv : vT kd p
  · exact law_automaton_a v kd ng p t w hp ht hv
  by_cases hl : 30 < t.size
  · exact law_automaton_b v kd ng p t w hp ht hv hl
  cases hpr : prn (N t)
  · exact law_automaton_c v kd ng p t w hp ht hv hl hpr
  exact law_automaton_d v kd ng p t w hp ht hv hl hpr
end Go.Proofs.Ytbniemkllhhnfaa
