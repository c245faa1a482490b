/-
  Walks over history: the reference's same, Same. · Walks over history: the reference's Same.
-/
import Derived.Test.YtdjdhkbomhendaaGreatDoorGh
import Derived.Test.YtdjdhkbomhendaaGreatDoorGl
namespace Go.Proofs.YtdjdhkbomhendaaGreatDoor
open Go.RowKit
set_option linter.unusedVariables false
set_option linter.unusedSimpArgs false
set_option maxHeartbeats 4000000
set_option maxRecDepth 100000

theorem rsame_any (x y : Ev) (r1 w1 r2 w2 : Value) (w : World) (h1 : RsAt w r1 x.rows) (h2 : WsAt w w1 x.wts) (h3 : RsAt w r2 y.rows) (h4 : WsAt w w2 y.wts) (hx : x.fit) (hy : y.fit) :
    Calls Tryz.prog 40 #[evV x r1 w1, evV y r2 w2] w fun r w' => r = .returned (.bool (eqE x y)) ∧ Ext w w' := by
  obtain ⟨A1, c1, rfl, h1⟩ := h1
  obtain ⟨B1, d1, rfl, h2⟩ := h2
  obtain ⟨A2, c2, rfl, h3⟩ := h3
  obtain ⟨B2, d2, rfl, h4⟩ := h4
  have HR1 := hid h1
  have HW1 := hid h2
  have HR2 := hid h3
  have HW2 := hid h4
  have HO : Hid (eqE x y = (decide (x.kd = y.kd) && decide (x.ss = y.ss) && decide (x.tx = y.tx) && decide (x.st = y.st) && decide (x.er = y.er) && decide (x.ct = y.ct) && eqL eqR x.rows y.rows && eqL eqW x.wts y.wts)) := rfl
  rw [HO.out]
  have HF1 := hid hx
  have HF2 := hid hy
  clear h1 h2 h3 h4 HO hx hy
  unfold evV
  obtain ⟨kd, ss, tx, st, er, ct, rows, wts⟩ := x
  obtain ⟨kd2, ss2, tx2, st2, er2, ct2, rows2, wts2⟩ := y
  unfold Ev.fit at HF1 HF2
  simp only at *
  obtain ⟨n1, hn1⟩ : ∃ n, rows.length = n := ⟨_, rfl⟩
  obtain ⟨n2, hn2⟩ : ∃ n, rows2.length = n := ⟨_, rfl⟩
  obtain ⟨m1, hm1⟩ : ∃ n, wts.length = n := ⟨_, rfl⟩
  obtain ⟨m2, hm2⟩ : ∃ n, wts2.length = n := ⟨_, rfl⟩
  have HN1 := hid hn1
  have HN2 := hid hn2
  have HM1 := hid hm1
  have HM2 := hid hm2
  rw [hn1, hn2, hm1, hm2]
  have bn1 : n1 ≤ 9223372036854775807 := by have := HF1.out.1; omega
  have bm1 : m1 ≤ 9223372036854775807 := by have := HF1.out.2.1; omega
  clear hn1 hn2 hm1 hm2
  have HB := hid ((Blk.of_new w 36 [.int .i64 kd, .int .i64 ss, .int .i64 tx, .int .i64 st, .int .i64 er, .int .i64 ct, .slice A1 n1 c1, .slice B1 m1 d1]).ext ((Ext.refl _).alloc (.cells #[.int .i64 kd2, .int .i64 ss2, .int .i64 tx2, .int .i64 st2, .int .i64 er2, .int .i64 ct2, .slice A2 n2 c2, .slice B2 m2 d2] 36)))
  have hb2 := Blk.of_new (w.alloc (.cells #[.int .i64 kd, .int .i64 ss, .int .i64 tx, .int .i64 st, .int .i64 er, .int .i64 ct, .slice A1 n1 c1, .slice B1 m1 d1] 36)) 36 [.int .i64 kd2, .int .i64 ss2, .int .i64 tx2, .int .i64 st2, .int .i64 er2, .int .i64 ct2, .slice A2 n2 c2, .slice B2 m2 d2]
  rw [show (w.alloc (.cells #[.int .i64 kd, .int .i64 ss, .int .i64 tx, .int .i64 st, .int .i64 er, .int .i64 ct, .slice A1 n1 c1, .slice B1 m1 d1] 36)).heap.size = w.heap.size + 1 by simp] at hb2
  have HB2 := hid hb2
  have HX := hid (((Ext.refl w).alloc (.cells #[.int .i64 kd, .int .i64 ss, .int .i64 tx, .int .i64 st, .int .i64 er, .int .i64 ct, .slice A1 n1 c1, .slice B1 m1 d1] 36)).alloc (.cells #[.int .i64 kd2, .int .i64 ss2, .int .i64 tx2, .int .i64 st2, .int .i64 er2, .int .i64 ct2, .slice A2 n2 c2, .slice B2 m2 d2] 36))
  clear hb2
  go_enter Tryz.func40, Tryz.ntmps40
  go_upto_region 1 with fail
  generalize (w.alloc (.cells #[.int .i64 kd, .int .i64 ss, .int .i64 tx, .int .i64 st, .int .i64 er, .int .i64 ct, .slice A1 n1 c1, .slice B1 m1 d1] 36)).alloc (.cells #[.int .i64 kd2, .int .i64 ss2, .int .i64 tx2, .int .i64 st2, .int .i64 er2, .int .i64 ct2, .slice A2 n2 c2, .slice B2 m2 d2] 36) = W1 at *
  generalize w.heap.size = g at *
  have p0 := HB.out.cell 0
  have q0 := HB2.out.cell 0
  have p1 := HB.out.cell 1
  have q1 := HB2.out.cell 1
  have p2 := HB.out.cell 2
  have q2 := HB2.out.cell 2
  have p3 := HB.out.cell 3
  have q3 := HB2.out.cell 3
  have p4 := HB.out.cell 4
  have q4 := HB2.out.cell 4
  have p5 := HB.out.cell 5
  have q5 := HB2.out.cell 5
  have p6 := HB.out.cell 6
  have q6 := HB2.out.cell 6
  have p7 := HB.out.cell 7
  have q7 := HB2.out.cell 7
  simp only [List.getElem?_cons_succ, List.getElem?_cons_zero] at p0 q0 p1 q1 p2 q2 p3 q3 p4 q4 p5 q5 p6 q6 p7 q7
  by_cases e0 : kd = kd2
  · subst e0
    by_cases e1 : ss = ss2
    · subst e1
      by_cases e2 : tx = tx2
      · subst e2
        by_cases e3 : st = st2
        · subst e3
          by_cases e4 : er = er2
          · subst e4
            by_cases e5 : ct = ct2
            · subst e5
              by_cases en : n1 = n2
              · subst en
                by_cases em : m1 = m2
                · subst em
                  go_wp2_with fail
                  go_loopw [5] (fun iv wr => ∃ (k : Nat), k ≤ n1 ∧ iv = .int .i64 k ∧ STo eqR rows rows2 k ∧ Ext W1 wr) (fun i _ => n1 - (intOf i).toNat)
                  case atStart => exact ⟨0, Nat.zero_le _, rfl, STo.zero _ _ _, Ext.refl W1⟩
                  case round =>
                    obtain ⟨k, hk, rfl, hr, hxr⟩ := hrel
                    have HXr := hid hxr
                    have HRr := hid hr
                    have u6 := (HB.out.ext hxr).cell 6
                    have v6 := (HB2.out.ext hxr).cell 6
                    have u7 := (HB.out.ext hxr).cell 7
                    have v7 := (HB2.out.ext hxr).cell 7
                    simp only [List.getElem?_cons_succ, List.getElem?_cons_zero] at u6 v6 u7 v7
                    by_cases hlt : k < n1
                    · obtain ⟨a, ha⟩ := rat_lt HN1.out hlt
                      obtain ⟨b, hb⟩ := rat_lt HN2.out hlt
                      obtain ⟨ba, offa, va, rfl, s0, s1⟩ := (HR1.out.ext (HX.out.trans hxr)) k a ha
                      obtain ⟨bb, offb, vb, rfl, t0, t1⟩ := (HR2.out.ext (HX.out.trans hxr)) k b hb
                      obtain ⟨Aa, ca, rfl, hva⟩ := s1
                      obtain ⟨Ab, cb, rfl, hvb⟩ := t1
                      have HC := hid (fun W (hW : Ext wr W) => rrows_any Aa Ab a b a.length b.length ca cb W (hva.ext hW) rfl (HF1.out.2.2.1 a (List.mem_of_getElem? ha)) (hvb.ext hW) rfl (HF2.out.2.2.1 b (List.mem_of_getElem? hb)))
                      have i0 : (0 : Int) ≤ (k : Int) := by omega
                      have i1 : (k : Int) < (n1 : Int) := by omega
                      have HA := hid ha
                      have HBb := hid hb
                      have Hu6 := hid u6
                      clear ha hb hva hvb hr hxr
                      generalize a.length = la at *
                      generalize b.length = lb at *
                      cases hv : eqR a b
                      · rw [hv] at HC
                        have HP : Hid (eqL eqR rows rows2 = false) := eqL_take _ _ k _ _ HA.out HBb.out hv
                        clear hv
                        have z6 := Later.keep u6
                        have y6 := Later.keep v6
                        replace s0 := Later.keep s0
                        replace t0 := Later.keep t0
                        go_wp2_with fail
                        refine wp_region_later (by kernel_rfl) (by kernel_rfl) ?_
                        repeat (go_big_quiet_step ((go_at_call 79; exact later_of (HC.out _ (Later.ext _)))))
                        refine wpQuiet_nil ?_
                        first | (intro w9 hw9; have hx9 := later_out hw9; clear hw9) | (rintro w9; have hx9 := later_out ⟨w9, rfl⟩)
                        go_wp2_with fail
                        go_ret
                        exact ⟨ret_bool (by rw [HP.out]; simp), HX.out.trans (HXr.out.trans hx9)⟩
                      · rw [hv] at HC
                        have HP := hid (HRr.out.succ HA.out HBb.out hv)
                        clear hv
                        have z6 := Later.keep u6
                        have y6 := Later.keep v6
                        replace s0 := Later.keep s0
                        replace t0 := Later.keep t0
                        go_wp2_with fail
                        refine wp_region_later (by kernel_rfl) (by kernel_rfl) ?_
                        repeat (go_big_quiet_step ((go_at_call 79; exact later_of (HC.out _ (Later.ext _)))))
                        refine wpQuiet_nil ?_
                        first | (intro w9 hw9; have hx9 := later_out hw9; clear hw9) | (rintro w9; have hx9 := later_out ⟨w9, rfl⟩)
                        go_wp2_with fail
                        go_roundw
                        case rel => exact ⟨k + 1, by omega, by go_num, HP.out, HXr.out.trans hx9⟩
                        case measure => simp [intOf]; omega
                    · obtain rfl : k = n1 := by omega
                      have HALL : Hid (eqL eqR rows rows2 = true) := eqL_yes HN1.out HN2.out HRr.out
                      have HX5 := hid (HX.out.trans hxr)
                      have HBa := hid (HB.out.ext hxr)
                      have HBb := hid (HB2.out.ext hxr)
                      clear hr hxr HXr
                      go_wp2_with fail
                      generalize wr = W5 at *
                      go_loopw [6] (fun iv wr => ∃ (j : Nat), j ≤ m1 ∧ iv = .int .i64 j ∧ STo eqW wts wts2 j ∧ Ext W5 wr) (fun i _ => m1 - (intOf i).toNat)
                      case atStart => exact ⟨0, Nat.zero_le _, rfl, STo.zero _ _ _, Ext.refl W5⟩
                      case round =>
                        obtain ⟨j, hj, rfl, hr, hxr⟩ := hrel
                        have HXr := hid hxr
                        have HRr2 := hid hr
                        clear u6 v6 u7 v7
                        have u7 := (HBa.out.ext hxr).cell 7
                        have v7 := (HBb.out.ext hxr).cell 7
                        simp only [List.getElem?_cons_succ, List.getElem?_cons_zero] at u7 v7
                        by_cases hlt : j < m1
                        · obtain ⟨a, ha⟩ := rat_lt HM1.out hlt
                          obtain ⟨b, hb⟩ := rat_lt HM2.out hlt
                          obtain ⟨ba, offa, va, rfl, s0, s1, s2, s3⟩ := (HW1.out.ext (HX5.out.trans hxr)) j a ha
                          obtain ⟨bb, offb, vb, rfl, t0, t1, t2, t3⟩ := (HW2.out.ext (HX5.out.trans hxr)) j b hb
                          obtain ⟨Aa, ca, rfl, hva⟩ := s3
                          obtain ⟨Ab, cb, rfl, hvb⟩ := t3
                          have HC := hid (fun W (hW : Ext wr W) => rrows_any Aa Ab a.row b.row a.row.length b.row.length ca cb W (hva.ext hW) rfl (HF1.out.2.2.2 a (List.mem_of_getElem? ha)) (hvb.ext hW) rfl (HF2.out.2.2.2 b (List.mem_of_getElem? hb)))
                          have i0 : (0 : Int) ≤ (j : Int) := by omega
                          have i1 : (j : Int) < (m1 : Int) := by omega
                          have HEq : Hid (eqW a b = (decide (a.tx = b.tx) && decide (a.tb = b.tb) && eqR a.row b.row)) := rfl
                          have HPN : Hid (eqW a b = false → eqL eqW wts wts2 = false) := fun h => eqL_take _ _ j _ _ ha hb h
                          have HPY : Hid (eqW a b = true → STo eqW wts wts2 (j + 1)) := fun h => hr.succ ha hb h
                          clear ha hb hva hvb hr hxr
                          have z7 := Later.keep u7
                          have y7 := Later.keep v7
                          replace s0 := Later.keep s0
                          replace s1 := Later.keep s1
                          replace s2 := Later.keep s2
                          replace t0 := Later.keep t0
                          replace t1 := Later.keep t1
                          replace t2 := Later.keep t2
                          generalize a.row.length = la at *
                          generalize b.row.length = lb at *
                          generalize eqR a.row b.row = V at *
                          generalize a.tx = atx at *
                          generalize b.tx = btx at *
                          generalize a.tb = atb at *
                          generalize b.tb = btb at *
                          by_cases e1 : atx = btx
                          · subst e1
                            have d1 : (atx != atx) = false := by simp
                            by_cases e2 : atb = btb
                            · subst e2
                              have d2 : (atb != atb) = false := by simp
                              cases V
                              · have HP : Hid (eqL eqW wts wts2 = false) := HPN.out (by rw [HEq.out]; simp)
                                clear HPN HPY HEq
                                go_wp2_with fail
                                refine wp_region_later (by kernel_rfl) (by kernel_rfl) ?_
                                repeat (go_big_quiet_step ((go_at_call 79; exact later_of (HC.out _ (Later.ext _)))))
                                refine wpQuiet_nil ?_
                                first | (intro w9 hw9; have hx9 := later_out hw9; clear hw9) | (rintro w9; have hx9 := later_out ⟨w9, rfl⟩)
                                go_wp2_with fail
                                go_ret
                                exact ⟨ret_bool (by rw [HP.out]; simp), HX5.out.trans (HXr.out.trans hx9)⟩
                              · have HP := hid (HPY.out (by rw [HEq.out]; simp))
                                clear HPN HPY HEq
                                go_wp2_with fail
                                refine wp_region_later (by kernel_rfl) (by kernel_rfl) ?_
                                repeat (go_big_quiet_step ((go_at_call 79; exact later_of (HC.out _ (Later.ext _)))))
                                refine wpQuiet_nil ?_
                                first | (intro w9 hw9; have hx9 := later_out hw9; clear hw9) | (rintro w9; have hx9 := later_out ⟨w9, rfl⟩)
                                go_wp2_with fail
                                go_roundw
                                case rel => exact ⟨j + 1, by omega, by go_num, HP.out, HXr.out.trans hx9⟩
                                case measure => simp [intOf]; omega
                            · have d2 : (atb != btb) = true := by simpa using e2
                              have HP : Hid (eqL eqW wts wts2 = false) := HPN.out (by rw [HEq.out, decide_eq_false e2]; simp)
                              clear HPN HPY HEq e2
                              go_wp2_with fail
                              refine wp_region_later (by kernel_rfl) (by kernel_rfl) ?_
                              repeat (go_big_quiet_step (fail))
                              refine wpQuiet_nil ?_
                              first | (intro w9 hw9; have hx9 := later_out hw9; clear hw9) | (rintro w9; have hx9 := later_out ⟨w9, rfl⟩)
                              go_wp2_with fail
                              go_ret
                              exact ⟨ret_bool (by rw [HP.out]; simp), HX5.out.trans (HXr.out.trans hx9)⟩
                          · have d1 : (atx != btx) = true := by simpa using e1
                            have HP : Hid (eqL eqW wts wts2 = false) := HPN.out (by rw [HEq.out, decide_eq_false e1]; simp)
                            clear HPN HPY HEq e1
                            go_wp2_with fail
                            refine wp_region_later (by kernel_rfl) (by kernel_rfl) ?_
                            repeat (go_big_quiet_step (fail))
                            refine wpQuiet_nil ?_
                            first | (intro w9 hw9; have hx9 := later_out hw9; clear hw9) | (rintro w9; have hx9 := later_out ⟨w9, rfl⟩)
                            go_wp2_with fail
                            go_ret
                            exact ⟨ret_bool (by rw [HP.out]; simp), HX5.out.trans (HXr.out.trans hx9)⟩
                        · obtain rfl : j = m1 := by omega
                          have HALW : Hid (eqL eqW wts wts2 = true) := eqL_yes HM1.out HM2.out HRr2.out
                          clear hr hxr
                          go_wp2_with fail
                          go_ret
                          exact ⟨ret_bool (by rw [HALL.out, HALW.out]; simp), HX5.out.trans HXr.out⟩
                · have bm : ((m1 : Int) != (m2 : Int)) = true := by rw [bne_iff_ne]; omega
                  have HE : Hid (eqL eqW wts wts2 = false) := eqL_len _ _ (by rw [HM1.out, HM2.out]; exact em)
                  clear em
                  go_wp2_with fail
                  go_ret
                  exact ⟨ret_bool (by rw [HE.out]; simp), HX.out⟩
              · have bn : ((n1 : Int) != (n2 : Int)) = true := by rw [bne_iff_ne]; omega
                have HE : Hid (eqL eqR rows rows2 = false) := eqL_len _ _ (by rw [HN1.out, HN2.out]; exact en)
                clear en
                go_wp2_with fail
                go_ret
                exact ⟨ret_bool (by rw [HE.out]; simp), HX.out⟩
            · have b5 : (ct != ct2) = true := by simpa using e5
              go_wp2_with fail
              go_ret
              exact ⟨ret_bool (by simp [e5]), HX.out⟩
          · have b4 : (er != er2) = true := by simpa using e4
            go_wp2_with fail
            go_ret
            exact ⟨ret_bool (by simp [e4]), HX.out⟩
        · have b3 : (st != st2) = true := by simpa using e3
          go_wp2_with fail
          go_ret
          exact ⟨ret_bool (by simp [e3]), HX.out⟩
      · have b2 : (tx != tx2) = true := by simpa using e2
        go_wp2_with fail
        go_ret
        exact ⟨ret_bool (by simp [e2]), HX.out⟩
    · have b1 : (ss != ss2) = true := by simpa using e1
      go_wp2_with fail
      go_ret
      exact ⟨ret_bool (by simp [e1]), HX.out⟩
  · have b0 : (kd != kd2) = true := by simpa using e0
    go_wp2_with fail
    go_ret
    exact ⟨ret_bool (by simp [e0]), HX.out⟩
end Go.Proofs.YtdjdhkbomhendaaGreatDoor
namespace Go.Proofs.YtdjdhkbomhendaaGreatDoor
open Go.RowKit
set_option linter.unusedVariables false
set_option linter.unusedSimpArgs false
set_option maxHeartbeats 4000000
set_option maxRecDepth 100000

theorem Same_any (l m : List Ev) (A B : Option Addr) (n p c c' : Nat) (w : World) (hl : l.length = n) (hm : m.length = p) (hn : n ≤ 9223372036854775807) (hp : p ≤ 9223372036854775807) (hk : EvsAt w A l) (hk2 : EvsAt w B m)
    (hs1 : ∀ r ∈ l, Ev.fit r) (hs2 : ∀ r ∈ m, Ev.fit r) :
    Calls Tryz.prog 17 #[.slice A n c, .slice B p c'] w fun r w' => r = .returned (.bool (eqH l m)) ∧ Ext w w' := by
  have HL := hid hl
  have HM := hid hm
  have HK := hid hk
  have HK2 := hid hk2
  have HS1 := hid hs1
  have HS2 := hid hs2
  clear hl hm hk hk2 hs1 hs2
  by_cases hnp : n = p
  · subst hnp
    have bN : ((n : Int) != (n : Int)) = false := by simp
    go_enter Tryz.func17, Tryz.ntmps17
    go_wp2_with fail
    go_loopw [5] (fun iv wr => ∃ (k : Nat), k ≤ n ∧ iv = .int .i64 k ∧ STo eqE l m k ∧ Ext w wr) (fun i _ => n - (intOf i).toNat)
    case atStart => exact ⟨0, Nat.zero_le _, rfl, STo.zero _ l m, Ext.refl w⟩
    case round =>
      obtain ⟨k, hkn, rfl, hr, hxr⟩ := hrel
      have HXr := hid hxr
      have HRr := hid hr
      by_cases hlt : k < n
      · obtain ⟨x, hx⟩ := rat_lt HL.out hlt
        obtain ⟨y, hy⟩ := rat_lt HM.out hlt
        obtain ⟨b, off, vr, vw, rfl, q0, q1, q2, q3, q4, q5, q6, q7, q8, q9⟩ := (HK.out.ext hxr) k x hx
        obtain ⟨b2, off2, vr2, vw2, rfl, s0, s1, s2, s3, s4, s5, s6, s7, s8, s9⟩ := (HK2.out.ext hxr) k y hy
        have HC : Hid (∀ W, Ext wr W → Calls Tryz.prog 40 #[.agg #[.int .i64 x.kd, .int .i64 x.ss, .int .i64 x.tx, .int .i64 x.st, .int .i64 x.er, .int .i64 x.ct, vr, vw], .agg #[.int .i64 y.kd, .int .i64 y.ss, .int .i64 y.tx, .int .i64 y.st, .int .i64 y.er, .int .i64 y.ct, vr2, vw2]] W fun r w' => r = .returned (.bool (eqE x y)) ∧ Ext W w') := fun W hW =>
          rsame_any x y vr vw vr2 vw2 W (q8.ext hW) (q9.ext hW) (s8.ext hW) (s9.ext hW) (HS1.out x (List.mem_of_getElem? hx)) (HS2.out y (List.mem_of_getElem? hy))
        have HE := hid hx
        have HE2 := hid hy
        have i0 : (0 : Int) ≤ (k : Int) := by omega
        have i1 : (k : Int) < (n : Int) := by omega
        clear hx hy hxr hr q8 q9 s8 s9
        replace q0 := Later.keep q0
        replace s0 := Later.keep s0
        replace q1 := Later.keep q1
        replace s1 := Later.keep s1
        replace q2 := Later.keep q2
        replace s2 := Later.keep s2
        replace q3 := Later.keep q3
        replace s3 := Later.keep s3
        replace q4 := Later.keep q4
        replace s4 := Later.keep s4
        replace q5 := Later.keep q5
        replace s5 := Later.keep s5
        replace q6 := Later.keep q6
        replace s6 := Later.keep s6
        replace q7 := Later.keep q7
        replace s7 := Later.keep s7
        cases hpq : eqE x y
        · rw [hpq] at HC
          have HP : Hid (eqL eqE l m = false) := eqL_take l m k _ _ HE.out HE2.out hpq
          clear hpq
          go_wp2_with fail
          refine wp_region_later (by kernel_rfl) (by kernel_rfl) ?_
          repeat (go_big_quiet_step ((go_at_call 40; exact later_of (HC.out _ (Later.ext _)))))
          refine wpQuiet_nil ?_
          first | (intro w9 hw9; have hx9 := later_out hw9; clear hw9) | (rintro w9; have hx9 := later_out ⟨w9, rfl⟩)
          go_wp2_with fail
          go_ret
          exact ⟨ret_bool HP.out.symm, HXr.out.trans hx9⟩
        · rw [hpq] at HC
          have HP := hid (HRr.out.succ HE.out HE2.out hpq)
          clear hpq
          go_wp2_with fail
          refine wp_region_later (by kernel_rfl) (by kernel_rfl) ?_
          repeat (go_big_quiet_step ((go_at_call 40; exact later_of (HC.out _ (Later.ext _)))))
          refine wpQuiet_nil ?_
          first | (intro w9 hw9; have hx9 := later_out hw9; clear hw9) | (rintro w9; have hx9 := later_out ⟨w9, rfl⟩)
          go_wp2_with fail
          go_roundw
          case rel => exact ⟨k + 1, by omega, by go_num, HP.out, HXr.out.trans hx9⟩
          case measure => simp [intOf]; omega
      · obtain rfl : k = n := by omega
        have HP : Hid (eqL eqE l m = true) := eqL_yes HL.out HM.out HRr.out
        go_wp2_with fail
        go_ret
        exact ⟨ret_bool HP.out.symm, HXr.out⟩
  · have bN : ((n : Int) != (p : Int)) = true := by simp; omega
    have HP : Hid (eqL eqE l m = false) := eqL_len l m (by rw [HL.out, HM.out]; exact hnp)
    go_enter Tryz.func17, Tryz.ntmps17
    go_wp2_with fail
    go_ret
    exact ⟨ret_bool HP.out.symm, Ext.refl w⟩
end Go.Proofs.YtdjdhkbomhendaaGreatDoor
