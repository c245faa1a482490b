/-
  Walks over history: Outcomes (both).
-/
import Derived.Test.YtdjdhkbomhendaaGreatDoorHW31z
namespace Go.Proofs.YtdjdhkbomhendaaGreatDoor
open Go.RowKit
set_option linter.unusedVariables false
set_option linter.unusedSimpArgs false
set_option maxHeartbeats 4000000
set_option maxRecDepth 100000

theorem Outcomes_any (A : Option Addr) (l : List Ev) (n c : Nat) (t : Int) (w : World) (hl : EvsAt w A l) (hn : l.length = n) (hm : n ≤ 1000000) :
    Calls Tryz.prog 23 #[.slice A n c, .int .i64 t] w fun r w' => NumsR w.heap.size 3 (outP l t).2 r w' ∧ Ext w w' := by
  obtain ⟨i0, hi, hz0, hz1, hz2⟩ := info_parts info_int
  have HL := hid hl
  have HN := hid hn
  clear hl hn
  go_enter Tryz.func23, Tryz.ntmps23
  go_wp2_with fail
  go_loopw [5, 6, 11] (fun bv sv iv wr => ∃ (k : Nat), k ≤ n ∧ iv = .int .i64 k ∧ bv = .bool (outP (l.take k) t).1 ∧ wr.ownsRow w.heap.size 3 1 sv (outP (l.take k) t).2.length (i64s (outP (l.take k) t).2) ∧ Ext w wr) (fun _ _ i _ => n - (intOf i).toNat)
  case atStart => exact ⟨0, Nat.zero_le _, rfl, rfl, World.ownsRow_nil _ _ _ _, Ext.refl w⟩
  case round =>
    obtain ⟨k, hk, rfl, rfl, hown, hxr⟩ := hrel
    have HO := hid hown
    have HXr := hid hxr
    clear hown
    by_cases hlt : k < n
    · obtain ⟨e, he⟩ := rat_lt HN.out hlt
      obtain ⟨bq, off, vr, vw, rfl, q0, q1, q2, q3, q4, q5, q6, q7, q8, q9⟩ := (HL.out.ext hxr) k e he
      obtain ⟨A1, c1, rfl, _⟩ := q8
      obtain ⟨B1, d1, rfl, _⟩ := q9
      have HTk := hid (out_take t he)
      unfold outS at HTk
      dsimp only at HTk
      have HLn : Hid ((outP (l.take k) t).2.length ≤ 1000000) := by
        have h1 := out_len t l k (by rw [HN.out]; exact hk)
        unfold Hid
        omega
      obtain ⟨Ax, cx, hvx⟩ := own_slice HO.out
      subst hvx
      have hsm : True := trivial
      clear hxr
      clear he hsm
      generalize e.rows.length = n1 at *
      generalize e.wts.length = m1 at *
      generalize e.kd = kd at *
      generalize e.ss = ss at *
      generalize e.tx = tx at *
      generalize e.st = st at *
      generalize e.er = er at *
      generalize e.ct = ct at *
      generalize outP (l.take k) t = S0 at *
      obtain ⟨bg, C⟩ := S0
      dsimp only at *
      by_cases h1 : tx = t
      · have b1 : (tx == t) = true := by simpa using h1
        have n1' : ¬ (tx ≠ t) := fun h => h h1
        have b1' : (tx != t) = false := by simpa using h1
        by_cases h2 : kd = 1
        · have HT1 : Hid (outP (l.take (k + 1)) t = (true, [])) := by unfold Hid; rw [HTk.out, if_neg n1', if_pos h2]
          subst h2
          clear HTk n1' h1
          go_wp2_with fail
          go_roundw
          case rel =>
            refine ⟨k + 1, by omega, by go_num, by rw [HT1.out], ?_, HXr.out.trans ((Ext.refl wr).alloc _)⟩
            rw [HT1.out]
            exact World.ownsRow_nil _ _ _ _
          case measure => simp [intOf]; omega
        · have b2 : (kd == 1) = false := by simpa using h2
          by_cases h3 : 4 ≤ kd ∧ kd ≤ 7
          · cases bg
            · have HT1 : Hid (outP (l.take (k + 1)) t = (false, C)) := by unfold Hid; rw [HTk.out, if_neg n1', if_neg h2, if_neg (by simp)]
              have h4 : kd = 4 ∨ kd = 5 ∨ kd = 6 ∨ kd = 7 := by omega
              clear HTk n1' h1 h2 h3 b2
              rcases h4 with rfl | rfl | rfl | rfl
              all_goals
                go_wp2_with fail
                go_roundw
                case rel =>
                  refine ⟨k + 1, by omega, by go_num, by rw [HT1.out], ?_, HXr.out.trans ((Ext.refl wr).alloc _)⟩
                  rw [HT1.out]
                  exact ownN_ext HO.out ((Ext.refl wr).alloc _)
                case measure => simp [intOf]; omega
            · have HT1 : Hid (outP (l.take (k + 1)) t = (true, C ++ [(k : Int)])) := by unfold Hid; rw [HTk.out, if_neg n1', if_neg h2, if_pos (by simp; omega)]
              have h4 : kd = 4 ∨ kd = 5 ∨ kd = 6 ∨ kd = 7 := by omega
              clear HTk n1' h1 h2 h3 b2
              rcases h4 with rfl | rfl | rfl | rfl
              · have HXa := hid ((Ext.refl wr).alloc (.cells #[.int .i64 4, .int .i64 ss, .int .i64 tx, .int .i64 st, .int .i64 er, .int .i64 ct, .slice A1 n1 c1, .slice B1 m1 d1] 36))
                go_upto_region 14 with fail
                have HOw := hid (ownN_ext HO.out HXa.out)
                have HXz := hid (HXr.out.trans HXa.out)
                have HBa := hid (Blk.of_new wr 36 [.int .i64 4, .int .i64 ss, .int .i64 tx, .int .i64 st, .int .i64 er, .int .i64 ct, .slice A1 n1 c1, .slice B1 m1 d1])
                generalize wr.alloc (.cells #[.int .i64 4, .int .i64 ss, .int .i64 tx, .int .i64 st, .int .i64 er, .int .i64 ct, .slice A1 n1 c1, .slice B1 m1 d1] 36) = wa at *
                generalize wr.heap.size = ga at *
                obtain ⟨p0, p1, p2, p3, p4, p5⟩ := blk6 HBa.out
                go_wp2_with (at_builtin; refine wpList_append_any _ rfl (.tmp 30) (.tmp 32) 54 rfl w.heap.size 3 i0 _ 1 8 Tryz.underlying54 hi hz0 hz1 hz2 rfl (by decide) _ C.length _ rfl (HOw.out.alloc _) _ _ 1 1 [.int .i64 k] rfl (reads_new1 _ _ _) (by simp [Value.oneCell']) (by have := HLn.out; unfold maxLen; omega) (by have := HLn.out; omega) (by have := HXz.out.size; simp; omega) ?_; intro v5 w5 hown5 hgr5 hblk5)
                have HG5 : Hid (Ext w w5) := Ext.grown (HXz.out.alloc _) hgr5 (fun g hg => own_ge HO.out hg)
                go_roundw
                case rel =>
                  refine ⟨k + 1, by omega, by go_num, by rw [HT1.out], ?_, HG5.out⟩
                  rw [HT1.out, List.length_append, i64s_app]
                  exact hown5
                case measure => simp [intOf]; omega
              · have HXa := hid ((Ext.refl wr).alloc (.cells #[.int .i64 5, .int .i64 ss, .int .i64 tx, .int .i64 st, .int .i64 er, .int .i64 ct, .slice A1 n1 c1, .slice B1 m1 d1] 36))
                go_upto_region 14 with fail
                have HOw := hid (ownN_ext HO.out HXa.out)
                have HXz := hid (HXr.out.trans HXa.out)
                have HBa := hid (Blk.of_new wr 36 [.int .i64 5, .int .i64 ss, .int .i64 tx, .int .i64 st, .int .i64 er, .int .i64 ct, .slice A1 n1 c1, .slice B1 m1 d1])
                generalize wr.alloc (.cells #[.int .i64 5, .int .i64 ss, .int .i64 tx, .int .i64 st, .int .i64 er, .int .i64 ct, .slice A1 n1 c1, .slice B1 m1 d1] 36) = wa at *
                generalize wr.heap.size = ga at *
                obtain ⟨p0, p1, p2, p3, p4, p5⟩ := blk6 HBa.out
                go_wp2_with (at_builtin; refine wpList_append_any _ rfl (.tmp 30) (.tmp 32) 54 rfl w.heap.size 3 i0 _ 1 8 Tryz.underlying54 hi hz0 hz1 hz2 rfl (by decide) _ C.length _ rfl (HOw.out.alloc _) _ _ 1 1 [.int .i64 k] rfl (reads_new1 _ _ _) (by simp [Value.oneCell']) (by have := HLn.out; unfold maxLen; omega) (by have := HLn.out; omega) (by have := HXz.out.size; simp; omega) ?_; intro v5 w5 hown5 hgr5 hblk5)
                have HG5 : Hid (Ext w w5) := Ext.grown (HXz.out.alloc _) hgr5 (fun g hg => own_ge HO.out hg)
                go_roundw
                case rel =>
                  refine ⟨k + 1, by omega, by go_num, by rw [HT1.out], ?_, HG5.out⟩
                  rw [HT1.out, List.length_append, i64s_app]
                  exact hown5
                case measure => simp [intOf]; omega
              · have HXa := hid ((Ext.refl wr).alloc (.cells #[.int .i64 6, .int .i64 ss, .int .i64 tx, .int .i64 st, .int .i64 er, .int .i64 ct, .slice A1 n1 c1, .slice B1 m1 d1] 36))
                go_upto_region 14 with fail
                have HOw := hid (ownN_ext HO.out HXa.out)
                have HXz := hid (HXr.out.trans HXa.out)
                have HBa := hid (Blk.of_new wr 36 [.int .i64 6, .int .i64 ss, .int .i64 tx, .int .i64 st, .int .i64 er, .int .i64 ct, .slice A1 n1 c1, .slice B1 m1 d1])
                generalize wr.alloc (.cells #[.int .i64 6, .int .i64 ss, .int .i64 tx, .int .i64 st, .int .i64 er, .int .i64 ct, .slice A1 n1 c1, .slice B1 m1 d1] 36) = wa at *
                generalize wr.heap.size = ga at *
                obtain ⟨p0, p1, p2, p3, p4, p5⟩ := blk6 HBa.out
                go_wp2_with (at_builtin; refine wpList_append_any _ rfl (.tmp 30) (.tmp 32) 54 rfl w.heap.size 3 i0 _ 1 8 Tryz.underlying54 hi hz0 hz1 hz2 rfl (by decide) _ C.length _ rfl (HOw.out.alloc _) _ _ 1 1 [.int .i64 k] rfl (reads_new1 _ _ _) (by simp [Value.oneCell']) (by have := HLn.out; unfold maxLen; omega) (by have := HLn.out; omega) (by have := HXz.out.size; simp; omega) ?_; intro v5 w5 hown5 hgr5 hblk5)
                have HG5 : Hid (Ext w w5) := Ext.grown (HXz.out.alloc _) hgr5 (fun g hg => own_ge HO.out hg)
                go_roundw
                case rel =>
                  refine ⟨k + 1, by omega, by go_num, by rw [HT1.out], ?_, HG5.out⟩
                  rw [HT1.out, List.length_append, i64s_app]
                  exact hown5
                case measure => simp [intOf]; omega
              · have HXa := hid ((Ext.refl wr).alloc (.cells #[.int .i64 7, .int .i64 ss, .int .i64 tx, .int .i64 st, .int .i64 er, .int .i64 ct, .slice A1 n1 c1, .slice B1 m1 d1] 36))
                go_upto_region 14 with fail
                have HOw := hid (ownN_ext HO.out HXa.out)
                have HXz := hid (HXr.out.trans HXa.out)
                have HBa := hid (Blk.of_new wr 36 [.int .i64 7, .int .i64 ss, .int .i64 tx, .int .i64 st, .int .i64 er, .int .i64 ct, .slice A1 n1 c1, .slice B1 m1 d1])
                generalize wr.alloc (.cells #[.int .i64 7, .int .i64 ss, .int .i64 tx, .int .i64 st, .int .i64 er, .int .i64 ct, .slice A1 n1 c1, .slice B1 m1 d1] 36) = wa at *
                generalize wr.heap.size = ga at *
                obtain ⟨p0, p1, p2, p3, p4, p5⟩ := blk6 HBa.out
                go_wp2_with (at_builtin; refine wpList_append_any _ rfl (.tmp 30) (.tmp 32) 54 rfl w.heap.size 3 i0 _ 1 8 Tryz.underlying54 hi hz0 hz1 hz2 rfl (by decide) _ C.length _ rfl (HOw.out.alloc _) _ _ 1 1 [.int .i64 k] rfl (reads_new1 _ _ _) (by simp [Value.oneCell']) (by have := HLn.out; unfold maxLen; omega) (by have := HLn.out; omega) (by have := HXz.out.size; simp; omega) ?_; intro v5 w5 hown5 hgr5 hblk5)
                have HG5 : Hid (Ext w w5) := Ext.grown (HXz.out.alloc _) hgr5 (fun g hg => own_ge HO.out hg)
                go_roundw
                case rel =>
                  refine ⟨k + 1, by omega, by go_num, by rw [HT1.out], ?_, HG5.out⟩
                  rw [HT1.out, List.length_append, i64s_app]
                  exact hown5
                case measure => simp [intOf]; omega
          · have HT1 : Hid (outP (l.take (k + 1)) t = (bg, C)) := by unfold Hid; rw [HTk.out, if_neg n1', if_neg h2, if_neg (by intro h; exact h3 ⟨h.1, h.2.1⟩)]
            have c4 : (kd == 4) = false := by rw [beq_eq_false_iff_ne]; omega
            have c5 : (kd == 5) = false := by rw [beq_eq_false_iff_ne]; omega
            have c6 : (kd == 6) = false := by rw [beq_eq_false_iff_ne]; omega
            have c7 : (kd == 7) = false := by rw [beq_eq_false_iff_ne]; omega
            have h47 : (kd < 4) ∨ (¬ kd < 4 ∧ 7 < kd) := by omega
            clear HTk n1' h1 h2 h3
            cases bg <;> rcases h47 with h47 | ⟨h46, h47⟩
            all_goals
              go_wp2_with fail
              go_roundw
              case rel =>
                refine ⟨k + 1, by omega, by go_num, by rw [HT1.out], ?_, HXr.out.trans ((Ext.refl wr).alloc _)⟩
                rw [HT1.out]
                exact ownN_ext HO.out ((Ext.refl wr).alloc _)
              case measure => simp [intOf]; omega
      · have HT1 : Hid (outP (l.take (k + 1)) t = (bg, C)) := by unfold Hid; rw [HTk.out, if_pos h1]
        have b1' : (tx != t) = true := by simpa using h1
        have b1 : (tx == t) = false := by simpa using h1
        clear HTk h1
        go_wp2_with fail
        go_roundw
        case rel =>
          refine ⟨k + 1, by omega, by go_num, by rw [HT1.out], ?_, HXr.out.trans ((Ext.refl wr).alloc _)⟩
          rw [HT1.out]
          exact ownN_ext HO.out ((Ext.refl wr).alloc _)
        case measure => simp [intOf]; omega
    · obtain rfl : k = n := by omega
      have hfin : outP (l.take k) t = outP l t := by rw [List.take_of_length_le (Nat.le_of_eq HN.out)]
      rw [hfin] at HO
      go_wp2_with fail
      go_ret
      exact ⟨⟨_, rfl, HO.out⟩, HXr.out⟩
theorem rOutcomes_any (A : Option Addr) (l : List Ev) (n c : Nat) (t : Int) (w : World) (hl : EvsAt w A l) (hn : l.length = n) (hm : n ≤ 1000000) :
    Calls Tryz.prog 24 #[.slice A n c, .int .i64 t] w fun r w' => NumsR w.heap.size 3 (outP l t).2 r w' ∧ Ext w w' := by
  obtain ⟨i0, hi, hz0, hz1, hz2⟩ := info_parts info_int
  have HL := hid hl
  have HN := hid hn
  clear hl hn
  go_enter Tryz.func24, Tryz.ntmps24
  go_wp2_with fail
  go_loopw [5, 6, 7] (fun sv bv iv wr => ∃ (k : Nat), k ≤ n ∧ iv = .int .i64 k ∧ bv = .bool (outP (l.take k) t).1 ∧ wr.ownsRow w.heap.size 3 1 sv (outP (l.take k) t).2.length (i64s (outP (l.take k) t).2) ∧ Ext w wr) (fun _ _ i _ => n - (intOf i).toNat)
  case atStart => exact ⟨0, Nat.zero_le _, rfl, rfl, own_empty w _ _ _ (Nat.le_refl _), (Ext.refl w).alloc _⟩
  case round =>
    obtain ⟨k, hk, rfl, rfl, hown, hxr⟩ := hrel
    have HO := hid hown
    have HXr := hid hxr
    clear hown
    by_cases hlt : k < n
    · obtain ⟨e, he⟩ := rat_lt HN.out hlt
      obtain ⟨bq, off, vr, vw, rfl, q0, q1, q2, q3, q4, q5, q6, q7, q8, q9⟩ := (HL.out.ext hxr) k e he
      obtain ⟨A1, c1, rfl, _⟩ := q8
      obtain ⟨B1, d1, rfl, _⟩ := q9
      have HTk := hid (out_take t he)
      unfold outS at HTk
      dsimp only at HTk
      have HLn : Hid ((outP (l.take k) t).2.length ≤ 1000000) := by
        have h1 := out_len t l k (by rw [HN.out]; exact hk)
        unfold Hid
        omega
      obtain ⟨Ax, cx, hvx⟩ := own_slice HO.out
      subst hvx
      have hsm : True := trivial
      clear hxr
      clear he hsm
      generalize e.rows.length = n1 at *
      generalize e.wts.length = m1 at *
      generalize e.kd = kd at *
      generalize e.ss = ss at *
      generalize e.tx = tx at *
      generalize e.st = st at *
      generalize e.er = er at *
      generalize e.ct = ct at *
      generalize outP (l.take k) t = S0 at *
      obtain ⟨bg, C⟩ := S0
      dsimp only at *
      by_cases h1 : tx = t
      · have b1 : (tx == t) = true := by simpa using h1
        have n1' : ¬ (tx ≠ t) := fun h => h h1
        have b1' : (tx != t) = false := by simpa using h1
        by_cases h2 : kd = 1
        · have HT1 : Hid (outP (l.take (k + 1)) t = (true, [])) := by unfold Hid; rw [HTk.out, if_neg n1', if_pos h2]
          subst h2
          clear HTk n1' h1
          go_wp2_with fail
          go_roundw
          case rel =>
            refine ⟨k + 1, by omega, by go_num, by rw [HT1.out], ?_, HXr.out.trans (((Ext.refl wr).alloc _).alloc _)⟩
            rw [HT1.out]
            exact (by have h := own_empty (wr.alloc (.cells #[.int .i64 1, .int .i64 ss, .int .i64 tx, .int .i64 st, .int .i64 er, .int .i64 ct, .slice A1 n1 c1, .slice B1 m1 d1] 36)) w.heap.size 3 1 (HXr.out.alloc _).size; rw [World.size_alloc] at h; exact h)
          case measure => simp [intOf]; omega
        · have b2 : (kd == 1) = false := by simpa using h2
          by_cases h3 : 4 ≤ kd ∧ kd ≤ 7
          · cases bg
            · have HT1 : Hid (outP (l.take (k + 1)) t = (false, C)) := by unfold Hid; rw [HTk.out, if_neg n1', if_neg h2, if_neg (by simp)]
              have h4 : kd = 4 ∨ kd = 5 ∨ kd = 6 ∨ kd = 7 := by omega
              clear HTk n1' h1 h2 h3 b2
              rcases h4 with rfl | rfl | rfl | rfl
              all_goals
                go_wp2_with fail
                go_roundw
                case rel =>
                  refine ⟨k + 1, by omega, by go_num, by rw [HT1.out], ?_, HXr.out.trans ((Ext.refl wr).alloc _)⟩
                  rw [HT1.out]
                  exact ownN_ext HO.out ((Ext.refl wr).alloc _)
                case measure => simp [intOf]; omega
            · have HT1 : Hid (outP (l.take (k + 1)) t = (true, C ++ [(k : Int)])) := by unfold Hid; rw [HTk.out, if_neg n1', if_neg h2, if_pos (by simp; omega)]
              have h4 : kd = 4 ∨ kd = 5 ∨ kd = 6 ∨ kd = 7 := by omega
              clear HTk n1' h1 h2 h3 b2
              rcases h4 with rfl | rfl | rfl | rfl
              · have HXa := hid ((Ext.refl wr).alloc (.cells #[.int .i64 4, .int .i64 ss, .int .i64 tx, .int .i64 st, .int .i64 er, .int .i64 ct, .slice A1 n1 c1, .slice B1 m1 d1] 36))
                go_upto_region 11 with fail
                have HOw := hid (ownN_ext HO.out HXa.out)
                have HXz := hid (HXr.out.trans HXa.out)
                have HBa := hid (Blk.of_new wr 36 [.int .i64 4, .int .i64 ss, .int .i64 tx, .int .i64 st, .int .i64 er, .int .i64 ct, .slice A1 n1 c1, .slice B1 m1 d1])
                generalize wr.alloc (.cells #[.int .i64 4, .int .i64 ss, .int .i64 tx, .int .i64 st, .int .i64 er, .int .i64 ct, .slice A1 n1 c1, .slice B1 m1 d1] 36) = wa at *
                generalize wr.heap.size = ga at *
                obtain ⟨p0, p1, p2, p3, p4, p5⟩ := blk6 HBa.out
                go_wp2_with (at_builtin; refine wpList_append_any _ rfl (.tmp 39) (.tmp 41) 54 rfl w.heap.size 3 i0 _ 1 8 Tryz.underlying54 hi hz0 hz1 hz2 rfl (by decide) _ C.length _ rfl (HOw.out.alloc _) _ _ 1 1 [.int .i64 k] rfl (reads_new1 _ _ _) (by simp [Value.oneCell']) (by have := HLn.out; unfold maxLen; omega) (by have := HLn.out; omega) (by have := HXz.out.size; simp; omega) ?_; intro v5 w5 hown5 hgr5 hblk5)
                have HG5 : Hid (Ext w w5) := Ext.grown (HXz.out.alloc _) hgr5 (fun g hg => own_ge HO.out hg)
                go_roundw
                case rel =>
                  refine ⟨k + 1, by omega, by go_num, by rw [HT1.out], ?_, HG5.out⟩
                  rw [HT1.out, List.length_append, i64s_app]
                  exact hown5
                case measure => simp [intOf]; omega
              · have HXa := hid ((Ext.refl wr).alloc (.cells #[.int .i64 5, .int .i64 ss, .int .i64 tx, .int .i64 st, .int .i64 er, .int .i64 ct, .slice A1 n1 c1, .slice B1 m1 d1] 36))
                go_upto_region 11 with fail
                have HOw := hid (ownN_ext HO.out HXa.out)
                have HXz := hid (HXr.out.trans HXa.out)
                have HBa := hid (Blk.of_new wr 36 [.int .i64 5, .int .i64 ss, .int .i64 tx, .int .i64 st, .int .i64 er, .int .i64 ct, .slice A1 n1 c1, .slice B1 m1 d1])
                generalize wr.alloc (.cells #[.int .i64 5, .int .i64 ss, .int .i64 tx, .int .i64 st, .int .i64 er, .int .i64 ct, .slice A1 n1 c1, .slice B1 m1 d1] 36) = wa at *
                generalize wr.heap.size = ga at *
                obtain ⟨p0, p1, p2, p3, p4, p5⟩ := blk6 HBa.out
                go_wp2_with (at_builtin; refine wpList_append_any _ rfl (.tmp 39) (.tmp 41) 54 rfl w.heap.size 3 i0 _ 1 8 Tryz.underlying54 hi hz0 hz1 hz2 rfl (by decide) _ C.length _ rfl (HOw.out.alloc _) _ _ 1 1 [.int .i64 k] rfl (reads_new1 _ _ _) (by simp [Value.oneCell']) (by have := HLn.out; unfold maxLen; omega) (by have := HLn.out; omega) (by have := HXz.out.size; simp; omega) ?_; intro v5 w5 hown5 hgr5 hblk5)
                have HG5 : Hid (Ext w w5) := Ext.grown (HXz.out.alloc _) hgr5 (fun g hg => own_ge HO.out hg)
                go_roundw
                case rel =>
                  refine ⟨k + 1, by omega, by go_num, by rw [HT1.out], ?_, HG5.out⟩
                  rw [HT1.out, List.length_append, i64s_app]
                  exact hown5
                case measure => simp [intOf]; omega
              · have HXa := hid ((Ext.refl wr).alloc (.cells #[.int .i64 6, .int .i64 ss, .int .i64 tx, .int .i64 st, .int .i64 er, .int .i64 ct, .slice A1 n1 c1, .slice B1 m1 d1] 36))
                go_upto_region 11 with fail
                have HOw := hid (ownN_ext HO.out HXa.out)
                have HXz := hid (HXr.out.trans HXa.out)
                have HBa := hid (Blk.of_new wr 36 [.int .i64 6, .int .i64 ss, .int .i64 tx, .int .i64 st, .int .i64 er, .int .i64 ct, .slice A1 n1 c1, .slice B1 m1 d1])
                generalize wr.alloc (.cells #[.int .i64 6, .int .i64 ss, .int .i64 tx, .int .i64 st, .int .i64 er, .int .i64 ct, .slice A1 n1 c1, .slice B1 m1 d1] 36) = wa at *
                generalize wr.heap.size = ga at *
                obtain ⟨p0, p1, p2, p3, p4, p5⟩ := blk6 HBa.out
                go_wp2_with (at_builtin; refine wpList_append_any _ rfl (.tmp 39) (.tmp 41) 54 rfl w.heap.size 3 i0 _ 1 8 Tryz.underlying54 hi hz0 hz1 hz2 rfl (by decide) _ C.length _ rfl (HOw.out.alloc _) _ _ 1 1 [.int .i64 k] rfl (reads_new1 _ _ _) (by simp [Value.oneCell']) (by have := HLn.out; unfold maxLen; omega) (by have := HLn.out; omega) (by have := HXz.out.size; simp; omega) ?_; intro v5 w5 hown5 hgr5 hblk5)
                have HG5 : Hid (Ext w w5) := Ext.grown (HXz.out.alloc _) hgr5 (fun g hg => own_ge HO.out hg)
                go_roundw
                case rel =>
                  refine ⟨k + 1, by omega, by go_num, by rw [HT1.out], ?_, HG5.out⟩
                  rw [HT1.out, List.length_append, i64s_app]
                  exact hown5
                case measure => simp [intOf]; omega
              · have HXa := hid ((Ext.refl wr).alloc (.cells #[.int .i64 7, .int .i64 ss, .int .i64 tx, .int .i64 st, .int .i64 er, .int .i64 ct, .slice A1 n1 c1, .slice B1 m1 d1] 36))
                go_upto_region 11 with fail
                have HOw := hid (ownN_ext HO.out HXa.out)
                have HXz := hid (HXr.out.trans HXa.out)
                have HBa := hid (Blk.of_new wr 36 [.int .i64 7, .int .i64 ss, .int .i64 tx, .int .i64 st, .int .i64 er, .int .i64 ct, .slice A1 n1 c1, .slice B1 m1 d1])
                generalize wr.alloc (.cells #[.int .i64 7, .int .i64 ss, .int .i64 tx, .int .i64 st, .int .i64 er, .int .i64 ct, .slice A1 n1 c1, .slice B1 m1 d1] 36) = wa at *
                generalize wr.heap.size = ga at *
                obtain ⟨p0, p1, p2, p3, p4, p5⟩ := blk6 HBa.out
                go_wp2_with (at_builtin; refine wpList_append_any _ rfl (.tmp 39) (.tmp 41) 54 rfl w.heap.size 3 i0 _ 1 8 Tryz.underlying54 hi hz0 hz1 hz2 rfl (by decide) _ C.length _ rfl (HOw.out.alloc _) _ _ 1 1 [.int .i64 k] rfl (reads_new1 _ _ _) (by simp [Value.oneCell']) (by have := HLn.out; unfold maxLen; omega) (by have := HLn.out; omega) (by have := HXz.out.size; simp; omega) ?_; intro v5 w5 hown5 hgr5 hblk5)
                have HG5 : Hid (Ext w w5) := Ext.grown (HXz.out.alloc _) hgr5 (fun g hg => own_ge HO.out hg)
                go_roundw
                case rel =>
                  refine ⟨k + 1, by omega, by go_num, by rw [HT1.out], ?_, HG5.out⟩
                  rw [HT1.out, List.length_append, i64s_app]
                  exact hown5
                case measure => simp [intOf]; omega
          · have HT1 : Hid (outP (l.take (k + 1)) t = (bg, C)) := by unfold Hid; rw [HTk.out, if_neg n1', if_neg h2, if_neg (by intro h; exact h3 ⟨h.1, h.2.1⟩)]
            have c4 : (kd == 4) = false := by rw [beq_eq_false_iff_ne]; omega
            have c5 : (kd == 5) = false := by rw [beq_eq_false_iff_ne]; omega
            have c6 : (kd == 6) = false := by rw [beq_eq_false_iff_ne]; omega
            have c7 : (kd == 7) = false := by rw [beq_eq_false_iff_ne]; omega
            have h47 : (kd < 4) ∨ (¬ kd < 4 ∧ 7 < kd) := by omega
            clear HTk n1' h1 h2 h3
            cases bg <;> rcases h47 with h47 | ⟨h46, h47⟩
            all_goals
              go_wp2_with fail
              go_roundw
              case rel =>
                refine ⟨k + 1, by omega, by go_num, by rw [HT1.out], ?_, HXr.out.trans ((Ext.refl wr).alloc _)⟩
                rw [HT1.out]
                exact ownN_ext HO.out ((Ext.refl wr).alloc _)
              case measure => simp [intOf]; omega
      · have HT1 : Hid (outP (l.take (k + 1)) t = (bg, C)) := by unfold Hid; rw [HTk.out, if_pos h1]
        have b1' : (tx != t) = true := by simpa using h1
        have b1 : (tx == t) = false := by simpa using h1
        clear HTk h1
        go_wp2_with fail
        go_roundw
        case rel =>
          refine ⟨k + 1, by omega, by go_num, by rw [HT1.out], ?_, HXr.out.trans ((Ext.refl wr).alloc _)⟩
          rw [HT1.out]
          exact ownN_ext HO.out ((Ext.refl wr).alloc _)
        case measure => simp [intOf]; omega
    · obtain rfl : k = n := by omega
      have hfin : outP (l.take k) t = outP l t := by rw [List.take_of_length_le (Nat.le_of_eq HN.out)]
      rw [hfin] at HO
      go_wp2_with fail
      go_ret
      exact ⟨⟨_, rfl, HO.out⟩, HXr.out⟩
end Go.Proofs.YtdjdhkbomhendaaGreatDoor
