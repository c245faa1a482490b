/-
  Walks over the value package's reference: Read.
-/
import Derived.Test.YtkldgehnioapcaaDoorW19
namespace Go.Proofs.YtkldgehnioapcaaDoor
open Go.RowKit
set_option linter.unusedVariables false
set_option maxHeartbeats 8000000
set_option maxRecDepth 100000

theorem read_text (s : ByteArray) (w : World) (hs : s.size ≤ 100) (hnull : ¬ s = ⟨#[78, 85, 76, 76]⟩) (hq1 : s.data.toList.head? = some 39) :
    Calls Tryd.prog 31 #[.string s] w fun e w' => e = .returned (.tuple #[.agg #[.int .i64 (prs s).1.k, .int .i64 (prs s).1.n, .string (prs s).1.t], .bool ((prs s).2 == 0)]) ∧ Ext w w' := by
  have HX0 : Hid (Ext w ((w.alloc (.cells #[.int .i64 0, .int .i64 0, .string ⟨#[]⟩] 23)).alloc (.cells #[.int .i64 0, .int .i64 0, .string ⟨#[]⟩] 23))) := ((Ext.refl w).alloc _).alloc _
  have HB0 : Hid (Blk ((w.alloc (.cells #[.int .i64 0, .int .i64 0, .string ⟨#[]⟩] 23)).alloc (.cells #[.int .i64 0, .int .i64 0, .string ⟨#[]⟩] 23)) w.heap.size 23 [.int .i64 0, .int .i64 0, .string ⟨#[]⟩]) := (Blk.of_new w 23 [.int .i64 0, .int .i64 0, .string ⟨#[]⟩]).ext ((Ext.refl _).alloc _)
  have HB1 : Hid (Blk ((w.alloc (.cells #[.int .i64 0, .int .i64 0, .string ⟨#[]⟩] 23)).alloc (.cells #[.int .i64 0, .int .i64 0, .string ⟨#[]⟩] 23)) (w.heap.size + 1) 23 [.int .i64 0, .int .i64 0, .string ⟨#[]⟩]) := by
    have := Blk.of_new (w.alloc (.cells #[.int .i64 0, .int .i64 0, .string ⟨#[]⟩] 23)) 23 [.int .i64 0, .int .i64 0, .string ⟨#[]⟩]
    rw [World.size_alloc] at this
    exact this
  have b1 : (s.toList == [78, 85, 76, 76]) = false := beq_eq_false_iff_ne.2 fun h => hnull (t_inj (by rw [← ByteArray.toList_eq, h]))
  have b2 : (s.toList == (⟨#[78, 85, 76, 76]⟩ : ByteArray).toList) = false := beq_eq_false_iff_ne.2 fun h => hnull (t_inj (by rw [← ByteArray.toList_eq, h, ByteArray.toList_eq]))
  have a0 := HB1.out.cell 0
  have a1 := HB1.out.cell 1
  have a2 := HB1.out.cell 2
  have f0 := HB1.out.frozen 0
  have f1 := HB1.out.frozen 1
  have f2 := HB1.out.frozen 2
  have hz : 0 < s.size := by
    rcases Nat.eq_zero_or_pos s.size with h | h
    · have : s.data.toList = [] := List.eq_nil_of_length_eq_zero h
      rw [this] at hq1; cases hq1
    · exact h
  have b3 : decide ((0 : Int) < (s.size : Int)) = true := by simp; omega
  have b4 : ((s[0].toNat : Int) == 39) = true := by
    have e : s.data.toList.head? = some s[0] := by
      rw [List.head?_eq_getElem?, List.getElem?_eq_getElem (show 0 < s.data.toList.length from hz)]; rfl
    rw [e] at hq1
    injection hq1 with hq1
    rw [hq1]; rfl
  have HQ := hid hq1
  have HB2 : Hid (Blk ((w.alloc (.cells #[.int .i64 0, .int .i64 0, .string ⟨#[]⟩] 23)).alloc (.cells #[.int .i64 2, .int .i64 0, .string ⟨#[]⟩] 23)) (w.heap.size + 1) 23 [.int .i64 2, .int .i64 0, .string ⟨#[]⟩]) := by
    have := Blk.of_new (w.alloc (.cells #[.int .i64 0, .int .i64 0, .string ⟨#[]⟩] 23)) 23 [.int .i64 2, .int .i64 0, .string ⟨#[]⟩]
    rw [World.size_alloc] at this
    exact this
  clear hq1
  go_enter Tryd.func31, Tryd.ntmps31
  go_wp2_with fail
  go_loopw [5] (fun i wr => ∃ (k : Nat) (X : ByteArray), i = .int .i64 k ∧ 1 ≤ k ∧ k ≤ s.size ∧ X.size ≤ k ∧ Ext w wr ∧ Blk wr w.heap.size 23 [.int .i64 0, .int .i64 0, .string ⟨#[]⟩] ∧ Blk wr (w.heap.size + 1) 23 [.int .i64 2, .int .i64 0, .string X] ∧ Inv s.data.toList X.data.toList k) (fun i _ => s.size - (intOf i).toNat)
  case atStart => exact ⟨1, ⟨#[]⟩, rfl, Nat.le_refl _, hz, Nat.zero_le _, ((Ext.refl w).alloc _).alloc _, (Blk.of_new w 23 [.int .i64 0, .int .i64 0, .string ⟨#[]⟩]).ext ((Ext.refl _).alloc _), HB2.out, fun t ht => ⟨0, Nat.zero_le _, rfl, rfl⟩⟩
  case round =>
    obtain ⟨k, X, rfl, hk1, hk2, hXs, hx, hb0, hb1, hinv⟩ := hrel
    have HXr := hid hx
    have HBa := hid hb0
    have HBb := hid hb1
    have HI := hid hinv
    clear hx hb0 hinv a0 a1 a2 f0 f1 f2
    have a0 := hb1.cell 0
    have a1 := hb1.cell 1
    have a2 := hb1.cell 2
    have f0 := hb1.frozen 0
    have f1 := hb1.frozen 1
    have f2 := hb1.frozen 2
    clear hb1
    by_cases hlt : k + 1 < s.size
    · have hlk : k < s.size := by omega
      have hlk2 : k + 1 ≤ s.size := by omega
      have E1 := hid (ext1 s k hlk)
      have e2 : (s.extract k (k + 1)).size = 1 := by
        show (s.extract k (k + 1)).data.toList.length = 1
        rw [ext1 s k hlk]; rfl
      have HST := hid (HI.out.step (b := s[k]) (by show k + 1 < s.size; exact hlt) (by rw [List.getElem?_eq_getElem (show k < s.data.toList.length from hlk)]; rfl))
      by_cases hc : s[k] = 39
      · have b5 : ((s[k].toNat : Int) == 39) = true := by rw [hc]; rfl
        have HC := hid hc
        clear hc
        go_wp2_with fail
        go_region
        go_wp2_with fail
        go_roundw
        case rel =>
          refine ⟨k + 1 + 1, X ++ s.extract k (k + 1), by go_num, by omega, by omega, by rw [ByteArray.size_append, e2]; omega, (HXr.out.setCell (Nat.le_succ _) _).drew, (HBa.out.far (by simp) _).drew, (HBb.out.set 2 _).drew, ?_⟩
          have h := HST.out
          rw [if_pos HC.out] at h
          rw [ByteArray.data_append, Array.toList_append, E1.out]
          exact h
        case measure => simp [intOf]; omega
      · have b5 : ((s[k].toNat : Int) == 39) = false := by
          rw [beq_eq_false_iff_ne]
          intro h
          exact hc (UInt8.toNat_inj.1 (show s[k].toNat = (39 : UInt8).toNat by rw [show (39 : UInt8).toNat = 39 from rfl]; omega))
        have HC : Hid (¬ s[k] = 39) := hc
        clear hc
        go_wp2_with fail
        go_region
        go_wp2_with fail
        go_roundw
        case rel =>
          refine ⟨k + 1, X ++ s.extract k (k + 1), by go_num, by omega, by omega, by rw [ByteArray.size_append, e2]; omega, (HXr.out.setCell (Nat.le_succ _) _).drew, (HBa.out.far (by simp) _).drew, (HBb.out.set 2 _).drew, ?_⟩
          have h := HST.out
          rw [if_neg HC.out] at h
          rw [ByteArray.data_append, Array.toList_append, E1.out]
          exact h
        case measure => simp [intOf]; omega
    · have HP := hid (rd_text s X HQ.out (fun t ht => HI.out.fin (by show ¬ k + 1 < s.size; exact hlt) t ht))
      have TSZ : Hid (X.size ≤ 1000) := Nat.le_trans hXs (by omega)
      have NBD : Hid (-9223372036854775808 ≤ (0 : Int) ∧ (0 : Int) ≤ 9223372036854775807) := by unfold Hid; decide
      have HX3 := HXr
      have BD0 := HBa
      have BD1 := HBb
      go_wp2_with fail
      refine (lit_any 2 0 X _ TSZ.out NBD.out).mono ?_
      rintro e w4 ⟨rfl, hx4⟩
      have HD0 := hid (BD0.out.ext hx4)
      have HD1 := hid (BD1.out.ext hx4)
      have HX4 := hid (HX3.out.trans hx4)
      clear hx4
      have c0 := HD1.out.cell 0
      have c1 := HD1.out.cell 1
      have c2 := HD1.out.cell 2
      have d0 := HD0.out.cell 0
      have d1 := HD0.out.cell 1
      have d2 := HD0.out.cell 2
      have f0 := HD0.out.frozen 0
      have f1 := HD0.out.frozen 1
      have f2 := HD0.out.frozen 2
      by_cases hq : fmtV ⟨2, 0, X⟩ = s
      · have bq : ((fmtV ⟨2, 0, X⟩).toList == s.toList) = true := by rw [hq]; exact beq_self_eq_true _
        have HR : Hid (prs s = (⟨2, 0, X⟩, 0)) := by unfold Hid; rw [HP.out, if_pos hq]
        go_wp2_with fail
        have s0 : (w4.setCell ⟨w.heap.size, 0, none⟩ (.int .i64 2)).cell? ⟨w.heap.size, 0, none⟩ = some (.int .i64 2) := (HD0.out.set 0 _).cell 0
        have s1 : ((w4.setCell ⟨w.heap.size, 0, none⟩ (.int .i64 2)).setCell ⟨w.heap.size, 1, none⟩ (.int .i64 0)).cell? ⟨w.heap.size, 1, none⟩ = some (.int .i64 0) := ((HD0.out.set 0 _).set 1 _).cell 1
        have s2 : (((w4.setCell ⟨w.heap.size, 0, none⟩ (.int .i64 2)).setCell ⟨w.heap.size, 1, none⟩ (.int .i64 0)).setCell ⟨w.heap.size, 2, none⟩ (.string X)).cell? ⟨w.heap.size, 2, none⟩ = some (.string X) := (((HD0.out.set 0 _).set 1 _).set 2 _).cell 2
        exact bodyPost_ret (v := .tuple #[.agg #[.int .i64 2, .int .i64 0, .string X], .bool true]) (by simp [results, Tryd.results31, go_sem, s0, s1, s2]) rfl ⟨by rw [HR.out]; rfl, ((HX4.out.setCell (Nat.le_refl _) _).setCell (Nat.le_refl _) _).setCell (Nat.le_refl _) _⟩
      · have bq : ((fmtV ⟨2, 0, X⟩).toList == s.toList) = false := beq_eq_false_iff_ne.2 fun h => hq (t_inj (by rw [← ByteArray.toList_eq, h, ByteArray.toList_eq]))
        have HR : Hid (prs s = (⟨0, 0, ⟨#[]⟩⟩, 2)) := by unfold Hid; rw [HP.out, if_neg hq]
        go_wp2_with fail
        have s0 : (w4.setCell ⟨w.heap.size, 0, none⟩ (.int .i64 0)).cell? ⟨w.heap.size, 0, none⟩ = some (.int .i64 0) := (HD0.out.set 0 _).cell 0
        have s1 : ((w4.setCell ⟨w.heap.size, 0, none⟩ (.int .i64 0)).setCell ⟨w.heap.size, 1, none⟩ (.int .i64 0)).cell? ⟨w.heap.size, 1, none⟩ = some (.int .i64 0) := ((HD0.out.set 0 _).set 1 _).cell 1
        have s2 : (((w4.setCell ⟨w.heap.size, 0, none⟩ (.int .i64 0)).setCell ⟨w.heap.size, 1, none⟩ (.int .i64 0)).setCell ⟨w.heap.size, 2, none⟩ (.string ⟨#[]⟩)).cell? ⟨w.heap.size, 2, none⟩ = some (.string ⟨#[]⟩) := (((HD0.out.set 0 _).set 1 _).set 2 _).cell 2
        exact bodyPost_ret (v := .tuple #[.agg #[.int .i64 0, .int .i64 0, .string ⟨#[]⟩], .bool false]) (by simp [results, Tryd.results31, go_sem, s0, s1, s2]) rfl ⟨by rw [HR.out]; rfl, ((HX4.out.setCell (Nat.le_refl _) _).setCell (Nat.le_refl _) _).setCell (Nat.le_refl _) _⟩

end Go.Proofs.YtkldgehnioapcaaDoor
