/-
  Walks over the value package's reference: Read. · Walks over the value package's reference: Read. · Walks over the value package's reference: Read.
-/
import Derived.Test.YtdjdhkbomhendaaGreatDoorGi
namespace Go.Proofs.YtdjdhkbomhendaaGreatDoor
set_option linter.unusedVariables false
set_option linter.unusedSimpArgs false
open Go.RowKit
set_option linter.unusedVariables false
set_option maxHeartbeats 8000000
set_option maxRecDepth 100000

theorem read_int1 (s : ByteArray) (w : World) (hs : s.size ≤ 1000000) (hnull : ¬ s = ⟨#[78, 85, 76, 76]⟩) (hq1 : ¬ s.data.toList.head? = some 39) (hz : 0 < s.size) :
    Calls Tryz.prog 100 #[.string s] w fun e w' => e = .returned (.tuple #[.agg #[.int .i64 (prs s).1.k, .int .i64 (prs s).1.n, .string (prs s).1.t], .bool ((prs s).2 == 0)]) ∧ Ext w w' := by
  have HX0 : Hid (Ext w ((w.alloc (.cells #[.int .i64 0, .int .i64 0, .string ⟨#[]⟩] 88)).alloc (.cells #[.int .i64 0, .int .i64 0, .string ⟨#[]⟩] 88))) := ((Ext.refl w).alloc _).alloc _
  have HB0 : Hid (Blk ((w.alloc (.cells #[.int .i64 0, .int .i64 0, .string ⟨#[]⟩] 88)).alloc (.cells #[.int .i64 0, .int .i64 0, .string ⟨#[]⟩] 88)) w.heap.size 88 [.int .i64 0, .int .i64 0, .string ⟨#[]⟩]) := (Blk.of_new w 88 [.int .i64 0, .int .i64 0, .string ⟨#[]⟩]).ext ((Ext.refl _).alloc _)
  have HB1 : Hid (Blk ((w.alloc (.cells #[.int .i64 0, .int .i64 0, .string ⟨#[]⟩] 88)).alloc (.cells #[.int .i64 0, .int .i64 0, .string ⟨#[]⟩] 88)) (w.heap.size + 1) 88 [.int .i64 0, .int .i64 0, .string ⟨#[]⟩]) := by
    have := Blk.of_new (w.alloc (.cells #[.int .i64 0, .int .i64 0, .string ⟨#[]⟩] 88)) 88 [.int .i64 0, .int .i64 0, .string ⟨#[]⟩]
    rw [World.size_alloc] at this
    exact this
  have b1 : (s.toList == [78, 85, 76, 76]) = false := beq_eq_false_iff_ne.2 fun h => hnull (t_inj (by rw [← ByteArray.toList_eq, h]))
  have b2 : (s.toList == (⟨#[78, 85, 76, 76]⟩ : ByteArray).toList) = false := beq_eq_false_iff_ne.2 fun h => hnull (t_inj (by rw [← ByteArray.toList_eq, h, ByteArray.toList_eq]))
  have a0 := HB1.out.cell 0
  have a1 := HB1.out.cell 1
  have a2 := HB1.out.cell 2
  have f0 := HB1.out.frozen 0
  have f1 := HB1.out.frozen 1
  have f2 := HB1.out.frozen 2
  have HQ : Hid (¬ s.data.toList.head? = some 39) := hq1
  have HN : Hid (¬ s = ⟨#[78, 85, 76, 76]⟩) := hnull
  clear hq1 hnull
  have HX1 : ∀ n : Int, Hid (Ext w ((w.alloc (.cells #[.int .i64 0, .int .i64 0, .string ⟨#[]⟩] 88)).alloc (.cells #[.int .i64 1, .int .i64 n, .string ⟨#[]⟩] 88))) := fun n => ((Ext.refl w).alloc _).alloc _
  have HB2 : ∀ n : Int, Hid (Blk ((w.alloc (.cells #[.int .i64 0, .int .i64 0, .string ⟨#[]⟩] 88)).alloc (.cells #[.int .i64 1, .int .i64 n, .string ⟨#[]⟩] 88)) w.heap.size 88 [.int .i64 0, .int .i64 0, .string ⟨#[]⟩]) := fun n => (Blk.of_new w 88 [.int .i64 0, .int .i64 0, .string ⟨#[]⟩]).ext ((Ext.refl _).alloc _)
  have HB3 : ∀ n : Int, Hid (Blk ((w.alloc (.cells #[.int .i64 0, .int .i64 0, .string ⟨#[]⟩] 88)).alloc (.cells #[.int .i64 1, .int .i64 n, .string ⟨#[]⟩] 88)) (w.heap.size + 1) 88 [.int .i64 1, .int .i64 n, .string ⟨#[]⟩]) := fun n => by
    have := Blk.of_new (w.alloc (.cells #[.int .i64 0, .int .i64 0, .string ⟨#[]⟩] 88)) 88 [.int .i64 1, .int .i64 n, .string ⟨#[]⟩]
    rw [World.size_alloc] at this
    exact this
  have b3 : decide ((0 : Int) < (s.size : Int)) = true := by simp; omega
  have b4 : ((s[0].toNat : Int) == 39) = false := by
    rw [beq_eq_false_iff_ne]
    intro h
    have e : s.data.toList.head? = some s[0] := by
      rw [List.head?_eq_getElem?, List.getElem?_eq_getElem (show 0 < s.data.toList.length from hz)]; rfl
    exact HQ.out (by rw [e, UInt8.toNat_inj.1 (show s[0].toNat = (39 : UInt8).toNat by rw [show (39 : UInt8).toNat = 39 from rfl]; omega)])
  have hd0 : ∀ (c : UInt8) (r : List UInt8), s.data.toList = c :: r → s[0] = c := fun c r e => by
    have e2 : s.data.toList[0]? = some s[0] := by
      rw [List.getElem?_eq_getElem (show 0 < s.data.toList.length from hz)]; rfl
    rw [e] at e2
    simpa using e2.symm
  go_enter Tryz.func100, Tryz.ntmps100
  go_wp2_with fail
  clear a0 a1 a2 f0 f1 f2
  go_loop [6, 7] (fun sv i => ∃ k : Nat, k ≤ s.size ∧ k ≤ 20 ∧ i = .int .i64 k ∧ sv = .int .u64 (rv (s.data.toList.take k) % 18446744073709551616)) (fun _ i => s.size - (intOf i).toNat)
  case atStart => exact ⟨0, Nat.zero_le _, Nat.zero_le _, rfl, rfl⟩
  case round =>
    obtain ⟨k, hk1, hk2, rfl, rfl⟩ := hrel
    by_cases hlt : k < s.size ∧ k < 20
    · obtain ⟨h1, h2⟩ := hlt
      have HT := hid (take1 s k h1)
      by_cases hc : s[k].toNat = 45
      · have b5 : ((s[k].toNat : Int) == 45) = true := by rw [hc]; rfl
        have HC := hid hc
        clear hc
        go_wp2_with fail
        go_round
        case rel =>
          refine ⟨k + 1, by omega, by omega, by go_num, ?_⟩
          rw [HT.out, rv_app]
          unfold rvf
          rw [if_pos HC.out]
        case measure => simp [intOf]; omega
      · have b5 : ((s[k].toNat : Int) == 45) = false := by rw [beq_eq_false_iff_ne]; omega
        have HC : Hid (¬ s[k].toNat = 45) := hc
        clear hc
        go_wp2_with fail
        go_round
        case rel =>
          refine ⟨k + 1, by omega, by omega, by go_num, ?_⟩
          rw [HT.out, rv_app]
          unfold rvf
          rw [if_neg HC.out, wrap_u, wrap_u, wrap_u, wrap_u]
          congr 1
          omega
        case measure => simp [intOf]; omega
    · have HV : Hid (∀ m : Int, -9223372036854775808 ≤ m → m ≤ 9223372036854775807 → s.data.toList = Lib.itoa m → rv (s.data.toList.take k) % 18446744073709551616 = m.natAbs) := by
        intro m m0 m1 hm
        have hl := itoa_len20 m m0 m1
        rw [← hm] at hl
        have hl2 : s.size ≤ 20 := hl
        rw [List.take_of_length_le (by show s.size ≤ k; omega), hm, rv_itoa]
        omega
      generalize rv (s.data.toList.take k) % 18446744073709551616 = V at *
      by_cases hc : s[0].toNat = 45
      · have b6 : ((s[0].toNat : Int) == 45) = true := by rw [hc]; rfl
        have HP := hid (rd_int s (wrap64 (IntKind.u64.wrap (-V))) (wrap_bd _).1 (wrap_bd _).2 HN.out HQ.out (fun m m0 m1 hm => by
          have h := HV.out m m0 m1 hm
          have hp : m < 0 := by
            rcases Int.lt_or_le m 0 with h' | h'
            · exact h'
            · obtain ⟨c, r, e, h1, _⟩ := itoa_head m
              rw [if_neg (by omega)] at h1
              rw [e] at hm
              have e2 := hd0 c r hm
              rw [e2] at hc
              omega
          rw [wrap_i, wrap_u]
          omega))
        clear hc
        have TSZ : Hid ((⟨#[]⟩ : ByteArray).size ≤ 4000000) := Nat.zero_le _
        have NBD := hid (wrap_bd (IntKind.u64.wrap (-V)))
        have HX3 := HX1 (wrap64 (IntKind.u64.wrap (-V)))
        have BD0 := HB2 (wrap64 (IntKind.u64.wrap (-V)))
        have BD1 := HB3 (wrap64 (IntKind.u64.wrap (-V)))
        clear HX1 HB2 HB3
        go_wp2_with fail
        all_goals
          refine (lit_any 1 (wrap64 (IntKind.u64.wrap (-V))) ⟨#[]⟩ _ TSZ.out NBD.out).mono ?_
          rintro e w4 ⟨rfl, hx4⟩
          have HD0 := hid (BD0.out.ext hx4)
          have HD1 := hid (BD1.out.ext hx4)
          have HX4 := hid (HX3.out.trans hx4)
          clear hx4
          have c0 := HD1.out.cell 0
          have c1 := HD1.out.cell 1
          have c2 := HD1.out.cell 2
          have d0 := HD0.out.cell 0
          have d1 := HD0.out.cell 1
          have d2 := HD0.out.cell 2
          have f0 := HD0.out.frozen 0
          have f1 := HD0.out.frozen 1
          have f2 := HD0.out.frozen 2
          by_cases hq : fmtV ⟨1, (wrap64 (IntKind.u64.wrap (-V))), ⟨#[]⟩⟩ = s
          · have bq : ((fmtV ⟨1, (wrap64 (IntKind.u64.wrap (-V))), ⟨#[]⟩⟩).toList == s.toList) = true := by rw [hq]; exact beq_self_eq_true _
            have HR : Hid (prs s = (⟨1, (wrap64 (IntKind.u64.wrap (-V))), ⟨#[]⟩⟩, 0)) := by unfold Hid; rw [HP.out, if_pos hq]
            go_wp2_with fail
            have s0 : (w4.setCell ⟨w.heap.size, 0, none⟩ (.int .i64 1)).cell? ⟨w.heap.size, 0, none⟩ = some (.int .i64 1) := (HD0.out.set 0 _).cell 0
            have s1 : ((w4.setCell ⟨w.heap.size, 0, none⟩ (.int .i64 1)).setCell ⟨w.heap.size, 1, none⟩ (.int .i64 (wrap64 (IntKind.u64.wrap (-V))))).cell? ⟨w.heap.size, 1, none⟩ = some (.int .i64 (wrap64 (IntKind.u64.wrap (-V)))) := ((HD0.out.set 0 _).set 1 _).cell 1
            have s2 : (((w4.setCell ⟨w.heap.size, 0, none⟩ (.int .i64 1)).setCell ⟨w.heap.size, 1, none⟩ (.int .i64 (wrap64 (IntKind.u64.wrap (-V))))).setCell ⟨w.heap.size, 2, none⟩ (.string ⟨#[]⟩)).cell? ⟨w.heap.size, 2, none⟩ = some (.string ⟨#[]⟩) := (((HD0.out.set 0 _).set 1 _).set 2 _).cell 2
            exact bodyPost_ret (v := .tuple #[.agg #[.int .i64 1, .int .i64 (wrap64 (IntKind.u64.wrap (-V))), .string ⟨#[]⟩], .bool true]) (by simp [results, Tryz.results31, go_sem, s0, s1, s2]) rfl ⟨by rw [HR.out]; rfl, ((HX4.out.setCell (Nat.le_refl _) _).setCell (Nat.le_refl _) _).setCell (Nat.le_refl _) _⟩
          · have bq : ((fmtV ⟨1, (wrap64 (IntKind.u64.wrap (-V))), ⟨#[]⟩⟩).toList == s.toList) = false := beq_eq_false_iff_ne.2 fun h => hq (t_inj (by rw [← ByteArray.toList_eq, h, ByteArray.toList_eq]))
            have HR : Hid (prs s = (⟨0, 0, ⟨#[]⟩⟩, 2)) := by unfold Hid; rw [HP.out, if_neg hq]
            go_wp2_with fail
            have s0 : (w4.setCell ⟨w.heap.size, 0, none⟩ (.int .i64 0)).cell? ⟨w.heap.size, 0, none⟩ = some (.int .i64 0) := (HD0.out.set 0 _).cell 0
            have s1 : ((w4.setCell ⟨w.heap.size, 0, none⟩ (.int .i64 0)).setCell ⟨w.heap.size, 1, none⟩ (.int .i64 0)).cell? ⟨w.heap.size, 1, none⟩ = some (.int .i64 0) := ((HD0.out.set 0 _).set 1 _).cell 1
            have s2 : (((w4.setCell ⟨w.heap.size, 0, none⟩ (.int .i64 0)).setCell ⟨w.heap.size, 1, none⟩ (.int .i64 0)).setCell ⟨w.heap.size, 2, none⟩ (.string ⟨#[]⟩)).cell? ⟨w.heap.size, 2, none⟩ = some (.string ⟨#[]⟩) := (((HD0.out.set 0 _).set 1 _).set 2 _).cell 2
            exact bodyPost_ret (v := .tuple #[.agg #[.int .i64 0, .int .i64 0, .string ⟨#[]⟩], .bool false]) (by simp [results, Tryz.results31, go_sem, s0, s1, s2]) rfl ⟨by rw [HR.out]; rfl, ((HX4.out.setCell (Nat.le_refl _) _).setCell (Nat.le_refl _) _).setCell (Nat.le_refl _) _⟩
      · have b6 : ((s[0].toNat : Int) == 45) = false := by rw [beq_eq_false_iff_ne]; omega
        have HP := hid (rd_int s (wrap64 V) (wrap_bd V).1 (wrap_bd V).2 HN.out HQ.out (fun m m0 m1 hm => by
          have h := HV.out m m0 m1 hm
          have hp : ¬ m < 0 := fun hneg => by
            obtain ⟨c, r, e, h1, _⟩ := itoa_head m
            rw [if_pos hneg] at h1
            rw [e] at hm
            have e2 := hd0 c r hm
            rw [e2, h1] at hc
            exact hc rfl
          rw [wrap_i]
          omega))
        clear hc
        have TSZ : Hid ((⟨#[]⟩ : ByteArray).size ≤ 4000000) := Nat.zero_le _
        have NBD := hid (wrap_bd V)
        have HX3 := HX1 (wrap64 V)
        have BD0 := HB2 (wrap64 V)
        have BD1 := HB3 (wrap64 V)
        clear HX1 HB2 HB3
        go_wp2_with fail
        all_goals
          refine (lit_any 1 (wrap64 V) ⟨#[]⟩ _ TSZ.out NBD.out).mono ?_
          rintro e w4 ⟨rfl, hx4⟩
          have HD0 := hid (BD0.out.ext hx4)
          have HD1 := hid (BD1.out.ext hx4)
          have HX4 := hid (HX3.out.trans hx4)
          clear hx4
          have c0 := HD1.out.cell 0
          have c1 := HD1.out.cell 1
          have c2 := HD1.out.cell 2
          have d0 := HD0.out.cell 0
          have d1 := HD0.out.cell 1
          have d2 := HD0.out.cell 2
          have f0 := HD0.out.frozen 0
          have f1 := HD0.out.frozen 1
          have f2 := HD0.out.frozen 2
          by_cases hq : fmtV ⟨1, (wrap64 V), ⟨#[]⟩⟩ = s
          · have bq : ((fmtV ⟨1, (wrap64 V), ⟨#[]⟩⟩).toList == s.toList) = true := by rw [hq]; exact beq_self_eq_true _
            have HR : Hid (prs s = (⟨1, (wrap64 V), ⟨#[]⟩⟩, 0)) := by unfold Hid; rw [HP.out, if_pos hq]
            go_wp2_with fail
            have s0 : (w4.setCell ⟨w.heap.size, 0, none⟩ (.int .i64 1)).cell? ⟨w.heap.size, 0, none⟩ = some (.int .i64 1) := (HD0.out.set 0 _).cell 0
            have s1 : ((w4.setCell ⟨w.heap.size, 0, none⟩ (.int .i64 1)).setCell ⟨w.heap.size, 1, none⟩ (.int .i64 (wrap64 V))).cell? ⟨w.heap.size, 1, none⟩ = some (.int .i64 (wrap64 V)) := ((HD0.out.set 0 _).set 1 _).cell 1
            have s2 : (((w4.setCell ⟨w.heap.size, 0, none⟩ (.int .i64 1)).setCell ⟨w.heap.size, 1, none⟩ (.int .i64 (wrap64 V))).setCell ⟨w.heap.size, 2, none⟩ (.string ⟨#[]⟩)).cell? ⟨w.heap.size, 2, none⟩ = some (.string ⟨#[]⟩) := (((HD0.out.set 0 _).set 1 _).set 2 _).cell 2
            exact bodyPost_ret (v := .tuple #[.agg #[.int .i64 1, .int .i64 (wrap64 V), .string ⟨#[]⟩], .bool true]) (by simp [results, Tryz.results31, go_sem, s0, s1, s2]) rfl ⟨by rw [HR.out]; rfl, ((HX4.out.setCell (Nat.le_refl _) _).setCell (Nat.le_refl _) _).setCell (Nat.le_refl _) _⟩
          · have bq : ((fmtV ⟨1, (wrap64 V), ⟨#[]⟩⟩).toList == s.toList) = false := beq_eq_false_iff_ne.2 fun h => hq (t_inj (by rw [← ByteArray.toList_eq, h, ByteArray.toList_eq]))
            have HR : Hid (prs s = (⟨0, 0, ⟨#[]⟩⟩, 2)) := by unfold Hid; rw [HP.out, if_neg hq]
            go_wp2_with fail
            have s0 : (w4.setCell ⟨w.heap.size, 0, none⟩ (.int .i64 0)).cell? ⟨w.heap.size, 0, none⟩ = some (.int .i64 0) := (HD0.out.set 0 _).cell 0
            have s1 : ((w4.setCell ⟨w.heap.size, 0, none⟩ (.int .i64 0)).setCell ⟨w.heap.size, 1, none⟩ (.int .i64 0)).cell? ⟨w.heap.size, 1, none⟩ = some (.int .i64 0) := ((HD0.out.set 0 _).set 1 _).cell 1
            have s2 : (((w4.setCell ⟨w.heap.size, 0, none⟩ (.int .i64 0)).setCell ⟨w.heap.size, 1, none⟩ (.int .i64 0)).setCell ⟨w.heap.size, 2, none⟩ (.string ⟨#[]⟩)).cell? ⟨w.heap.size, 2, none⟩ = some (.string ⟨#[]⟩) := (((HD0.out.set 0 _).set 1 _).set 2 _).cell 2
            exact bodyPost_ret (v := .tuple #[.agg #[.int .i64 0, .int .i64 0, .string ⟨#[]⟩], .bool false]) (by simp [results, Tryz.results31, go_sem, s0, s1, s2]) rfl ⟨by rw [HR.out]; rfl, ((HX4.out.setCell (Nat.le_refl _) _).setCell (Nat.le_refl _) _).setCell (Nat.le_refl _) _⟩

end Go.Proofs.YtdjdhkbomhendaaGreatDoor
namespace Go.Proofs.YtdjdhkbomhendaaGreatDoor
set_option linter.unusedVariables false
set_option linter.unusedSimpArgs false
open Go.RowKit
set_option linter.unusedVariables false
set_option maxHeartbeats 8000000
set_option maxRecDepth 100000

theorem read_int0 (s : ByteArray) (w : World) (hs : s.size ≤ 1000000) (hnull : ¬ s = ⟨#[78, 85, 76, 76]⟩) (hq1 : ¬ s.data.toList.head? = some 39) (hz : ¬ 0 < s.size) :
    Calls Tryz.prog 100 #[.string s] w fun e w' => e = .returned (.tuple #[.agg #[.int .i64 (prs s).1.k, .int .i64 (prs s).1.n, .string (prs s).1.t], .bool ((prs s).2 == 0)]) ∧ Ext w w' := by
  have HX0 : Hid (Ext w ((w.alloc (.cells #[.int .i64 0, .int .i64 0, .string ⟨#[]⟩] 88)).alloc (.cells #[.int .i64 0, .int .i64 0, .string ⟨#[]⟩] 88))) := ((Ext.refl w).alloc _).alloc _
  have HB0 : Hid (Blk ((w.alloc (.cells #[.int .i64 0, .int .i64 0, .string ⟨#[]⟩] 88)).alloc (.cells #[.int .i64 0, .int .i64 0, .string ⟨#[]⟩] 88)) w.heap.size 88 [.int .i64 0, .int .i64 0, .string ⟨#[]⟩]) := (Blk.of_new w 88 [.int .i64 0, .int .i64 0, .string ⟨#[]⟩]).ext ((Ext.refl _).alloc _)
  have HB1 : Hid (Blk ((w.alloc (.cells #[.int .i64 0, .int .i64 0, .string ⟨#[]⟩] 88)).alloc (.cells #[.int .i64 0, .int .i64 0, .string ⟨#[]⟩] 88)) (w.heap.size + 1) 88 [.int .i64 0, .int .i64 0, .string ⟨#[]⟩]) := by
    have := Blk.of_new (w.alloc (.cells #[.int .i64 0, .int .i64 0, .string ⟨#[]⟩] 88)) 88 [.int .i64 0, .int .i64 0, .string ⟨#[]⟩]
    rw [World.size_alloc] at this
    exact this
  have b1 : (s.toList == [78, 85, 76, 76]) = false := beq_eq_false_iff_ne.2 fun h => hnull (t_inj (by rw [← ByteArray.toList_eq, h]))
  have b2 : (s.toList == (⟨#[78, 85, 76, 76]⟩ : ByteArray).toList) = false := beq_eq_false_iff_ne.2 fun h => hnull (t_inj (by rw [← ByteArray.toList_eq, h, ByteArray.toList_eq]))
  have a0 := HB1.out.cell 0
  have a1 := HB1.out.cell 1
  have a2 := HB1.out.cell 2
  have f0 := HB1.out.frozen 0
  have f1 := HB1.out.frozen 1
  have f2 := HB1.out.frozen 2
  have HQ : Hid (¬ s.data.toList.head? = some 39) := hq1
  have HN : Hid (¬ s = ⟨#[78, 85, 76, 76]⟩) := hnull
  clear hq1 hnull
  have HX1 : ∀ n : Int, Hid (Ext w ((w.alloc (.cells #[.int .i64 0, .int .i64 0, .string ⟨#[]⟩] 88)).alloc (.cells #[.int .i64 1, .int .i64 n, .string ⟨#[]⟩] 88))) := fun n => ((Ext.refl w).alloc _).alloc _
  have HB2 : ∀ n : Int, Hid (Blk ((w.alloc (.cells #[.int .i64 0, .int .i64 0, .string ⟨#[]⟩] 88)).alloc (.cells #[.int .i64 1, .int .i64 n, .string ⟨#[]⟩] 88)) w.heap.size 88 [.int .i64 0, .int .i64 0, .string ⟨#[]⟩]) := fun n => (Blk.of_new w 88 [.int .i64 0, .int .i64 0, .string ⟨#[]⟩]).ext ((Ext.refl _).alloc _)
  have HB3 : ∀ n : Int, Hid (Blk ((w.alloc (.cells #[.int .i64 0, .int .i64 0, .string ⟨#[]⟩] 88)).alloc (.cells #[.int .i64 1, .int .i64 n, .string ⟨#[]⟩] 88)) (w.heap.size + 1) 88 [.int .i64 1, .int .i64 n, .string ⟨#[]⟩]) := fun n => by
    have := Blk.of_new (w.alloc (.cells #[.int .i64 0, .int .i64 0, .string ⟨#[]⟩] 88)) 88 [.int .i64 1, .int .i64 n, .string ⟨#[]⟩]
    rw [World.size_alloc] at this
    exact this
  have b3 : decide ((0 : Int) < (s.size : Int)) = false := by rw [decide_eq_false_iff_not]; omega
  go_enter Tryz.func100, Tryz.ntmps100
  go_wp2_with fail
  clear a0 a1 a2 f0 f1 f2
  go_loop [6, 7] (fun sv i => ∃ k : Nat, k ≤ s.size ∧ k ≤ 20 ∧ i = .int .i64 k ∧ sv = .int .u64 (rv (s.data.toList.take k) % 18446744073709551616)) (fun _ i => s.size - (intOf i).toNat)
  case atStart => exact ⟨0, Nat.zero_le _, Nat.zero_le _, rfl, rfl⟩
  case round =>
    obtain ⟨k, hk1, hk2, rfl, rfl⟩ := hrel
    by_cases hlt : k < s.size ∧ k < 20
    · exact absurd (Nat.lt_of_le_of_lt (Nat.zero_le _) hlt.1) hz
    · have HV : Hid (∀ m : Int, -9223372036854775808 ≤ m → m ≤ 9223372036854775807 → s.data.toList = Lib.itoa m → rv (s.data.toList.take k) % 18446744073709551616 = m.natAbs) := by
        intro m m0 m1 hm
        have hl := itoa_len20 m m0 m1
        rw [← hm] at hl
        have hl2 : s.size ≤ 20 := hl
        rw [List.take_of_length_le (by show s.size ≤ k; omega), hm, rv_itoa]
        omega
      generalize rv (s.data.toList.take k) % 18446744073709551616 = V at *
      have HP := hid (rd_int s (wrap64 V) (wrap_bd V).1 (wrap_bd V).2 HN.out HQ.out (fun m m0 m1 hm => by
        have h := HV.out m m0 m1 hm
        have hp : ¬ m < 0 := fun hneg => by
          obtain ⟨c, r, e, h1, _⟩ := itoa_head m
          rw [if_pos hneg] at h1
          rw [e] at hm
          have h0 : s.data.toList.length = s.size := rfl
          rw [hm] at h0
          simp at h0
          omega
        rw [wrap_i]
        omega))
      have TSZ : Hid ((⟨#[]⟩ : ByteArray).size ≤ 4000000) := Nat.zero_le _
      have NBD := hid (wrap_bd V)
      have HX3 := HX1 (wrap64 V)
      have BD0 := HB2 (wrap64 V)
      have BD1 := HB3 (wrap64 V)
      clear HX1 HB2 HB3
      go_wp2_with fail
      refine (lit_any 1 (wrap64 V) ⟨#[]⟩ _ TSZ.out NBD.out).mono ?_
      rintro e w4 ⟨rfl, hx4⟩
      have HD0 := hid (BD0.out.ext hx4)
      have HD1 := hid (BD1.out.ext hx4)
      have HX4 := hid (HX3.out.trans hx4)
      clear hx4
      have c0 := HD1.out.cell 0
      have c1 := HD1.out.cell 1
      have c2 := HD1.out.cell 2
      have d0 := HD0.out.cell 0
      have d1 := HD0.out.cell 1
      have d2 := HD0.out.cell 2
      have f0 := HD0.out.frozen 0
      have f1 := HD0.out.frozen 1
      have f2 := HD0.out.frozen 2
      by_cases hq : fmtV ⟨1, (wrap64 V), ⟨#[]⟩⟩ = s
      · have bq : ((fmtV ⟨1, (wrap64 V), ⟨#[]⟩⟩).toList == s.toList) = true := by rw [hq]; exact beq_self_eq_true _
        have HR : Hid (prs s = (⟨1, (wrap64 V), ⟨#[]⟩⟩, 0)) := by unfold Hid; rw [HP.out, if_pos hq]
        go_wp2_with fail
        have s0 : (w4.setCell ⟨w.heap.size, 0, none⟩ (.int .i64 1)).cell? ⟨w.heap.size, 0, none⟩ = some (.int .i64 1) := (HD0.out.set 0 _).cell 0
        have s1 : ((w4.setCell ⟨w.heap.size, 0, none⟩ (.int .i64 1)).setCell ⟨w.heap.size, 1, none⟩ (.int .i64 (wrap64 V))).cell? ⟨w.heap.size, 1, none⟩ = some (.int .i64 (wrap64 V)) := ((HD0.out.set 0 _).set 1 _).cell 1
        have s2 : (((w4.setCell ⟨w.heap.size, 0, none⟩ (.int .i64 1)).setCell ⟨w.heap.size, 1, none⟩ (.int .i64 (wrap64 V))).setCell ⟨w.heap.size, 2, none⟩ (.string ⟨#[]⟩)).cell? ⟨w.heap.size, 2, none⟩ = some (.string ⟨#[]⟩) := (((HD0.out.set 0 _).set 1 _).set 2 _).cell 2
        exact bodyPost_ret (v := .tuple #[.agg #[.int .i64 1, .int .i64 (wrap64 V), .string ⟨#[]⟩], .bool true]) (by simp [results, Tryz.results31, go_sem, s0, s1, s2]) rfl ⟨by rw [HR.out]; rfl, ((HX4.out.setCell (Nat.le_refl _) _).setCell (Nat.le_refl _) _).setCell (Nat.le_refl _) _⟩
      · have bq : ((fmtV ⟨1, (wrap64 V), ⟨#[]⟩⟩).toList == s.toList) = false := beq_eq_false_iff_ne.2 fun h => hq (t_inj (by rw [← ByteArray.toList_eq, h, ByteArray.toList_eq]))
        have HR : Hid (prs s = (⟨0, 0, ⟨#[]⟩⟩, 2)) := by unfold Hid; rw [HP.out, if_neg hq]
        go_wp2_with fail
        have s0 : (w4.setCell ⟨w.heap.size, 0, none⟩ (.int .i64 0)).cell? ⟨w.heap.size, 0, none⟩ = some (.int .i64 0) := (HD0.out.set 0 _).cell 0
        have s1 : ((w4.setCell ⟨w.heap.size, 0, none⟩ (.int .i64 0)).setCell ⟨w.heap.size, 1, none⟩ (.int .i64 0)).cell? ⟨w.heap.size, 1, none⟩ = some (.int .i64 0) := ((HD0.out.set 0 _).set 1 _).cell 1
        have s2 : (((w4.setCell ⟨w.heap.size, 0, none⟩ (.int .i64 0)).setCell ⟨w.heap.size, 1, none⟩ (.int .i64 0)).setCell ⟨w.heap.size, 2, none⟩ (.string ⟨#[]⟩)).cell? ⟨w.heap.size, 2, none⟩ = some (.string ⟨#[]⟩) := (((HD0.out.set 0 _).set 1 _).set 2 _).cell 2
        exact bodyPost_ret (v := .tuple #[.agg #[.int .i64 0, .int .i64 0, .string ⟨#[]⟩], .bool false]) (by simp [results, Tryz.results31, go_sem, s0, s1, s2]) rfl ⟨by rw [HR.out]; rfl, ((HX4.out.setCell (Nat.le_refl _) _).setCell (Nat.le_refl _) _).setCell (Nat.le_refl _) _⟩

end Go.Proofs.YtdjdhkbomhendaaGreatDoor
namespace Go.Proofs.YtdjdhkbomhendaaGreatDoor
set_option linter.unusedVariables false
set_option linter.unusedSimpArgs false
open Go.RowKit
set_option linter.unusedVariables false
set_option maxHeartbeats 8000000
set_option maxRecDepth 100000

theorem read_any (s : ByteArray) (w : World) (hs : s.size ≤ 1000000) :
    Calls Tryz.prog 100 #[.string s] w fun e w' => e = .returned (.tuple #[.agg #[.int .i64 (prs s).1.k, .int .i64 (prs s).1.n, .string (prs s).1.t], .bool ((prs s).2 == 0)]) ∧ Ext w w' := by
  by_cases hnull : s = ⟨#[78, 85, 76, 76]⟩
  · exact read_null s w hs hnull
  · by_cases hq1 : s.data.toList.head? = some 39
    · exact read_text s w hs hnull hq1
    · by_cases hz : 0 < s.size
      · exact read_int1 s w hs hnull hq1 hz
      · exact read_int0 s w hs hnull hq1 hz

end Go.Proofs.YtdjdhkbomhendaaGreatDoor
