/-
  Walks over the value package: Parse. · Walks over the value package's reference: Read. · Walks over the value package's reference: Read.
-/
import Derived.Test.YtdjdhkbomhendaaGreatDoorGc
import Derived.Test.YtdjdhkbomhendaaGreatDoorShelfP
import Derived.Test.YtdjdhkbomhendaaGreatDoorGe
import Derived.RegionTactic
import Derived.ChangeAlike
import Derived.BigRegion
namespace Go.Proofs.YtdjdhkbomhendaaGreatDoor
set_option linter.unusedVariables false
set_option linter.unusedSimpArgs false
open Go.RowKit
set_option maxHeartbeats 1000000
set_option maxRecDepth 100000

theorem Er.ext {w w' : World} (h : Er w) (hx : Ext w w') : Er w' := by
  obtain ⟨⟨te, pe, h2⟩, ⟨tf, pf, h3⟩⟩ := h
  exact ⟨⟨te, pe, hx.keep h2⟩, ⟨tf, pf, hx.keep h3⟩⟩
theorem pint_ok (s : ByteArray) (hs : s.size ≤ 4000000) (v : Int) (h : Lib.parseIntB 64 s.data.toList = .ok v) (w : World) :
    Calls Tryz.prog 94 #[.string s, .int .i64 10, .int .i64 64] w fun e w' => e = .returned (.tuple #[.int .i64 v, .nilIface]) ∧ Ext w w' := by
  refine (Tryz.strconv_ParseInt_10_at64_ok s (by omega) v h w).mono ?_
  rintro e w' ⟨rfl, rfl | ⟨t, rfl⟩⟩
  · exact ⟨rfl, Ext.refl _⟩
  · exact ⟨rfl, Lib.bytesWorld_below w 5 t⟩
theorem unqr_any (t : ByteArray) (w : World) (h : Sh w) (hs : t.size ≤ 4000000) : Calls Tryz.prog 81 #[.string t, .string ⟨#[39, 39]⟩, .string ⟨#[39]⟩] w fun e w' => e = .returned (.string (unqB t)) ∧ Ext w w' := by
  obtain ⟨m, hm⟩ := h
  have hc : Lib.countB t ⟨#[39, 39]⟩ ≤ t.size + 1 := Lib.count_le t.data.toList [39, 39]
  have e2 : (⟨#[39]⟩ : ByteArray).size = 1 := rfl
  refine (Tryz.strings_ReplaceAll t ⟨#[39, 39]⟩ ⟨#[39]⟩ m w (by omega) hm (by decide) (by rw [e2]; omega)).mono ?_
  rintro e w' ⟨rfl, hx⟩
  exact ⟨rfl, hx⟩

theorem parse_any (s : ByteArray) (w : World) (hs : s.size ≤ 1000000) (hw : Sh w) (ht : Tab w) (he : Er w) :
    Calls Tryz.prog 73 #[.string s] w fun e w' => e = .returned (.tuple #[.agg #[.int .i64 (prs s).1.k, .int .i64 (prs s).1.n, .string (prs s).1.t], .int .i64 (prs s).2]) ∧ Ext w w' := by
  have HW := hid hw
  have HT := hid ht
  have HE := hid he
  have HP : Hid (prs s = if fmtV (pc s) = s then (pc s, 0) else (⟨0, 0, ⟨#[]⟩⟩, 2)) := rfl
  have HSZ := hid (pc_size s)
  clear hw ht he
  have HX0 : Hid (Ext w ((w.alloc (.cells #[.int .i64 0, .int .i64 0, .string ⟨#[]⟩] 88)).alloc (.cells #[.int .i64 0, .int .i64 0, .string ⟨#[]⟩] 88))) := ((Ext.refl w).alloc _).alloc _
  have HB0 : Hid (Blk ((w.alloc (.cells #[.int .i64 0, .int .i64 0, .string ⟨#[]⟩] 88)).alloc (.cells #[.int .i64 0, .int .i64 0, .string ⟨#[]⟩] 88)) w.heap.size 88 [.int .i64 0, .int .i64 0, .string ⟨#[]⟩]) := (Blk.of_new w 88 [.int .i64 0, .int .i64 0, .string ⟨#[]⟩]).ext ((Ext.refl _).alloc _)
  have HB1 : Hid (Blk ((w.alloc (.cells #[.int .i64 0, .int .i64 0, .string ⟨#[]⟩] 88)).alloc (.cells #[.int .i64 0, .int .i64 0, .string ⟨#[]⟩] 88)) (w.heap.size + 1) 88 [.int .i64 0, .int .i64 0, .string ⟨#[]⟩]) := by
    have := Blk.of_new (w.alloc (.cells #[.int .i64 0, .int .i64 0, .string ⟨#[]⟩] 88)) 88 [.int .i64 0, .int .i64 0, .string ⟨#[]⟩]
    rw [World.size_alloc] at this
    exact this
  by_cases hk : ∃ v, Lib.parseIntB 64 s.data.toList = .ok v
  · obtain ⟨v, hv⟩ := hk
    have HC := hid (pc_ok hv)
    have NBD := hid (ok_bd hv)
    have HV := hid hv
    clear hv
    have TSZ : Hid ((⟨#[]⟩ : ByteArray).size ≤ 4000000) := Nat.zero_le _
    go_enter Tryz.func73, Tryz.ntmps73
    go_wp2_with fail
    refine (pint_ok s (by omega) v HV.out _).mono ?_
    rintro e w1 ⟨rfl, hx1⟩
    have HX1 := hid (HX0.out.trans hx1)
    have HA0 := hid (HB0.out.ext hx1)
    have HA1 := hid (HB1.out.ext hx1)
    clear hx1
    go_wp2_with fail
    refine (int_any v _).mono ?_
    rintro e w2 ⟨rfl, hx2⟩
    have HX2 := hid (HX1.out.trans hx2)
    have HE0 := hid (HA0.out.ext hx2)
    have HE1 := hid (HA1.out.ext hx2)
    clear hx2
    have HX3 : Hid (Ext w (((w2.setCell ⟨w.heap.size + 1, 0, none⟩ (.int .i64 1)).setCell ⟨w.heap.size + 1, 1, none⟩ (.int .i64 v)).setCell ⟨w.heap.size + 1, 2, none⟩ (.string ⟨#[]⟩))) := ((HX2.out.setCell (Nat.le_succ _) _).setCell (Nat.le_succ _) _).setCell (Nat.le_succ _) _
    have BD0 : Hid (Blk (((w2.setCell ⟨w.heap.size + 1, 0, none⟩ (.int .i64 1)).setCell ⟨w.heap.size + 1, 1, none⟩ (.int .i64 v)).setCell ⟨w.heap.size + 1, 2, none⟩ (.string ⟨#[]⟩)) w.heap.size 88 [.int .i64 0, .int .i64 0, .string ⟨#[]⟩]) := ((HE0.out.far (by simp) _).far (by simp) _).far (by simp) _
    have BD1 : Hid (Blk (((w2.setCell ⟨w.heap.size + 1, 0, none⟩ (.int .i64 1)).setCell ⟨w.heap.size + 1, 1, none⟩ (.int .i64 v)).setCell ⟨w.heap.size + 1, 2, none⟩ (.string ⟨#[]⟩)) (w.heap.size + 1) 88 [.int .i64 1, .int .i64 v, .string ⟨#[]⟩]) := ((HE1.out.set 0 _).set 1 _).set 2 _
    have a0 := HE1.out.cell 0
    have a1 := HE1.out.cell 1
    have a2 := HE1.out.cell 2
    have g0 := HE1.out.frozen 0
    have g1 := HE1.out.frozen 1
    have g2 := HE1.out.frozen 2
    go_wp2_with fail
    clear a0 a1 a2 g0 g1 g2
    refine (format_any 1 v ⟨#[]⟩ _ TSZ.out (HW.out.ext HX3.out) (.inr ⟨HT.out.ext HX3.out, NBD.out⟩)).mono ?_
    rintro e w4 ⟨rfl, hx4⟩
    have HD0 := hid (BD0.out.ext hx4)
    have HD1 := hid (BD1.out.ext hx4)
    have HX4 := hid (HX3.out.trans hx4)
    clear hx4
    have c0 := HD1.out.cell 0
    have c1 := HD1.out.cell 1
    have c2 := HD1.out.cell 2
    have d0 := HD0.out.cell 0
    have d1 := HD0.out.cell 1
    have d2 := HD0.out.cell 2
    have f0 := HD0.out.frozen 0
    have f1 := HD0.out.frozen 1
    have f2 := HD0.out.frozen 2
    by_cases hq : fmtV ⟨1, v, ⟨#[]⟩⟩ = s
    · have bq : ((fmtV ⟨1, v, ⟨#[]⟩⟩).toList == s.toList) = true := by rw [hq]; exact beq_self_eq_true _
      have HR : Hid (prs s = (⟨1, v, ⟨#[]⟩⟩, 0)) := by unfold Hid; rw [HP.out, HC.out, if_pos hq]
      go_wp2_with fail
      have s0 : (w4.setCell ⟨w.heap.size, 0, none⟩ (.int .i64 1)).cell? ⟨w.heap.size, 0, none⟩ = some (.int .i64 1) := (HD0.out.set 0 _).cell 0
      have s1 : ((w4.setCell ⟨w.heap.size, 0, none⟩ (.int .i64 1)).setCell ⟨w.heap.size, 1, none⟩ (.int .i64 v)).cell? ⟨w.heap.size, 1, none⟩ = some (.int .i64 v) := ((HD0.out.set 0 _).set 1 _).cell 1
      have s2 : (((w4.setCell ⟨w.heap.size, 0, none⟩ (.int .i64 1)).setCell ⟨w.heap.size, 1, none⟩ (.int .i64 v)).setCell ⟨w.heap.size, 2, none⟩ (.string ⟨#[]⟩)).cell? ⟨w.heap.size, 2, none⟩ = some (.string ⟨#[]⟩) := (((HD0.out.set 0 _).set 1 _).set 2 _).cell 2
      exact bodyPost_ret (v := .tuple #[.agg #[.int .i64 1, .int .i64 v, .string ⟨#[]⟩], .int .i64 0]) (by simp [results, Tryz.results27, go_sem, s0, s1, s2]) rfl ⟨by rw [HR.out], ((HX4.out.setCell (Nat.le_refl _) _).setCell (Nat.le_refl _) _).setCell (Nat.le_refl _) _⟩
    · have bq : ((fmtV ⟨1, v, ⟨#[]⟩⟩).toList == s.toList) = false := beq_eq_false_iff_ne.2 fun h => hq (t_inj (by rw [← ByteArray.toList_eq, h, ByteArray.toList_eq]))
      have HR : Hid (prs s = (⟨0, 0, ⟨#[]⟩⟩, 2)) := by unfold Hid; rw [HP.out, HC.out, if_neg hq]
      go_wp2_with fail
      have s0 : (w4.setCell ⟨w.heap.size, 0, none⟩ (.int .i64 0)).cell? ⟨w.heap.size, 0, none⟩ = some (.int .i64 0) := (HD0.out.set 0 _).cell 0
      have s1 : ((w4.setCell ⟨w.heap.size, 0, none⟩ (.int .i64 0)).setCell ⟨w.heap.size, 1, none⟩ (.int .i64 0)).cell? ⟨w.heap.size, 1, none⟩ = some (.int .i64 0) := ((HD0.out.set 0 _).set 1 _).cell 1
      have s2 : (((w4.setCell ⟨w.heap.size, 0, none⟩ (.int .i64 0)).setCell ⟨w.heap.size, 1, none⟩ (.int .i64 0)).setCell ⟨w.heap.size, 2, none⟩ (.string ⟨#[]⟩)).cell? ⟨w.heap.size, 2, none⟩ = some (.string ⟨#[]⟩) := (((HD0.out.set 0 _).set 1 _).set 2 _).cell 2
      exact bodyPost_ret (v := .tuple #[.agg #[.int .i64 0, .int .i64 0, .string ⟨#[]⟩], .int .i64 2]) (by simp [results, Tryz.results27, go_sem, s0, s1, s2]) rfl ⟨by rw [HR.out], ((HX4.out.setCell (Nat.le_refl _) _).setCell (Nat.le_refl _) _).setCell (Nat.le_refl _) _⟩
  · have HK : Hid (∀ v, Lib.parseIntB 64 s.data.toList ≠ .ok v) := fun v e => hk ⟨v, e⟩
    clear hk
    by_cases hz : 2 ≤ s.size ∧ s.data.toList.head? = some 39
    · have HC : Hid (pc s = ⟨2, 0, unqB (s.extract 1 (s.size - 1))⟩) := by unfold Hid; rw [pc_no HK.out, if_pos hz]
      have TSZ : Hid ((unqB (s.extract 1 (s.size - 1))).size ≤ 4000000) := by
        have := HSZ.out
        rw [HC.out] at this
        unfold Hid
        dsimp only at this
        omega
      have NBD : Hid (-9223372036854775808 ≤ (0 : Int) ∧ (0 : Int) ≤ 9223372036854775807) := by unfold Hid; decide
      obtain ⟨hz2, hz9⟩ := hz
      have b1 : decide ((2 : Int) ≤ (s.size : Int)) = true := by simp; omega
      have b3 : (s[0].toNat : Int) = 39 := by
        have hl : 0 < s.data.toList.length := by show 0 < s.size; omega
        have e : s.data.toList.head? = some s[0] := by
          rw [List.head?_eq_getElem?, List.getElem?_eq_getElem hl]; rfl
        rw [e] at hz9
        injection hz9 with hz9
        rw [hz9]; rfl
      have b2 : ((s[0].toNat : Int) == 39) = true := by rw [b3]; rfl
      have e1 : (1 : Int).toNat = 1 := rfl
      have e3 : ((s.size : Int) - 1).toNat = s.size - 1 := by omega
      have EX : Hid ((s.extract 1 (s.size - 1)).size ≤ 4000000) := by unfold Hid; rw [ByteArray.size_extract]; omega
      clear b3 hz9
      go_enter Tryz.func73, Tryz.ntmps73
      go_wp2_with fail
      refine (parse_bad s (by omega) HK.out _ (HE.out.ext HX0.out)).mono ?_
      rintro e w1 ⟨x, ty, p, rfl, hx1⟩
      have HX1 : Hid (Ext w w1) := HX0.out.trans hx1
      have HA0 : Hid (Blk w1 w.heap.size 88 [.int .i64 0, .int .i64 0, .string ⟨#[]⟩]) := HB0.out.ext hx1
      have HA1 : Hid (Blk w1 (w.heap.size + 1) 88 [.int .i64 0, .int .i64 0, .string ⟨#[]⟩]) := HB1.out.ext hx1
      clear hx1
      go_wp2_with fail
      refine (unqr_any _ _ (HW.out.ext HX1.out) EX.out).mono ?_
      rintro e w5 ⟨rfl, hx5⟩
      have HX5 := hid (HX1.out.trans hx5)
      have HA50 := hid (HA0.out.ext hx5)
      have HA51 := hid (HA1.out.ext hx5)
      clear hx5
      go_wp2_with fail
      refine (text_any _ _).mono ?_
      rintro e w2 ⟨rfl, hx2⟩
      have HX2 := hid (HX5.out.trans hx2)
      have HE0 := hid (HA50.out.ext hx2)
      have HE1 := hid (HA51.out.ext hx2)
      clear hx2
      have HX3 : Hid (Ext w (((w2.setCell ⟨w.heap.size + 1, 0, none⟩ (.int .i64 2)).setCell ⟨w.heap.size + 1, 1, none⟩ (.int .i64 0)).setCell ⟨w.heap.size + 1, 2, none⟩ (.string (unqB (s.extract 1 (s.size - 1)))))) := ((HX2.out.setCell (Nat.le_succ _) _).setCell (Nat.le_succ _) _).setCell (Nat.le_succ _) _
      have BD0 : Hid (Blk (((w2.setCell ⟨w.heap.size + 1, 0, none⟩ (.int .i64 2)).setCell ⟨w.heap.size + 1, 1, none⟩ (.int .i64 0)).setCell ⟨w.heap.size + 1, 2, none⟩ (.string (unqB (s.extract 1 (s.size - 1))))) w.heap.size 88 [.int .i64 0, .int .i64 0, .string ⟨#[]⟩]) := ((HE0.out.far (by simp) _).far (by simp) _).far (by simp) _
      have BD1 : Hid (Blk (((w2.setCell ⟨w.heap.size + 1, 0, none⟩ (.int .i64 2)).setCell ⟨w.heap.size + 1, 1, none⟩ (.int .i64 0)).setCell ⟨w.heap.size + 1, 2, none⟩ (.string (unqB (s.extract 1 (s.size - 1))))) (w.heap.size + 1) 88 [.int .i64 2, .int .i64 0, .string (unqB (s.extract 1 (s.size - 1)))]) := ((HE1.out.set 0 _).set 1 _).set 2 _
      have a0 := HE1.out.cell 0
      have a1 := HE1.out.cell 1
      have a2 := HE1.out.cell 2
      have g0 := HE1.out.frozen 0
      have g1 := HE1.out.frozen 1
      have g2 := HE1.out.frozen 2
      go_wp2_with fail
      clear a0 a1 a2 g0 g1 g2
      refine (format_any 2 0 (unqB (s.extract 1 (s.size - 1))) _ TSZ.out (HW.out.ext HX3.out) (.inr ⟨HT.out.ext HX3.out, NBD.out⟩)).mono ?_
      rintro e w4 ⟨rfl, hx4⟩
      have HD0 := hid (BD0.out.ext hx4)
      have HD1 := hid (BD1.out.ext hx4)
      have HX4 := hid (HX3.out.trans hx4)
      clear hx4
      have c0 := HD1.out.cell 0
      have c1 := HD1.out.cell 1
      have c2 := HD1.out.cell 2
      have d0 := HD0.out.cell 0
      have d1 := HD0.out.cell 1
      have d2 := HD0.out.cell 2
      have f0 := HD0.out.frozen 0
      have f1 := HD0.out.frozen 1
      have f2 := HD0.out.frozen 2
      by_cases hq : fmtV ⟨2, 0, (unqB (s.extract 1 (s.size - 1)))⟩ = s
      · have bq : ((fmtV ⟨2, 0, (unqB (s.extract 1 (s.size - 1)))⟩).toList == s.toList) = true := by rw [hq]; exact beq_self_eq_true _
        have HR : Hid (prs s = (⟨2, 0, (unqB (s.extract 1 (s.size - 1)))⟩, 0)) := by unfold Hid; rw [HP.out, HC.out, if_pos hq]
        go_wp2_with fail
        have s0 : (w4.setCell ⟨w.heap.size, 0, none⟩ (.int .i64 2)).cell? ⟨w.heap.size, 0, none⟩ = some (.int .i64 2) := (HD0.out.set 0 _).cell 0
        have s1 : ((w4.setCell ⟨w.heap.size, 0, none⟩ (.int .i64 2)).setCell ⟨w.heap.size, 1, none⟩ (.int .i64 0)).cell? ⟨w.heap.size, 1, none⟩ = some (.int .i64 0) := ((HD0.out.set 0 _).set 1 _).cell 1
        have s2 : (((w4.setCell ⟨w.heap.size, 0, none⟩ (.int .i64 2)).setCell ⟨w.heap.size, 1, none⟩ (.int .i64 0)).setCell ⟨w.heap.size, 2, none⟩ (.string (unqB (s.extract 1 (s.size - 1))))).cell? ⟨w.heap.size, 2, none⟩ = some (.string (unqB (s.extract 1 (s.size - 1)))) := (((HD0.out.set 0 _).set 1 _).set 2 _).cell 2
        exact bodyPost_ret (v := .tuple #[.agg #[.int .i64 2, .int .i64 0, .string (unqB (s.extract 1 (s.size - 1)))], .int .i64 0]) (by simp [results, Tryz.results27, go_sem, s0, s1, s2]) rfl ⟨by rw [HR.out], ((HX4.out.setCell (Nat.le_refl _) _).setCell (Nat.le_refl _) _).setCell (Nat.le_refl _) _⟩
      · have bq : ((fmtV ⟨2, 0, (unqB (s.extract 1 (s.size - 1)))⟩).toList == s.toList) = false := beq_eq_false_iff_ne.2 fun h => hq (t_inj (by rw [← ByteArray.toList_eq, h, ByteArray.toList_eq]))
        have HR : Hid (prs s = (⟨0, 0, ⟨#[]⟩⟩, 2)) := by unfold Hid; rw [HP.out, HC.out, if_neg hq]
        go_wp2_with fail
        have s0 : (w4.setCell ⟨w.heap.size, 0, none⟩ (.int .i64 0)).cell? ⟨w.heap.size, 0, none⟩ = some (.int .i64 0) := (HD0.out.set 0 _).cell 0
        have s1 : ((w4.setCell ⟨w.heap.size, 0, none⟩ (.int .i64 0)).setCell ⟨w.heap.size, 1, none⟩ (.int .i64 0)).cell? ⟨w.heap.size, 1, none⟩ = some (.int .i64 0) := ((HD0.out.set 0 _).set 1 _).cell 1
        have s2 : (((w4.setCell ⟨w.heap.size, 0, none⟩ (.int .i64 0)).setCell ⟨w.heap.size, 1, none⟩ (.int .i64 0)).setCell ⟨w.heap.size, 2, none⟩ (.string ⟨#[]⟩)).cell? ⟨w.heap.size, 2, none⟩ = some (.string ⟨#[]⟩) := (((HD0.out.set 0 _).set 1 _).set 2 _).cell 2
        exact bodyPost_ret (v := .tuple #[.agg #[.int .i64 0, .int .i64 0, .string ⟨#[]⟩], .int .i64 2]) (by simp [results, Tryz.results27, go_sem, s0, s1, s2]) rfl ⟨by rw [HR.out], ((HX4.out.setCell (Nat.le_refl _) _).setCell (Nat.le_refl _) _).setCell (Nat.le_refl _) _⟩
    · have HC : Hid (pc s = ⟨0, 0, ⟨#[]⟩⟩) := by unfold Hid; rw [pc_no HK.out, if_neg hz]
      have TSZ : Hid ((⟨#[]⟩ : ByteArray).size ≤ 4000000) := Nat.zero_le _
      have NBD : Hid (-9223372036854775808 ≤ (0 : Int) ∧ (0 : Int) ≤ 9223372036854775807) := by unfold Hid; decide
      by_cases h2 : 2 ≤ s.size
      · have b1 : decide ((2 : Int) ≤ (s.size : Int)) = true := by simp; omega
        have b2 : ((s[0].toNat : Int) == 39) = false := by
          have hl : 0 < s.data.toList.length := by show 0 < s.size; omega
          have e : s.data.toList.head? = some s[0] := by
            rw [List.head?_eq_getElem?, List.getElem?_eq_getElem hl]; rfl
          rw [beq_eq_false_iff_ne]
          intro h
          refine hz ⟨h2, ?_⟩
          rw [e, UInt8.toNat_inj.1 (show s[0].toNat = (39 : UInt8).toNat by rw [show (39 : UInt8).toNat = 39 from rfl]; omega)]
        clear hz
        go_enter Tryz.func73, Tryz.ntmps73
        go_wp2_with fail
        refine (parse_bad s (by omega) HK.out _ (HE.out.ext HX0.out)).mono ?_
        rintro e w1 ⟨x, ty, p, rfl, hx1⟩
        have HX1 : Hid (Ext w w1) := HX0.out.trans hx1
        have HA0 : Hid (Blk w1 w.heap.size 88 [.int .i64 0, .int .i64 0, .string ⟨#[]⟩]) := HB0.out.ext hx1
        have HA1 : Hid (Blk w1 (w.heap.size + 1) 88 [.int .i64 0, .int .i64 0, .string ⟨#[]⟩]) := HB1.out.ext hx1
        clear hx1
        have HX3 := HX1
        have BD0 := HA0
        have BD1 := HA1
        have a0 := HA1.out.cell 0
        have a1 := HA1.out.cell 1
        have a2 := HA1.out.cell 2
        go_wp2_with fail
        clear a0 a1 a2
        refine (format_any 0 0 ⟨#[]⟩ _ TSZ.out (HW.out.ext HX3.out) (.inr ⟨HT.out.ext HX3.out, NBD.out⟩)).mono ?_
        rintro e w4 ⟨rfl, hx4⟩
        have HD0 := hid (BD0.out.ext hx4)
        have HD1 := hid (BD1.out.ext hx4)
        have HX4 := hid (HX3.out.trans hx4)
        clear hx4
        have c0 := HD1.out.cell 0
        have c1 := HD1.out.cell 1
        have c2 := HD1.out.cell 2
        have d0 := HD0.out.cell 0
        have d1 := HD0.out.cell 1
        have d2 := HD0.out.cell 2
        have f0 := HD0.out.frozen 0
        have f1 := HD0.out.frozen 1
        have f2 := HD0.out.frozen 2
        by_cases hq : fmtV ⟨0, 0, ⟨#[]⟩⟩ = s
        · have bq : ((fmtV ⟨0, 0, ⟨#[]⟩⟩).toList == s.toList) = true := by rw [hq]; exact beq_self_eq_true _
          have HR : Hid (prs s = (⟨0, 0, ⟨#[]⟩⟩, 0)) := by unfold Hid; rw [HP.out, HC.out, if_pos hq]
          go_wp2_with fail
          have s0 : (w4.setCell ⟨w.heap.size, 0, none⟩ (.int .i64 0)).cell? ⟨w.heap.size, 0, none⟩ = some (.int .i64 0) := (HD0.out.set 0 _).cell 0
          have s1 : ((w4.setCell ⟨w.heap.size, 0, none⟩ (.int .i64 0)).setCell ⟨w.heap.size, 1, none⟩ (.int .i64 0)).cell? ⟨w.heap.size, 1, none⟩ = some (.int .i64 0) := ((HD0.out.set 0 _).set 1 _).cell 1
          have s2 : (((w4.setCell ⟨w.heap.size, 0, none⟩ (.int .i64 0)).setCell ⟨w.heap.size, 1, none⟩ (.int .i64 0)).setCell ⟨w.heap.size, 2, none⟩ (.string ⟨#[]⟩)).cell? ⟨w.heap.size, 2, none⟩ = some (.string ⟨#[]⟩) := (((HD0.out.set 0 _).set 1 _).set 2 _).cell 2
          exact bodyPost_ret (v := .tuple #[.agg #[.int .i64 0, .int .i64 0, .string ⟨#[]⟩], .int .i64 0]) (by simp [results, Tryz.results27, go_sem, s0, s1, s2]) rfl ⟨by rw [HR.out], ((HX4.out.setCell (Nat.le_refl _) _).setCell (Nat.le_refl _) _).setCell (Nat.le_refl _) _⟩
        · have bq : ((fmtV ⟨0, 0, ⟨#[]⟩⟩).toList == s.toList) = false := beq_eq_false_iff_ne.2 fun h => hq (t_inj (by rw [← ByteArray.toList_eq, h, ByteArray.toList_eq]))
          have HR : Hid (prs s = (⟨0, 0, ⟨#[]⟩⟩, 2)) := by unfold Hid; rw [HP.out, HC.out, if_neg hq]
          go_wp2_with fail
          have s0 : (w4.setCell ⟨w.heap.size, 0, none⟩ (.int .i64 0)).cell? ⟨w.heap.size, 0, none⟩ = some (.int .i64 0) := (HD0.out.set 0 _).cell 0
          have s1 : ((w4.setCell ⟨w.heap.size, 0, none⟩ (.int .i64 0)).setCell ⟨w.heap.size, 1, none⟩ (.int .i64 0)).cell? ⟨w.heap.size, 1, none⟩ = some (.int .i64 0) := ((HD0.out.set 0 _).set 1 _).cell 1
          have s2 : (((w4.setCell ⟨w.heap.size, 0, none⟩ (.int .i64 0)).setCell ⟨w.heap.size, 1, none⟩ (.int .i64 0)).setCell ⟨w.heap.size, 2, none⟩ (.string ⟨#[]⟩)).cell? ⟨w.heap.size, 2, none⟩ = some (.string ⟨#[]⟩) := (((HD0.out.set 0 _).set 1 _).set 2 _).cell 2
          exact bodyPost_ret (v := .tuple #[.agg #[.int .i64 0, .int .i64 0, .string ⟨#[]⟩], .int .i64 2]) (by simp [results, Tryz.results27, go_sem, s0, s1, s2]) rfl ⟨by rw [HR.out], ((HX4.out.setCell (Nat.le_refl _) _).setCell (Nat.le_refl _) _).setCell (Nat.le_refl _) _⟩
      · have b1 : decide ((2 : Int) ≤ (s.size : Int)) = false := by simp; omega
        go_enter Tryz.func73, Tryz.ntmps73
        go_wp2_with fail
        refine (parse_bad s (by omega) HK.out _ (HE.out.ext HX0.out)).mono ?_
        rintro e w1 ⟨x, ty, p, rfl, hx1⟩
        have HX1 : Hid (Ext w w1) := HX0.out.trans hx1
        have HA0 : Hid (Blk w1 w.heap.size 88 [.int .i64 0, .int .i64 0, .string ⟨#[]⟩]) := HB0.out.ext hx1
        have HA1 : Hid (Blk w1 (w.heap.size + 1) 88 [.int .i64 0, .int .i64 0, .string ⟨#[]⟩]) := HB1.out.ext hx1
        clear hx1
        have HX3 := HX1
        have BD0 := HA0
        have BD1 := HA1
        have a0 := HA1.out.cell 0
        have a1 := HA1.out.cell 1
        have a2 := HA1.out.cell 2
        go_wp2_with fail
        clear a0 a1 a2
        refine (format_any 0 0 ⟨#[]⟩ _ TSZ.out (HW.out.ext HX3.out) (.inr ⟨HT.out.ext HX3.out, NBD.out⟩)).mono ?_
        rintro e w4 ⟨rfl, hx4⟩
        have HD0 := hid (BD0.out.ext hx4)
        have HD1 := hid (BD1.out.ext hx4)
        have HX4 := hid (HX3.out.trans hx4)
        clear hx4
        have c0 := HD1.out.cell 0
        have c1 := HD1.out.cell 1
        have c2 := HD1.out.cell 2
        have d0 := HD0.out.cell 0
        have d1 := HD0.out.cell 1
        have d2 := HD0.out.cell 2
        have f0 := HD0.out.frozen 0
        have f1 := HD0.out.frozen 1
        have f2 := HD0.out.frozen 2
        by_cases hq : fmtV ⟨0, 0, ⟨#[]⟩⟩ = s
        · have bq : ((fmtV ⟨0, 0, ⟨#[]⟩⟩).toList == s.toList) = true := by rw [hq]; exact beq_self_eq_true _
          have HR : Hid (prs s = (⟨0, 0, ⟨#[]⟩⟩, 0)) := by unfold Hid; rw [HP.out, HC.out, if_pos hq]
          go_wp2_with fail
          have s0 : (w4.setCell ⟨w.heap.size, 0, none⟩ (.int .i64 0)).cell? ⟨w.heap.size, 0, none⟩ = some (.int .i64 0) := (HD0.out.set 0 _).cell 0
          have s1 : ((w4.setCell ⟨w.heap.size, 0, none⟩ (.int .i64 0)).setCell ⟨w.heap.size, 1, none⟩ (.int .i64 0)).cell? ⟨w.heap.size, 1, none⟩ = some (.int .i64 0) := ((HD0.out.set 0 _).set 1 _).cell 1
          have s2 : (((w4.setCell ⟨w.heap.size, 0, none⟩ (.int .i64 0)).setCell ⟨w.heap.size, 1, none⟩ (.int .i64 0)).setCell ⟨w.heap.size, 2, none⟩ (.string ⟨#[]⟩)).cell? ⟨w.heap.size, 2, none⟩ = some (.string ⟨#[]⟩) := (((HD0.out.set 0 _).set 1 _).set 2 _).cell 2
          exact bodyPost_ret (v := .tuple #[.agg #[.int .i64 0, .int .i64 0, .string ⟨#[]⟩], .int .i64 0]) (by simp [results, Tryz.results27, go_sem, s0, s1, s2]) rfl ⟨by rw [HR.out], ((HX4.out.setCell (Nat.le_refl _) _).setCell (Nat.le_refl _) _).setCell (Nat.le_refl _) _⟩
        · have bq : ((fmtV ⟨0, 0, ⟨#[]⟩⟩).toList == s.toList) = false := beq_eq_false_iff_ne.2 fun h => hq (t_inj (by rw [← ByteArray.toList_eq, h, ByteArray.toList_eq]))
          have HR : Hid (prs s = (⟨0, 0, ⟨#[]⟩⟩, 2)) := by unfold Hid; rw [HP.out, HC.out, if_neg hq]
          go_wp2_with fail
          have s0 : (w4.setCell ⟨w.heap.size, 0, none⟩ (.int .i64 0)).cell? ⟨w.heap.size, 0, none⟩ = some (.int .i64 0) := (HD0.out.set 0 _).cell 0
          have s1 : ((w4.setCell ⟨w.heap.size, 0, none⟩ (.int .i64 0)).setCell ⟨w.heap.size, 1, none⟩ (.int .i64 0)).cell? ⟨w.heap.size, 1, none⟩ = some (.int .i64 0) := ((HD0.out.set 0 _).set 1 _).cell 1
          have s2 : (((w4.setCell ⟨w.heap.size, 0, none⟩ (.int .i64 0)).setCell ⟨w.heap.size, 1, none⟩ (.int .i64 0)).setCell ⟨w.heap.size, 2, none⟩ (.string ⟨#[]⟩)).cell? ⟨w.heap.size, 2, none⟩ = some (.string ⟨#[]⟩) := (((HD0.out.set 0 _).set 1 _).set 2 _).cell 2
          exact bodyPost_ret (v := .tuple #[.agg #[.int .i64 0, .int .i64 0, .string ⟨#[]⟩], .int .i64 2]) (by simp [results, Tryz.results27, go_sem, s0, s1, s2]) rfl ⟨by rw [HR.out], ((HX4.out.setCell (Nat.le_refl _) _).setCell (Nat.le_refl _) _).setCell (Nat.le_refl _) _⟩

end Go.Proofs.YtdjdhkbomhendaaGreatDoor
namespace Go.Proofs.YtdjdhkbomhendaaGreatDoor
set_option linter.unusedVariables false
set_option linter.unusedSimpArgs false
open Go.RowKit
set_option linter.unusedVariables false
set_option maxHeartbeats 4000000
set_option maxRecDepth 100000

/-- where the reading of a text stands -/
def Inv (s X : List UInt8) (k : Nat) : Prop := ∀ t : List UInt8, s = 39 :: (quo t ++ [39]) → ∃ j, j ≤ t.length ∧ X = t.take j ∧ k = 1 + (quo (t.take j)).length
theorem Inv.fin {s X : List UInt8} {k : Nat} (h : Inv s X k) (hk : ¬ k + 1 < s.length) (t : List UInt8) (ht : s = 39 :: (quo t ++ [39])) : X = t := by
  obtain ⟨j, hj, rfl, rfl⟩ := h t ht
  rcases Nat.lt_or_ge j t.length with hl | hl
  · have := quo_lt t j hl
    rw [ht] at hk
    simp at hk
    omega
  · rw [List.take_of_length_le hl]
theorem Inv.step {s X : List UInt8} {k : Nat} {b : UInt8} (h : Inv s X k) (hk : k + 1 < s.length) (hb : s[k]? = some b) : Inv s (X ++ [b]) (if b = 39 then k + 1 + 1 else k + 1) := by
  intro t ht
  obtain ⟨j, hj, rfl, rfl⟩ := h t ht
  have hl : j < t.length := by
    rcases Nat.lt_or_ge j t.length with hl | hl
    · exact hl
    · rw [List.take_of_length_le hl, ht] at hk
      simp at hk
      omega
  have e : quo t = quo (t.take j) ++ quo (t.drop j) := by rw [← quo_app, List.take_append_drop]
  have hd : t.drop j = t[j] :: t.drop (j + 1) := List.drop_eq_getElem_cons hl
  have hb' : b = t[j] := by
    rw [ht, Nat.add_comm, List.getElem?_cons_succ, e, List.append_assoc, List.getElem?_append_right (Nat.le_refl _), Nat.sub_self, hd, quo] at hb
    split at hb
    · rename_i hq
      rw [hq]
      simpa using hb.symm
    · simpa using hb.symm
  have htk : t.take (j + 1) = t.take j ++ [t[j]] := List.take_succ_eq_append_getElem hl
  refine ⟨j + 1, hl, by rw [htk, hb'], ?_⟩
  rw [htk, quo_app, List.length_append, hb']
  by_cases hq : t[j] = 39
  · rw [if_pos hq, hq]
    simp [quo]
    omega
  · rw [if_neg hq]
    simp [quo, hq]
    omega

theorem dec_len2 : ∀ (d u : Nat), u < 10 ^ (d + 1) → (Lib.decDigits u).length ≤ d + 1
  | 0, u, h => by rw [dec_small (by omega)]; simp
  | d + 1, u, h => by
    by_cases h9 : u < 10
    · rw [dec_small h9]; simp
    · have := dec_len2 d (u / 10) (by rw [Nat.pow_succ] at h; omega)
      rw [dec_big h9, List.length_append]
      simp only [List.length_singleton]
      omega
theorem itoa_len20 (n : Int) (h0 : -9223372036854775808 ≤ n) (h1 : n ≤ 9223372036854775807) : (Lib.itoa n).length ≤ 20 := by
  unfold Lib.itoa
  split
  · have := dec_len2 18 n.natAbs (by omega)
    simp only [List.length_cons]
    omega
  · have := dec_len2 18 n.toNat (by omega)
    omega
theorem wrap_u (x : Int) : IntKind.u64.wrap x = x % 18446744073709551616 := IntKind.wrap_u64 x
theorem wrap_i (x : Int) : wrap64 x = (x + 9223372036854775808) % 18446744073709551616 - 9223372036854775808 := by unfold wrap64; omega
theorem wrap_bd (x : Int) : -9223372036854775808 ≤ wrap64 x ∧ wrap64 x ≤ 9223372036854775807 := by
  rw [wrap_i]
  omega
theorem read_null (s : ByteArray) (w : World) (hs : s.size ≤ 1000000) (hnull : s = ⟨#[78, 85, 76, 76]⟩) :
    Calls Tryz.prog 100 #[.string s] w fun e w' => e = .returned (.tuple #[.agg #[.int .i64 (prs s).1.k, .int .i64 (prs s).1.n, .string (prs s).1.t], .bool ((prs s).2 == 0)]) ∧ Ext w w' := by
  have HX0 : Hid (Ext w ((w.alloc (.cells #[.int .i64 0, .int .i64 0, .string ⟨#[]⟩] 88)).alloc (.cells #[.int .i64 0, .int .i64 0, .string ⟨#[]⟩] 88))) := ((Ext.refl w).alloc _).alloc _
  have HB0 : Hid (Blk ((w.alloc (.cells #[.int .i64 0, .int .i64 0, .string ⟨#[]⟩] 88)).alloc (.cells #[.int .i64 0, .int .i64 0, .string ⟨#[]⟩] 88)) w.heap.size 88 [.int .i64 0, .int .i64 0, .string ⟨#[]⟩]) := (Blk.of_new w 88 [.int .i64 0, .int .i64 0, .string ⟨#[]⟩]).ext ((Ext.refl _).alloc _)
  have HB1 : Hid (Blk ((w.alloc (.cells #[.int .i64 0, .int .i64 0, .string ⟨#[]⟩] 88)).alloc (.cells #[.int .i64 0, .int .i64 0, .string ⟨#[]⟩] 88)) (w.heap.size + 1) 88 [.int .i64 0, .int .i64 0, .string ⟨#[]⟩]) := by
    have := Blk.of_new (w.alloc (.cells #[.int .i64 0, .int .i64 0, .string ⟨#[]⟩] 88)) 88 [.int .i64 0, .int .i64 0, .string ⟨#[]⟩]
    rw [World.size_alloc] at this
    exact this
  have HP := hid (rd_null s hnull)
  have TSZ : Hid ((⟨#[]⟩ : ByteArray).size ≤ 4000000) := Nat.zero_le _
  have NBD : Hid (-9223372036854775808 ≤ (0 : Int) ∧ (0 : Int) ≤ 9223372036854775807) := by unfold Hid; decide
  have HX3 := HX0
  have BD0 := HB0
  have BD1 := HB1
  have b1 : (s.toList == [78, 85, 76, 76]) = true := by rw [hnull, ByteArray.toList_eq]; rfl
  have b2 : (s.toList == (⟨#[78, 85, 76, 76]⟩ : ByteArray).toList) = true := by rw [hnull]; exact beq_self_eq_true _
  clear hnull
  go_enter Tryz.func100, Tryz.ntmps100
  go_wp2_with fail
  refine (lit_any 0 0 ⟨#[]⟩ _ TSZ.out NBD.out).mono ?_
  rintro e w4 ⟨rfl, hx4⟩
  have HD0 := hid (BD0.out.ext hx4)
  have HD1 := hid (BD1.out.ext hx4)
  have HX4 := hid (HX3.out.trans hx4)
  clear hx4
  have c0 := HD1.out.cell 0
  have c1 := HD1.out.cell 1
  have c2 := HD1.out.cell 2
  have d0 := HD0.out.cell 0
  have d1 := HD0.out.cell 1
  have d2 := HD0.out.cell 2
  have f0 := HD0.out.frozen 0
  have f1 := HD0.out.frozen 1
  have f2 := HD0.out.frozen 2
  by_cases hq : fmtV ⟨0, 0, ⟨#[]⟩⟩ = s
  · have bq : ((fmtV ⟨0, 0, ⟨#[]⟩⟩).toList == s.toList) = true := by rw [hq]; exact beq_self_eq_true _
    have HR : Hid (prs s = (⟨0, 0, ⟨#[]⟩⟩, 0)) := by unfold Hid; rw [HP.out, if_pos hq]
    go_wp2_with fail
    have s0 : (w4.setCell ⟨w.heap.size, 0, none⟩ (.int .i64 0)).cell? ⟨w.heap.size, 0, none⟩ = some (.int .i64 0) := (HD0.out.set 0 _).cell 0
    have s1 : ((w4.setCell ⟨w.heap.size, 0, none⟩ (.int .i64 0)).setCell ⟨w.heap.size, 1, none⟩ (.int .i64 0)).cell? ⟨w.heap.size, 1, none⟩ = some (.int .i64 0) := ((HD0.out.set 0 _).set 1 _).cell 1
    have s2 : (((w4.setCell ⟨w.heap.size, 0, none⟩ (.int .i64 0)).setCell ⟨w.heap.size, 1, none⟩ (.int .i64 0)).setCell ⟨w.heap.size, 2, none⟩ (.string ⟨#[]⟩)).cell? ⟨w.heap.size, 2, none⟩ = some (.string ⟨#[]⟩) := (((HD0.out.set 0 _).set 1 _).set 2 _).cell 2
    exact bodyPost_ret (v := .tuple #[.agg #[.int .i64 0, .int .i64 0, .string ⟨#[]⟩], .bool true]) (by simp [results, Tryz.results31, go_sem, s0, s1, s2]) rfl ⟨by rw [HR.out]; rfl, ((HX4.out.setCell (Nat.le_refl _) _).setCell (Nat.le_refl _) _).setCell (Nat.le_refl _) _⟩
  · have bq : ((fmtV ⟨0, 0, ⟨#[]⟩⟩).toList == s.toList) = false := beq_eq_false_iff_ne.2 fun h => hq (t_inj (by rw [← ByteArray.toList_eq, h, ByteArray.toList_eq]))
    have HR : Hid (prs s = (⟨0, 0, ⟨#[]⟩⟩, 2)) := by unfold Hid; rw [HP.out, if_neg hq]
    go_wp2_with fail
    have s0 : (w4.setCell ⟨w.heap.size, 0, none⟩ (.int .i64 0)).cell? ⟨w.heap.size, 0, none⟩ = some (.int .i64 0) := (HD0.out.set 0 _).cell 0
    have s1 : ((w4.setCell ⟨w.heap.size, 0, none⟩ (.int .i64 0)).setCell ⟨w.heap.size, 1, none⟩ (.int .i64 0)).cell? ⟨w.heap.size, 1, none⟩ = some (.int .i64 0) := ((HD0.out.set 0 _).set 1 _).cell 1
    have s2 : (((w4.setCell ⟨w.heap.size, 0, none⟩ (.int .i64 0)).setCell ⟨w.heap.size, 1, none⟩ (.int .i64 0)).setCell ⟨w.heap.size, 2, none⟩ (.string ⟨#[]⟩)).cell? ⟨w.heap.size, 2, none⟩ = some (.string ⟨#[]⟩) := (((HD0.out.set 0 _).set 1 _).set 2 _).cell 2
    exact bodyPost_ret (v := .tuple #[.agg #[.int .i64 0, .int .i64 0, .string ⟨#[]⟩], .bool false]) (by simp [results, Tryz.results31, go_sem, s0, s1, s2]) rfl ⟨by rw [HR.out]; rfl, ((HX4.out.setCell (Nat.le_refl _) _).setCell (Nat.le_refl _) _).setCell (Nat.le_refl _) _⟩

end Go.Proofs.YtdjdhkbomhendaaGreatDoor
namespace Go.Proofs.YtdjdhkbomhendaaGreatDoor
set_option linter.unusedVariables false
set_option linter.unusedSimpArgs false
open Go.RowKit
set_option linter.unusedVariables false
set_option maxHeartbeats 8000000
set_option maxRecDepth 100000

theorem read_text (s : ByteArray) (w : World) (hs : s.size ≤ 1000000) (hnull : ¬ s = ⟨#[78, 85, 76, 76]⟩) (hq1 : s.data.toList.head? = some 39) :
    Calls Tryz.prog 100 #[.string s] w fun e w' => e = .returned (.tuple #[.agg #[.int .i64 (prs s).1.k, .int .i64 (prs s).1.n, .string (prs s).1.t], .bool ((prs s).2 == 0)]) ∧ Ext w w' := by
  have HX0 : Hid (Ext w ((w.alloc (.cells #[.int .i64 0, .int .i64 0, .string ⟨#[]⟩] 88)).alloc (.cells #[.int .i64 0, .int .i64 0, .string ⟨#[]⟩] 88))) := ((Ext.refl w).alloc _).alloc _
  have HB0 : Hid (Blk ((w.alloc (.cells #[.int .i64 0, .int .i64 0, .string ⟨#[]⟩] 88)).alloc (.cells #[.int .i64 0, .int .i64 0, .string ⟨#[]⟩] 88)) w.heap.size 88 [.int .i64 0, .int .i64 0, .string ⟨#[]⟩]) := (Blk.of_new w 88 [.int .i64 0, .int .i64 0, .string ⟨#[]⟩]).ext ((Ext.refl _).alloc _)
  have HB1 : Hid (Blk ((w.alloc (.cells #[.int .i64 0, .int .i64 0, .string ⟨#[]⟩] 88)).alloc (.cells #[.int .i64 0, .int .i64 0, .string ⟨#[]⟩] 88)) (w.heap.size + 1) 88 [.int .i64 0, .int .i64 0, .string ⟨#[]⟩]) := by
    have := Blk.of_new (w.alloc (.cells #[.int .i64 0, .int .i64 0, .string ⟨#[]⟩] 88)) 88 [.int .i64 0, .int .i64 0, .string ⟨#[]⟩]
    rw [World.size_alloc] at this
    exact this
  have b1 : (s.toList == [78, 85, 76, 76]) = false := beq_eq_false_iff_ne.2 fun h => hnull (t_inj (by rw [← ByteArray.toList_eq, h]))
  have b2 : (s.toList == (⟨#[78, 85, 76, 76]⟩ : ByteArray).toList) = false := beq_eq_false_iff_ne.2 fun h => hnull (t_inj (by rw [← ByteArray.toList_eq, h, ByteArray.toList_eq]))
  have a0 := HB1.out.cell 0
  have a1 := HB1.out.cell 1
  have a2 := HB1.out.cell 2
  have f0 := HB1.out.frozen 0
  have f1 := HB1.out.frozen 1
  have f2 := HB1.out.frozen 2
  have hz : 0 < s.size := by
    rcases Nat.eq_zero_or_pos s.size with h | h
    · have : s.data.toList = [] := List.eq_nil_of_length_eq_zero h
      rw [this] at hq1; cases hq1
    · exact h
  have b3 : decide ((0 : Int) < (s.size : Int)) = true := by simp; omega
  have b4 : ((s[0].toNat : Int) == 39) = true := by
    have e : s.data.toList.head? = some s[0] := by
      rw [List.head?_eq_getElem?, List.getElem?_eq_getElem (show 0 < s.data.toList.length from hz)]; rfl
    rw [e] at hq1
    injection hq1 with hq1
    rw [hq1]; rfl
  have HQ := hid hq1
  have HB2 : Hid (Blk ((w.alloc (.cells #[.int .i64 0, .int .i64 0, .string ⟨#[]⟩] 88)).alloc (.cells #[.int .i64 2, .int .i64 0, .string ⟨#[]⟩] 88)) (w.heap.size + 1) 88 [.int .i64 2, .int .i64 0, .string ⟨#[]⟩]) := by
    have := Blk.of_new (w.alloc (.cells #[.int .i64 0, .int .i64 0, .string ⟨#[]⟩] 88)) 88 [.int .i64 2, .int .i64 0, .string ⟨#[]⟩]
    rw [World.size_alloc] at this
    exact this
  clear hq1
  go_enter Tryz.func100, Tryz.ntmps100
  go_wp2_with fail
  go_loopw [5] (fun i wr => ∃ (k : Nat) (X : ByteArray), i = .int .i64 k ∧ 1 ≤ k ∧ k ≤ s.size ∧ X.size ≤ k ∧ Ext w wr ∧ Blk wr w.heap.size 88 [.int .i64 0, .int .i64 0, .string ⟨#[]⟩] ∧ Blk wr (w.heap.size + 1) 88 [.int .i64 2, .int .i64 0, .string X] ∧ Inv s.data.toList X.data.toList k) (fun i _ => s.size - (intOf i).toNat)
  case atStart => exact ⟨1, ⟨#[]⟩, rfl, Nat.le_refl _, hz, Nat.zero_le _, ((Ext.refl w).alloc _).alloc _, (Blk.of_new w 88 [.int .i64 0, .int .i64 0, .string ⟨#[]⟩]).ext ((Ext.refl _).alloc _), HB2.out, fun t ht => ⟨0, Nat.zero_le _, rfl, rfl⟩⟩
  case round =>
    obtain ⟨k, X, rfl, hk1, hk2, hXs, hx, hb0, hb1, hinv⟩ := hrel
    have HXr := hid hx
    have HBa := hid hb0
    have HBb := hid hb1
    have HI := hid hinv
    clear hx hb0 hinv a0 a1 a2 f0 f1 f2
    have a0 := hb1.cell 0
    have a1 := hb1.cell 1
    have a2 := hb1.cell 2
    have f0 := hb1.frozen 0
    have f1 := hb1.frozen 1
    have f2 := hb1.frozen 2
    clear hb1
    by_cases hlt : k + 1 < s.size
    · have hlk : k < s.size := by omega
      have hlk2 : k + 1 ≤ s.size := by omega
      have E1 := hid (ext1 s k hlk)
      have e2 : (s.extract k (k + 1)).size = 1 := by
        show (s.extract k (k + 1)).data.toList.length = 1
        rw [ext1 s k hlk]; rfl
      have HST := hid (HI.out.step (b := s[k]) (by show k + 1 < s.size; exact hlt) (by rw [List.getElem?_eq_getElem (show k < s.data.toList.length from hlk)]; rfl))
      by_cases hc : s[k] = 39
      · have b5 : ((s[k].toNat : Int) == 39) = true := by rw [hc]; rfl
        have HC := hid hc
        clear hc
        go_wp2_with fail
        go_region
        go_wp2_with fail
        go_roundw
        case rel =>
          refine ⟨k + 1 + 1, X ++ s.extract k (k + 1), by go_num, by omega, by omega, by rw [ByteArray.size_append, e2]; omega, (HXr.out.setCell (Nat.le_succ _) _).drew, (HBa.out.far (by simp) _).drew, (HBb.out.set 2 _).drew, ?_⟩
          have h := HST.out
          rw [if_pos HC.out] at h
          rw [ByteArray.data_append, Array.toList_append, E1.out]
          exact h
        case measure => simp [intOf]; omega
      · have b5 : ((s[k].toNat : Int) == 39) = false := by
          rw [beq_eq_false_iff_ne]
          intro h
          exact hc (UInt8.toNat_inj.1 (show s[k].toNat = (39 : UInt8).toNat by rw [show (39 : UInt8).toNat = 39 from rfl]; omega))
        have HC : Hid (¬ s[k] = 39) := hc
        clear hc
        go_wp2_with fail
        go_region
        go_wp2_with fail
        go_roundw
        case rel =>
          refine ⟨k + 1, X ++ s.extract k (k + 1), by go_num, by omega, by omega, by rw [ByteArray.size_append, e2]; omega, (HXr.out.setCell (Nat.le_succ _) _).drew, (HBa.out.far (by simp) _).drew, (HBb.out.set 2 _).drew, ?_⟩
          have h := HST.out
          rw [if_neg HC.out] at h
          rw [ByteArray.data_append, Array.toList_append, E1.out]
          exact h
        case measure => simp [intOf]; omega
    · have HP := hid (rd_text s X HQ.out (fun t ht => HI.out.fin (by show ¬ k + 1 < s.size; exact hlt) t ht))
      have TSZ : Hid (X.size ≤ 4000000) := Nat.le_trans hXs (by omega)
      have NBD : Hid (-9223372036854775808 ≤ (0 : Int) ∧ (0 : Int) ≤ 9223372036854775807) := by unfold Hid; decide
      have HX3 := HXr
      have BD0 := HBa
      have BD1 := HBb
      go_wp2_with fail
      refine (lit_any 2 0 X _ TSZ.out NBD.out).mono ?_
      rintro e w4 ⟨rfl, hx4⟩
      have HD0 := hid (BD0.out.ext hx4)
      have HD1 := hid (BD1.out.ext hx4)
      have HX4 := hid (HX3.out.trans hx4)
      clear hx4
      have c0 := HD1.out.cell 0
      have c1 := HD1.out.cell 1
      have c2 := HD1.out.cell 2
      have d0 := HD0.out.cell 0
      have d1 := HD0.out.cell 1
      have d2 := HD0.out.cell 2
      have f0 := HD0.out.frozen 0
      have f1 := HD0.out.frozen 1
      have f2 := HD0.out.frozen 2
      by_cases hq : fmtV ⟨2, 0, X⟩ = s
      · have bq : ((fmtV ⟨2, 0, X⟩).toList == s.toList) = true := by rw [hq]; exact beq_self_eq_true _
        have HR : Hid (prs s = (⟨2, 0, X⟩, 0)) := by unfold Hid; rw [HP.out, if_pos hq]
        go_wp2_with fail
        have s0 : (w4.setCell ⟨w.heap.size, 0, none⟩ (.int .i64 2)).cell? ⟨w.heap.size, 0, none⟩ = some (.int .i64 2) := (HD0.out.set 0 _).cell 0
        have s1 : ((w4.setCell ⟨w.heap.size, 0, none⟩ (.int .i64 2)).setCell ⟨w.heap.size, 1, none⟩ (.int .i64 0)).cell? ⟨w.heap.size, 1, none⟩ = some (.int .i64 0) := ((HD0.out.set 0 _).set 1 _).cell 1
        have s2 : (((w4.setCell ⟨w.heap.size, 0, none⟩ (.int .i64 2)).setCell ⟨w.heap.size, 1, none⟩ (.int .i64 0)).setCell ⟨w.heap.size, 2, none⟩ (.string X)).cell? ⟨w.heap.size, 2, none⟩ = some (.string X) := (((HD0.out.set 0 _).set 1 _).set 2 _).cell 2
        exact bodyPost_ret (v := .tuple #[.agg #[.int .i64 2, .int .i64 0, .string X], .bool true]) (by simp [results, Tryz.results31, go_sem, s0, s1, s2]) rfl ⟨by rw [HR.out]; rfl, ((HX4.out.setCell (Nat.le_refl _) _).setCell (Nat.le_refl _) _).setCell (Nat.le_refl _) _⟩
      · have bq : ((fmtV ⟨2, 0, X⟩).toList == s.toList) = false := beq_eq_false_iff_ne.2 fun h => hq (t_inj (by rw [← ByteArray.toList_eq, h, ByteArray.toList_eq]))
        have HR : Hid (prs s = (⟨0, 0, ⟨#[]⟩⟩, 2)) := by unfold Hid; rw [HP.out, if_neg hq]
        go_wp2_with fail
        have s0 : (w4.setCell ⟨w.heap.size, 0, none⟩ (.int .i64 0)).cell? ⟨w.heap.size, 0, none⟩ = some (.int .i64 0) := (HD0.out.set 0 _).cell 0
        have s1 : ((w4.setCell ⟨w.heap.size, 0, none⟩ (.int .i64 0)).setCell ⟨w.heap.size, 1, none⟩ (.int .i64 0)).cell? ⟨w.heap.size, 1, none⟩ = some (.int .i64 0) := ((HD0.out.set 0 _).set 1 _).cell 1
        have s2 : (((w4.setCell ⟨w.heap.size, 0, none⟩ (.int .i64 0)).setCell ⟨w.heap.size, 1, none⟩ (.int .i64 0)).setCell ⟨w.heap.size, 2, none⟩ (.string ⟨#[]⟩)).cell? ⟨w.heap.size, 2, none⟩ = some (.string ⟨#[]⟩) := (((HD0.out.set 0 _).set 1 _).set 2 _).cell 2
        exact bodyPost_ret (v := .tuple #[.agg #[.int .i64 0, .int .i64 0, .string ⟨#[]⟩], .bool false]) (by simp [results, Tryz.results31, go_sem, s0, s1, s2]) rfl ⟨by rw [HR.out]; rfl, ((HX4.out.setCell (Nat.le_refl _) _).setCell (Nat.le_refl _) _).setCell (Nat.le_refl _) _⟩

end Go.Proofs.YtdjdhkbomhendaaGreatDoor
