/-
  Walks over the value package: Parse.
-/
import Derived.Test.YtkldgehnioapcaaDoorCand2
import Derived.Test.YtkldgehnioapcaaDoorShelf2
namespace Go.Proofs.YtkldgehnioapcaaDoor
open Go.RowKit
set_option maxHeartbeats 1000000
set_option maxRecDepth 100000

theorem Er.ext {w w' : World} (h : Er w) (hx : Ext w w') : Er w' := by
  obtain ⟨⟨te, pe, h2⟩, ⟨tf, pf, h3⟩⟩ := h
  exact ⟨⟨te, pe, hx.keep h2⟩, ⟨tf, pf, hx.keep h3⟩⟩
theorem pint_ok (s : ByteArray) (hs : s.size ≤ 1000) (v : Int) (h : Lib.parseIntB 64 s.data.toList = .ok v) (w : World) :
    Calls Tryd.prog 48 #[.string s, .int .i64 10, .int .i64 64] w fun e w' => e = .returned (.tuple #[.int .i64 v, .nilIface]) ∧ Ext w w' := by
  refine (Tryd.strconv_ParseInt_10_at64_ok s (by omega) v h w).mono ?_
  rintro e w' ⟨rfl, rfl | ⟨t, rfl⟩⟩
  · exact ⟨rfl, Ext.refl _⟩
  · exact ⟨rfl, Lib.bytesWorld_below w 5 t⟩
theorem unqr_any (t : ByteArray) (w : World) (h : Sh w) (hs : t.size ≤ 1000) : Calls Tryd.prog 47 #[.string t, .string ⟨#[39, 39]⟩, .string ⟨#[39]⟩] w fun e w' => e = .returned (.string (unqB t)) ∧ Ext w w' := by
  obtain ⟨m, hm⟩ := h
  have hc : Lib.countB t ⟨#[39, 39]⟩ ≤ t.size + 1 := Lib.count_le t.data.toList [39, 39]
  have e2 : (⟨#[39]⟩ : ByteArray).size = 1 := rfl
  refine (Tryd.strings_ReplaceAll t ⟨#[39, 39]⟩ ⟨#[39]⟩ m w (by omega) hm (by decide) (by rw [e2]; omega)).mono ?_
  rintro e w' ⟨rfl, hx⟩
  exact ⟨rfl, hx⟩

theorem parse_any (s : ByteArray) (w : World) (hs : s.size ≤ 100) (hw : Sh w) (ht : Tab w) (he : Er w) :
    Calls Tryd.prog 27 #[.string s] w fun e w' => e = .returned (.tuple #[.agg #[.int .i64 (prs s).1.k, .int .i64 (prs s).1.n, .string (prs s).1.t], .int .i64 (prs s).2]) ∧ Ext w w' := by
  have HW := hid hw
  have HT := hid ht
  have HE := hid he
  have HP : Hid (prs s = if fmtV (pc s) = s then (pc s, 0) else (⟨0, 0, ⟨#[]⟩⟩, 2)) := rfl
  have HSZ := hid (pc_size s)
  clear hw ht he
  have HX0 : Hid (Ext w ((w.alloc (.cells #[.int .i64 0, .int .i64 0, .string ⟨#[]⟩] 23)).alloc (.cells #[.int .i64 0, .int .i64 0, .string ⟨#[]⟩] 23))) := ((Ext.refl w).alloc _).alloc _
  have HB0 : Hid (Blk ((w.alloc (.cells #[.int .i64 0, .int .i64 0, .string ⟨#[]⟩] 23)).alloc (.cells #[.int .i64 0, .int .i64 0, .string ⟨#[]⟩] 23)) w.heap.size 23 [.int .i64 0, .int .i64 0, .string ⟨#[]⟩]) := (Blk.of_new w 23 [.int .i64 0, .int .i64 0, .string ⟨#[]⟩]).ext ((Ext.refl _).alloc _)
  have HB1 : Hid (Blk ((w.alloc (.cells #[.int .i64 0, .int .i64 0, .string ⟨#[]⟩] 23)).alloc (.cells #[.int .i64 0, .int .i64 0, .string ⟨#[]⟩] 23)) (w.heap.size + 1) 23 [.int .i64 0, .int .i64 0, .string ⟨#[]⟩]) := by
    have := Blk.of_new (w.alloc (.cells #[.int .i64 0, .int .i64 0, .string ⟨#[]⟩] 23)) 23 [.int .i64 0, .int .i64 0, .string ⟨#[]⟩]
    rw [World.size_alloc] at this
    exact this
  by_cases hk : ∃ v, Lib.parseIntB 64 s.data.toList = .ok v
  · obtain ⟨v, hv⟩ := hk
    have HC := hid (pc_ok hv)
    have NBD := hid (ok_bd hv)
    have HV := hid hv
    clear hv
    have TSZ : Hid ((⟨#[]⟩ : ByteArray).size ≤ 1000) := Nat.zero_le _
    go_enter Tryd.func27, Tryd.ntmps27
    go_wp2_with fail
    refine (pint_ok s (by omega) v HV.out _).mono ?_
    rintro e w1 ⟨rfl, hx1⟩
    have HX1 := hid (HX0.out.trans hx1)
    have HA0 := hid (HB0.out.ext hx1)
    have HA1 := hid (HB1.out.ext hx1)
    clear hx1
    go_wp2_with fail
    refine (int_any v _).mono ?_
    rintro e w2 ⟨rfl, hx2⟩
    have HX2 := hid (HX1.out.trans hx2)
    have HE0 := hid (HA0.out.ext hx2)
    have HE1 := hid (HA1.out.ext hx2)
    clear hx2
    have HX3 : Hid (Ext w (((w2.setCell ⟨w.heap.size + 1, 0, none⟩ (.int .i64 1)).setCell ⟨w.heap.size + 1, 1, none⟩ (.int .i64 v)).setCell ⟨w.heap.size + 1, 2, none⟩ (.string ⟨#[]⟩))) := ((HX2.out.setCell (Nat.le_succ _) _).setCell (Nat.le_succ _) _).setCell (Nat.le_succ _) _
    have BD0 : Hid (Blk (((w2.setCell ⟨w.heap.size + 1, 0, none⟩ (.int .i64 1)).setCell ⟨w.heap.size + 1, 1, none⟩ (.int .i64 v)).setCell ⟨w.heap.size + 1, 2, none⟩ (.string ⟨#[]⟩)) w.heap.size 23 [.int .i64 0, .int .i64 0, .string ⟨#[]⟩]) := ((HE0.out.far (by simp) _).far (by simp) _).far (by simp) _
    have BD1 : Hid (Blk (((w2.setCell ⟨w.heap.size + 1, 0, none⟩ (.int .i64 1)).setCell ⟨w.heap.size + 1, 1, none⟩ (.int .i64 v)).setCell ⟨w.heap.size + 1, 2, none⟩ (.string ⟨#[]⟩)) (w.heap.size + 1) 23 [.int .i64 1, .int .i64 v, .string ⟨#[]⟩]) := ((HE1.out.set 0 _).set 1 _).set 2 _
    have a0 := HE1.out.cell 0
    have a1 := HE1.out.cell 1
    have a2 := HE1.out.cell 2
    have g0 := HE1.out.frozen 0
    have g1 := HE1.out.frozen 1
    have g2 := HE1.out.frozen 2
    go_wp2_with fail
    clear a0 a1 a2 g0 g1 g2
    refine (format_any 1 v ⟨#[]⟩ _ TSZ.out (HW.out.ext HX3.out) (.inr ⟨HT.out.ext HX3.out, NBD.out⟩)).mono ?_
    rintro e w4 ⟨rfl, hx4⟩
    have HD0 := hid (BD0.out.ext hx4)
    have HD1 := hid (BD1.out.ext hx4)
    have HX4 := hid (HX3.out.trans hx4)
    clear hx4
    have c0 := HD1.out.cell 0
    have c1 := HD1.out.cell 1
    have c2 := HD1.out.cell 2
    have d0 := HD0.out.cell 0
    have d1 := HD0.out.cell 1
    have d2 := HD0.out.cell 2
    have f0 := HD0.out.frozen 0
    have f1 := HD0.out.frozen 1
    have f2 := HD0.out.frozen 2
    by_cases hq : fmtV ⟨1, v, ⟨#[]⟩⟩ = s
    · have bq : ((fmtV ⟨1, v, ⟨#[]⟩⟩).toList == s.toList) = true := by rw [hq]; exact beq_self_eq_true _
      have HR : Hid (prs s = (⟨1, v, ⟨#[]⟩⟩, 0)) := by unfold Hid; rw [HP.out, HC.out, if_pos hq]
      go_wp2_with fail
      have s0 : (w4.setCell ⟨w.heap.size, 0, none⟩ (.int .i64 1)).cell? ⟨w.heap.size, 0, none⟩ = some (.int .i64 1) := (HD0.out.set 0 _).cell 0
      have s1 : ((w4.setCell ⟨w.heap.size, 0, none⟩ (.int .i64 1)).setCell ⟨w.heap.size, 1, none⟩ (.int .i64 v)).cell? ⟨w.heap.size, 1, none⟩ = some (.int .i64 v) := ((HD0.out.set 0 _).set 1 _).cell 1
      have s2 : (((w4.setCell ⟨w.heap.size, 0, none⟩ (.int .i64 1)).setCell ⟨w.heap.size, 1, none⟩ (.int .i64 v)).setCell ⟨w.heap.size, 2, none⟩ (.string ⟨#[]⟩)).cell? ⟨w.heap.size, 2, none⟩ = some (.string ⟨#[]⟩) := (((HD0.out.set 0 _).set 1 _).set 2 _).cell 2
      exact bodyPost_ret (v := .tuple #[.agg #[.int .i64 1, .int .i64 v, .string ⟨#[]⟩], .int .i64 0]) (by simp [results, Tryd.results27, go_sem, s0, s1, s2]) rfl ⟨by rw [HR.out], ((HX4.out.setCell (Nat.le_refl _) _).setCell (Nat.le_refl _) _).setCell (Nat.le_refl _) _⟩
    · have bq : ((fmtV ⟨1, v, ⟨#[]⟩⟩).toList == s.toList) = false := beq_eq_false_iff_ne.2 fun h => hq (t_inj (by rw [← ByteArray.toList_eq, h, ByteArray.toList_eq]))
      have HR : Hid (prs s = (⟨0, 0, ⟨#[]⟩⟩, 2)) := by unfold Hid; rw [HP.out, HC.out, if_neg hq]
      go_wp2_with fail
      have s0 : (w4.setCell ⟨w.heap.size, 0, none⟩ (.int .i64 0)).cell? ⟨w.heap.size, 0, none⟩ = some (.int .i64 0) := (HD0.out.set 0 _).cell 0
      have s1 : ((w4.setCell ⟨w.heap.size, 0, none⟩ (.int .i64 0)).setCell ⟨w.heap.size, 1, none⟩ (.int .i64 0)).cell? ⟨w.heap.size, 1, none⟩ = some (.int .i64 0) := ((HD0.out.set 0 _).set 1 _).cell 1
      have s2 : (((w4.setCell ⟨w.heap.size, 0, none⟩ (.int .i64 0)).setCell ⟨w.heap.size, 1, none⟩ (.int .i64 0)).setCell ⟨w.heap.size, 2, none⟩ (.string ⟨#[]⟩)).cell? ⟨w.heap.size, 2, none⟩ = some (.string ⟨#[]⟩) := (((HD0.out.set 0 _).set 1 _).set 2 _).cell 2
      exact bodyPost_ret (v := .tuple #[.agg #[.int .i64 0, .int .i64 0, .string ⟨#[]⟩], .int .i64 2]) (by simp [results, Tryd.results27, go_sem, s0, s1, s2]) rfl ⟨by rw [HR.out], ((HX4.out.setCell (Nat.le_refl _) _).setCell (Nat.le_refl _) _).setCell (Nat.le_refl _) _⟩
  · have HK : Hid (∀ v, Lib.parseIntB 64 s.data.toList ≠ .ok v) := fun v e => hk ⟨v, e⟩
    clear hk
    by_cases hz : 2 ≤ s.size ∧ s.data.toList.head? = some 39
    · have HC : Hid (pc s = ⟨2, 0, unqB (s.extract 1 (s.size - 1))⟩) := by unfold Hid; rw [pc_no HK.out, if_pos hz]
      have TSZ : Hid ((unqB (s.extract 1 (s.size - 1))).size ≤ 1000) := by
        have := HSZ.out
        rw [HC.out] at this
        unfold Hid
        dsimp only at this
        omega
      have NBD : Hid (-9223372036854775808 ≤ (0 : Int) ∧ (0 : Int) ≤ 9223372036854775807) := by unfold Hid; decide
      obtain ⟨hz2, hz9⟩ := hz
      have b1 : decide ((2 : Int) ≤ (s.size : Int)) = true := by simp; omega
      have b3 : (s[0].toNat : Int) = 39 := by
        have hl : 0 < s.data.toList.length := by show 0 < s.size; omega
        have e : s.data.toList.head? = some s[0] := by
          rw [List.head?_eq_getElem?, List.getElem?_eq_getElem hl]; rfl
        rw [e] at hz9
        injection hz9 with hz9
        rw [hz9]; rfl
      have b2 : ((s[0].toNat : Int) == 39) = true := by rw [b3]; rfl
      have e1 : (1 : Int).toNat = 1 := rfl
      have e3 : ((s.size : Int) - 1).toNat = s.size - 1 := by omega
      have EX : Hid ((s.extract 1 (s.size - 1)).size ≤ 1000) := by unfold Hid; rw [ByteArray.size_extract]; omega
      clear b3 hz9
      go_enter Tryd.func27, Tryd.ntmps27
      go_wp2_with fail
      refine (parse_bad s (by omega) HK.out _ (HE.out.ext HX0.out)).mono ?_
      rintro e w1 ⟨x, p, rfl, hx1⟩
      have HX1 : Hid (Ext w w1) := HX0.out.trans hx1
      have HA0 : Hid (Blk w1 w.heap.size 23 [.int .i64 0, .int .i64 0, .string ⟨#[]⟩]) := HB0.out.ext hx1
      have HA1 : Hid (Blk w1 (w.heap.size + 1) 23 [.int .i64 0, .int .i64 0, .string ⟨#[]⟩]) := HB1.out.ext hx1
      clear hx1
      go_wp2_with fail
      refine (unqr_any _ _ (HW.out.ext HX1.out) EX.out).mono ?_
      rintro e w5 ⟨rfl, hx5⟩
      have HX5 := hid (HX1.out.trans hx5)
      have HA50 := hid (HA0.out.ext hx5)
      have HA51 := hid (HA1.out.ext hx5)
      clear hx5
      go_wp2_with fail
      refine (text_any _ _).mono ?_
      rintro e w2 ⟨rfl, hx2⟩
      have HX2 := hid (HX5.out.trans hx2)
      have HE0 := hid (HA50.out.ext hx2)
      have HE1 := hid (HA51.out.ext hx2)
      clear hx2
      have HX3 : Hid (Ext w (((w2.setCell ⟨w.heap.size + 1, 0, none⟩ (.int .i64 2)).setCell ⟨w.heap.size + 1, 1, none⟩ (.int .i64 0)).setCell ⟨w.heap.size + 1, 2, none⟩ (.string (unqB (s.extract 1 (s.size - 1)))))) := ((HX2.out.setCell (Nat.le_succ _) _).setCell (Nat.le_succ _) _).setCell (Nat.le_succ _) _
      have BD0 : Hid (Blk (((w2.setCell ⟨w.heap.size + 1, 0, none⟩ (.int .i64 2)).setCell ⟨w.heap.size + 1, 1, none⟩ (.int .i64 0)).setCell ⟨w.heap.size + 1, 2, none⟩ (.string (unqB (s.extract 1 (s.size - 1))))) w.heap.size 23 [.int .i64 0, .int .i64 0, .string ⟨#[]⟩]) := ((HE0.out.far (by simp) _).far (by simp) _).far (by simp) _
      have BD1 : Hid (Blk (((w2.setCell ⟨w.heap.size + 1, 0, none⟩ (.int .i64 2)).setCell ⟨w.heap.size + 1, 1, none⟩ (.int .i64 0)).setCell ⟨w.heap.size + 1, 2, none⟩ (.string (unqB (s.extract 1 (s.size - 1))))) (w.heap.size + 1) 23 [.int .i64 2, .int .i64 0, .string (unqB (s.extract 1 (s.size - 1)))]) := ((HE1.out.set 0 _).set 1 _).set 2 _
      have a0 := HE1.out.cell 0
      have a1 := HE1.out.cell 1
      have a2 := HE1.out.cell 2
      have g0 := HE1.out.frozen 0
      have g1 := HE1.out.frozen 1
      have g2 := HE1.out.frozen 2
      go_wp2_with fail
      clear a0 a1 a2 g0 g1 g2
      refine (format_any 2 0 (unqB (s.extract 1 (s.size - 1))) _ TSZ.out (HW.out.ext HX3.out) (.inr ⟨HT.out.ext HX3.out, NBD.out⟩)).mono ?_
      rintro e w4 ⟨rfl, hx4⟩
      have HD0 := hid (BD0.out.ext hx4)
      have HD1 := hid (BD1.out.ext hx4)
      have HX4 := hid (HX3.out.trans hx4)
      clear hx4
      have c0 := HD1.out.cell 0
      have c1 := HD1.out.cell 1
      have c2 := HD1.out.cell 2
      have d0 := HD0.out.cell 0
      have d1 := HD0.out.cell 1
      have d2 := HD0.out.cell 2
      have f0 := HD0.out.frozen 0
      have f1 := HD0.out.frozen 1
      have f2 := HD0.out.frozen 2
      by_cases hq : fmtV ⟨2, 0, (unqB (s.extract 1 (s.size - 1)))⟩ = s
      · have bq : ((fmtV ⟨2, 0, (unqB (s.extract 1 (s.size - 1)))⟩).toList == s.toList) = true := by rw [hq]; exact beq_self_eq_true _
        have HR : Hid (prs s = (⟨2, 0, (unqB (s.extract 1 (s.size - 1)))⟩, 0)) := by unfold Hid; rw [HP.out, HC.out, if_pos hq]
        go_wp2_with fail
        have s0 : (w4.setCell ⟨w.heap.size, 0, none⟩ (.int .i64 2)).cell? ⟨w.heap.size, 0, none⟩ = some (.int .i64 2) := (HD0.out.set 0 _).cell 0
        have s1 : ((w4.setCell ⟨w.heap.size, 0, none⟩ (.int .i64 2)).setCell ⟨w.heap.size, 1, none⟩ (.int .i64 0)).cell? ⟨w.heap.size, 1, none⟩ = some (.int .i64 0) := ((HD0.out.set 0 _).set 1 _).cell 1
        have s2 : (((w4.setCell ⟨w.heap.size, 0, none⟩ (.int .i64 2)).setCell ⟨w.heap.size, 1, none⟩ (.int .i64 0)).setCell ⟨w.heap.size, 2, none⟩ (.string (unqB (s.extract 1 (s.size - 1))))).cell? ⟨w.heap.size, 2, none⟩ = some (.string (unqB (s.extract 1 (s.size - 1)))) := (((HD0.out.set 0 _).set 1 _).set 2 _).cell 2
        exact bodyPost_ret (v := .tuple #[.agg #[.int .i64 2, .int .i64 0, .string (unqB (s.extract 1 (s.size - 1)))], .int .i64 0]) (by simp [results, Tryd.results27, go_sem, s0, s1, s2]) rfl ⟨by rw [HR.out], ((HX4.out.setCell (Nat.le_refl _) _).setCell (Nat.le_refl _) _).setCell (Nat.le_refl _) _⟩
      · have bq : ((fmtV ⟨2, 0, (unqB (s.extract 1 (s.size - 1)))⟩).toList == s.toList) = false := beq_eq_false_iff_ne.2 fun h => hq (t_inj (by rw [← ByteArray.toList_eq, h, ByteArray.toList_eq]))
        have HR : Hid (prs s = (⟨0, 0, ⟨#[]⟩⟩, 2)) := by unfold Hid; rw [HP.out, HC.out, if_neg hq]
        go_wp2_with fail
        have s0 : (w4.setCell ⟨w.heap.size, 0, none⟩ (.int .i64 0)).cell? ⟨w.heap.size, 0, none⟩ = some (.int .i64 0) := (HD0.out.set 0 _).cell 0
        have s1 : ((w4.setCell ⟨w.heap.size, 0, none⟩ (.int .i64 0)).setCell ⟨w.heap.size, 1, none⟩ (.int .i64 0)).cell? ⟨w.heap.size, 1, none⟩ = some (.int .i64 0) := ((HD0.out.set 0 _).set 1 _).cell 1
        have s2 : (((w4.setCell ⟨w.heap.size, 0, none⟩ (.int .i64 0)).setCell ⟨w.heap.size, 1, none⟩ (.int .i64 0)).setCell ⟨w.heap.size, 2, none⟩ (.string ⟨#[]⟩)).cell? ⟨w.heap.size, 2, none⟩ = some (.string ⟨#[]⟩) := (((HD0.out.set 0 _).set 1 _).set 2 _).cell 2
        exact bodyPost_ret (v := .tuple #[.agg #[.int .i64 0, .int .i64 0, .string ⟨#[]⟩], .int .i64 2]) (by simp [results, Tryd.results27, go_sem, s0, s1, s2]) rfl ⟨by rw [HR.out], ((HX4.out.setCell (Nat.le_refl _) _).setCell (Nat.le_refl _) _).setCell (Nat.le_refl _) _⟩
    · have HC : Hid (pc s = ⟨0, 0, ⟨#[]⟩⟩) := by unfold Hid; rw [pc_no HK.out, if_neg hz]
      have TSZ : Hid ((⟨#[]⟩ : ByteArray).size ≤ 1000) := Nat.zero_le _
      have NBD : Hid (-9223372036854775808 ≤ (0 : Int) ∧ (0 : Int) ≤ 9223372036854775807) := by unfold Hid; decide
      by_cases h2 : 2 ≤ s.size
      · have b1 : decide ((2 : Int) ≤ (s.size : Int)) = true := by simp; omega
        have b2 : ((s[0].toNat : Int) == 39) = false := by
          have hl : 0 < s.data.toList.length := by show 0 < s.size; omega
          have e : s.data.toList.head? = some s[0] := by
            rw [List.head?_eq_getElem?, List.getElem?_eq_getElem hl]; rfl
          rw [beq_eq_false_iff_ne]
          intro h
          refine hz ⟨h2, ?_⟩
          rw [e, UInt8.toNat_inj.1 (show s[0].toNat = (39 : UInt8).toNat by rw [show (39 : UInt8).toNat = 39 from rfl]; omega)]
        clear hz
        go_enter Tryd.func27, Tryd.ntmps27
        go_wp2_with fail
        refine (parse_bad s (by omega) HK.out _ (HE.out.ext HX0.out)).mono ?_
        rintro e w1 ⟨x, p, rfl, hx1⟩
        have HX1 : Hid (Ext w w1) := HX0.out.trans hx1
        have HA0 : Hid (Blk w1 w.heap.size 23 [.int .i64 0, .int .i64 0, .string ⟨#[]⟩]) := HB0.out.ext hx1
        have HA1 : Hid (Blk w1 (w.heap.size + 1) 23 [.int .i64 0, .int .i64 0, .string ⟨#[]⟩]) := HB1.out.ext hx1
        clear hx1
        have HX3 := HX1
        have BD0 := HA0
        have BD1 := HA1
        have a0 := HA1.out.cell 0
        have a1 := HA1.out.cell 1
        have a2 := HA1.out.cell 2
        go_wp2_with fail
        clear a0 a1 a2
        refine (format_any 0 0 ⟨#[]⟩ _ TSZ.out (HW.out.ext HX3.out) (.inr ⟨HT.out.ext HX3.out, NBD.out⟩)).mono ?_
        rintro e w4 ⟨rfl, hx4⟩
        have HD0 := hid (BD0.out.ext hx4)
        have HD1 := hid (BD1.out.ext hx4)
        have HX4 := hid (HX3.out.trans hx4)
        clear hx4
        have c0 := HD1.out.cell 0
        have c1 := HD1.out.cell 1
        have c2 := HD1.out.cell 2
        have d0 := HD0.out.cell 0
        have d1 := HD0.out.cell 1
        have d2 := HD0.out.cell 2
        have f0 := HD0.out.frozen 0
        have f1 := HD0.out.frozen 1
        have f2 := HD0.out.frozen 2
        by_cases hq : fmtV ⟨0, 0, ⟨#[]⟩⟩ = s
        · have bq : ((fmtV ⟨0, 0, ⟨#[]⟩⟩).toList == s.toList) = true := by rw [hq]; exact beq_self_eq_true _
          have HR : Hid (prs s = (⟨0, 0, ⟨#[]⟩⟩, 0)) := by unfold Hid; rw [HP.out, HC.out, if_pos hq]
          go_wp2_with fail
          have s0 : (w4.setCell ⟨w.heap.size, 0, none⟩ (.int .i64 0)).cell? ⟨w.heap.size, 0, none⟩ = some (.int .i64 0) := (HD0.out.set 0 _).cell 0
          have s1 : ((w4.setCell ⟨w.heap.size, 0, none⟩ (.int .i64 0)).setCell ⟨w.heap.size, 1, none⟩ (.int .i64 0)).cell? ⟨w.heap.size, 1, none⟩ = some (.int .i64 0) := ((HD0.out.set 0 _).set 1 _).cell 1
          have s2 : (((w4.setCell ⟨w.heap.size, 0, none⟩ (.int .i64 0)).setCell ⟨w.heap.size, 1, none⟩ (.int .i64 0)).setCell ⟨w.heap.size, 2, none⟩ (.string ⟨#[]⟩)).cell? ⟨w.heap.size, 2, none⟩ = some (.string ⟨#[]⟩) := (((HD0.out.set 0 _).set 1 _).set 2 _).cell 2
          exact bodyPost_ret (v := .tuple #[.agg #[.int .i64 0, .int .i64 0, .string ⟨#[]⟩], .int .i64 0]) (by simp [results, Tryd.results27, go_sem, s0, s1, s2]) rfl ⟨by rw [HR.out], ((HX4.out.setCell (Nat.le_refl _) _).setCell (Nat.le_refl _) _).setCell (Nat.le_refl _) _⟩
        · have bq : ((fmtV ⟨0, 0, ⟨#[]⟩⟩).toList == s.toList) = false := beq_eq_false_iff_ne.2 fun h => hq (t_inj (by rw [← ByteArray.toList_eq, h, ByteArray.toList_eq]))
          have HR : Hid (prs s = (⟨0, 0, ⟨#[]⟩⟩, 2)) := by unfold Hid; rw [HP.out, HC.out, if_neg hq]
          go_wp2_with fail
          have s0 : (w4.setCell ⟨w.heap.size, 0, none⟩ (.int .i64 0)).cell? ⟨w.heap.size, 0, none⟩ = some (.int .i64 0) := (HD0.out.set 0 _).cell 0
          have s1 : ((w4.setCell ⟨w.heap.size, 0, none⟩ (.int .i64 0)).setCell ⟨w.heap.size, 1, none⟩ (.int .i64 0)).cell? ⟨w.heap.size, 1, none⟩ = some (.int .i64 0) := ((HD0.out.set 0 _).set 1 _).cell 1
          have s2 : (((w4.setCell ⟨w.heap.size, 0, none⟩ (.int .i64 0)).setCell ⟨w.heap.size, 1, none⟩ (.int .i64 0)).setCell ⟨w.heap.size, 2, none⟩ (.string ⟨#[]⟩)).cell? ⟨w.heap.size, 2, none⟩ = some (.string ⟨#[]⟩) := (((HD0.out.set 0 _).set 1 _).set 2 _).cell 2
          exact bodyPost_ret (v := .tuple #[.agg #[.int .i64 0, .int .i64 0, .string ⟨#[]⟩], .int .i64 2]) (by simp [results, Tryd.results27, go_sem, s0, s1, s2]) rfl ⟨by rw [HR.out], ((HX4.out.setCell (Nat.le_refl _) _).setCell (Nat.le_refl _) _).setCell (Nat.le_refl _) _⟩
      · have b1 : decide ((2 : Int) ≤ (s.size : Int)) = false := by simp; omega
        go_enter Tryd.func27, Tryd.ntmps27
        go_wp2_with fail
        refine (parse_bad s (by omega) HK.out _ (HE.out.ext HX0.out)).mono ?_
        rintro e w1 ⟨x, p, rfl, hx1⟩
        have HX1 : Hid (Ext w w1) := HX0.out.trans hx1
        have HA0 : Hid (Blk w1 w.heap.size 23 [.int .i64 0, .int .i64 0, .string ⟨#[]⟩]) := HB0.out.ext hx1
        have HA1 : Hid (Blk w1 (w.heap.size + 1) 23 [.int .i64 0, .int .i64 0, .string ⟨#[]⟩]) := HB1.out.ext hx1
        clear hx1
        have HX3 := HX1
        have BD0 := HA0
        have BD1 := HA1
        have a0 := HA1.out.cell 0
        have a1 := HA1.out.cell 1
        have a2 := HA1.out.cell 2
        go_wp2_with fail
        clear a0 a1 a2
        refine (format_any 0 0 ⟨#[]⟩ _ TSZ.out (HW.out.ext HX3.out) (.inr ⟨HT.out.ext HX3.out, NBD.out⟩)).mono ?_
        rintro e w4 ⟨rfl, hx4⟩
        have HD0 := hid (BD0.out.ext hx4)
        have HD1 := hid (BD1.out.ext hx4)
        have HX4 := hid (HX3.out.trans hx4)
        clear hx4
        have c0 := HD1.out.cell 0
        have c1 := HD1.out.cell 1
        have c2 := HD1.out.cell 2
        have d0 := HD0.out.cell 0
        have d1 := HD0.out.cell 1
        have d2 := HD0.out.cell 2
        have f0 := HD0.out.frozen 0
        have f1 := HD0.out.frozen 1
        have f2 := HD0.out.frozen 2
        by_cases hq : fmtV ⟨0, 0, ⟨#[]⟩⟩ = s
        · have bq : ((fmtV ⟨0, 0, ⟨#[]⟩⟩).toList == s.toList) = true := by rw [hq]; exact beq_self_eq_true _
          have HR : Hid (prs s = (⟨0, 0, ⟨#[]⟩⟩, 0)) := by unfold Hid; rw [HP.out, HC.out, if_pos hq]
          go_wp2_with fail
          have s0 : (w4.setCell ⟨w.heap.size, 0, none⟩ (.int .i64 0)).cell? ⟨w.heap.size, 0, none⟩ = some (.int .i64 0) := (HD0.out.set 0 _).cell 0
          have s1 : ((w4.setCell ⟨w.heap.size, 0, none⟩ (.int .i64 0)).setCell ⟨w.heap.size, 1, none⟩ (.int .i64 0)).cell? ⟨w.heap.size, 1, none⟩ = some (.int .i64 0) := ((HD0.out.set 0 _).set 1 _).cell 1
          have s2 : (((w4.setCell ⟨w.heap.size, 0, none⟩ (.int .i64 0)).setCell ⟨w.heap.size, 1, none⟩ (.int .i64 0)).setCell ⟨w.heap.size, 2, none⟩ (.string ⟨#[]⟩)).cell? ⟨w.heap.size, 2, none⟩ = some (.string ⟨#[]⟩) := (((HD0.out.set 0 _).set 1 _).set 2 _).cell 2
          exact bodyPost_ret (v := .tuple #[.agg #[.int .i64 0, .int .i64 0, .string ⟨#[]⟩], .int .i64 0]) (by simp [results, Tryd.results27, go_sem, s0, s1, s2]) rfl ⟨by rw [HR.out], ((HX4.out.setCell (Nat.le_refl _) _).setCell (Nat.le_refl _) _).setCell (Nat.le_refl _) _⟩
        · have bq : ((fmtV ⟨0, 0, ⟨#[]⟩⟩).toList == s.toList) = false := beq_eq_false_iff_ne.2 fun h => hq (t_inj (by rw [← ByteArray.toList_eq, h, ByteArray.toList_eq]))
          have HR : Hid (prs s = (⟨0, 0, ⟨#[]⟩⟩, 2)) := by unfold Hid; rw [HP.out, HC.out, if_neg hq]
          go_wp2_with fail
          have s0 : (w4.setCell ⟨w.heap.size, 0, none⟩ (.int .i64 0)).cell? ⟨w.heap.size, 0, none⟩ = some (.int .i64 0) := (HD0.out.set 0 _).cell 0
          have s1 : ((w4.setCell ⟨w.heap.size, 0, none⟩ (.int .i64 0)).setCell ⟨w.heap.size, 1, none⟩ (.int .i64 0)).cell? ⟨w.heap.size, 1, none⟩ = some (.int .i64 0) := ((HD0.out.set 0 _).set 1 _).cell 1
          have s2 : (((w4.setCell ⟨w.heap.size, 0, none⟩ (.int .i64 0)).setCell ⟨w.heap.size, 1, none⟩ (.int .i64 0)).setCell ⟨w.heap.size, 2, none⟩ (.string ⟨#[]⟩)).cell? ⟨w.heap.size, 2, none⟩ = some (.string ⟨#[]⟩) := (((HD0.out.set 0 _).set 1 _).set 2 _).cell 2
          exact bodyPost_ret (v := .tuple #[.agg #[.int .i64 0, .int .i64 0, .string ⟨#[]⟩], .int .i64 2]) (by simp [results, Tryd.results27, go_sem, s0, s1, s2]) rfl ⟨by rw [HR.out], ((HX4.out.setCell (Nat.le_refl _) _).setCell (Nat.le_refl _) _).setCell (Nat.le_refl _) _⟩

end Go.Proofs.YtkldgehnioapcaaDoor
