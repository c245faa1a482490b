/-
  Walks: a DELETE statement, valid and formatted.
-/
import Derived.Test.YtcdnodjcnofogaaGreatDoorW22
import Derived.Test.YtcdnodjcnofogaaGreatDoorRow
namespace Go.Proofs.YtcdnodjcnofogaaGreatDoor
open Go.RowKit
set_option linter.unusedVariables false
set_option linter.unusedSimpArgs false
set_option maxHeartbeats 4000000
set_option maxRecDepth 100000

theorem empty0_any (A1 A2 A3 A4 : Option Addr) (n1 n2 n3 n4 c1 c2 c3 c4 : Nat) (w : World) (h1 : n1 ≤ 1000000000000000000) (h2 : n2 ≤ 1000000000000000000) (h3 : n3 ≤ 1000000000000000000) (h4 : n4 ≤ 1000000000000000000) :
    Calls Tryz.prog 73 #[.agg #[.slice A1 n1 c1, .slice A2 n2 c2, .slice A3 n3 c3, .slice A4 n4 c4]] w fun r w' => r = .returned (.bool (n1 + n2 + n3 + n4 == 0)) ∧ Ext w w' := by
  go_enter Tryz.func73, Tryz.ntmps73
  go_wp2_with fail
  go_ret
  refine ⟨ret_bool ?_, (Ext.refl w).alloc _⟩
  rw [Bool.eq_iff_iff]
  simp
  omega
/-- a DELETE statement -/
def delV (tb : ByteArray) (d : Nd) (A : Option Addr) (n c : Nat) : Value :=
  .agg #[.int .i64 4, .string tb, .slice none 0 0, .slice none 0 0, .slice none 0 0, .slice none 0 0, .slice none 0 0, .slice none 0 0, .slice none 0 0, .slice none 0 0, .int .i64 d.op, .string d.tb, .string d.nm, .int .i64 d.ix, .int .i64 d.vk, .int .i64 d.vi, .string d.vt, .slice A n c,
    .slice none 0 0, .slice none 0 0, .int .i64 0, .string ⟨#[]⟩]
theorem del_stmt (tb : ByteArray) (e : Ex) (A : Option Addr) (n c : Nat) (w : World) (hv : ExV w e A n c) (hw : Sh w) (ht : tb.size ≤ 24) (htn : nameB tb = true) (t0 : ¬ tb.size = 0) (hab : e.absent = false) (hf : e.formed = true) :
    Calls Tryz.prog 42 #[delV tb e.d A n c] w fun r w' => r = .returned (.bool true) ∧ Ext w w' := by
  have HA := hid (fun W (hW : Ext w W) => absent_any e A n c W (hv.ext hW))
  have HF := hid (fun W (hW : Ext w W) => formed_any e A n c W (hv.ext hW) (hw.ext hW))
  have HN := hid (fun W (hW : Ext w W) => name_any tb W (hw.ext hW) (by omega))
  rw [hab] at HA
  rw [hf] at HF
  rw [htn] at HN
  have t1 := empty_no t0
  have t2 := empty_no2 t0
  clear hv hw hab hf htn t0
  unfold delV
  unfold Nd.val at *
  generalize e.d = d at *
  obtain ⟨op, tb', nm, ix, vk, vi, vt⟩ := d
  simp only at *
  have HB := hid (Blk.of_new w 38 [.int .i64 4, .string tb, .slice none 0 0, .slice none 0 0, .slice none 0 0, .slice none 0 0, .slice none 0 0, .slice none 0 0, .slice none 0 0, .slice none 0 0, .int .i64 op, .string tb', .string nm, .int .i64 ix, .int .i64 vk, .int .i64 vi, .string vt, .slice A n c, .slice none 0 0, .slice none 0 0, .int .i64 0, .string ⟨#[]⟩])
  have HX := hid ((Ext.refl w).alloc (.cells #[.int .i64 4, .string tb, .slice none 0 0, .slice none 0 0, .slice none 0 0, .slice none 0 0, .slice none 0 0, .slice none 0 0, .slice none 0 0, .slice none 0 0, .int .i64 op, .string tb', .string nm, .int .i64 ix, .int .i64 vk, .int .i64 vi, .string vt, .slice A n c, .slice none 0 0, .slice none 0 0, .int .i64 0, .string ⟨#[]⟩] 38))
  go_enter Tryz.func42, Tryz.ntmps42
  go_wp2_with (first | (go_at_call 71; refine (HN.out _ HX.out).mono ?_; rintro _ w2 ⟨rfl, rfl⟩) | (go_at_call 72; refine (HA.out _ HX.out).mono ?_; rintro _ w3 ⟨rfl, hx3⟩; have hb3 := HB.out.ext hx3; have c10 := hb3.cell 10; have c11 := hb3.cell 11; have c12 := hb3.cell 12; have c13 := hb3.cell 13; have c14 := hb3.cell 14; have c15 := hb3.cell 15; have c16 := hb3.cell 16; have c17 := hb3.cell 17; simp only [List.getElem?_cons_succ, List.getElem?_cons_zero] at c10 c11 c12 c13 c14 c15 c16 c17; have HB3 := hid hb3; clear hb3) | (go_at_call 47; refine (HF.out _ (HX.out.trans hx3)).mono ?_; rintro _ w4 ⟨rfl, hx4⟩))
  have HX4 := hid ((HX.out.trans hx3).trans hx4)
  have HB4 := hid (HB3.out.ext hx4)
  clear c10 c11 c12 c13 c14 c15 c16 c17 hx3 hx4
  have hb := HB4.out
  have k0 := Later.keep (hb.cell_some (i := 0) rfl)
  have k2 := Later.keep (hb.cell_some (i := 2) rfl)
  have k3 := Later.keep (hb.cell_some (i := 3) rfl)
  have k4 := Later.keep (hb.cell_some (i := 4) rfl)
  have k5 := Later.keep (hb.cell_some (i := 5) rfl)
  have k6 := Later.keep (hb.cell_some (i := 6) rfl)
  have k7 := Later.keep (hb.cell_some (i := 7) rfl)
  have k9 := Later.keep (hb.cell_some (i := 9) rfl)
  clear hb
  refine wp_region_later (by kernel_rfl) (by kernel_rfl) ?_
  repeat (go_big_quiet_step ((go_at_call 73; exact later_of (empty0_any none none none none 0 0 0 0 0 0 0 0 _ (by omega) (by omega) (by omega) (by omega)))))
  refine wpQuiet_nil ?_
  intro w5 hw5
  have hx5 := later_out hw5
  have hb5 := HB4.out.ext hx5
  have c0 := hb5.cell 0
  have c8 := hb5.cell 8
  have c18 := hb5.cell 18
  have c19 := hb5.cell 19
  have c20 := hb5.cell 20
  simp only [List.getElem?_cons_succ, List.getElem?_cons_zero] at c0 c8 c18 c19 c20
  clear hw5 k0 k2 k3 k4 k5 k6 k7 k9 hb5
  go_wp2_with fail
  go_ret
  exact ⟨rfl, HX4.out.trans hx5⟩
/-- " WHERE " -/
def sWhere : ByteArray := ⟨#[32, 87, 72, 69, 82, 69, 32]⟩
theorem del_where (tb : ByteArray) (e : Ex) (A : Option Addr) (n c : Nat) (w : World) (hv : ExV w e A n c) (hab : e.absent = false) (hf : e.formed = true) (hs : e.size ≤ 1000) (hg : Gd w) :
    Calls Tryz.prog 87 #[delV tb e.d A n c] w fun r w' => r = .returned (.string (sWhere ++ e.tx 1)) ∧ Ext w w' := by
  have HA := hid (fun W (hW : Ext w W) => absent_any e A n c W (hv.ext hW))
  have HE := hid (fun W (hW : Ext w W) => expr_any e 1 A n c W (hv.ext hW) hf hs (hg.ext hW))
  have hts : (e.tx 1).size ≤ 100000 := by have := tx_size e 1 hf; omega
  rw [hab] at HA
  clear hv hg hab hf hs
  unfold sWhere delV
  unfold Nd.val at *
  generalize e.tx 1 = T at *
  generalize e.d = d at *
  obtain ⟨op, tb', nm, ix, vk, vi, vt⟩ := d
  simp only at *
  have HB := hid (Blk.of_new w 38 [.int .i64 4, .string tb, .slice none 0 0, .slice none 0 0, .slice none 0 0, .slice none 0 0, .slice none 0 0, .slice none 0 0, .slice none 0 0, .slice none 0 0, .int .i64 op, .string tb', .string nm, .int .i64 ix, .int .i64 vk, .int .i64 vi, .string vt, .slice A n c, .slice none 0 0, .slice none 0 0, .int .i64 0, .string ⟨#[]⟩])
  have HX := hid ((Ext.refl w).alloc (.cells #[.int .i64 4, .string tb, .slice none 0 0, .slice none 0 0, .slice none 0 0, .slice none 0 0, .slice none 0 0, .slice none 0 0, .slice none 0 0, .slice none 0 0, .int .i64 op, .string tb', .string nm, .int .i64 ix, .int .i64 vk, .int .i64 vi, .string vt, .slice A n c, .slice none 0 0, .slice none 0 0, .int .i64 0, .string ⟨#[]⟩] 38))
  go_enter Tryz.func87, Tryz.ntmps87
  go_wp2_with (first | (go_at_call 72; refine (HA.out _ HX.out).mono ?_; rintro _ w3 ⟨rfl, hx3⟩; have hb3 := HB.out.ext hx3; have c10 := hb3.cell 10; have c11 := hb3.cell 11; have c12 := hb3.cell 12; have c13 := hb3.cell 13; have c14 := hb3.cell 14; have c15 := hb3.cell 15; have c16 := hb3.cell 16; have c17 := hb3.cell 17; simp only [List.getElem?_cons_succ, List.getElem?_cons_zero] at c10 c11 c12 c13 c14 c15 c16 c17; clear hb3) | (go_at_call 49; refine (HE.out _ (HX.out.trans hx3)).mono ?_; rintro _ w4 ⟨rfl, hx4⟩))
  go_ret
  exact ⟨rfl, (HX.out.trans hx3).trans hx4⟩
/-- "DELETE FROM " -/
def sDelete : ByteArray := ⟨#[68, 69, 76, 69, 84, 69, 32, 70, 82, 79, 77, 32]⟩
theorem del_format (tb : ByteArray) (e : Ex) (A : Option Addr) (n c : Nat) (w : World) (hv : ExV w e A n c) (ht : tb.size ≤ 24) (hab : e.absent = false) (hf : e.formed = true) (hs : e.size ≤ 1000) (hg : Gd w) :
    Calls Tryz.prog 43 #[delV tb e.d A n c] w fun r w' => r = .returned (.string (sDelete ++ tb ++ (sWhere ++ e.tx 1))) ∧ Ext w w' := by
  have HW := hid (fun W (hW : Ext w W) => del_where tb e A n c W (hv.ext hW) hab hf hs (hg.ext hW))
  have hts : (sWhere ++ e.tx 1).size ≤ 100000 := by
    have := tx_size e 1 hf
    rw [ByteArray.size_append]
    show 7 + _ ≤ _
    omega
  have hts2 : tb.size ≤ 1000 := by omega
  clear hv hg hab hf hs ht
  generalize sWhere ++ e.tx 1 = T at *
  unfold sDelete
  unfold delV at *
  generalize e.d = d at *
  obtain ⟨op, tb', nm, ix, vk, vi, vt⟩ := d
  simp only at *
  have HB := hid (Blk.of_new w 38 [.int .i64 4, .string tb, .slice none 0 0, .slice none 0 0, .slice none 0 0, .slice none 0 0, .slice none 0 0, .slice none 0 0, .slice none 0 0, .slice none 0 0, .int .i64 op, .string tb', .string nm, .int .i64 ix, .int .i64 vk, .int .i64 vi, .string vt, .slice A n c, .slice none 0 0, .slice none 0 0, .int .i64 0, .string ⟨#[]⟩])
  have HX := hid ((Ext.refl w).alloc (.cells #[.int .i64 4, .string tb, .slice none 0 0, .slice none 0 0, .slice none 0 0, .slice none 0 0, .slice none 0 0, .slice none 0 0, .slice none 0 0, .slice none 0 0, .int .i64 op, .string tb', .string nm, .int .i64 ix, .int .i64 vk, .int .i64 vi, .string vt, .slice A n c, .slice none 0 0, .slice none 0 0, .int .i64 0, .string ⟨#[]⟩] 38))
  go_enter Tryz.func43, Tryz.ntmps43
  go_wp2_with fail
  generalize w.alloc (.cells #[.int .i64 4, .string tb, .slice none 0 0, .slice none 0 0, .slice none 0 0, .slice none 0 0, .slice none 0 0, .slice none 0 0, .slice none 0 0, .slice none 0 0, .int .i64 op, .string tb', .string nm, .int .i64 ix, .int .i64 vk, .int .i64 vi, .string vt, .slice A n c, .slice none 0 0, .slice none 0 0, .int .i64 0, .string ⟨#[]⟩] 38) = w1 at *
  generalize w.heap.size = g at *
  have HW1 : Hid (∀ z : Later w1, Calls Tryz.prog 87 _ z.now _) := fun z => HW.out z.now (HX.out.trans z.ext)
  have k1 := Later.keep (HB.out.cell_some (i := 1) rfl)
  refine wp_region_later (by kernel_rfl) (by kernel_rfl) ?_
  repeat (first | (refine quiet_load_blk rfl 38 (.tmp 1) rfl g rfl 38 _ _ (later_blk HB.out) Tryz.underlying38 rfl (by kernel_rfl) ?_; go_simp) | go_big_quiet_step ((go_at_call 87; exact later_of (HW1.out _))))
  refine wpQuiet_nil ?_
  intro x2
  have hx2 : Ext w1 x2.now := x2.ext
  generalize x2.now = w2 at *
  clear x2 k1
  go_wp2_with fail
  go_ret
  exact ⟨rfl, HX.out.trans hx2⟩
def delS (tb : ByteArray) (e : Ex) : St := ⟨4, tb, [], [], [], [], [], [], [], [], e, [], [], 0, ⟨#[]⟩⟩
def slZ : Sl := ⟨none, 0, 0⟩
def delA (A : Option Addr) (n c : Nat) : SA := ⟨slZ, slZ, slZ, slZ, slZ, slZ, slZ, slZ, ⟨A, n, c⟩, slZ, slZ⟩
theorem del_val (tb : ByteArray) (e : Ex) (A : Option Addr) (n c : Nat) : (delS tb e).val (delA A n c) = delV tb e.d A n c := rfl
theorem del_stv (tb : ByteArray) (e : Ex) (A : Option Addr) (n c : Nat) (w : World) (hv : ExV w e A n c) (ht : tb.size ≤ 24) : StV w (delS tb e) (delA A n c) :=
  ⟨⟨by show -9223372036854775808 ≤ (4 : Int); omega, by show (4 : Int) ≤ 9223372036854775807; omega⟩, by show tb.size ≤ _; omega, ⟨by show -9223372036854775808 ≤ (0 : Int); omega, by show (0 : Int) ≤ 9223372036854775807; omega⟩, Nat.zero_le _, ⟨rfl, Nat.zero_le _, fun i x h => by simp [delS] at h⟩, ⟨rfl, Nat.zero_le _, fun i x h => by simp [delS] at h⟩, ⟨rfl, Nat.zero_le _, fun i x h => by simp [delS] at h⟩, ⟨rfl, Nat.zero_le _, trivial⟩,
    ⟨rfl, Nat.zero_le _, fun i x h => by simp [delS] at h⟩, fun l h => by simp [delS] at h, ⟨rfl, Nat.zero_le _, fun i x h => by simp [delS] at h⟩, ⟨rfl, Nat.zero_le _, fun i x h => by simp [delS] at h⟩, ⟨rfl, Nat.zero_le _, fun i x h => by simp [delS] at h⟩, hv, ⟨rfl, Nat.zero_le _, trivial⟩, ⟨rfl, Nat.zero_le _, fun i x h => by simp [delS] at h⟩⟩
theorem del_all (tb : ByteArray) (e : Ex) : (delS tb e).all = [e] := rfl
theorem del_valid (tb : ByteArray) (e : Ex) (A : Option Addr) (n c : Nat) (w : World) (hv : ExV w e A n c) (ht : tb.size ≤ 24) (htn : nameB tb = true) (hab : e.absent = false) (hf : e.formed = true) (hl : largeB [e] = false) (hs : (sDelete ++ tb ++ (sWhere ++ e.tx 1)).size ≤ 16384) (hs2 : e.size ≤ 1000) (hg : Gd w) :
    Calls Tryz.prog 14 #[delV tb e.d A n c] w fun r w' => r = .returned (.int .i64 0) ∧ Ext w w' := by
  have HAl : Hid (∀ W, Ext w W → Calls Tryz.prog 41 #[delV tb e.d A n c] W fun r w' => ∃ A' c', r = .returned (.slice A' 1 c') ∧ KidsAt w' A' [e] ∧ Ext W w') :=
    fun W hW => all_any (delS tb e) (delA A n c) W (del_stv tb e A n c W (hv.ext hW) ht) (by rw [del_all]; simp)
  have HLa : Hid (∀ W A' c', KidsAt W A' [e] → Calls Tryz.prog 40 #[.slice A' 1 c'] W fun r w' => r = .returned (.bool false) ∧ Ext W w') := by
    intro W A' c' hk
    have := large_any [e] A' 1 c' W rfl (by omega) hk
    rwa [hl] at this
  have t0 : ¬ tb.size = 0 := by
    intro h
    rw [name_len0 h] at htn
    cases htn
  have HSt := hid (fun W (hW : Ext w W) => del_stmt tb e A n c W (hv.ext hW) (hg.sh.ext hW) ht htn t0 hab hf)
  have HFo := hid (fun W (hW : Ext w W) => del_format tb e A n c W (hv.ext hW) ht hab hf hs2 (hg.ext hW))
  have d1 : decide ((16384 : Int) < (((sDelete ++ tb ++ (sWhere ++ e.tx 1)).size : Nat) : Int)) = false := by simp only [decide_eq_false_iff_not]; omega
  clear hv hg hab hf hl ht htn t0 hs2
  generalize sDelete ++ tb ++ (sWhere ++ e.tx 1) = T at *
  unfold delV at *
  generalize e.d = d at *
  obtain ⟨op, tb', nm, ix, vk, vi, vt⟩ := d
  simp only at *
  have HB := hid (Blk.of_new w 38 [.int .i64 4, .string tb, .slice none 0 0, .slice none 0 0, .slice none 0 0, .slice none 0 0, .slice none 0 0, .slice none 0 0, .slice none 0 0, .slice none 0 0, .int .i64 op, .string tb', .string nm, .int .i64 ix, .int .i64 vk, .int .i64 vi, .string vt, .slice A n c, .slice none 0 0, .slice none 0 0, .int .i64 0, .string ⟨#[]⟩])
  have HX := hid ((Ext.refl w).alloc (.cells #[.int .i64 4, .string tb, .slice none 0 0, .slice none 0 0, .slice none 0 0, .slice none 0 0, .slice none 0 0, .slice none 0 0, .slice none 0 0, .slice none 0 0, .int .i64 op, .string tb', .string nm, .int .i64 ix, .int .i64 vk, .int .i64 vi, .string vt, .slice A n c, .slice none 0 0, .slice none 0 0, .int .i64 0, .string ⟨#[]⟩] 38))
  go_enter Tryz.func14, Tryz.ntmps14
  go_wp2_with (first | (refine wpList_load_blk rfl 38 (.tmp 1) rfl w.heap.size rfl 38 _ _ HB.out Tryz.underlying38 rfl (by kernel_rfl) ?_) | (go_at_call 41; refine (HAl.out _ HX.out).mono ?_; rintro _ w2 ⟨A', c', rfl, hk2, hx2⟩) | (go_at_call 40; refine (HLa.out _ A' c' hk2).mono ?_; rintro _ w3 ⟨rfl, hx3⟩; have HB3 := hid ((HB.out.ext hx2).ext hx3)) | (refine wpList_load_blk rfl 38 (.tmp 1) rfl w.heap.size rfl 38 _ _ HB3.out Tryz.underlying38 rfl (by kernel_rfl) ?_) | (go_at_call 42; refine (HSt.out _ ((HX.out.trans hx2).trans hx3)).mono ?_; rintro _ w4 ⟨rfl, hx4⟩; have HB4 := hid (HB3.out.ext hx4)) | (refine wpList_load_blk rfl 38 (.tmp 1) rfl w.heap.size rfl 38 _ _ HB4.out Tryz.underlying38 rfl (by kernel_rfl) ?_) | (go_at_call 43; refine (HFo.out _ (((HX.out.trans hx2).trans hx3).trans hx4)).mono ?_; rintro _ w5 ⟨rfl, hx5⟩))
  go_ret
  exact ⟨rfl, (((HX.out.trans hx2).trans hx3).trans hx4).trans hx5⟩
theorem del_text (tb : ByteArray) (e : Ex) (A : Option Addr) (n c : Nat) (w : World) (hv : ExV w e A n c) (ht : tb.size ≤ 24) (htn : nameB tb = true) (hab : e.absent = false) (hf : e.formed = true) (hl : largeB [e] = false) (hs : (sDelete ++ tb ++ (sWhere ++ e.tx 1)).size ≤ 16384) (hs2 : e.size ≤ 1000) (hg : Gd w) :
    Calls Tryz.prog 19 #[delV tb e.d A n c] w fun r w' => r = .returned (.tuple #[.string (sDelete ++ tb ++ (sWhere ++ e.tx 1)), .int .i64 0]) ∧ Ext w w' := by
  have HV := hid (fun W (hW : Ext w W) => del_valid tb e A n c W (hv.ext hW) ht htn hab hf hl hs hs2 (hg.ext hW))
  have HFo := hid (fun W (hW : Ext w W) => del_format tb e A n c W (hv.ext hW) ht hab hf hs2 (hg.ext hW))
  clear hv hg hab hf hl ht htn hs2 hs
  generalize sDelete ++ tb ++ (sWhere ++ e.tx 1) = T at *
  unfold delV at *
  generalize e.d = d at *
  obtain ⟨op, tb', nm, ix, vk, vi, vt⟩ := d
  simp only at *
  have HB := hid (Blk.of_new w 38 [.int .i64 4, .string tb, .slice none 0 0, .slice none 0 0, .slice none 0 0, .slice none 0 0, .slice none 0 0, .slice none 0 0, .slice none 0 0, .slice none 0 0, .int .i64 op, .string tb', .string nm, .int .i64 ix, .int .i64 vk, .int .i64 vi, .string vt, .slice A n c, .slice none 0 0, .slice none 0 0, .int .i64 0, .string ⟨#[]⟩])
  have HX := hid ((Ext.refl w).alloc (.cells #[.int .i64 4, .string tb, .slice none 0 0, .slice none 0 0, .slice none 0 0, .slice none 0 0, .slice none 0 0, .slice none 0 0, .slice none 0 0, .slice none 0 0, .int .i64 op, .string tb', .string nm, .int .i64 ix, .int .i64 vk, .int .i64 vi, .string vt, .slice A n c, .slice none 0 0, .slice none 0 0, .int .i64 0, .string ⟨#[]⟩] 38))
  go_enter Tryz.func19, Tryz.ntmps19
  go_wp2_with (first | (refine wpList_load_blk rfl 38 (.tmp 1) rfl w.heap.size rfl 38 _ _ HB.out Tryz.underlying38 rfl (by kernel_rfl) ?_) | (go_at_call 14; refine (HV.out _ HX.out).mono ?_; rintro _ w2 ⟨rfl, hx2⟩; have HB2 := hid (HB.out.ext hx2)) | (refine wpList_load_blk rfl 38 (.tmp 1) rfl w.heap.size rfl 38 _ _ HB2.out Tryz.underlying38 rfl (by kernel_rfl) ?_) | (go_at_call 43; refine (HFo.out _ (HX.out.trans hx2)).mono ?_; rintro _ w3 ⟨rfl, hx3⟩))
  go_ret2
  exact ⟨rfl, (HX.out.trans hx2).trans hx3⟩
end Go.Proofs.YtcdnodjcnofogaaGreatDoor
