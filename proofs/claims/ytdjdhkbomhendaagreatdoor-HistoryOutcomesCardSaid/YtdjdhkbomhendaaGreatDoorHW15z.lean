/-
  Walks over history: Format, the reference's Text.
-/
import Derived.Test.YtdjdhkbomhendaaGreatDoorGk
import Derived.Test.YtdjdhkbomhendaaGreatDoorGl
import Derived.Test.YtdjdhkbomhendaaGreatDoorHW14z
namespace Go.Proofs.YtdjdhkbomhendaaGreatDoor
open Go.RowKit
set_option linter.unusedVariables false
set_option linter.unusedSimpArgs false
set_option maxHeartbeats 4000000
set_option maxRecDepth 100000

theorem sm_fit {e : Ev} (h : e.sm) : e.fit := ⟨by have := h.2.1; omega, by have := h.2.2.1; omega, fun r hr => by have := (h.2.2.2.1 r hr).1; omega, fun x hx => by have := (h.2.2.2.2 x hx).2.2.1; omega⟩
theorem sm_tx4 {e : Ev} (h : e.sm) : e.tx4 := ⟨fun r hr => (h.2.2.2.1 r hr).2.2, fun x hx => (h.2.2.2.2 x hx).2.2.2.2⟩
theorem sm_sz4 {e : Ev} (h : e.sm) : e.sz4 := ⟨fun r hr => ⟨by have := (h.2.2.2.1 r hr).1; omega, (h.2.2.2.1 r hr).2.2⟩, fun x hx => ⟨by have := (h.2.2.2.2 x hx).2.2.1; omega, (h.2.2.2.2 x hx).2.2.2.2⟩⟩
/-- Format, as a plain function -/
def fmtH (l : List Ev) : ByteArray × Int := if okH l = true then (textH l, 0) else (⟨#[]⟩, 1)
theorem blk8 {w : World} {g : Nat} {t : TypeId} {a0 a1 a2 a3 a4 a5 a6 a7 : Value} (h : Blk w g t [a0, a1, a2, a3, a4, a5, a6, a7]) :
    w.cell? ⟨g, 0, none⟩ = some a0 ∧ w.cell? ⟨g, 1, none⟩ = some a1 ∧ w.cell? ⟨g, 2, none⟩ = some a2 ∧ w.cell? ⟨g, 3, none⟩ = some a3 ∧ w.cell? ⟨g, 4, none⟩ = some a4 ∧ w.cell? ⟨g, 5, none⟩ = some a5 ∧ w.cell? ⟨g, 6, none⟩ = some a6 ∧ w.cell? ⟨g, 7, none⟩ = some a7 :=
  ⟨h.cell_some rfl, h.cell_some rfl, h.cell_some rfl, h.cell_some rfl, h.cell_some rfl, h.cell_some rfl, h.cell_some rfl, h.cell_some rfl⟩
theorem Format_any (A : Option Addr) (l : List Ev) (n c : Nat) (w : World) (hl : EvsAt w A l) (hn : l.length = n) (hm : n ≤ 4000) (hs : ∀ e ∈ l, Ev.sm e) (hS : Sh w) (hT : Tab w) :
    Calls Tryz.prog 13 #[.slice A n c] w fun r w' => r = .returned (.tuple #[.string (fmtH l).1, .int .i64 (fmtH l).2]) ∧ Ext w w' := by
  have HL := hid hl
  have HN := hid hn
  have HS := hid hs
  have HSh := hid hS
  have HT := hid hT
  clear hl hn hs hS hT
  have HBl := hid (bld_new w.heap.size w (Nat.le_refl _))
  have HXb := hid ((Ext.refl w).alloc (.cells #[.pointer none, .slice none 0 0] 66))
  go_enter Tryz.func13, Tryz.ntmps13
  go_upto_region 2 with fail
  generalize w.alloc (.cells #[.pointer none, .slice none 0 0] 66) = W2 at *
  obtain ⟨b, hb⟩ : ∃ b, w.heap.size = b := ⟨_, rfl⟩
  have HBW : Hid (∀ W, Ext w W → b ≤ W.heap.size) := fun W hW => by rw [← hb]; exact hW.size
  have HXB : Hid (∀ W W', Ext w W → Below b W W' → Ext w W') := fun W W' hW hx => Below.trans hW (by rw [hb]; exact hx)
  rw [hb] at HBl ⊢
  clear hb
  go_wp2_with fail
  go_loopw [9] (fun iv wr => ∃ k : Nat, k ≤ n ∧ iv = .int .i64 k ∧ (l.take k).all Ev.ok = true ∧ BldIs b b (textH (l.take k)) wr ∧ Ext w wr) (fun i _ => n - (intOf i).toNat)
  case atStart => exact ⟨0, Nat.zero_le _, rfl, rfl, by rw [List.take_zero]; exact HBl.out, HXb.out⟩
  case round =>
    obtain ⟨k, hk, rfl, hok, hb, hxr⟩ := hrel
    have HOK := hid hok
    have HBr := hid hb
    have HXr := hid hxr
    clear hok hb
    by_cases hlt : k < n
    · obtain ⟨e, he⟩ := rat_lt HN.out hlt
      obtain ⟨bq, off, vr, vw, rfl, q0, q1, q2, q3, q4, q5, q6, q7, q8, q9⟩ := (HL.out.ext hxr) k e he
      have hsm := HS.out e (List.mem_of_getElem? he)
      have HV := hid (fun W (hW : Ext wr W) => evalid_any e vr vw W (q8.ext hW) (q9.ext hW) (sm_fit hsm) (sm_tx4 hsm))
      have HF := hid (fun W (hW : Ext wr W) (ho : e.ok = true) => hformat_any e vr vw W (q8.ext hW) (q9.ext hW) ho hsm (HSh.out.ext (HXr.out.trans hW)) (HT.out.ext (HXr.out.trans hW)))
      obtain ⟨A1, c1, rfl, _⟩ := id q8
      obtain ⟨B1, d1, rfl, _⟩ := id q9
      have HE := hid he
      have HTk := hid (textH_take he)
      have HLs := hid (lines_sz hsm)
      have HTs : Hid ((textH (l.take k)).size ≤ 6000000000000) := by
        have h1 := textH_sz (l := l.take k) fun x hx => HS.out x (List.mem_of_mem_take hx)
        have h2 : (l.take k).length ≤ k := List.length_take_le _ _
        have h3 : 1344800300 * (l.take k).length ≤ 1344800300 * 4000 := Nat.mul_le_mul (Nat.le_refl _) (by omega)
        unfold Hid
        omega
      have HFN : Hid (e.ok = false → l.all Ev.ok = false) := fun h => all_no HE.out h
      have HST : Hid (e.ok = true → (l.take (k + 1)).all Ev.ok = true) := fun h => all_step HE.out HOK.out h
      clear he hsm q8 q9 hxr HE
      unfold evV at HV HF
      generalize e.lines = T at *
      generalize textH (l.take k) = T0 at *
      generalize e.rows.length = n1 at *
      generalize e.wts.length = m1 at *
      generalize e.kd = kd at *
      generalize e.ss = ss at *
      generalize e.tx = tx at *
      generalize e.st = st at *
      generalize e.er = er at *
      generalize e.ct = ct at *
      have HB2 := hid (Blk.of_new wr 36 [.int .i64 kd, .int .i64 ss, .int .i64 tx, .int .i64 st, .int .i64 er, .int .i64 ct, .slice A1 n1 c1, .slice B1 m1 d1])
      have HX2 := hid ((Ext.refl wr).alloc (.cells #[.int .i64 kd, .int .i64 ss, .int .i64 tx, .int .i64 st, .int .i64 er, .int .i64 ct, .slice A1 n1 c1, .slice B1 m1 d1] 36))
      cases hv : e.ok
      · rw [hv] at HV HFN
        have HR : Hid (fmtH l = (⟨#[]⟩, 1)) := by
          unfold Hid fmtH okH
          rw [HFN.out rfl]
          rfl
        clear HFN HST hv HF
        go_wp2_with (go_at_call 27; (with_reducible refine (HV.out _ HX2.out).mono ?_); rintro _ w3 ⟨rfl, hx3⟩)
        go_ret2
        exact ⟨ret_two (by rw [HR.out]; rfl) (by rw [HR.out]; rfl), HXr.out.trans (HX2.out.trans hx3)⟩
      · rw [hv] at HV HST
        have HA := hid (HST.out rfl)
        have HF2 := hid (fun W hW => HF.out W hW hv)
        clear HFN HST hv HF
        go_wp2_with (first
          | (go_at_call 28; have HWr := hid (write_any b b T0 T w4 (HBr.out.ext ((HX2.out.trans hx3).trans hx4)) (by have h1 := HTs.out; have h2 := HLs.out; omega) (HBW.out _ (HXr.out.trans ((HX2.out.trans hx3).trans hx4)))); (with_reducible refine HWr.out.mono ?_); rintro _ w5 ⟨rfl, hb5, hx5, hk5⟩)
          | (go_at_call 29; (with_reducible refine (HF2.out _ (HX2.out.trans hx3)).mono ?_); rintro _ w4 ⟨rfl, hx4⟩)
          | (go_at_call 27; (with_reducible refine (HV.out _ HX2.out).mono ?_); rintro _ w3 ⟨rfl, hx3⟩; obtain ⟨p0, p1, p2, p3, p4, p5, p6, p7⟩ := blk8 (HB2.out.ext hx3)))
        go_roundw
        case rel =>
          refine ⟨k + 1, by omega, by go_num, HA.out, ?_, HXB.out _ _ (HXr.out.trans ((HX2.out.trans hx3).trans hx4)) hx5⟩
          rw [HTk.out]
          exact hb5
        case measure => simp [intOf]; omega
    · obtain rfl : k = n := by omega
      have HR : Hid (fmtH l = (textH l, 0)) := by
        unfold Hid fmtH okH
        rw [all_end HN.out HOK.out]
        rfl
      rw [List.take_of_length_le (Nat.le_of_eq HN.out)] at HBr
      go_wp2_with (go_at_call 30; have HWr := hid (bstring_any b b _ _ HBr.out (HBW.out _ HXr.out)); (with_reducible refine HWr.out.mono ?_); rintro _ w6 ⟨rfl, hx6⟩)
      go_ret2
      exact ⟨ret_two (by rw [HR.out]; rfl) (by rw [HR.out]; rfl), HXB.out _ _ HXr.out hx6⟩
theorem Text_any (A : Option Addr) (l : List Ev) (n c : Nat) (w : World) (hl : EvsAt w A l) (hn : l.length = n) (hm : n ≤ 4000) (hs : ∀ e ∈ l, Ev.sm e) (hT : Tab w) :
    Calls Tryz.prog 14 #[.slice A n c] w fun r w' => r = .returned (.tuple #[.string (fmtH l).1, .int .i64 (fmtH l).2]) ∧ Ext w w' := by
  have HL := hid hl
  have HN := hid hn
  have HS := hid hs
  have HT := hid hT
  clear hl hn hs hT
  go_enter Tryz.func14, Tryz.ntmps14
  go_wp2_with fail
  go_loopw [4, 5] (fun s iv wr => ∃ k : Nat, k ≤ n ∧ iv = .int .i64 k ∧ (l.take k).all Ev.ok = true ∧ s = .string (textH (l.take k)) ∧ Ext w wr) (fun _ i _ => n - (intOf i).toNat)
  case atStart => exact ⟨0, Nat.zero_le _, rfl, rfl, by rw [List.take_zero]; rfl, Ext.refl w⟩
  case round =>
    obtain ⟨k, hk, rfl, hok, rfl, hxr⟩ := hrel
    have HOK := hid hok
    have HXr := hid hxr
    clear hok
    by_cases hlt : k < n
    · obtain ⟨e, he⟩ := rat_lt HN.out hlt
      obtain ⟨bq, off, vr, vw, rfl, q0, q1, q2, q3, q4, q5, q6, q7, q8, q9⟩ := (HL.out.ext hxr) k e he
      have hsm := HS.out e (List.mem_of_getElem? he)
      have HV := hid (fun W (hW : Ext wr W) => rvalidE_any e vr vw W (q8.ext hW) (q9.ext hW) (sm_fit hsm) (sm_sz4 hsm))
      have HF := hid (fun W (hW : Ext wr W) => rlines_any e vr vw W (q8.ext hW) (q9.ext hW) hsm (HT.out.ext (HXr.out.trans hW)))
      obtain ⟨A1, c1, rfl, _⟩ := id q8
      obtain ⟨B1, d1, rfl, _⟩ := id q9
      have HE := hid he
      have HTk := hid (textH_take he)
      have hls := lines_sz hsm
      have hts : (textH (l.take k)).size ≤ 6000000000000 := by
        have h1 := textH_sz (l := l.take k) fun x hx => HS.out x (List.mem_of_mem_take hx)
        have h2 : (l.take k).length ≤ k := List.length_take_le _ _
        have h3 : 1344800300 * (l.take k).length ≤ 1344800300 * 4000 := Nat.mul_le_mul (Nat.le_refl _) (by omega)
        omega
      have HFN : Hid (e.ok = false → l.all Ev.ok = false) := fun h => all_no HE.out h
      have HST : Hid (e.ok = true → (l.take (k + 1)).all Ev.ok = true) := fun h => all_step HE.out HOK.out h
      clear he hsm q8 q9 hxr HE
      unfold evV at HV HF
      generalize e.lines = T at *
      generalize textH (l.take k) = T0 at *
      generalize e.rows.length = n1 at *
      generalize e.wts.length = m1 at *
      generalize e.kd = kd at *
      generalize e.ss = ss at *
      generalize e.tx = tx at *
      generalize e.st = st at *
      generalize e.er = er at *
      generalize e.ct = ct at *
      cases hv : e.ok
      · rw [hv] at HV HFN
        have HR : Hid (fmtH l = (⟨#[]⟩, 1)) := by
          unfold Hid fmtH okH
          rw [HFN.out rfl]
          rfl
        clear HFN HST hv HF
        go_wp2_with (go_at_call 31; (with_reducible refine (HV.out _ (Ext.refl _)).mono ?_); rintro _ w3 ⟨rfl, hx3⟩)
        go_ret2
        exact ⟨ret_two (by rw [HR.out]; rfl) (by rw [HR.out]; rfl), HXr.out.trans hx3⟩
      · rw [hv] at HV HST
        have HA := hid (HST.out rfl)
        clear HFN HST hv
        go_wp2_with (first
          | (go_at_call 32; (with_reducible refine (HF.out _ hx3).mono ?_); rintro _ w4 ⟨rfl, hx4⟩)
          | (go_at_call 31; (with_reducible refine (HV.out _ (Ext.refl _)).mono ?_); rintro _ w3 ⟨rfl, hx3⟩; replace q0 := hx3.keep q0; replace q1 := hx3.keep q1; replace q2 := hx3.keep q2; replace q3 := hx3.keep q3; replace q4 := hx3.keep q4; replace q5 := hx3.keep q5; replace q6 := hx3.keep q6; replace q7 := hx3.keep q7))
        go_roundw
        case rel =>
          refine ⟨k + 1, by omega, by go_num, HA.out, ?_, (HXr.out.trans hx3).trans hx4⟩
          rw [HTk.out]
        case measure => simp [intOf]; omega
    · obtain rfl : k = n := by omega
      have HR : Hid (fmtH l = (textH l, 0)) := by
        unfold Hid fmtH okH
        rw [all_end HN.out HOK.out]
        rfl
      rw [List.take_of_length_le (Nat.le_of_eq HN.out)]
      go_wp2_with fail
      go_ret2
      exact ⟨ret_two (by rw [HR.out]; rfl) (by rw [HR.out]; rfl), HXr.out⟩
end Go.Proofs.YtdjdhkbomhendaaGreatDoor
