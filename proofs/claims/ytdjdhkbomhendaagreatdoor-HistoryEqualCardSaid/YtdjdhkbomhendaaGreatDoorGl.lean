/-
  Walks over history: the reference's valid. · Walks over history: the reference's valid, errors. · Walks over history: the reference's valid, waits and rows. · Walks over history: the reference's valid, the other kinds. · Walks over history: the reference's valid, joined.
-/
import Derived.Test.YtdjdhkbomhendaaGreatDoorGk
namespace Go.Proofs.YtdjdhkbomhendaaGreatDoor
open Go.RowKit
set_option linter.unusedVariables false
set_option linter.unusedSimpArgs false
set_option maxHeartbeats 4000000
set_option maxRecDepth 100000

theorem all_no {α : Type} {l : List α} {k : Nat} {e : α} {p : α → Bool} (h : l[k]? = some e) (hp : p e = false) : l.all p = false := by
  rw [Bool.eq_false_iff]
  intro hall
  rw [List.all_eq_true] at hall
  have := hall e (List.mem_of_getElem? h)
  rw [hp] at this
  cases this
theorem all_step {α : Type} {l : List α} {k : Nat} {e : α} {p : α → Bool} (h : l[k]? = some e) (h0 : (l.take k).all p = true) (hp : p e = true) : (l.take (k + 1)).all p = true := by
  rw [take_step h, List.all_append, h0]
  simp [hp]
theorem all_end {α : Type} {l : List α} {n : Nat} {p : α → Bool} (hl : l.length = n) (h0 : (l.take n).all p = true) : l.all p = true := by
  rwa [List.take_of_length_le (by omega)] at h0
theorem okF_w (kd ss tx st er ct : Int) (n m : Nat) (R : Bool) : okF kd ss tx st er ct n m false R = false := by simp [okF]
theorem okF_r (kd ss tx st er ct : Int) (n m : Nat) (W : Bool) : okF kd ss tx st er ct n m W false = false := by simp [okF]
theorem kw_ne {k : Int} (h0 : 1 ≤ k) (h1 : k ≤ 13) : (kwB k).toList.isEmpty = false := by
  rw [ByteArray.toList_eq]
  have : k = 1 ∨ k = 2 ∨ k = 3 ∨ k = 4 ∨ k = 5 ∨ k = 6 ∨ k = 7 ∨ k = 8 ∨ k = 9 ∨ k = 10 ∨ k = 11 ∨ k = 12 ∨ k = 13 := by omega
  rcases this with rfl | rfl | rfl | rfl | rfl | rfl | rfl | rfl | rfl | rfl | rfl | rfl | rfl <;> rfl
end Go.Proofs.YtdjdhkbomhendaaGreatDoor
namespace Go.Proofs.YtdjdhkbomhendaaGreatDoor
open Go.RowKit
set_option linter.unusedVariables false
set_option linter.unusedSimpArgs false
set_option maxHeartbeats 4000000
set_option maxRecDepth 100000

theorem rvalid_7_no (ss tx st er ct : Int) (A1 B1 : Option Addr) (n m c1 d1 : Nat) (w : World)  (hno : okF 7 ss tx st er ct n m true true = false) :
    Calls Tryz.prog 31 #[.agg #[.int .i64 7, .int .i64 ss, .int .i64 tx, .int .i64 st, .int .i64 er, .int .i64 ct, .slice A1 n c1, .slice B1 m d1]] w fun r w' => r = .returned (.bool false) ∧ Ext w w' := by
  have HNO := hid hno
  clear hno
  have HN : Hid (∀ W, Calls Tryz.prog 65 #[.int .i64 7] W fun e w' => e = .returned (.string ⟨#[101, 114, 114, 111, 114]⟩) ∧ Ext W w') := fun W => name_any 7 W
  have HB := hid (Blk.of_new w 36 [.int .i64 7, .int .i64 ss, .int .i64 tx, .int .i64 st, .int .i64 er, .int .i64 ct, .slice A1 n c1, .slice B1 m d1])
  have HX := hid ((Ext.refl w).alloc (.cells #[.int .i64 7, .int .i64 ss, .int .i64 tx, .int .i64 st, .int .i64 er, .int .i64 ct, .slice A1 n c1, .slice B1 m d1] 36))
  go_enter Tryz.func31, Tryz.ntmps31
  go_upto_region 1 with fail
  generalize w.alloc (.cells #[.int .i64 7, .int .i64 ss, .int .i64 tx, .int .i64 st, .int .i64 er, .int .i64 ct, .slice A1 n c1, .slice B1 m d1] 36) = W0 at *
  generalize w.heap.size = g at *
  have z0 := HB.out.cell 0
  simp only [List.getElem?_cons_succ, List.getElem?_cons_zero] at z0
  go_wp2_with (go_at_call 65; refine (HN.out _).mono ?_; rintro _ W1 ⟨rfl, hx1⟩; have HB1 := hid (HB.out.ext hx1); have HX1 := hid (HX.out.trans hx1); clear hx1 HB HX HN z0; have p0 := HB1.out.cell 0; have p1 := HB1.out.cell 1; have p2 := HB1.out.cell 2; have p3 := HB1.out.cell 3; have p4 := HB1.out.cell 4; have p5 := HB1.out.cell 5; have p6 := HB1.out.cell 6; have p7 := HB1.out.cell 7; simp only [List.getElem?_cons_succ, List.getElem?_cons_zero] at p0 p1 p2 p3 p4 p5 p6 p7)
  all_goals first
    | (go_ret; exact ⟨rfl, HX1.out⟩)
    | (exfalso; have hno := HNO.out; first | (simp [okF, *] at hno <;> omega) | (simp [okF, *] at hno <;> grind) | (simp_all [okF] <;> omega) | (unfold okF at hno; grind))
theorem rvalid_7_ok (ss tx st er : Int) (A1 B1 : Option Addr) ( c1 d1 : Nat) (rows : List (List Val)) (wts : List Wt) (w : World)  (a1 : 0 ≤ ss) (a2 : ss < 8) (a3 : 1 ≤ tx) (a4 : 0 ≤ st) (a5 : 1 ≤ er) (a6 : er ≤ 17)
    (hl1 : rows.length = 0) (hl2 : wts.length = 0) (hr : RowsAt w A1 rows) (hw : WtsAt w B1 wts) (hn : rows.length ≤ 9223372036854775807) (hm : wts.length ≤ 9223372036854775807)
    (hs1 : ∀ r ∈ rows, r.length ≤ 4000000 ∧ ∀ a ∈ r, a.t.size ≤ 4000000) (hs2 : ∀ x ∈ wts, x.row.length ≤ 4000000 ∧ ∀ a ∈ x.row, a.t.size ≤ 4000000) :
    Calls Tryz.prog 31 #[.agg #[.int .i64 7, .int .i64 ss, .int .i64 tx, .int .i64 st, .int .i64 er, .int .i64 0, .slice A1 0 c1, .slice B1 0 d1]] w fun r w' => r = .returned (.bool (okF 7 ss tx st er 0 0 0 (wts.all Wt.ok) (rows.all rowV))) ∧ Ext w w' := by
  rw [hl1] at hn
  rw [hl2] at hm
  have HOK : Hid (okF 7 ss tx st er 0 0 0 true true = true) := by unfold Hid; simp [okF, *]
  have HL1 := hid hl1
  have HL2 := hid hl2
  have HR := hid hr
  have HW := hid hw
  have HS1 := hid hs1
  have HS2 := hid hs2
  have d1' : ¬ ss < 0 := by omega
  have d2' : ¬ 7 < ss := by omega
  have d3' : ¬ tx < 1 := by omega
  have d5' : ¬ er < 1 := by omega
  have d6' : ¬ 17 < er := by omega
  have d4' : ¬ st < 0 := by omega
  clear hl1 hl2 hr hw hs1 hs2
  have HN : Hid (∀ W, Calls Tryz.prog 65 #[.int .i64 7] W fun e w' => e = .returned (.string ⟨#[101, 114, 114, 111, 114]⟩) ∧ Ext W w') := fun W => name_any 7 W
  have HB := hid (Blk.of_new w 36 [.int .i64 7, .int .i64 ss, .int .i64 tx, .int .i64 st, .int .i64 er, .int .i64 0, .slice A1 0 c1, .slice B1 0 d1])
  have HX := hid ((Ext.refl w).alloc (.cells #[.int .i64 7, .int .i64 ss, .int .i64 tx, .int .i64 st, .int .i64 er, .int .i64 0, .slice A1 0 c1, .slice B1 0 d1] 36))
  go_enter Tryz.func31, Tryz.ntmps31
  go_upto_region 1 with fail
  generalize w.alloc (.cells #[.int .i64 7, .int .i64 ss, .int .i64 tx, .int .i64 st, .int .i64 er, .int .i64 0, .slice A1 0 c1, .slice B1 0 d1] 36) = W0 at *
  generalize w.heap.size = g at *
  have z0 := HB.out.cell 0
  simp only [List.getElem?_cons_succ, List.getElem?_cons_zero] at z0
  go_wp2_with (go_at_call 65; refine (HN.out _).mono ?_; rintro _ W1 ⟨rfl, hx1⟩; have HB1 := hid (HB.out.ext hx1); have HX1 := hid (HX.out.trans hx1); clear hx1 HB HX HN z0; have p0 := HB1.out.cell 0; have p1 := HB1.out.cell 1; have p2 := HB1.out.cell 2; have p3 := HB1.out.cell 3; have p4 := HB1.out.cell 4; have p5 := HB1.out.cell 5; have p6 := HB1.out.cell 6; have p7 := HB1.out.cell 7; simp only [List.getElem?_cons_succ, List.getElem?_cons_zero] at p0 p1 p2 p3 p4 p5 p6 p7)
  go_loopw [4] (fun iv wr => iv = .int .i64 0 ∧ Ext W1 wr) (fun i _ => 0)
  case atStart => exact ⟨rfl, Ext.refl W1⟩
  case round =>
    obtain ⟨rfl, hxr⟩ := hrel
    have HBr := hid (HB1.out.ext hxr)
    have r7 := HBr.out.cell 7
    have r6 := HBr.out.cell 6
    simp only [List.getElem?_cons_succ, List.getElem?_cons_zero] at r7 r6
    have HX2 : Hid (Ext w wr) := HX1.out.trans hxr
    have HALW : Hid (wts.all Wt.ok = true) := by unfold Hid; rw [show wts = [] from List.eq_nil_of_length_eq_zero HL2.out]; rfl
    go_wp2_with fail
    generalize wr = W2 at *
    go_loopw [6] (fun iv wr => iv = .int .i64 0 ∧ Ext W2 wr) (fun i _ => 0)
    case atStart => exact ⟨rfl, Ext.refl W2⟩
    case round =>
      obtain ⟨rfl, hxq⟩ := hrel
      have HBq := hid (HBr.out.ext hxq)
      have s6 := HBq.out.cell 6
      simp only [List.getElem?_cons_succ, List.getElem?_cons_zero] at s6
      have HALR : Hid (rows.all rowV = true) := by unfold Hid; rw [show rows = [] from List.eq_nil_of_length_eq_zero HL1.out]; rfl
      have HXq := hid (HX2.out.trans hxq)
      go_wp2_with fail
      go_ret
      exact ⟨ret_bool (by rw [HALW.out, HALR.out]; exact HOK.out.symm), HXq.out⟩
theorem rvalid_10_no (ss tx st er ct : Int) (A1 B1 : Option Addr) (n m c1 d1 : Nat) (w : World)  (hno : okF 10 ss tx st er ct n m true true = false) :
    Calls Tryz.prog 31 #[.agg #[.int .i64 10, .int .i64 ss, .int .i64 tx, .int .i64 st, .int .i64 er, .int .i64 ct, .slice A1 n c1, .slice B1 m d1]] w fun r w' => r = .returned (.bool false) ∧ Ext w w' := by
  have HNO := hid hno
  clear hno
  have HN : Hid (∀ W, Calls Tryz.prog 65 #[.int .i64 10] W fun e w' => e = .returned (.string ⟨#[97, 98, 111, 114, 116]⟩) ∧ Ext W w') := fun W => name_any 10 W
  have HB := hid (Blk.of_new w 36 [.int .i64 10, .int .i64 ss, .int .i64 tx, .int .i64 st, .int .i64 er, .int .i64 ct, .slice A1 n c1, .slice B1 m d1])
  have HX := hid ((Ext.refl w).alloc (.cells #[.int .i64 10, .int .i64 ss, .int .i64 tx, .int .i64 st, .int .i64 er, .int .i64 ct, .slice A1 n c1, .slice B1 m d1] 36))
  go_enter Tryz.func31, Tryz.ntmps31
  go_upto_region 1 with fail
  generalize w.alloc (.cells #[.int .i64 10, .int .i64 ss, .int .i64 tx, .int .i64 st, .int .i64 er, .int .i64 ct, .slice A1 n c1, .slice B1 m d1] 36) = W0 at *
  generalize w.heap.size = g at *
  have z0 := HB.out.cell 0
  simp only [List.getElem?_cons_succ, List.getElem?_cons_zero] at z0
  go_wp2_with (go_at_call 65; refine (HN.out _).mono ?_; rintro _ W1 ⟨rfl, hx1⟩; have HB1 := hid (HB.out.ext hx1); have HX1 := hid (HX.out.trans hx1); clear hx1 HB HX HN z0; have p0 := HB1.out.cell 0; have p1 := HB1.out.cell 1; have p2 := HB1.out.cell 2; have p3 := HB1.out.cell 3; have p4 := HB1.out.cell 4; have p5 := HB1.out.cell 5; have p6 := HB1.out.cell 6; have p7 := HB1.out.cell 7; simp only [List.getElem?_cons_succ, List.getElem?_cons_zero] at p0 p1 p2 p3 p4 p5 p6 p7)
  all_goals first
    | (go_ret; exact ⟨rfl, HX1.out⟩)
    | (exfalso; have hno := HNO.out; first | (simp [okF, *] at hno <;> omega) | (simp [okF, *] at hno <;> grind) | (simp_all [okF] <;> omega) | (unfold okF at hno; grind))
theorem rvalid_10_ok (ss tx st er : Int) (A1 B1 : Option Addr) ( c1 d1 : Nat) (rows : List (List Val)) (wts : List Wt) (w : World)  (a1 : 0 ≤ ss) (a2 : ss < 8) (a3 : 1 ≤ tx) (a4 : 0 ≤ st) (a5 : 1 ≤ er) (a6 : er ≤ 17)
    (hl1 : rows.length = 0) (hl2 : wts.length = 0) (hr : RowsAt w A1 rows) (hw : WtsAt w B1 wts) (hn : rows.length ≤ 9223372036854775807) (hm : wts.length ≤ 9223372036854775807)
    (hs1 : ∀ r ∈ rows, r.length ≤ 4000000 ∧ ∀ a ∈ r, a.t.size ≤ 4000000) (hs2 : ∀ x ∈ wts, x.row.length ≤ 4000000 ∧ ∀ a ∈ x.row, a.t.size ≤ 4000000) :
    Calls Tryz.prog 31 #[.agg #[.int .i64 10, .int .i64 ss, .int .i64 tx, .int .i64 st, .int .i64 er, .int .i64 0, .slice A1 0 c1, .slice B1 0 d1]] w fun r w' => r = .returned (.bool (okF 10 ss tx st er 0 0 0 (wts.all Wt.ok) (rows.all rowV))) ∧ Ext w w' := by
  rw [hl1] at hn
  rw [hl2] at hm
  have HOK : Hid (okF 10 ss tx st er 0 0 0 true true = true) := by unfold Hid; simp [okF, *]
  have HL1 := hid hl1
  have HL2 := hid hl2
  have HR := hid hr
  have HW := hid hw
  have HS1 := hid hs1
  have HS2 := hid hs2
  have d1' : ¬ ss < 0 := by omega
  have d2' : ¬ 7 < ss := by omega
  have d3' : ¬ tx < 1 := by omega
  have d5' : ¬ er < 1 := by omega
  have d6' : ¬ 17 < er := by omega
  have d4' : ¬ st < 0 := by omega
  clear hl1 hl2 hr hw hs1 hs2
  have HN : Hid (∀ W, Calls Tryz.prog 65 #[.int .i64 10] W fun e w' => e = .returned (.string ⟨#[97, 98, 111, 114, 116]⟩) ∧ Ext W w') := fun W => name_any 10 W
  have HB := hid (Blk.of_new w 36 [.int .i64 10, .int .i64 ss, .int .i64 tx, .int .i64 st, .int .i64 er, .int .i64 0, .slice A1 0 c1, .slice B1 0 d1])
  have HX := hid ((Ext.refl w).alloc (.cells #[.int .i64 10, .int .i64 ss, .int .i64 tx, .int .i64 st, .int .i64 er, .int .i64 0, .slice A1 0 c1, .slice B1 0 d1] 36))
  go_enter Tryz.func31, Tryz.ntmps31
  go_upto_region 1 with fail
  generalize w.alloc (.cells #[.int .i64 10, .int .i64 ss, .int .i64 tx, .int .i64 st, .int .i64 er, .int .i64 0, .slice A1 0 c1, .slice B1 0 d1] 36) = W0 at *
  generalize w.heap.size = g at *
  have z0 := HB.out.cell 0
  simp only [List.getElem?_cons_succ, List.getElem?_cons_zero] at z0
  go_wp2_with (go_at_call 65; refine (HN.out _).mono ?_; rintro _ W1 ⟨rfl, hx1⟩; have HB1 := hid (HB.out.ext hx1); have HX1 := hid (HX.out.trans hx1); clear hx1 HB HX HN z0; have p0 := HB1.out.cell 0; have p1 := HB1.out.cell 1; have p2 := HB1.out.cell 2; have p3 := HB1.out.cell 3; have p4 := HB1.out.cell 4; have p5 := HB1.out.cell 5; have p6 := HB1.out.cell 6; have p7 := HB1.out.cell 7; simp only [List.getElem?_cons_succ, List.getElem?_cons_zero] at p0 p1 p2 p3 p4 p5 p6 p7)
  go_loopw [4] (fun iv wr => iv = .int .i64 0 ∧ Ext W1 wr) (fun i _ => 0)
  case atStart => exact ⟨rfl, Ext.refl W1⟩
  case round =>
    obtain ⟨rfl, hxr⟩ := hrel
    have HBr := hid (HB1.out.ext hxr)
    have r7 := HBr.out.cell 7
    have r6 := HBr.out.cell 6
    simp only [List.getElem?_cons_succ, List.getElem?_cons_zero] at r7 r6
    have HX2 : Hid (Ext w wr) := HX1.out.trans hxr
    have HALW : Hid (wts.all Wt.ok = true) := by unfold Hid; rw [show wts = [] from List.eq_nil_of_length_eq_zero HL2.out]; rfl
    go_wp2_with fail
    generalize wr = W2 at *
    go_loopw [6] (fun iv wr => iv = .int .i64 0 ∧ Ext W2 wr) (fun i _ => 0)
    case atStart => exact ⟨rfl, Ext.refl W2⟩
    case round =>
      obtain ⟨rfl, hxq⟩ := hrel
      have HBq := hid (HBr.out.ext hxq)
      have s6 := HBq.out.cell 6
      simp only [List.getElem?_cons_succ, List.getElem?_cons_zero] at s6
      have HALR : Hid (rows.all rowV = true) := by unfold Hid; rw [show rows = [] from List.eq_nil_of_length_eq_zero HL1.out]; rfl
      have HXq := hid (HX2.out.trans hxq)
      go_wp2_with fail
      go_ret
      exact ⟨ret_bool (by rw [HALW.out, HALR.out]; exact HOK.out.symm), HXq.out⟩
end Go.Proofs.YtdjdhkbomhendaaGreatDoor
namespace Go.Proofs.YtdjdhkbomhendaaGreatDoor
open Go.RowKit
set_option linter.unusedVariables false
set_option linter.unusedSimpArgs false
set_option maxHeartbeats 4000000
set_option maxRecDepth 100000

theorem rvalid_2_no (ss tx st er ct : Int) (A1 B1 : Option Addr) (n m c1 d1 : Nat) (w : World)  (hno : okF 2 ss tx st er ct n m true true = false) :
    Calls Tryz.prog 31 #[.agg #[.int .i64 2, .int .i64 ss, .int .i64 tx, .int .i64 st, .int .i64 er, .int .i64 ct, .slice A1 n c1, .slice B1 m d1]] w fun r w' => r = .returned (.bool false) ∧ Ext w w' := by
  have HNO := hid hno
  clear hno
  have HN : Hid (∀ W, Calls Tryz.prog 65 #[.int .i64 2] W fun e w' => e = .returned (.string ⟨#[119, 97, 105, 116]⟩) ∧ Ext W w') := fun W => name_any 2 W
  have HB := hid (Blk.of_new w 36 [.int .i64 2, .int .i64 ss, .int .i64 tx, .int .i64 st, .int .i64 er, .int .i64 ct, .slice A1 n c1, .slice B1 m d1])
  have HX := hid ((Ext.refl w).alloc (.cells #[.int .i64 2, .int .i64 ss, .int .i64 tx, .int .i64 st, .int .i64 er, .int .i64 ct, .slice A1 n c1, .slice B1 m d1] 36))
  go_enter Tryz.func31, Tryz.ntmps31
  go_upto_region 1 with fail
  generalize w.alloc (.cells #[.int .i64 2, .int .i64 ss, .int .i64 tx, .int .i64 st, .int .i64 er, .int .i64 ct, .slice A1 n c1, .slice B1 m d1] 36) = W0 at *
  generalize w.heap.size = g at *
  have z0 := HB.out.cell 0
  simp only [List.getElem?_cons_succ, List.getElem?_cons_zero] at z0
  go_wp2_with (go_at_call 65; refine (HN.out _).mono ?_; rintro _ W1 ⟨rfl, hx1⟩; have HB1 := hid (HB.out.ext hx1); have HX1 := hid (HX.out.trans hx1); clear hx1 HB HX HN z0; have p0 := HB1.out.cell 0; have p1 := HB1.out.cell 1; have p2 := HB1.out.cell 2; have p3 := HB1.out.cell 3; have p4 := HB1.out.cell 4; have p5 := HB1.out.cell 5; have p6 := HB1.out.cell 6; have p7 := HB1.out.cell 7; simp only [List.getElem?_cons_succ, List.getElem?_cons_zero] at p0 p1 p2 p3 p4 p5 p6 p7)
  all_goals first
    | (go_ret; exact ⟨rfl, HX1.out⟩)
    | (exfalso; have hno := HNO.out; first | (simp [okF, *] at hno <;> omega) | (simp [okF, *] at hno <;> grind) | (simp_all [okF] <;> omega) | (unfold okF at hno; grind))
theorem rvalid_2_ok (ss tx st  : Int) (A1 B1 : Option Addr) (m c1 d1 : Nat) (rows : List (List Val)) (wts : List Wt) (w : World)  (a1 : 0 ≤ ss) (a2 : ss < 8) (a3 : 1 ≤ tx) (a4 : 0 ≤ st) (a5 : 0 < m)
    (hl1 : rows.length = 0) (hl2 : wts.length = m) (hr : RowsAt w A1 rows) (hw : WtsAt w B1 wts) (hn : rows.length ≤ 9223372036854775807) (hm : wts.length ≤ 9223372036854775807)
    (hs1 : ∀ r ∈ rows, r.length ≤ 4000000 ∧ ∀ a ∈ r, a.t.size ≤ 4000000) (hs2 : ∀ x ∈ wts, x.row.length ≤ 4000000 ∧ ∀ a ∈ x.row, a.t.size ≤ 4000000) :
    Calls Tryz.prog 31 #[.agg #[.int .i64 2, .int .i64 ss, .int .i64 tx, .int .i64 st, .int .i64 0, .int .i64 0, .slice A1 0 c1, .slice B1 m d1]] w fun r w' => r = .returned (.bool (okF 2 ss tx st 0 0 0 m (wts.all Wt.ok) (rows.all rowV))) ∧ Ext w w' := by
  rw [hl1] at hn
  rw [hl2] at hm
  have HOK : Hid (okF 2 ss tx st 0 0 0 m true true = true) := by unfold Hid; simp [okF, *]
  have HL1 := hid hl1
  have HL2 := hid hl2
  have HR := hid hr
  have HW := hid hw
  have HS1 := hid hs1
  have HS2 := hid hs2
  have d1' : ¬ ss < 0 := by omega
  have d2' : ¬ 7 < ss := by omega
  have d3' : ¬ tx < 1 := by omega
  have d5' : ((m : Int) == 0) = false := by simp; omega
  have d4' : ¬ st < 0 := by omega
  clear hl1 hl2 hr hw hs1 hs2
  have HN : Hid (∀ W, Calls Tryz.prog 65 #[.int .i64 2] W fun e w' => e = .returned (.string ⟨#[119, 97, 105, 116]⟩) ∧ Ext W w') := fun W => name_any 2 W
  have HB := hid (Blk.of_new w 36 [.int .i64 2, .int .i64 ss, .int .i64 tx, .int .i64 st, .int .i64 0, .int .i64 0, .slice A1 0 c1, .slice B1 m d1])
  have HX := hid ((Ext.refl w).alloc (.cells #[.int .i64 2, .int .i64 ss, .int .i64 tx, .int .i64 st, .int .i64 0, .int .i64 0, .slice A1 0 c1, .slice B1 m d1] 36))
  go_enter Tryz.func31, Tryz.ntmps31
  go_upto_region 1 with fail
  generalize w.alloc (.cells #[.int .i64 2, .int .i64 ss, .int .i64 tx, .int .i64 st, .int .i64 0, .int .i64 0, .slice A1 0 c1, .slice B1 m d1] 36) = W0 at *
  generalize w.heap.size = g at *
  have z0 := HB.out.cell 0
  simp only [List.getElem?_cons_succ, List.getElem?_cons_zero] at z0
  go_wp2_with (go_at_call 65; refine (HN.out _).mono ?_; rintro _ W1 ⟨rfl, hx1⟩; have HB1 := hid (HB.out.ext hx1); have HX1 := hid (HX.out.trans hx1); clear hx1 HB HX HN z0; have p0 := HB1.out.cell 0; have p1 := HB1.out.cell 1; have p2 := HB1.out.cell 2; have p3 := HB1.out.cell 3; have p4 := HB1.out.cell 4; have p5 := HB1.out.cell 5; have p6 := HB1.out.cell 6; have p7 := HB1.out.cell 7; simp only [List.getElem?_cons_succ, List.getElem?_cons_zero] at p0 p1 p2 p3 p4 p5 p6 p7)
  go_loopw [4] (fun iv wr => ∃ (k : Nat), k ≤ m ∧ iv = .int .i64 k ∧ (wts.take k).all Wt.ok = true ∧ Ext W1 wr) (fun i _ => m - (intOf i).toNat)
  case atStart => exact ⟨0, Nat.zero_le _, rfl, rfl, Ext.refl W1⟩
  case round =>
    obtain ⟨k, hkn, rfl, hr, hxr⟩ := hrel
    have HXr := hid hxr
    have HRr := hid hr
    have HBr := hid (HB1.out.ext hxr)
    have r7 := HBr.out.cell 7
    have r6 := HBr.out.cell 6
    simp only [List.getElem?_cons_succ, List.getElem?_cons_zero] at r7 r6
    by_cases hlt : k < m
    · obtain ⟨x, hx⟩ := rat_lt HL2.out hlt
      obtain ⟨b, off, v, rfl, q0, q1, q2, q3⟩ := (HW.out.ext (HX1.out.trans hxr)) k x hx
      obtain ⟨Ax, cx, hvx, hvv⟩ := id q3
      subst hvx
      have hsm := HS2.out x (List.mem_of_getElem? hx)
      have HC := hid (fun W (hW : Ext wr W) => rrow_any Ax x.row x.row.length cx W (hvv.ext hW) rfl hsm.1 hsm.2)
      have HE := hid hx
      have HO : Hid (x.ok = (decide (1 ≤ x.tx) && decide (0 ≤ x.tb) && decide (x.tb < 8) && decide (0 < x.row.length) && rowV x.row)) := rfl
      have HBD : Hid (x.row.length ≤ 4000000) := hsm.1
      clear hx hxr hr hvv q3 hsm
      have fin : x.ok = false → wts.all Wt.ok = false := fun h => all_no HE.out h
      have HFN := hid fin
      have stp : x.ok = true → (wts.take (k + 1)).all Wt.ok = true := fun h => all_step HE.out HRr.out h
      have HST := hid stp
      clear fin stp
      rw [HO.out] at HFN HST
      clear HO HE
      generalize x.row.length = nr at *
      generalize rowV x.row = V at *
      generalize x.tx = tx at *
      generalize x.tb = tb at *
      by_cases h1 : tx < 1
      · have HA := hid (HFN.out (by rw [show decide (1 ≤ tx) = false from decide_eq_false (by omega)]; simp))
        clear HFN HST
        go_wp2_with fail
        go_ret
        exact ⟨ret_bool (by rw [HA.out]; exact (okF_w _ _ _ _ _ _ _ _ _).symm), HX1.out.trans (HXr.out.alloc _)⟩
      by_cases h2 : tb < 0
      · have HA := hid (HFN.out (by rw [show decide (0 ≤ tb) = false from decide_eq_false (by omega)]; simp))
        clear HFN HST
        go_wp2_with fail
        go_ret
        exact ⟨ret_bool (by rw [HA.out]; exact (okF_w _ _ _ _ _ _ _ _ _).symm), HX1.out.trans (HXr.out.alloc _)⟩
      by_cases h3 : 7 < tb
      · have HA := hid (HFN.out (by rw [show decide (tb < 8) = false from decide_eq_false (by omega)]; simp))
        clear HFN HST
        go_wp2_with fail
        go_ret
        exact ⟨ret_bool (by rw [HA.out]; exact (okF_w _ _ _ _ _ _ _ _ _).symm), HX1.out.trans (HXr.out.alloc _)⟩
      by_cases h4 : nr = 0
      · have HA := hid (HFN.out (by rw [show decide (0 < nr) = false from decide_eq_false (by omega)]; simp))
        have b4 : ((nr : Int) == 0) = true := by simp; exact h4
        clear HFN HST
        go_wp2_with fail
        go_ret
        exact ⟨ret_bool (by rw [HA.out]; exact (okF_w _ _ _ _ _ _ _ _ _).symm), HX1.out.trans (HXr.out.alloc _)⟩
      have b4 : ((nr : Int) == 0) = false := by simp; exact h4
      have E1 : decide (1 ≤ tx) = true := decide_eq_true (by omega)
      have E2 : decide (0 ≤ tb) = true := decide_eq_true (by omega)
      have E3 : decide (tb < 8) = true := decide_eq_true (by omega)
      have E4 : decide (0 < nr) = true := decide_eq_true (by omega)
      rw [E1, E2, E3, E4] at HFN HST
      clear E1 E2 E3 E4
      cases V
      · have HA := hid (HFN.out rfl)
        clear HFN HST
        go_wp2_with (go_at_call 66; refine (HC.out _ ((Ext.refl wr).alloc _)).mono ?_; rintro _ w3 ⟨rfl, hx3⟩)
        go_ret
        exact ⟨ret_bool (by rw [HA.out]; exact (okF_w _ _ _ _ _ _ _ _ _).symm), HX1.out.trans ((HXr.out.alloc _).trans hx3)⟩
      · have HA := hid (HST.out rfl)
        clear HFN HST
        go_wp2_with (go_at_call 66; refine (HC.out _ ((Ext.refl wr).alloc _)).mono ?_; rintro _ w3 ⟨rfl, hx3⟩)
        go_roundw
        case rel => exact ⟨k + 1, by omega, by go_num, HA.out, (HXr.out.alloc _).trans hx3⟩
        case measure => simp [intOf]; omega
    · obtain rfl : k = m := by omega
      have HALW : Hid (wts.all Wt.ok = true) := all_end HL2.out HRr.out
      clear hr
      have HX2 : Hid (Ext w wr) := HX1.out.trans hxr
      go_wp2_with fail
      generalize wr = W2 at *
      go_loopw [6] (fun iv wr => iv = .int .i64 0 ∧ Ext W2 wr) (fun i _ => 0)
      case atStart => exact ⟨rfl, Ext.refl W2⟩
      case round =>
        obtain ⟨rfl, hxq⟩ := hrel
        have HBq := hid (HBr.out.ext hxq)
        have s6 := HBq.out.cell 6
        simp only [List.getElem?_cons_succ, List.getElem?_cons_zero] at s6
        have HALR : Hid (rows.all rowV = true) := by unfold Hid; rw [show rows = [] from List.eq_nil_of_length_eq_zero HL1.out]; rfl
        have HXq := hid (HX2.out.trans hxq)
        go_wp2_with fail
        go_ret
        exact ⟨ret_bool (by rw [HALW.out, HALR.out]; exact HOK.out.symm), HXq.out⟩
theorem rvalid_4_no (ss tx st er ct : Int) (A1 B1 : Option Addr) (n m c1 d1 : Nat) (w : World)  (hno : okF 4 ss tx st er ct n m true true = false) :
    Calls Tryz.prog 31 #[.agg #[.int .i64 4, .int .i64 ss, .int .i64 tx, .int .i64 st, .int .i64 er, .int .i64 ct, .slice A1 n c1, .slice B1 m d1]] w fun r w' => r = .returned (.bool false) ∧ Ext w w' := by
  have HNO := hid hno
  clear hno
  have HN : Hid (∀ W, Calls Tryz.prog 65 #[.int .i64 4] W fun e w' => e = .returned (.string ⟨#[114, 111, 119, 115]⟩) ∧ Ext W w') := fun W => name_any 4 W
  have HB := hid (Blk.of_new w 36 [.int .i64 4, .int .i64 ss, .int .i64 tx, .int .i64 st, .int .i64 er, .int .i64 ct, .slice A1 n c1, .slice B1 m d1])
  have HX := hid ((Ext.refl w).alloc (.cells #[.int .i64 4, .int .i64 ss, .int .i64 tx, .int .i64 st, .int .i64 er, .int .i64 ct, .slice A1 n c1, .slice B1 m d1] 36))
  go_enter Tryz.func31, Tryz.ntmps31
  go_upto_region 1 with fail
  generalize w.alloc (.cells #[.int .i64 4, .int .i64 ss, .int .i64 tx, .int .i64 st, .int .i64 er, .int .i64 ct, .slice A1 n c1, .slice B1 m d1] 36) = W0 at *
  generalize w.heap.size = g at *
  have z0 := HB.out.cell 0
  simp only [List.getElem?_cons_succ, List.getElem?_cons_zero] at z0
  go_wp2_with (go_at_call 65; refine (HN.out _).mono ?_; rintro _ W1 ⟨rfl, hx1⟩; have HB1 := hid (HB.out.ext hx1); have HX1 := hid (HX.out.trans hx1); clear hx1 HB HX HN z0; have p0 := HB1.out.cell 0; have p1 := HB1.out.cell 1; have p2 := HB1.out.cell 2; have p3 := HB1.out.cell 3; have p4 := HB1.out.cell 4; have p5 := HB1.out.cell 5; have p6 := HB1.out.cell 6; have p7 := HB1.out.cell 7; simp only [List.getElem?_cons_succ, List.getElem?_cons_zero] at p0 p1 p2 p3 p4 p5 p6 p7)
  all_goals first
    | (go_ret; exact ⟨rfl, HX1.out⟩)
    | (exfalso; have hno := HNO.out; first | (simp [okF, *] at hno <;> omega) | (simp [okF, *] at hno <;> grind) | (simp_all [okF] <;> omega) | (unfold okF at hno; grind))
theorem rvalid_4_ok (ss tx st  : Int) (A1 B1 : Option Addr) (n c1 d1 : Nat) (rows : List (List Val)) (wts : List Wt) (w : World)  (a1 : 0 ≤ ss) (a2 : ss < 8) (a3 : 1 ≤ tx) (a4 : 0 ≤ st) 
    (hl1 : rows.length = n) (hl2 : wts.length = 0) (hr : RowsAt w A1 rows) (hw : WtsAt w B1 wts) (hn : rows.length ≤ 9223372036854775807) (hm : wts.length ≤ 9223372036854775807)
    (hs1 : ∀ r ∈ rows, r.length ≤ 4000000 ∧ ∀ a ∈ r, a.t.size ≤ 4000000) (hs2 : ∀ x ∈ wts, x.row.length ≤ 4000000 ∧ ∀ a ∈ x.row, a.t.size ≤ 4000000) :
    Calls Tryz.prog 31 #[.agg #[.int .i64 4, .int .i64 ss, .int .i64 tx, .int .i64 st, .int .i64 0, .int .i64 0, .slice A1 n c1, .slice B1 0 d1]] w fun r w' => r = .returned (.bool (okF 4 ss tx st 0 0 n 0 (wts.all Wt.ok) (rows.all rowV))) ∧ Ext w w' := by
  rw [hl1] at hn
  rw [hl2] at hm
  have HOK : Hid (okF 4 ss tx st 0 0 n 0 true true = true) := by unfold Hid; simp [okF, *]
  have HL1 := hid hl1
  have HL2 := hid hl2
  have HR := hid hr
  have HW := hid hw
  have HS1 := hid hs1
  have HS2 := hid hs2
  have d1' : ¬ ss < 0 := by omega
  have d2' : ¬ 7 < ss := by omega
  have d3' : ¬ tx < 1 := by omega
  have d4' : ¬ st < 0 := by omega
  clear hl1 hl2 hr hw hs1 hs2
  have HN : Hid (∀ W, Calls Tryz.prog 65 #[.int .i64 4] W fun e w' => e = .returned (.string ⟨#[114, 111, 119, 115]⟩) ∧ Ext W w') := fun W => name_any 4 W
  have HB := hid (Blk.of_new w 36 [.int .i64 4, .int .i64 ss, .int .i64 tx, .int .i64 st, .int .i64 0, .int .i64 0, .slice A1 n c1, .slice B1 0 d1])
  have HX := hid ((Ext.refl w).alloc (.cells #[.int .i64 4, .int .i64 ss, .int .i64 tx, .int .i64 st, .int .i64 0, .int .i64 0, .slice A1 n c1, .slice B1 0 d1] 36))
  go_enter Tryz.func31, Tryz.ntmps31
  go_upto_region 1 with fail
  generalize w.alloc (.cells #[.int .i64 4, .int .i64 ss, .int .i64 tx, .int .i64 st, .int .i64 0, .int .i64 0, .slice A1 n c1, .slice B1 0 d1] 36) = W0 at *
  generalize w.heap.size = g at *
  have z0 := HB.out.cell 0
  simp only [List.getElem?_cons_succ, List.getElem?_cons_zero] at z0
  go_wp2_with (go_at_call 65; refine (HN.out _).mono ?_; rintro _ W1 ⟨rfl, hx1⟩; have HB1 := hid (HB.out.ext hx1); have HX1 := hid (HX.out.trans hx1); clear hx1 HB HX HN z0; have p0 := HB1.out.cell 0; have p1 := HB1.out.cell 1; have p2 := HB1.out.cell 2; have p3 := HB1.out.cell 3; have p4 := HB1.out.cell 4; have p5 := HB1.out.cell 5; have p6 := HB1.out.cell 6; have p7 := HB1.out.cell 7; simp only [List.getElem?_cons_succ, List.getElem?_cons_zero] at p0 p1 p2 p3 p4 p5 p6 p7)
  go_loopw [4] (fun iv wr => iv = .int .i64 0 ∧ Ext W1 wr) (fun i _ => 0)
  case atStart => exact ⟨rfl, Ext.refl W1⟩
  case round =>
    obtain ⟨rfl, hxr⟩ := hrel
    have HBr := hid (HB1.out.ext hxr)
    have r7 := HBr.out.cell 7
    have r6 := HBr.out.cell 6
    simp only [List.getElem?_cons_succ, List.getElem?_cons_zero] at r7 r6
    have HX2 : Hid (Ext w wr) := HX1.out.trans hxr
    have HALW : Hid (wts.all Wt.ok = true) := by unfold Hid; rw [show wts = [] from List.eq_nil_of_length_eq_zero HL2.out]; rfl
    go_wp2_with fail
    generalize wr = W2 at *
    go_loopw [6] (fun iv wr => ∃ (k : Nat), k ≤ n ∧ iv = .int .i64 k ∧ (rows.take k).all rowV = true ∧ Ext W2 wr) (fun i _ => n - (intOf i).toNat)
    case atStart => exact ⟨0, Nat.zero_le _, rfl, rfl, Ext.refl W2⟩
    case round =>
      obtain ⟨k, hkn, rfl, hr, hxq⟩ := hrel
      have HXq := hid hxq
      have HRr := hid hr
      have HBq := hid (HBr.out.ext hxq)
      have s6 := HBq.out.cell 6
      simp only [List.getElem?_cons_succ, List.getElem?_cons_zero] at s6
      by_cases hlt : k < n
      · obtain ⟨x, hx⟩ := rat_lt HL1.out hlt
        obtain ⟨b, off, v, rfl, q0, q1⟩ := (HR.out.ext (HX2.out.trans hxq)) k x hx
        obtain ⟨Ax, cx, hvx, hvv⟩ := id q1
        subst hvx
        have hsm := HS1.out x (List.mem_of_getElem? hx)
        have HC := hid (fun W (hW : Ext wr W) => rrow_any Ax x x.length cx W (hvv.ext hW) rfl hsm.1 hsm.2)
        have HE := hid hx
        have fin : rowV x = false → rows.all rowV = false := fun h => all_no HE.out h
        have HFN := hid fin
        have stp : rowV x = true → (rows.take (k + 1)).all rowV = true := fun h => all_step HE.out HRr.out h
        have HST := hid stp
        clear hx hxq hr hvv q1 hsm HE fin stp
        generalize x.length = nr at *
        generalize rowV x = V at *
        cases V
        · have HA := hid (HFN.out rfl)
          clear HFN HST
          go_wp2_with (go_at_call 66; refine (HC.out _ (Ext.refl wr)).mono ?_; rintro _ w3 ⟨rfl, hx3⟩)
          go_ret
          exact ⟨ret_bool (by rw [HA.out]; exact (okF_r _ _ _ _ _ _ _ _ _).symm), HX2.out.trans (HXq.out.trans hx3)⟩
        · have HA := hid (HST.out rfl)
          clear HFN HST
          go_wp2_with (go_at_call 66; refine (HC.out _ (Ext.refl wr)).mono ?_; rintro _ w3 ⟨rfl, hx3⟩)
          go_roundw
          case rel => exact ⟨k + 1, by omega, by go_num, HA.out, HXq.out.trans hx3⟩
          case measure => simp [intOf]; omega
      · obtain rfl : k = n := by omega
        have HALR : Hid (rows.all rowV = true) := all_end HL1.out HRr.out
        clear hr
        go_wp2_with fail
        go_ret
        exact ⟨ret_bool (by rw [HALW.out, HALR.out]; exact HOK.out.symm), HX2.out.trans hxq⟩
end Go.Proofs.YtdjdhkbomhendaaGreatDoor
namespace Go.Proofs.YtdjdhkbomhendaaGreatDoor
open Go.RowKit
set_option linter.unusedVariables false
set_option linter.unusedSimpArgs false
set_option maxHeartbeats 4000000
set_option maxRecDepth 100000

theorem rvalid_5_no (ss tx st er ct : Int) (A1 B1 : Option Addr) (n m c1 d1 : Nat) (w : World)  (hno : okF 5 ss tx st er ct n m true true = false) :
    Calls Tryz.prog 31 #[.agg #[.int .i64 5, .int .i64 ss, .int .i64 tx, .int .i64 st, .int .i64 er, .int .i64 ct, .slice A1 n c1, .slice B1 m d1]] w fun r w' => r = .returned (.bool false) ∧ Ext w w' := by
  have HNO := hid hno
  clear hno
  have HN : Hid (∀ W, Calls Tryz.prog 65 #[.int .i64 5] W fun e w' => e = .returned (.string ⟨#[99, 111, 117, 110, 116]⟩) ∧ Ext W w') := fun W => name_any 5 W
  have HB := hid (Blk.of_new w 36 [.int .i64 5, .int .i64 ss, .int .i64 tx, .int .i64 st, .int .i64 er, .int .i64 ct, .slice A1 n c1, .slice B1 m d1])
  have HX := hid ((Ext.refl w).alloc (.cells #[.int .i64 5, .int .i64 ss, .int .i64 tx, .int .i64 st, .int .i64 er, .int .i64 ct, .slice A1 n c1, .slice B1 m d1] 36))
  go_enter Tryz.func31, Tryz.ntmps31
  go_upto_region 1 with fail
  generalize w.alloc (.cells #[.int .i64 5, .int .i64 ss, .int .i64 tx, .int .i64 st, .int .i64 er, .int .i64 ct, .slice A1 n c1, .slice B1 m d1] 36) = W0 at *
  generalize w.heap.size = g at *
  have z0 := HB.out.cell 0
  simp only [List.getElem?_cons_succ, List.getElem?_cons_zero] at z0
  go_wp2_with (go_at_call 65; refine (HN.out _).mono ?_; rintro _ W1 ⟨rfl, hx1⟩; have HB1 := hid (HB.out.ext hx1); have HX1 := hid (HX.out.trans hx1); clear hx1 HB HX HN z0; have p0 := HB1.out.cell 0; have p1 := HB1.out.cell 1; have p2 := HB1.out.cell 2; have p3 := HB1.out.cell 3; have p4 := HB1.out.cell 4; have p5 := HB1.out.cell 5; have p6 := HB1.out.cell 6; have p7 := HB1.out.cell 7; simp only [List.getElem?_cons_succ, List.getElem?_cons_zero] at p0 p1 p2 p3 p4 p5 p6 p7)
  all_goals first
    | (go_ret; exact ⟨rfl, HX1.out⟩)
    | (exfalso; have hno := HNO.out; first | (simp [okF, *] at hno <;> omega) | (simp [okF, *] at hno <;> grind) | (simp_all [okF] <;> omega) | (unfold okF at hno; grind))
theorem rvalid_5_ok (ss tx st ct : Int) (A1 B1 : Option Addr) ( c1 d1 : Nat) (rows : List (List Val)) (wts : List Wt) (w : World)  (a1 : 0 ≤ ss) (a2 : ss < 8) (a3 : 1 ≤ tx) (a4 : 0 ≤ st) (a5 : 0 ≤ ct)
    (hl1 : rows.length = 0) (hl2 : wts.length = 0) (hr : RowsAt w A1 rows) (hw : WtsAt w B1 wts) (hn : rows.length ≤ 9223372036854775807) (hm : wts.length ≤ 9223372036854775807)
    (hs1 : ∀ r ∈ rows, r.length ≤ 4000000 ∧ ∀ a ∈ r, a.t.size ≤ 4000000) (hs2 : ∀ x ∈ wts, x.row.length ≤ 4000000 ∧ ∀ a ∈ x.row, a.t.size ≤ 4000000) :
    Calls Tryz.prog 31 #[.agg #[.int .i64 5, .int .i64 ss, .int .i64 tx, .int .i64 st, .int .i64 0, .int .i64 ct, .slice A1 0 c1, .slice B1 0 d1]] w fun r w' => r = .returned (.bool (okF 5 ss tx st 0 ct 0 0 (wts.all Wt.ok) (rows.all rowV))) ∧ Ext w w' := by
  rw [hl1] at hn
  rw [hl2] at hm
  have HOK : Hid (okF 5 ss tx st 0 ct 0 0 true true = true) := by unfold Hid; simp [okF, *]
  have HL1 := hid hl1
  have HL2 := hid hl2
  have HR := hid hr
  have HW := hid hw
  have HS1 := hid hs1
  have HS2 := hid hs2
  have d1' : ¬ ss < 0 := by omega
  have d2' : ¬ 7 < ss := by omega
  have d3' : ¬ tx < 1 := by omega
  have d5' : ¬ ct < 0 := by omega
  have d4' : ¬ st < 0 := by omega
  clear hl1 hl2 hr hw hs1 hs2
  have HN : Hid (∀ W, Calls Tryz.prog 65 #[.int .i64 5] W fun e w' => e = .returned (.string ⟨#[99, 111, 117, 110, 116]⟩) ∧ Ext W w') := fun W => name_any 5 W
  have HB := hid (Blk.of_new w 36 [.int .i64 5, .int .i64 ss, .int .i64 tx, .int .i64 st, .int .i64 0, .int .i64 ct, .slice A1 0 c1, .slice B1 0 d1])
  have HX := hid ((Ext.refl w).alloc (.cells #[.int .i64 5, .int .i64 ss, .int .i64 tx, .int .i64 st, .int .i64 0, .int .i64 ct, .slice A1 0 c1, .slice B1 0 d1] 36))
  go_enter Tryz.func31, Tryz.ntmps31
  go_upto_region 1 with fail
  generalize w.alloc (.cells #[.int .i64 5, .int .i64 ss, .int .i64 tx, .int .i64 st, .int .i64 0, .int .i64 ct, .slice A1 0 c1, .slice B1 0 d1] 36) = W0 at *
  generalize w.heap.size = g at *
  have z0 := HB.out.cell 0
  simp only [List.getElem?_cons_succ, List.getElem?_cons_zero] at z0
  go_wp2_with (go_at_call 65; refine (HN.out _).mono ?_; rintro _ W1 ⟨rfl, hx1⟩; have HB1 := hid (HB.out.ext hx1); have HX1 := hid (HX.out.trans hx1); clear hx1 HB HX HN z0; have p0 := HB1.out.cell 0; have p1 := HB1.out.cell 1; have p2 := HB1.out.cell 2; have p3 := HB1.out.cell 3; have p4 := HB1.out.cell 4; have p5 := HB1.out.cell 5; have p6 := HB1.out.cell 6; have p7 := HB1.out.cell 7; simp only [List.getElem?_cons_succ, List.getElem?_cons_zero] at p0 p1 p2 p3 p4 p5 p6 p7)
  go_loopw [4] (fun iv wr => iv = .int .i64 0 ∧ Ext W1 wr) (fun i _ => 0)
  case atStart => exact ⟨rfl, Ext.refl W1⟩
  case round =>
    obtain ⟨rfl, hxr⟩ := hrel
    have HBr := hid (HB1.out.ext hxr)
    have r7 := HBr.out.cell 7
    have r6 := HBr.out.cell 6
    simp only [List.getElem?_cons_succ, List.getElem?_cons_zero] at r7 r6
    have HX2 : Hid (Ext w wr) := HX1.out.trans hxr
    have HALW : Hid (wts.all Wt.ok = true) := by unfold Hid; rw [show wts = [] from List.eq_nil_of_length_eq_zero HL2.out]; rfl
    go_wp2_with fail
    generalize wr = W2 at *
    go_loopw [6] (fun iv wr => iv = .int .i64 0 ∧ Ext W2 wr) (fun i _ => 0)
    case atStart => exact ⟨rfl, Ext.refl W2⟩
    case round =>
      obtain ⟨rfl, hxq⟩ := hrel
      have HBq := hid (HBr.out.ext hxq)
      have s6 := HBq.out.cell 6
      simp only [List.getElem?_cons_succ, List.getElem?_cons_zero] at s6
      have HALR : Hid (rows.all rowV = true) := by unfold Hid; rw [show rows = [] from List.eq_nil_of_length_eq_zero HL1.out]; rfl
      have HXq := hid (HX2.out.trans hxq)
      go_wp2_with fail
      go_ret
      exact ⟨ret_bool (by rw [HALW.out, HALR.out]; exact HOK.out.symm), HXq.out⟩
theorem rvalid_o_no (kd ss tx st er ct : Int) (A1 B1 : Option Addr) (n m c1 d1 : Nat) (w : World) (h1 : 1 ≤ kd) (h2 : kd ≤ 10) (n7 : kd ≠ 7) (n10 : kd ≠ 10) (n2 : kd ≠ 2) (n4 : kd ≠ 4) (n5 : kd ≠ 5) (hno : okF kd ss tx st er ct n m true true = false) :
    Calls Tryz.prog 31 #[.agg #[.int .i64 kd, .int .i64 ss, .int .i64 tx, .int .i64 st, .int .i64 er, .int .i64 ct, .slice A1 n c1, .slice B1 m d1]] w fun r w' => r = .returned (.bool false) ∧ Ext w w' := by
  have b7 : (kd == 7) = false := by simpa using n7
  have b10 : (kd == 10) = false := by simpa using n10
  have b2 : (kd == 2) = false := by simpa using n2
  have b4 : (kd == 4) = false := by simpa using n4
  have b5 : (kd == 5) = false := by simpa using n5
  have a11 : ¬ 11 ≤ kd := by omega
  obtain ⟨K, hK, hK2⟩ : ∃ K : ByteArray, kwB kd = K ∧ K.toList.isEmpty = false := ⟨_, rfl, kw_ne h1 (by omega)⟩
  have HK := hid hK
  clear hK
  have HNO := hid hno
  clear hno
  have HN : Hid (∀ W, Calls Tryz.prog 65 #[.int .i64 kd] W fun e w' => e = .returned (.string K) ∧ Ext W w') := fun W => by rw [← HK.out]; exact name_any kd W
  have HB := hid (Blk.of_new w 36 [.int .i64 kd, .int .i64 ss, .int .i64 tx, .int .i64 st, .int .i64 er, .int .i64 ct, .slice A1 n c1, .slice B1 m d1])
  have HX := hid ((Ext.refl w).alloc (.cells #[.int .i64 kd, .int .i64 ss, .int .i64 tx, .int .i64 st, .int .i64 er, .int .i64 ct, .slice A1 n c1, .slice B1 m d1] 36))
  clear h1 h2
  go_enter Tryz.func31, Tryz.ntmps31
  go_upto_region 1 with fail
  generalize w.alloc (.cells #[.int .i64 kd, .int .i64 ss, .int .i64 tx, .int .i64 st, .int .i64 er, .int .i64 ct, .slice A1 n c1, .slice B1 m d1] 36) = W0 at *
  generalize w.heap.size = g at *
  have z0 := HB.out.cell 0
  simp only [List.getElem?_cons_succ, List.getElem?_cons_zero] at z0
  go_wp2_with (go_at_call 65; refine (HN.out _).mono ?_; rintro _ W1 ⟨rfl, hx1⟩; have HB1 := hid (HB.out.ext hx1); have HX1 := hid (HX.out.trans hx1); clear hx1 HB HX HN z0; have p0 := HB1.out.cell 0; have p1 := HB1.out.cell 1; have p2 := HB1.out.cell 2; have p3 := HB1.out.cell 3; have p4 := HB1.out.cell 4; have p5 := HB1.out.cell 5; have p6 := HB1.out.cell 6; have p7 := HB1.out.cell 7; simp only [List.getElem?_cons_succ, List.getElem?_cons_zero] at p0 p1 p2 p3 p4 p5 p6 p7)
  all_goals first
    | (go_ret; exact ⟨rfl, HX1.out⟩)
    | (exfalso; have hno := HNO.out; first | (simp [okF, *] at hno <;> omega) | (simp [okF, *] at hno <;> grind) | (simp_all [okF] <;> omega) | (unfold okF at hno; grind))
theorem rvalid_o_ok (kd ss tx st  : Int) (A1 B1 : Option Addr) ( c1 d1 : Nat) (rows : List (List Val)) (wts : List Wt) (w : World) (h1 : 1 ≤ kd) (h2 : kd ≤ 10) (n7 : kd ≠ 7) (n10 : kd ≠ 10) (n2 : kd ≠ 2) (n4 : kd ≠ 4) (n5 : kd ≠ 5) (a1 : 0 ≤ ss) (a2 : ss < 8) (a3 : 1 ≤ tx) (a4 : 0 ≤ st) 
    (hl1 : rows.length = 0) (hl2 : wts.length = 0) (hr : RowsAt w A1 rows) (hw : WtsAt w B1 wts) (hn : rows.length ≤ 9223372036854775807) (hm : wts.length ≤ 9223372036854775807)
    (hs1 : ∀ r ∈ rows, r.length ≤ 4000000 ∧ ∀ a ∈ r, a.t.size ≤ 4000000) (hs2 : ∀ x ∈ wts, x.row.length ≤ 4000000 ∧ ∀ a ∈ x.row, a.t.size ≤ 4000000) :
    Calls Tryz.prog 31 #[.agg #[.int .i64 kd, .int .i64 ss, .int .i64 tx, .int .i64 st, .int .i64 0, .int .i64 0, .slice A1 0 c1, .slice B1 0 d1]] w fun r w' => r = .returned (.bool (okF kd ss tx st 0 0 0 0 (wts.all Wt.ok) (rows.all rowV))) ∧ Ext w w' := by
  have b7 : (kd == 7) = false := by simpa using n7
  have b10 : (kd == 10) = false := by simpa using n10
  have b2 : (kd == 2) = false := by simpa using n2
  have b4 : (kd == 4) = false := by simpa using n4
  have b5 : (kd == 5) = false := by simpa using n5
  have a11 : ¬ 11 ≤ kd := by omega
  obtain ⟨K, hK, hK2⟩ : ∃ K : ByteArray, kwB kd = K ∧ K.toList.isEmpty = false := ⟨_, rfl, kw_ne h1 (by omega)⟩
  have HK := hid hK
  clear hK
  rw [hl1] at hn
  rw [hl2] at hm
  have HOK : Hid (okF kd ss tx st 0 0 0 0 true true = true) := by unfold Hid; simp [okF, *]
  have HL1 := hid hl1
  have HL2 := hid hl2
  have HR := hid hr
  have HW := hid hw
  have HS1 := hid hs1
  have HS2 := hid hs2
  have d1' : ¬ ss < 0 := by omega
  have d2' : ¬ 7 < ss := by omega
  have d3' : ¬ tx < 1 := by omega
  have d4' : ¬ st < 0 := by omega
  clear hl1 hl2 hr hw hs1 hs2
  have HN : Hid (∀ W, Calls Tryz.prog 65 #[.int .i64 kd] W fun e w' => e = .returned (.string K) ∧ Ext W w') := fun W => by rw [← HK.out]; exact name_any kd W
  have HB := hid (Blk.of_new w 36 [.int .i64 kd, .int .i64 ss, .int .i64 tx, .int .i64 st, .int .i64 0, .int .i64 0, .slice A1 0 c1, .slice B1 0 d1])
  have HX := hid ((Ext.refl w).alloc (.cells #[.int .i64 kd, .int .i64 ss, .int .i64 tx, .int .i64 st, .int .i64 0, .int .i64 0, .slice A1 0 c1, .slice B1 0 d1] 36))
  clear h1 h2
  go_enter Tryz.func31, Tryz.ntmps31
  go_upto_region 1 with fail
  generalize w.alloc (.cells #[.int .i64 kd, .int .i64 ss, .int .i64 tx, .int .i64 st, .int .i64 0, .int .i64 0, .slice A1 0 c1, .slice B1 0 d1] 36) = W0 at *
  generalize w.heap.size = g at *
  have z0 := HB.out.cell 0
  simp only [List.getElem?_cons_succ, List.getElem?_cons_zero] at z0
  go_wp2_with (go_at_call 65; refine (HN.out _).mono ?_; rintro _ W1 ⟨rfl, hx1⟩; have HB1 := hid (HB.out.ext hx1); have HX1 := hid (HX.out.trans hx1); clear hx1 HB HX HN z0; have p0 := HB1.out.cell 0; have p1 := HB1.out.cell 1; have p2 := HB1.out.cell 2; have p3 := HB1.out.cell 3; have p4 := HB1.out.cell 4; have p5 := HB1.out.cell 5; have p6 := HB1.out.cell 6; have p7 := HB1.out.cell 7; simp only [List.getElem?_cons_succ, List.getElem?_cons_zero] at p0 p1 p2 p3 p4 p5 p6 p7)
  go_loopw [4] (fun iv wr => iv = .int .i64 0 ∧ Ext W1 wr) (fun i _ => 0)
  case atStart => exact ⟨rfl, Ext.refl W1⟩
  case round =>
    obtain ⟨rfl, hxr⟩ := hrel
    have HBr := hid (HB1.out.ext hxr)
    have r7 := HBr.out.cell 7
    have r6 := HBr.out.cell 6
    simp only [List.getElem?_cons_succ, List.getElem?_cons_zero] at r7 r6
    have HX2 : Hid (Ext w wr) := HX1.out.trans hxr
    have HALW : Hid (wts.all Wt.ok = true) := by unfold Hid; rw [show wts = [] from List.eq_nil_of_length_eq_zero HL2.out]; rfl
    go_wp2_with fail
    generalize wr = W2 at *
    go_loopw [6] (fun iv wr => iv = .int .i64 0 ∧ Ext W2 wr) (fun i _ => 0)
    case atStart => exact ⟨rfl, Ext.refl W2⟩
    case round =>
      obtain ⟨rfl, hxq⟩ := hrel
      have HBq := hid (HBr.out.ext hxq)
      have s6 := HBq.out.cell 6
      simp only [List.getElem?_cons_succ, List.getElem?_cons_zero] at s6
      have HALR : Hid (rows.all rowV = true) := by unfold Hid; rw [show rows = [] from List.eq_nil_of_length_eq_zero HL1.out]; rfl
      have HXq := hid (HX2.out.trans hxq)
      go_wp2_with fail
      go_ret
      exact ⟨ret_bool (by rw [HALW.out, HALR.out]; exact HOK.out.symm), HXq.out⟩
theorem rvalid_hi (kd ss tx st er ct : Int) (A1 B1 : Option Addr) (n m c1 d1 : Nat) (w : World) (h1 : 11 ≤ kd) (h2 : kd ≤ 13) :
    Calls Tryz.prog 31 #[.agg #[.int .i64 kd, .int .i64 ss, .int .i64 tx, .int .i64 st, .int .i64 er, .int .i64 ct, .slice A1 n c1, .slice B1 m d1]] w fun r w' => r = .returned (.bool (ss == 0 && tx == 0 && st == 0 && er == 0 && ct == 0 && decide (n = 0) && decide (m = 0))) ∧ Ext w w' := by
  have b2 : (kd == 2) = false := by simp; omega
  have b4 : (kd == 4) = false := by simp; omega
  have b5 : (kd == 5) = false := by simp; omega
  have n2 : ¬ kd = 2 := by omega
  have n4 : ¬ kd = 4 := by omega
  have n5 : ¬ kd = 5 := by omega
  obtain ⟨K, hK, hK2⟩ : ∃ K : ByteArray, kwB kd = K ∧ K.toList.isEmpty = false := ⟨_, rfl, kw_ne (by omega) h2⟩
  have HK := hid hK
  clear hK h2
  have HN : Hid (∀ W, Calls Tryz.prog 65 #[.int .i64 kd] W fun e w' => e = .returned (.string K) ∧ Ext W w') := fun W => by rw [← HK.out]; exact name_any kd W
  have HB := hid (Blk.of_new w 36 [.int .i64 kd, .int .i64 ss, .int .i64 tx, .int .i64 st, .int .i64 er, .int .i64 ct, .slice A1 n c1, .slice B1 m d1])
  have HX := hid ((Ext.refl w).alloc (.cells #[.int .i64 kd, .int .i64 ss, .int .i64 tx, .int .i64 st, .int .i64 er, .int .i64 ct, .slice A1 n c1, .slice B1 m d1] 36))
  go_enter Tryz.func31, Tryz.ntmps31
  go_upto_region 1 with fail
  generalize w.alloc (.cells #[.int .i64 kd, .int .i64 ss, .int .i64 tx, .int .i64 st, .int .i64 er, .int .i64 ct, .slice A1 n c1, .slice B1 m d1] 36) = W0 at *
  generalize w.heap.size = g at *
  have z0 := HB.out.cell 0
  simp only [List.getElem?_cons_succ, List.getElem?_cons_zero] at z0
  go_wp2_with (go_at_call 65; refine (HN.out _).mono ?_; rintro _ W1 ⟨rfl, hx1⟩; have HB1 := hid (HB.out.ext hx1); have HX1 := hid (HX.out.trans hx1); clear hx1 HB HX HN z0; have p0 := HB1.out.cell 0; have p1 := HB1.out.cell 1; have p2 := HB1.out.cell 2; have p3 := HB1.out.cell 3; have p4 := HB1.out.cell 4; have p5 := HB1.out.cell 5; have p6 := HB1.out.cell 6; have p7 := HB1.out.cell 7; simp only [List.getElem?_cons_succ, List.getElem?_cons_zero] at p0 p1 p2 p3 p4 p5 p6 p7)
  all_goals
    go_ret
    refine ⟨ret_bool ?_, HX1.out⟩
    first | (simp [*] <;> omega) | (simp [*] <;> grind) | (simp_all <;> omega) | grind
theorem rvalid_out (kd ss tx st er ct : Int) (A1 B1 : Option Addr) (n m c1 d1 : Nat) (w : World) (h : kd < 1 ∨ 13 < kd) :
    Calls Tryz.prog 31 #[.agg #[.int .i64 kd, .int .i64 ss, .int .i64 tx, .int .i64 st, .int .i64 er, .int .i64 ct, .slice A1 n c1, .slice B1 m d1]] w fun r w' => r = .returned (.bool false) ∧ Ext w w' := by
  have HN : Hid (∀ W, Calls Tryz.prog 65 #[.int .i64 kd] W fun e w' => e = .returned (.string ⟨#[]⟩) ∧ Ext W w') := fun W => by rw [← kwB_out h]; exact name_any kd W
  have HB := hid (Blk.of_new w 36 [.int .i64 kd, .int .i64 ss, .int .i64 tx, .int .i64 st, .int .i64 er, .int .i64 ct, .slice A1 n c1, .slice B1 m d1])
  have HX := hid ((Ext.refl w).alloc (.cells #[.int .i64 kd, .int .i64 ss, .int .i64 tx, .int .i64 st, .int .i64 er, .int .i64 ct, .slice A1 n c1, .slice B1 m d1] 36))
  go_enter Tryz.func31, Tryz.ntmps31
  go_upto_region 1 with fail
  generalize w.alloc (.cells #[.int .i64 kd, .int .i64 ss, .int .i64 tx, .int .i64 st, .int .i64 er, .int .i64 ct, .slice A1 n c1, .slice B1 m d1] 36) = W0 at *
  generalize w.heap.size = g at *
  have z0 := HB.out.cell 0
  simp only [List.getElem?_cons_succ, List.getElem?_cons_zero] at z0
  go_wp2_with (go_at_call 65; refine (HN.out _).mono ?_; rintro _ W1 ⟨rfl, hx1⟩; have HB1 := hid (HB.out.ext hx1); have HX1 := hid (HX.out.trans hx1); clear hx1 HB HX HN z0; have p0 := HB1.out.cell 0; have p1 := HB1.out.cell 1; have p2 := HB1.out.cell 2; have p3 := HB1.out.cell 3; have p4 := HB1.out.cell 4; have p5 := HB1.out.cell 5; have p6 := HB1.out.cell 6; have p7 := HB1.out.cell 7; simp only [List.getElem?_cons_succ, List.getElem?_cons_zero] at p0 p1 p2 p3 p4 p5 p6 p7)
  go_ret
  exact ⟨rfl, HX1.out⟩
end Go.Proofs.YtdjdhkbomhendaaGreatDoor
namespace Go.Proofs.YtdjdhkbomhendaaGreatDoor
open Go.RowKit
set_option linter.unusedVariables false
set_option linter.unusedSimpArgs false
set_option maxHeartbeats 4000000
set_option maxRecDepth 100000

/-- the rows of an event are not too long -/
def Ev.sz4 (e : Ev) : Prop := (∀ r ∈ e.rows, r.length ≤ 4000000 ∧ ∀ a ∈ r, a.t.size ≤ 4000000) ∧ ∀ x ∈ e.wts, x.row.length ≤ 4000000 ∧ ∀ a ∈ x.row, a.t.size ≤ 4000000
theorem okF_no {kd ss tx st er ct : Int} {n m : Nat} {W R : Bool} (h : okF kd ss tx st er ct n m true true = false) : okF kd ss tx st er ct n m W R = false := by
  cases W <;> cases R
  · exact okF_w _ _ _ _ _ _ _ _ _
  · exact okF_w _ _ _ _ _ _ _ _ _
  · exact okF_r _ _ _ _ _ _ _ _ _
  · exact h
theorem rvalidE_any (e : Ev) (vr vw : Value) (w : World) (hr : RsAt w vr e.rows) (hw : WsAt w vw e.wts) (hf : e.fit) (ht : e.sz4) :
    Calls Tryz.prog 31 #[evV e vr vw] w fun r w' => r = .returned (.bool e.ok) ∧ Ext w w' := by
  obtain ⟨A1, c1, rfl, hr1⟩ := id hr
  obtain ⟨B1, d1, rfl, hw1⟩ := id hw
  unfold evV
  rw [ok_form]
  by_cases h1 : e.kd < 1 ∨ 13 < e.kd
  · rw [if_pos h1]
    exact rvalid_out _ _ _ _ _ _ _ _ _ _ _ _ _ h1
  · rw [if_neg h1]
    by_cases h2 : 11 ≤ e.kd
    · rw [if_pos h2]
      exact rvalid_hi _ _ _ _ _ _ _ _ _ _ _ _ _ h2 (by omega)
    · rw [if_neg h2]
      obtain ⟨kd, ss, tx, st, er, ct, rows, wts⟩ := e
      obtain ⟨f1, f2, f3, f4⟩ := hf
      obtain ⟨t1, t2⟩ := ht
      simp only at *
      by_cases e7 : kd = 7
      · subst e7
        cases hk : okF 7 ss tx st er ct rows.length wts.length true true
        · rw [okF_no hk]
          exact rvalid_7_no _ _ _ _ _ _ _ _ _ _ _ _ hk
        · obtain ⟨a1, a2, a3, a4, a5, a6, zc, zn, zm⟩ : 0 ≤ ss ∧ ss < 8 ∧ 1 ≤ tx ∧ 0 ≤ st ∧ 1 ≤ er ∧ er ≤ 17 ∧ ct = 0 ∧ rows.length = 0 ∧ wts.length = 0 := by simp [okF] at hk; grind
          subst zc
          have := rvalid_7_ok ss tx st er A1 B1 c1 d1 rows wts w a1 a2 a3 a4 a5 a6 zn zm hr1 hw1 f1 f2 t1 t2
          rw [zn, zm]
          exact this
      by_cases e10 : kd = 10
      · subst e10
        cases hk : okF 10 ss tx st er ct rows.length wts.length true true
        · rw [okF_no hk]
          exact rvalid_10_no _ _ _ _ _ _ _ _ _ _ _ _ hk
        · obtain ⟨a1, a2, a3, a4, a5, a6, zc, zn, zm⟩ : 0 ≤ ss ∧ ss < 8 ∧ 1 ≤ tx ∧ 0 ≤ st ∧ 1 ≤ er ∧ er ≤ 17 ∧ ct = 0 ∧ rows.length = 0 ∧ wts.length = 0 := by simp [okF] at hk; grind
          subst zc
          have := rvalid_10_ok ss tx st er A1 B1 c1 d1 rows wts w a1 a2 a3 a4 a5 a6 zn zm hr1 hw1 f1 f2 t1 t2
          rw [zn, zm]
          exact this
      by_cases e2 : kd = 2
      · subst e2
        cases hk : okF 2 ss tx st er ct rows.length wts.length true true
        · rw [okF_no hk]
          exact rvalid_2_no _ _ _ _ _ _ _ _ _ _ _ _ hk
        · obtain ⟨a1, a2, a3, a4, a5, ze, zc, zn⟩ : 0 ≤ ss ∧ ss < 8 ∧ 1 ≤ tx ∧ 0 ≤ st ∧ 0 < wts.length ∧ er = 0 ∧ ct = 0 ∧ rows.length = 0 := by simp [okF] at hk; grind
          subst ze zc
          have := rvalid_2_ok ss tx st A1 B1 wts.length c1 d1 rows wts w a1 a2 a3 a4 a5 zn rfl hr1 hw1 f1 f2 t1 t2
          rw [zn]
          exact this
      by_cases e4 : kd = 4
      · subst e4
        cases hk : okF 4 ss tx st er ct rows.length wts.length true true
        · rw [okF_no hk]
          exact rvalid_4_no _ _ _ _ _ _ _ _ _ _ _ _ hk
        · obtain ⟨a1, a2, a3, a4, ze, zc, zm⟩ : 0 ≤ ss ∧ ss < 8 ∧ 1 ≤ tx ∧ 0 ≤ st ∧ er = 0 ∧ ct = 0 ∧ wts.length = 0 := by simp [okF] at hk; grind
          subst ze zc
          have := rvalid_4_ok ss tx st A1 B1 rows.length c1 d1 rows wts w a1 a2 a3 a4 rfl zm hr1 hw1 f1 f2 t1 t2
          rw [zm]
          exact this
      by_cases e5 : kd = 5
      · subst e5
        cases hk : okF 5 ss tx st er ct rows.length wts.length true true
        · rw [okF_no hk]
          exact rvalid_5_no _ _ _ _ _ _ _ _ _ _ _ _ hk
        · obtain ⟨a1, a2, a3, a4, a5, ze, zn, zm⟩ : 0 ≤ ss ∧ ss < 8 ∧ 1 ≤ tx ∧ 0 ≤ st ∧ 0 ≤ ct ∧ er = 0 ∧ rows.length = 0 ∧ wts.length = 0 := by simp [okF] at hk; grind
          subst ze
          have := rvalid_5_ok ss tx st ct A1 B1 c1 d1 rows wts w a1 a2 a3 a4 a5 zn zm hr1 hw1 f1 f2 t1 t2
          rw [zn, zm]
          exact this
      cases hk : okF kd ss tx st er ct rows.length wts.length true true
      · rw [okF_no hk]
        exact rvalid_o_no _ _ _ _ _ _ _ _ _ _ _ _ _ (by omega) (by omega) e7 e10 e2 e4 e5 hk
      · obtain ⟨a1, a2, a3, a4, ze, zc, zn, zm⟩ : 0 ≤ ss ∧ ss < 8 ∧ 1 ≤ tx ∧ 0 ≤ st ∧ er = 0 ∧ ct = 0 ∧ rows.length = 0 ∧ wts.length = 0 := by
          have b7 : (kd == 7) = false := by simpa using e7
          have b10 : (kd == 10) = false := by simpa using e10
          have b2 : (kd == 2) = false := by simpa using e2
          simp [okF, e7, e10, e2, e4, e5, b7, b10, b2] at hk
          grind
        subst ze zc
        have := rvalid_o_ok kd ss tx st A1 B1 c1 d1 rows wts w (by omega) (by omega) e7 e10 e2 e4 e5 a1 a2 a3 a4 zn zm hr1 hw1 f1 f2 t1 t2
        rw [zn, zm]
        exact this
end Go.Proofs.YtdjdhkbomhendaaGreatDoor
