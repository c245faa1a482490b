/-
  Walks over history: valid. · Walks over history: valid, arm by arm. · Walks over history: valid, arm by arm. · Walks over history: valid, arm by arm. · Walks over history: valid, joined.
-/
import Derived.Test.YtdjdhkbomhendaaGreatDoorGh
import Derived.Test.YtdjdhkbomhendaaGreatDoorHW1z
namespace Go.Proofs.YtdjdhkbomhendaaGreatDoor
open Go.RowKit
set_option linter.unusedVariables false
set_option linter.unusedSimpArgs false
set_option maxHeartbeats 4000000
set_option maxRecDepth 100000

def okF (kd ss tx st er ct : Int) (n m : Nat) (VW VR : Bool) : Bool :=
  let failed := kd == 7 || kd == 10
  (decide (0 ≤ ss) && decide (ss < 8) && decide (1 ≤ tx) && decide (0 ≤ st)) &&
      !((failed && (decide (er < 1) || decide (17 < er))) || (!failed && er != 0)) && !(decide (ct < 0) || (kd != 5 && ct != 0)) &&
      !(((kd == 2) != decide (0 < m)) || (kd != 4 && decide (0 < n))) && VW && VR
theorem ok_form (e : Ev) : e.ok = if e.kd < 1 ∨ 13 < e.kd then false else if 11 ≤ e.kd then e.bare else okF e.kd e.ss e.tx e.st e.er e.ct e.rows.length e.wts.length (e.wts.all Wt.ok) (e.rows.all rowV) := rfl
theorem bare_eq (e : Ev) : eqH [e] [⟨e.kd, 0, 0, 0, 0, 0, [], []⟩] = e.bare := by
  rw [Bool.eq_iff_iff, eqH_iff]
  obtain ⟨kd, ss, tx, st, er, ct, rows, wts⟩ := e
  unfold Ev.bare
  simp [and_assoc]
theorem evs_one {w : World} {g : Nat} {t : TypeId} {vr vw : Value} (e : Ev) (hb : Blk w g t [.int .i64 e.kd, .int .i64 e.ss, .int .i64 e.tx, .int .i64 e.st, .int .i64 e.er, .int .i64 e.ct, vr, vw]) (hr : RsAt w vr e.rows) (hw : WsAt w vw e.wts) :
    EvsAt w (some ⟨g, 0, none⟩) [e] := fun i x hx => by
  match i, hx with
  | 0, hx =>
    obtain rfl : e = x := by simpa using hx
    exact ⟨g, 0, vr, vw, rfl, hb.cell_some rfl, hb.cell_some rfl, hb.cell_some rfl, hb.cell_some rfl, hb.cell_some rfl, hb.cell_some rfl, hb.cell_some rfl, hb.cell_some rfl, hr, hw⟩
  | i + 1, hx => simp at hx
end Go.Proofs.YtdjdhkbomhendaaGreatDoor
namespace Go.Proofs.YtdjdhkbomhendaaGreatDoor
open Go.RowKit
set_option linter.unusedVariables false
set_option linter.unusedSimpArgs false
set_option maxHeartbeats 4000000
set_option maxRecDepth 100000

theorem valid_7 (ss tx st er ct : Int) (A1 B1 : Option Addr) (n m c1 d1 : Nat) (U R : Bool) (w : World) 
    (hcw : ∀ W, Ext w W → Calls Tryz.prog 56 #[.slice B1 m d1, .func (Fn.func 57) #[] #[]] W fun r w' => r = .returned (.bool U) ∧ Ext W w')
    (hcr : ∀ W, Ext w W → Calls Tryz.prog 59 #[.slice A1 n c1, .func (Fn.func 60) #[] #[]] W fun r w' => r = .returned (.bool R) ∧ Ext W w') :
    Calls Tryz.prog 27 #[.agg #[.int .i64 7, .int .i64 ss, .int .i64 tx, .int .i64 st, .int .i64 er, .int .i64 ct, .slice A1 n c1, .slice B1 m d1]] w fun r w' => r = .returned (.bool (okF 7 ss tx st er ct n m (!U) (!R))) ∧ Ext w w' := by
  have HCW := hid hcw
  have HCR := hid hcr
  clear hcw hcr
  have HN : Hid (∀ W, Calls Tryz.prog 55 #[.int .i64 7] W fun e w' => e = .returned (.int .i64 4) ∧ w' = W) := fun W => by
    have h := numbers_any 7 W
    rw [show (if (11 : Int) ≤ 7 ∧ (7 : Int) ≤ 13 then (0 : Int) else if (7 : Int) = 5 ∨ (7 : Int) = 7 ∨ (7 : Int) = 10 then 4 else 3) = 4 from rfl] at h
    exact h
  have HB := hid (Blk.of_new w 36 [.int .i64 7, .int .i64 ss, .int .i64 tx, .int .i64 st, .int .i64 er, .int .i64 ct, .slice A1 n c1, .slice B1 m d1])
  have HX := hid ((Ext.refl w).alloc (.cells #[.int .i64 7, .int .i64 ss, .int .i64 tx, .int .i64 st, .int .i64 er, .int .i64 ct, .slice A1 n c1, .slice B1 m d1] 36))
  go_enter Tryz.func27, Tryz.ntmps27
  go_upto_region 1 with fail
  generalize w.alloc (.cells #[.int .i64 7, .int .i64 ss, .int .i64 tx, .int .i64 st, .int .i64 er, .int .i64 ct, .slice A1 n c1, .slice B1 m d1] 36) = W1 at *
  generalize w.heap.size = g at *
  have p0 := HB.out.cell 0
  have p1 := HB.out.cell 1
  have p2 := HB.out.cell 2
  have p3 := HB.out.cell 3
  have p4 := HB.out.cell 4
  have p5 := HB.out.cell 5
  have p6 := HB.out.cell 6
  have p7 := HB.out.cell 7
  simp only [List.getElem?_cons_succ, List.getElem?_cons_zero] at p0 p1 p2 p3 p4 p5 p6 p7
  cases U
  all_goals
    go_wp2_with (first | (go_at_call 55; refine (HN.out _).mono ?_; rintro _ w2 ⟨rfl, rfl⟩) | (go_at_call 59; (with_reducible refine (HCR.out _ (HX.out.trans hx3)).mono ?_); rintro _ w4 ⟨rfl, hx4⟩) | (go_at_call 56; (with_reducible refine (HCW.out _ HX.out).mono ?_); rintro _ w3 ⟨rfl, hx3⟩; have e6 := (HB.out.ext hx3).cell 6; simp only [List.getElem?_cons_succ, List.getElem?_cons_zero] at e6))
  all_goals
    go_ret
    refine ⟨ret_bool ?_, ?_⟩
    · first | (simp [okF, *] <;> omega) | (simp [okF, *] <;> grind) | (simp_all [okF] <;> omega) | (unfold okF; grind)
    · first | exact (HX.out.trans hx3).trans hx4 | exact HX.out.trans hx3 | exact HX.out
theorem valid_10 (ss tx st er ct : Int) (A1 B1 : Option Addr) (n m c1 d1 : Nat) (U R : Bool) (w : World) 
    (hcw : ∀ W, Ext w W → Calls Tryz.prog 56 #[.slice B1 m d1, .func (Fn.func 57) #[] #[]] W fun r w' => r = .returned (.bool U) ∧ Ext W w')
    (hcr : ∀ W, Ext w W → Calls Tryz.prog 59 #[.slice A1 n c1, .func (Fn.func 60) #[] #[]] W fun r w' => r = .returned (.bool R) ∧ Ext W w') :
    Calls Tryz.prog 27 #[.agg #[.int .i64 10, .int .i64 ss, .int .i64 tx, .int .i64 st, .int .i64 er, .int .i64 ct, .slice A1 n c1, .slice B1 m d1]] w fun r w' => r = .returned (.bool (okF 10 ss tx st er ct n m (!U) (!R))) ∧ Ext w w' := by
  have HCW := hid hcw
  have HCR := hid hcr
  clear hcw hcr
  have HN : Hid (∀ W, Calls Tryz.prog 55 #[.int .i64 10] W fun e w' => e = .returned (.int .i64 4) ∧ w' = W) := fun W => by
    have h := numbers_any 10 W
    rw [show (if (11 : Int) ≤ 10 ∧ (10 : Int) ≤ 13 then (0 : Int) else if (10 : Int) = 5 ∨ (10 : Int) = 7 ∨ (10 : Int) = 10 then 4 else 3) = 4 from rfl] at h
    exact h
  have HB := hid (Blk.of_new w 36 [.int .i64 10, .int .i64 ss, .int .i64 tx, .int .i64 st, .int .i64 er, .int .i64 ct, .slice A1 n c1, .slice B1 m d1])
  have HX := hid ((Ext.refl w).alloc (.cells #[.int .i64 10, .int .i64 ss, .int .i64 tx, .int .i64 st, .int .i64 er, .int .i64 ct, .slice A1 n c1, .slice B1 m d1] 36))
  go_enter Tryz.func27, Tryz.ntmps27
  go_upto_region 1 with fail
  generalize w.alloc (.cells #[.int .i64 10, .int .i64 ss, .int .i64 tx, .int .i64 st, .int .i64 er, .int .i64 ct, .slice A1 n c1, .slice B1 m d1] 36) = W1 at *
  generalize w.heap.size = g at *
  have p0 := HB.out.cell 0
  have p1 := HB.out.cell 1
  have p2 := HB.out.cell 2
  have p3 := HB.out.cell 3
  have p4 := HB.out.cell 4
  have p5 := HB.out.cell 5
  have p6 := HB.out.cell 6
  have p7 := HB.out.cell 7
  simp only [List.getElem?_cons_succ, List.getElem?_cons_zero] at p0 p1 p2 p3 p4 p5 p6 p7
  cases U
  all_goals
    go_wp2_with (first | (go_at_call 55; refine (HN.out _).mono ?_; rintro _ w2 ⟨rfl, rfl⟩) | (go_at_call 59; (with_reducible refine (HCR.out _ (HX.out.trans hx3)).mono ?_); rintro _ w4 ⟨rfl, hx4⟩) | (go_at_call 56; (with_reducible refine (HCW.out _ HX.out).mono ?_); rintro _ w3 ⟨rfl, hx3⟩; have e6 := (HB.out.ext hx3).cell 6; simp only [List.getElem?_cons_succ, List.getElem?_cons_zero] at e6))
  all_goals
    go_ret
    refine ⟨ret_bool ?_, ?_⟩
    · first | (simp [okF, *] <;> omega) | (simp [okF, *] <;> grind) | (simp_all [okF] <;> omega) | (unfold okF; grind)
    · first | exact (HX.out.trans hx3).trans hx4 | exact HX.out.trans hx3 | exact HX.out
end Go.Proofs.YtdjdhkbomhendaaGreatDoor
namespace Go.Proofs.YtdjdhkbomhendaaGreatDoor
open Go.RowKit
set_option linter.unusedVariables false
set_option linter.unusedSimpArgs false
set_option maxHeartbeats 4000000
set_option maxRecDepth 100000

theorem valid_2 (ss tx st er ct : Int) (A1 B1 : Option Addr) (n m c1 d1 : Nat) (U R : Bool) (w : World) 
    (hcw : ∀ W, Ext w W → Calls Tryz.prog 56 #[.slice B1 m d1, .func (Fn.func 57) #[] #[]] W fun r w' => r = .returned (.bool U) ∧ Ext W w')
    (hcr : ∀ W, Ext w W → Calls Tryz.prog 59 #[.slice A1 n c1, .func (Fn.func 60) #[] #[]] W fun r w' => r = .returned (.bool R) ∧ Ext W w') :
    Calls Tryz.prog 27 #[.agg #[.int .i64 2, .int .i64 ss, .int .i64 tx, .int .i64 st, .int .i64 er, .int .i64 ct, .slice A1 n c1, .slice B1 m d1]] w fun r w' => r = .returned (.bool (okF 2 ss tx st er ct n m (!U) (!R))) ∧ Ext w w' := by
  have HCW := hid hcw
  have HCR := hid hcr
  clear hcw hcr
  have HN : Hid (∀ W, Calls Tryz.prog 55 #[.int .i64 2] W fun e w' => e = .returned (.int .i64 3) ∧ w' = W) := fun W => by
    have h := numbers_any 2 W
    rw [show (if (11 : Int) ≤ 2 ∧ (2 : Int) ≤ 13 then (0 : Int) else if (2 : Int) = 5 ∨ (2 : Int) = 7 ∨ (2 : Int) = 10 then 4 else 3) = 3 from rfl] at h
    exact h
  have HB := hid (Blk.of_new w 36 [.int .i64 2, .int .i64 ss, .int .i64 tx, .int .i64 st, .int .i64 er, .int .i64 ct, .slice A1 n c1, .slice B1 m d1])
  have HX := hid ((Ext.refl w).alloc (.cells #[.int .i64 2, .int .i64 ss, .int .i64 tx, .int .i64 st, .int .i64 er, .int .i64 ct, .slice A1 n c1, .slice B1 m d1] 36))
  go_enter Tryz.func27, Tryz.ntmps27
  go_upto_region 1 with fail
  generalize w.alloc (.cells #[.int .i64 2, .int .i64 ss, .int .i64 tx, .int .i64 st, .int .i64 er, .int .i64 ct, .slice A1 n c1, .slice B1 m d1] 36) = W1 at *
  generalize w.heap.size = g at *
  have p0 := HB.out.cell 0
  have p1 := HB.out.cell 1
  have p2 := HB.out.cell 2
  have p3 := HB.out.cell 3
  have p4 := HB.out.cell 4
  have p5 := HB.out.cell 5
  have p6 := HB.out.cell 6
  have p7 := HB.out.cell 7
  simp only [List.getElem?_cons_succ, List.getElem?_cons_zero] at p0 p1 p2 p3 p4 p5 p6 p7
  cases U
  all_goals
    go_wp2_with (first | (go_at_call 55; refine (HN.out _).mono ?_; rintro _ w2 ⟨rfl, rfl⟩) | (go_at_call 59; (with_reducible refine (HCR.out _ (HX.out.trans hx3)).mono ?_); rintro _ w4 ⟨rfl, hx4⟩) | (go_at_call 56; (with_reducible refine (HCW.out _ HX.out).mono ?_); rintro _ w3 ⟨rfl, hx3⟩; have e6 := (HB.out.ext hx3).cell 6; simp only [List.getElem?_cons_succ, List.getElem?_cons_zero] at e6))
  all_goals
    go_ret
    refine ⟨ret_bool ?_, ?_⟩
    · first | (simp [okF, *] <;> omega) | (simp [okF, *] <;> grind) | (simp_all [okF] <;> omega) | (unfold okF; grind)
    · first | exact (HX.out.trans hx3).trans hx4 | exact HX.out.trans hx3 | exact HX.out
theorem valid_4 (ss tx st er ct : Int) (A1 B1 : Option Addr) (n m c1 d1 : Nat) (U R : Bool) (w : World) 
    (hcw : ∀ W, Ext w W → Calls Tryz.prog 56 #[.slice B1 m d1, .func (Fn.func 57) #[] #[]] W fun r w' => r = .returned (.bool U) ∧ Ext W w')
    (hcr : ∀ W, Ext w W → Calls Tryz.prog 59 #[.slice A1 n c1, .func (Fn.func 60) #[] #[]] W fun r w' => r = .returned (.bool R) ∧ Ext W w') :
    Calls Tryz.prog 27 #[.agg #[.int .i64 4, .int .i64 ss, .int .i64 tx, .int .i64 st, .int .i64 er, .int .i64 ct, .slice A1 n c1, .slice B1 m d1]] w fun r w' => r = .returned (.bool (okF 4 ss tx st er ct n m (!U) (!R))) ∧ Ext w w' := by
  have HCW := hid hcw
  have HCR := hid hcr
  clear hcw hcr
  have HN : Hid (∀ W, Calls Tryz.prog 55 #[.int .i64 4] W fun e w' => e = .returned (.int .i64 3) ∧ w' = W) := fun W => by
    have h := numbers_any 4 W
    rw [show (if (11 : Int) ≤ 4 ∧ (4 : Int) ≤ 13 then (0 : Int) else if (4 : Int) = 5 ∨ (4 : Int) = 7 ∨ (4 : Int) = 10 then 4 else 3) = 3 from rfl] at h
    exact h
  have HB := hid (Blk.of_new w 36 [.int .i64 4, .int .i64 ss, .int .i64 tx, .int .i64 st, .int .i64 er, .int .i64 ct, .slice A1 n c1, .slice B1 m d1])
  have HX := hid ((Ext.refl w).alloc (.cells #[.int .i64 4, .int .i64 ss, .int .i64 tx, .int .i64 st, .int .i64 er, .int .i64 ct, .slice A1 n c1, .slice B1 m d1] 36))
  go_enter Tryz.func27, Tryz.ntmps27
  go_upto_region 1 with fail
  generalize w.alloc (.cells #[.int .i64 4, .int .i64 ss, .int .i64 tx, .int .i64 st, .int .i64 er, .int .i64 ct, .slice A1 n c1, .slice B1 m d1] 36) = W1 at *
  generalize w.heap.size = g at *
  have p0 := HB.out.cell 0
  have p1 := HB.out.cell 1
  have p2 := HB.out.cell 2
  have p3 := HB.out.cell 3
  have p4 := HB.out.cell 4
  have p5 := HB.out.cell 5
  have p6 := HB.out.cell 6
  have p7 := HB.out.cell 7
  simp only [List.getElem?_cons_succ, List.getElem?_cons_zero] at p0 p1 p2 p3 p4 p5 p6 p7
  cases U
  all_goals
    go_wp2_with (first | (go_at_call 55; refine (HN.out _).mono ?_; rintro _ w2 ⟨rfl, rfl⟩) | (go_at_call 59; (with_reducible refine (HCR.out _ (HX.out.trans hx3)).mono ?_); rintro _ w4 ⟨rfl, hx4⟩) | (go_at_call 56; (with_reducible refine (HCW.out _ HX.out).mono ?_); rintro _ w3 ⟨rfl, hx3⟩; have e6 := (HB.out.ext hx3).cell 6; simp only [List.getElem?_cons_succ, List.getElem?_cons_zero] at e6))
  all_goals
    go_ret
    refine ⟨ret_bool ?_, ?_⟩
    · first | (simp [okF, *] <;> omega) | (simp [okF, *] <;> grind) | (simp_all [okF] <;> omega) | (unfold okF; grind)
    · first | exact (HX.out.trans hx3).trans hx4 | exact HX.out.trans hx3 | exact HX.out
end Go.Proofs.YtdjdhkbomhendaaGreatDoor
namespace Go.Proofs.YtdjdhkbomhendaaGreatDoor
open Go.RowKit
set_option linter.unusedVariables false
set_option linter.unusedSimpArgs false
set_option maxHeartbeats 4000000
set_option maxRecDepth 100000

theorem valid_5 (ss tx st er ct : Int) (A1 B1 : Option Addr) (n m c1 d1 : Nat) (U R : Bool) (w : World) 
    (hcw : ∀ W, Ext w W → Calls Tryz.prog 56 #[.slice B1 m d1, .func (Fn.func 57) #[] #[]] W fun r w' => r = .returned (.bool U) ∧ Ext W w')
    (hcr : ∀ W, Ext w W → Calls Tryz.prog 59 #[.slice A1 n c1, .func (Fn.func 60) #[] #[]] W fun r w' => r = .returned (.bool R) ∧ Ext W w') :
    Calls Tryz.prog 27 #[.agg #[.int .i64 5, .int .i64 ss, .int .i64 tx, .int .i64 st, .int .i64 er, .int .i64 ct, .slice A1 n c1, .slice B1 m d1]] w fun r w' => r = .returned (.bool (okF 5 ss tx st er ct n m (!U) (!R))) ∧ Ext w w' := by
  have HCW := hid hcw
  have HCR := hid hcr
  clear hcw hcr
  have HN : Hid (∀ W, Calls Tryz.prog 55 #[.int .i64 5] W fun e w' => e = .returned (.int .i64 4) ∧ w' = W) := fun W => by
    have h := numbers_any 5 W
    rw [show (if (11 : Int) ≤ 5 ∧ (5 : Int) ≤ 13 then (0 : Int) else if (5 : Int) = 5 ∨ (5 : Int) = 7 ∨ (5 : Int) = 10 then 4 else 3) = 4 from rfl] at h
    exact h
  have HB := hid (Blk.of_new w 36 [.int .i64 5, .int .i64 ss, .int .i64 tx, .int .i64 st, .int .i64 er, .int .i64 ct, .slice A1 n c1, .slice B1 m d1])
  have HX := hid ((Ext.refl w).alloc (.cells #[.int .i64 5, .int .i64 ss, .int .i64 tx, .int .i64 st, .int .i64 er, .int .i64 ct, .slice A1 n c1, .slice B1 m d1] 36))
  go_enter Tryz.func27, Tryz.ntmps27
  go_upto_region 1 with fail
  generalize w.alloc (.cells #[.int .i64 5, .int .i64 ss, .int .i64 tx, .int .i64 st, .int .i64 er, .int .i64 ct, .slice A1 n c1, .slice B1 m d1] 36) = W1 at *
  generalize w.heap.size = g at *
  have p0 := HB.out.cell 0
  have p1 := HB.out.cell 1
  have p2 := HB.out.cell 2
  have p3 := HB.out.cell 3
  have p4 := HB.out.cell 4
  have p5 := HB.out.cell 5
  have p6 := HB.out.cell 6
  have p7 := HB.out.cell 7
  simp only [List.getElem?_cons_succ, List.getElem?_cons_zero] at p0 p1 p2 p3 p4 p5 p6 p7
  cases U
  all_goals
    go_wp2_with (first | (go_at_call 55; refine (HN.out _).mono ?_; rintro _ w2 ⟨rfl, rfl⟩) | (go_at_call 59; (with_reducible refine (HCR.out _ (HX.out.trans hx3)).mono ?_); rintro _ w4 ⟨rfl, hx4⟩) | (go_at_call 56; (with_reducible refine (HCW.out _ HX.out).mono ?_); rintro _ w3 ⟨rfl, hx3⟩; have e6 := (HB.out.ext hx3).cell 6; simp only [List.getElem?_cons_succ, List.getElem?_cons_zero] at e6))
  all_goals
    go_ret
    refine ⟨ret_bool ?_, ?_⟩
    · first | (simp [okF, *] <;> omega) | (simp [okF, *] <;> grind) | (simp_all [okF] <;> omega) | (unfold okF; grind)
    · first | exact (HX.out.trans hx3).trans hx4 | exact HX.out.trans hx3 | exact HX.out
theorem valid_o (kd ss tx st er ct : Int) (A1 B1 : Option Addr) (n m c1 d1 : Nat) (U R : Bool) (w : World) (h1 : 1 ≤ kd) (h2 : kd ≤ 10) (n7 : kd ≠ 7) (n10 : kd ≠ 10) (n2 : kd ≠ 2) (n4 : kd ≠ 4) (n5 : kd ≠ 5)
    (hcw : ∀ W, Ext w W → Calls Tryz.prog 56 #[.slice B1 m d1, .func (Fn.func 57) #[] #[]] W fun r w' => r = .returned (.bool U) ∧ Ext W w')
    (hcr : ∀ W, Ext w W → Calls Tryz.prog 59 #[.slice A1 n c1, .func (Fn.func 60) #[] #[]] W fun r w' => r = .returned (.bool R) ∧ Ext W w') :
    Calls Tryz.prog 27 #[.agg #[.int .i64 kd, .int .i64 ss, .int .i64 tx, .int .i64 st, .int .i64 er, .int .i64 ct, .slice A1 n c1, .slice B1 m d1]] w fun r w' => r = .returned (.bool (okF kd ss tx st er ct n m (!U) (!R))) ∧ Ext w w' := by
  have b7 : (kd == 7) = false := by simpa using n7
  have b10 : (kd == 10) = false := by simpa using n10
  have b2 : (kd == 2) = false := by simpa using n2
  have b4 : (kd == 4) = false := by simpa using n4
  have b5 : (kd == 5) = false := by simpa using n5
  have a1 : ¬ kd < 1 := by omega
  have a2 : ¬ 13 < kd := by omega
  have HCW := hid hcw
  have HCR := hid hcr
  clear hcw hcr
  have HN : Hid (∀ W, Calls Tryz.prog 55 #[.int .i64 kd] W fun e w' => e = .returned (.int .i64 3) ∧ w' = W) := fun W => by
    have h := numbers_any kd W
    clear b7 b10 b2 b4 b5 a1 a2
    rw [if_neg (by omega), if_neg (by omega)] at h
    exact h
  clear h1 h2 n7 n10 n2 n4 n5
  have HB := hid (Blk.of_new w 36 [.int .i64 kd, .int .i64 ss, .int .i64 tx, .int .i64 st, .int .i64 er, .int .i64 ct, .slice A1 n c1, .slice B1 m d1])
  have HX := hid ((Ext.refl w).alloc (.cells #[.int .i64 kd, .int .i64 ss, .int .i64 tx, .int .i64 st, .int .i64 er, .int .i64 ct, .slice A1 n c1, .slice B1 m d1] 36))
  go_enter Tryz.func27, Tryz.ntmps27
  go_upto_region 1 with fail
  generalize w.alloc (.cells #[.int .i64 kd, .int .i64 ss, .int .i64 tx, .int .i64 st, .int .i64 er, .int .i64 ct, .slice A1 n c1, .slice B1 m d1] 36) = W1 at *
  generalize w.heap.size = g at *
  have p0 := HB.out.cell 0
  have p1 := HB.out.cell 1
  have p2 := HB.out.cell 2
  have p3 := HB.out.cell 3
  have p4 := HB.out.cell 4
  have p5 := HB.out.cell 5
  have p6 := HB.out.cell 6
  have p7 := HB.out.cell 7
  simp only [List.getElem?_cons_succ, List.getElem?_cons_zero] at p0 p1 p2 p3 p4 p5 p6 p7
  cases U
  all_goals
    go_wp2_with (first | (go_at_call 55; refine (HN.out _).mono ?_; rintro _ w2 ⟨rfl, rfl⟩) | (go_at_call 59; (with_reducible refine (HCR.out _ (HX.out.trans hx3)).mono ?_); rintro _ w4 ⟨rfl, hx4⟩) | (go_at_call 56; (with_reducible refine (HCW.out _ HX.out).mono ?_); rintro _ w3 ⟨rfl, hx3⟩; have e6 := (HB.out.ext hx3).cell 6; simp only [List.getElem?_cons_succ, List.getElem?_cons_zero] at e6))
  all_goals
    go_ret
    refine ⟨ret_bool ?_, ?_⟩
    · first | (simp [okF, *] <;> omega) | (simp [okF, *] <;> grind) | (simp_all [okF] <;> omega) | (unfold okF; grind)
    · first | exact (HX.out.trans hx3).trans hx4 | exact HX.out.trans hx3 | exact HX.out
end Go.Proofs.YtdjdhkbomhendaaGreatDoor
namespace Go.Proofs.YtdjdhkbomhendaaGreatDoor
open Go.RowKit
set_option linter.unusedVariables false
set_option linter.unusedSimpArgs false
set_option maxHeartbeats 4000000
set_option maxRecDepth 100000

theorem valid_out (kd ss tx st er ct : Int) (A1 B1 : Option Addr) (n m c1 d1 : Nat) (w : World) (h : kd < 1 ∨ 13 < kd) :
    Calls Tryz.prog 27 #[.agg #[.int .i64 kd, .int .i64 ss, .int .i64 tx, .int .i64 st, .int .i64 er, .int .i64 ct, .slice A1 n c1, .slice B1 m d1]] w fun r w' => r = .returned (.bool false) ∧ Ext w w' := by
  rcases h with h | h
  · go_enter Tryz.func27, Tryz.ntmps27
    go_wp2_with fail
    go_ret
    exact ⟨rfl, (Ext.refl w).alloc _⟩
  · have h1 : ¬ kd < 1 := by omega
    go_enter Tryz.func27, Tryz.ntmps27
    go_wp2_with fail
    go_ret
    exact ⟨rfl, (Ext.refl w).alloc _⟩
theorem valid_bare (kd ss tx st er ct : Int) (A1 B1 : Option Addr) (n m c1 d1 : Nat) (V : Bool) (w : World) (h : 11 ≤ kd) (h' : kd ≤ 13)
    (hE : ∀ W g g2, Ext w W → Blk W g 36 [.int .i64 kd, .int .i64 ss, .int .i64 tx, .int .i64 st, .int .i64 er, .int .i64 ct, .slice A1 n c1, .slice B1 m d1] → Blk W g2 36 [.int .i64 kd, .int .i64 0, .int .i64 0, .int .i64 0, .int .i64 0, .int .i64 0, .slice none 0 0, .slice none 0 0] →
      Calls Tryz.prog 18 #[.slice (some ⟨g, 0, none⟩) 1 1, .slice (some ⟨g2, 0, none⟩) 1 1] W fun r w' => r = .returned (.bool V) ∧ Ext W w') :
    Calls Tryz.prog 27 #[.agg #[.int .i64 kd, .int .i64 ss, .int .i64 tx, .int .i64 st, .int .i64 er, .int .i64 ct, .slice A1 n c1, .slice B1 m d1]] w fun r w' => r = .returned (.bool V) ∧ Ext w w' := by
  have HE := hid hE
  have HN : Hid (∀ W, Calls Tryz.prog 55 #[.int .i64 kd] W fun e w' => e = .returned (.int .i64 0) ∧ w' = W) := fun W => by
    have hh := numbers_any kd W
    rw [if_pos ⟨h, h'⟩] at hh
    exact hh
  have a1 : ¬ kd < 1 := by omega
  have a2 : ¬ 13 < kd := by omega
  clear hE h h'
  have HB := hid (Blk.of_new w 36 [.int .i64 kd, .int .i64 ss, .int .i64 tx, .int .i64 st, .int .i64 er, .int .i64 ct, .slice A1 n c1, .slice B1 m d1])
  have HX := hid ((Ext.refl w).alloc (.cells #[.int .i64 kd, .int .i64 ss, .int .i64 tx, .int .i64 st, .int .i64 er, .int .i64 ct, .slice A1 n c1, .slice B1 m d1] 36))
  go_enter Tryz.func27, Tryz.ntmps27
  go_upto_region 1 with fail
  generalize w.alloc (.cells #[.int .i64 kd, .int .i64 ss, .int .i64 tx, .int .i64 st, .int .i64 er, .int .i64 ct, .slice A1 n c1, .slice B1 m d1] 36) = W1 at *
  generalize w.heap.size = g at *
  have p0 := HB.out.cell 0
  have p1 := HB.out.cell 1
  have p2 := HB.out.cell 2
  have p3 := HB.out.cell 3
  have p4 := HB.out.cell 4
  have p5 := HB.out.cell 5
  have p6 := HB.out.cell 6
  have p7 := HB.out.cell 7
  simp only [List.getElem?_cons_succ, List.getElem?_cons_zero] at p0 p1 p2 p3 p4 p5 p6 p7
  have k0 := fun o => ((Ext.refl W1).alloc o).keep p0
  go_wp2_with (go_at_call 55; refine (HN.out _).mono ?_; rintro _ w2 ⟨rfl, rfl⟩)
  have hb2 := Blk.of_new (w2.alloc (.cells #[.int .i64 kd, .int .i64 ss, .int .i64 tx, .int .i64 st, .int .i64 er, .int .i64 ct, .slice A1 n c1, .slice B1 m d1] 36)) 36 [.int .i64 kd, .int .i64 0, .int .i64 0, .int .i64 0, .int .i64 0, .int .i64 0, .slice none 0 0, .slice none 0 0]
  rw [show (w2.alloc (.cells #[.int .i64 kd, .int .i64 ss, .int .i64 tx, .int .i64 st, .int .i64 er, .int .i64 ct, .slice A1 n c1, .slice B1 m d1] 36)).heap.size = w2.heap.size + 1 by simp] at hb2
  refine (HE.out _ _ _ ((HX.out.alloc _).alloc _) ((Blk.of_new w2 36 [.int .i64 kd, .int .i64 ss, .int .i64 tx, .int .i64 st, .int .i64 er, .int .i64 ct, .slice A1 n c1, .slice B1 m d1]).ext ((Ext.refl _).alloc _)) hb2).mono ?_
  rintro _ w3 ⟨rfl, hx3⟩
  go_wp2_with fail
  go_ret
  exact ⟨rfl, ((HX.out.alloc _).alloc _).trans hx3⟩
/-- the texts in an event are not too long -/
def Ev.tx4 (e : Ev) : Prop := (∀ r ∈ e.rows, ∀ a ∈ r, a.t.size ≤ 4000000) ∧ ∀ x ∈ e.wts, ∀ a ∈ x.row, a.t.size ≤ 4000000
theorem evalid_any (e : Ev) (vr vw : Value) (w : World) (hr : RsAt w vr e.rows) (hw : WsAt w vw e.wts) (hf : e.fit) (ht : e.tx4) :
    Calls Tryz.prog 27 #[evV e vr vw] w fun r w' => r = .returned (.bool e.ok) ∧ Ext w w' := by
  obtain ⟨A1, c1, rfl, hr1⟩ := id hr
  obtain ⟨B1, d1, rfl, hw1⟩ := id hw
  have hcw := fun W (hW : Ext w W) => co_w 57 ent_valid1 (fun x => !x.ok) e.wts B1 e.wts.length d1 W rfl hf.2.1 (hw1.ext hW) fun x hx W' hW' v hv => valid1_any x v W' hv (hf.2.2.2 x hx) (ht.2 x hx)
  have hcr := fun W (hW : Ext w W) => co_r 60 ent_valid2 (fun x => !rowV x) e.rows A1 e.rows.length c1 W rfl hf.1 (hr1.ext hW) fun x hx W' hW' v hv => valid2_any v x W' hv (hf.2.2.1 x hx) (ht.1 x hx)
  have k1 := any_not Wt.ok e.wts
  have k2 := any_not rowV e.rows
  unfold evV
  rw [ok_form]
  by_cases h1 : e.kd < 1 ∨ 13 < e.kd
  · rw [if_pos h1]
    exact valid_out _ _ _ _ _ _ _ _ _ _ _ _ _ h1
  · rw [if_neg h1]
    by_cases h2 : 11 ≤ e.kd
    · rw [if_pos h2, ← bare_eq]
      refine valid_bare _ _ _ _ _ _ _ _ _ _ _ _ _ _ h2 (by omega) fun W g g2 hW hb hb2 => ?_
      exact hequal_any [e] [⟨e.kd, 0, 0, 0, 0, 0, [], []⟩] _ _ 1 1 1 1 W rfl rfl (by omega) (by omega) (evs_one e hb (hr.ext hW) (hw.ext hW))
        (evs_one ⟨e.kd, 0, 0, 0, 0, 0, [], []⟩ hb2 ⟨none, 0, rfl, fun i r h => by simp at h⟩ ⟨none, 0, rfl, fun i r h => by simp at h⟩)
        (fun r h => by obtain rfl := List.mem_singleton.1 h; exact hf) (fun r h => by
          obtain rfl := List.mem_singleton.1 h
          exact ⟨by simp, by simp, fun r h => by simp at h, fun r h => by simp at h⟩)
    · rw [if_neg h2, ← k1, ← k2]
      obtain ⟨kd, ss, tx, st, er, ct, rows, wts⟩ := e
      simp only at *
      by_cases e7 : kd = 7
      · subst e7
        exact valid_7 _ _ _ _ _ _ _ _ _ _ _ _ _ _ hcw hcr
      by_cases e10 : kd = 10
      · subst e10
        exact valid_10 _ _ _ _ _ _ _ _ _ _ _ _ _ _ hcw hcr
      by_cases e2 : kd = 2
      · subst e2
        exact valid_2 _ _ _ _ _ _ _ _ _ _ _ _ _ _ hcw hcr
      by_cases e4 : kd = 4
      · subst e4
        exact valid_4 _ _ _ _ _ _ _ _ _ _ _ _ _ _ hcw hcr
      by_cases e5 : kd = 5
      · subst e5
        exact valid_5 _ _ _ _ _ _ _ _ _ _ _ _ _ _ hcw hcr
      exact valid_o _ _ _ _ _ _ _ _ _ _ _ _ _ _ _ (by omega) (by omega) e7 e10 e2 e4 e5 hcw hcr
end Go.Proofs.YtdjdhkbomhendaaGreatDoor
