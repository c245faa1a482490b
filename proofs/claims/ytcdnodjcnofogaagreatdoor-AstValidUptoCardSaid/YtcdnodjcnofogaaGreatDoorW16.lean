/-
  Walks: expr and plain, the canonical text.
-/
import Derived.Test.YtcdnodjcnofogaaGreatDoorW15
import Derived.Deep.Cut
import Derived.Deep.WholeRow
import Derived.Great.BuildSlice
import Derived.Great.Walk
namespace Go.Proofs.YtcdnodjcnofogaaGreatDoor
open Go.RowKit
set_option linter.unusedVariables false
set_option linter.unusedSimpArgs false
set_option maxHeartbeats 4000000
set_option maxRecDepth 100000

/-- what the library's variables hold -/
structure Gd (w : World) : Prop where
  sh : Sh w
  tab : Tab w
theorem Gd.ext {w w' : World} (h : Gd w) (hx : Ext w w') : Gd w' := ⟨h.sh.ext hx, h.tab.ext hx⟩
theorem Gd.can {w : World} (h : Gd w) {n : Int} (hn : I64 n) : Can w n := .inr ⟨h.tab, hn.1, hn.2⟩
theorem expr_of_plain (e : Ex) (r : Int) (A : Option Addr) (n c : Nat) (w : World) (hs : e.pl.size ≤ 100000)
    (hp : ∀ W, Ext w W → Calls Tryz.prog 105 #[e.d.val A n c] W fun r w' => r = .returned (.string e.pl) ∧ Ext W w') :
    Calls Tryz.prog 49 #[e.d.val A n c, .int .i64 r] w fun x w' => x = .returned (.string (e.tx r)) ∧ Ext w w' := by
  have HP := hid hp
  have HL := hid (level_any e A n c)
  have HT : Hid (e.tx r = brk e.d.op e.pl r) := rfl
  have HBk : Hid (∀ s, brk e.d.op s r = if lvl e.d.op < r then ⟨#[40]⟩ ++ s ++ ⟨#[41]⟩ else s) := fun _ => rfl
  have HB := hid (Blk.of_new w 35 (e.d.cells A n c))
  have HX := hid ((Ext.refl w).alloc (.cells (e.d.cells A n c).toArray 35))
  clear hp
  generalize e.tx r = R at *
  generalize e.pl = P at *
  by_cases hl : lvl e.d.op < r
  · have d1 : decide (lvl e.d.op < r) = true := by simpa using hl
    have HR : Hid (R = ⟨#[40]⟩ ++ P ++ ⟨#[41]⟩) := by unfold Hid; rw [HT.out, HBk.out, if_pos hl]
    clear hl HT HBk
    generalize lvl e.d.op = L at *
    unfold Nd.val at *
    unfold Nd.cells at *
    generalize e.d = d at *
    obtain ⟨op, tb, nm, ix, vk, vi, vt⟩ := d
    simp only at *
    go_enter Tryz.func49, Tryz.ntmps49
    go_wp2_with (first | (go_at_call 105; refine (HP.out _ HX.out).mono ?_; rintro _ w2 ⟨rfl, hx2⟩; have hb2 := HB.out.ext hx2; have c0 := hb2.cell 0; have c1 := hb2.cell 1; have c2 := hb2.cell 2; have c3 := hb2.cell 3; have c4 := hb2.cell 4; have c5 := hb2.cell 5; have c6 := hb2.cell 6; have c7 := hb2.cell 7; simp only [List.getElem?_cons_succ, List.getElem?_cons_zero] at c0 c1 c2 c3 c4 c5 c6 c7; clear hb2) | (go_at_call 106; refine (HL.out _).mono ?_; rintro _ w3 ⟨rfl, hx3⟩))
    go_ret
    exact ⟨ret_str HR.out.symm, (HX.out.trans hx2).trans hx3⟩
  · have d1 : decide (lvl e.d.op < r) = false := by simpa using hl
    have HR : Hid (R = P) := by unfold Hid; rw [HT.out, HBk.out, if_neg hl]
    clear hl HT HBk
    generalize lvl e.d.op = L at *
    unfold Nd.val at *
    unfold Nd.cells at *
    generalize e.d = d at *
    obtain ⟨op, tb, nm, ix, vk, vi, vt⟩ := d
    simp only at *
    go_enter Tryz.func49, Tryz.ntmps49
    go_wp2_with (first | (go_at_call 105; refine (HP.out _ HX.out).mono ?_; rintro _ w2 ⟨rfl, hx2⟩; have hb2 := HB.out.ext hx2; have c0 := hb2.cell 0; have c1 := hb2.cell 1; have c2 := hb2.cell 2; have c3 := hb2.cell 3; have c4 := hb2.cell 4; have c5 := hb2.cell 5; have c6 := hb2.cell 6; have c7 := hb2.cell 7; simp only [List.getElem?_cons_succ, List.getElem?_cons_zero] at c0 c1 c2 c3 c4 c5 c6 c7; clear hb2) | (go_at_call 106; refine (HL.out _).mono ?_; rintro _ w3 ⟨rfl, hx3⟩))
    go_ret
    exact ⟨ret_str HR.out.symm, (HX.out.trans hx2).trans hx3⟩
end Go.Proofs.YtcdnodjcnofogaaGreatDoor
