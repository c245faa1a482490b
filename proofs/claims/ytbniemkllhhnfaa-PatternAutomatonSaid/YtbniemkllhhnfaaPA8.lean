/-
  The memory of the automaton under way.
-/
import Derived.Test.YtbniemkllhhnfaaPA7
namespace Go.Proofs.Ytbniemkllhhnfaa
open Go.RowKit
set_option linter.unusedVariables false
set_option linter.unusedSimpArgs false
set_option maxHeartbeats 1000000
set_option maxRecDepth 100000

theorem nOwn_grown {w w' : World} {B e sz n : Nat} {v : Value} {xs : List Value} {b : Option Nat} (h : w.ownsRow B e sz v n xs) (hg : w.grownBy w' b) (hne : ∀ q, v.ownBlock = some q → b ≠ some q) : w'.ownsRow B e sz v n xs :=
  nOwn_same h fun q hq => hg.block q (h.lt q hq).2 fun e => hne q hq e.symm
theorem grown_ext {w w' : World} (hx : Ext w w') : w.grownBy w' none := ⟨Below.os hx, Below.tape hx, Below.output hx, Below.size hx, fun i hi _ => Below.block hx i hi⟩
theorem grown_set (w : World) (p : Addr) (u : Value) : w.grownBy (w.setCell p u) (some p.block) := ⟨rfl, rfl, rfl, by simp [World.setCell], fun i _ hi => Below.heap_setCell w p u i (fun e => hi (by rw [e]))⟩
/-- lists of edges in a row, off the blocks of which P does not hold -/
def EdsP (P : Nat → Prop) (B T : Nat) (w : World) (v : Value) (Es : List (List Ed)) : Prop := ∃ vs : List Value, w.ownsRow B T 1 v Es.length vs ∧ ∀ (i : Nat) (E : List Ed) (u : Value), Es[i]? = some E → vs[i]? = some u → EdgB P w u E
theorem EdsP.grown {P P' : Nat → Prop} {B T : Nat} {w w' : World} {v : Value} {Es : List (List Ed)} {b : Option Nat} (h : EdsP P B T w v Es) (hg : w.grownBy w' b) (hne : ∀ q, v.ownBlock = some q → b ≠ some q) (hP : ∀ q, P q → b ≠ some q) (hPP : ∀ q, q < w.heap.size → P q → P' q) : EdsP P' B T w' v Es := by
  obtain ⟨vs, h1, h2⟩ := h
  exact ⟨vs, nOwn_grown h1 hg hne, fun i E u hE hu => (h2 i E u hE hu).mono hg.size (fun q hq hp => hg.block q hq fun e => hP q hp e.symm) hPP⟩
theorem EdgB.grown {P P' : Nat → Prop} {w w' : World} {v : Value} {E : List Ed} {b : Option Nat} (h : EdgB P w v E) (hg : w.grownBy w' b) (hP : ∀ q, P q → b ≠ some q) (hPP : ∀ q, q < w.heap.size → P q → P' q) : EdgB P' w' v E :=
  h.mono hg.size (fun q hq hp => hg.block q hq fun e => hP q hp e.symm) hPP
theorem EdsP.at_ {P : Nat → Prop} {B T : Nat} {w : World} {v : Value} {Es : List (List Ed)} (h : EdsP P B T w v Es) : ∃ A c, v = .slice A Es.length c ∧ EdsAt w A Es := by
  obtain ⟨vs, h1, h2⟩ := h
  obtain ⟨A, c, rfl⟩ := nOwn_slice h1
  refine ⟨A, c, rfl, fun i E hE => ?_⟩
  have hi := (List.getElem?_eq_some_iff.1 hE).1
  have hl : i < vs.length := by have := h1.1; omega
  have hu := List.getElem?_eq_getElem hl
  obtain ⟨g, c', e0, h0⟩ := nOwn_cell h1 hu
  injection e0 with e0 _ _
  exact ⟨g, 0, _, e0, by simpa using h0, (h2 i E _ hE hu).at_⟩
def natV (l : List Nat) : List Value := l.map fun (s : Nat) => .int .u32 (s : Int)
def booV (l : List Bool) : List Value := l.map fun b => .bool b
theorem natV_get {l : List Nat} {i s : Nat} (h : l[i]? = some s) : (natV l)[i]? = some (.int .u32 (s : Int)) := by unfold natV; rw [List.getElem?_map, h]; rfl
theorem natV_app (l : List Nat) (s : Nat) : natV (l ++ [s]) = natV l ++ [.int .u32 (s : Int)] := by simp [natV]
theorem booV_app (l : List Bool) (b : Bool) : booV (l ++ [b]) = booV l ++ [.bool b] := by simp [booV]
theorem booV_at {w : World} {B T : Nat} {A : Option Addr} {n c : Nat} {l : List Bool} (h : w.ownsRow B T 1 (.slice A n c) n (booV l)) : AccAt w A l := fun i b hb => by
  obtain ⟨g, c', e0, h0⟩ := nOwn_cell h (show (booV l)[i]? = some (.bool b) by unfold booV; rw [List.getElem?_map, hb]; rfl)
  injection e0 with e0 _ _
  exact ⟨g, 0, e0, by simpa using h0⟩
end Go.Proofs.Ytbniemkllhhnfaa
