/-
  Opening a slice of bools.
-/
import Derived.Deep.Slices
import Derived.Deep.Fields
import Derived.ChangeSame
import Derived.ProofKit
import Derived.OpenShut
import Derived.ShutString
import Derived.Lib.SmallJoins
import Derived.Test.YtmnjfhjhbjhmhaaDoorShape
namespace Go.Proofs.YtmnjfhjhbjhmhaaDoor
open Go.ChangeShapes Go.WideShapes Go.Deep Go.RowKit
set_option linter.unusedVariables false
/-- a slice of bools, read -/
def BoolsAt (w : World) (A : Option Addr) (l : List Bool) : Prop :=
  ∀ (i : Nat) (a : Bool), l[i]? = some a → ∃ b off, A = some ⟨b, off, none⟩ ∧ w.cell? ⟨b, off + i, none⟩ = some (.bool a)
theorem BoolsAt.ext {w w' : World} {A : Option Addr} {l : List Bool} (h : BoolsAt w A l) (hx : Ext w w') : BoolsAt w' A l := fun i a ht => by
  obtain ⟨b, off, hA, h0⟩ := h i a ht
  exact ⟨b, off, hA, hx.keep h0⟩
theorem open_bools {H : Type} {enc : TypeId × Value → H} {W : World} {held : Bool} {fuel n c : Nat} {A : Option Addr} {x : DataW H × List MemPlace}
    (hf : DataW.trod enc Tryd.prog W 0 (fun _ => true) held fuel 33 [.slice A n c] = some x) :
    ∃ ts : List Bool, BoolsAt W A ts ∧ ts.length = n ∧ n ≤ maxLen := by
  have hC : Tryd.prog.cellsOf 4 = 1 := by kernel_rfl
  rcases open_slice Tryd.underlying33 hf with ⟨h, _⟩ | ⟨a, len, cap, m, f, D, Pl, hcs, _, hl, hm, hmm, _, hi⟩
  · simp only [List.cons.injEq, Value.slice.injEq, and_true] at h
    obtain ⟨rfl, rfl, rfl⟩ := h
    exact ⟨[], fun i t ht => by simp at ht, rfl, Nat.zero_le _⟩
  · simp only [List.cons.injEq, Value.slice.injEq, and_true] at hcs
    obtain ⟨rfl, rfl, rfl⟩ := hcs
    have hmn : n ≤ m := by rw [hmm]; split <;> omega
    have h2 : ∀ i, ∃ t : Bool, i < n → W.cell? (a.add i) = some (.bool t) := fun i => by
      by_cases hlt : i < n
      · obtain ⟨cs', hc, ht'⟩ := hi i (by omega)
        rw [hC] at hc
        obtain ⟨b, e, _⟩ := DataW.trod_bool Tryd.underlying4 ht'
        obtain ⟨_, hcl, hat⟩ := World.cells?_some hc
        have h0 := hat 0 (by decide)
        subst e
        refine ⟨b, fun _ => ?_⟩
        have e0 : (a.add (i * 1)).add 0 = a.add i := by simp [Addr.add]
        rw [e0] at h0
        rw [h0]
        rfl
      · exact ⟨true, fun h => absurd h hlt⟩
    obtain ⟨f, hfs⟩ := Classical.axiomOfChoice h2
    refine ⟨(List.range n).map f, fun i t ht => ?_, by simp, by omega⟩
    rw [List.getElem?_map] at ht
    have hlt : i < n := by
      by_cases h : i < n
      · exact h
      · rw [List.getElem?_eq_none (by simp; omega)] at ht; cases ht
    rw [List.getElem?_range hlt] at ht
    simp only [Option.map_some, Option.some.injEq] at ht
    subst ht
    have k0 := hfs i hlt
    have hsp : a.spot = none := by
      have k0 := hfs 0 (by omega)
      have e0 : a.add 0 = a := by simp [Addr.add]
      rw [e0] at k0
      exact spot_none k0
    obtain ⟨b, off, sp⟩ := a
    dsimp only at hsp
    subst hsp
    have hadd : (⟨b, off, none⟩ : Addr).add i = ⟨b, off + i, none⟩ := by unfold Addr.add; split <;> simp_all
    rw [hadd] at k0
    exact ⟨b, off, rfl, k0⟩
end Go.Proofs.YtmnjfhjhbjhmhaaDoor
