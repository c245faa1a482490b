/-
  An automaton of edges that covers the printable characters runs as the test does; no program in sight.
-/
import Derived.Test.YtbniemkllhhnfaaPure12
import Derived.Test.YtbniemkllhhnfaaPure6
namespace Go.Proofs.Ytbniemkllhhnfaa
open Go.RowKit

/-- one step of the reference -/
def stepE (E : List Ed) (c : Nat) : Option Nat := (E.find? fun e => decide (e.lo ≤ c) && decide (c ≤ e.hi)).map Ed.to
/-- a whole automaton: its states, its edges -/
structure Aut (kd : Int) (p : List Nat) (sts : List Nat) (Es : List (List Ed)) : Prop where
  first : sts[0]? = some (beg kd p)
  len : Es.length = sts.length
  cov : ∀ (i : Nat) (E : List Ed), Es[i]? = some E → ∃ s, sts[i]? = some s ∧ Cov sts (nx kd p s) E 127
theorem step_cov {sts : List Nat} {f : Nat → Nat} {E : List Ed} (h : Cov sts f E 127) {c : Nat} (h1 : 32 ≤ c) (h2 : c ≤ 126) : ∃ j, stepE E c = some j ∧ sts[j]? = some (f c) := by
  obtain ⟨i, e, he, h3, h4⟩ := h.has c h1 (by omega)
  unfold stepE
  cases hf : E.find? fun e => decide (e.lo ≤ c) && decide (c ≤ e.hi) with
  | none =>
    have := List.find?_eq_none.1 hf e (List.mem_of_getElem? he)
    simp [h3, h4] at this
  | some x =>
    have hx := List.find?_some hf
    simp only [Bool.and_eq_true, decide_eq_true_eq] at hx
    obtain ⟨k, hk⟩ := List.getElem?_of_mem (List.mem_of_find?_eq_some hf)
    exact ⟨x.to, rfl, h.goes k x hk c hx.1 hx.2⟩
/-- the state after a text -/
def runE (Es : List (List Ed)) : List Nat → Nat → Option Nat
  | [], s => some s
  | c :: t, s => match Es[s]? with
    | none => none
    | some E => match stepE E c with
      | none => none
      | some j => runE Es t j
theorem run_aut {kd : Int} {p sts : List Nat} {Es : List (List Ed)} (h : Aut kd p sts Es) : ∀ (t : List Nat) (i s : Nat), prn t = true → sts[i]? = some s → ∃ j, runE Es t i = some j ∧ sts[j]? = some (run kd p t s)
  | [], i, s, _, hs => ⟨i, rfl, hs⟩
  | c :: t, i, s, ht, hs => by
    unfold prn at ht
    simp only [List.all_cons, Bool.and_eq_true, decide_eq_true_eq] at ht
    have hi : i < Es.length := by rw [h.len]; exact (List.getElem?_eq_some_iff.1 hs).1
    have hE := List.getElem?_eq_getElem hi
    obtain ⟨s', hs', hc⟩ := h.cov i _ hE
    obtain rfl : s = s' := Option.some.inj (hs.symm.trans hs')
    obtain ⟨j, h1, h2⟩ := step_cov hc ht.1.1 ht.1.2
    obtain ⟨k, h3, h4⟩ := run_aut h t j _ ht.2 h2
    refine ⟨k, ?_, h4⟩
    rw [runE, hE]
    dsimp only
    rw [h1]
    exact h3
end Go.Proofs.Ytbniemkllhhnfaa
