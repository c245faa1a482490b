/-
  The automaton under way, in plain Lean.
-/
import Derived.Test.YtbniemkllhhnfaaPA9
namespace Go.Proofs.Ytbniemkllhhnfaa
open Go.RowKit
set_option linter.unusedVariables false
set_option linter.unusedSimpArgs false
set_option maxHeartbeats 1000000

structure AI (kd : Int) (ng : Bool) (p sts : List Nat) (acc : List Bool) (Es : List (List Ed)) (i : Nat) : Prop where
  first : sts[0]? = some (beg kd p)
  nodup : sts.Nodup
  reach : ∀ s ∈ sts, Reach kd p s
  le : i ≤ sts.length
  accs : acc = (sts.take i).map fun s => okOf kd p.length s != ng
  len : Es.length = i
  cov : ∀ (j : Nat) (E : List Ed), Es[j]? = some E → ∃ s, sts[j]? = some s ∧ Cov sts (nx kd p s) E 127
theorem AI.start (kd : Int) (ng : Bool) (p : List Nat) : AI kd ng p [beg kd p] [] [] 0 :=
  ⟨rfl, by simp, fun s hs => by rw [List.mem_singleton.1 hs]; exact .start, Nat.zero_le _, rfl, rfl, by simp⟩
theorem AI.push {kd : Int} {ng : Bool} {p sts : List Nat} {acc : List Bool} {Es : List (List Ed)} {i s : Nat} (h : AI kd ng p sts acc Es i) (hs : s ∉ sts) (hr : Reach kd p s) : AI kd ng p (sts ++ [s]) acc Es i := by
  have h0 := (List.getElem?_eq_some_iff.1 h.first).1
  refine ⟨by rw [List.getElem?_append_left h0]; exact h.first, ?_, fun x hx => ?_, by rw [List.length_append]; have := h.le; omega, by rw [List.take_append_of_le_length h.le]; exact h.accs, h.len, fun j E hE => ?_⟩
  · rw [List.nodup_append]
    exact ⟨h.nodup, by simp, fun a ha b hb e => hs (by rw [← List.mem_singleton.1 hb, ← e]; exact ha)⟩
  · rcases List.mem_append.1 hx with hx | hx
    · exact h.reach x hx
    · rw [List.mem_singleton.1 hx]; exact hr
  · obtain ⟨x, hx, hc⟩ := h.cov j E hE
    exact ⟨x, by rw [List.getElem?_append_left (List.getElem?_eq_some_iff.1 hx).1]; exact hx, hc.grow [s]⟩
theorem AI.next {kd : Int} {ng : Bool} {p sts : List Nat} {acc : List Bool} {Es : List (List Ed)} {E : List Ed} {i s : Nat} (h : AI kd ng p sts acc Es i) (hs : sts[i]? = some s) (hc : Cov sts (nx kd p s) E 127) : AI kd ng p sts (acc ++ [okOf kd p.length s != ng]) (Es ++ [E]) (i + 1) := by
  obtain ⟨hi, hsi⟩ := List.getElem?_eq_some_iff.1 hs
  refine ⟨h.first, h.nodup, h.reach, hi, ?_, by rw [List.length_append, List.length_singleton, h.len], fun j F hF => ?_⟩
  · rw [List.take_succ_eq_append_getElem hi, List.map_append, ← h.accs, hsi]; rfl
  · by_cases hj : j < Es.length
    · rw [List.getElem?_append_left hj] at hF
      exact h.cov j F hF
    · have h1 := (List.getElem?_eq_some_iff.1 hF).1
      rw [List.length_append, List.length_singleton] at h1
      obtain rfl : j = Es.length := by omega
      rw [List.getElem?_append_right (Nat.le_refl _), Nat.sub_self] at hF
      obtain rfl : E = F := by simpa using hF
      exact ⟨s, by rw [h.len]; exact hs, hc⟩
theorem AI.done {kd : Int} {ng : Bool} {p sts : List Nat} {acc : List Bool} {Es : List (List Ed)} {i : Nat} (h : AI kd ng p sts acc Es i) (hi : i = sts.length) : Aut kd p sts Es ∧ acc = sts.map (fun s => okOf kd p.length s != ng) := by
  subst hi
  exact ⟨⟨h.first, h.len, h.cov⟩, by have := h.accs; rwa [List.take_length] at this⟩
end Go.Proofs.Ytbniemkllhhnfaa
