/-
  A cell of a row of the call's own is written; the last edge goes on.
-/
import Derived.Test.YtbniemkllhhnfaaPAA
namespace Go.Proofs.Ytbniemkllhhnfaa
open Go.RowKit
set_option linter.unusedVariables false
set_option linter.unusedSimpArgs false
set_option maxHeartbeats 1000000
set_option maxRecDepth 100000

theorem nOwn_set {w : World} {B T sz n c g : Nat} {xs : List Value} (h : w.ownsRow B T sz (.slice (some ⟨g, 0, none⟩) n c) n xs) {j : Nat} (hj : j < xs.length) (u : Value) : (w.setCell ⟨g, j, none⟩ u).ownsRow B T sz (.slice (some ⟨g, 0, none⟩) n c) n (xs.set j u) := by
  obtain ⟨h1, h2⟩ := h
  refine ⟨by simpa using h1, ?_⟩
  rcases h2 with ⟨h2, _⟩ | ⟨g2, cap, cur, hv, hg, hh, hn, hc, hs, ht⟩
  · cases h2
  · simp only [Value.slice.injEq, Option.some.injEq, Addr.mk.injEq, and_true, true_and] at hv
    obtain ⟨rfl, rfl⟩ := hv
    refine .inr ⟨g, c, cur.setIfInBounds j u, rfl, hg, ?_, hn, hc, by simpa using hs, ?_⟩
    · simp [World.setCell, Array.getElem?_modify, hh]
    · rw [← ht]
      apply List.ext_getElem?
      intro i
      rw [List.getElem?_take, List.getElem?_set]
      have hj2 : j < n * sz := by omega
      have hjc : j < cur.size := by
        have := congrArg List.length ht
        simp at this
        omega
      by_cases hi : i < n * sz
      · rw [if_pos hi]
        by_cases hij : j = i
        · subst hij
          simp [hjc, hj2]
          try omega
        · simp [hij, List.getElem?_take, hi, List.getElem?_set]
      · rw [if_neg hi, if_neg (by omega), List.getElem?_take, if_neg hi]
theorem nOwn_frozen {w : World} {B T sz n c g : Nat} {xs : List Value} (h : w.ownsRow B T sz (.slice (some ⟨g, 0, none⟩) n c) n xs) (j : Nat) : w.frozen? ⟨g, j, none⟩ = false := by
  rcases h.2 with ⟨h2, _⟩ | ⟨g2, cap, cur, hv, hg, hh, _⟩
  · cases h2
  · simp only [Value.slice.injEq, Option.some.injEq, Addr.mk.injEq, and_true, true_and] at hv
    obtain ⟨rfl, rfl⟩ := hv
    simp [World.frozen?, hh]
theorem edC_len (E : List Ed) : (E.flatMap edC).length = E.length * 3 := by
  induction E with
  | nil => rfl
  | cons e E ih => rw [List.flatMap_cons, List.length_append, ih, List.length_cons]; simp [edC]; omega
theorem edC_wide (E : List Ed) (e : Ed) (c : Nat) : ((E ++ [e]).flatMap edC).set (E.length * 3 + 1) (.int .u8 (c : Int)) = (E ++ [(⟨e.lo, c, e.to⟩ : Ed)]).flatMap edC := by
  rw [List.flatMap_append, List.flatMap_append, List.set_append_right _ _ (by rw [edC_len]; omega), edC_len, show E.length * 3 + 1 - E.length * 3 = 1 by omega]
  rfl
theorem edC_to (E : List Ed) (e : Ed) : ((E ++ [e]).flatMap edC)[E.length * 3 + 2]? = some (.int .i64 e.to) := by
  rw [List.flatMap_append, List.getElem?_append_right (by rw [edC_len]; omega), edC_len, show E.length * 3 + 2 - E.length * 3 = 2 by omega]
  rfl
theorem edC_hi (E : List Ed) (e : Ed) : ((E ++ [e]).flatMap edC)[E.length * 3 + 1]? = some (.int .u8 e.hi) := by
  rw [List.flatMap_append, List.getElem?_append_right (by rw [edC_len]; omega), edC_len, show E.length * 3 + 1 - E.length * 3 = 1 by omega]
  rfl
theorem edC_put (E : List Ed) (c tn : Nat) : E.flatMap edC ++ [.int .u8 (c : Int), .int .u8 (c : Int), .int .i64 (tn : Int)] = (E ++ [(⟨c, c, tn⟩ : Ed)]).flatMap edC := by
  rw [List.flatMap_append]; simp [edC]
end Go.Proofs.Ytbniemkllhhnfaa
