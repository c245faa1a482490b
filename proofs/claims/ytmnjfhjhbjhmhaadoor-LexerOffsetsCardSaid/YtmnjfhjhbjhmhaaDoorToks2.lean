/-
  Slices of tokens with the room behind them.
-/
import Derived.Test.YtmnjfhjhbjhmhaaDoorW21
namespace Go.Proofs.YtmnjfhjhbjhmhaaDoor
open Go.RowKit
set_option linter.unusedVariables false
set_option maxRecDepth 100000
theorem own_tks2 {w : World} {B e n : Nat} {v : Value} {l : List Tk} (h : w.ownsRow B e 3 v n (tkc l)) : ∃ A c, v = .slice A n c ∧ TksAt w A l ∧ l.length = n ∧ n ≤ c := by
  obtain ⟨A, c, rfl, h1, h2⟩ := own_tks h
  refine ⟨A, c, rfl, h1, h2, ?_⟩
  rcases h.2 with ⟨hv, h0⟩ | ⟨g, cap, cur, hv, _, _, hnc, _⟩
  · omega
  · simp only [Value.slice.injEq] at hv
    obtain ⟨_, _, rfl⟩ := hv
    exact hnc
def TokRes2 (x : Ls) (v : Value) (w : World) : Prop := ∃ A c, v = .tuple #[.slice A (lsL x).length c, .int .i64 (lsP x), .int .i64 (lsE x)] ∧ TksAt w A (lsL x) ∧ (lsL x).length ≤ c
theorem TokRes2.bad (a e : Nat) (w : World) : TokRes2 (.bad a e) (.tuple #[.slice none 0 0, .int .i64 a, .int .i64 e]) w := ⟨none, 0, rfl, fun i t h => by simp [lsL] at h, Nat.le_refl _⟩
end Go.Proofs.YtmnjfhjhbjhmhaaDoor
