/-
  The witness of a row that lists variables and bears a condition of its own.
-/
import Derived.Deep.DeepHandedRow
import Derived.LaidLaws
import Derived.JoinedCond
import Derived.Test.YtcdnodjcnofogaaGreatDoorShape
namespace Go.Proofs.YtcdnodjcnofogaaGreatDoor
open Go Go.RowKit
section
variable {H : Type} {enc : TypeId × Value → H}
theorem witness_upto {C : Checked} {os : Os} {f : FuncId} {fn : Func} {s : OpenSpec} {conds : List PathCond} {apart : Bool} {laid : List (String × DataW Unit)} (w0 : World) (args : Array Value) (hos : w0.os = os)
    (hsh : (w0.forCall (fun _ _ => 0) ⟨#[], args, []⟩).Shaped C.prog)
    (hok : Input.okWideB C.prog (w0.forCall (fun _ _ => 0) ⟨#[], args, []⟩) f ⟨#[], args, []⟩ = true)
    (hrow : s.preRow enc C.prog fn conds apart laid (w0.forCall (fun _ _ => 0) ⟨#[], args, []⟩).memory args) :
    ∃ (w : World) (tape : Tape) (i : Input), w.os = os ∧ (w.forCall tape i).Shaped C.prog ∧ i.vars = [] ∧ Input.okWide C.prog (w.forCall tape i) .any w.heap.size f i ∧
      s.preRow enc C.prog fn conds apart laid (w.forCall tape i).memory i.args ∧ ({} : Assume).holds C.prog (lone (Frame.enter C.prog f i.args .normal) [] (w.forCall tape i)) :=
  ⟨w0, fun _ _ => 0, ⟨#[], args, []⟩, hos, hsh, (Input.okWide_of_okWideB (base := 0) hok).1, (Input.okWide_of_okWideB hok).2, hrow, by
    simp only [Assume.holds]
    exact ⟨by simp, by simp, fun _ => Modest.zero, by simp, by simp⟩⟩
theorem preRow_of_test {P : Program} {f : Func} {s : OpenSpec} {conds : List PathCond} {apart : Bool} {laid : List (String × DataW Unit)} {w : World} {args : Array Value} (fuel : Nat) (k : (H : Type) → List (DataW H) → Bool) (hk : s.cond = some k)
    (ht : (DataW.whole enc P w f.params.toList s.vars apart args.toList fuel).any (fun x => conds.all (PathCond.test P ⟨f.params.toList, x.1, s.bare.plain.varTypes P, x.2.1⟩) && k H (x.1 ++ x.2.1)) = true)
    (hsz : s.bare.sizedB enc P f apart w args fuel = true) (hl : laidMetH P laid w) : s.preRow enc P f conds apart laid w args := by
  cases hx : DataW.whole enc P w f.params.toList s.vars apart args.toList fuel with
  | none => rw [hx] at ht; cases ht
  | some x =>
    rw [hx] at ht
    have h : conds.all (PathCond.test P ⟨f.params.toList, x.1, s.bare.plain.varTypes P, x.2.1⟩) = true ∧ k H (x.1 ++ x.2.1) = true := by simpa using ht
    exact OpenSpec.preRow_of_cond fuel hx h.1 (fun k' hk' => by rw [hk] at hk'; cases hk'; exact h.2) hsz hl
end
end Go.Proofs.YtcdnodjcnofogaaGreatDoor
