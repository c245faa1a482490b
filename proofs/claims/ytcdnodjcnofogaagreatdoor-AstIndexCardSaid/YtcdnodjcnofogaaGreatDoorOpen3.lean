/-
  What a row's weights give of the first argument.
-/
import Derived.Test.YtcdnodjcnofogaaGreatDoorOpen2
namespace Go.Proofs.YtcdnodjcnofogaaGreatDoor
open Go
theorem weights_first {H : Type} {P : Program} {t : TypeId} {ts : List TypeId} {d : DataW H} {ds : List (DataW H)} (h : (DataW.weightsEach P (t :: ts) (d :: ds)).all (· ≤ reachBytes) = true) : ∀ v ∈ d.weights P t, v ≤ reachBytes := by
  intro v hv
  rw [DataW.weightsEach] at h
  have := List.all_eq_true.1 h v (List.mem_append.2 (.inl hv))
  simpa using this
end Go.Proofs.YtcdnodjcnofogaaGreatDoor
