/-
  Plain: what numbering leaves.
-/
import Derived.Test.YtcdnodjcnofogaaGreatDoorW30
namespace Go.Proofs.YtcdnodjcnofogaaGreatDoor
open Go.RowKit
set_option linter.unusedVariables false
set_option linter.unusedSimpArgs false

theorem num_mk (n : Int) (d : Nd) (ks : List Ex) : (Ex.mk d ks).num n = .mk { d with ix := n } (ks.map (Ex.num n)) := by rw [Ex.num, numL_map]
theorem num_nodes (n : Int) (e : Ex) : (e.num n).nodes = e.nodes := by
  induction e using Ex.ind with
  | h d ks ih =>
    rw [num_mk, Ex.nodes, Ex.nodes]
    have : nodesL (ks.map (Ex.num n)) = nodesL ks := by
      clear d
      induction ks with
      | nil => rfl
      | cons a l ih2 => rw [List.map_cons, nodesL, nodesL, ih a (by simp), ih2 fun e he => ih e (by simp [he])]
    rw [this]
theorem num_depth (n : Int) (e : Ex) : (e.num n).depth = e.depth := by
  induction e using Ex.ind with
  | h d ks ih =>
    rw [num_mk, Ex.depth, Ex.depth]
    have : depthL (ks.map (Ex.num n)) = depthL ks := by
      clear d
      induction ks with
      | nil => rfl
      | cons a l ih2 => rw [List.map_cons, depthL, depthL, ih a (by simp), ih2 fun e he => ih e (by simp [he])]
    rw [this]
theorem num_op (n : Int) (e : Ex) : (e.num n).d.op = e.d.op := by rw [num_d]
theorem num_pl (n : Int) (e : Ex) : (e.num n).pl = e.pl := by
  induction e using Ex.ind with
  | h d ks ih =>
    rw [num_mk, Ex.pl, Ex.pl]
    have : plL (ks.map (Ex.num n)) = plL ks := by
      clear d
      induction ks with
      | nil => rfl
      | cons a l ih2 => rw [List.map_cons, plL, plL, num_op, ih a (by simp), ih2 fun e he => ih e (by simp [he])]
    rw [this]
    rfl
theorem num_tx (n : Int) (e : Ex) (r : Int) : (e.num n).tx r = e.tx r := by unfold Ex.tx; rw [num_pl, num_op]
theorem num_ndB (n : Int) (d : Nd) (ks : List Ex) : ndB { d with ix := n } ((ks.map (Ex.num n)).map Ex.d) = ndB d (ks.map Ex.d) := by
  match ks with
  | [] => rfl
  | [a] => rfl
  | a :: b :: l =>
    simp only [List.map_cons, num_d]
    rfl
theorem num_formed (n : Int) (e : Ex) : (e.num n).formed = e.formed := by
  induction e using Ex.ind with
  | h d ks ih =>
    rw [num_mk, Ex.formed, Ex.formed, num_ndB, List.length_map]
    have : formedL (ks.map (Ex.num n)) = formedL ks := by
      clear d
      induction ks with
      | nil => rfl
      | cons a l ih2 => rw [List.map_cons, formedL, formedL, ih a (by simp), ih2 fun e he => ih e (by simp [he])]
    rw [this]
theorem num_same (n : Int) (e : Ex) : e.same (e.num n) = true := by
  induction e using Ex.ind with
  | h d ks ih =>
    rw [num_mk, Ex.same, Bool.and_eq_true, sameL_iff]
    refine ⟨by simp [Nd.same], by simp, fun i x y hx hy => ?_⟩
    rw [List.getElem?_map, hx] at hy
    obtain rfl := Option.some.inj hy
    exact ih x (List.mem_of_getElem? hx)
theorem num_valid (n : Int) (e : Ex) : validE (e.num n) = validE e := by
  unfold validE
  rw [large_one, large_one, num_nodes, num_depth, num_formed]
theorem num_text (n : Int) (e : Ex) : textE (e.num n) = textE e := by
  unfold textE
  rw [num_valid, num_tx]
end Go.Proofs.YtcdnodjcnofogaaGreatDoor
