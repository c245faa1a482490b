/-
  Plain functions for the pattern package: the states along a text.
-/
import Derived.Test.YtbniemkllhhnfaaPure
namespace Go.Proofs.Ytbniemkllhhnfaa
open Go.RowKit

def beg (kd : Int) (p : List Nat) : Nat := if kd = 1 then clo p 1 else 0
def nx (kd : Int) (p : List Nat) (s c : Nat) : Nat := if kd = 1 then nxLike p s c else nxCmp p s c
/-- a state that can occur -/
def okSt (kd : Int) (n s : Nat) : Prop := if kd = 1 then s < 131072 else s ≤ n ∨ s = 100 ∨ s = 101
def run (kd : Int) (p : List Nat) (t : List Nat) (s : Nat) : Nat := t.foldl (nx kd p) s
/-- Passes -/
def psB (kd : Int) (ng : Bool) (p t : List Nat) : Bool := okOf kd p.length (run kd p t (beg kd p)) != ng

theorem okSt_lt (kd : Int) (n s : Nat) (hn : n ≤ 16) (h : okSt kd n s) : s < 131072 := by
  unfold okSt at h
  split at h
  · exact h
  · omega
theorem beg_ok (kd : Int) (p : List Nat) (hp : p.length ≤ 16) : okSt kd p.length (beg kd p) := by
  unfold okSt beg
  split
  · exact cloTo_lt _ _ _ (by omega) hp
  · omega
theorem nx_ok (kd : Int) (p : List Nat) (s c : Nat) (hp : p.length ≤ 16) (h : okSt kd p.length s) : okSt kd p.length (nx kd p s c) := by
  unfold okSt nx at *
  split
  · exact nxLike_lt _ _ _ hp
  · rename_i hk
    rw [if_neg hk] at h
    unfold nxCmp
    grind
theorem run_ok (kd : Int) (p t : List Nat) (s : Nat) (hp : p.length ≤ 16) (h : okSt kd p.length s) : okSt kd p.length (run kd p t s) := by
  unfold run
  induction t generalizing s with
  | nil => exact h
  | cons c t ih => exact ih _ (nx_ok kd p s c hp h)
theorem run_succ (kd : Int) (p : List Nat) (t : ByteArray) (s k : Nat) (hk : k < t.size) : run kd p ((N t).take (k + 1)) s = nx kd p (run kd p ((N t).take k) s) t[k].toNat := by
  rw [N_take_succ t k hk, run, List.foldl_append]; rfl

end Go.Proofs.Ytbniemkllhhnfaa
