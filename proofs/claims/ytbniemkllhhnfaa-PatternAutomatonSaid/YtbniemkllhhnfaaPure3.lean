/-
  Plain functions for the references of the pattern package.
-/
import Derived.Test.YtbniemkllhhnfaaPure2
namespace Go.Proofs.Ytbniemkllhhnfaa
open Go.RowKit

/-- some suffix has it -/
def anySfx (f : List Nat → Bool) : List Nat → Bool
  | [] => f []
  | c :: t => f (c :: t) || anySfx f t
/-- Match -/
def mtc : List Nat → List Nat → Bool
  | [], t => t.isEmpty
  | a :: p, t => if a = 37 then anySfx (mtc p) t else match t with | [] => false | c :: t' => (a == 95 || a == c) && mtc p t'

theorem mtc_pct (a : Nat) (p t : List Nat) (h : a = 37) : mtc (a :: p) t = anySfx (mtc p) t := by cases t <;> simp [mtc, h]
theorem mtc_pct_nil (a : Nat) (p : List Nat) (h : a = 37) : mtc (a :: p) [] = mtc p [] := by rw [mtc_pct a p [] h]; rfl
theorem mtc_pct_cons (a c : Nat) (p t : List Nat) (h : a = 37) : mtc (a :: p) (c :: t) = (mtc p (c :: t) || mtc (a :: p) t) := by rw [mtc_pct a p _ h, mtc_pct a p _ h]; rfl
theorem mtc_nil (a : Nat) (p : List Nat) (h : a ≠ 37) : mtc (a :: p) [] = false := by simp [mtc, h]
theorem mtc_cons (a c : Nat) (p t : List Nat) (h : a ≠ 37) : mtc (a :: p) (c :: t) = ((a == 95 || a == c) && mtc p t) := by simp [mtc, h]
theorem N_cons (p : ByteArray) (h : 0 < p.size) : N p = p[0].toNat :: N (p.extract 1 p.size) := by
  rw [N_from]
  have h1 := N_get p 0 h
  cases hN : N p with
  | nil => rw [hN] at h1; cases h1
  | cons a l => rw [hN] at h1; simp at h1; rw [h1]; rfl
theorem N_nil (p : ByteArray) (h : p.size = 0) : N p = [] := List.eq_nil_of_length_eq_zero (by rw [N_len]; exact h)


/-- closed, after k steps -/
def rcStep (p : List Nat) (i : Nat) (x : List Nat) : List Nat := if at0 x i = 1 ∧ at0 p i = 37 then x.set (i + 1) 1 else x
def rcTo (p x : List Nat) : Nat → List Nat
  | 0 => x
  | k + 1 => rcStep p k (rcTo p x k)
def rclo (p x : List Nat) : List Nat := rcTo p x p.length
/-- step of a pattern, before closed, after k steps -/
def rnA (p s : List Nat) (i : Nat) (o : List Nat) : List Nat := if at0 s i = 1 ∧ at0 p i = 37 then o.set i 1 else o
def rnB (p s : List Nat) (c i : Nat) (o : List Nat) : List Nat := if at0 s i = 1 ∧ (at0 p i = 95 ∨ at0 p i = c ∧ c ≠ 37) then o.set (i + 1) 1 else o
def rnTo (p s : List Nat) (c : Nat) : Nat → List Nat
  | 0 => List.replicate (p.length + 1) 0
  | k + 1 => rnB p s c k (rnA p s k (rnTo p s c k))
def rnLike (p s : List Nat) (c : Nat) : List Nat := rclo p (rnTo p s c p.length)
def rnCmp (p s : List Nat) (c : Nat) : List Nat :=
  if at0 s 0 ≠ 61 then s else if at0 s 1 = p.length ∨ at0 p (at0 s 1) < c then [62] else if c < at0 p (at0 s 1) then [60] else [61, at0 s 1 + 1]

theorem rcTo_len (p x : List Nat) (k : Nat) : (rcTo p x k).length = x.length := by
  induction k with
  | zero => rfl
  | succ k ih => unfold rcTo rcStep; split <;> simp [ih]
theorem rcTo_lt (p x : List Nat) (k : Nat) (h : ∀ y ∈ x, y < 256) : ∀ y ∈ rcTo p x k, y < 256 := by
  induction k with
  | zero => exact h
  | succ k ih =>
    unfold rcTo rcStep
    split
    · intro y hy
      rcases List.mem_or_eq_of_mem_set hy with h | h
      · exact ih y h
      · omega
    · exact ih
theorem rnTo_len (p s : List Nat) (c k : Nat) : (rnTo p s c k).length = p.length + 1 := by
  induction k with
  | zero => simp [rnTo]
  | succ k ih => unfold rnTo rnB rnA; split <;> split <;> simp [ih]
theorem rnTo_lt (p s : List Nat) (c k : Nat) : ∀ y ∈ rnTo p s c k, y < 256 := by
  induction k with
  | zero => intro y hy; simp [rnTo] at hy; omega
  | succ k ih =>
    have h1 : ∀ y ∈ rnA p s k (rnTo p s c k), y < 256 := by
      unfold rnA
      split
      · intro y hy
        rcases List.mem_or_eq_of_mem_set hy with h | h
        · exact ih y h
        · omega
      · exact ih
    unfold rnTo rnB
    split
    · intro y hy
      rcases List.mem_or_eq_of_mem_set hy with h | h
      · exact h1 y h
      · omega
    · exact h1

end Go.Proofs.Ytbniemkllhhnfaa
