/-
  Plain functions for the references of the pattern package: step, final, Passes.
-/
import Derived.Test.YtbniemkllhhnfaaPure3
namespace Go.Proofs.Ytbniemkllhhnfaa
open Go.RowKit

def rbeg (kd : Int) (p : List Nat) : List Nat := if kd = 1 then rclo p ((List.replicate (p.length + 1) 0).set 0 1) else [61, 0]
def rnx (kd : Int) (p s : List Nat) (c : Nat) : List Nat := if kd = 1 then rnLike p s c else rnCmp p s c
def rok (kd : Int) (n : Nat) (l : List Nat) : Prop := if kd = 1 then l.length = n + 1 ∧ ∀ y ∈ l, y < 256 else l = [62] ∨ l = [60] ∨ ∃ i, i ≤ n ∧ l = [61, i]
def rfin (kd : Int) (n : Nat) (l : List Nat) : Bool :=
  if kd = 1 then at0 l n == 1 else
    kd == 0 && (at0 l 0 == 61 && at0 l 1 == n) || kd == 2 && (at0 l 0 == 60 || at0 l 0 == 61 && !(at0 l 0 == 61 && at0 l 1 == n)) ||
      kd == 3 && (at0 l 0 == 60 || at0 l 0 == 61 && !(at0 l 0 == 61 && at0 l 1 == n) || (at0 l 0 == 61 && at0 l 1 == n))
def rrun (kd : Int) (p t s : List Nat) : List Nat := t.foldl (rnx kd p) s
/-- the reference's Passes -/
def rpsB (kd : Int) (ng : Bool) (p t : List Nat) : Bool := rfin kd p.length (rrun kd p t (rbeg kd p)) != ng

theorem rclo_ok (p x : List Nat) (hx : x.length = p.length + 1) (h : ∀ y ∈ x, y < 256) : (rclo p x).length = p.length + 1 ∧ ∀ y ∈ rclo p x, y < 256 :=
  ⟨(rcTo_len p x _).trans hx, rcTo_lt p x _ h⟩
theorem rbeg_ok (kd : Int) (p : List Nat) : rok kd p.length (rbeg kd p) := by
  unfold rok rbeg
  split
  · refine rclo_ok p _ (by simp) ?_
    intro y hy
    rcases List.mem_or_eq_of_mem_set hy with h | h
    · simp at h; omega
    · omega
  · exact .inr (.inr ⟨0, by omega, rfl⟩)
theorem rnCmp_eq (p : List Nat) (i c : Nat) : rnCmp p [61, i] c = if i = p.length ∨ at0 p i < c then [62] else if c < at0 p i then [60] else [61, i + 1] := by
  unfold rnCmp
  rw [if_neg (by simp [at0])]
  rfl
theorem rnx_ok (kd : Int) (p s : List Nat) (c : Nat) (h : rok kd p.length s) : rok kd p.length (rnx kd p s c) := by
  unfold rok rnx at *
  split
  · exact rclo_ok p _ (rnTo_len _ _ _ _) (rnTo_lt _ _ _ _)
  · rename_i hk
    rw [if_neg hk] at h
    rcases h with rfl | rfl | ⟨i, hi, rfl⟩
    · exact .inl rfl
    · exact .inr (.inl rfl)
    · rw [rnCmp_eq]
      by_cases h1 : i = p.length ∨ at0 p i < c
      · rw [if_pos h1]; exact .inl rfl
      · rw [if_neg h1]
        by_cases h2 : c < at0 p i
        · rw [if_pos h2]; exact .inr (.inl rfl)
        · rw [if_neg h2]; exact .inr (.inr ⟨i + 1, by omega, rfl⟩)
theorem rrun_ok (kd : Int) (p t s : List Nat) (h : rok kd p.length s) : rok kd p.length (rrun kd p t s) := by
  unfold rrun
  induction t generalizing s with
  | nil => exact h
  | cons c t ih => exact ih _ (rnx_ok kd p s c h)
theorem rrun_succ (kd : Int) (p : List Nat) (t : ByteArray) (s : List Nat) (k : Nat) (hk : k < t.size) : rrun kd p ((N t).take (k + 1)) s = rnx kd p (rrun kd p ((N t).take k) s) t[k].toNat := by
  rw [N_take_succ t k hk, rrun, List.foldl_append]; rfl
theorem rok_lt (kd : Int) (n : Nat) (l : List Nat) (hn : n ≤ 16) (h : rok kd n l) : ∀ y ∈ l, y < 256 := by
  unfold rok at h
  split at h
  · exact h.2
  · rcases h with rfl | rfl | ⟨i, hi, rfl⟩
    · intro y hy; simp at hy; omega
    · intro y hy; simp at hy; omega
    · intro y hy; simp at hy; omega
theorem S_size (l : List Nat) : (S l).size = l.length := by simp [S, ByteArray.size]
theorem S_byte (l : List Nat) (i : Nat) (h : i < (S l).size) (hl : ∀ y ∈ l, y < 256) : (S l)[i].toNat = at0 l i := by
  have := at0_N (S l) i h
  rw [N_S l hl] at this
  exact this.symm
theorem rn_none (p s : ByteArray) (c k : Nat) (hk : k < p.size) (hs : k < s.size) (h : ¬ s[k].toNat = 1 ∨ p[k].toNat ≠ 37 ∧ p[k].toNat ≠ 95 ∧ p[k].toNat ≠ c) : rnTo (N p) (N s) c (k + 1) = rnTo (N p) (N s) c k := by
  rw [rnTo, rnB, rnA, at0_N p k hk, at0_N s k hs]; grind
theorem rn_a (p s : ByteArray) (c k : Nat) (hk : k < p.size) (hs : k < s.size) (h1 : s[k].toNat = 1) (h2 : p[k].toNat = 37) : rnTo (N p) (N s) c (k + 1) = (rnTo (N p) (N s) c k).set k 1 := by
  rw [rnTo, rnB, rnA, at0_N p k hk, at0_N s k hs]; grind
theorem rn_b (p s : ByteArray) (c k : Nat) (hk : k < p.size) (hs : k < s.size) (h1 : s[k].toNat = 1) (h2 : p[k].toNat ≠ 37) (h3 : p[k].toNat = 95 ∨ p[k].toNat = c) : rnTo (N p) (N s) c (k + 1) = (rnTo (N p) (N s) c k).set (k + 1) 1 := by
  rw [rnTo, rnB, rnA, at0_N p k hk, at0_N s k hs]; grind

end Go.Proofs.Ytbniemkllhhnfaa
