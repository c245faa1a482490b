/-
  Plain laws: a pure lexer.
-/
import Derived.Test.YtmnjfhjhbjhmhaaDoorW3
namespace Go.Proofs.YtmnjfhjhbjhmhaaDoor
open Go.RowKit
set_option linter.unusedVariables false
set_option maxHeartbeats 1000000
set_option maxRecDepth 100000

def upC (c : UInt8) : UInt8 := if 97 ≤ c.toNat ∧ c.toNat ≤ 122 then c - 32 else c
def loC (c : UInt8) : UInt8 := if 65 ≤ c.toNat ∧ c.toNat ≤ 90 then c + 32 else c
def kwNames : List (List UInt8) := [
  [65, 78, 68],
  [65, 83],
  [65, 83, 67],
  [66, 69, 71, 73, 78],
  [66, 69, 84, 87, 69, 69, 78],
  [66, 89],
  [67, 72, 69, 67, 75],
  [67, 79, 77, 77, 73, 84],
  [67, 79, 85, 78, 84],
  [67, 82, 69, 65, 84, 69],
  [68, 69, 76, 69, 84, 69],
  [68, 69, 83, 67],
  [70, 79, 82, 69, 73, 71, 78],
  [70, 82, 79, 77],
  [71, 82, 79, 85, 80],
  [73, 78],
  [73, 78, 83, 69, 82, 84],
  [73, 78, 84, 69, 71, 69, 82],
  [73, 78, 84, 79],
  [73, 83],
  [74, 79, 73, 78],
  [75, 69, 89],
  [76, 69, 78, 71, 84, 72],
  [76, 73, 75, 69],
  [76, 73, 77, 73, 84],
  [77, 65, 88],
  [77, 73, 78],
  [78, 79, 84],
  [78, 85, 76, 76],
  [79, 78],
  [79, 82],
  [79, 82, 68, 69, 82],
  [80, 82, 73, 77, 65, 82, 89],
  [82, 69, 70, 69, 82, 69, 78, 67, 69, 83],
  [82, 69, 76, 69, 65, 83, 69],
  [82, 79, 76, 76, 66, 65, 67, 75],
  [83, 65, 86, 69, 80, 79, 73, 78, 84],
  [83, 69, 76, 69, 67, 84],
  [83, 69, 84],
  [83, 85, 77],
  [84, 65, 66, 76, 69],
  [84, 69, 88, 84],
  [84, 79],
  [85, 78, 73, 81, 85, 69],
  [85, 80, 68, 65, 84, 69],
  [86, 65, 76, 85, 69, 83],
  [87, 72, 69, 82, 69]]
def isKw (l : List UInt8) : Bool := decide (l.map upC ∈ kwNames)
def digVal (l : List UInt8) : Nat := l.foldl (fun v c => 10 * v + (c.toNat - 48)) 0
def syms : List UInt8 := [40, 41, 44, 59, 46, 42, 43, 45, 47, 37, 61, 60, 62]
/-- the length of the symbol in front -/
def symN : List UInt8 → Nat
  | [] => 0
  | [c] => if c ∈ syms then 1 else 0
  | c :: d :: _ => if (c = 60 ∧ d = 62) ∨ (c = 60 ∧ d = 61) ∨ (c = 62 ∧ d = 61) then 2 else if c ∈ syms then 1 else 0
/-- what is read behind a quote: the text, the offset behind it -/
def litF : List UInt8 → List UInt8 → Nat → Option (List UInt8 × Nat)
  | [], _, _ => none
  | c :: r, X, i =>
    if isPrint c = false then none
    else if c.toNat = 39 then
      match r with
      | [] => some (X, i + 1)
      | d :: r' => if d.toNat = 39 then litF r' (X ++ [d]) (i + 1 + 1) else some (X, i + 1)
    else litF r (X ++ [c]) (i + 1)
theorem lit_cons (c : UInt8) (r X : List UInt8) (i : Nat) : litF (c :: r) X i =
    if isPrint c = false then none
    else if c.toNat = 39 then
      (match r with
      | [] => some (X, i + 1)
      | d :: r' => if d.toNat = 39 then litF r' (X ++ [d]) (i + 1 + 1) else some (X, i + 1))
    else litF r (X ++ [c]) (i + 1) := by rw [litF.eq_def]
inductive TR where
  | bad (e : Nat)
  | tok (kind : Nat) (text : List UInt8) (n : Nat)
def headW : List UInt8 → Bool
  | [] => false
  | c :: _ => inWord c
def wordL (l : List UInt8) : TR :=
  if isKw (l.take (spanN inWord l)) = true then .tok 2 ((l.take (spanN inWord l)).map upC) (spanN inWord l)
  else if 24 < spanN inWord l then .bad 3
  else .tok 1 ((l.take (spanN inWord l)).map loC) (spanN inWord l)
def numL (l : List UInt8) : TR :=
  if (1 < spanN isDigit l ∧ l.head? = some 48) ∨ headW (l.drop (spanN isDigit l)) = true then .bad 2
  else if 2147483648 < digVal (l.take (spanN isDigit l)) then .bad 3
  else .tok 3 (l.take (spanN isDigit l)) (spanN isDigit l)
def textL (r : List UInt8) : TR :=
  match litF r [] 1 with
  | none => .bad 2
  | some (X, i) => if 16 < X.length then .bad 3 else .tok 4 X i
def symL (l : List UInt8) : TR := if symN l = 0 then .bad 2 else .tok 5 (l.take (symN l)) (symN l)
def tokL : List UInt8 → TR
  | [] => .bad 2
  | c :: r =>
    if isLetter c = true then wordL (c :: r)
    else if isDigit c = true then numL (c :: r)
    else if c.toNat = 39 then textL r
    else symL (c :: r)
/-- the length of white space and comments in front -/
def skipN : Bool → List UInt8 → Nat
  | _, [] => 0
  | true, c :: r => if c.toNat = 10 then skipN false r + 1 else skipN true r + 1
  | false, c :: r =>
    if c.toNat = 32 ∨ c.toNat = 9 ∨ c.toNat = 10 then skipN false r + 1
    else if c.toNat = 45 ∧ r.head? = some 45 then skipN true r + 1
    else 0
structure Tk where
  kind : Nat
  text : List UInt8
  pos : Nat
inductive Ls where
  | bad (at_ e : Nat)
  | ok (l : List Tk)
def Ls.pre (o : List Tk) : Ls → Ls
  | .bad a e => .bad a e
  | .ok l => .ok (o ++ l)
def toksF : Nat → List UInt8 → Nat → Ls
  | 0, _, p => .bad p 0
  | f + 1, l, p =>
    match l.drop (skipN false l) with
    | [] => .ok [⟨0, [], p + skipN false l⟩]
    | c :: r =>
      match tokL (c :: r) with
      | .bad e => .bad (p + skipN false l) e
      | .tok k x n => (toksF f ((c :: r).drop n) (p + skipN false l + n)).pre [⟨k, x, p + skipN false l⟩]
def T (l : List UInt8) (p : Nat) : Ls := toksF (l.length + 1) l p

theorem span_le (f : UInt8 → Bool) : ∀ l : List UInt8, spanN f l ≤ l.length
  | [] => Nat.le_refl _
  | c :: r => by
    rw [spanN]
    have := span_le f r
    split
    · rw [List.length_cons]; omega
    · exact Nat.zero_le _
theorem span_all (f : UInt8 → Bool) : ∀ l : List UInt8, ∀ c ∈ l.take (spanN f l), f c = true
  | [] => by intro c h; simp at h
  | d :: r => by
    intro c h
    rw [spanN] at h
    split at h
    · rw [List.take_succ_cons] at h
      rcases List.mem_cons.1 h with rfl | h
      · assumption
      · exact span_all f r c h
    · simp at h
theorem span_pos (f : UInt8 → Bool) (c : UInt8) (r : List UInt8) (h : f c = true) : 1 ≤ spanN f (c :: r) := by
  rw [spanN, if_pos h]; omega
theorem span_head (f : UInt8 → Bool) : ∀ l : List UInt8, ∀ c, (l.drop (spanN f l)).head? = some c → f c = false
  | [] => by intro c h; simp at h
  | d :: r => by
    intro c h
    rw [spanN] at h
    split at h
    · rw [List.drop_succ_cons] at h
      exact span_head f r c h
    · rw [List.drop_zero, List.head?_cons, Option.some.injEq] at h
      subst h
      rename_i hn
      exact Bool.eq_false_iff.2 hn
theorem skip_le : ∀ (b : Bool) (l : List UInt8), skipN b l ≤ l.length
  | _, [] => by cases ‹Bool› <;> exact Nat.le_refl _
  | true, c :: r => by
    rw [skipN, List.length_cons]
    have h1 := skip_le true r
    have h2 := skip_le false r
    split <;> omega
  | false, c :: r => by
    rw [skipN, List.length_cons]
    have h1 := skip_le true r
    have h2 := skip_le false r
    split
    · omega
    · split <;> omega
theorem sym_le (l : List UInt8) : symN l ≤ l.length := by
  match l with
  | [] => exact Nat.le_refl _
  | [c] => rw [symN]; split <;> simp
  | c :: d :: r =>
    rw [symN]
    simp only [List.length_cons]
    split
    · omega
    · split <;> omega
theorem lit_bound : ∀ (l X : List UInt8) (i : Nat) (Y : List UInt8) (j : Nat), litF l X i = some (Y, j) → i + 1 ≤ j ∧ j ≤ i + l.length ∧ Y.length + i + 1 ≤ X.length + j
  | [], X, i, Y, j => by intro h; simp [litF] at h
  | [c], X, i, Y, j => by
    intro h
    rw [litF] at h
    split at h
    · exact absurd h (by simp)
    split at h
    · simp only [Option.some.injEq, Prod.mk.injEq] at h
      obtain ⟨rfl, rfl⟩ := h
      simp only [List.length_cons, List.length_nil]
      omega
    · simp [litF] at h
  | c :: d :: r, X, i, Y, j => by
    intro h
    rw [litF] at h
    simp only [List.length_cons]
    split at h
    · exact absurd h (by simp)
    split at h
    · split at h
      · have := lit_bound r _ _ Y j h
        simp only [List.length_append, List.length_cons, List.length_nil] at this
        omega
      · simp only [Option.some.injEq, Prod.mk.injEq] at h
        obtain ⟨rfl, rfl⟩ := h
        omega
    · have := lit_bound (d :: r) _ _ Y j h
      simp only [List.length_append, List.length_cons, List.length_nil] at this
      omega
theorem tok_bound (c : UInt8) (r : List UInt8) (k : Nat) (x : List UInt8) (n : Nat) (h : tokL (c :: r) = .tok k x n) : 1 ≤ n ∧ n ≤ (c :: r).length := by
  rw [tokL] at h
  split at h
  · rename_i hc
    have hw : inWord c = true := by unfold inWord; rw [hc]; rfl
    have h1 := span_pos inWord c r hw
    have h2 := span_le inWord (c :: r)
    unfold wordL at h
    split at h
    · cases h; exact ⟨h1, h2⟩
    · split at h
      · cases h
      · cases h; exact ⟨h1, h2⟩
  split at h
  · rename_i hc
    have h1 := span_pos isDigit c r hc
    have h2 := span_le isDigit (c :: r)
    unfold numL at h
    split at h
    · cases h
    · split at h
      · cases h
      · cases h; exact ⟨h1, h2⟩
  split at h
  · unfold textL at h
    cases hl : litF r [] 1 with
    | none => rw [hl] at h; cases h
    | some q =>
      obtain ⟨X, i⟩ := q
      have := lit_bound r [] 1 X i hl
      rw [hl] at h
      simp only at h
      split at h
      · cases h
      · cases h
        rw [List.length_cons]; omega
  · unfold symL at h
    have h2 := sym_le (c :: r)
    split at h
    · cases h
    · cases h
      omega
theorem toksF_eq : ∀ (f g : Nat) (l : List UInt8) (p : Nat), l.length < f → l.length < g → toksF f l p = toksF g l p
  | 0, _, l, p => by intro h; omega
  | _ + 1, 0, l, p => by intro _ h; omega
  | f + 1, g + 1, l, p => by
    intro hf hg
    rw [toksF, toksF]
    cases hd : l.drop (skipN false l) with
    | nil => rfl
    | cons c r =>
      simp only
      cases ht : tokL (c :: r) with
      | bad e => rfl
      | tok k x n =>
        simp only
        have hb := tok_bound c r k x n ht
        have hl : (c :: r).length ≤ l.length := by rw [← hd, List.length_drop]; omega
        rw [toksF_eq f g _ _ (by rw [List.length_drop]; omega) (by rw [List.length_drop]; omega)]
theorem T_eq (l : List UInt8) (p : Nat) : T l p =
    (match l.drop (skipN false l) with
    | [] => .ok [⟨0, [], p + skipN false l⟩]
    | c :: r =>
      match tokL (c :: r) with
      | .bad e => .bad (p + skipN false l) e
      | .tok k x n => (T ((c :: r).drop n) (p + skipN false l + n)).pre [⟨k, x, p + skipN false l⟩]) := by
  unfold T
  rw [toksF]
  cases hd : l.drop (skipN false l) with
  | nil => rfl
  | cons c r =>
    simp only
    cases ht : tokL (c :: r) with
    | bad e => rfl
    | tok k x n =>
      simp only
      have hb := tok_bound c r k x n ht
      have hl : (c :: r).length ≤ l.length := by rw [← hd, List.length_drop]; omega
      rw [toksF_eq l.length (((c :: r).drop n).length + 1) _ _ (by rw [List.length_drop]; omega) (by omega)]
theorem T_end (l : List UInt8) (p : Nat) (h : l.drop (skipN false l) = []) : T l p = .ok [⟨0, [], p + skipN false l⟩] := by
  rw [T_eq, h]
theorem T_bad (l : List UInt8) (p : Nat) (c : UInt8) (r : List UInt8) (e : Nat) (h : l.drop (skipN false l) = c :: r) (ht : tokL (c :: r) = .bad e) : T l p = .bad (p + skipN false l) e := by
  rw [T_eq, h]; simp only; rw [ht]
theorem T_tok (l : List UInt8) (p : Nat) (c : UInt8) (r : List UInt8) (k : Nat) (x : List UInt8) (n : Nat) (h : l.drop (skipN false l) = c :: r) (ht : tokL (c :: r) = .tok k x n) :
    T l p = (T ((c :: r).drop n) (p + skipN false l + n)).pre [⟨k, x, p + skipN false l⟩] := by
  rw [T_eq, h]; simp only; rw [ht]
theorem pre_pre (a b : List Tk) (x : Ls) : (x.pre b).pre a = x.pre (a ++ b) := by
  cases x <;> simp [Ls.pre]
/-- the tokens of a string, or an offset and an error -/
def tokAll (s : ByteArray) : Ls := if 16384 < s.size then .bad 16384 3 else T s.data.toList 0
end Go.Proofs.YtmnjfhjhbjhmhaaDoor
