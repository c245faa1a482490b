/-
  Plain functions for the pattern package; no program in sight.
-/
import Derived.Test.YtbniemkllhhnfaaBase
namespace Go.Proofs.Ytbniemkllhhnfaa
open Go.RowKit

/-- the closure of a set of positions, after k steps -/
def cloStep (p : List Nat) (i s : Nat) : Nat := if p[i]? = some 37 ∧ s.testBit i = true then s ||| 2 ^ (i + 1) else s
def cloTo (p : List Nat) (s : Nat) : Nat → Nat
  | 0 => s
  | k + 1 => cloStep p k (cloTo p s k)
def clo (p : List Nat) (s : Nat) : Nat := cloTo p s p.length

/-- one more character, for a pattern: the positions before the closure, after k steps -/
def nxStep (p : List Nat) (s c i o : Nat) : Nat :=
  if s.testBit i = true then (if p[i]? = some 37 then o ||| 2 ^ i else if p[i]? = some 95 ∨ p[i]? = some c then o ||| 2 ^ (i + 1) else o) else o
def nxTo (p : List Nat) (s c : Nat) : Nat → Nat
  | 0 => 0
  | k + 1 => nxStep p s c k (nxTo p s c k)
def nxLike (p : List Nat) (s c : Nat) : Nat := clo p (nxTo p s c p.length)

theorem or_lt17 (a k : Nat) (h : a < 131072) (hk : k ≤ 16) : a ||| 2 ^ k < 131072 := by
  have h2 : 2 ^ k < 2 ^ 17 := Nat.pow_lt_pow_right (by omega) (by omega)
  exact Nat.or_lt_two_pow (n := 17) (by omega) h2
theorem cloTo_lt (p : List Nat) (s k : Nat) (h : s < 131072) (hk : k ≤ 16) : cloTo p s k < 131072 := by
  induction k with
  | zero => exact h
  | succ k ih =>
    unfold cloTo cloStep
    split
    · exact or_lt17 _ _ (ih (by omega)) (by omega)
    · exact ih (by omega)
theorem nxTo_lt (p : List Nat) (s c k : Nat) (hk : k ≤ 16) : nxTo p s c k < 131072 := by
  induction k with
  | zero => simp [nxTo]
  | succ k ih =>
    have i1 := ih (by omega)
    unfold nxTo nxStep
    repeat' split
    · exact or_lt17 _ _ i1 (by omega)
    · exact or_lt17 _ _ i1 (by omega)
    · exact i1
    · exact i1
theorem nxLike_lt (p : List Nat) (s c : Nat) (hp : p.length ≤ 16) : nxLike p s c < 131072 := cloTo_lt _ _ _ (nxTo_lt _ _ _ _ hp) hp

/-- one more character, for a comparison -/
def nxCmp (p : List Nat) (s c : Nat) : Nat :=
  if 100 ≤ s then s else if s = p.length ∨ p.getD s 0 < c then 101 else if c < p.getD s 0 then 100 else s + 1

/-- whether a state passes, before the negation -/
def okOf (kd : Int) (n s : Nat) : Bool :=
  if kd = 1 then s.testBit n else if kd = 0 then s == n else if kd = 2 then s == 100 || decide (s < n) else s == 100 || decide (s ≤ n)
def prn (l : List Nat) : Bool := l.all fun c => decide (32 ≤ c) && decide (c ≤ 126)

theorem prn_yes (s : ByteArray) (k : Nat) (hk : k < s.size) (hp : prn ((N s).take k) = true) (h1 : 32 ≤ s[k].toNat) (h2 : s[k].toNat ≤ 126) : prn ((N s).take (k + 1)) = true := by
  have hl : k < (N s).length := by rw [N_len]; exact hk
  have he : (N s)[k] = s[k].toNat := by
    have := N_get s k hk
    rw [List.getElem?_eq_getElem hl] at this
    exact Option.some.inj this
  unfold prn at hp ⊢
  rw [List.take_succ_eq_append_getElem hl, List.all_append, hp, he]
  simp [h1, h2]
theorem prn_no (s : ByteArray) (k : Nat) (hk : k < s.size) (h : s[k].toNat < 32 ∨ 126 < s[k].toNat) : prn (N s) = false := by
  unfold prn
  rw [List.all_eq_false]
  refine ⟨s[k].toNat, List.mem_of_getElem? (N_get s k hk), ?_⟩
  simp; omega

/-- the walk's own spelling of a bit's test -/
theorem bit_and (s k : Nat) (h : s < 4294967296) : bits BinOp.and IntKind.u32 ((s : Int) / 2 ^ k) 1 = if s.testBit k then 1 else 0 := by
  have e : ((s : Int) / 2 ^ k) = ((s / 2 ^ k : Nat) : Int) := by simp
  have hlt : s / 2 ^ k < 4294967296 := Nat.lt_of_le_of_lt (Nat.div_le_self _ _) h
  have e1 : bits BinOp.and IntKind.u32 ((s / 2 ^ k : Nat) : Int) ((1 : Nat) : Int) = ((s / 2 ^ k &&& 1 : Nat) : Int) := u32_and_nat _ _ hlt (by omega)
  rw [e, show (1 : Int) = ((1 : Nat) : Int) from rfl, e1]
  rw [nat_mask1, Nat.testBit_eq_decide_div_mod_eq]
  by_cases hb : s / 2 ^ k % 2 = 1
  · simp [hb]
  · have : s / 2 ^ k % 2 = 0 := by omega
    simp [this]
theorem bit_test (s k : Nat) (h : s < 4294967296) : (bits BinOp.and IntKind.u32 ((s : Int) / 2 ^ k) 1 == 1) = s.testBit k := by
  rw [bit_and s k h]; cases s.testBit k <;> simp
theorem bit_test0 (s k : Nat) (h : s < 4294967296) : (bits BinOp.and IntKind.u32 ((s : Int) / 2 ^ k) 1 == 0) = !s.testBit k := by
  rw [bit_and s k h]; cases s.testBit k <;> simp
theorem bit_set (s k : Nat) (h : s < 4294967296) (hk : k < 32) : bits BinOp.or IntKind.u32 (s : Int) (2 ^ k % 4294967296) = ((s ||| 2 ^ k : Nat) : Int) := by
  have h2 : 2 ^ k < 2 ^ 32 := Nat.pow_lt_pow_right (by omega) hk
  have h3 : 2 ^ k < 4294967296 := h2
  have e : ((2 : Int) ^ k % 4294967296) = ((2 ^ k : Nat) : Int) := by
    have : ((2 : Int) ^ k) = ((2 ^ k : Nat) : Int) := by simp
    rw [this]
    have h4 : ((2 ^ k : Nat) : Int) < 4294967296 := Int.ofNat_lt.2 h3
    exact Int.emod_eq_of_lt (Int.natCast_nonneg _) h4
  rw [e]
  exact u32_or_nat _ _ h h2

/-- the closing of a round, by the tests' outcomes -/
theorem clo_yes (p : ByteArray) (s k s1 : Nat) (hk : k < p.size) (hs : s1 = cloTo (N p) s k) (h1 : (p[k].toNat : Int) = 37) (h2 : s1.testBit k = true) : s1 ||| 2 ^ (k + 1) = cloTo (N p) s (k + 1) := by
  rw [cloTo, ← hs, cloStep, N_get p k hk, if_pos ⟨by rw [show p[k].toNat = 37 by omega], h2⟩]
theorem clo_no (p : ByteArray) (s k s1 : Nat) (hk : k < p.size) (hs : s1 = cloTo (N p) s k) (h : ¬ (p[k].toNat : Int) = 37 ∨ s1.testBit k = false) : s1 = cloTo (N p) s (k + 1) := by
  rw [cloTo, ← hs, cloStep, N_get p k hk, if_neg]
  rintro ⟨h1, h2⟩
  rcases h with h | h
  · have : p[k].toNat = 37 := by simpa using h1
    omega
  · rw [h] at h2; cases h2

theorem nx_yes (p : ByteArray) (s c k s1 x : Nat) (hk : k < p.size) (hs : s1 = nxTo (N p) s c k)
    (h : x = if s.testBit k = true then (if p[k].toNat = 37 then s1 ||| 2 ^ k else if p[k].toNat = 95 ∨ p[k].toNat = c then s1 ||| 2 ^ (k + 1) else s1) else s1) : x = nxTo (N p) s c (k + 1) := by
  rw [nxTo, ← hs, nxStep, N_get p k hk]
  simpa using h
theorem nxCmp_at (p : ByteArray) (s c : Nat) (h : s < p.size) : nxCmp (N p) s c = if 100 ≤ s then s else if p[s].toNat < c then 101 else if c < p[s].toNat then 100 else s + 1 := by
  unfold nxCmp
  have e : (N p).getD s 0 = p[s].toNat := by rw [List.getD_eq_getElem?_getD, N_get p s h]; rfl
  rw [N_len, e]
  simp [show ¬ s = p.size by omega]

end Go.Proofs.Ytbniemkllhhnfaa
