/-
  Plain laws for the pattern package: a pattern's positions tell its matches; the comparisons.
-/
import Derived.Test.YtbniemkllhhnfaaPure6
namespace Go.Proofs.Ytbniemkllhhnfaa
open Go.RowKit

theorem anySfx_self (f : List Nat → Bool) (t : List Nat) (h : f t = true) : anySfx f t = true := by
  cases t <;> simp [anySfx, h]
theorem drop_cons' (p : List Nat) (i : Nat) (h : i < p.length) : p.drop i = at0 p i :: p.drop (i + 1) := by
  rw [List.drop_eq_getElem_cons h]
  simp [at0, List.getElem?_eq_getElem h]
/-- some position of the set matches the rest -/
def Acc (p : List Nat) (s : Nat) (t : List Nat) : Prop := ∃ i, i ≤ p.length ∧ s.testBit i = true ∧ mtc (p.drop i) t = true
def Closed (p : List Nat) (s : Nat) : Prop := ∀ i, i < p.length → at0 p i = 37 → s.testBit i = true → s.testBit (i + 1) = true

theorem cloTo_bit (p : List Nat) (s k j : Nat) : (cloTo p s (k + 1)).testBit j = true ↔ (cloTo p s k).testBit j = true ∨ (p[k]? = some 37 ∧ (cloTo p s k).testBit k = true ∧ j = k + 1) := by
  rw [cloTo, cloStep]
  split
  · rename_i h
    rw [bit_or]
    simp [h.1, h.2]
    constructor
    · rintro (h | h)
      · exact .inl h
      · exact .inr h.symm
    · rintro (h | h)
      · exact .inl h
      · exact .inr h.symm
  · rename_i h
    constructor
    · exact .inl
    · rintro (h1 | ⟨h1, h2, _⟩)
      · exact h1
      · exact absurd ⟨h1, h2⟩ h
theorem cloTo_closed (p : List Nat) (s k : Nat) (hk : k ≤ p.length) : ∀ i, i < k → at0 p i = 37 → (cloTo p s k).testBit i = true → (cloTo p s k).testBit (i + 1) = true := by
  induction k with
  | zero => intro i hi; omega
  | succ k ih =>
    intro i hi h37 hb
    rw [cloTo_bit] at hb ⊢
    have hb' : (cloTo p s k).testBit i = true := by
      rcases hb with h | ⟨_, _, h⟩
      · exact h
      · omega
    by_cases hik : i = k
    · subst hik
      exact .inr ⟨(at0_37 p i).1 h37, hb', rfl⟩
    · exact .inl (ih (by omega) i (by omega) h37 hb')
theorem clo_closed (p : List Nat) (s : Nat) : Closed p (clo p s) := cloTo_closed p s p.length (Nat.le_refl _)
theorem cloTo_acc (p : List Nat) (s : Nat) (t : List Nat) (k : Nat) (hk : k ≤ p.length) : Acc p (cloTo p s k) t ↔ Acc p s t := by
  induction k with
  | zero => exact Iff.rfl
  | succ k ih =>
    rw [← ih (by omega)]
    constructor
    · rintro ⟨i, hi, hb, hm⟩
      rw [cloTo_bit] at hb
      rcases hb with hb | ⟨h37, hb, rfl⟩
      · exact ⟨i, hi, hb, hm⟩
      · refine ⟨k, by omega, hb, ?_⟩
        rw [drop_cons' p k (by omega), mtc_pct _ _ _ ((at0_37 p k).2 h37)]
        exact anySfx_self _ _ hm
    · rintro ⟨i, hi, hb, hm⟩
      exact ⟨i, hi, (cloTo_bit p s k i).2 (.inl hb), hm⟩
theorem clo_acc (p : List Nat) (s : Nat) (t : List Nat) : Acc p (clo p s) t ↔ Acc p s t := cloTo_acc p s t p.length (Nat.le_refl _)
theorem nxTo_bit (p : List Nat) (s c k j : Nat) (hk : k ≤ p.length) : (nxTo p s c k).testBit j = true ↔ ∃ i, i < k ∧ s.testBit i = true ∧ ((at0 p i = 37 ∧ j = i) ∨ (at0 p i ≠ 37 ∧ (at0 p i = 95 ∨ at0 p i = c) ∧ j = i + 1)) := by
  induction k with
  | zero => simp [nxTo]
  | succ k ih =>
    have hg := at0_get p k (by omega)
    have key : (nxTo p s c (k + 1)).testBit j = true ↔ (nxTo p s c k).testBit j = true ∨ (s.testBit k = true ∧ ((at0 p k = 37 ∧ j = k) ∨ (at0 p k ≠ 37 ∧ (at0 p k = 95 ∨ at0 p k = c) ∧ j = k + 1))) := by
      rw [nxTo, nxStep, hg]
      simp only [Option.some.injEq]
      by_cases hs : s.testBit k = true
      · rw [if_pos hs]
        by_cases h37 : at0 p k = 37
        · rw [if_pos h37, bit_or]; simp only [hs, h37, decide_eq_true_eq, ne_eq, not_true_eq_false, false_and, or_false, true_and, Bool.or_eq_true]; rw [@Eq.comm _ k j]
        · rw [if_neg h37]
          by_cases h95 : at0 p k = 95 ∨ at0 p k = c
          · rw [if_pos h95, bit_or]; simp only [hs, h37, h95, decide_eq_true_eq, ne_eq, not_false_eq_true, false_and, false_or, true_and, Bool.or_eq_true]; rw [@Eq.comm _ (k + 1) j]
          · rw [if_neg h95]; simp [hs, h37, h95]
      · rw [if_neg hs]; simp [hs]
    rw [key, ih (by omega)]
    constructor
    · rintro (⟨i, hi, h⟩ | h)
      · exact ⟨i, by omega, h⟩
      · exact ⟨k, by omega, h⟩
    · rintro ⟨i, hi, h⟩
      by_cases hik : i = k
      · subst hik; exact .inr h
      · exact .inl ⟨i, by omega, h⟩
theorem nx_acc (p : List Nat) (s c : Nat) (t : List Nat) (hcl : Closed p s) : Acc p (nxTo p s c p.length) t ↔ Acc p s (c :: t) := by
  constructor
  · rintro ⟨j, hj, hb, hm⟩
    rw [nxTo_bit p s c _ _ (Nat.le_refl _)] at hb
    obtain ⟨i, hi, hs, ⟨h37, rfl⟩ | ⟨h37, hc, rfl⟩⟩ := hb
    · refine ⟨j, hj, hs, ?_⟩
      rw [drop_cons' p j hi] at hm ⊢
      rw [mtc_pct_cons _ _ _ _ h37, hm, Bool.or_true]
    · refine ⟨i, by omega, hs, ?_⟩
      rw [drop_cons' p i hi, mtc_cons _ _ _ _ h37, hm]
      rcases hc with h | h <;> simp [h]
  · rintro ⟨i, hi, hs, hm⟩
    have main : ∀ (d i : Nat), p.length - i = d → i ≤ p.length → s.testBit i = true → mtc (p.drop i) (c :: t) = true → Acc p (nxTo p s c p.length) t := by
      intro d
      induction d with
      | zero =>
        intro i hd hi _ hm
        rw [List.drop_eq_nil_of_le (by omega)] at hm
        simp [mtc] at hm
      | succ d ih =>
        intro i hd hi hs hm
        have hlt : i < p.length := by omega
        rw [drop_cons' p i hlt] at hm
        by_cases h37 : at0 p i = 37
        · rw [mtc_pct_cons _ _ _ _ h37, Bool.or_eq_true] at hm
          rcases hm with hm | hm
          · exact ih (i + 1) (by omega) (by omega) (hcl i hlt h37 hs) hm
          · refine ⟨i, hi, (nxTo_bit p s c _ _ (Nat.le_refl _)).2 ⟨i, hlt, hs, .inl ⟨h37, rfl⟩⟩, ?_⟩
            rw [drop_cons' p i hlt]; exact hm
        · rw [mtc_cons _ _ _ _ h37, Bool.and_eq_true, Bool.or_eq_true, beq_iff_eq, beq_iff_eq] at hm
          exact ⟨i + 1, by omega, (nxTo_bit p s c _ _ (Nat.le_refl _)).2 ⟨i, hlt, hs, .inr ⟨h37, hm.1, rfl⟩⟩, hm.2⟩
    exact main _ i rfl hi hs hm
theorem acc_nil (p : List Nat) (s : Nat) (hcl : Closed p s) : Acc p s [] ↔ s.testBit p.length = true := by
  constructor
  · rintro ⟨i, hi, hs, hm⟩
    have main : ∀ (d i : Nat), p.length - i = d → i ≤ p.length → s.testBit i = true → mtc (p.drop i) [] = true → s.testBit p.length = true := by
      intro d
      induction d with
      | zero =>
        intro i hd hi hs _
        rw [show p.length = i by omega]; exact hs
      | succ d ih =>
        intro i hd hi hs hm
        have hlt : i < p.length := by omega
        rw [drop_cons' p i hlt] at hm
        by_cases h37 : at0 p i = 37
        · rw [mtc_pct_nil _ _ h37] at hm
          exact ih (i + 1) (by omega) (by omega) (hcl i hlt h37 hs) hm
        · rw [mtc_nil _ _ h37] at hm; cases hm
    exact main _ i rfl hi hs hm
  · intro h
    exact ⟨p.length, Nat.le_refl _, h, by rw [List.drop_eq_nil_of_le (Nat.le_refl _)]; rfl⟩
theorem run_acc (p t : List Nat) : ∀ s, Closed p s → ((run 1 p t s).testBit p.length = true ↔ Acc p s t) := by
  induction t with
  | nil => intro s h; exact (acc_nil p s h).symm
  | cons c t ih =>
    intro s h
    have e : run 1 p (c :: t) s = run 1 p t (clo p (nxTo p s c p.length)) := rfl
    rw [e, ih _ (clo_closed p _), clo_acc, nx_acc p s c t h]
/-- a text passes a pattern exactly if some replacement yields it -/
theorem ps_match (ng : Bool) (p t : List Nat) : psB 1 ng p t = (mtc p t != ng) := by
  have h := run_acc p t (clo p 1) (clo_closed p 1)
  rw [clo_acc] at h
  have h2 : Acc p 1 t ↔ mtc p t = true := by
    constructor
    · rintro ⟨i, hi, hs, hm⟩
      rw [show (1 : Nat) = 2 ^ 0 from rfl, Nat.testBit_two_pow] at hs
      have : i = 0 := by simp at hs; omega
      subst this
      exact hm
    · intro hm
      exact ⟨0, by omega, by decide, hm⟩
  rw [h2] at h
  unfold psB okOf beg
  rw [if_pos rfl, if_pos rfl]
  have : (run 1 p t (clo p 1)).testBit p.length = mtc p t := by
    rw [Bool.eq_iff_iff]; exact h
  rw [this]

/-- the order of strings -/
def blt : List Nat → List Nat → Bool
  | _, [] => false
  | [], _ :: _ => true
  | a :: x, b :: y => decide (a < b) || (a == b && blt x y)
theorem blt_N (a b : List UInt8) : Op.bytesLess a b = blt (a.map UInt8.toNat) (b.map UInt8.toNat) := by
  induction a generalizing b with
  | nil => cases b <;> rfl
  | cons x a ih =>
    cases b with
    | nil => rfl
    | cons y b =>
      simp only [Op.bytesLess, List.map_cons, blt, ih]
      congr 1
      congr 1
      rw [Bool.eq_iff_iff, beq_iff_eq, beq_iff_eq, UInt8.toNat_inj]
theorem bytesLess_N (s t : ByteArray) : Op.bytesLess s.toList t.toList = blt (N s) (N t) := by
  rw [ByteArray.toList_eq, ByteArray.toList_eq]; exact blt_N _ _
theorem run_dec (kd : Int) (hk : kd ≠ 1) (p t : List Nat) (s : Nat) (h : 100 ≤ s) : run kd p t s = s := by
  unfold run
  induction t with
  | nil => rfl
  | cons c t ih =>
    have e : nx kd p s c = s := by simp [nx, hk, nxCmp, h]
    rw [List.foldl_cons, e]; exact ih
/-- where the comparison stands: equal so far, less, greater -/
theorem run_cmp (kd : Int) (hk : kd ≠ 1) (p : List Nat) (hp : p.length ≤ 16) (t : List Nat) : ∀ s, s ≤ p.length →
    (run kd p t s = 100 ∧ blt t (p.drop s) = true ∧ t ≠ p.drop s ∧ ¬ s + t.length < 100 ∨ run kd p t s = 100 ∧ blt t (p.drop s) = true ∧ t ≠ p.drop s ∨
     run kd p t s = 101 ∧ blt t (p.drop s) = false ∧ t ≠ p.drop s ∨ run kd p t s = s + t.length ∧ s + t.length ≤ p.length ∧ (blt t (p.drop s) = true ↔ s + t.length < p.length) ∧ (t = p.drop s ↔ s + t.length = p.length)) := by
  induction t with
  | nil =>
    intro s hs
    refine .inr (.inr (.inr ⟨rfl, by simpa using hs, ?_, ?_⟩))
    · cases hd : p.drop s with
      | nil => rw [List.drop_eq_nil_iff] at hd; simp [blt]; omega
      | cons a l =>
        have : ¬ p.length ≤ s := fun h => by rw [List.drop_eq_nil_of_le h] at hd; cases hd
        simp [blt]; omega
    · rw [eq_comm, List.drop_eq_nil_iff]; simp; omega
  | cons c t ih =>
    intro s hs
    have e : run kd p (c :: t) s = run kd p t (nxCmp p s c) := by
      show run kd p t (nx kd p s c) = _
      simp [nx, hk]
    rw [e, nxCmp, if_neg (by omega)]
    have eg : p.getD s 0 = at0 p s := rfl
    rw [eg]
    by_cases hsl : s = p.length
    · rw [if_pos (.inl hsl), run_dec kd hk p t 101 (by omega)]
      refine .inr (.inr (.inl ⟨rfl, ?_, ?_⟩))
      · rw [List.drop_eq_nil_of_le (by omega)]; simp [blt]
      · rw [List.drop_eq_nil_of_le (by omega)]; simp
    · have hlt : s < p.length := by omega
      rw [drop_cons' p s hlt]
      by_cases h1 : at0 p s < c
      · rw [if_pos (.inr h1), run_dec kd hk p t 101 (by omega)]
        refine .inr (.inr (.inl ⟨rfl, ?_, ?_⟩))
        · simp [blt]; omega
        · simp; omega
      · rw [if_neg (by intro h; rcases h with h | h; exact hsl h; exact h1 h)]
        by_cases h2 : c < at0 p s
        · rw [if_pos h2, run_dec kd hk p t 100 (by omega)]
          refine .inr (.inl ⟨rfl, ?_, ?_⟩)
          · simp [blt, h2]
          · simp; omega
        · rw [if_neg h2]
          have hc : c = at0 p s := by omega
          have hb : blt (c :: t) (at0 p s :: p.drop (s + 1)) = blt t (p.drop (s + 1)) := by simp [blt, hc]
          have hq : (c :: t = at0 p s :: p.drop (s + 1)) ↔ t = p.drop (s + 1) := by simp [hc]
          have hn : s + (c :: t).length = s + 1 + t.length := by simp; omega
          rw [hb, ne_eq, hq, hn]
          exact ih (s + 1) (by omega)
theorem ps_cmp (p t : List Nat) (hp : p.length ≤ 16) : psB 0 false p t = (t == p) ∧ psB 2 false p t = blt t p ∧ psB 3 false p t = (blt t p || t == p) := by
  have h0 := run_cmp 0 (by omega) p hp t 0 (by omega)
  have h2 := run_cmp 2 (by omega) p hp t 0 (by omega)
  have h3 := run_cmp 3 (by omega) p hp t 0 (by omega)
  simp only [List.drop_zero, Nat.zero_add] at h0 h2 h3
  refine ⟨?_, ?_, ?_⟩
  · unfold psB okOf beg
    simp only [show ¬ (0 : Int) = 1 by omega, if_false, if_true, Bool.bne_false]
    rw [Bool.eq_iff_iff, beq_iff_eq, beq_iff_eq]
    rcases h0 with ⟨e, a, b, _⟩ | ⟨e, a, b⟩ | ⟨e, a, b⟩ | ⟨e, a, b, c⟩
    · rw [e]; exact ⟨fun h => by omega, fun h => absurd h b⟩
    · rw [e]; exact ⟨fun h => by omega, fun h => absurd h b⟩
    · rw [e]; exact ⟨fun h => by omega, fun h => absurd h b⟩
    · rw [e, c]
  · unfold psB okOf beg
    simp only [show ¬ (2 : Int) = 1 by omega, show ¬ (2 : Int) = 0 by omega, if_false, if_true, Bool.bne_false]
    rw [Bool.eq_iff_iff, Bool.or_eq_true, beq_iff_eq, decide_eq_true_eq]
    rcases h2 with ⟨e, a, b, _⟩ | ⟨e, a, b⟩ | ⟨e, a, b⟩ | ⟨e, a, b, c⟩
    · rw [e, a]; simp
    · rw [e, a]; simp
    · rw [e, a]; simp; omega
    · rw [e, b]; omega
  · unfold psB okOf beg
    simp only [show ¬ (3 : Int) = 1 by omega, show ¬ (3 : Int) = 0 by omega, show ¬ (3 : Int) = 2 by omega, if_false, Bool.bne_false]
    rw [Bool.eq_iff_iff, Bool.or_eq_true, Bool.or_eq_true, beq_iff_eq, beq_iff_eq, decide_eq_true_eq]
    rcases h3 with ⟨e, a, b, _⟩ | ⟨e, a, b⟩ | ⟨e, a, b⟩ | ⟨e, a, b, c⟩
    · rw [e, a]; simp
    · rw [e, a]; simp
    · rw [e, a]; simp [b]; omega
    · rw [e, b, c]; omega

end Go.Proofs.Ytbniemkllhhnfaa
