/-
  Plain laws for the pattern package: the program's states and the reference's go together; a pattern's positions and its matches.
-/
import Derived.Test.YtbniemkllhhnfaaPure5
namespace Go.Proofs.Ytbniemkllhhnfaa
open Go.RowKit

theorem at0_set (l : List Nat) (i v j : Nat) (hi : i < l.length) : at0 (l.set i v) j = if j = i then v else at0 l j := by
  unfold at0
  simp only [List.getD_eq_getElem?_getD, List.getElem?_set]
  by_cases h : i = j
  · subst h; simp [hi]
  · simp [h, Ne.symm h]
theorem at0_37 (p : List Nat) (i : Nat) : at0 p i = 37 ↔ p[i]? = some 37 := by
  unfold at0
  rw [List.getD_eq_getElem?_getD]
  cases p[i]? <;> simp
theorem at0_95 (p : List Nat) (i : Nat) : at0 p i = 95 ↔ p[i]? = some 95 := by
  unfold at0
  rw [List.getD_eq_getElem?_getD]
  cases p[i]? <;> simp
theorem at0_get (p : List Nat) (i : Nat) (h : i < p.length) : p[i]? = some (at0 p i) := by
  unfold at0
  simp [List.getElem?_eq_getElem h]
theorem bit_or (s k j : Nat) : (s ||| 2 ^ k).testBit j = (s.testBit j || decide (k = j)) := by rw [Nat.testBit_or, Nat.testBit_two_pow]

/-- a set of positions, as bits and as bytes -/
def Sim (n s : Nat) (l : List Nat) : Prop := l.length = n + 1 ∧ ∀ i, i ≤ n → (at0 l i = 1 ↔ s.testBit i = true)
theorem Sim.put {n s : Nat} {l : List Nat} (h : Sim n s l) (i : Nat) (hi : i ≤ n) : Sim n (s ||| 2 ^ i) (l.set i 1) := by
  refine ⟨by simp [h.1], fun j hj => ?_⟩
  rw [at0_set l i 1 j (by have := h.1; omega), bit_or]
  by_cases e : j = i
  · simp [e]
  · simp [e, Ne.symm e, h.2 j hj]
theorem sim_clo (p : List Nat) (s : Nat) (l : List Nat) (h : Sim p.length s l) : ∀ k, k ≤ p.length → Sim p.length (cloTo p s k) (rcTo p l k) := by
  intro k
  induction k with
  | zero => intro _; exact h
  | succ k ih =>
    intro hk
    have h1 := ih (by omega)
    unfold cloTo rcTo cloStep rcStep
    have e := h1.2 k (by omega)
    have e2 := at0_37 p k
    by_cases hc : p[k]? = some 37 ∧ (cloTo p s k).testBit k = true
    · rw [if_pos hc, if_pos ⟨e.2 hc.2, e2.2 hc.1⟩]
      exact h1.put (k + 1) hk
    · rw [if_neg hc, if_neg (fun h => hc ⟨e2.1 h.2, e.1 h.1⟩)]
      exact h1
theorem sim_nx (p : List Nat) (s c : Nat) (l : List Nat) (h : Sim p.length s l) : ∀ k, k ≤ p.length → Sim p.length (nxTo p s c k) (rnTo p l c k) := by
  intro k
  induction k with
  | zero =>
    intro _
    refine ⟨by simp [rnTo], fun i hi => ?_⟩
    simp [nxTo, rnTo, at0, List.getElem?_replicate]
    split <;> simp
  | succ k ih =>
    intro hk
    have h1 := ih (by omega)
    have e := h.2 k (by omega)
    have hg := at0_get p k (by omega)
    unfold nxTo rnTo nxStep rnB rnA
    by_cases hs : s.testBit k = true
    · have hl := e.2 hs
      rw [if_pos hs, hg]
      simp only [hl, true_and, Option.some.injEq]
      by_cases h37 : at0 p k = 37
      · rw [if_pos h37, if_pos h37, if_neg (by omega)]
        exact h1.put k (by omega)
      · rw [if_neg h37, if_neg h37]
        by_cases h95 : at0 p k = 95 ∨ at0 p k = c
        · rw [if_pos h95, if_pos (by rcases h95 with h | h; exact .inl h; exact .inr ⟨h, by omega⟩)]
          exact h1.put (k + 1) hk
        · rw [if_neg h95, if_neg (by intro h; rcases h with h | h; exact h95 (.inl h); exact h95 (.inr h.1))]
          exact h1
    · have hl : ¬ at0 l k = 1 := fun h => hs (e.1 h)
      rw [if_neg hs, if_neg (fun h => hl h.1), if_neg (fun h => hl h.1)]
      exact h1
/-- the states of the program and of the reference -/
def Rel (kd : Int) (n s : Nat) (l : List Nat) : Prop := if kd = 1 then Sim n s l else (s = 100 ∧ l = [60]) ∨ (s = 101 ∧ l = [62]) ∨ (s ≤ n ∧ l = [61, s])
theorem rel_beg (kd : Int) (p : List Nat) : Rel kd p.length (beg kd p) (rbeg kd p) := by
  unfold Rel beg rbeg
  by_cases h : kd = 1
  · simp only [h, if_true]
    refine sim_clo p 1 _ ⟨by simp, fun i hi => ?_⟩ p.length (Nat.le_refl _)
    rw [at0_set _ _ _ _ (by simp)]
    by_cases hi0 : i = 0
    · simp [hi0]
    · rw [if_neg hi0]
      have : ¬ (1 : Nat).testBit i = true := by
        rw [show (1 : Nat) = 2 ^ 0 from rfl, Nat.testBit_two_pow]; simp; omega
      simp [at0, this, List.getElem?_replicate]
      split <;> simp
  · simp only [h, if_false]
    exact .inr (.inr (by simp))
theorem rel_nx (kd : Int) (p : List Nat) (s c : Nat) (l : List Nat) (hp : p.length ≤ 16) (h : Rel kd p.length s l) : Rel kd p.length (nx kd p s c) (rnx kd p l c) := by
  unfold Rel nx rnx at *
  by_cases hk : kd = 1
  · simp only [hk, if_true] at h ⊢
    exact sim_clo p _ _ (sim_nx p s c l h p.length (Nat.le_refl _)) p.length (Nat.le_refl _)
  · simp only [hk, if_false] at h ⊢
    rcases h with ⟨rfl, rfl⟩ | ⟨rfl, rfl⟩ | ⟨hs, rfl⟩
    · exact .inl ⟨by simp [nxCmp], by simp [rnCmp, at0]⟩
    · exact .inr (.inl ⟨by simp [nxCmp], by simp [rnCmp, at0]⟩)
    · rw [rnCmp_eq, nxCmp, if_neg (by omega)]
      have e : p.getD s 0 = at0 p s := rfl
      rw [e]
      by_cases h1 : s = p.length ∨ at0 p s < c
      · rw [if_pos h1, if_pos h1]; exact .inr (.inl ⟨rfl, rfl⟩)
      · rw [if_neg h1, if_neg h1]
        by_cases h2 : c < at0 p s
        · rw [if_pos h2, if_pos h2]; exact .inl ⟨rfl, rfl⟩
        · rw [if_neg h2, if_neg h2]; exact .inr (.inr ⟨by omega, rfl⟩)
theorem rel_run (kd : Int) (p t : List Nat) (hp : p.length ≤ 16) : ∀ (s : Nat) (l : List Nat), Rel kd p.length s l → Rel kd p.length (run kd p t s) (rrun kd p t l) := by
  unfold run rrun
  induction t with
  | nil => intro s l h; exact h
  | cons c t ih => intro s l h; exact ih _ _ (rel_nx kd p s c l hp h)
theorem rel_fin (kd : Int) (n s : Nat) (l : List Nat) (hn : n ≤ 16) (hk : 0 ≤ kd ∧ kd ≤ 3) (h : Rel kd n s l) : okOf kd n s = rfin kd n l := by
  unfold Rel at h
  unfold okOf rfin
  by_cases h1 : kd = 1
  · simp only [h1, if_true] at h ⊢
    have := h.2 n (Nat.le_refl _)
    rw [Bool.eq_iff_iff, ← this]; simp
  · simp only [h1, if_false] at h ⊢
    have hk2 : kd = 0 ∨ kd = 2 ∨ kd = 3 := by omega
    rcases h with ⟨rfl, rfl⟩ | ⟨rfl, rfl⟩ | ⟨hs, rfl⟩
    · rcases hk2 with rfl | rfl | rfl <;> simp [at0]; omega
    · rcases hk2 with rfl | rfl | rfl <;> simp [at0] <;> omega
    · rcases hk2 with rfl | rfl | rfl <;> simp [at0] <;> (try omega) <;> (rw [Bool.eq_iff_iff]; simp; omega)
theorem ps_eq (kd : Int) (ng : Bool) (p t : List Nat) (hp : p.length ≤ 16) (hk : 0 ≤ kd ∧ kd ≤ 3) : psB kd ng p t = rpsB kd ng p t := by
  unfold psB rpsB
  rw [rel_fin kd p.length _ _ hp hk (rel_run kd p t hp _ _ (rel_beg kd p))]
theorem ps_neg (kd : Int) (ng : Bool) (p t : List Nat) : (psB kd ng p t != psB kd (!ng) p t) = true := by
  unfold psB
  cases okOf kd p.length (run kd p t (beg kd p)) <;> cases ng <;> rfl

end Go.Proofs.Ytbniemkllhhnfaa
