/-
  Plain laws for the pattern package: prefix and lengths.
-/
import Derived.Test.YtbniemkllhhnfaaW30
import Derived.Test.YtbniemkllhhnfaaPure7
import Derived.Test.YtbniemkllhhnfaaPure6
import Derived.Lib.IndexAny
namespace Go.Proofs.Ytbniemkllhhnfaa
open Go.RowKit

theorem anySfx_some (f : List Nat → Bool) (t : List Nat) (h : anySfx f t = true) : ∃ u, u.length ≤ t.length ∧ f u = true := by
  induction t with
  | nil => exact ⟨[], Nat.le_refl _, by simpa [anySfx] using h⟩
  | cons c t ih =>
    rw [anySfx, Bool.or_eq_true] at h
    rcases h with h | h
    · exact ⟨c :: t, Nat.le_refl _, h⟩
    · obtain ⟨u, h1, h2⟩ := ih h
      exact ⟨u, by simp; omega, h2⟩
theorem mtc_len (p : List Nat) : ∀ t, mtc p t = true → lenF p ≤ t.length ∧ (anyF p = false → t.length = lenF p) ∧ preF p <+: t := by
  induction p with
  | nil =>
    intro t h
    cases t with
    | nil => exact ⟨Nat.le_refl _, fun _ => rfl, List.prefix_refl _⟩
    | cons c t => simp [mtc] at h
  | cons a p ih =>
    intro t h
    by_cases h37 : a = 37
    · subst h37
      rw [mtc_pct _ _ _ rfl] at h
      obtain ⟨u, h1, h2⟩ := anySfx_some _ _ h
      have := ih u h2
      refine ⟨?_, fun h => by simp [anyF] at h, ?_⟩
      · have e : lenF (37 :: p) = lenF p := by simp [lenF]
        rw [e]; omega
      · have e : preF (37 :: p) = [] := by simp [preF, spec]
        rw [e]; exact List.nil_prefix
    · have e1 : lenF (a :: p) = lenF p + 1 := by simp [lenF, h37]
      have e2 : anyF (a :: p) = anyF p := by simp [anyF, h37]
      cases t with
      | nil => rw [mtc_nil _ _ h37] at h; cases h
      | cons c t =>
        rw [mtc_cons _ _ _ _ h37, Bool.and_eq_true, Bool.or_eq_true, beq_iff_eq, beq_iff_eq] at h
        obtain ⟨h1, h2⟩ := h
        obtain ⟨i1, i2, i3⟩ := ih t h2
        rw [e1, e2]
        refine ⟨by simp; omega, fun h => by rw [List.length_cons, i2 h], ?_⟩
        by_cases h95 : a = 95
        · have e : preF (a :: p) = [] := by simp [preF, spec, h95]
          rw [e]; exact List.nil_prefix
        · have hac : a = c := by rcases h1 with h | h; exact absurd h h95; exact h
          have e : preF (a :: p) = a :: preF p := by simp [preF, spec, h95, h37]
          rw [e, hac]
          exact (List.prefix_cons_inj c).2 i3
theorem idx_any (l : List UInt8) : Lib.indexAny l [37, 95] = idxF (l.map UInt8.toNat) := by
  induction l with
  | nil => rfl
  | cons b l ih =>
    have hc : ([37, 95] : List UInt8).contains b = spec b.toNat := by
      have e1 : (b == 37) = (b.toNat == 37) := by
        rw [Bool.eq_iff_iff, beq_iff_eq, beq_iff_eq]; exact ⟨fun h => by rw [h]; rfl, fun h => UInt8.toNat_inj.1 (by rw [h]; rfl)⟩
      have e2 : (b == 95) = (b.toNat == 95) := by
        rw [Bool.eq_iff_iff, beq_iff_eq, beq_iff_eq]; exact ⟨fun h => by rw [h]; rfl, fun h => UInt8.toNat_inj.1 (by rw [h]; rfl)⟩
      simp only [List.contains_cons, List.contains_nil, Bool.or_false, e1, e2, spec]
    rw [Lib.indexAny, hc, ih, List.map_cons]
    unfold idxF
    cases hs : spec b.toNat
    · have e : preF (b.toNat :: l.map UInt8.toNat) = b.toNat :: preF (l.map UInt8.toNat) := by simp [preF, hs]
      rw [e]
      simp only [Bool.false_eq_true, if_false, List.length_cons]
      generalize (preF (l.map UInt8.toNat)).length = x
      generalize (l.map UInt8.toNat).length = y
      by_cases h : x = y
      · simp [h]
      · have h1 : ¬ x + 1 = y + 1 := by omega
        have h2 : (((x : Nat) : Int) == -1) = false := by rw [beq_eq_false_iff_ne]; omega
        rw [if_neg h1, if_neg h, h2]
        simp
    · have e : preF (b.toNat :: l.map UInt8.toNat) = [] := by simp [preF, hs]
      rw [e]; simp
theorem preF_take (l : List Nat) : preF l = l.take (preF l).length := by
  have h : preF l <+: l := List.takeWhile_prefix _
  exact (List.prefix_iff_eq_take.1 h)
/-- the law's last line -/
theorem prefix_law (p t : List Nat) (h : psB 1 false p t = true) : preF p <+: t ∧ (t.length = lenF p ∨ anyF p = true ∧ lenF p < t.length) := by
  rw [ps_match] at h
  simp only [Bool.bne_false] at h
  obtain ⟨a, b, c⟩ := mtc_len p t h
  refine ⟨c, ?_⟩
  cases hp : anyF p
  · left; exact b hp
  · by_cases hl : t.length = lenF p
    · exact .inl hl
    · exact .inr ⟨rfl, by omega⟩

end Go.Proofs.Ytbniemkllhhnfaa
