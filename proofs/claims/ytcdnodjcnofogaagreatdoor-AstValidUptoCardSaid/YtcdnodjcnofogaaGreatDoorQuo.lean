/-
  A quote written twice.
-/
import Derived.Lib.ReplaceLaws
import Derived.Lib.IndexBytes
import Derived.Test.YtcdnodjcnofogaaGreatDoorBase
namespace Go.Proofs.YtcdnodjcnofogaaGreatDoor
set_option maxHeartbeats 400000

def quo : List UInt8 → List UInt8
  | [] => []
  | c :: r => if c = 39 then 39 :: 39 :: quo r else c :: quo r
theorem quo_app : ∀ a b : List UInt8, quo (a ++ b) = quo a ++ quo b
  | [], _ => rfl
  | c :: r, b => by
    rw [List.cons_append, quo, quo]
    split <;> simp [quo_app r b]
theorem quo_len : ∀ a : List UInt8, (quo a).length ≤ 2 * a.length
  | [] => Nat.le_refl _
  | c :: r => by
    have := quo_len r
    rw [quo]
    split <;> simp <;> omega
theorem quo_none : ∀ s : List UInt8, Lib.indexByte s 39 = -1 → quo s = s
  | [], _ => rfl
  | b :: l, h => by
    rw [Lib.indexByte] at h
    have hg := Lib.indexByte_ge l 39
    by_cases hb : b = 39
    · subst hb; simp at h
    · have e : (b == 39) = false := by simpa using hb
      rw [e] at h
      simp only [Bool.false_eq_true, if_false] at h
      by_cases hl : Lib.indexByte l 39 = -1
      · rw [quo, if_neg hb, quo_none l hl]
      · have e2 : (Lib.indexByte l 39 == -1) = false := by simpa using hl
        rw [e2] at h
        simp only [Bool.false_eq_true, if_false] at h
        omega
theorem quo_some : ∀ (s : List UInt8) (i : Nat), Lib.indexByte s 39 = i → quo s = s.take i ++ [39, 39] ++ quo (s.drop (i + 1))
  | [], i, h => by unfold Lib.indexByte at h; omega
  | b :: l, i, h => by
    rw [Lib.indexByte] at h
    have hg := Lib.indexByte_ge l 39
    by_cases hb : b = 39
    · subst hb
      simp at h
      obtain rfl : i = 0 := by omega
      simp [quo]
    · have e : (b == 39) = false := by simpa using hb
      rw [e] at h
      simp only [Bool.false_eq_true, if_false] at h
      by_cases hl : Lib.indexByte l 39 = -1
      · rw [hl] at h; simp at h; try omega
      · have e2 : (Lib.indexByte l 39 == -1) = false := by simpa using hl
        rw [e2] at h
        simp only [Bool.false_eq_true, if_false] at h
        obtain ⟨j, rfl⟩ : ∃ j, i = j + 1 := ⟨i - 1, by omega⟩
        rw [quo, if_neg hb, quo_some l j (by omega)]
        simp
theorem repK_quo : ∀ (n : Nat) (s : List UInt8), s.length ≤ n → Lib.replaceK [39] [39, 39] (Lib.count s [39]) s = quo s
  | 0, s, h => by
    have : s = [] := List.eq_nil_of_length_eq_zero (by omega)
    subst this
    rfl
  | n + 1, s, h => by
    have hg := Lib.indexByte_ge s 39
    by_cases hi : Lib.indexByte s 39 = -1
    · rw [Lib.count_miss (by rw [Lib.index_one]; exact hi), quo_none s hi]
      rfl
    · obtain ⟨i, hi⟩ : ∃ i : Nat, Lib.indexByte s 39 = i := ⟨(Lib.indexByte s 39).toNat, by omega⟩
      have hidx : Lib.index s [39] = i := by rw [Lib.index_one]; exact hi
      rw [Lib.count_hit (by simp) hidx, Nat.add_comm 1, Lib.replaceK_hit _ _ _ _ i hidx, quo_some s i hi]
      rw [List.length_singleton]
      by_cases hs : s = []
      · subst hs; unfold Lib.indexByte at hi; omega
      · have hp : 0 < s.length := List.length_pos_iff.2 hs
        rw [repK_quo n (s.drop (i + 1)) (by rw [List.length_drop]; omega)]
theorem repAll_quo (s : List UInt8) : Lib.replaceAll s [39] [39, 39] = quo s := by
  unfold Lib.replaceAll Lib.replace
  rw [if_neg (by decide)]
  have : Lib.replaceNum s [39] (-1) = Lib.count s [39] := by unfold Lib.replaceNum; rw [if_pos (.inl (by decide))]
  rw [this]
  exact repK_quo _ s (Nat.le_refl _)

end Go.Proofs.YtcdnodjcnofogaaGreatDoor
