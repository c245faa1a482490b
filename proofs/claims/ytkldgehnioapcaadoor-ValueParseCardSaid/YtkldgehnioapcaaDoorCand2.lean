/-
  The value that a literal can stand for: the candidate.
-/
import Derived.Test.YtkldgehnioapcaaDoorCand
namespace Go.Proofs.YtkldgehnioapcaaDoor
set_option maxHeartbeats 400000

def unqB (s : ByteArray) : ByteArray := ⟨(unq s.data.toList).toArray⟩
theorem unqB_size (s : ByteArray) : (unqB s).size ≤ 2 * s.size + 1 := by
  have := unq_len s.data.toList
  show ((unq s.data.toList).toArray).size ≤ 2 * s.data.size + 1
  simpa using this
def pc (s : ByteArray) : Val :=
  match Lib.parseIntB 64 s.data.toList with
  | .ok n => ⟨1, n, ⟨#[]⟩⟩
  | _ => if 2 ≤ s.size ∧ s.data.toList.head? = some 39 then ⟨2, 0, unqB (s.extract 1 (s.size - 1))⟩ else ⟨0, 0, ⟨#[]⟩⟩
theorem pc_ok {s : ByteArray} {n : Int} (h : Lib.parseIntB 64 s.data.toList = .ok n) : pc s = ⟨1, n, ⟨#[]⟩⟩ := by
  unfold pc
  rw [h]
theorem pc_no {s : ByteArray} (h : ∀ v, Lib.parseIntB 64 s.data.toList ≠ .ok v) : pc s = if 2 ≤ s.size ∧ s.data.toList.head? = some 39 then ⟨2, 0, unqB (s.extract 1 (s.size - 1))⟩ else ⟨0, 0, ⟨#[]⟩⟩ := by
  unfold pc
  split
  · rename_i n e
    exact absurd e (h n)
  · rfl
theorem ok_bd {l : List UInt8} {n : Int} (h : Lib.parseIntB 64 l = .ok n) : -9223372036854775808 ≤ n ∧ n ≤ 9223372036854775807 := by
  rw [Lib.parseIntB_64] at h
  unfold Lib.atoiAll at h
  split at h
  · cases h
  · dsimp only at h
    split at h
    · cases h
    · cases h
    · split at h
      · cases h
      · split at h
        · cases h
        · injection h with h
          split at h <;> omega
theorem no_quote (r : List UInt8) (v : Int) : Lib.parseIntB 64 (39 :: r) ≠ .ok v := by
  rw [Lib.parseIntB_64]
  unfold Lib.atoiAll
  dsimp only
  rw [if_neg (by decide)]
  unfold Lib.parseMag
  rw [if_neg (by simp), Lib.parseUint10, if_neg (by decide)]
  simp
theorem no_null (v : Int) : Lib.parseIntB 64 [78, 85, 76, 76] ≠ .ok v := by
  rw [Lib.parseIntB_64]
  unfold Lib.atoiAll
  dsimp only
  rw [if_neg (by decide)]
  unfold Lib.parseMag
  rw [if_neg (by simp), Lib.parseUint10, if_neg (by decide)]
  simp
theorem no_empty (v : Int) : Lib.parseIntB 64 [] ≠ .ok v := by
  rw [Lib.parseIntB_64]
  unfold Lib.atoiAll
  simp
theorem empty_of {t : ByteArray} (h : (N t).isEmpty = true) : t = ⟨#[]⟩ := by
  rw [empty_size] at h
  simp only [decide_eq_true_eq] at h
  apply t_inj
  have : t.data.toList = [] := List.eq_nil_of_length_eq_zero h
  rw [this]
theorem fmtV_of {a : Val} (h : validV a = true) : fmtV a = if a.k = 0 then ⟨#[78, 85, 76, 76]⟩ else if a.k = 1 then itoB a.n else ⟨#[39]⟩ ++ quoB a.t ++ ⟨#[39]⟩ := by
  unfold fmtV
  rw [if_pos h]
theorem fmtV_no {a : Val} (h : validV a = false) : fmtV a = ⟨#[]⟩ := by
  unfold fmtV
  rw [h]
  rfl
theorem fmtV_ne {a : Val} (h : validV a = true) : fmtV a ≠ ⟨#[]⟩ := by
  intro e
  have := fmtV_empty a
  rw [e, h] at this
  rw [ByteArray.toList_eq] at this
  exact absurd this (by decide)
theorem cand (a : Val) (s : ByteArray) (h : validV a = true) (h0 : -9223372036854775808 ≤ a.n) (h1 : a.n ≤ 9223372036854775807) (hs : fmtV a = s) : pc s = a := by
  rw [fmtV_of h] at hs
  obtain ⟨k, n, t⟩ := a
  dsimp only at hs h0 h1
  unfold validV at h
  dsimp only at h
  by_cases k0 : k = 0
  · rw [if_pos k0] at hs h
    simp only [Bool.and_eq_true, decide_eq_true_eq] at h
    obtain ⟨rfl, ht⟩ := h
    obtain rfl := empty_of ht
    subst hs k0
    rw [pc_no no_null, if_neg (by decide)]
  · rw [if_neg k0] at hs h
    by_cases k1 : k = 1
    · rw [if_pos k1] at hs h
      obtain rfl := empty_of h
      subst hs k1
      exact pc_ok (pi_itoa n h0 h1)
    · rw [if_neg k1] at hs h
      by_cases k2 : k = 2
      · rw [if_pos k2] at h
        simp only [Bool.and_eq_true, decide_eq_true_eq] at h
        obtain ⟨⟨rfl, _⟩, _⟩ := h
        have hd : s.data.toList = 39 :: (quo t.data.toList ++ [39]) := by
          rw [← hs, ByteArray.data_append, Array.toList_append, ByteArray.data_append, Array.toList_append]
          simp [quoB]
        have hsz : s.size = (quo t.data.toList).length + 2 := by
          show s.data.toList.length = _
          rw [hd]; simp
        subst k2
        rw [pc_no (fun v => by rw [hd]; exact no_quote _ v), if_pos ⟨by omega, by rw [hd]; rfl⟩]
        have : unqB (s.extract 1 (s.size - 1)) = t := by
          apply t_inj
          show unq (s.extract 1 (s.size - 1)).data.toList = _
          rw [Lib.extract_data, hd, hsz]
          have : (List.take ((quo t.data.toList).length + 2 - 1 - 1) (List.drop 1 (39 :: (quo t.data.toList ++ [39])))) = quo t.data.toList := by
            rw [show (quo t.data.toList).length + 2 - 1 - 1 = (quo t.data.toList).length by omega]
            simp
          rw [this]
          exact unq_quo _
        rw [this]
      · rw [if_neg k2] at h
        cases h
theorem pc_size (s : ByteArray) : (pc s).t.size ≤ 2 * s.size + 1 := by
  unfold pc
  split
  · exact Nat.zero_le _
  · split
    · refine Nat.le_trans (unqB_size _) ?_
      have : (s.extract 1 (s.size - 1)).size ≤ s.size := by
        rw [ByteArray.size_extract]; omega
      omega
    · exact Nat.zero_le _
theorem pc_bd (s : ByteArray) : -9223372036854775808 ≤ (pc s).n ∧ (pc s).n ≤ 9223372036854775807 := by
  unfold pc
  split
  · rename_i e
    exact ok_bd e
  · split
    · exact ⟨by show (_ : Int) ≤ 0; omega, by show (0 : Int) ≤ _; omega⟩
    · exact ⟨by show (_ : Int) ≤ 0; omega, by show (0 : Int) ≤ _; omega⟩
theorem pc_empty : fmtV (pc ⟨#[]⟩) ≠ ⟨#[]⟩ := by
  rw [pc_no no_empty, if_neg (by decide)]
  exact fmtV_ne (by decide)
/-- what Parse answers -/
def prs (s : ByteArray) : Val × Int := if fmtV (pc s) = s then (pc s, 0) else (⟨0, 0, ⟨#[]⟩⟩, 2)
theorem prs_of (a : Val) (h : validV a = true) (h0 : -9223372036854775808 ≤ a.n) (h1 : a.n ≤ 9223372036854775807) : prs (fmtV a) = (a, 0) := by
  unfold prs
  have := cand a (fmtV a) h h0 h1 rfl
  rw [this, if_pos rfl]
theorem prs_no (a : Val) (h : validV a = false) : prs (fmtV a) = (⟨0, 0, ⟨#[]⟩⟩, 2) := by
  rw [fmtV_no h]
  unfold prs
  rw [if_neg pc_empty]

end Go.Proofs.YtkldgehnioapcaaDoor
