/-
  The value that a literal can stand for.
-/
import Derived.Test.YtkldgehnioapcaaDoorW16
import Derived.Lib.ParseIntBTie
namespace Go.Proofs.YtkldgehnioapcaaDoor
set_option maxHeartbeats 400000

theorem idx_no : ∀ l : List UInt8, (39 : UInt8) ∉ l → Lib.index l [39, 39] = -1
  | [], _ => rfl
  | b :: l, h => by
    have hb : ¬ b = 39 := fun e => h (by rw [e]; exact List.mem_cons_self ..)
    have ih := idx_no l (fun hm => h (List.mem_cons_of_mem _ hm))
    rw [Lib.index, ih]
    have : [39, 39].isPrefixOf (b :: l) = false := by simp [List.isPrefixOf]; try (intro e; exact absurd e.symm hb)
    rw [this]
    rfl
theorem idx_at : ∀ (a r : List UInt8), (39 : UInt8) ∉ a → Lib.index (a ++ 39 :: 39 :: r) [39, 39] = a.length
  | [], r, _ => by simp [Lib.index, List.isPrefixOf]
  | b :: a, r, h => by
    have hb : ¬ b = 39 := fun e => h (by rw [e]; exact List.mem_cons_self ..)
    have ih := idx_at a r (fun hm => h (List.mem_cons_of_mem _ hm))
    rw [List.cons_append, Lib.index, ih]
    have : [39, 39].isPrefixOf (b :: (a ++ 39 :: 39 :: r)) = false := by simp [List.isPrefixOf]; try (intro e; exact absurd e.symm hb)
    rw [this]
    have e2 : ((a.length : Int) == -1) = false := by simp <;> omega
    rw [e2]
    simp
theorem unq_pre : ∀ (t a : List UInt8), (39 : UInt8) ∉ a → Lib.replaceK [39, 39] [39] (Lib.count (a ++ quo t) [39, 39]) (a ++ quo t) = a ++ t
  | [], a, h => by
    rw [quo, List.append_nil, Lib.count_miss (idx_no a h)]
    rfl
  | c :: r, a, h => by
    rw [quo]
    by_cases hc : c = 39
    · subst hc
      rw [if_pos rfl]
      have hi := idx_at a (quo r) h
      rw [Lib.count_hit (by simp) hi, Nat.add_comm 1, Lib.replaceK_hit _ _ _ _ a.length hi]
      have hd : (a ++ 39 :: 39 :: quo r).drop (a.length + [39, 39].length) = quo r := by simp [List.drop_append]
      have hd2 : (a ++ 39 :: 39 :: quo r).drop (a.length + [(39 : UInt8), 39].length) = quo r := hd
      rw [hd2]
      have ih := unq_pre r [] (by simp)
      simp only [List.nil_append] at ih
      rw [ih]
      simp
    · rw [if_neg hc]
      have ih := unq_pre r (a ++ [c]) (by simp [h, Ne.symm hc])
      simpa using ih
def unq (s : List UInt8) : List UInt8 := Lib.replaceAll s [39, 39] [39]
theorem unq_K (s : List UInt8) : unq s = Lib.replaceK [39, 39] [39] (Lib.count s [39, 39]) s := by
  unfold unq Lib.replaceAll Lib.replace
  rw [if_neg (by decide)]
  have : Lib.replaceNum s [39, 39] (-1) = Lib.count s [39, 39] := by unfold Lib.replaceNum; rw [if_pos (.inl (by decide))]
  rw [this]
theorem unq_quo (t : List UInt8) : unq (quo t) = t := by
  rw [unq_K]
  have := unq_pre t [] (by simp)
  simpa using this
theorem repK_len (old new : List UInt8) : ∀ (k : Nat) (s : List UInt8), (Lib.replaceK old new k s).length ≤ s.length + k * new.length
  | 0, s => by simp [Lib.replaceK]
  | k + 1, s => by
    rw [Lib.replaceK]
    split
    · omega
    · have ih := repK_len old new k (s.drop ((Lib.index s old).toNat + old.length))
      rw [List.length_append, List.length_append, List.length_take]
      rw [List.length_drop] at ih
      rw [Nat.succ_mul]
      omega
theorem unq_len (s : List UInt8) : (unq s).length ≤ 2 * s.length + 1 := by
  rw [unq_K]
  have h := repK_len [39, 39] [39] (Lib.count s [39, 39]) s
  have h2 := Lib.count_le s [39, 39]
  simp only [List.length_singleton, Nat.mul_one] at h
  omega

theorem pu_app : ∀ (xs ys : List UInt8) (acc : Nat), Lib.parseUint10 acc (xs ++ ys) = match Lib.parseUint10 acc xs with | .ok v => Lib.parseUint10 v ys | .range => .range | e => e
  | [], ys, acc => rfl
  | c :: r, ys, acc => by
    rw [List.cons_append, Lib.parseUint10, Lib.parseUint10]
    split
    · split
      · rfl
      · split
        · rfl
        · exact pu_app r ys _
    · rfl
theorem pu_dec (u : Nat) (h : u < 18446744073709551616) : Lib.parseUint10 0 (Lib.decDigits u) = .ok u := by
  induction u using Nat.strongRecOn with
  | _ u ih =>
    have hb : ∀ d, d < 10 → (UInt8.ofNat (48 + d)).toNat = 48 + d := fun d hd => by simp [UInt8.toNat_ofNat']; omega
    by_cases h9 : u < 10
    · rw [dec_small h9, Lib.parseUint10, hb u h9, if_pos (by omega), if_neg (by omega), if_neg (by omega)]
      show Lib.NumEnd.ok _ = _
      congr 1
      omega
    · rw [dec_big h9, pu_app, ih (u / 10) (by omega) (by omega)]
      dsimp only
      rw [Lib.parseUint10, hb _ (Nat.mod_lt _ (by omega)), if_pos (by omega), if_neg (by omega), if_neg (by omega)]
      show Lib.NumEnd.ok _ = _
      congr 1
      omega
theorem dec_head (u : Nat) : ∃ c r, Lib.decDigits u = c :: r ∧ 48 ≤ c.toNat ∧ c.toNat ≤ 57 := by
  induction u using Nat.strongRecOn with
  | _ u ih =>
    by_cases h9 : u < 10
    · refine ⟨_, _, dec_small h9, ?_⟩
      simp [UInt8.toNat_ofNat']
      omega
    · obtain ⟨c, r, e, h1, h2⟩ := ih (u / 10) (by omega)
      exact ⟨c, r ++ _, by rw [dec_big h9, e]; rfl, h1, h2⟩
theorem pi_itoa (n : Int) (h0 : -9223372036854775808 ≤ n) (h1 : n ≤ 9223372036854775807) : Lib.parseIntB 64 (Lib.itoa n) = .ok n := by
  rw [Lib.parseIntB_64]
  unfold Lib.itoa
  by_cases hn : n < 0
  · rw [if_pos hn]
    have hp := pu_dec n.natAbs (by omega)
    obtain ⟨c, r, e, _⟩ := dec_head n.natAbs
    unfold Lib.atoiAll
    dsimp only
    rw [if_pos (by decide)]
    unfold Lib.parseMag
    rw [if_neg (by rw [e]; simp), hp]
    dsimp only
    rw [if_neg (fun h => h.1 (by decide)), if_neg (by omega), if_pos (by decide)]
    congr 1
    omega
  · rw [if_neg hn]
    have hp := pu_dec n.toNat (by omega)
    obtain ⟨c, r, e, hc1, hc2⟩ := dec_head n.toNat
    rw [e] at hp ⊢
    unfold Lib.atoiAll
    dsimp only
    rw [if_neg (by omega)]
    unfold Lib.parseMag
    rw [if_neg (by simp), hp]
    dsimp only
    rw [if_neg (by omega), if_neg (by omega), if_neg (by omega)]
    congr 1
    omega

end Go.Proofs.YtkldgehnioapcaaDoor
