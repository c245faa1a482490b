/-
  Plain laws: the lines of a schedule, read.
-/
import Derived.Test.YtcdinoepjimkmaaDoorW7
import Derived.Lib.Split
import Derived.Lib.AtoiTie
import Derived.Lib.IndexBytes
import Derived.Lib.ReplaceLaws
import Derived.Lib.ItoaNum
namespace Go.Proofs.YtcdinoepjimkmaaDoor
open Go.RowKit
set_option linter.unusedVariables false
set_option maxHeartbeats 1000000
set_option maxRecDepth 100000

/-- the words between spaces -/
def wordsL : List UInt8 → List (List UInt8)
  | [] => [[]]
  | c :: r => if c = 32 then [] :: wordsL r else (match wordsL r with | [] => [[c]] | w :: ws => (c :: w) :: ws)
theorem words_one : ∀ l : List UInt8, (32 : UInt8) ∉ l → wordsL l = [l]
  | [], _ => rfl
  | c :: r, h => by
    have hc : ¬ c = 32 := fun e => h (by rw [e]; exact List.mem_cons_self ..)
    rw [wordsL, if_neg hc, words_one r fun hm => h (List.mem_cons_of_mem _ hm)]
theorem words_app : ∀ a r : List UInt8, (32 : UInt8) ∉ a → wordsL (a ++ 32 :: r) = a :: wordsL r
  | [], r, _ => by rw [List.nil_append, wordsL, if_pos rfl]
  | c :: a, r, h => by
    have hc : ¬ c = 32 := fun e => h (by rw [e]; exact List.mem_cons_self ..)
    rw [List.cons_append, wordsL, if_neg hc, words_app a r fun hm => h (List.mem_cons_of_mem _ hm)]
theorem ib_none : ∀ l : List UInt8, Lib.indexByte l 32 = -1 → (32 : UInt8) ∉ l
  | [], _ => by simp
  | b :: l, h => by
    rw [Lib.indexByte] at h
    have hg := Lib.indexByte_ge l 32
    by_cases hb : b = 32
    · subst hb; simp at h
    · have e : (b == 32) = false := by simpa using hb
      rw [e] at h
      simp only [Bool.false_eq_true, if_false] at h
      by_cases hl : Lib.indexByte l 32 = -1
      · intro hm
        rcases List.mem_cons.1 hm with h1 | h1
        · exact hb h1.symm
        · exact ib_none l hl h1
      · have e2 : (Lib.indexByte l 32 == -1) = false := by simpa using hl
        rw [e2] at h
        simp only [Bool.false_eq_true, if_false] at h
        omega
theorem ib_some (c : UInt8) : ∀ (l : List UInt8) (i : Nat), Lib.indexByte l c = (i : Int) → c ∉ l.take i ∧ l = l.take i ++ c :: l.drop (i + 1)
  | [], i, h => by unfold Lib.indexByte at h; omega
  | b :: l, i, h => by
    rw [Lib.indexByte] at h
    have hg := Lib.indexByte_ge l c
    by_cases hb : b = c
    · subst hb
      simp at h
      obtain rfl : i = 0 := by omega
      simp
    · have e : (b == c) = false := by simpa using hb
      rw [e] at h
      simp only [Bool.false_eq_true, if_false] at h
      by_cases hl : Lib.indexByte l c = -1
      · rw [hl] at h; simp at h; try omega
      · have e2 : (Lib.indexByte l c == -1) = false := by simpa using hl
        rw [e2] at h
        simp only [Bool.false_eq_true, if_false] at h
        obtain ⟨j, rfl⟩ : ∃ j, i = j + 1 := ⟨i - 1, by omega⟩
        obtain ⟨h1, h2⟩ := ib_some c l j (by omega)
        refine ⟨?_, ?_⟩
        · rw [List.take_succ_cons]
          intro hm
          rcases List.mem_cons.1 hm with h3 | h3
          · exact hb h3.symm
          · exact h1 h3
        · rw [List.take_succ_cons, List.drop_succ_cons, List.cons_append, ← h2]
theorem split_words : ∀ (n : Nat) (s : List UInt8), s.length ≤ n → Lib.splitK [32] 0 (Lib.count s [32]) s = wordsL s
  | 0, s, h => by
    have : s = [] := List.eq_nil_of_length_eq_zero (by omega)
    subst this
    rfl
  | n + 1, s, h => by
    have hg := Lib.indexByte_ge s 32
    by_cases hi : Lib.indexByte s 32 = -1
    · rw [Lib.count_miss (by rw [Lib.index_one]; exact hi), words_one s (ib_none s hi)]
      rfl
    · obtain ⟨i, hi⟩ : ∃ i : Nat, Lib.indexByte s 32 = i := ⟨(Lib.indexByte s 32).toNat, by omega⟩
      have hidx : Lib.index s [32] = i := by rw [Lib.index_one]; exact hi
      obtain ⟨h1, h2⟩ := ib_some 32 s i hi
      have hp : 0 < s.length := by
        cases s with
        | nil => unfold Lib.indexByte at hi; omega
        | cons c r => rw [List.length_cons]; omega
      rw [Lib.count_hit (by simp) hidx, Nat.add_comm 1, Lib.splitK, hidx]
      have hne : ((i : Int) == -1) = false := by rw [beq_eq_false_iff_ne]; omega
      rw [hne]
      simp only [Bool.false_eq_true, if_false, Int.toNat_natCast, Nat.add_zero, List.length_singleton]
      rw [split_words n (s.drop (i + 1)) (by rw [List.length_drop]; omega)]
      conv => rhs; rw [h2]
      rw [words_app _ _ h1]
/-- what Atoi reads -/
def atoiO (l : List UInt8) : Option Int := match Lib.atoiAll l with | .ok v => some v | _ => none
theorem dec_app (l : List UInt8) : ∀ (acc n : Nat) (b : UInt8) (d : Nat), Lib.decFrom acc l = some n → Lib.digitVal b = some d → Lib.decFrom acc (l ++ [b]) = some (n * 10 + d) := by
  induction l with
  | nil =>
    intro acc n b d h hb
    simp only [Lib.decFrom, Option.some.injEq] at h
    subst h
    simp only [List.nil_append, Lib.decFrom, hb]
  | cons c r ih =>
    intro acc n b d h hb
    rw [Lib.decFrom] at h
    rw [List.cons_append, Lib.decFrom]
    cases hc : Lib.digitVal c with
    | none => rw [hc] at h; cases h
    | some e =>
      rw [hc] at h
      exact ih _ n b d h hb
theorem dig_val (i : Nat) (h : i < 10) : Lib.digitVal (UInt8.ofNat (48 + i)) = some i := by
  have e : (UInt8.ofNat (48 + i)).toNat = 48 + i := by simp; omega
  unfold Lib.digitVal
  rw [e, if_pos ⟨by omega, by omega⟩]
  congr 1
  omega
theorem dec_digits : ∀ (m u : Nat), u ≤ m → Lib.decFrom 0 (Lib.decDigits u) = some u := by
  intro m
  induction m with
  | zero =>
    intro u h
    obtain rfl : u = 0 := by omega
    rw [Lib.decDigits, dif_pos (by decide)]
    rfl
  | succ m ih =>
    intro u h
    rw [Lib.decDigits]
    split
    · rename_i h10
      have := dec_app [] 0 0 (UInt8.ofNat (48 + u)) u rfl (dig_val u h10)
      rw [List.nil_append, Nat.zero_mul, Nat.zero_add] at this
      exact this
    · rename_i h10
      have := dec_app _ 0 (u / 10) (UInt8.ofNat (48 + u % 10)) (u % 10) (ih (u / 10) (by omega)) (dig_val _ (Nat.mod_lt _ (by decide)))
      rw [show u / 10 * 10 + u % 10 = u by omega] at this
      exact this
theorem digits_dig : ∀ (m u : Nat), u ≤ m → ∀ c ∈ Lib.decDigits u, 48 ≤ c.toNat ∧ c.toNat ≤ 57 := by
  intro m
  have hd : ∀ i, i < 10 → 48 ≤ (UInt8.ofNat (48 + i)).toNat ∧ (UInt8.ofNat (48 + i)).toNat ≤ 57 := fun i hi => by
    have e : (UInt8.ofNat (48 + i)).toNat = 48 + i := by simp; omega
    rw [e]; omega
  induction m with
  | zero =>
    intro u h c hc
    obtain rfl : u = 0 := by omega
    rw [Lib.decDigits, dif_pos (by decide)] at hc
    rcases List.mem_cons.1 hc with rfl | hc
    · exact hd 0 (by decide)
    · cases hc
  | succ m ih =>
    intro u h c hc
    rw [Lib.decDigits] at hc
    split at hc
    · rename_i h10
      rcases List.mem_cons.1 hc with rfl | hc
      · exact hd u h10
      · cases hc
    · rename_i h10
      rcases List.mem_append.1 hc with hc | hc
      · exact ih (u / 10) (by omega) c hc
      · rcases List.mem_cons.1 hc with rfl | hc
        · exact hd _ (Nat.mod_lt _ (by decide))
        · cases hc
theorem digits_ne (u : Nat) : Lib.decDigits u ≠ [] := by
  rw [Lib.decDigits]
  split <;> simp
theorem digits_len (u : Nat) (h : u ≤ 1000000) : (Lib.decDigits u).length ≤ 7 := by
  have step : ∀ k v, v < 10 ^ (k + 1) → (Lib.decDigits v).length ≤ k + 1 := by
    intro k
    induction k with
    | zero =>
      intro v hv
      rw [Lib.decDigits, dif_pos (by omega)]
      exact Nat.le_refl _
    | succ k ih =>
      intro v hv
      rw [Lib.decDigits]
      split
      · show 1 ≤ _; omega
      · rw [List.length_append]
        have := ih (v / 10) (by rw [Nat.pow_succ] at hv; omega)
        show _ + 1 ≤ _
        omega
  exact step 6 u (by have : 10 ^ 7 = 10000000 := by decide
                     omega)
theorem itoa_nat (u : Nat) : Lib.itoa (u : Int) = Lib.decDigits u := by unfold Lib.itoa; rw [if_neg (by omega)]; rfl
theorem atoi_back (u : Nat) (h : u ≤ 1000000) : atoiO (Lib.decDigits u) = some (u : Int) := by
  have hl := digits_len u h
  unfold atoiO
  rw [Lib.atoiAll_short _ (by omega)]
  have hd := digits_dig u u (Nat.le_refl _)
  have hv := dec_digits u u (Nat.le_refl _)
  cases he : Lib.decDigits u with
  | nil => exact absurd he (digits_ne u)
  | cons b r =>
    rw [he] at hd hv
    have hb := hd b (List.mem_cons_self ..)
    have e1 : (b == 45) = false := by rw [beq_eq_false_iff_ne]; rintro rfl; revert hb; decide
    have e2 : (b == 43) = false := by rw [beq_eq_false_iff_ne]; rintro rfl; revert hb; decide
    have : Lib.atoi (b :: r) = some (u : Int) := by
      unfold Lib.atoi
      simp only
      rw [e1, e2]
      simp only [Bool.false_eq_true, if_false]
      unfold Lib.decNat
      rw [if_neg (by simp), hv]
      rfl
    rw [this]
    rfl
def stepW : List UInt8 := [115, 116, 101, 112]
def checkW : List UInt8 := [99, 104, 101, 99, 107, 112, 111, 105, 110, 116]
def recoW : List UInt8 := [114, 101, 99, 111, 118, 101, 114]
def crashW : List UInt8 := [99, 114, 97, 115, 104]
/-- the action that a line's words could stand for -/
def candA (w0 : List UInt8) (ns : List Int) : Act :=
  if w0 = stepW ∧ ns.length = 1 then ⟨1, ns.getD 0 0, 0, 0⟩
  else if w0 = checkW then ⟨2, 0, 0, 0⟩
  else if w0 = recoW then ⟨4, 0, 0, 0⟩
  else if w0 = crashW then (if ns.length = 2 then ⟨3, 0, ns.getD 0 0, ns.getD 1 0⟩ else ⟨3, 0, 0, 0⟩)
  else ⟨0, 0, 0, 0⟩
def atois : List (List UInt8) → Option (List Int)
  | [] => some []
  | w :: r => match atoiO w with
    | none => none
    | some v => match atois r with
      | none => none
      | some vs => some (v :: vs)
def lineP (s : List UInt8) : Option Act :=
  match wordsL s with
  | [] => none
  | w0 :: r => match atois r with
    | none => none
    | some ns => if rightB (candA w0 ns) 8 = true ∧ (lineB (candA w0 ns)).data.toList = s then some (candA w0 ns) else none
/-- the shapes of a valid action -/
theorem right_cases (a : Act) (h : rightB a 8 = true) : (∃ u : Nat, u < 8 ∧ a = ⟨1, u, 0, 0⟩) ∨ a = ⟨2, 0, 0, 0⟩ ∨ a = ⟨4, 0, 0, 0⟩ ∨ a = ⟨3, 0, 0, 0⟩ ∨ (∃ x b : Nat, 1 ≤ x ∧ x ≤ 1000000 ∧ b ≤ 64 ∧ a = ⟨3, 0, x, b⟩) := by
  obtain ⟨k, s, x, b⟩ := a
  unfold rightB at h
  simp only at h
  split at h
  · rename_i h1
    simp only [Bool.and_eq_true, decide_eq_true_eq] at h
    obtain ⟨⟨⟨h2, h3⟩, h4⟩, h5⟩ := h
    left
    refine ⟨s.toNat, by omega, ?_⟩
    subst h1 h4 h5
    congr
    omega
  split at h
  · rename_i _ h1
    simp only [Bool.and_eq_true, decide_eq_true_eq] at h
    obtain ⟨⟨h2, h3⟩, h4⟩ := h
    subst h2 h3 h4
    rcases h1 with rfl | rfl
    · exact .inr (.inl rfl)
    · exact .inr (.inr (.inl rfl))
  split at h
  · rename_i _ _ h1
    simp only [Bool.and_eq_true, Bool.or_eq_true, decide_eq_true_eq] at h
    obtain ⟨h2, h3⟩ := h
    subst h1 h2
    rcases h3 with ⟨h3, h4⟩ | ⟨⟨⟨h3, h4⟩, h5⟩, h6⟩
    · subst h3 h4
      exact .inr (.inr (.inr (.inl rfl)))
    · refine .inr (.inr (.inr (.inr ⟨x.toNat, b.toNat, by omega, by omega, by omega, ?_⟩)))
      congr <;> omega
  · cases h
theorem no32 (u : Nat) : (32 : UInt8) ∉ Lib.decDigits u := fun h => by
  have := digits_dig u u (Nat.le_refl _) 32 h
  revert this
  decide
theorem line_list1 (u : Nat) : (lineB ⟨1, u, 0, 0⟩).data.toList = stepW ++ 32 :: Lib.decDigits u := by
  unfold lineB
  rw [if_pos rfl, ByteArray.data_append, Array.toList_append]
  unfold itoB
  simp only
  rw [itoa_nat]
  rfl
theorem line_list3 (x b : Nat) (h : 1 ≤ x) : (lineB ⟨3, 0, x, b⟩).data.toList = crashW ++ 32 :: (Lib.decDigits x ++ 32 :: Lib.decDigits b) := by
  unfold lineB
  rw [if_neg (by simp), if_neg (by simp), if_neg (by simp), if_neg (by show ¬ (x : Int) = 0; omega), ByteArray.data_append, Array.toList_append, ByteArray.data_append, Array.toList_append, ByteArray.data_append, Array.toList_append]
  unfold itoB
  simp only
  rw [itoa_nat, itoa_nat]
  simp [crashW]
theorem line_back (a : Act) (h : rightB a 8 = true) : lineP (lineB a).data.toList = some a := by
  rcases right_cases a h with ⟨u, hu, rfl⟩ | rfl | rfl | rfl | ⟨x, b, h1, h2, h3, rfl⟩
  · unfold lineP
    rw [line_list1, words_app _ _ (by decide), words_one _ (no32 u)]
    simp only [atois, atoi_back u (by omega)]
    have hc : candA stepW [(u : Int)] = ⟨1, u, 0, 0⟩ := if_pos ⟨rfl, rfl⟩
    rw [hc, line_list1, if_pos ⟨h, rfl⟩]
  · rfl
  · rfl
  · rfl
  · unfold lineP
    rw [line_list3 x b h1, words_app _ _ (by decide), words_app _ _ (no32 x), words_one _ (no32 b)]
    simp only [atois, atoi_back x h2, atoi_back b (by omega)]
    have hc : candA crashW [(x : Int), (b : Int)] = ⟨3, 0, x, b⟩ := by
      unfold candA
      rw [if_neg (by intro h; exact absurd h.1 (by decide)), if_neg (by decide), if_neg (by decide), if_pos rfl]
      rfl
    rw [hc, line_list3 x b h1, if_pos ⟨h, rfl⟩]
theorem line_some (s : List UInt8) (a : Act) (h : lineP s = some a) : rightB a 8 = true ∧ (lineB a).data.toList = s := by
  unfold lineP at h
  split at h
  · cases h
  · split at h
    · cases h
    · split at h
      · rename_i hc
        injection h with h
        subst h
        exact hc
      · cases h
/-- what the reference reads of digits -/
def numF : List UInt8 → Nat → Option Nat
  | [], n => some n
  | c :: r, n => if c.toNat < 48 ∨ 57 < c.toNat ∨ 1000000 < n then none else numF r (n * 10 + (c.toNat - 48))
def numR (l : List UInt8) : Int := match numF l 0 with | some n => (n : Int) | none => -1
/-- the part before and behind the first space -/
def cut32 : List UInt8 → Option (List UInt8 × List UInt8)
  | [] => none
  | c :: r => if c = 32 then some ([], r) else (cut32 r).map fun q => (c :: q.1, q.2)
/-- the action that a line, with its line feed, could stand for -/
def rcand (s : List UInt8) : Act :=
  if s = checkW ++ [10] then ⟨2, 0, 0, 0⟩
  else if s = recoW ++ [10] then ⟨4, 0, 0, 0⟩
  else if s = crashW ++ [10] then ⟨3, 0, 0, 0⟩
  else if 6 < s.length ∧ s.take 5 = stepW ++ [32] then ⟨1, numR ((s.drop 5).take (s.length - 1 - 5)), 0, 0⟩
  else if 6 < s.length ∧ s.take 6 = crashW ++ [32] then
    (match cut32 (s.drop 6) with
    | none => ⟨0, 0, 0, 0⟩
    | some (a, b) => ⟨3, 0, numR a, numR (b.take (b.length - 1))⟩)
  else ⟨0, 0, 0, 0⟩
def rlineP (s : List UInt8) : Option Act := if rightB (rcand s) 8 = true ∧ (lineB (rcand s)).data.toList ++ [10] = s then some (rcand s) else none
theorem num_from : ∀ (l : List UInt8) (acc n : Nat), Lib.decFrom acc l = some n → n ≤ 1000000 → numF l acc = some n
  | [], acc, n, h, _ => h
  | c :: r, acc, n, h, hn => by
    rw [Lib.decFrom] at h
    have hmono : ∀ (l : List UInt8) (a m : Nat), Lib.decFrom a l = some m → a ≤ m := by
      intro l
      induction l with
      | nil => intro a m h; simp only [Lib.decFrom, Option.some.injEq] at h; omega
      | cons d q ih =>
        intro a m h
        rw [Lib.decFrom] at h
        cases hd : Lib.digitVal d with
        | none => rw [hd] at h; cases h
        | some e =>
          rw [hd] at h
          have := ih _ _ h
          omega
    cases hc : Lib.digitVal c with
    | none => rw [hc] at h; cases h
    | some d =>
      rw [hc] at h
      have h2 := hmono _ _ _ h
      unfold Lib.digitVal at hc
      split at hc
      · rename_i hdig
        injection hc with hc
        subst hc
        rw [numF, if_neg (by omega)]
        exact num_from r _ n h hn
      · cases hc
theorem num_back (u : Nat) (h : u ≤ 1000000) : numR (Lib.decDigits u) = (u : Int) := by
  unfold numR
  rw [num_from _ 0 u (dec_digits u u (Nat.le_refl _)) h]
theorem cut_app : ∀ a r : List UInt8, (32 : UInt8) ∉ a → cut32 (a ++ 32 :: r) = some (a, r)
  | [], r, _ => by rw [List.nil_append, cut32, if_pos rfl]
  | c :: a, r, h => by
    have hc : ¬ c = 32 := fun e => h (by rw [e]; exact List.mem_cons_self ..)
    rw [List.cons_append, cut32, if_neg hc, cut_app a r fun hm => h (List.mem_cons_of_mem _ hm)]
    rfl
theorem rline_back (a : Act) (h : rightB a 8 = true) : rlineP ((lineB a).data.toList ++ [10]) = some a := by
  have key : rcand ((lineB a).data.toList ++ [10]) = a := by
    rcases right_cases a h with ⟨u, hu, rfl⟩ | rfl | rfl | rfl | ⟨x, b, h1, h2, h3, rfl⟩
    · have hl : (stepW ++ 32 :: Lib.decDigits u ++ [10]).length = 6 + (Lib.decDigits u).length := by
        simp [stepW]; omega
      have hp : 0 < (Lib.decDigits u).length := List.length_pos_iff.2 (digits_ne u)
      rw [line_list1]
      unfold rcand
      rw [if_neg (by intro e; injection e with e _; cases e), if_neg (by intro e; injection e with e _; cases e), if_neg (by intro e; injection e with e _; cases e), if_pos ⟨by omega, rfl⟩]
      have hd : ((stepW ++ 32 :: Lib.decDigits u ++ [10]).drop 5).take ((stepW ++ 32 :: Lib.decDigits u ++ [10]).length - 1 - 5) = Lib.decDigits u := by
        rw [hl]
        show (Lib.decDigits u ++ [10]).take (6 + (Lib.decDigits u).length - 1 - 5) = _
        rw [show 6 + (Lib.decDigits u).length - 1 - 5 = (Lib.decDigits u).length by omega, List.take_left]
      rw [hd, num_back u (by omega)]
    · rfl
    · rfl
    · rfl
    · have hl : (crashW ++ 32 :: (Lib.decDigits x ++ 32 :: Lib.decDigits b) ++ [10]).length = 8 + (Lib.decDigits x).length + (Lib.decDigits b).length := by
        simp [crashW]; omega
      rw [line_list3 x b h1]
      unfold rcand
      rw [if_neg (by intro e; injection e with _ e; injection e with e _; cases e), if_neg (by intro e; injection e with e _; cases e), if_neg (by intro e; have := congrArg List.length e; rw [hl] at this; simp [crashW] at this; omega),
        if_neg (by intro e; have := e.2; injection this with e _; cases e), if_pos ⟨by omega, rfl⟩]
      have hd : (crashW ++ 32 :: (Lib.decDigits x ++ 32 :: Lib.decDigits b) ++ [10]).drop 6 = Lib.decDigits x ++ 32 :: (Lib.decDigits b ++ [10]) := by
        show (Lib.decDigits x ++ 32 :: Lib.decDigits b) ++ [10] = _
        simp
      rw [hd, cut_app _ _ (no32 x)]
      simp only
      rw [List.length_append, List.length_singleton, Nat.add_sub_cancel, List.take_left, num_back x h2, num_back b (by omega)]
  unfold rlineP
  rw [key, if_pos ⟨h, rfl⟩]
theorem rline_some (s : List UInt8) (a : Act) (h : rlineP s = some a) : rightB a 8 = true ∧ (lineB a).data.toList ++ [10] = s := by
  unfold rlineP at h
  split at h
  · rename_i hc
    injection h with h
    subst h
    exact hc
  · cases h
/-- program and reference read the same of a line -/
theorem line_same (s : List UInt8) : rlineP (s ++ [10]) = lineP s := by
  cases h : lineP s with
  | some a =>
    obtain ⟨h1, h2⟩ := line_some s a h
    rw [← h2]
    exact rline_back a h1
  | none =>
    cases h2 : rlineP (s ++ [10]) with
    | none => rfl
    | some a =>
      obtain ⟨h3, h4⟩ := rline_some _ a h2
      have h5 : (lineB a).data.toList = s := List.append_cancel_right h4
      rw [← h5, line_back a h3] at h
      cases h
/-- a schedule, read: the actions, or the number of the first wrong line -/
inductive Pr where
  | bad (n : Nat)
  | ok (l : List Act)
def Pr.pre (o : List Act) : Pr → Pr
  | .bad n => .bad n
  | .ok l => .ok (o ++ l)
/-- the part before and behind the first line feed -/
def cut10 : List UInt8 → Option (List UInt8 × List UInt8)
  | [] => none
  | c :: r => if c = 10 then some ([], r) else (cut10 r).map fun q => (c :: q.1, q.2)
theorem cut10_len : ∀ (l a r : List UInt8), cut10 l = some (a, r) → l = a ++ 10 :: r
  | [], a, r, h => by cases h
  | c :: l, a, r, h => by
    rw [cut10] at h
    split at h
    · rename_i hc
      injection h with h
      injection h with h1 h2
      subst h1 h2 hc
      rfl
    · cases hq : cut10 l with
      | none => rw [hq] at h; cases h
      | some q =>
        rw [hq] at h
        simp only [Option.map_some, Option.some.injEq, Prod.mk.injEq] at h
        obtain ⟨h1, h2⟩ := h
        subst h1 h2
        rw [cut10_len l q.1 q.2 hq]
        rfl
theorem cut10_app : ∀ a r : List UInt8, (10 : UInt8) ∉ a → cut10 (a ++ 10 :: r) = some (a, r)
  | [], r, _ => by rw [List.nil_append, cut10, if_pos rfl]
  | c :: a, r, h => by
    have hc : ¬ c = 10 := fun e => h (by rw [e]; exact List.mem_cons_self ..)
    rw [List.cons_append, cut10, if_neg hc, cut10_app a r fun hm => h (List.mem_cons_of_mem _ hm)]
    rfl
theorem cut10_none : ∀ l : List UInt8, cut10 l = none ↔ (10 : UInt8) ∉ l
  | [] => by simp [cut10]
  | c :: l => by
    rw [cut10]
    by_cases hc : c = 10
    · rw [if_pos hc, hc]; simp
    · rw [if_neg hc, Option.map_eq_none_iff, cut10_none l, List.mem_cons]
      constructor
      · rintro h (e | e)
        · exact hc e.symm
        · exact h e
      · intro h e; exact h (.inr e)
def prF : Nat → List UInt8 → Nat → Pr
  | 0, _, n => .bad n
  | f + 1, l, n =>
    match l with
    | [] => .ok []
    | c :: r => match cut10 (c :: r) with
      | none => .bad n
      | some (a, q) => match lineP a with
        | none => .bad n
        | some x => (prF f q (n + 1)).pre [x]
def prL (l : List UInt8) (n : Nat) : Pr := prF (l.length + 1) l n
theorem prF_eq : ∀ (f g : Nat) (l : List UInt8) (n : Nat), l.length < f → l.length < g → prF f l n = prF g l n
  | 0, _, l, n => by intro h; omega
  | _ + 1, 0, l, n => by intro _ h; omega
  | f + 1, g + 1, l, n => by
    intro hf hg
    cases l with
    | nil => rfl
    | cons c r =>
      rw [prF, prF]
      cases hc : cut10 (c :: r) with
      | none => rfl
      | some p =>
        obtain ⟨a, q⟩ := p
        simp only
        cases hl : lineP a with
        | none => rfl
        | some x =>
          simp only
          have := congrArg List.length (cut10_len _ _ _ hc)
          rw [List.length_append, List.length_cons, List.length_cons] at this
          rw [List.length_cons] at hf hg
          rw [prF_eq f g q _ (by omega) (by omega)]
theorem pr_nil (n : Nat) : prL [] n = .ok [] := rfl
theorem pr_cut (c : UInt8) (r : List UInt8) (n : Nat) (h : cut10 (c :: r) = none) : prL (c :: r) n = .bad n := by
  unfold prL; rw [prF, h]
theorem pr_line (c : UInt8) (r a q : List UInt8) (n : Nat) (h : cut10 (c :: r) = some (a, q)) (hl : lineP a = none) : prL (c :: r) n = .bad n := by
  unfold prL; rw [prF, h]; simp only; rw [hl]
theorem pr_step (c : UInt8) (r a q : List UInt8) (n : Nat) (x : Act) (h : cut10 (c :: r) = some (a, q)) (hl : lineP a = some x) : prL (c :: r) n = (prL q (n + 1)).pre [x] := by
  unfold prL; rw [prF, h]; simp only; rw [hl]
  simp only
  have := congrArg List.length (cut10_len _ _ _ h)
  rw [List.length_append, List.length_cons, List.length_cons] at this
  rw [prF_eq (c :: r).length (q.length + 1) q _ (by rw [List.length_cons]; omega) (by omega)]
theorem pr_pre (a b : List Act) (x : Pr) : (x.pre b).pre a = x.pre (a ++ b) := by cases x <;> simp [Pr.pre]
theorem digits_no10 (u : Nat) : (10 : UInt8) ∉ Lib.decDigits u := fun h => by
  have := digits_dig u u (Nat.le_refl _) 10 h
  revert this
  decide
theorem line_no10 (a : Act) (h : rightB a 8 = true) : (10 : UInt8) ∉ (lineB a).data.toList := by
  rcases right_cases a h with ⟨u, hu, rfl⟩ | rfl | rfl | rfl | ⟨x, b, h1, h2, h3, rfl⟩
  · rw [line_list1]
    intro hm
    rcases List.mem_append.1 hm with hm | hm
    · revert hm; decide
    · rcases List.mem_cons.1 hm with hm | hm
      · cases hm
      · exact digits_no10 u hm
  · decide
  · decide
  · decide
  · rw [line_list3 x b h1]
    intro hm
    rcases List.mem_append.1 hm with hm | hm
    · revert hm; decide
    · rcases List.mem_cons.1 hm with hm | hm
      · cases hm
      · rcases List.mem_append.1 hm with hm | hm
        · exact digits_no10 x hm
        · rcases List.mem_cons.1 hm with hm | hm
          · cases hm
          · exact digits_no10 b hm
theorem pr_fmt : ∀ (l : List Act) (n : Nat), validB l 8 = true → prL (fmtL l) n = .ok l
  | [], n, _ => rfl
  | a :: l, n, h => by
    unfold validB at h
    rw [List.all_cons, Bool.and_eq_true] at h
    have e : fmtL (a :: l) = (lineB a).data.toList ++ 10 :: fmtL l := by simp [fmtL]
    have hc : cut10 (fmtL (a :: l)) = some ((lineB a).data.toList, fmtL l) := by rw [e, cut10_app _ _ (line_no10 a h.1)]
    cases hf : fmtL (a :: l) with
    | nil => rw [hf] at hc; cases hc
    | cons c r =>
      rw [hf] at hc
      rw [pr_step c r _ _ n a hc (line_back a h.1), pr_fmt l (n + 1) h.2]
      rfl
end Go.Proofs.YtcdinoepjimkmaaDoor
