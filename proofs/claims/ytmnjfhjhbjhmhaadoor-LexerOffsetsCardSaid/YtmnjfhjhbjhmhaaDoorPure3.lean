/-
  Plain laws over the pure lexer: offsets, names, literals, numbers.
-/
import Derived.Test.YtmnjfhjhbjhmhaaDoorPure2
namespace Go.Proofs.YtmnjfhjhbjhmhaaDoor
open Go.RowKit
set_option linter.unusedVariables false
set_option maxHeartbeats 1000000
set_option maxRecDepth 100000

/-- the tokens of a string from an offset on -/
def Offs (s : List UInt8) : Nat → List Tk → Prop
  | _, [] => False
  | lo, t :: u => lo ≤ t.pos ∧ t.pos ≤ s.length ∧ (t.kind = 0 ↔ u = []) ∧ (t.kind = 0 → t.pos = s.length) ∧
      ((t.kind = 3 ∨ t.kind = 5) → t.text ≠ [] ∧ t.text.length ≤ s.length - t.pos ∧ (s.drop t.pos).take t.text.length = t.text) ∧ (u = [] ∨ Offs s (t.pos + 1) u)
theorem Offs_mono (s : List UInt8) (a b : Nat) (l : List Tk) (h : Offs s b l) (hab : a ≤ b) : Offs s a l := by
  cases l with
  | nil => exact h
  | cons t u =>
    unfold Offs at h ⊢
    exact ⟨Nat.le_trans hab h.1, h.2⟩
theorem tok_text (c : UInt8) (r : List UInt8) (k : Nat) (x : List UInt8) (n : Nat) (h : tokL (c :: r) = .tok k x n) : k ≠ 0 ∧ ((k = 3 ∨ k = 5) → x = (c :: r).take n) := by
  rw [tokL] at h
  split at h
  · unfold wordL at h
    split at h
    · cases h; exact ⟨by decide, by rintro (h | h) <;> cases h⟩
    · split at h
      · cases h
      · cases h; exact ⟨by decide, by rintro (h | h) <;> cases h⟩
  split at h
  · unfold numL at h
    split at h
    · cases h
    · split at h
      · cases h
      · cases h; exact ⟨by decide, fun _ => rfl⟩
  split at h
  · unfold textL at h
    cases hl : litF r [] 1 with
    | none => rw [hl] at h; cases h
    | some q =>
      obtain ⟨X, i⟩ := q
      rw [hl] at h
      simp only at h
      split at h
      · cases h
      · cases h; exact ⟨by decide, by rintro (h | h) <;> cases h⟩
  · unfold symL at h
    split at h
    · cases h
    · cases h; exact ⟨by decide, fun _ => rfl⟩
theorem T_offs (s : List UInt8) : ∀ (m : Nat) (l : List UInt8) (p : Nat) (x : List Tk), l.length ≤ m → s.drop p = l → p ≤ s.length → T l p = .ok x → Offs s p x := by
  intro m
  induction m with
  | zero =>
    intro l p x hl hs hp hx
    obtain rfl : l = [] := List.eq_nil_of_length_eq_zero (by omega)
    have h2 := congrArg List.length hs
    rw [List.length_drop, List.length_nil] at h2
    rw [T_end [] p rfl, Ls.ok.injEq] at hx
    subst hx
    have e0 : skipN false [] = 0 := rfl
    unfold Offs
    refine ⟨Nat.le_add_right _ _, by show p + skipN false [] ≤ _; omega, by simp, fun _ => by show p + skipN false [] = _; omega, (by rintro (h | h) <;> cases h), .inl rfl⟩
  | succ m ih =>
    intro l p x hl hs hp hx
    have h2 := congrArg List.length hs
    rw [List.length_drop] at h2
    have hk := skip_le false l
    cases hd : l.drop (skipN false l) with
    | nil =>
      have h3 := congrArg List.length hd
      rw [List.length_drop, List.length_nil] at h3
      rw [T_end l p hd, Ls.ok.injEq] at hx
      subst hx
      unfold Offs
      refine ⟨Nat.le_add_right _ _, by show p + skipN false l ≤ _; omega, by simp, fun _ => by show p + skipN false l = _; omega, (by rintro (h | h) <;> cases h), .inl rfl⟩
    | cons c r =>
      have h3 := congrArg List.length hd
      rw [List.length_drop] at h3
      have h3c : (c :: r).length = r.length + 1 := rfl
      cases ht : tokL (c :: r) with
      | bad e => rw [T_bad l p c r e hd ht] at hx; cases hx
      | tok k y n =>
        have hb := tok_bound c r k y n ht
        have htx := tok_text c r k y n ht
        rw [T_tok l p c r k y n hd ht] at hx
        cases hz : T ((c :: r).drop n) (p + skipN false l + n) with
        | bad a' e => rw [hz] at hx; cases hx
        | ok z =>
          rw [hz, Ls.pre, Ls.ok.injEq] at hx
          have hsd : s.drop (p + skipN false l) = c :: r := by rw [← List.drop_drop, hs, hd]
          have hi := ih _ (p + skipN false l + n) z (by rw [List.length_drop]; omega) (by rw [← List.drop_drop, hsd]) (by omega) hz
          have hne : z ≠ [] := by rintro rfl; exact hi
          subst hx
          show Offs s p (⟨k, y, p + skipN false l⟩ :: z)
          unfold Offs
          refine ⟨Nat.le_add_right _ _, by show p + skipN false l ≤ _; omega, ⟨fun h => absurd h htx.1, fun h => absurd h hne⟩, fun h => absurd h htx.1, fun h => ?_, .inr (Offs_mono s _ _ z hi (by show p + skipN false l + 1 ≤ _; omega))⟩
          have e := htx.2 h
          show y ≠ [] ∧ y.length ≤ s.length - (p + skipN false l) ∧ (s.drop (p + skipN false l)).take y.length = y
          have el : y.length = n := by rw [e, List.length_take]; omega
          refine ⟨fun h0 => ?_, by omega, by rw [hsd, el, ← e]⟩
          rw [h0, List.length_nil] at el
          omega
def lowW (c : UInt8) : Bool := (97 ≤ c.toNat && c.toNat ≤ 122) || isDigit c || c.toNat == 95
/-- the identifiers -/
def nameP (l : List UInt8) : Bool :=
  match l with
  | [] => false
  | c :: r => decide (l.length ≤ 24) && (decide (97 ≤ c.toNat) && decide (c.toNat ≤ 122)) && l.all lowW && !(isKw l)
theorem low_word (c : UInt8) (h : lowW c = true) : inWord c = true ∧ loC c = c := by
  constructor
  · unfold lowW at h
    unfold inWord isLetter
    grind
  · apply num_ext
    have h3 := loC_num c
    unfold lowW isDigit at h
    split at h3
    · grind
    · exact h3
theorem span_full (f : UInt8 → Bool) : ∀ l : List UInt8, (∀ c ∈ l, f c = true) → spanN f l = l.length
  | [], _ => rfl
  | c :: r, h => by
    rw [spanN, if_pos (h c List.mem_cons_self), span_full f r fun x hx => h x (List.mem_cons_of_mem _ hx), List.length_cons]
theorem letter_word (c : UInt8) (h : isLetter c = true) : inWord c = true := by unfold inWord; rw [h]; rfl
theorem letter_skip (c : UInt8) (r : List UInt8) (h : isLetter c = true) : skipN false (c :: r) = 0 := by
  rw [skipN]
  unfold isLetter at h
  rw [if_neg (by grind), if_neg (by grind)]
theorem T_one (c : UInt8) (r : List UInt8) (k : Nat) (x : List UInt8) (h : skipN false (c :: r) = 0) (ht : tokL (c :: r) = .tok k x (r.length + 1)) : T (c :: r) 0 = .ok [⟨k, x, 0⟩, ⟨0, [], r.length + 1⟩] := by
  rw [T_tok (c :: r) 0 c r k x _ (by rw [h]; rfl) ht, h]
  have e : (c :: r).drop (r.length + 1) = [] := List.drop_length (l := c :: r)
  rw [e, T_end [] _ rfl]
  simp [Ls.pre, skipN]
theorem T_name (l : List UInt8) (h : nameP l = true) : T l 0 = .ok [⟨1, l, 0⟩, ⟨0, [], l.length⟩] := by
  cases l with
  | nil => cases h
  | cons c r =>
    unfold nameP at h
    simp only [Bool.and_eq_true, decide_eq_true_eq, List.all_eq_true, Bool.not_eq_true'] at h
    obtain ⟨⟨⟨h1, h2⟩, h3⟩, h4⟩ := h
    have hl : isLetter c = true := by unfold isLetter; grind
    have hs : spanN inWord (c :: r) = (c :: r).length := span_full _ _ fun x hx => (low_word x (h3 x hx)).1
    have hm : (c :: r).map loC = c :: r := by
      conv => rhs; rw [← List.map_id (c :: r)]
      exact List.map_congr_left fun x hx => (low_word x (h3 x hx)).2
    refine T_one c r 1 (c :: r) (letter_skip c r hl) ?_
    rw [tokL, if_pos hl]
    unfold wordL
    rw [hs, List.take_length, h4, if_neg (by decide), if_neg (by omega), hm]
    rfl
theorem kw_letters : ∀ k ∈ kwNames, k ≠ [] ∧ ∀ c ∈ k, isLetter c = true := by
  have : (kwNames.all fun k => !k.isEmpty && k.all isLetter) = true := by decide
  intro k hk
  have h := List.all_eq_true.1 this k hk
  rw [Bool.and_eq_true, List.all_eq_true] at h
  refine ⟨?_, h.2⟩
  rintro rfl
  exact absurd h.1 (by decide)
theorem T_kw (l : List UInt8) (h : isKw l = true) : T l 0 = .ok [⟨2, l.map upC, 0⟩, ⟨0, [], l.length⟩] := by
  have h' := h
  unfold isKw at h'
  obtain ⟨h1, h2⟩ := kw_letters _ (of_decide_eq_true h')
  cases l with
  | nil => exact absurd rfl h1
  | cons c r =>
    have hl : ∀ x ∈ c :: r, isLetter x = true := fun x hx => by rw [← up_letter]; exact h2 _ (List.mem_map_of_mem hx)
    have hc := hl c List.mem_cons_self
    have hs : spanN inWord (c :: r) = (c :: r).length := span_full _ _ fun x hx => letter_word x (hl x hx)
    refine T_one c r 2 ((c :: r).map upC) (letter_skip c r hc) ?_
    rw [tokL, if_pos hc]
    unfold wordL
    rw [hs, List.take_length, if_pos h]
    rfl
/-- the inside of a literal -/
def flat : List UInt8 → List UInt8
  | [] => []
  | c :: r => if c.toNat = 39 then c :: c :: flat r else c :: flat r
def quoL (l : List UInt8) : List UInt8 := 39 :: (flat l ++ [39])
theorem lit_flat : ∀ (l X : List UInt8) (i : Nat), (∀ c ∈ l, isPrint c = true) → litF (flat l ++ [39]) X i = some (X ++ l, i + (flat l).length + 1)
  | [], X, i, _ => by
    rw [flat, List.nil_append, lit_cons, if_neg (by decide), if_pos (by decide), List.append_nil]
    rfl
  | c :: r, X, i, h => by
    have hc := h c List.mem_cons_self
    have hr : ∀ x ∈ r, isPrint x = true := fun x hx => h x (List.mem_cons_of_mem _ hx)
    rw [flat]
    by_cases hq : c.toNat = 39
    · rw [if_pos hq, List.cons_append, List.cons_append, lit_cons, hc, if_neg (by decide), if_pos hq]
      show (if c.toNat = 39 then litF (flat r ++ [39]) (X ++ [c]) (i + 1 + 1) else some (X, i + 1)) = _
      rw [if_pos hq, lit_flat r (X ++ [c]) (i + 1 + 1) hr, List.append_assoc]
      simp only [List.length_cons, List.singleton_append, Option.some.injEq, Prod.mk.injEq, true_and]
      omega
    · rw [if_neg hq, List.cons_append, lit_cons, hc, if_neg (by decide), if_neg hq, lit_flat r (X ++ [c]) (i + 1) hr, List.append_assoc]
      simp only [List.length_cons, List.singleton_append, Option.some.injEq, Prod.mk.injEq, true_and]
      omega
theorem lit_inv : ∀ (l X : List UInt8) (i : Nat) (Y : List UInt8), litF l X i = some (Y, i + l.length) → ∃ Z, Y = X ++ Z ∧ l = flat Z ++ [39] ∧ ∀ c ∈ Z, isPrint c = true
  | [], X, i, Y => by intro h; simp [litF] at h
  | [c], X, i, Y => by
    intro h
    rw [litF] at h
    split at h
    · exact absurd h (by simp)
    split at h
    · rename_i hp hq
      simp only [Option.some.injEq, Prod.mk.injEq] at h
      refine ⟨[], by rw [h.1, List.append_nil], ?_, by simp⟩
      rw [flat, List.nil_append, num_ext c 39 hq]
    · simp [litF] at h
  | c :: d :: r, X, i, Y => by
    intro h
    rw [litF] at h
    split at h
    · exact absurd h (by simp)
    rename_i hp
    simp only [Bool.not_eq_false] at hp
    split at h
    · rename_i hq
      split at h
      · rename_i hq2
        rw [show i + (c :: d :: r).length = i + 1 + 1 + r.length by simp only [List.length_cons]; omega] at h
        obtain ⟨Z, h1, h2, h3⟩ := lit_inv r _ _ Y h
        refine ⟨d :: Z, by rw [h1, List.append_assoc]; rfl, ?_, ?_⟩
        · rw [flat, if_pos hq2, num_ext c d (hq.trans hq2.symm), h2]; rfl
        · intro x hx
          rcases List.mem_cons.1 hx with rfl | hx
          · unfold isPrint; rw [hq2]; rfl
          · exact h3 x hx
      · simp only [Option.some.injEq, Prod.mk.injEq, List.length_cons] at h
        omega
    · rename_i hq
      rw [show i + (c :: d :: r).length = i + 1 + (d :: r).length by simp only [List.length_cons]; omega] at h
      obtain ⟨Z, h1, h2, h3⟩ := lit_inv (d :: r) _ _ Y h
      refine ⟨c :: Z, by rw [h1, List.append_assoc]; rfl, ?_, ?_⟩
      · rw [flat, if_neg hq, h2]; rfl
      · intro x hx
        rcases List.mem_cons.1 hx with rfl | hx
        · exact hp
        · exact h3 x hx
theorem lit_off (d : Nat) : ∀ (l X : List UInt8) (i : Nat), litF l X (i + d) = (litF l X i).map fun q => (q.1, q.2 + d)
  | [], X, i => by rw [litF, litF]; rfl
  | [c], X, i => by
    rw [lit_cons c [], lit_cons c []]
    by_cases h1 : isPrint c = false
    · rw [if_pos h1, if_pos h1]; rfl
    rw [if_neg h1, if_neg h1]
    by_cases h2 : c.toNat = 39
    · rw [if_pos h2, if_pos h2]
      simp only [Option.map_some, Option.some.injEq, Prod.mk.injEq, true_and]; omega
    · rw [if_neg h2, if_neg h2, litF, litF]; rfl
  | c :: e :: r, X, i => by
    rw [lit_cons c (e :: r), lit_cons c (e :: r)]
    by_cases h1 : isPrint c = false
    · rw [if_pos h1, if_pos h1]; rfl
    rw [if_neg h1, if_neg h1]
    by_cases h2 : c.toNat = 39
    · rw [if_pos h2, if_pos h2]
      simp only
      by_cases h3 : e.toNat = 39
      · rw [if_pos h3, if_pos h3, show i + d + 1 + 1 = i + 1 + 1 + d by omega, lit_off d r]
      · rw [if_neg h3, if_neg h3]
        simp only [Option.map_some, Option.some.injEq, Prod.mk.injEq, true_and]; omega
    · rw [if_neg h2, if_neg h2, show i + d + 1 = i + 1 + d by omega, lit_off d (e :: r)]
/-- the text of a literal -/
def unq (s : List UInt8) : Option (List UInt8) :=
  match s with
  | [] => none
  | c :: r => if c.toNat = 39 then (match litF r [] 1 with | some (X, i) => if X.length ≤ 16 ∧ i = s.length then some X else none | none => none) else none
theorem T_quo (l : List UInt8) (h : ∀ c ∈ l, isPrint c = true) (hn : l.length ≤ 16) : T (quoL l) 0 = .ok [⟨4, l, 0⟩, ⟨0, [], (quoL l).length⟩] := by
  have e : (flat l ++ [39]).length = (flat l).length + 1 := by rw [List.length_append]; rfl
  have := T_one 39 (flat l ++ [39]) 4 l rfl (by
    rw [tokL, if_neg (by decide), if_neg (by decide), if_pos (by decide)]
    unfold textL
    rw [lit_flat l [] 1 h]
    simp only [List.nil_append]
    rw [if_neg (by omega), e, show 1 + (flat l).length + 1 = (flat l).length + 1 + 1 by omega])
  exact this
theorem unq_quo (l : List UInt8) (h : ∀ c ∈ l, isPrint c = true) (hn : l.length ≤ 16) : unq (quoL l) = some l := by
  unfold unq quoL
  simp only
  rw [if_pos (by decide), lit_flat l [] 1 h]
  simp only [List.nil_append]
  rw [if_pos]
  refine ⟨hn, ?_⟩
  rw [List.length_cons, List.length_append]
  simp only [List.length_cons, List.length_nil]
  omega
theorem unq_inv (s x : List UInt8) (h : unq s = some x) : quoL x = s ∧ x.length ≤ 16 ∧ ∀ c ∈ x, isPrint c = true := by
  unfold unq at h
  cases s with
  | nil => cases h
  | cons c r =>
    simp only at h
    split at h
    · rename_i hq
      cases hl : litF r [] 1 with
      | none => rw [hl] at h; cases h
      | some q =>
        obtain ⟨X, i⟩ := q
        rw [hl] at h
        simp only at h
        split at h
        · rename_i hc
          obtain ⟨hc1, hc2⟩ := hc
          cases h
          rw [hc2, List.length_cons, Nat.add_comm] at hl
          obtain ⟨Z, h1, h2, h3⟩ := lit_inv r [] 1 x hl
          rw [List.nil_append] at h1
          subst h1
          refine ⟨?_, hc1, h3⟩
          unfold quoL
          rw [← h2, num_ext c 39 hq]
        · cases h
    · cases h
/-- numbers: the value and the digits -/
theorem dv_from (l : List UInt8) : ∀ v, l.foldl (fun v c => 10 * v + (c.toNat - 48)) v = v * 10 ^ l.length + digVal l := by
  unfold digVal
  induction l with
  | nil => intro v; simp
  | cons c r ih =>
    intro v
    rw [List.foldl_cons, List.foldl_cons, ih, ih (10 * 0 + _), List.length_cons, Nat.pow_succ, Nat.add_mul]
    have : 10 * v * 10 ^ r.length = v * (10 ^ r.length * 10) := by rw [Nat.mul_comm 10 v, Nat.mul_assoc, Nat.mul_comm 10]
    rw [this]
    simp only [Nat.mul_zero, Nat.zero_add]
    omega
theorem dv_cons (c : UInt8) (r : List UInt8) : digVal (c :: r) = (c.toNat - 48) * 10 ^ r.length + digVal r := by
  have := dv_from r (10 * 0 + (c.toNat - 48))
  rw [Nat.mul_zero, Nat.zero_add] at this
  rw [← this]
  show List.foldl _ _ _ = _
  rw [List.foldl_cons, Nat.mul_zero, Nat.zero_add]
theorem dv_lt : ∀ l : List UInt8, (∀ c ∈ l, isDigit c = true) → digVal l < 10 ^ l.length
  | [], _ => by decide
  | c :: r, h => by
    have h1 := dv_lt r fun x hx => h x (List.mem_cons_of_mem _ hx)
    have h2 := h c List.mem_cons_self
    rw [dv_cons, List.length_cons, Nat.pow_succ]
    have h3 : c.toNat - 48 ≤ 9 := by unfold isDigit at h2; grind
    have h4 : (c.toNat - 48) * 10 ^ r.length ≤ 9 * 10 ^ r.length := Nat.mul_le_mul_right _ h3
    omega
theorem dv_less : ∀ (a b : List UInt8), a.length = b.length → (∀ c ∈ a, isDigit c = true) → (∀ c ∈ b, isDigit c = true) → Op.bytesLess a b = decide (digVal a < digVal b)
  | [], [], _, _, _ => by decide
  | c :: r, d :: q, hl, ha, hb => by
    have hl' : r.length = q.length := by simpa using hl
    have ha' : ∀ x ∈ r, isDigit x = true := fun x hx => ha x (List.mem_cons_of_mem _ hx)
    have hb' : ∀ x ∈ q, isDigit x = true := fun x hx => hb x (List.mem_cons_of_mem _ hx)
    have h1 := dv_lt r ha'
    have h2 := dv_lt q hb'
    have h3 := ha c List.mem_cons_self
    have h4 := hb d List.mem_cons_self
    have hc : 48 ≤ c.toNat ∧ c.toNat ≤ 57 := by unfold isDigit at h3; grind
    have hd : 48 ≤ d.toNat ∧ d.toNat ≤ 57 := by unfold isDigit at h4; grind
    rw [Op.bytesLess, dv_less r q hl' ha' hb', dv_cons, dv_cons, hl']
    rw [hl'] at h1
    generalize 10 ^ q.length = P at *
    rcases Nat.lt_trichotomy c.toNat d.toNat with h | h | h
    · have e1 : decide (c < d) = true := decide_eq_true (UInt8.lt_iff_toNat_lt.2 h)
      rw [e1, Bool.true_or]
      symm
      apply decide_eq_true
      have : (c.toNat - 48 + 1) * P ≤ (d.toNat - 48) * P := Nat.mul_le_mul_right _ (by omega)
      rw [Nat.add_mul, Nat.one_mul] at this
      omega
    · have e0 := num_ext c d h
      subst e0
      have e1 : decide (c < c) = false := decide_eq_false (by rw [UInt8.lt_iff_toNat_lt]; omega)
      rw [e1, Bool.false_or, beq_self_eq_true, Bool.true_and]
      apply decide_eq_decide.2
      omega
    · have e1 : decide (c < d) = false := decide_eq_false (by rw [UInt8.lt_iff_toNat_lt]; omega)
      have e2 : (c == d) = false := by rw [beq_eq_false_iff_ne]; rintro rfl; omega
      rw [e1, e2, Bool.false_and, Bool.or_false]
      symm
      apply decide_eq_false
      have : (d.toNat - 48 + 1) * P ≤ (c.toNat - 48) * P := Nat.mul_le_mul_right _ (by omega)
      rw [Nat.add_mul, Nat.one_mul] at this
      omega
def big10 : List UInt8 := [50, 49, 52, 55, 52, 56, 51, 54, 52, 56]
theorem dv_big (l : List UInt8) (hl : ∀ c ∈ l, isDigit c = true) (h0 : 1 < l.length → l.head? ≠ some 48) :
    (2147483648 < digVal l) ↔ (10 < l.length ∨ (l.length = 10 ∧ Op.bytesLess big10 l = true)) := by
  have h1 := dv_lt l hl
  rcases Nat.lt_trichotomy l.length 10 with h | h | h
  · constructor
    · intro hv
      exfalso
      have : 10 ^ l.length ≤ 10 ^ 9 := Nat.pow_le_pow_right (by decide) (by omega)
      have e : 10 ^ 9 = 1000000000 := by decide
      omega
    · rintro (h2 | ⟨h2, _⟩) <;> omega
  · have e : digVal big10 = 2147483648 := by decide
    rw [dv_less big10 l (by rw [h]; rfl) (by decide) hl, e, decide_eq_true_eq]
    constructor
    · intro hv; exact .inr ⟨h, hv⟩
    · rintro (h2 | ⟨_, h2⟩)
      · omega
      · exact h2
  · refine ⟨fun _ => .inl h, fun _ => ?_⟩
    cases l with
    | nil => simp at h
    | cons c r =>
      rw [List.length_cons] at h
      rw [dv_cons]
      have h3 := hl c List.mem_cons_self
      have h4 : c.toNat ≠ 48 := fun e => h0 (by rw [List.length_cons]; omega) (by rw [List.head?_cons, num_ext c 48 e])
      have h5 : 1 ≤ c.toNat - 48 := by unfold isDigit at h3; grind
      have h6 : 10 ^ 10 ≤ 10 ^ r.length := Nat.pow_le_pow_right (by decide) (by omega)
      have h7 : 1 * 10 ^ r.length ≤ (c.toNat - 48) * 10 ^ r.length := Nat.mul_le_mul_right _ h5
      have e : 10 ^ 10 = 10000000000 := by decide
      omega
end Go.Proofs.YtmnjfhjhbjhmhaaDoor
