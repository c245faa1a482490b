/-
  Plain laws over the pure lexer: offsets shifted, two strings joined, the case of letters.
-/
import Derived.Test.YtmnjfhjhbjhmhaaDoorPure
namespace Go.Proofs.YtmnjfhjhbjhmhaaDoor
open Go.RowKit
set_option linter.unusedVariables false
set_option maxHeartbeats 1000000
set_option maxRecDepth 100000

def Tk.sh (d : Nat) (t : Tk) : Tk := ⟨t.kind, t.text, t.pos + d⟩
def Ls.sh (d : Nat) : Ls → Ls
  | .bad a e => .bad (a + d) e
  | .ok l => .ok (l.map (Tk.sh d))
theorem T_shift (d : Nat) : ∀ (m : Nat) (l : List UInt8) (p : Nat), l.length ≤ m → T l (p + d) = (T l p).sh d := by
  intro m
  induction m with
  | zero =>
    intro l p hl
    obtain rfl : l = [] := List.eq_nil_of_length_eq_zero (by omega)
    rw [T_end [] (p + d) rfl, T_end [] p rfl]
    rfl
  | succ m ih =>
    intro l p hl
    cases hd : l.drop (skipN false l) with
    | nil =>
      rw [T_end l _ hd, T_end l _ hd]
      simp only [Ls.sh, Tk.sh, List.map_cons, List.map_nil, Ls.ok.injEq, List.cons.injEq, Tk.mk.injEq, true_and, and_true]
      omega
    | cons c r =>
      cases ht : tokL (c :: r) with
      | bad e =>
        rw [T_bad l _ c r e hd ht, T_bad l _ c r e hd ht]
        simp only [Ls.sh, Ls.bad.injEq, and_true]
        omega
      | tok k x n =>
        have hb := tok_bound c r k x n ht
        have hlen : (c :: r).length ≤ l.length := by rw [← hd, List.length_drop]; omega
        rw [T_tok l _ c r k x n hd ht, T_tok l _ c r k x n hd ht]
        rw [show p + d + skipN false l + n = p + skipN false l + n + d by omega, ih _ _ (by rw [List.length_drop]; omega)]
        cases T ((c :: r).drop n) (p + skipN false l + n) with
        | bad a e => rfl
        | ok y =>
          simp only [Ls.sh, Ls.pre, Tk.sh, List.map_append, List.map_cons, List.map_nil, Ls.ok.injEq, List.append_cancel_right_eq, List.cons.injEq, Tk.mk.injEq, true_and, and_true]
          omega
theorem skip_app (b : List UInt8) : ∀ (m : Bool) (l : List UInt8), skipN m (l ++ 10 :: b) = if skipN m l < l.length then skipN m l else l.length + 1 + skipN false b
  | true, [] => by simp [skipN]; omega
  | false, [] => by simp [skipN]; omega
  | true, c :: r => by
    have h1 := skip_app b true r
    have h2 := skip_app b false r
    rw [List.cons_append, skipN, skipN, h1, h2, List.length_cons]
    split <;> split <;> split <;> omega
  | false, c :: r => by
    have h1 := skip_app b true r
    have h2 := skip_app b false r
    have h3 : ((r ++ 10 :: b).head? = some 45) = (r.head? = some 45) := by
      cases r with
      | nil => simp
      | cons d q => rfl
    rw [List.cons_append, skipN, skipN, h1, h2, List.length_cons]
    simp only [h3]
    repeat' split
    all_goals omega
theorem span_app (f : UInt8 → Bool) (b : List UInt8) (hf : f 10 = false) : ∀ l : List UInt8, spanN f (l ++ 10 :: b) = spanN f l
  | [] => by simp [spanN, hf]
  | c :: r => by rw [List.cons_append, spanN, spanN, span_app f b hf r]
theorem lit_app (b : List UInt8) : ∀ (l X : List UInt8) (i : Nat) (q : List UInt8 × Nat), litF l X i = some q → litF (l ++ 10 :: b) X i = some q
  | [], X, i, q => by intro h; simp [litF] at h
  | [c], X, i, q => by
    intro h
    rw [litF] at h
    rw [List.cons_append, List.nil_append, litF]
    split at h
    · exact absurd h (by simp)
    rename_i h1
    rw [if_neg h1]
    split at h
    · rename_i h2
      rw [if_pos h2]
      rw [if_neg (by decide)]
      exact h
    · simp [litF] at h
  | c :: d :: r, X, i, q => by
    intro h
    rw [litF] at h
    rw [List.cons_append, List.cons_append, litF]
    split at h
    · exact absurd h (by simp)
    rename_i h1
    rw [if_neg h1]
    split at h
    · rename_i h2
      rw [if_pos h2]
      split at h
      · rename_i h3
        rw [if_pos h3]
        exact lit_app b r _ _ q h
      · rename_i h3
        rw [if_neg h3]
        exact h
    · rename_i h2
      rw [if_neg h2]
      exact lit_app b (d :: r) _ _ q h
theorem sym_app (b : List UInt8) (c : UInt8) (r : List UInt8) : symN (c :: r ++ 10 :: b) = symN (c :: r) := by
  cases r with
  | nil =>
    show symN (c :: 10 :: b) = _
    rw [symN, symN, if_neg (by simp)]
  | cons d q =>
    show symN (c :: d :: (q ++ 10 :: b)) = _
    rw [symN, symN]
theorem head_app (l b : List UInt8) (n : Nat) : headW ((l ++ 10 :: b).drop n) = headW (l.drop n) ∨ l.length ≤ n := by
  rcases Nat.lt_or_ge n l.length with h | h
  · left
    rw [List.drop_append_of_le_length (by omega)]
    cases hd : l.drop n with
    | nil =>
      have := congrArg List.length hd
      rw [List.length_drop, List.length_nil] at this
      omega
    | cons c r => rfl
  · exact .inr h
theorem tok_app (b : List UInt8) (c : UInt8) (r : List UInt8) (k : Nat) (x : List UInt8) (n : Nat) (h : tokL (c :: r) = .tok k x n) : tokL (c :: r ++ 10 :: b) = .tok k x n := by
  rw [tokL] at h
  rw [List.cons_append, tokL, ← List.cons_append]
  split at h
  · rename_i h1
    rw [if_pos h1]
    unfold wordL at h ⊢
    rw [span_app inWord b (by decide), List.take_append_of_le_length (span_le inWord (c :: r))]
    exact h
  rename_i h1
  rw [if_neg h1]
  split at h
  · rename_i h2
    rw [if_pos h2]
    unfold numL at h ⊢
    rw [span_app isDigit b (by decide), List.take_append_of_le_length (span_le isDigit (c :: r))]
    have e1 : (c :: r ++ 10 :: b).head? = (c :: r).head? := rfl
    have e2 : headW ((c :: r ++ 10 :: b).drop (spanN isDigit (c :: r))) = headW ((c :: r).drop (spanN isDigit (c :: r))) := by
      rcases head_app (c :: r) b (spanN isDigit (c :: r)) with e | e
      · exact e
      · have e' : spanN isDigit (c :: r) = (c :: r).length := by have := span_le isDigit (c :: r); omega
        rw [e', List.drop_append_of_le_length (Nat.le_refl _), List.drop_length]
        rfl
    rw [e1, e2]
    exact h
  rename_i h2
  rw [if_neg h2]
  split at h
  · rename_i h3
    rw [if_pos h3]
    unfold textL at h ⊢
    cases hl : litF r [] 1 with
    | none => rw [hl] at h; cases h
    | some q => rw [lit_app b r [] 1 q hl]; rw [hl] at h; exact h
  · rename_i h3
    rw [if_neg h3]
    unfold symL at h ⊢
    rw [sym_app]
    rw [List.take_append_of_le_length (sym_le (c :: r))]
    exact h
theorem T_skip (l l' : List UInt8) (p p' : Nat) (h1 : l.drop (skipN false l) = l'.drop (skipN false l')) (h2 : p + skipN false l = p' + skipN false l') : T l p = T l' p' := by
  rw [T_eq l p, T_eq l' p', h1, h2]
theorem T_cat : ∀ (m : Nat) (a : List UInt8) (p : Nat) (x : List Tk), a.length ≤ m → T a p = .ok x →
    ∃ x' : List Tk, x = x' ++ [⟨0, [], p + a.length⟩] ∧ ∀ b, T (a ++ 10 :: b) p = (T b (p + a.length + 1)).pre x' := by
  intro m
  have base : ∀ (a : List UInt8) (p : Nat) (x : List Tk), a.drop (skipN false a) = [] → T a p = .ok x →
      ∃ x' : List Tk, x = x' ++ [⟨0, [], p + a.length⟩] ∧ ∀ b, T (a ++ 10 :: b) p = (T b (p + a.length + 1)).pre x' := by
    intro a p x hd hx
    have hs : skipN false a = a.length := by
      have h1 := skip_le false a
      have h2 := congrArg List.length hd
      rw [List.length_drop, List.length_nil] at h2
      omega
    rw [T_end a p hd, Ls.ok.injEq] at hx
    refine ⟨[], by rw [← hx, hs]; rfl, fun b => ?_⟩
    have e : ∀ y : Ls, y.pre [] = y := fun y => by cases y <;> rfl
    rw [e]
    have hk : skipN false (a ++ 10 :: b) = a.length + 1 + skipN false b := by rw [skip_app, if_neg (by omega)]
    apply T_skip
    · rw [hk, Nat.add_assoc, ← List.drop_drop, List.drop_left, Nat.add_comm, List.drop_succ_cons]
    · rw [hk]; omega
  induction m with
  | zero =>
    intro a p x hl hx
    obtain rfl : a = [] := List.eq_nil_of_length_eq_zero (by omega)
    exact base [] p x rfl hx
  | succ m ih =>
    intro a p x hl hx
    cases hd : a.drop (skipN false a) with
    | nil => exact base a p x hd hx
    | cons c r =>
      have hlen : (c :: r).length = a.length - skipN false a := by rw [← hd, List.length_drop]
      have hlt : skipN false a < a.length := by rw [List.length_cons] at hlen; omega
      cases ht : tokL (c :: r) with
      | bad e => rw [T_bad a p c r e hd ht] at hx; cases hx
      | tok k y n =>
        have hb := tok_bound c r k y n ht
        rw [T_tok a p c r k y n hd ht] at hx
        cases hz : T ((c :: r).drop n) (p + skipN false a + n) with
        | bad a' e => rw [hz] at hx; cases hx
        | ok z =>
          rw [hz, Ls.pre, Ls.ok.injEq] at hx
          have hn : ((c :: r).drop n).length = a.length - skipN false a - n := by rw [List.length_drop]; omega
          obtain ⟨z', hz1, hz2⟩ := ih _ _ z (by omega) hz
          refine ⟨[⟨k, y, p + skipN false a⟩] ++ z', ?_, fun b => ?_⟩
          · rw [← hx, hz1, hn, List.append_assoc]
            rw [show p + skipN false a + n + (a.length - skipN false a - n) = p + a.length by omega]
          · have hk : skipN false (a ++ 10 :: b) = skipN false a := by rw [skip_app, if_pos hlt]
            have hd' : (a ++ 10 :: b).drop (skipN false (a ++ 10 :: b)) = c :: (r ++ 10 :: b) := by
              rw [hk, List.drop_append_of_le_length (by omega), hd]; rfl
            rw [T_tok _ p c (r ++ 10 :: b) k y n hd' (tok_app b c r k y n ht), hk]
            rw [← List.cons_append, List.drop_append_of_le_length hb.2, hz2, hn]
            rw [show p + skipN false a + n + (a.length - skipN false a - n) = p + a.length by omega]
            rw [pre_pre]
theorem upC_num (c : UInt8) : (upC c).toNat = if 97 ≤ c.toNat ∧ c.toNat ≤ 122 then c.toNat - 32 else c.toNat := by
  unfold upC
  split
  · rename_i h
    rw [UInt8.toNat_sub_of_le _ _ (by rw [UInt8.le_iff_toNat_le]; have : (32 : UInt8).toNat = 32 := rfl; omega)]
    rfl
  · rfl
theorem loC_num (c : UInt8) : (loC c).toNat = if 65 ≤ c.toNat ∧ c.toNat ≤ 90 then c.toNat + 32 else c.toNat := by
  unfold loC
  split
  · rename_i h
    rw [UInt8.toNat_add]
    have : (32 : UInt8).toNat = 32 := rfl
    omega
  · rfl
theorem num_ext (c d : UInt8) (h : c.toNat = d.toNat) : c = d := UInt8.toNat_inj.1 h
theorem up_letter (c : UInt8) : isLetter (upC c) = isLetter c := by
  unfold isLetter
  have h := upC_num c
  split at h <;> grind
theorem up_digit (c : UInt8) : isDigit (upC c) = isDigit c := by
  unfold isDigit
  have h := upC_num c
  split at h <;> grind
theorem up_iff (c : UInt8) (v : Nat) (hv : v < 65) : ((upC c).toNat = v) = (c.toNat = v) := by
  have h := upC_num c
  split at h
  · exact propext ⟨fun _ => by omega, fun _ => by omega⟩
  · rw [h]
theorem up_eq (c v : UInt8) (hv : v.toNat < 65) : (upC c = v) = (c = v) := by
  have h := up_iff c v.toNat hv
  exact propext ⟨fun e => num_ext _ _ (h ▸ congrArg UInt8.toNat e), fun e => num_ext _ _ (h.symm ▸ congrArg UInt8.toNat e)⟩
theorem up_word (c : UInt8) : inWord (upC c) = inWord c := by
  unfold inWord
  rw [up_letter, up_digit]
  have h := up_iff c 95
  have h2 := upC_num c
  split at h2 <;> grind
theorem up_up (c : UInt8) : upC (upC c) = upC c := by
  apply num_ext
  have h := upC_num (upC c)
  have h2 := upC_num c
  split at h <;> split at h2 <;> omega
theorem lo_up (c : UInt8) : loC (upC c) = loC c := by
  apply num_ext
  have h := loC_num (upC c)
  have h2 := upC_num c
  have h3 := loC_num c
  split at h <;> split at h2 <;> split at h3 <;> omega
theorem up_digit_id (c : UInt8) (h : isDigit c = true) : upC c = c := by
  unfold upC
  rw [if_neg]
  unfold isDigit at h
  grind
theorem span_map (f : UInt8 → Bool) (hf : ∀ c, f (upC c) = f c) : ∀ l : List UInt8, spanN f (l.map upC) = spanN f l
  | [] => rfl
  | c :: r => by rw [List.map_cons, spanN, spanN, hf, span_map f hf r]
theorem skip_map : ∀ (m : Bool) (l : List UInt8), skipN m (l.map upC) = skipN m l
  | m, [] => rfl
  | true, c :: r => by
    rw [List.map_cons, skipN, skipN, skip_map true r, skip_map false r]
    simp only [up_iff c 10 (by decide)]
  | false, c :: r => by
    have h : ((r.map upC).head? = some 45) = (r.head? = some 45) := by
      cases r with
      | nil => rfl
      | cons d q =>
        simp only [List.map_cons, List.head?_cons, Option.some.injEq]
        exact up_eq d 45 (by decide)
    rw [List.map_cons, skipN, skipN, skip_map true r, skip_map false r]
    simp only [up_iff c 10 (by decide), up_iff c 32 (by decide), up_iff c 9 (by decide), up_iff c 45 (by decide), h]
theorem syms_up (c : UInt8) : (upC c ∈ syms) = (c ∈ syms) := by
  unfold syms
  simp only [List.mem_cons, List.not_mem_nil, or_false]
  repeat rw [up_eq c _ (by decide)]
theorem sym_map : ∀ l : List UInt8, symN (l.map upC) = symN l
  | [] => rfl
  | [c] => by
    show symN [upC c] = _
    rw [symN, symN]
    simp only [syms_up]
  | c :: d :: r => by
    show symN (upC c :: upC d :: r.map upC) = _
    rw [symN, symN]
    simp only [syms_up, up_eq c 60 (by decide), up_eq c 62 (by decide), up_eq d 61 (by decide), up_eq d 62 (by decide)]
theorem sym_text : ∀ l : List UInt8, (l.take (symN l)).map upC = l.take (symN l)
  | [] => rfl
  | [c] => by
    rw [symN]
    split
    · rename_i h
      simp only [List.take_succ_cons, List.take_nil, List.map_cons, List.map_nil, List.cons.injEq, and_true]
      revert h
      unfold syms
      simp only [List.mem_cons, List.not_mem_nil, or_false]
      rintro (rfl | rfl | rfl | rfl | rfl | rfl | rfl | rfl | rfl | rfl | rfl | rfl | rfl) <;> rfl
    · rfl
  | c :: d :: r => by
    rw [symN]
    split
    · rename_i h
      rcases h with ⟨rfl, rfl⟩ | ⟨rfl, rfl⟩ | ⟨rfl, rfl⟩ <;> rfl
    · split
      · rename_i h
        simp only [List.take_succ_cons, List.take_zero, List.map_cons, List.map_nil, List.cons.injEq, and_true]
        revert h
        unfold syms
        simp only [List.mem_cons, List.not_mem_nil, or_false]
        rintro (rfl | rfl | rfl | rfl | rfl | rfl | rfl | rfl | rfl | rfl | rfl | rfl | rfl) <;> rfl
      · rfl
theorem map_up_id (l : List UInt8) (h : ∀ c ∈ l, isDigit c = true) : l.map upC = l := by
  conv => rhs; rw [← List.map_id l]
  exact List.map_congr_left fun c hc => up_digit_id c (h c hc)
theorem isKw_up (l : List UInt8) : isKw (l.map upC) = isKw l := by
  unfold isKw
  rw [List.map_map]
  have : upC ∘ upC = upC := funext up_up
  rw [this]
theorem head_map (l : List UInt8) : headW (l.map upC) = headW l := by
  cases l with
  | nil => rfl
  | cons c r => exact up_word c
theorem tok_map (c : UInt8) (r : List UInt8) (h39 : c.toNat ≠ 39) : tokL ((c :: r).map upC) = tokL (c :: r) := by
  have hm : (c :: r).map upC = upC c :: r.map upC := rfl
  rw [hm, tokL, tokL, up_letter, up_digit]
  simp only [up_iff c 39 (by decide)]
  rw [← hm]
  split
  · unfold wordL
    rw [span_map inWord up_word, ← List.map_take, isKw_up, List.map_map, List.map_map]
    have e1 : upC ∘ upC = upC := funext up_up
    have e2 : loC ∘ upC = loC := funext lo_up
    rw [e1, e2]
  split
  · unfold numL
    rw [span_map isDigit up_digit, ← List.map_take, ← List.map_drop, head_map, map_up_id _ (span_all isDigit (c :: r))]
    have e : (((c :: r).map upC).head? = some 48) = ((c :: r).head? = some 48) := by
      simp only [List.map_cons, List.head?_cons, Option.some.injEq]
      exact up_eq c 48 (by decide)
    simp only [e]
  try rw [if_neg h39, if_neg h39]
  unfold symL
  rw [sym_map, ← List.map_take, sym_text]
theorem T_map : ∀ (m : Nat) (l : List UInt8) (p : Nat), l.length ≤ m → (∀ c ∈ l, c.toNat ≠ 39) → T (l.map upC) p = T l p := by
  intro m
  induction m with
  | zero =>
    intro l p hl _
    obtain rfl : l = [] := List.eq_nil_of_length_eq_zero (by omega)
    rfl
  | succ m ih =>
    intro l p hl hq
    have hk := skip_map false l
    cases hd : l.drop (skipN false l) with
    | nil =>
      rw [T_end l p hd, T_end (l.map upC) p (by rw [hk, ← List.map_drop, hd]; rfl), hk]
    | cons c r =>
      have hd' : (l.map upC).drop (skipN false (l.map upC)) = upC c :: r.map upC := by rw [hk, ← List.map_drop, hd]; rfl
      have hmem : ∀ x ∈ c :: r, x.toNat ≠ 39 := fun x hx => hq x (List.mem_of_mem_drop (hd ▸ hx))
      have hm := tok_map c r (hmem c (List.mem_cons_self))
      have hlen : (c :: r).length ≤ l.length := by rw [← hd, List.length_drop]; omega
      cases ht : tokL (c :: r) with
      | bad e =>
        rw [T_bad l p c r e hd ht, T_bad _ p (upC c) (r.map upC) e hd' (hm.trans ht), hk]
      | tok k x n =>
        have hb := tok_bound c r k x n ht
        rw [T_tok l p c r k x n hd ht, T_tok _ p (upC c) (r.map upC) k x n hd' (hm.trans ht), hk]
        rw [← List.map_cons, ← List.map_drop, ih _ _ (by rw [List.length_drop]; omega) fun x hx => hmem x (List.mem_of_mem_drop hx)]
theorem T_case (l l' : List UInt8) (p : Nat) (h : l'.map upC = l.map upC) (hl : ∀ c ∈ l, c.toNat ≠ 39) : T l' p = T l p := by
  have hl' : ∀ c ∈ l', c.toNat ≠ 39 := by
    intro c hc he
    have h1 : upC c ∈ l.map upC := h ▸ List.mem_map_of_mem hc
    obtain ⟨d, hd, e⟩ := List.mem_map.1 h1
    have h2 := up_iff c 39 (by decide)
    have h3 := up_iff d 39 (by decide)
    rw [e] at h3
    exact hl d hd (h3 ▸ h2.symm ▸ he)
  rw [← T_map _ l' p (Nat.le_refl _) hl', ← T_map _ l p (Nat.le_refl _) hl, h]
end Go.Proofs.YtmnjfhjhbjhmhaaDoor
