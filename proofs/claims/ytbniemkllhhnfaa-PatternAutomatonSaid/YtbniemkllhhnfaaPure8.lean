/-
  Plain laws for the pattern package: the search finds the first texts, in order.
-/
import Derived.Test.YtbniemkllhhnfaaPure5
import Derived.Test.YtbniemkllhhnfaaPure7
namespace Go.Proofs.Ytbniemkllhhnfaa
open Go.RowKit

/-- all texts of a length, in order -/
def wds : Nat → List (List Nat)
  | 0 => [[]]
  | n + 1 => chars.flatMap fun c => (wds n).map (c :: ·)
def accT (ts : List Tst) (l t : List Nat) : Bool := allOk ts (t.foldl (nxs ts) l)
/-- the texts that pass, from some states on -/
def sols (ts : List Tst) (n : Nat) (l : List Nat) : List (List Nat) := (wds n).filter (accT ts l)
def solsC (ts : List Tst) (n : Nat) (l : List Nat) (cs : List Nat) : List (List Nat) := cs.flatMap fun c => (sols ts n (nxs ts l c)).map (c :: ·)
theorem filter_flatMap' {α β : Type} (p : β → Bool) (f : α → List β) (l : List α) : (l.flatMap f).filter p = l.flatMap fun a => (f a).filter p := by
  induction l with
  | nil => rfl
  | cons a l ih => simp [List.flatMap_cons, List.filter_append, ih]
theorem sols_succ (ts : List Tst) (n : Nat) (l : List Nat) : sols ts (n + 1) l = solsC ts n l chars := by
  unfold sols solsC
  rw [wds, filter_flatMap']
  congr 1
  funext c
  rw [List.filter_map]
  rfl
theorem solsC_cons (ts : List Tst) (n : Nat) (l : List Nat) (c : Nat) (cs : List Nat) : solsC ts n l (c :: cs) = (sols ts n (nxs ts l c)).map (c :: ·) ++ solsC ts n l cs := rfl

theorem key3_inj {a b : Nat} (ha : a < 131072) (hb : b < 131072) (h : key3 a = key3 b) : a = b := by
  simp only [key3, List.cons.injEq, and_true] at h
  omega
theorem flat3_inj : ∀ (a b : List Nat), a.length = b.length → (∀ s ∈ a, s < 131072) → (∀ s ∈ b, s < 131072) → a.flatMap key3 = b.flatMap key3 → a = b := by
  intro a
  induction a with
  | nil => intro b h _ _ _; cases b; rfl; cases h
  | cons x a ih =>
    intro b h ha hb e
    cases b with
    | nil => cases h
    | cons y b =>
      rw [List.flatMap_cons, List.flatMap_cons] at e
      have := List.append_inj e rfl
      rw [key3_inj (ha x (by simp)) (hb y (by simp)) this.1, ih b (by simpa using h) (fun s hs => ha s (by simp [hs])) (fun s hs => hb s (by simp [hs])) this.2]
theorem keyL_inj (a b : List Nat) (i j : Nat) (h : a.length = b.length) (ha : ∀ s ∈ a, s < 131072) (hb : ∀ s ∈ b, s < 131072) (hi : i < 256) (hj : j < 256) (e : keyL a i = keyL b j) : a = b ∧ i = j := by
  unfold keyL at e
  injection e with e1 e2
  exact ⟨flat3_inj a b h ha hb e2, by omega⟩

/-- what the memory holds is true -/
def DOk (ts : List Tst) (dead : List (List Nat)) : Prop := ∀ n l, n + 1 < 256 → okL ts l → keyL l (n + 1) ∈ dead → sols ts (n + 1) l = []
/-- the new keys are those of fewer characters, and of possible states -/
def New (ts : List Tst) (P : List Nat → Prop) (n : Nat) (d d' : List (List Nat)) : Prop := d'.Nodup ∧ ∀ x ∈ d', x ∈ d ∨ ∃ l k, okL ts l ∧ P l ∧ 1 ≤ k ∧ k ≤ n ∧ x = keyL l k

theorem fndLoop_law (ts : List Tst) (most : Int) (P : List Nat → Prop) (n : Nat) (l text : List Nat) (rec : Nat → Fst → Bool × Fst)
    (hrec : ∀ c (st : Fst), (st.out.length : Int) < most → DOk ts st.dead → st.dead.Nodup →
      (rec c st).2.out = st.out ++ (((sols ts n (nxs ts l c)).map (c :: ·)).take (most.toNat - st.out.length)).map (text ++ ·) ∧ DOk ts (rec c st).2.dead ∧ New ts P n st.dead (rec c st).2.dead ∧ ((rec c st).1 = true ↔ sols ts n (nxs ts l c) ≠ []))
    (cs : List Nat) : ∀ (f : Bool) (st : Fst), DOk ts st.dead → st.dead.Nodup →
      (fndLoop most rec cs f st).2.out = st.out ++ ((solsC ts n l cs).take (most.toNat - st.out.length)).map (text ++ ·) ∧ DOk ts (fndLoop most rec cs f st).2.dead ∧ New ts P n st.dead (fndLoop most rec cs f st).2.dead ∧
      ((fndLoop most rec cs f st).1 = true ↔ f = true ∨ (solsC ts n l cs).take (most.toNat - st.out.length) ≠ []) := by
  induction cs with
  | nil =>
    intro f st hd hn
    exact ⟨by simp [fndLoop, solsC], hd, ⟨hn, fun x hx => .inl hx⟩, by simp [fndLoop, solsC]⟩
  | cons c cs ih =>
    intro f st hd hn
    unfold fndLoop
    by_cases hm : (st.out.length : Int) < most
    · rw [if_pos hm]
      obtain ⟨h1, h2, h3, h4⟩ := hrec c st hm hd hn
      obtain ⟨k1, k2, k3, k4⟩ := ih (f || (rec c st).1) (rec c st).2 h2 h3.1
      have hlen : (rec c st).2.out.length = st.out.length + min (most.toNat - st.out.length) (sols ts n (nxs ts l c)).length := by
        rw [h1]; simp
      have hk : most.toNat - (rec c st).2.out.length = (most.toNat - st.out.length) - ((sols ts n (nxs ts l c)).map (c :: ·)).length := by
        rw [hlen, List.length_map]; omega
      have hpos : 0 < most.toNat - st.out.length := by omega
      refine ⟨?_, k2, ⟨k3.1, fun x hx => ?_⟩, ?_⟩
      · dsimp only
        rw [k1, solsC_cons, List.take_append, List.map_append, hk, h1, List.append_assoc]
      · rcases k3.2 x hx with h | h
        · exact h3.2 x h
        · exact .inr h
      · dsimp only
        rw [k4, solsC_cons, List.take_append, hk, Bool.or_eq_true, h4]
        have : (((sols ts n (nxs ts l c)).map (c :: ·)).take (most.toNat - st.out.length) ≠ []) ↔ sols ts n (nxs ts l c) ≠ [] := by
          rw [ne_eq, List.take_eq_nil_iff, List.map_eq_nil_iff]
          constructor
          · intro h hh; exact h (.inr hh)
          · intro h hh; rcases hh with hh | hh; omega; exact h hh
        have e : ∀ a b : List (List Nat), a ++ b ≠ [] ↔ a ≠ [] ∨ b ≠ [] := fun a b => by
          rw [ne_eq, List.append_eq_nil_iff, Classical.not_and_iff_not_or_not]
        rw [e, this, or_assoc]
    · rw [if_neg hm, show most.toNat - st.out.length = 0 by omega]
      exact ⟨by simp, hd, ⟨hn, fun x hx => .inl hx⟩, by simp⟩

theorem fnd_law (ts : List Tst) (most : Int) (P : List Nat → Prop) (hts : ∀ t ∈ ts, t.p.size ≤ 16) (hP : ∀ l c, P l → P (nxs ts l c)) : ∀ (n : Nat), n < 256 → ∀ (l text : List Nat) (st : Fst), okL ts l → P l → (st.out.length : Int) < most → DOk ts st.dead → st.dead.Nodup →
    (fnd ts most n l text st).2.out = st.out ++ ((sols ts n l).take (most.toNat - st.out.length)).map (text ++ ·) ∧ DOk ts (fnd ts most n l text st).2.dead ∧ New ts P n st.dead (fnd ts most n l text st).2.dead ∧ ((fnd ts most n l text st).1 = true ↔ sols ts n l ≠ []) := by
  intro n
  induction n with
  | zero =>
    intro _ l text st hl hp hm hd hn
    have hs : sols ts 0 l = if allOk ts l then [[]] else [] := by
      unfold sols; rw [wds]
      have : accT ts l [] = allOk ts l := rfl
      rw [List.filter_cons, this]; rfl
    unfold fnd
    rw [hs]
    have hk : most.toNat - st.out.length = (most.toNat - st.out.length - 1) + 1 := by omega
    cases allOk ts l
    · exact ⟨by simp, hd, ⟨hn, fun x hx => .inl hx⟩, by simp⟩
    · exact ⟨by rw [hk]; simp, hd, ⟨hn, fun x hx => .inl hx⟩, by simp⟩
  | succ n ih =>
    intro h256 l text st hl hp hm hd hn
    unfold fnd
    by_cases hc : st.dead.contains (keyL l (n + 1)) = true
    · rw [if_pos hc]
      rw [hd n l h256 hl (by simpa using hc)]
      exact ⟨by simp, hd, ⟨hn, fun x hx => .inl hx⟩, by simp⟩
    · rw [if_neg hc]
      have hL := fndLoop_law ts most P n l text (fun c s => fnd ts most n (nxs ts l c) (text ++ [c]) s) (fun c s hm hd hn => by
        obtain ⟨h1, h2, h3, h4⟩ := ih (by omega) (nxs ts l c) (text ++ [c]) s (nxs_ok ts l c hts hl) (hP l c hp) hm hd hn
        refine ⟨?_, h2, h3, h4⟩
        rw [h1, ← List.map_take, List.map_map]
        congr 2
        funext t
        simp) chars false st hd hn
      rw [sols_succ]
      dsimp only at hL ⊢
      generalize fndLoop most (fun c s => fnd ts most n (nxs ts l c) (text ++ [c]) s) chars false st = r at hL ⊢
      obtain ⟨f, st'⟩ := r
      obtain ⟨h1, h2, h3, h4⟩ := hL
      dsimp only at h1 h2 h3 h4 ⊢
      have hpos : (solsC ts n l chars).take (most.toNat - st.out.length) ≠ [] ↔ solsC ts n l chars ≠ [] := by
        rw [ne_eq, List.take_eq_nil_iff]
        constructor
        · intro h hh; exact h (.inr hh)
        · intro h hh; rcases hh with hh | hh; omega; exact h hh
      rw [hpos] at h4
      have hup : New ts P (n + 1) st.dead st'.dead := ⟨h3.1, fun x hx => by
        rcases h3.2 x hx with h | ⟨l', k, a, b, c, d, e⟩
        · exact .inl h
        · exact .inr ⟨l', k, a, b, c, by omega, e⟩⟩
      cases f
      · have hnil : solsC ts n l chars = [] := by
          by_cases hh : solsC ts n l chars = []
          · exact hh
          · have := h4.2 (.inr hh); cases this
        rw [if_neg (by simp)]
        refine ⟨h1, ?_, ⟨?_, ?_⟩, by simp [hnil]⟩
        · intro m l' hm' hl' hk
          rw [List.mem_cons] at hk
          rcases hk with hk | hk
          · obtain ⟨e1, e2⟩ := keyL_inj l' l (m + 1) (n + 1) (hl'.1.trans hl.1.symm) (okL_lt ts l' hts hl') (okL_lt ts l hts hl) hm' h256 hk
            have : m = n := by omega
            subst this e1
            rw [sols_succ]; exact hnil
          · exact h2 m l' hm' hl' hk
        · rw [List.nodup_cons]
          refine ⟨fun hk => ?_, h3.1⟩
          rcases h3.2 _ hk with h | ⟨l', k, a, b, c, d, e⟩
          · exact hc (by simpa using h)
          · have := (keyL_inj l l' (n + 1) k (hl.1.trans a.1.symm) (okL_lt ts l hts hl) (okL_lt ts l' hts a) h256 (by omega) e).2
            omega
        · intro x hx
          rw [List.mem_cons] at hx
          rcases hx with hx | hx
          · exact .inr ⟨l, n + 1, hl, hp, by omega, by omega, hx⟩
          · exact hup.2 x hx
      · rw [if_pos rfl]
        exact ⟨h1, h2, hup, ⟨fun _ => by rcases h4.1 rfl with h | h; cases h; exact h, fun _ => rfl⟩⟩

theorem nodup_len : ∀ (a b : List (List Nat)), a.Nodup → (∀ x ∈ a, x ∈ b) → a.length ≤ b.length := by
  intro a
  induction a with
  | nil => intro b _ _; simp
  | cons x a ih =>
    intro b hn hs
    rw [List.nodup_cons] at hn
    have hx := hs x (by simp)
    have := ih (b.erase x) hn.2 (fun y hy => (List.mem_erase_of_ne (by rintro rfl; exact hn.1 hy)).2 (hs y (by simp [hy])))
    rw [List.length_erase_of_mem hx] at this
    have := List.length_pos_of_mem hx
    simp; omega
def tup : Nat → List (List Nat)
  | 0 => [[]]
  | m + 1 => (List.range 128).flatMap fun s => (tup m).map (s :: ·)
theorem flatMap_len {α β : Type} (f : α → List β) (k : Nat) (l : List α) (h : ∀ a ∈ l, (f a).length = k) : (l.flatMap f).length = l.length * k := by
  induction l with
  | nil => simp
  | cons a l ih => rw [List.flatMap_cons, List.length_append, h a (by simp), ih (fun b hb => h b (by simp [hb])), List.length_cons]; rw [Nat.add_mul]; omega
theorem tup_len (m : Nat) : (tup m).length = 128 ^ m := by
  induction m with
  | zero => rfl
  | succ m ih => rw [tup, flatMap_len _ (128 ^ m) _ (fun a _ => by rw [List.length_map, ih]), List.length_range, Nat.pow_succ, Nat.mul_comm]
theorem tup_mem (l : List Nat) (h : ∀ s ∈ l, s < 128) : l ∈ tup l.length := by
  induction l with
  | nil => simp [tup]
  | cons a l ih =>
    rw [List.length_cons, tup, List.mem_flatMap]
    exact ⟨a, by simpa using h a (by simp), List.mem_map.2 ⟨l, ih (fun s hs => h s (by simp [hs])), rfl⟩⟩
/-- the memory stays small -/
theorem dead_len (ts : List Tst) (hlen : ts.length ≤ 4) (n : Nat) (hn : n < 256) (d : List (List Nat)) (h : New ts (fun l => ∀ s ∈ l, s < 128) n [] d) : d.length ≤ 68719476736 := by
  have h1 := nodup_len d ((List.range 256).flatMap fun k => (tup ts.length).map fun l => keyL l k) h.1 (fun x hx => by
    rcases h.2 x hx with h | ⟨l, k, a, b, c, e, rfl⟩
    · cases h
    · rw [List.mem_flatMap]
      exact ⟨k, by simp; omega, List.mem_map.2 ⟨l, by rw [← a.1]; exact tup_mem l b, rfl⟩⟩)
  rw [flatMap_len _ (128 ^ ts.length) _ (fun a _ => by rw [List.length_map, tup_len]), List.length_range] at h1
  have h2 : 128 ^ ts.length ≤ 128 ^ 4 := Nat.pow_le_pow_right (by omega) hlen
  omega

/-- small states, of short texts -/
theorem bits_lt (s n : Nat) (h : ∀ i, s.testBit i = true → i ≤ n) : s < 2 ^ (n + 1) := by
  apply Nat.lt_pow_two_of_testBit
  intro i hi
  cases hb : s.testBit i
  · rfl
  · have := h i hb; omega
theorem cloTo_bits (p : List Nat) (s k : Nat) (hk : k ≤ p.length) (h : ∀ i, s.testBit i = true → i ≤ p.length) : ∀ i, (cloTo p s k).testBit i = true → i ≤ p.length := by
  induction k with
  | zero => exact h
  | succ k ih =>
    intro i hi
    rw [cloTo_bit] at hi
    rcases hi with hi | ⟨_, _, hi⟩
    · exact ih (by omega) i hi
    · omega
def sml (kd : Int) (n s : Nat) : Prop := if kd = 1 then (∀ i, s.testBit i = true → i ≤ n) else s ≤ n ∨ s = 100 ∨ s = 101
theorem sml_lt (kd : Int) (n s : Nat) (hn : n ≤ 6) (h : sml kd n s) : s < 128 := by
  unfold sml at h
  split at h
  · have h1 := bits_lt s n h
    have h2 : 2 ^ (n + 1) ≤ 2 ^ 7 := Nat.pow_le_pow_right (by omega) (by omega)
    omega
  · omega
theorem beg_sml (kd : Int) (p : List Nat) : sml kd p.length (beg kd p) := by
  unfold sml beg
  split
  · refine cloTo_bits p 1 p.length (Nat.le_refl _) (fun i hi => ?_)
    rw [show (1 : Nat) = 2 ^ 0 from rfl, Nat.testBit_two_pow] at hi
    simp at hi; omega
  · omega
theorem nx_sml (kd : Int) (p : List Nat) (s c : Nat) (h : sml kd p.length s) : sml kd p.length (nx kd p s c) := by
  unfold sml nx at *
  split
  · refine cloTo_bits p _ p.length (Nat.le_refl _) (fun j hj => ?_)
    rw [nxTo_bit p s c _ _ (Nat.le_refl _)] at hj
    obtain ⟨i, hi, _, ⟨_, h⟩ | ⟨_, _, h⟩⟩ := hj <;> omega
  · rename_i hk
    rw [if_neg hk] at h
    unfold nxCmp
    split
    · exact h
    · split
      · omega
      · split
        · omega
        · rename_i h1 h2 h3
          omega
def smlL (ts : List Tst) (l : List Nat) : Prop := ∀ (i : Nat) (t : Tst), ts[i]? = some t → sml t.kd t.p.size (at0 l i)

end Go.Proofs.Ytbniemkllhhnfaa
