/-
  Plain functions for the automaton of a test: edges, reachable states, and the count of position sets.
-/
import Derived.Test.YtbniemkllhhnfaaPure8
namespace Go.Proofs.Ytbniemkllhhnfaa
open Go.RowKit

/-- an edge -/
structure Ed where
  lo : Nat
  hi : Nat
  to : Nat
/-- the end of the edges before number i -/
def hiAt (E : List Ed) (i : Nat) : Nat := if i = 0 then 31 else (E.getD (i - 1) ⟨0, 0, 0⟩).hi
/-- the edges cover the characters from 32 to c - 1, and lead to the numbers of the next states -/
structure Cov (sts : List Nat) (f : Nat → Nat) (E : List Ed) (c : Nat) : Prop where
  seq : ∀ (i : Nat) (e : Ed), E[i]? = some e → e.lo = hiAt E i + 1 ∧ e.lo ≤ e.hi
  done : hiAt E E.length + 1 = c
  goes : ∀ (i : Nat) (e : Ed), E[i]? = some e → ∀ ch, e.lo ≤ ch → ch ≤ e.hi → sts[e.to]? = some (f ch)
theorem hiAt_len (E : List Ed) (e : Ed) : hiAt (E ++ [e]) (E.length + 1) = e.hi := by
  unfold hiAt; simp
theorem hiAt_app (E : List Ed) (e : Ed) (i : Nat) (h : i ≤ E.length) : hiAt (E ++ [e]) i = hiAt E i := by
  unfold hiAt
  split
  · rfl
  · rw [List.getD_eq_getElem?_getD, List.getD_eq_getElem?_getD, List.getElem?_append_left (by omega)]
theorem Cov.nil (sts : List Nat) (f : Nat → Nat) : Cov sts f [] 32 := ⟨by simp, rfl, by simp⟩
theorem Cov.grow {sts : List Nat} {f : Nat → Nat} {E : List Ed} {c : Nat} (h : Cov sts f E c) (more : List Nat) : Cov (sts ++ more) f E c :=
  ⟨h.seq, h.done, fun i e he ch h1 h2 => by
    have := h.goes i e he ch h1 h2
    obtain ⟨hl, hv⟩ := List.getElem?_eq_some_iff.1 this
    rw [List.getElem?_append_left hl]; exact this⟩
/-- a new edge -/
theorem Cov.put {sts : List Nat} {f : Nat → Nat} {E : List Ed} {c to : Nat} (h : Cov sts f E c) (hto : sts[to]? = some (f c)) : Cov sts f (E ++ [⟨c, c, to⟩]) (c + 1) := by
  have hd := h.done
  refine ⟨fun i e he => ?_, by rw [List.length_append, List.length_singleton, hiAt_len], fun i e he ch h1 h2 => ?_⟩
  · by_cases hi : i < E.length
    · rw [List.getElem?_append_left hi] at he
      rw [hiAt_app _ _ _ (by omega)]
      exact h.seq i e he
    · have hl : i < (E ++ [(⟨c, c, to⟩ : Ed)]).length := (List.getElem?_eq_some_iff.1 he).1
      obtain rfl : i = E.length := by simp at hl; omega
      simp at he
      subst he
      rw [hiAt_app _ _ _ (Nat.le_refl _)]
      exact ⟨hd.symm, Nat.le_refl _⟩
  · by_cases hi : i < E.length
    · rw [List.getElem?_append_left hi] at he
      exact h.goes i e he ch h1 h2
    · have hl : i < (E ++ [(⟨c, c, to⟩ : Ed)]).length := (List.getElem?_eq_some_iff.1 he).1
      obtain rfl : i = E.length := by simp at hl; omega
      simp at he
      subst he
      obtain rfl : ch = c := by simp at h1 h2; omega
      exact hto
/-- the last edge goes on -/
theorem Cov.wide {sts : List Nat} {f : Nat → Nat} {E : List Ed} {e : Ed} {c : Nat} (h : Cov sts f (E ++ [e]) c) (hto : sts[e.to]? = some (f c)) : Cov sts f (E ++ [⟨e.lo, c, e.to⟩]) (c + 1) := by
  have hd := h.done
  rw [List.length_append, List.length_singleton, hiAt_len] at hd
  refine ⟨fun i x he => ?_, by rw [List.length_append, List.length_singleton, hiAt_len], fun i x he ch h1 h2 => ?_⟩
  · by_cases hi : i < E.length
    · have he2 := he
      rw [List.getElem?_append_left hi] at he
      have := h.seq i x (by rw [List.getElem?_append_left hi]; exact he)
      rw [hiAt_app _ _ _ (by omega)] at this ⊢
      exact this
    · have hl : i < (E ++ [(⟨e.lo, c, e.to⟩ : Ed)]).length := (List.getElem?_eq_some_iff.1 he).1
      obtain rfl : i = E.length := by simp at hl; omega
      simp at he
      subst he
      have := h.seq E.length e (by simp)
      rw [hiAt_app _ _ _ (Nat.le_refl _)] at this ⊢
      exact ⟨this.1, by simp; omega⟩
  · by_cases hi : i < E.length
    · rw [List.getElem?_append_left hi] at he
      exact h.goes i x (by rw [List.getElem?_append_left hi]; exact he) ch h1 h2
    · have hl : i < (E ++ [(⟨e.lo, c, e.to⟩ : Ed)]).length := (List.getElem?_eq_some_iff.1 he).1
      obtain rfl : i = E.length := by simp at hl; omega
      simp at he
      subst he
      by_cases hc : ch = c
      · subst hc; exact hto
      · exact h.goes E.length e (by simp) ch h1 (by simp at h2; omega)
/-- every character has an edge -/
theorem Cov.has {sts : List Nat} {f : Nat → Nat} {E : List Ed} {c : Nat} (h : Cov sts f E c) (ch : Nat) (h1 : 32 ≤ ch) (h2 : ch < c) : ∃ (i : Nat) (e : Ed), E[i]? = some e ∧ e.lo ≤ ch ∧ ch ≤ e.hi := by
  have key : ∀ k, k ≤ E.length → ch ≤ hiAt E k → ∃ (i : Nat) (e : Ed), E[i]? = some e ∧ e.lo ≤ ch ∧ ch ≤ e.hi := by
    intro k
    induction k with
    | zero => intro _ h; simp [hiAt] at h; omega
    | succ k ih =>
      intro hk hc
      have hk' : k < E.length := by omega
      have he : E[k]? = some E[k] := List.getElem?_eq_getElem hk'
      by_cases hlo : E[k].lo ≤ ch
      · refine ⟨k, _, he, hlo, ?_⟩
        unfold hiAt at hc
        rw [if_neg (by omega), Nat.add_sub_cancel, List.getD_eq_getElem?_getD, he] at hc
        exact hc
      · have := (h.seq k _ he).1
        exact ih (by omega) (by omega)
  have hd := h.done
  exact key E.length (Nat.le_refl _) (by omega)
theorem Cov.hi_lt {sts : List Nat} {f : Nat → Nat} {E : List Ed} {c : Nat} (h : Cov sts f E c) : ∀ (i : Nat) (e : Ed), E[i]? = some e → hiAt E i + 1 = e.lo ∧ e.lo ≤ e.hi ∧ e.hi < c := by
  have mono : ∀ m k, k + m = E.length → hiAt E k ≤ hiAt E E.length := by
    intro m
    induction m with
    | zero => intro k hk; rw [show k = E.length by omega]; exact Nat.le_refl _
    | succ m ih =>
      intro k hk
      have hk' : k < E.length := by omega
      have he : E[k]? = some E[k] := List.getElem?_eq_getElem hk'
      have := h.seq k _ he
      have h2 := ih (k + 1) (by omega)
      have h3 : hiAt E (k + 1) = E[k].hi := by unfold hiAt; rw [if_neg (by omega), Nat.add_sub_cancel, List.getD_eq_getElem?_getD, he]; rfl
      omega
  intro i e he
  have hi : i < E.length := (List.getElem?_eq_some_iff.1 he).1
  have h2 := mono (E.length - (i + 1)) (i + 1) (by omega)
  have h3 : hiAt E (i + 1) = e.hi := by unfold hiAt; rw [if_neg (by omega), Nat.add_sub_cancel, List.getD_eq_getElem?_getD, he]; rfl
  have := h.seq i e he
  have hd := h.done
  omega
theorem hiAt_succ (E : List Ed) (i : Nat) (e : Ed) (h : E[i]? = some e) : hiAt E (i + 1) = e.hi := by
  unfold hiAt; rw [if_neg (by omega), Nat.add_sub_cancel, List.getD_eq_getElem?_getD, h]; rfl

/-- a state to which some printable text leads -/
inductive Reach (kd : Int) (p : List Nat) : Nat → Prop
  | start : Reach kd p (beg kd p)
  | next (s c : Nat) : Reach kd p s → 32 ≤ c → c ≤ 126 → Reach kd p (nx kd p s c)
theorem Reach.ok {kd : Int} {p : List Nat} {s : Nat} (hp : p.length ≤ 16) (h : Reach kd p s) : okSt kd p.length s := by
  induction h with
  | start => exact beg_ok kd p hp
  | next s c _ _ _ ih => exact nx_ok kd p s c hp ih
theorem Reach.sml {kd : Int} {p : List Nat} {s : Nat} (h : Reach kd p s) : sml kd p.length s := by
  induction h with
  | start => exact beg_sml kd p
  | next s c _ _ _ ih => exact nx_sml kd p s c ih

theorem nodup_nat : ∀ (a b : List Nat), a.Nodup → (∀ x ∈ a, x ∈ b) → a.length ≤ b.length := by
  intro a b ha hb
  have := nodup_len (a.map fun x => [x]) (b.map fun x => [x]) (by
    rw [List.nodup_iff_pairwise_ne, List.pairwise_map]
    rw [List.nodup_iff_pairwise_ne] at ha
    exact ha.imp fun {x y} h e => h (by simpa using e)) (fun x hx => by
      obtain ⟨y, hy, rfl⟩ := List.mem_map.1 hx
      exact List.mem_map.2 ⟨y, hb y hy, rfl⟩)
  simpa using this
/-- a test that is no pattern has few states -/
theorem few_states (kd : Int) (hk : kd ≠ 1) (p : List Nat) (hp : p.length ≤ 16) (sts : List Nat) (hn : sts.Nodup) (hr : ∀ s ∈ sts, Reach kd p s) : sts.length ≤ 19 := by
  have := nodup_nat sts (List.range 17 ++ [100, 101]) hn (fun s hs => by
    have := (hr s hs).ok hp
    unfold okSt at this
    rw [if_neg hk] at this
    simp
    omega)
  simpa using this

/-- the bits of a state -/
def encS (n s : Nat) : List Nat := (List.range (n + 1)).map fun i => if s.testBit i = true then 1 else 0
def normL (l : List Nat) : List Nat := l.map fun x => if x = 1 then 1 else 0
theorem enc_sim (n s : Nat) (l : List Nat) (h : Sim n s l) : encS n s = normL l := by
  apply List.ext_getElem?
  intro i
  unfold encS normL
  rw [List.getElem?_map, List.getElem?_map]
  by_cases hi : i < n + 1
  · have hl : i < l.length := by rw [h.1]; exact hi
    rw [List.getElem?_range hi, List.getElem?_eq_getElem hl]
    have h2 := h.2 i (by omega)
    have h3 : at0 l i = l[i] := by unfold at0; rw [List.getD_eq_getElem?_getD, List.getElem?_eq_getElem hl]; rfl
    rw [h3] at h2
    by_cases hb : s.testBit i = true
    · simp [hb, h2.2 hb]
    · have : l[i] ≠ 1 := fun e => hb (h2.1 e)
      simp [hb, this]
  · rw [List.getElem?_eq_none (by simp; omega), List.getElem?_eq_none (by rw [h.1]; omega)]; rfl
theorem enc_inj (n a b : Nat) (ha : sml 1 n a) (hb : sml 1 n b) (h : encS n a = encS n b) : a = b := by
  apply Nat.eq_of_testBit_eq
  intro i
  by_cases hi : i < n + 1
  · have := congrArg (fun l => l[i]?) h
    simp only [encS, List.getElem?_map, List.getElem?_range hi] at this
    cases h1 : a.testBit i <;> cases h2 : b.testBit i <;> simp_all
  · have e1 : a.testBit i = false := by
      cases h1 : a.testBit i
      · rfl
      · exact absurd (ha i h1) (by omega)
    have e2 : b.testBit i = false := by
      cases h1 : b.testBit i
      · rfl
      · exact absurd (hb i h1) (by omega)
    rw [e1, e2]
/-- the position sets that were found are closed, or there are many -/
def SetsOk (p : List Nat) (n : Nat) : Prop := 100 < n ∨ ∃ L : List (List Nat), L.length = n ∧ rbeg 1 p ∈ L ∧ ∀ x ∈ L, ∀ c, 32 ≤ c → c ≤ 126 → rnx 1 p x c ∈ L
theorem sets_many (p : List Nat) (hp : p.length ≤ 16) (n : Nat) (h : SetsOk p n) (sts : List Nat) (hn : sts.Nodup) (hr : ∀ s ∈ sts, Reach 1 p s) (hl : 100 < sts.length) : 100 < n := by
  rcases h with h | ⟨L, hL, hb, hc⟩
  · exact h
  · have hrel : ∀ s, Reach 1 p s → ∃ l ∈ L, Rel 1 p.length s l := by
      intro s hs
      induction hs with
      | start => exact ⟨_, hb, rel_beg 1 p⟩
      | next s c _ h1 h2 ih =>
        obtain ⟨l, hl, hR⟩ := ih
        exact ⟨_, hc l hl c h1 h2, rel_nx 1 p s c l hp hR⟩
    have := nodup_len (sts.map (encS p.length)) (L.map normL) (by
      rw [List.nodup_iff_pairwise_ne] at hn ⊢
      rw [List.pairwise_map]
      have hm : ∀ x ∈ sts, sml 1 p.length x := fun x hx => (hr x hx).sml
      refine List.Pairwise.imp_of_mem ?_ hn
      intro a b ha hb hne e
      exact hne (enc_inj _ a b (hm a ha) (hm b hb) e)) (fun x hx => by
        obtain ⟨s, hs, rfl⟩ := List.mem_map.1 hx
        obtain ⟨l, hl, hR⟩ := hrel s (hr s hs)
        exact List.mem_map.2 ⟨l, hl, (enc_sim _ _ _ (by simpa [Rel] using hR)).symm⟩)
    simp at this
    omega
end Go.Proofs.Ytbniemkllhhnfaa
