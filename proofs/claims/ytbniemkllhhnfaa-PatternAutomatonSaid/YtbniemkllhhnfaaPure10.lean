/-
  Plain laws for the pattern package: the reference's search finds the same texts.
-/
import Derived.Test.YtbniemkllhhnfaaPure9
namespace Go.Proofs.Ytbniemkllhhnfaa
open Go.RowKit

def atL (a : List (List Nat)) (i : Nat) : List Nat := a[i]?.getD []
def rnxs : List Tst → List (List Nat) → Nat → List (List Nat)
  | t :: ts, s :: l, c => rnx t.kd (N t.p) s c :: rnxs ts l c
  | _, _, _ => []
def rbegs (ts : List Tst) : List (List Nat) := ts.map fun t => rbeg t.kd (N t.p)
def rallOk : List Tst → List (List Nat) → Bool
  | t :: ts, s :: l => (rfin t.kd (N t.p).length s != t.ng) && rallOk ts l
  | _, _ => true
def rokL (ts : List Tst) (a : List (List Nat)) : Prop := a.length = ts.length ∧ ∀ (i : Nat) (t : Tst), ts[i]? = some t → rok t.kd (N t.p).length (atL a i)
structure Rst where
  out : List (List Nat)
  dead : List (List (List Nat) × Nat)
def rLoop (most : Int) (rec : Nat → Rst → Rst) : List Nat → Rst → Rst
  | [], st => st
  | c :: cs, st => if (st.out.length : Int) < most then rLoop most rec cs (rec c st) else st
def rsr (ts : List Tst) (most : Int) : Nat → List (List Nat) → List Nat → Rst → Rst
  | 0, a, text, st => if rallOk ts a = true ∧ (st.out.length : Int) < most then { st with out := st.out ++ [text] } else st
  | n + 1, a, text, st =>
    if st.dead.any (fun d => d.2 == n + 1 && d.1 == a) = true then st else
      let r := rLoop most (fun c s => rsr ts most n (rnxs ts a c) (text ++ [c]) s) chars st
      if r.out.length = st.out.length ∧ (st.out.length : Int) < most then { r with dead := r.dead ++ [(a, n + 1)] } else r

theorem rnxs_len (ts : List Tst) (a : List (List Nat)) (c : Nat) (h : a.length = ts.length) : (rnxs ts a c).length = ts.length := by
  induction ts generalizing a with
  | nil => cases a <;> simp [rnxs]
  | cons t ts ih =>
    cases a with
    | nil => simp at h
    | cons s a => simp [rnxs]; exact ih a (by simpa using h)
theorem rnxs_at (ts : List Tst) (a : List (List Nat)) (c i : Nat) (t : Tst) (h : a.length = ts.length) (ht : ts[i]? = some t) : (rnxs ts a c)[i]? = some (rnx t.kd (N t.p) (atL a i) c) := by
  induction ts generalizing a i with
  | nil => simp at ht
  | cons t0 ts ih =>
    cases a with
    | nil => simp at h
    | cons s a =>
      cases i with
      | zero => simp at ht; subst ht; simp [rnxs, atL]
      | succ i =>
        have := ih a i (by simpa using h) (by simpa using ht)
        simpa [rnxs, atL] using this
theorem rnxs_ok (ts : List Tst) (a : List (List Nat)) (c : Nat) (h : rokL ts a) : rokL ts (rnxs ts a c) := by
  refine ⟨rnxs_len ts a c h.1, fun i t ht => ?_⟩
  have e : atL (rnxs ts a c) i = rnx t.kd (N t.p) (atL a i) c := by rw [atL, rnxs_at ts a c i t h.1 ht]; rfl
  rw [e]
  exact rnx_ok t.kd (N t.p) (atL a i) c (h.2 i t ht)
theorem rbegs_ok (ts : List Tst) : rokL ts (rbegs ts) := by
  refine ⟨by simp [rbegs], fun i t ht => ?_⟩
  have := rbeg_ok t.kd (N t.p)
  simpa [atL, rbegs, ht] using this
theorem rallOk_step (ts : List Tst) (a : List (List Nat)) (k : Nat) (t : Tst) (ht : ts[k]? = some t) (hl : k < a.length) : rallOk (ts.drop k) (a.drop k) = ((rfin t.kd (N t.p).length (atL a k) != t.ng) && rallOk (ts.drop (k + 1)) (a.drop (k + 1))) := by
  obtain ⟨hk, rfl⟩ := List.getElem?_eq_some_iff.1 ht
  rw [List.drop_eq_getElem_cons hk, List.drop_eq_getElem_cons hl, rallOk]
  simp [atL, List.getElem?_eq_getElem hl]

def raccT (ts : List Tst) (a : List (List Nat)) (t : List Nat) : Bool := rallOk ts (t.foldl (rnxs ts) a)
def rsols (ts : List Tst) (n : Nat) (a : List (List Nat)) : List (List Nat) := (wds n).filter (raccT ts a)
def rsolsC (ts : List Tst) (n : Nat) (a : List (List Nat)) (cs : List Nat) : List (List Nat) := cs.flatMap fun c => (rsols ts n (rnxs ts a c)).map (c :: ·)
theorem rsols_succ (ts : List Tst) (n : Nat) (a : List (List Nat)) : rsols ts (n + 1) a = rsolsC ts n a chars := by
  unfold rsols rsolsC
  rw [wds, filter_flatMap']
  congr 1
  funext c
  rw [List.filter_map]
  rfl
theorem fold_rnxs (τ : Tst) (ts : List Tst) (t : List Nat) : ∀ (s : List Nat) (l : List (List Nat)), t.foldl (rnxs (τ :: ts)) (s :: l) = rrun τ.kd (N τ.p) t s :: t.foldl (rnxs ts) l := by
  induction t with
  | nil => intro s l; rfl
  | cons c t ih => intro s l; rw [List.foldl_cons, List.foldl_cons, rnxs, ih]; rfl
theorem racc_pass (ts : List Tst) (t : List Nat) : raccT ts (rbegs ts) t = ts.all fun τ => rpsB τ.kd τ.ng (N τ.p) t := by
  unfold raccT
  induction ts with
  | nil => rw [List.all_nil]; cases t.foldl (rnxs []) (rbegs []) <;> rfl
  | cons τ ts ih =>
    rw [rbegs, List.map_cons, fold_rnxs, rallOk, List.all_cons]
    rw [rbegs] at ih
    rw [ih, rpsB]
theorem rpass_eq (ts : List Tst) (t : List Nat) (h : Few ts) : (ts.all fun τ => rpsB τ.kd τ.ng (N τ.p) t) = passAll ts t := by
  unfold passAll
  rw [Bool.eq_iff_iff, List.all_eq_true, List.all_eq_true]
  have e : ∀ τ ∈ ts, psB τ.kd τ.ng (N τ.p) t = rpsB τ.kd τ.ng (N τ.p) t := fun τ hτ => ps_eq _ _ _ _ (by rw [N_len]; exact h.le16 τ hτ) ⟨(h.2 τ hτ).2.1, (h.2 τ hτ).2.2⟩
  constructor
  · intro hh τ hτ; rw [e τ hτ]; exact hh τ hτ
  · intro hh τ hτ; rw [← e τ hτ]; exact hh τ hτ
theorem rsols_begs (ts : List Tst) (n : Nat) (h : Few ts) : rsols ts n (rbegs ts) = sol ts n := by
  unfold rsols sol
  congr 1
  funext t
  rw [racc_pass, rpass_eq ts t h]

def RDOk (ts : List Tst) (dead : List (List (List Nat) × Nat)) : Prop := ∀ a n, (a, n + 1) ∈ dead → rsols ts (n + 1) a = []
def cnt : Nat → Nat
  | 0 => 0
  | n + 1 => 1 + 95 * cnt n
theorem rLoop_law (ts : List Tst) (most : Int) (n : Nat) (a : List (List Nat)) (text : List Nat) (rec : Nat → Rst → Rst)
    (hrec : ∀ c (st : Rst), RDOk ts st.dead →
      (rec c st).out = st.out ++ (((rsols ts n (rnxs ts a c)).map (c :: ·)).take (most.toNat - st.out.length)).map (text ++ ·) ∧ RDOk ts (rec c st).dead ∧ (rec c st).dead.length ≤ st.dead.length + cnt n)
    (cs : List Nat) : ∀ (st : Rst), RDOk ts st.dead →
      (rLoop most rec cs st).out = st.out ++ ((rsolsC ts n a cs).take (most.toNat - st.out.length)).map (text ++ ·) ∧ RDOk ts (rLoop most rec cs st).dead ∧ (rLoop most rec cs st).dead.length ≤ st.dead.length + cs.length * cnt n := by
  induction cs with
  | nil => intro st hd; exact ⟨by simp [rLoop, rsolsC], hd, by simp [rLoop]⟩
  | cons c cs ih =>
    intro st hd
    unfold rLoop
    by_cases hm : (st.out.length : Int) < most
    · rw [if_pos hm]
      obtain ⟨h1, h2, h3⟩ := hrec c st hd
      obtain ⟨k1, k2, k3⟩ := ih (rec c st) h2
      have hlen : (rec c st).out.length = st.out.length + min (most.toNat - st.out.length) (rsols ts n (rnxs ts a c)).length := by
        rw [h1]; simp
      have hk : most.toNat - (rec c st).out.length = (most.toNat - st.out.length) - ((rsols ts n (rnxs ts a c)).map (c :: ·)).length := by
        rw [hlen, List.length_map]; omega
      have hs : rsolsC ts n a (c :: cs) = (rsols ts n (rnxs ts a c)).map (c :: ·) ++ rsolsC ts n a cs := rfl
      refine ⟨?_, k2, ?_⟩
      · rw [k1, hs, List.take_append, List.map_append, hk, h1, List.append_assoc]
      · rw [List.length_cons, Nat.add_mul]; omega
    · rw [if_neg hm, show most.toNat - st.out.length = 0 by omega]
      exact ⟨by simp, hd, by omega⟩
theorem rsr_law (ts : List Tst) (most : Int) : ∀ (n : Nat) (a : List (List Nat)) (text : List Nat) (st : Rst), RDOk ts st.dead →
    (rsr ts most n a text st).out = st.out ++ ((rsols ts n a).take (most.toNat - st.out.length)).map (text ++ ·) ∧ RDOk ts (rsr ts most n a text st).dead ∧ (rsr ts most n a text st).dead.length ≤ st.dead.length + cnt n := by
  intro n
  induction n with
  | zero =>
    intro a text st hd
    have hs : rsols ts 0 a = if rallOk ts a then [[]] else [] := by
      unfold rsols; rw [wds]
      have : raccT ts a [] = rallOk ts a := rfl
      rw [List.filter_cons, this]; rfl
    unfold rsr
    rw [hs]
    by_cases hm : (st.out.length : Int) < most
    · have hk : most.toNat - st.out.length = (most.toNat - st.out.length - 1) + 1 := by omega
      cases rallOk ts a
      · exact ⟨by simp, by simpa using hd, by simp⟩
      · rw [hk]; exact ⟨by simp [hm], by simpa [hm] using hd, by simp [hm]⟩
    · rw [if_neg (fun h => hm h.2), show most.toNat - st.out.length = 0 by omega]
      exact ⟨by simp, hd, by omega⟩
  | succ n ih =>
    intro a text st hd
    unfold rsr
    by_cases hc : st.dead.any (fun d => d.2 == n + 1 && d.1 == a) = true
    · rw [if_pos hc]
      rw [List.any_eq_true] at hc
      obtain ⟨⟨d1, d2⟩, hdm, he⟩ := hc
      simp only [Bool.and_eq_true, beq_iff_eq] at he
      obtain ⟨rfl, rfl⟩ := he
      rw [hd _ _ hdm]
      exact ⟨by simp, hd, by omega⟩
    · rw [if_neg hc]
      obtain ⟨h1, h2, h3⟩ := rLoop_law ts most n a text (fun c s => rsr ts most n (rnxs ts a c) (text ++ [c]) s) (fun c s hd => by
        obtain ⟨h1, h2, h3⟩ := ih (rnxs ts a c) (text ++ [c]) s hd
        refine ⟨?_, h2, h3⟩
        rw [h1, ← List.map_take, List.map_map]
        congr 2
        funext t
        simp) chars st hd
      rw [← rsols_succ] at h1
      have hch : chars.length = 95 := by decide
      rw [hch] at h3
      dsimp only at h1 h2 h3 ⊢
      generalize rLoop most (fun c s => rsr ts most n (rnxs ts a c) (text ++ [c]) s) chars st = r at h1 h2 h3 ⊢
      by_cases he : r.out.length = st.out.length ∧ (st.out.length : Int) < most
      · rw [if_pos he]
        refine ⟨h1, ?_, by simp [cnt]; omega⟩
        intro a' n' hm
        rw [List.mem_append, List.mem_singleton, Prod.mk.injEq] at hm
        rcases hm with hm | ⟨rfl, hn⟩
        · exact h2 a' n' hm
        · have : n' = n := by omega
          subst this
          have hl := he.1
          rw [h1] at hl
          simp only [List.length_append, List.length_map, List.length_take] at hl
          exact List.eq_nil_of_length_eq_zero (by omega)
      · rw [if_neg he]
        exact ⟨h1, h2, by simp only [cnt]; omega⟩
theorem rLoop_mono (most : Int) (rec : Nat → Rst → Rst) (hr : ∀ c s, s.out.length ≤ (rec c s).out.length ∧ s.dead.length ≤ (rec c s).dead.length) (cs : List Nat) :
    ∀ (s : Rst), s.out.length ≤ (rLoop most rec cs s).out.length ∧ s.dead.length ≤ (rLoop most rec cs s).dead.length := by
  induction cs with
  | nil => intro s; simp [rLoop]
  | cons c cs ih =>
    intro s
    unfold rLoop
    split
    · have h1 := hr c s
      have h2 := ih (rec c s)
      exact ⟨Nat.le_trans h1.1 h2.1, Nat.le_trans h1.2 h2.2⟩
    · simp
theorem rsr_mono (ts : List Tst) (most : Int) (left : Nat) : ∀ (a : List (List Nat)) (text : List Nat) (s : Rst), s.out.length ≤ (rsr ts most left a text s).out.length ∧ s.dead.length ≤ (rsr ts most left a text s).dead.length := by
  induction left with
  | zero => intro a text s; unfold rsr; split <;> simp
  | succ n ih =>
    intro a text s
    unfold rsr
    split
    · simp
    · have := rLoop_mono most (fun c s => rsr ts most n (rnxs ts a c) (text ++ [c]) s) (fun c s => ih _ _ _) chars s
      dsimp only
      split
      · exact ⟨this.1, by simp; omega⟩
      · exact this
def rwordsF (ts : List Tst) (length most : Int) : List (List Nat) := if length < 0 ∨ most < 1 then [] else (rsr ts most length.toNat (rbegs ts) [] ⟨[], []⟩).out
theorem rwords_law (ts : List Tst) (hf : Few ts) (length most : Int) (h0 : 0 ≤ length) (h1 : length ≤ 6) :
    (rsr ts most length.toNat (rbegs ts) [] ⟨[], []⟩).out = (sol ts length.toNat).take most.toNat ∧ (rsr ts most length.toNat (rbegs ts) [] ⟨[], []⟩).dead.length < 4000000000000 := by
  obtain ⟨a, b, c⟩ := rsr_law ts most length.toNat (rbegs ts) [] ⟨[], []⟩ (fun _ _ h => by cases h)
  have hc : ∀ k, k ≤ 6 → cnt k ≤ 7820126496 := by decide
  have := hc length.toNat (by omega)
  refine ⟨?_, ?_⟩
  · rw [a, rsols_begs ts _ hf]; simp
  · simp only [List.length_nil] at c; omega
theorem words_same (ts : List Tst) (hf : Few ts) (length most : Int) (h1 : length ≤ 6) (hm : most ≤ 20) : wordsF ts length most = rwordsF ts length most := by
  unfold rwordsF
  by_cases h : length < 0 ∨ most ≤ 0
  · rw [if_pos (by omega), wordsF, if_pos h]
  · rw [if_neg (by omega), wordsF_law ts hf length most (by omega) (by omega) (by omega), (rwords_law ts hf length most (by omega) h1).1]

end Go.Proofs.Ytbniemkllhhnfaa
