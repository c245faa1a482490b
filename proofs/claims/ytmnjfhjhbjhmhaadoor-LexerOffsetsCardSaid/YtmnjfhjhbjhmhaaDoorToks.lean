/-
  Tokens: their cells, slices of them.
-/
import Derived.Test.YtmnjfhjhbjhmhaaDoorW14
namespace Go.Proofs.YtmnjfhjhbjhmhaaDoor
open Go.RowKit
set_option linter.unusedVariables false
set_option maxHeartbeats 1000000
set_option maxRecDepth 100000

def Tk.cells (t : Tk) : List Value := [.int .i64 t.kind, .string ⟨t.text.toArray⟩, .int .i64 t.pos]
def tkc (l : List Tk) : List Value := l.flatMap Tk.cells
theorem tkc_app (l m : List Tk) : tkc (l ++ m) = tkc l ++ tkc m := by simp [tkc]
theorem tkc_one (a : Tk) : tkc [a] = a.cells := by simp [tkc]
theorem tkc_snoc (l : List Tk) (a : Tk) : tkc (l ++ [a]) = tkc l ++ a.cells := by rw [tkc_app, tkc_one]
theorem tkc_cons (a : Tk) (l : List Tk) : tkc (a :: l) = a.cells ++ tkc l := by simp [tkc]
theorem tkc_len (l : List Tk) : (tkc l).length = l.length * 3 := by
  induction l with
  | nil => rfl
  | cons a l ih => rw [tkc_cons, List.length_append, ih]; simp [Tk.cells]; omega
theorem tkc_get (l : List Tk) : ∀ (i j : Nat) (a : Tk), l[i]? = some a → j < 3 → (tkc l)[i * 3 + j]? = a.cells[j]? := by
  induction l with
  | nil => intro i j a h; simp at h
  | cons x l ih =>
    intro i j a h hj
    rw [tkc_cons]
    cases i with
    | zero =>
      simp at h
      subst h
      rw [List.getElem?_append_left (by simp [Tk.cells]; omega)]
      simp
    | succ i =>
      rw [List.getElem?_append_right (by simp [Tk.cells]; omega)]
      have e : (i + 1) * 3 + j - x.cells.length = i * 3 + j := by simp [Tk.cells]; omega
      rw [e]
      exact ih i j a (by simpa using h) hj
/-- a slice of tokens, read -/
def TksAt (w : World) (A : Option Addr) (l : List Tk) : Prop :=
  ∀ (i : Nat) (a : Tk), l[i]? = some a → ∃ b off, A = some ⟨b, off, none⟩ ∧ w.cell? ⟨b, off + i * 3, none⟩ = some (.int .i64 a.kind) ∧ w.cell? ⟨b, off + i * 3 + 1, none⟩ = some (.string ⟨a.text.toArray⟩) ∧
    w.cell? ⟨b, off + i * 3 + 2, none⟩ = some (.int .i64 a.pos)
theorem TksAt.ext {w w' : World} {A : Option Addr} {l : List Tk} (h : TksAt w A l) (hx : Ext w w') : TksAt w' A l := fun i a ht => by
  obtain ⟨b, off, hA, h0, h1, h2⟩ := h i a ht
  exact ⟨b, off, hA, hx.keep h0, hx.keep h1, hx.keep h2⟩
theorem own_tks {w : World} {B e n : Nat} {v : Value} {l : List Tk} (h : w.ownsRow B e 3 v n (tkc l)) : ∃ A c, v = .slice A n c ∧ TksAt w A l ∧ l.length = n := by
  have hl : l.length = n := by have := h.1; rw [tkc_len] at this; omega
  have hc := fun g (hg : v.ownBlock = some g) => h.cells hg
  rcases h.2 with ⟨rfl, h0⟩ | ⟨g, cap, cur, rfl, _⟩
  · refine ⟨none, 0, by rw [h0], ?_, hl⟩
    have : l = [] := List.eq_nil_of_length_eq_zero (by omega)
    subst this
    intro i a ha
    simp at ha
  · refine ⟨_, _, rfl, fun i a ha => ?_, hl⟩
    have hc := hc g rfl
    have hadd : ∀ j, (⟨g, 0, none⟩ : Addr).add j = ⟨g, 0 + j, none⟩ := fun j => by unfold Addr.add; split <;> simp_all
    refine ⟨g, 0, rfl, ?_, ?_, ?_⟩
    · have := hc (i * 3 + 0) (.int .i64 a.kind) (by rw [tkc_get l i 0 a ha (by omega)]; rfl)
      rwa [hadd] at this
    · have := hc (i * 3 + 1) (.string ⟨a.text.toArray⟩) (by rw [tkc_get l i 1 a ha (by omega)]; rfl)
      rwa [hadd, ← Nat.add_assoc] at this
    · have := hc (i * 3 + 2) (.int .i64 a.pos) (by rw [tkc_get l i 2 a ha (by omega)]; rfl)
      rwa [hadd, ← Nat.add_assoc] at this
theorem ownN_ext {w w' : World} {B e sz n : Nat} {v : Value} {xs : List Value} (h : w.ownsRow B e sz v n xs) (hx : Ext w w') : w'.ownsRow B e sz v n xs := by
  obtain ⟨h1, h2⟩ := h
  refine ⟨h1, ?_⟩
  rcases h2 with h2 | ⟨g, cap, cur, hv, hg, hh, r⟩
  · exact .inl h2
  · exact .inr ⟨g, cap, cur, hv, hg, (Below.block hx g (Array.getElem?_eq_some_iff.1 hh).1).trans hh, r⟩
theorem news_at (w : World) (cs : Array Value) (e : TypeId) (n : Nat) (hn : n = w.heap.size) : ∀ (j : Nat) (u : Value), cs.toList[j]? = some u → (w.alloc (.cells cs e)).cell? ((⟨n, 0, none⟩ : Addr).add j) = some u := by
  subst hn
  exact news_new w cs e
def lsL : Ls → List Tk
  | .bad _ _ => []
  | .ok l => l
def lsP : Ls → Nat
  | .bad a _ => a
  | .ok _ => 0
def lsE : Ls → Nat
  | .bad _ e => e
  | .ok _ => 0
/-- the tokens or the error, as they are returned -/
def TokRes (x : Ls) (v : Value) (w : World) : Prop := ∃ A c, v = .tuple #[.slice A (lsL x).length c, .int .i64 (lsP x), .int .i64 (lsE x)] ∧ TksAt w A (lsL x)
theorem TokRes.bad (a e : Nat) (w : World) : TokRes (.bad a e) (.tuple #[.slice none 0 0, .int .i64 a, .int .i64 e]) w := ⟨none, 0, rfl, fun i t h => by simp [lsL] at h⟩
theorem tok_bad (c : UInt8) (r : List UInt8) (e : Nat) (h : tokL (c :: r) = .bad e) : e = 2 ∨ e = 3 := by
  rw [tokL] at h
  split at h
  · unfold wordL at h
    split at h
    · cases h
    · split at h <;> cases h
      exact .inr rfl
  split at h
  · unfold numL at h
    split at h
    · cases h; exact .inl rfl
    · split at h <;> cases h
      exact .inr rfl
  split at h
  · unfold textL at h
    cases hl : litF r [] 1 with
    | none => rw [hl] at h; cases h; exact .inl rfl
    | some q =>
      obtain ⟨X, i⟩ := q
      rw [hl] at h
      simp only at h
      split at h <;> cases h
      exact .inr rfl
  · unfold symL at h
    split at h <;> cases h
    exact .inl rfl
end Go.Proofs.YtmnjfhjhbjhmhaaDoor
