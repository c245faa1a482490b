/-
  Actions of a schedule: their cells, slices of them.
-/
import Derived.Test.YtcdinoepjimkmaaDoorOwn
namespace Go.Proofs.YtcdinoepjimkmaaDoor
open Go.RowKit
set_option maxHeartbeats 400000
set_option maxRecDepth 100000

structure Act where
  k : Int
  s : Int
  wr : Int
  b : Int
def Act.cells (a : Act) : List Value := [.int .i64 a.k, .int .i64 a.s, .int .i64 a.wr, .int .i64 a.b]
def actc (l : List Act) : List Value := l.flatMap Act.cells
theorem actc_app (l m : List Act) : actc (l ++ m) = actc l ++ actc m := by simp [actc]
theorem actc_one (a : Act) : actc [a] = a.cells := by simp [actc]
theorem actc_snoc (l : List Act) (a : Act) : actc (l ++ [a]) = actc l ++ a.cells := by rw [actc_app, actc_one]
theorem actc_cons (a : Act) (l : List Act) : actc (a :: l) = a.cells ++ actc l := by simp [actc]
theorem actc_len (l : List Act) : (actc l).length = l.length * 4 := by
  induction l with
  | nil => rfl
  | cons a l ih => rw [actc_cons, List.length_append, ih]; simp [Act.cells]; omega
theorem actc_get (l : List Act) : ∀ (i j : Nat) (a : Act), l[i]? = some a → j < 4 → (actc l)[i * 4 + j]? = a.cells[j]? := by
  induction l with
  | nil => intro i j a h; simp at h
  | cons x l ih =>
    intro i j a h hj
    rw [actc_cons]
    cases i with
    | zero =>
      simp at h
      subst h
      rw [List.getElem?_append_left (by simp [Act.cells]; omega)]
      simp
    | succ i =>
      rw [List.getElem?_append_right (by simp [Act.cells]; omega)]
      have e : (i + 1) * 4 + j - x.cells.length = i * 4 + j := by simp [Act.cells]; omega
      rw [e]
      exact ih i j a (by simpa using h) hj

/-- a slice of actions, read -/
def ActsAt (w : World) (A : Option Addr) (l : List Act) : Prop :=
  ∀ (i : Nat) (a : Act), l[i]? = some a → ∃ b off, A = some ⟨b, off, none⟩ ∧ w.cell? ⟨b, off + i * 4, none⟩ = some (.int .i64 a.k) ∧ w.cell? ⟨b, off + i * 4 + 1, none⟩ = some (.int .i64 a.s) ∧
    w.cell? ⟨b, off + i * 4 + 2, none⟩ = some (.int .i64 a.wr) ∧ w.cell? ⟨b, off + i * 4 + 3, none⟩ = some (.int .i64 a.b)
theorem ActsAt.ext {w w' : World} {A : Option Addr} {l : List Act} (h : ActsAt w A l) (hx : Ext w w') : ActsAt w' A l := fun i a ht => by
  obtain ⟨b, off, hA, h0, h1, h2, h3⟩ := h i a ht
  exact ⟨b, off, hA, hx.keep h0, hx.keep h1, hx.keep h2, hx.keep h3⟩
theorem own_acts {w : World} {B e n : Nat} {v : Value} {l : List Act} (h : w.ownsRow B e 4 v n (actc l)) : ∃ A c, v = .slice A n c ∧ ActsAt w A l ∧ l.length = n := by
  have hl : l.length = n := by have := h.1; rw [actc_len] at this; omega
  have hc := fun g (hg : v.ownBlock = some g) => h.cells hg
  rcases h.2 with ⟨rfl, h0⟩ | ⟨g, cap, cur, rfl, _⟩
  · refine ⟨none, 0, by rw [h0], ?_, hl⟩
    have : l = [] := List.eq_nil_of_length_eq_zero (by omega)
    subst this
    intro i a ha
    simp at ha
  · refine ⟨_, _, rfl, fun i a ha => ?_, hl⟩
    have hc := hc g rfl
    have hadd : ∀ j, (⟨g, 0, none⟩ : Addr).add j = ⟨g, 0 + j, none⟩ := fun j => by unfold Addr.add; split <;> simp_all
    refine ⟨g, 0, rfl, ?_, ?_, ?_, ?_⟩
    · have := hc (i * 4 + 0) (.int .i64 a.k) (by rw [actc_get l i 0 a ha (by omega)]; rfl)
      rwa [hadd] at this
    · have := hc (i * 4 + 1) (.int .i64 a.s) (by rw [actc_get l i 1 a ha (by omega)]; rfl)
      rwa [hadd, ← Nat.add_assoc] at this
    · have := hc (i * 4 + 2) (.int .i64 a.wr) (by rw [actc_get l i 2 a ha (by omega)]; rfl)
      rwa [hadd, ← Nat.add_assoc] at this
    · have := hc (i * 4 + 3) (.int .i64 a.b) (by rw [actc_get l i 3 a ha (by omega)]; rfl)
      rwa [hadd, ← Nat.add_assoc] at this

theorem ownN_ext {w w' : World} {B e sz n : Nat} {v : Value} {xs : List Value} (h : w.ownsRow B e sz v n xs) (hx : Ext w w') : w'.ownsRow B e sz v n xs := by
  obtain ⟨h1, h2⟩ := h
  refine ⟨h1, ?_⟩
  rcases h2 with h2 | ⟨g, cap, cur, hv, hg, hh, r⟩
  · exact .inl h2
  · exact .inr ⟨g, cap, cur, hv, hg, (Below.block hx g (Array.getElem?_eq_some_iff.1 hh).1).trans hh, r⟩
theorem own_base {w : World} {B B' e sz n : Nat} {v : Value} {xs : List Value} (h : w.ownsRow B e sz v n xs) (hb : B' ≤ B) : w.ownsRow B' e sz v n xs := by
  obtain ⟨h1, h2⟩ := h
  refine ⟨h1, ?_⟩
  rcases h2 with h2 | ⟨g, cap, cur, hv, hg, r⟩
  · exact .inl h2
  · exact .inr ⟨g, cap, cur, hv, Nat.le_trans hb hg, r⟩

/-- the number nearest between two -/
def cl (n low high : Int) : Int := if n < low then low else if high < n then high else n
theorem cl_bd (n low high : Int) (h : low ≤ high) : low ≤ cl n low high ∧ cl n low high ≤ high := by unfold cl; split <;> (try split) <;> omega
theorem cl_id (n low high : Int) (h1 : low ≤ n) (h2 : n ≤ high) : cl n low high = n := by unfold cl; rw [if_neg (by omega), if_neg (by omega)]

/-- the steps of a round robin -/
def rowL (S : Nat) : List Act := (List.range S).map fun (s : Nat) => (⟨1, (s : Int), 0, 0⟩ : Act)
def rrL (S : Nat) : Nat → List Act
  | 0 => []
  | r + 1 => rrL S r ++ rowL S
theorem rowL_succ (S : Nat) : rowL (S + 1) = rowL S ++ [⟨1, S, 0, 0⟩] := by simp [rowL, List.range_succ]
theorem rowL_len (S : Nat) : (rowL S).length = S := by simp [rowL]
theorem rrL_len (S r : Nat) : (rrL S r).length = r * S := by
  induction r with
  | zero => simp [rrL]
  | succ r ih => rw [rrL, List.length_append, ih, rowL_len, Nat.succ_mul]

/-- a valid action -/
def rightB (a : Act) (S : Int) : Bool :=
  if a.k = 1 then decide (0 ≤ a.s) && decide (a.s < S) && decide (a.wr = 0) && decide (a.b = 0)
  else if a.k = 2 ∨ a.k = 4 then decide (a.s = 0) && decide (a.wr = 0) && decide (a.b = 0)
  else if a.k = 3 then decide (a.s = 0) && ((decide (a.wr = 0) && decide (a.b = 0)) || (decide (1 ≤ a.wr) && decide (a.wr ≤ 1000000) && decide (0 ≤ a.b) && decide (a.b ≤ 64)))
  else false
def validB (l : List Act) (S : Int) : Bool := l.all fun a => rightB a S
theorem valid_no {l : List Act} {S : Int} {i : Nat} {a : Act} (h : l[i]? = some a) (hr : rightB a S = false) : validB l S = false := by
  unfold validB
  rw [Bool.eq_false_iff]
  intro hh
  rw [List.all_eq_true] at hh
  have := hh a (List.mem_of_getElem? h)
  rw [hr] at this
  cases this
theorem valid_step {l : List Act} {S : Int} {i : Nat} {a : Act} (h : l[i]? = some a) (hr : rightB a S = true) (hv : validB (l.take i) S = true) : validB (l.take (i + 1)) S = true := by
  obtain ⟨hi, rfl⟩ := List.getElem?_eq_some_iff.1 h
  rw [List.take_succ_eq_append_getElem hi]
  unfold validB at hv ⊢
  rw [List.all_append, hv]
  simp [hr]
theorem rr_valid (S r : Nat) (T : Int) (h : (S : Int) ≤ T) : validB (rrL S r) T = true := by
  induction r with
  | zero => rfl
  | succ r ih =>
    unfold validB at ih ⊢
    rw [rrL, List.all_append, ih]
    simp [rowL, rightB]
    omega

end Go.Proofs.YtcdinoepjimkmaaDoor
