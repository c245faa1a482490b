/-
  Expressions in memory; no program in sight.
-/
import Derived.Test.YtcdnodjcnofogaaGreatDoorText
namespace Go.Proofs.YtcdnodjcnofogaaGreatDoor
open Go.RowKit
set_option maxHeartbeats 400000

def Nd.val (d : Nd) (A : Option Addr) (n c : Nat) : Value :=
  .agg #[.int .i64 d.op, .string d.tb, .string d.nm, .int .i64 d.ix, .int .i64 d.vk, .int .i64 d.vi, .string d.vt, .slice A n c]
def Nd.cells (d : Nd) (A : Option Addr) (n c : Nat) : List Value :=
  [.int .i64 d.op, .string d.tb, .string d.nm, .int .i64 d.ix, .int .i64 d.vk, .int .i64 d.vi, .string d.vt, .slice A n c]
/-- an int of 64 bits -/
def I64 (n : Int) : Prop := -9223372036854775808 ≤ n ∧ n ≤ 9223372036854775807
structure Nd.fit (d : Nd) : Prop where
  op : I64 d.op
  ix : I64 d.ix
  vk : I64 d.vk
  vi : I64 d.vi
  tb : d.tb.size ≤ 9223372036854775807
  nm : d.nm.size ≤ 9223372036854775807
  vt : d.vt.size ≤ 9223372036854775807
/-- the cells of an expression, at an offset of a slice's array -/
def CellsAt (w : World) (A : Option Addr) (o : Nat) (cs : List Value) : Prop :=
  ∃ b off, A = some ⟨b, off, none⟩ ∧ ∀ (j : Nat) (v : Value), cs[j]? = some v → w.cell? ⟨b, off + o + j, none⟩ = some v
theorem CellsAt.ext {w w' : World} {A : Option Addr} {o : Nat} {cs : List Value} (h : CellsAt w A o cs) (hx : Ext w w') : CellsAt w' A o cs := by
  obtain ⟨b, off, hA, h⟩ := h
  exact ⟨b, off, hA, fun j v hv => hx.keep (h j v hv)⟩
mutual
/-- an expression lies in memory: the cells of its node are these -/
def ExC (w : World) : Ex → List Value → Prop
  | .mk d ks, cs => d.fit ∧ ks.length ≤ 9223372036854775807 ∧ ∃ A c, cs = d.cells A ks.length c ∧ ExsAt w ks A 0
/-- expressions lie in an array, from number i on -/
def ExsAt (w : World) : List Ex → Option Addr → Nat → Prop
  | [], _, _ => True
  | e :: es, A, i => (∃ cs, CellsAt w A (i * 8) cs ∧ ExC w e cs) ∧ ExsAt w es A (i + 1)
end
theorem exsAt_iff (w : World) (A : Option Addr) : ∀ (l : List Ex) (i : Nat), ExsAt w l A i ↔ ∀ (j : Nat) (e : Ex), l[j]? = some e → ∃ cs, CellsAt w A ((i + j) * 8) cs ∧ ExC w e cs := by
  intro l
  induction l with
  | nil => intro i; simp [ExsAt]
  | cons a l ih =>
    intro i
    rw [ExsAt, ih]
    constructor
    · rintro ⟨h1, h2⟩ j e he
      cases j with
      | zero => simp at he; subst he; simpa using h1
      | succ j =>
        have := h2 j e (by simpa using he)
        rwa [show i + 1 + j = i + (j + 1) by omega] at this
    · intro h
      refine ⟨by simpa using h 0 a rfl, fun j e he => ?_⟩
      have := h (j + 1) e (by simpa using he)
      rwa [show i + (j + 1) = i + 1 + j by omega] at this
/-- a slice of expressions -/
def KidsAt (w : World) (A : Option Addr) (l : List Ex) : Prop := ExsAt w l A 0
theorem exc_ext {w w' : World} (hx : Ext w w') : ∀ (e : Ex) (cs : List Value), ExC w e cs → ExC w' e cs := by
  intro e
  induction e using Ex.ind with
  | h d ks ih =>
    intro cs h
    rw [ExC] at h ⊢
    obtain ⟨h1, h2, A, c, h3, h4⟩ := h
    refine ⟨h1, h2, A, c, h3, ?_⟩
    rw [exsAt_iff] at h4 ⊢
    intro j e he
    obtain ⟨cs, h5, h6⟩ := h4 j e he
    exact ⟨cs, h5.ext hx, ih e (List.mem_of_getElem? he) cs h6⟩
theorem KidsAt.ext {w w' : World} {A : Option Addr} {l : List Ex} (h : KidsAt w A l) (hx : Ext w w') : KidsAt w' A l := by
  unfold KidsAt at *
  rw [exsAt_iff] at *
  intro j e he
  obtain ⟨cs, h5, h6⟩ := h j e he
  exact ⟨cs, h5.ext hx, exc_ext hx e cs h6⟩
/-- an expression's value -/
structure ExV (w : World) (e : Ex) (A : Option Addr) (n c : Nat) : Prop where
  len : e.ks.length = n
  le : n ≤ 9223372036854775807
  fit : e.d.fit
  kids : KidsAt w A e.ks
theorem ExV.ext {w w' : World} {e : Ex} {A : Option Addr} {n c : Nat} (h : ExV w e A n c) (hx : Ext w w') : ExV w' e A n c := ⟨h.len, h.le, h.fit, h.kids.ext hx⟩
/-- an element of a slice -/
structure EltAt (w : World) (b o : Nat) (e : Ex) (A : Option Addr) (n c : Nat) : Prop where
  c0 : w.cell? ⟨b, o, none⟩ = some (.int .i64 e.d.op)
  c1 : w.cell? ⟨b, o + 1, none⟩ = some (.string e.d.tb)
  c2 : w.cell? ⟨b, o + 2, none⟩ = some (.string e.d.nm)
  c3 : w.cell? ⟨b, o + 3, none⟩ = some (.int .i64 e.d.ix)
  c4 : w.cell? ⟨b, o + 4, none⟩ = some (.int .i64 e.d.vk)
  c5 : w.cell? ⟨b, o + 5, none⟩ = some (.int .i64 e.d.vi)
  c6 : w.cell? ⟨b, o + 6, none⟩ = some (.string e.d.vt)
  c7 : w.cell? ⟨b, o + 7, none⟩ = some (.slice A n c)
  val : ExV w e A n c
theorem exc_elt {w : World} {A : Option Addr} {o : Nat} {e : Ex} {cs : List Value} (h1 : CellsAt w A o cs) (h2 : ExC w e cs) : ∃ b off A' n c, A = some ⟨b, off, none⟩ ∧ EltAt w b (off + o) e A' n c := by
  obtain ⟨b, off, hA, hc⟩ := h1
  cases e with
  | mk d ks =>
    rw [ExC] at h2
    obtain ⟨h3, h4, A', c, rfl, h5⟩ := h2
    exact ⟨b, off, A', ks.length, c, hA, hc 0 _ rfl, hc 1 _ rfl, hc 2 _ rfl, hc 3 _ rfl, hc 4 _ rfl, hc 5 _ rfl, hc 6 _ rfl, hc 7 _ rfl, ⟨rfl, h4, h3, h5⟩⟩
theorem KidsAt.get {w : World} {A : Option Addr} {l : List Ex} (h : KidsAt w A l) {i : Nat} {e : Ex} (he : l[i]? = some e) : ∃ b off A' n c, A = some ⟨b, off, none⟩ ∧ EltAt w b (off + i * 8) e A' n c := by
  unfold KidsAt at h
  rw [exsAt_iff] at h
  obtain ⟨cs, h1, h2⟩ := h i e he
  rw [Nat.zero_add] at h1
  exact exc_elt h1 h2
theorem elt_exc {w : World} {b o : Nat} {e : Ex} {A : Option Addr} {n c : Nat} (h : EltAt w b o e A n c) : ∃ cs, CellsAt w (some ⟨b, o, none⟩) 0 cs ∧ ExC w e cs := by
  refine ⟨e.d.cells A n c, ⟨b, o, rfl, fun j v hv => ?_⟩, ?_⟩
  · unfold Nd.cells at hv
    match j with
    | 0 => simp at hv; subst hv; exact h.c0
    | 1 => simp at hv; subst hv; exact h.c1
    | 2 => simp at hv; subst hv; exact h.c2
    | 3 => simp at hv; subst hv; exact h.c3
    | 4 => simp at hv; subst hv; exact h.c4
    | 5 => simp at hv; subst hv; exact h.c5
    | 6 => simp at hv; subst hv; exact h.c6
    | 7 => simp at hv; subst hv; exact h.c7
    | j + 8 => simp at hv
  · cases e with
    | mk d ks =>
      rw [ExC]
      have h1 := h.val.len
      have h2 := h.val.le
      have h1 : ks.length = n := h1
      subst h1
      exact ⟨h.val.fit, h2, A, c, rfl, h.val.kids⟩
end Go.Proofs.YtcdnodjcnofogaaGreatDoor
