/-
  The memory of the automaton under way, as one.
-/
import Derived.Test.YtbniemkllhhnfaaPA8
namespace Go.Proofs.Ytbniemkllhhnfaa
open Go.RowKit
set_option linter.unusedVariables false
set_option linter.unusedSimpArgs false
set_option maxHeartbeats 1000000
set_option maxRecDepth 100000

/-- the blocks that change -/
def mut4 (v4 v8 va ve : Value) (q : Nat) : Prop := v4.ownBlock ≠ some q ∧ v8.ownBlock ≠ some q ∧ va.ownBlock ≠ some q ∧ ve.ownBlock ≠ some q
structure AM (g M gd : Nat) (t : List Value) (w : World) (v4 v8 va ve : Value) (n : Nat) (ms sts : List Nat) (acc : List Bool) (Es : List (List Ed)) (E : List Ed) : Prop where
  lt : g + 1 < M ∧ M < gd
  test : Blk w g 23 t
  res : Blk w (g + 1) 41 [.slice none 0 0, .slice none 0 0]
  dfa : Blk w gd 41 [va, ve]
  mp : NumMap w Try.prog 55 3 M n ms
  st : w.ownsRow (g + 2) 55 1 v4 sts.length (natV sts)
  ac : w.ownsRow (gd + 1) 4 1 va acc.length (booV acc)
  ed : EdsP (fun q => gd < q ∧ mut4 v4 v8 va ve q) (gd + 1) 77 w ve Es
  cur : w.ownsRow (gd + 1) 79 3 v8 E.length (E.flatMap edC)
  st1 : v4.ownBlock ≠ some M ∧ v4.ownBlock ≠ some gd
  a1 : ∀ q, v4.ownBlock = some q → v8.ownBlock ≠ some q ∧ va.ownBlock ≠ some q ∧ ve.ownBlock ≠ some q
  a2 : ∀ q, v8.ownBlock = some q → va.ownBlock ≠ some q ∧ ve.ownBlock ≠ some q
  a3 : ∀ q, va.ownBlock = some q → ve.ownBlock ≠ some q
theorem AM.ext {g M gd : Nat} {t : List Value} {w w' : World} {v4 v8 va ve : Value} {n : Nat} {ms sts : List Nat} {acc : List Bool} {Es : List (List Ed)} {E : List Ed} (h : AM g M gd t w v4 v8 va ve n ms sts acc Es E) (hx : Ext w w') : AM g M gd t w' v4 v8 va ve n ms sts acc Es E :=
  { h with
    test := h.test.ext hx
    res := h.res.ext hx
    dfa := h.dfa.ext hx
    mp := h.mp.ext hx
    st := nOwn_ext h.st hx
    ac := nOwn_ext h.ac hx
    ed := h.ed.grown (grown_ext hx) (by simp) (by simp) (fun _ _ h => h)
    cur := nOwn_ext h.cur hx }
/-- the map is written -/
theorem AM.map {g M gd : Nat} {t : List Value} {w w' : World} {v4 v8 va ve : Value} {n n' : Nat} {ms ms' sts : List Nat} {acc : List Bool} {Es : List (List Ed)} {E : List Ed} (h : AM g M gd t w v4 v8 va ve n ms sts acc Es E) (hg : w.grownBy w' (some M)) (hm : NumMap w' Try.prog 55 3 M n' ms') : AM g M gd t w' v4 v8 va ve n' ms' sts acc Es E := by
  have hlt := h.lt
  have f : ∀ {v : Value} {T sz k : Nat} {xs : List Value}, w.ownsRow (gd + 1) T sz v k xs → ∀ q, v.ownBlock = some q → some M ≠ some q := fun ho q hq e => by
    have := own_ge ho hq
    have := Option.some.inj e
    omega
  exact { h with
    test := h.test.grown hg (by simp; omega)
    res := h.res.grown hg (by simp; omega)
    dfa := h.dfa.grown hg (by simp; omega)
    mp := hm
    st := nOwn_grown h.st hg fun q hq e => h.st1.1 (hq.trans e.symm)
    ac := nOwn_grown h.ac hg (f h.ac)
    ed := h.ed.grown hg (by obtain ⟨vs, ho, _⟩ := h.ed; exact f ho) (fun q hq e => by have := hq.1; have := Option.some.inj e; omega) (fun _ _ h => h)
    cur := nOwn_grown h.cur hg (f h.cur) }
/-- the row of states grows -/
theorem AM.grow4 {g M gd : Nat} {t : List Value} {w w' : World} {v4 v4' v8 va ve : Value} {n : Nat} {ms sts : List Nat} {acc : List Bool} {Es : List (List Ed)} {E : List Ed} {s : Nat} (h : AM g M gd t w v4 v8 va ve n ms sts acc Es E) (hg : w.grownBy w' v4.ownBlock) (hb : v4'.ownBlock = v4.ownBlock ∨ v4'.ownBlock = some w.heap.size)
    (ho : w'.ownsRow (g + 2) 55 1 v4' (sts.length + 1) (natV sts ++ [.int .u32 (s : Int)])) : AM g M gd t w' v4' v8 va ve n ms (sts ++ [s]) acc Es E := by
  have hlt := h.lt
  have hd := h.dfa.lt
  have s1 := h.st1
  have a1 := h.a1
  have n4 : ∀ q, q < w.heap.size → v4.ownBlock ≠ some q → v4'.ownBlock ≠ some q := fun q hq hn e => by
    rcases hb with hb | hb
    · exact hn (hb.symm.trans e)
    · rw [hb] at e
      have := Option.some.inj e
      omega
  have l8 := fun q (e : v8.ownBlock = some q) => own_lt h.cur e
  have la := fun q (e : va.ownBlock = some q) => own_lt h.ac e
  obtain ⟨vs, hv1, _⟩ := id h.ed
  have le := fun q (e : ve.ownBlock = some q) => own_lt hv1 e
  have ge4 := fun q (e : v4.ownBlock = some q) => own_ge h.st e
  exact { h with
    test := h.test.grown hg (fun e => by have := ge4 _ e.symm; omega)
    res := h.res.grown hg (fun e => by have := ge4 _ e.symm; omega)
    dfa := h.dfa.grown hg (fun e => s1.2 e.symm)
    mp := h.mp.kept hg (fun e => s1.1 e.symm)
    st := by rw [List.length_append, List.length_singleton, natV_app]; exact ho
    ac := nOwn_grown h.ac hg (fun q hq e => (a1 q e).2.1 hq)
    ed := h.ed.grown hg (fun q hq e => (a1 q e).2.2 hq) (fun q hq e => hq.2.1 e) (fun q hl hq => ⟨hq.1, n4 q hl hq.2.1, hq.2.2⟩)
    cur := nOwn_grown h.cur hg (fun q hq e => (a1 q e).1 hq)
    st1 := ⟨n4 _ (by omega) s1.1, n4 _ hd s1.2⟩
    a1 := fun q hq => by
      rcases hb with hb | hb
      · exact a1 q (hb.symm.trans hq)
      · rw [hb] at hq
        have hq := Option.some.inj hq
        exact ⟨fun e => by have := l8 q e; omega, fun e => by have := la q e; omega, fun e => by have := le q e; omega⟩ }
/-- the row of edges grows, or is written -/
theorem AM.grow8 {g M gd : Nat} {t : List Value} {w w' : World} {v4 v8 v8' va ve : Value} {n : Nat} {ms sts : List Nat} {acc : List Bool} {Es : List (List Ed)} {E E' : List Ed} (h : AM g M gd t w v4 v8 va ve n ms sts acc Es E) (hg : w.grownBy w' v8.ownBlock) (hb : v8'.ownBlock = v8.ownBlock ∨ v8'.ownBlock = some w.heap.size)
    (ho : w'.ownsRow (gd + 1) 79 3 v8' E'.length (E'.flatMap edC)) : AM g M gd t w' v4 v8' va ve n ms sts acc Es E' := by
  have hlt := h.lt
  have hd := h.dfa.lt
  have a1 := h.a1
  have a2 := h.a2
  have n8 : ∀ q, q < w.heap.size → v8.ownBlock ≠ some q → v8'.ownBlock ≠ some q := fun q hq hn e => by
    rcases hb with hb | hb
    · exact hn (hb.symm.trans e)
    · rw [hb] at e
      have := Option.some.inj e
      omega
  have l4 := fun q (e : v4.ownBlock = some q) => own_lt h.st e
  have la := fun q (e : va.ownBlock = some q) => own_lt h.ac e
  obtain ⟨vs, hv1, _⟩ := id h.ed
  have le := fun q (e : ve.ownBlock = some q) => own_lt hv1 e
  have ge8 := fun q (e : v8.ownBlock = some q) => own_ge h.cur e
  exact { h with
    test := h.test.grown hg (fun e => by have := ge8 _ e.symm; omega)
    res := h.res.grown hg (fun e => by have := ge8 _ e.symm; omega)
    dfa := h.dfa.grown hg (fun e => by have := ge8 _ e.symm; omega)
    mp := h.mp.kept hg (fun e => by have := ge8 _ e.symm; omega)
    st := nOwn_grown h.st hg (fun q hq e => (a1 q hq).1 e)
    ac := nOwn_grown h.ac hg (fun q hq e => (a2 q e).1 hq)
    ed := h.ed.grown hg (fun q hq e => (a2 q e).2 hq) (fun q hq e => hq.2.2.1 e) (fun q hl hq => ⟨hq.1, hq.2.1, n8 q hl hq.2.2.1, hq.2.2.2⟩)
    cur := ho
    a1 := fun q hq => ⟨n8 q (l4 q hq) (a1 q hq).1, (a1 q hq).2⟩
    a2 := fun q hq => by
      rcases hb with hb | hb
      · exact a2 q (hb.symm.trans hq)
      · rw [hb] at hq
        have hq := Option.some.inj hq
        exact ⟨fun e => by have := la q e; omega, fun e => by have := le q e; omega⟩ }
/-- the row of accepting states grows, and is laid into the automaton -/
theorem AM.growA {g M gd : Nat} {t : List Value} {w w' : World} {v4 v8 va va' ve : Value} {n : Nat} {ms sts : List Nat} {acc : List Bool} {Es : List (List Ed)} {E : List Ed} {b : Bool} (h : AM g M gd t w v4 v8 va ve n ms sts acc Es E) (hg : w.grownBy w' va.ownBlock) (hb : va'.ownBlock = va.ownBlock ∨ va'.ownBlock = some w.heap.size)
    (ho : w'.ownsRow (gd + 1) 4 1 va' (acc.length + 1) (booV acc ++ [.bool b])) : AM g M gd t (w'.setCell ⟨gd, 0, none⟩ va') v4 v8 va' ve n ms sts (acc ++ [b]) Es E := by
  have hlt := h.lt
  have hd := h.dfa.lt
  have a1 := h.a1
  have a2 := h.a2
  have a3 := h.a3
  have nA : ∀ q, q < w.heap.size → va.ownBlock ≠ some q → va'.ownBlock ≠ some q := fun q hq hn e => by
    rcases hb with hb | hb
    · exact hn (hb.symm.trans e)
    · rw [hb] at e
      have := Option.some.inj e
      omega
  have l4 := fun q (e : v4.ownBlock = some q) => own_lt h.st e
  have l8 := fun q (e : v8.ownBlock = some q) => own_lt h.cur e
  obtain ⟨vs, hv1, _⟩ := id h.ed
  have le := fun q (e : ve.ownBlock = some q) => own_lt hv1 e
  have geA := fun q (e : va.ownBlock = some q) => own_ge h.ac e
  have ge8 := fun q (e : v8.ownBlock = some q) => own_ge h.cur e
  have gee := fun q (e : ve.ownBlock = some q) => own_ge hv1 e
  have hs := grown_set w' ⟨gd, 0, none⟩ va'
  exact { h with
    test := (h.test.grown hg (fun e => by have := geA _ e.symm; omega)).grown hs (by simp; omega)
    res := (h.res.grown hg (fun e => by have := geA _ e.symm; omega)).grown hs (by simp; omega)
    dfa := (h.dfa.grown hg (fun e => by have := geA _ e.symm; omega)).set 0 va'
    mp := (h.mp.kept hg (fun e => by have := geA _ e.symm; omega)).kept hs (by simp; omega)
    st := nOwn_grown (nOwn_grown h.st hg (fun q hq e => (a1 q hq).2.1 e)) hs (fun q hq e => h.st1.2 (hq.trans e.symm))
    ac := by rw [List.length_append, List.length_singleton, booV_app]; exact nOwn_grown ho hs (fun q hq e => by have := own_ge ho hq; have := Option.some.inj e; simp at this; omega)
    ed := (h.ed.grown (P' := fun q => gd < q ∧ mut4 v4 v8 va' ve q) hg (fun q hq e => a3 q e hq) (fun q hq e => hq.2.2.2.1 e) (fun q hl hq => ⟨hq.1, hq.2.1, hq.2.2.1, nA q hl hq.2.2.2.1, hq.2.2.2.2⟩)).grown hs (fun q hq e => by have := gee q hq; have := Option.some.inj e; simp at this; omega) (fun q hq e => by have := hq.1; have := Option.some.inj e; simp at this; omega) (fun _ _ h => h)
    cur := nOwn_grown (nOwn_grown h.cur hg (fun q hq e => (a2 q hq).1 e)) hs (fun q hq e => by have := ge8 q hq; have := Option.some.inj e; simp at this; omega)
    a1 := fun q hq => ⟨(a1 q hq).1, nA q (l4 q hq) (a1 q hq).2.1, (a1 q hq).2.2⟩
    a2 := fun q hq => ⟨nA q (l8 q hq) (a2 q hq).1, (a2 q hq).2⟩
    a3 := fun q hq => by
      rcases hb with hb | hb
      · exact a3 q (hb.symm.trans hq)
      · rw [hb] at hq
        have hq := Option.some.inj hq
        exact fun e => by have := le q e; omega }
/-- the list of edges is laid into the automaton; a new one begins -/
theorem AM.growE {g M gd : Nat} {t : List Value} {w w' : World} {v4 v8 va ve ve' : Value} {n : Nat} {ms sts : List Nat} {acc : List Bool} {Es : List (List Ed)} {E : List Ed} {vs : List Value} (h : AM g M gd t w v4 v8 va ve n ms sts acc Es E)
    (hv1 : w.ownsRow (gd + 1) 77 1 ve Es.length vs) (hv2 : ∀ (i : Nat) (E : List Ed) (u : Value), Es[i]? = some E → vs[i]? = some u → EdgB (fun q => gd < q ∧ mut4 v4 v8 va ve q) w u E)
    (hg : w.grownBy w' ve.ownBlock) (hb : ve'.ownBlock = ve.ownBlock ∨ ve'.ownBlock = some w.heap.size)
    (ho : w'.ownsRow (gd + 1) 77 1 ve' (Es.length + 1) (vs ++ [v8])) : AM g M gd t (w'.setCell ⟨gd, 1, none⟩ ve') v4 (.slice none 0 0) va ve' n ms sts acc (Es ++ [E]) [] := by
  have hlt := h.lt
  have hd := h.dfa.lt
  have a1 := h.a1
  have a2 := h.a2
  have a3 := h.a3
  have nE : ∀ q, q < w.heap.size → ve.ownBlock ≠ some q → ve'.ownBlock ≠ some q := fun q hq hn e => by
    rcases hb with hb | hb
    · exact hn (hb.symm.trans e)
    · rw [hb] at e
      have := Option.some.inj e
      omega
  have l4 := fun q (e : v4.ownBlock = some q) => own_lt h.st e
  have l8 := fun q (e : v8.ownBlock = some q) => own_lt h.cur e
  have la := fun q (e : va.ownBlock = some q) => own_lt h.ac e
  have geA := fun q (e : va.ownBlock = some q) => own_ge h.ac e
  have gee := fun q (e : ve.ownBlock = some q) => own_ge hv1 e
  have hs := grown_set w' ⟨gd, 1, none⟩ ve'
  have hnil : ∀ q, (Value.slice none 0 0).ownBlock ≠ some q := fun q => by simp [Value.ownBlock]
  have hcur : EdgB (fun q => gd < q ∧ v4.ownBlock ≠ some q ∧ va.ownBlock ≠ some q ∧ ve.ownBlock ≠ some q) w v8 E := (edg_own h.cur).mono (Nat.le_refl _) (fun _ _ _ => rfl) (fun q hq hp => ⟨by have := hp.1; omega, fun e => (a1 q e).1 hp.2, (a2 q hp.2).1, (a2 q hp.2).2⟩)
  have key : ∀ {u : Value} {F : List Ed}, EdgB (fun q => gd < q ∧ v4.ownBlock ≠ some q ∧ va.ownBlock ≠ some q ∧ ve.ownBlock ≠ some q) w u F → EdgB (fun q => gd < q ∧ mut4 v4 (.slice none 0 0) va ve' q) (w'.setCell ⟨gd, 1, none⟩ ve') u F := fun hu =>
    (hu.grown (P' := fun q => gd < q ∧ mut4 v4 (.slice none 0 0) va ve' q) hg (fun q hq e => hq.2.2.2 e) (fun q hl hq => ⟨hq.1, hq.2.1, hnil q, hq.2.2.1, nE q hl hq.2.2.2⟩)).grown hs (fun q hq e => by have := hq.1; have := Option.some.inj e; simp at this; omega) (fun _ _ h => h)
  have hvl := hv1.1
  exact { h with
    test := (h.test.grown hg (fun e => by have := gee _ e.symm; omega)).grown hs (by simp; omega)
    res := (h.res.grown hg (fun e => by have := gee _ e.symm; omega)).grown hs (by simp; omega)
    dfa := (h.dfa.grown hg (fun e => by have := gee _ e.symm; omega)).set 1 ve'
    mp := (h.mp.kept hg (fun e => by have := gee _ e.symm; omega)).kept hs (by simp; omega)
    st := nOwn_grown (nOwn_grown h.st hg (fun q hq e => (a1 q hq).2.2 e)) hs (fun q hq e => h.st1.2 (hq.trans e.symm))
    ac := nOwn_grown (nOwn_grown h.ac hg (fun q hq e => a3 q hq e)) hs (fun q hq e => by have := geA q hq; have := Option.some.inj e; simp at this; omega)
    ed := by
      refine ⟨vs ++ [v8], by rw [List.length_append, List.length_singleton]; exact nOwn_grown ho hs (fun q hq e => by have := own_ge ho hq; have := Option.some.inj e; simp at this; omega), fun i E' u hE hu => ?_⟩
      by_cases hi : i < Es.length
      · rw [List.getElem?_append_left hi] at hE
        rw [List.getElem?_append_left (by omega)] at hu
        exact key ((hv2 i E' u hE hu).mono (Nat.le_refl _) (fun _ _ _ => rfl) (fun q _ hq => ⟨hq.1, hq.2.1, hq.2.2.2.1, hq.2.2.2.2⟩))
      · have h1 := (List.getElem?_eq_some_iff.1 hE).1
        rw [List.length_append, List.length_singleton] at h1
        obtain rfl : i = Es.length := by omega
        rw [List.getElem?_append_right (Nat.le_refl _), Nat.sub_self] at hE
        rw [show Es.length = vs.length by omega, List.getElem?_append_right (Nat.le_refl _), Nat.sub_self] at hu
        obtain rfl : E = E' := by simpa using hE
        obtain rfl : v8 = u := by simpa using hu
        exact key hcur
    cur := World.ownsRow_nil _ _ _ _
    a1 := fun q hq => ⟨hnil q, (a1 q hq).2.1, nE q (l4 q hq) (a1 q hq).2.2⟩
    a2 := fun q hq => absurd hq (hnil q)
    a3 := fun q hq => nE q (la q hq) (a3 q hq) }
end Go.Proofs.Ytbniemkllhhnfaa
