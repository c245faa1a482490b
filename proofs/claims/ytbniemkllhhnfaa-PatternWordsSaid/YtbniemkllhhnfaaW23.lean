/-
  The memory of the reference's search.
-/
import Derived.Test.YtbniemkllhhnfaaW22
namespace Go.Proofs.Ytbniemkllhhnfaa
open Go.RowKit
set_option maxHeartbeats 1000000
set_option maxRecDepth 100000

/-- a node: a slice of strings that no search writes to -/
def NodeAt (w : World) (ov v : Value) (a : List (List Nat)) : Prop :=
  ∃ Al cl, v = .slice Al a.length cl ∧ (a = [] ∨ ∃ b off cs fr, Al = some ⟨b, off, none⟩ ∧ w.heap[b]? = some (.cells cs 9 fr) ∧ ov.ownBlock ≠ some b ∧ ∀ (i : Nat) (u : Value), (strs a)[i]? = some u → cs[off + i]? = some u)
theorem NodeAt.rd {w : World} {ov v : Value} {a : List (List Nat)} (h : NodeAt w ov v a) : ∃ Al cl, v = .slice Al a.length cl ∧ Rd w 9 Al (strs a) := by
  obtain ⟨Al, cl, hv, h⟩ := h
  refine ⟨Al, cl, hv, ?_⟩
  rcases h with rfl | ⟨b, off, cs, fr, hA, hb, _, hc⟩
  · exact .inl rfl
  · exact .inr ⟨b, off, cs, fr, hA, hb, hc⟩
/-- what a search leaves as it was -/
structure Gr (B : Nat) (w w' : World) (ov ov' : Value) : Prop where
  os : w'.os = w.os
  tape : w'.tape = w.tape
  output : w'.output = w.output
  size : w.heap.size ≤ w'.heap.size
  block : ∀ g, g < w.heap.size → (g < B ∨ (∃ cs fr, w.heap[g]? = some (.cells cs 9 fr)) ∧ ov.ownBlock ≠ some g) → w'.heap[g]? = w.heap[g]?
  row : ov'.ownBlock = ov.ownBlock ∨ ∃ k, w.heap.size ≤ k ∧ ov'.ownBlock = some k
theorem Gr.of_ext {B : Nat} {w w' : World} (h : Ext w w') (ov : Value) : Gr B w w' ov ov :=
  ⟨Below.os h, Below.tape h, Below.output h, Below.size h, fun g hg _ => Below.block h g hg, .inl rfl⟩
theorem Gr.refl (B : Nat) (w : World) (ov : Value) : Gr B w w ov ov := Gr.of_ext (Ext.refl w) ov
theorem Gr.trans {B : Nat} {a b c : World} {ov o2 o3 : Value} (h : Gr B a b ov o2) (k : Gr B b c o2 o3) : Gr B a c ov o3 where
  os := k.os.trans h.os
  tape := k.tape.trans h.tape
  output := k.output.trans h.output
  size := Nat.le_trans h.size k.size
  block g hg hh := by
    have h1 := h.block g hg hh
    rw [← h1]
    refine k.block g (Nat.lt_of_lt_of_le hg h.size) ?_
    rcases hh with hh | ⟨⟨cs, fr, hc⟩, ho⟩
    · exact .inl hh
    · refine .inr ⟨⟨cs, fr, h1.trans hc⟩, ?_⟩
      rcases h.row with e | ⟨j, hj, e⟩
      · rw [e]; exact ho
      · rw [e]; intro e2; injection e2 with e2; omega
  row := by
    rcases k.row with e | ⟨j, hj, e⟩
    · rw [e]; exact h.row
    · exact .inr ⟨j, Nat.le_trans h.size hj, e⟩
theorem NodeAt.keep {B : Nat} {w w' : World} {ov ov' v : Value} {a : List (List Nat)} (h : NodeAt w ov v a) (hr : Gr B w w' ov ov') : NodeAt w' ov' v a := by
  obtain ⟨Al, cl, hv, h⟩ := h
  refine ⟨Al, cl, hv, ?_⟩
  rcases h with rfl | ⟨b, off, cs, fr, hA, hb, ho, hc⟩
  · exact .inl rfl
  · have hlt : b < w.heap.size := (Array.getElem?_eq_some_iff.1 hb).1
    refine .inr ⟨b, off, cs, fr, hA, (hr.block b hlt (.inr ⟨⟨cs, fr, hb⟩, ho⟩)).trans hb, ?_, hc⟩
    rcases hr.row with e | ⟨j, hj, e⟩
    · rw [e]; exact ho
    · rw [e]; intro e2; injection e2 with e2; omega
theorem NodeAt.of_own {B n : Nat} {w : World} {ov v : Value} {a : List (List Nat)} (ho : w.ownsRow B 9 1 v n (strs a)) (hn : a.length = n) (hov : ∀ g, ov.ownBlock = some g → g < B) : NodeAt w ov v a := by
  rcases ho.2 with ⟨h1, h2⟩ | ⟨g, cap, cur, h1, hB, hh, _⟩
  · subst h2
    exact ⟨none, 0, by rw [h1, hn], .inl (List.eq_nil_of_length_eq_zero hn)⟩
  · obtain ⟨Al, cl, e, hrd⟩ := Rd_of_own ho
    subst hn
    refine ⟨Al, cl, e, ?_⟩
    rcases hrd with h | ⟨b, off, cs, fr, hA, hb, hc⟩
    · left
      unfold strs at h
      simpa using h
    · refine .inr ⟨b, off, cs, fr, hA, hb, ?_, hc⟩
      intro e2
      have h3 := hov b e2
      have h4 := own_ge ho (g := b) (by rw [e, hA]; rfl)
      omega

/-- the memory: the block of the dead, its two rows, the row of what has been found -/
structure Gm (B D : Nat) (A : Option Addr) (ts : List Tst) (w : World) (outs : List (List Nat)) (nds : List (List (List Nat))) (lfs : List Nat) (vals : List Value) (nv lv ov : Value) : Prop where
  hBD : B ≤ D
  hBw : B ≤ w.heap.size
  blk : Blk w D 75 [nv, lv]
  tests : TsAt w A ts
  old : ts ≠ [] → ∀ b, A = some b → b.block < B
  out : w.ownsRow B 9 1 ov outs.length (strs outs)
  left : w.ownsRow B 3 1 lv lfs.length (lfs.map fun (d : Nat) => .int .i64 (d : Int))
  nodes : w.ownsRow B 69 1 nv nds.length vals
  each : ∀ (i : Nat) (a : List (List Nat)), nds[i]? = some a → ∃ v, vals[i]? = some v ∧ NodeAt w ov v a
section
variable {B D : Nat} {A : Option Addr} {ts : List Tst} {w w2 : World} {outs : List (List Nat)} {nds : List (List (List Nat))} {lfs : List Nat} {vals : List Value} {nv lv ov v' : Value}
theorem Gm.ext {w' : World} (h : Gm B D A ts w outs nds lfs vals nv lv ov) (hx : Ext w w') : Gm B D A ts w' outs nds lfs vals nv lv ov :=
  ⟨h.hBD, Nat.le_trans h.hBw hx.size, h.blk.ext hx, h.tests.ext hx, h.old, own_ext h.out hx, own_ext h.left hx, own_ext h.nodes hx, fun i a ha => by
    obtain ⟨v, hv, hn⟩ := h.each i a ha
    exact ⟨v, hv, hn.keep (Gr.of_ext (B := B) hx ov)⟩⟩
theorem own_neq {e f n m : Nat} {u v : Value} {xs ys : List Value} (h : w.ownsRow B e 1 u n xs) (k : w.ownsRow B f 1 v m ys) (hef : e ≠ f) {g : Nat} (hg : u.ownBlock = some g) : v.ownBlock ≠ some g := fun e2 => by
  obtain ⟨cur, hh⟩ := own_type h hg
  obtain ⟨cur2, hh2⟩ := own_type k e2
  rw [hh] at hh2
  injection hh2 with this
  injection this with _ this
  exact hef this
theorem own_neB {e n t : Nat} {u : Value} {xs cs : List Value} (h : w.ownsRow B e 1 u n xs) (k : Blk w D t cs) (hef : e ≠ t) : u.ownBlock ≠ some D := fun e2 => by
  obtain ⟨cur, hh⟩ := own_type h e2
  unfold Blk at k
  rw [hh] at k
  injection k with this
  injection this with _ this
  exact absurd this hef
/-- one text more -/
theorem Gm.text (h : Gm B D A ts w outs nds lfs vals nv lv ov) (text : List Nat) (hg : w.grownBy w2 ov.ownBlock) (ho : w2.ownsRow B 9 1 v' (outs.length + 1) (strs outs ++ [.string (S text)])) (ha : v'.ownBlock = ov.ownBlock ∨ v'.ownBlock = some w.heap.size) :
    Gm B D A ts w2 (outs ++ [text]) nds lfs vals nv lv v' ∧ Gr B w w2 ov v' := by
  have hr : Gr B w w2 ov v' := ⟨hg.os, hg.tape, hg.output, hg.size, fun g hl hh => hg.block g hl (by
      rcases hh with hh | ⟨_, hh⟩
      · intro e; have := own_ge h.out e.symm; omega
      · exact fun e => hh e.symm), by
    rcases ha with e | e
    · exact .inl e
    · exact .inr ⟨_, Nat.le_refl _, e⟩⟩
  have hB1 : ∀ g, g < B → w2.heap[g]? = w.heap[g]? := fun g hl => hr.block g (Nat.lt_of_lt_of_le hl h.hBw) (.inl hl)
  refine ⟨⟨h.hBD, Nat.le_trans h.hBw hg.size, h.blk.grown hg (fun e => own_neB h.out h.blk (by decide) e.symm), h.tests.block h.old hB1, h.old, ?_, ?_, ?_, fun i a hi => ?_⟩, hr⟩
  · have e : strs (outs ++ [text]) = strs outs ++ [.string (S text)] := by simp [strs]
    rw [e, List.length_append]; exact ho
  · exact own_block h.left fun g hl => hg.block g (own_lt h.left hl) (fun e => own_neq h.left h.out (by decide) hl e.symm)
  · exact own_block h.nodes fun g hl => hg.block g (own_lt h.nodes hl) (fun e => own_neq h.nodes h.out (by decide) hl e.symm)
  · obtain ⟨v, hv, hn⟩ := h.each i a hi
    exact ⟨v, hv, hn.keep hr⟩
/-- one node more -/
theorem Gm.node (h : Gm B D A ts w outs nds lfs vals nv lv ov) (a : List (List Nat)) (x : Value) (hx : NodeAt w ov x a) (hl : vals.length = nds.length) (hg : w.grownBy w2 nv.ownBlock) (ho : w2.ownsRow B 69 1 v' (nds.length + 1) (vals ++ [x])) :
    Gm B D A ts (w2.setCell ⟨D, 0, none⟩ v') outs (nds ++ [a]) lfs (vals ++ [x]) v' lv ov ∧ Gr B w (w2.setCell ⟨D, 0, none⟩ v') ov ov := by
  have hb2 := h.blk.grown hg (fun e => own_neB h.nodes h.blk (by decide) e.symm)
  have hD := h.blk.lt
  have blk2 : ∀ g, g < w.heap.size → g ≠ D → nv.ownBlock ≠ some g → (w2.setCell ⟨D, 0, none⟩ v').heap[g]? = w.heap[g]? := fun g hl hF hn => by
    rw [Below.heap_setCell _ _ _ _ (show g ≠ (⟨D, 0, none⟩ : Addr).block from hF), hg.block g hl (fun e => hn e.symm)]
  have hB1 : ∀ g, g < B → (w2.setCell ⟨D, 0, none⟩ v').heap[g]? = w.heap[g]? := fun g hl =>
    blk2 g (Nat.lt_of_lt_of_le hl h.hBw) (by have := h.hBD; omega) (fun e => by have := own_ge h.nodes e; omega)
  have hr : Gr B w (w2.setCell ⟨D, 0, none⟩ v') ov ov := ⟨hg.os, hg.tape, hg.output, by have := hg.size; simp [World.setCell]; omega, fun g hl hh => by
    rcases hh with hh | ⟨⟨cs, fr, hc⟩, _⟩
    · exact hB1 g hh
    · refine blk2 g hl ?_ ?_
      · rintro rfl
        have := h.blk
        unfold Blk at this
        rw [hc] at this
        injection this with this
        injection this with _ this
        exact absurd this (by decide)
      · intro e
        obtain ⟨cur, hh⟩ := own_type h.nodes e
        rw [hc] at hh
        injection hh with this
        injection this with _ this
        exact absurd this (by decide), .inl rfl⟩
  refine ⟨⟨h.hBD, Nat.le_trans h.hBw hr.size, hb2.set 0 v', h.tests.block h.old hB1, h.old, ?_, ?_, ?_, fun i b hi => ?_⟩, hr⟩
  · exact own_block h.out fun g hl => blk2 g (own_lt h.out hl) (fun e => own_neB h.out h.blk (by decide) (by rw [hl, e])) (own_neq h.out h.nodes (by decide) hl)
  · exact own_block h.left fun g hl => blk2 g (own_lt h.left hl) (fun e => own_neB h.left h.blk (by decide) (by rw [hl, e])) (own_neq h.left h.nodes (by decide) hl)
  · rw [List.length_append]
    refine own_block ho fun g hl => Below.heap_setCell _ _ _ _ ?_
    intro e; subst e; exact own_neB ho hb2 (by decide) hl
  · by_cases hlt : i < nds.length
    · rw [List.getElem?_append_left hlt] at hi
      obtain ⟨v, hv, hn⟩ := h.each i b hi
      exact ⟨v, by rw [List.getElem?_append_left (by omega)]; exact hv, hn.keep hr⟩
    · have hlt2 : i < nds.length + 1 := by
        have := (List.getElem?_eq_some_iff.1 hi).1
        simpa using this
      have : i = nds.length := by omega
      subst this
      simp at hi
      subst hi
      exact ⟨x, by rw [← hl]; simp, hx.keep hr⟩
/-- one length more -/
theorem Gm.len (h : Gm B D A ts w outs nds lfs vals nv lv ov) (k : Nat) (hg : w.grownBy w2 lv.ownBlock) (ho : w2.ownsRow B 3 1 v' (lfs.length + 1) ((lfs.map fun (d : Nat) => Value.int .i64 (d : Int)) ++ [.int .i64 (k : Int)])) :
    Gm B D A ts (w2.setCell ⟨D, 1, none⟩ v') outs nds (lfs ++ [k]) vals nv v' ov ∧ Gr B w (w2.setCell ⟨D, 1, none⟩ v') ov ov := by
  have hb2 := h.blk.grown hg (fun e => own_neB h.left h.blk (by decide) e.symm)
  have hD := h.blk.lt
  have blk2 : ∀ g, g < w.heap.size → g ≠ D → lv.ownBlock ≠ some g → (w2.setCell ⟨D, 1, none⟩ v').heap[g]? = w.heap[g]? := fun g hl hF hn => by
    rw [Below.heap_setCell _ _ _ _ (show g ≠ (⟨D, 1, none⟩ : Addr).block from hF), hg.block g hl (fun e => hn e.symm)]
  have hB1 : ∀ g, g < B → (w2.setCell ⟨D, 1, none⟩ v').heap[g]? = w.heap[g]? := fun g hl =>
    blk2 g (Nat.lt_of_lt_of_le hl h.hBw) (by have := h.hBD; omega) (fun e => by have := own_ge h.left e; omega)
  have hr : Gr B w (w2.setCell ⟨D, 1, none⟩ v') ov ov := ⟨hg.os, hg.tape, hg.output, by have := hg.size; simp [World.setCell]; omega, fun g hl hh => by
    rcases hh with hh | ⟨⟨cs, fr, hc⟩, _⟩
    · exact hB1 g hh
    · refine blk2 g hl ?_ ?_
      · rintro rfl
        have := h.blk
        unfold Blk at this
        rw [hc] at this
        injection this with this
        injection this with _ this
        exact absurd this (by decide)
      · intro e
        obtain ⟨cur, hh⟩ := own_type h.left e
        rw [hc] at hh
        injection hh with this
        injection this with _ this
        exact absurd this (by decide), .inl rfl⟩
  refine ⟨⟨h.hBD, Nat.le_trans h.hBw hr.size, hb2.set 1 v', h.tests.block h.old hB1, h.old, ?_, ?_, ?_, fun i b hi => ?_⟩, hr⟩
  · exact own_block h.out fun g hl => blk2 g (own_lt h.out hl) (fun e => own_neB h.out h.blk (by decide) (by rw [hl, e])) (own_neq h.out h.left (by decide) hl)
  · rw [List.length_append, List.map_append]
    refine own_block ho fun g hl => Below.heap_setCell _ _ _ _ ?_
    intro e; subst e; exact own_neB ho hb2 (by decide) hl
  · exact own_block h.nodes fun g hl => blk2 g (own_lt h.nodes hl) (fun e => own_neB h.nodes h.blk (by decide) (by rw [hl, e])) (own_neq h.nodes h.left (by decide) hl)
  · obtain ⟨v, hv, hn⟩ := h.each i b hi
    exact ⟨v, hv, hn.keep hr⟩
theorem Gr.below {w' : World} {ov' : Value} (hB : B ≤ w.heap.size) (hr : Gr B w w' ov ov') : Below B w w' :=
  ⟨hr.os, hr.tape, hr.output, hr.size, fun g hg => hr.block g (Nat.lt_of_lt_of_le hg hB) (.inl hg)⟩
end

end Go.Proofs.Ytbniemkllhhnfaa
