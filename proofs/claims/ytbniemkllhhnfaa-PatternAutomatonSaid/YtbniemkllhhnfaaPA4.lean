/-
  Edges under way in memory.
-/
import Derived.Test.YtbniemkllhhnfaaPA3
import Derived.Test.YtbniemkllhhnfaaApp
namespace Go.Proofs.Ytbniemkllhhnfaa
open Go.RowKit
set_option linter.unusedVariables false
set_option linter.unusedSimpArgs false
set_option maxHeartbeats 2000000
set_option maxRecDepth 100000

theorem nOwn_ext {w w' : World} {B e sz n : Nat} {v : Value} {xs : List Value} (h : w.ownsRow B e sz v n xs) (hx : Ext w w') : w'.ownsRow B e sz v n xs := by
  obtain ⟨h1, h2⟩ := h
  refine ⟨h1, ?_⟩
  rcases h2 with h2 | ⟨g, cap, cur, hv, hg, hh, r⟩
  · exact .inl h2
  · exact .inr ⟨g, cap, cur, hv, hg, (Below.block hx g (Array.getElem?_eq_some_iff.1 hh).1).trans hh, r⟩
theorem nOwn_same {w w2 : World} {B e sz n : Nat} {v : Value} {xs : List Value} (h : w.ownsRow B e sz v n xs) (hb : ∀ g, v.ownBlock = some g → w2.heap[g]? = w.heap[g]?) : w2.ownsRow B e sz v n xs := by
  obtain ⟨h1, h2⟩ := h
  refine ⟨h1, ?_⟩
  rcases h2 with h2 | ⟨g, cap, cur, rfl, hg, hh, r⟩
  · exact .inl h2
  · exact .inr ⟨g, cap, cur, rfl, hg, (hb g rfl).trans hh, r⟩
theorem flat_get {α : Type} (f : α → List Value) (s : Nat) (hf : ∀ a, (f a).length = s) : ∀ (l : List α) (i j : Nat) (a : α), l[i]? = some a → j < s → (l.flatMap f)[i * s + j]? = (f a)[j]?
  | [], i, j, a, h, hj => by simp at h
  | b :: l, 0, j, a, h, hj => by
    obtain rfl : b = a := by simpa using h
    rw [List.flatMap_cons, List.getElem?_append_left (by rw [hf]; omega)]
    simp
  | b :: l, i + 1, j, a, h, hj => by
    rw [List.flatMap_cons, List.getElem?_append_right (by rw [hf]; rw [Nat.succ_mul]; omega), hf, show (i + 1) * s + j - s = i * s + j by rw [Nat.succ_mul]; omega]
    exact flat_get f s hf l i j a (by simpa using h) hj
theorem nadd0 (g j : Nat) : (⟨g, 0, none⟩ : Addr).add j = ⟨g, j, none⟩ := by unfold Addr.add; split <;> simp_all
theorem nOwn_cell {w : World} {B e sz n : Nat} {v : Value} {xs : List Value} (h : w.ownsRow B e sz v n xs) {j : Nat} {u : Value} (hu : xs[j]? = some u) : ∃ g c, v = .slice (some ⟨g, 0, none⟩) n c ∧ w.cell? ⟨g, j, none⟩ = some u := by
  rcases h.2 with ⟨rfl, rfl⟩ | ⟨g, cap, cur, rfl, _⟩
  · have : xs = [] := List.eq_nil_of_length_eq_zero (by have := h.1; omega)
    subst this
    simp at hu
  · have := h.cells (g := g) rfl j u hu
    rw [nadd0] at this
    exact ⟨g, cap, rfl, this⟩
theorem nOwn_slice {w : World} {B e sz n : Nat} {v : Value} {xs : List Value} (h : w.ownsRow B e sz v n xs) : ∃ A c, v = .slice A n c := by
  rcases h.2 with ⟨rfl, rfl⟩ | ⟨g, cap, cur, rfl, _⟩
  · exact ⟨_, _, rfl⟩
  · exact ⟨_, _, rfl⟩
theorem ninfo_parts {P : Program} {t : TypeId} {z : Value} {s b : Nat} (h : (P.info? t).map (fun i => (i.zero, i.size, i.bytes)) = some (some z, s, b)) : ∃ i, P.info? t = some i ∧ i.zero = some z ∧ i.size = s ∧ i.bytes = b := by
  cases hi : P.info? t with
  | none => rw [hi] at h; cases h
  | some i =>
    rw [hi] at h
    simp only [Option.map_some, Option.some.injEq, Prod.mk.injEq] at h
    exact ⟨i, rfl, h.1, h.2.1, h.2.2⟩
theorem nReads_new (w : World) (cs : List Value) (e : TypeId) (k : Nat) (hl : cs.length = k) : Reads (w.alloc (.cells cs.toArray e)) (w.heap.size + 1) k (some ⟨w.heap.size, 0, none⟩) 1 cs :=
  ⟨by simp [hl], fun _ => ⟨_, rfl, Nat.lt_succ_self _, fun j u hu => news_new w cs.toArray e j u hu⟩⟩

/-- a list of edges in memory, in a block of which P holds -/
def EdgB (P : Nat → Prop) (w : World) (v : Value) (E : List Ed) : Prop := ∃ A c, v = .slice A E.length c ∧ ∀ (i : Nat) (e : Ed), E[i]? = some e → ∃ g off, A = some ⟨g, off, none⟩ ∧ g < w.heap.size ∧ P g ∧ w.cell? ⟨g, off + i * 3, none⟩ = some (.int .u8 e.lo) ∧ w.cell? ⟨g, off + i * 3 + 1, none⟩ = some (.int .u8 e.hi) ∧ w.cell? ⟨g, off + i * 3 + 2, none⟩ = some (.int .i64 e.to)
theorem EdgB.at_ {P : Nat → Prop} {w : World} {v : Value} {E : List Ed} (h : EdgB P w v E) : EdgAt w v E := by
  obtain ⟨A, c, h1, h2⟩ := h
  exact ⟨A, c, h1, fun i e he => by
    obtain ⟨g, off, k1, _, _, k2, k3, k4⟩ := h2 i e he
    exact ⟨g, off, k1, k2, k3, k4⟩⟩
theorem EdgB.mono {P P' : Nat → Prop} {w w' : World} {v : Value} {E : List Ed} (h : EdgB P w v E) (hs : w.heap.size ≤ w'.heap.size) (hk : ∀ g, g < w.heap.size → P g → w'.heap[g]? = w.heap[g]?) (hP : ∀ g, g < w.heap.size → P g → P' g) : EdgB P' w' v E := by
  obtain ⟨A, c, h1, h2⟩ := h
  refine ⟨A, c, h1, fun i e he => ?_⟩
  obtain ⟨g, off, k1, k5, k6, k2, k3, k4⟩ := h2 i e he
  have hb := hk g k5 k6
  exact ⟨g, off, k1, by omega, hP g k5 k6, (World.cell?_of_block hb).trans k2, (World.cell?_of_block hb).trans k3, (World.cell?_of_block hb).trans k4⟩
def edC (e : Ed) : List Value := [.int .u8 e.lo, .int .u8 e.hi, .int .i64 e.to]
theorem edg_own {w : World} {B T : Nat} {v : Value} {E : List Ed} (h : w.ownsRow B T 3 v E.length (E.flatMap edC)) : EdgB (fun g => B ≤ g ∧ v.ownBlock = some g) w v E := by
  obtain ⟨A, c, rfl⟩ := nOwn_slice h
  refine ⟨A, c, rfl, fun i e he => ?_⟩
  have get : ∀ j, j < 3 → (E.flatMap edC)[i * 3 + j]? = (edC e)[j]? := fun j hj => flat_get edC 3 (fun _ => rfl) E i j e he hj
  obtain ⟨g, c0, e0, h0⟩ := nOwn_cell h ((get 0 (by omega)).trans (show (edC e)[0]? = some (.int .u8 e.lo) from rfl))
  obtain ⟨g1, c1, e1, h1⟩ := nOwn_cell h ((get 1 (by omega)).trans (show (edC e)[1]? = some (.int .u8 e.hi) from rfl))
  obtain ⟨g2, c2, e2, h2⟩ := nOwn_cell h ((get 2 (by omega)).trans (show (edC e)[2]? = some (.int .i64 e.to) from rfl))
  injection e0 with e0 _ e0c
  injection e1 with e1 _ _
  injection e2 with e2 _ _
  subst e0 e0c
  simp only [Option.some.injEq, Addr.mk.injEq, and_true] at e1 e2
  subst e1 e2
  have hg := h.lt g rfl
  exact ⟨g, 0, rfl, hg.2, ⟨hg.1, rfl⟩, by simpa using h0, by simpa using h1, by simpa using h2⟩
/-- a row of lists of edges under way -/
def EdsO (B T : Nat) (w : World) (v : Value) (Es : List (List Ed)) : Prop := ∃ vs : List Value, w.ownsRow B T 1 v Es.length vs ∧ ∀ (i : Nat) (E : List Ed) (u : Value), Es[i]? = some E → vs[i]? = some u → EdgB (fun g => B ≤ g ∧ v.ownBlock ≠ some g) w u E
theorem EdsO.nil (B T : Nat) (w : World) : EdsO B T w (.slice none 0 0) [] := ⟨[], World.ownsRow_nil _ _ _ _, by simp⟩
theorem EdsO.keep {B T : Nat} {w w' : World} {v : Value} {Es : List (List Ed)} (h : EdsO B T w v Es) (hs : w.heap.size ≤ w'.heap.size) (hk : ∀ g, g < w.heap.size → B ≤ g → w'.heap[g]? = w.heap[g]?) : EdsO B T w' v Es := by
  obtain ⟨vs, h1, h2⟩ := h
  exact ⟨vs, nOwn_same h1 fun g hg => hk g (h1.lt g hg).2 (h1.lt g hg).1, fun i E u hE hu => (h2 i E u hE hu).mono hs (fun g hg hp => hk g hg hp.1) fun _ _ hp => hp⟩
theorem EdsO.ext {B T : Nat} {w w' : World} {v : Value} {Es : List (List Ed)} (h : EdsO B T w v Es) (hx : Ext w w') : EdsO B T w' v Es := h.keep hx.size fun g hg _ => Below.block hx g hg
theorem EdsO.set {B T : Nat} {w : World} {v : Value} {Es : List (List Ed)} (h : EdsO B T w v Es) {p : Addr} (hp : p.block < B) (u : Value) : EdsO B T (w.setCell p u) v Es :=
  h.keep (by simp [World.setCell]) fun g _ hg => Below.heap_setCell w p u g (by omega)
theorem EdsO.at_ {B T : Nat} {w : World} {v : Value} {Es : List (List Ed)} (h : EdsO B T w v Es) : ∃ A c, v = .slice A Es.length c ∧ EdsAt w A Es := by
  obtain ⟨vs, h1, h2⟩ := h
  obtain ⟨A, c, rfl⟩ := nOwn_slice h1
  refine ⟨A, c, rfl, fun i E hE => ?_⟩
  have hi := (List.getElem?_eq_some_iff.1 hE).1
  have hl : i < vs.length := by have := h1.1; omega
  have hu := List.getElem?_eq_getElem hl
  obtain ⟨g, c', e0, h0⟩ := nOwn_cell h1 hu
  injection e0 with e0 _ _
  exact ⟨g, 0, _, e0, by simpa using h0, (h2 i E _ hE hu).at_⟩
theorem EdsO.push {B T : Nat} {w W0 w' : World} {v v' u : Value} {Es : List (List Ed)} {E : List Ed} {vs : List Value} (hv : ∀ (i : Nat) (E : List Ed) (u : Value), Es[i]? = some E → vs[i]? = some u → EdgB (fun g => B ≤ g ∧ v.ownBlock ≠ some g) w u E)
    (hl : vs.length = Es.length) (hu : EdgB (fun g => B ≤ g ∧ v.ownBlock ≠ some g) w u E) (hx : Ext w W0)
    (hown : w'.ownsRow B T 1 v' (Es.length + 1) (vs ++ [u])) (hg : W0.grownBy w' v.ownBlock) (hb : v'.ownBlock = v.ownBlock ∨ v'.ownBlock = some W0.heap.size) : EdsO B T w' v' (Es ++ [E]) := by
  have hs := hx.size
  have hgs := hg.size
  have hkeep : ∀ k, k < w.heap.size → (B ≤ k ∧ v.ownBlock ≠ some k) → w'.heap[k]? = w.heap[k]? := fun k hk hv => (hg.block k (by omega) (fun e => hv.2 e.symm)).trans (Below.block hx k hk)
  have hP : ∀ k, k < w.heap.size → (B ≤ k ∧ v.ownBlock ≠ some k) → (B ≤ k ∧ v'.ownBlock ≠ some k) := fun k hk hv => ⟨hv.1, fun e => by
    rcases hb with hb | hb
    · exact hv.2 (hb.symm.trans e)
    · rw [hb] at e
      have := Option.some.inj e
      omega⟩
  refine ⟨vs ++ [u], by rw [List.length_append, List.length_singleton]; exact hown, fun i E' u' hE hu' => ?_⟩
  by_cases hi : i < Es.length
  · rw [List.getElem?_append_left hi] at hE
    rw [List.getElem?_append_left (by omega)] at hu'
    exact (hv i E' u' hE hu').mono (by omega) hkeep hP
  · have h1 := (List.getElem?_eq_some_iff.1 hE).1
    rw [List.length_append, List.length_singleton] at h1
    obtain rfl : i = Es.length := by omega
    rw [List.getElem?_append_right (Nat.le_refl _), Nat.sub_self] at hE
    rw [← hl, List.getElem?_append_right (Nat.le_refl _), Nat.sub_self] at hu'
    obtain rfl : E = E' := by simpa using hE
    obtain rfl : u = u' := by simpa using hu'
    exact hu.mono (by omega) hkeep hP
end Go.Proofs.Ytbniemkllhhnfaa
