/-
  Opening a slice of actions.
-/
import Derived.Deep.Slices
import Derived.Deep.Fields
import Derived.ChangeSame
import Derived.ProofKit
import Derived.OpenShut
import Derived.ShutString
import Derived.Lib.SmallJoins
import Derived.Test.YtcdinoepjimkmaaDoorActs
import Derived.Test.YtcdinoepjimkmaaDoorRows
namespace Go.Proofs.YtcdinoepjimkmaaDoor
open Go.ChangeShapes Go.WideShapes Go.Deep Go.RowKit
section
variable {H : Type} {enc : TypeId × Value → H} {P : Program} {w : World} {base : Nat} {spare : Nat → Bool} {held : Bool}
theorem open_slice_fields {t e : TypeId} {fs : Array Field} {fuel : Nat} {cs : List Value} {x : DataW H × List MemPlace} (ht : P.underlying t = some (.slice e)) (he : P.underlying e = some (.struct fs))
    (hone : oneCellFields P fs = true) (hC : P.cellsOf e = fs.size) (h : DataW.trod enc P w base spare held fuel t cs = some x) :
    (cs = [.slice none 0 0] ∧ x = (.nil, [])) ∨
    ∃ (a : Addr) (len cap m : Nat) (D : Nat → DataW H) (Pl : Nat → List MemPlace), cs = [.slice (some a) len cap] ∧ base ≤ a.block ∧ len ≤ cap ∧ cap ≤ maxLen ∧ m = (if spare a.block then cap else len) ∧
      x = (.slice ((List.range len).map D) ((List.range (m - len)).map fun j => D (len + j)), MemPlace.row a (m * fs.size) ++ (List.range m).flatMap Pl) ∧
      ∀ i, i < m → ∃ (ys : List (DataW H × List MemPlace)) (n : Nat), D i = .agg (ys.map (·.1)) ∧ Pl i = ys.flatMap (·.2) ∧ ys.length = fs.size ∧
        ∀ (j : Nat) (f : Field), fs[j]? = some f → ∃ (v : Value) (y : DataW H × List MemPlace), w.cell? (a.add (i * fs.size + j)) = some v ∧ ys[j]? = some y ∧ DataW.trod enc P w base spare held n f.type [v] = some y := by
  rcases open_slice ht h with h0 | ⟨a, len, cap, m, n, D, Pl, hcs, hb, hl, hm, hmm, hx, hi⟩
  · exact .inl h0
  · refine .inr ⟨a, len, cap, m, D, Pl, hcs, hb, hl, hm, hmm, by rw [hC] at hx; exact hx, fun i him => ?_⟩
    obtain ⟨cs', hc, ht'⟩ := hi i him
    rw [hC] at hc
    obtain ⟨ys, n', hn', hy, hlen, hyl, hf⟩ := DataW.trod_struct he ht'
    obtain ⟨_, hcl, hat⟩ := World.cells?_some hc
    simp only [Prod.mk.injEq] at hy
    refine ⟨ys, n', hy.1, hy.2, hyl, fun j f hj => ?_⟩
    obtain ⟨ho, hk⟩ := hone_of hone j f hj
    have hjl : j < fs.size := (Array.getElem?_eq_some_iff.1 hj).1
    have hcell := hat j hjl
    have hv : cs'[j]? = some (cs'[j]'(by omega)) := List.getElem?_eq_getElem (by omega)
    have h1 := hf j f hj
    rw [ho, hk] at h1
    have hone' : (cs'.drop j).take 1 = [cs'[j]'(by omega)] := by
      rw [List.drop_eq_getElem_cons (by omega)]
      rfl
    rw [hone'] at h1
    have hys : ys[j]? = some (ys[j]'(by omega)) := List.getElem?_eq_getElem (by omega)
    refine ⟨_, _, ?_, hys, h1.trans hys⟩
    rw [← Go.Deep.add_add, hcell, hv]
end

theorem cells_of29 : Tryd.prog.cellsOf 29 = 4 := by kernel_rfl
theorem spot_none {w : World} {a : Addr} {v : Value} (k0 : w.cell? a = some v) : a.spot = none := by
  unfold World.cell? at k0
  split at k0
  · split at k0
    · cases k0
    · rename_i h; simpa using h
  · cases k0
theorem open_acts {H : Type} {enc : TypeId × Value → H} {W : World} {held : Bool} {fuel n c : Nat} {A : Option Addr} {x : DataW H × List MemPlace}
    (hf : DataW.trod enc Tryd.prog W 0 (fun _ => true) held fuel 24 [.slice A n c] = some x) :
    ∃ ts : List Act, ActsAt W A ts ∧ ts.length = n ∧ n ≤ maxLen := by
  rcases open_slice_fields Tryd.underlying24 Tryd.underlying29 (by kernel_rfl) cells_of29 hf with ⟨h, _⟩ | ⟨a, len, cap, m, D, Pl, hcs, _, hl, hm, hmm, _, hi⟩
  · simp only [List.cons.injEq, Value.slice.injEq, and_true] at h
    obtain ⟨rfl, rfl, rfl⟩ := h
    exact ⟨[], fun i t ht => by simp at ht, rfl, Nat.zero_le _⟩
  · simp only [List.cons.injEq, Value.slice.injEq, and_true] at hcs
    obtain ⟨rfl, rfl, rfl⟩ := hcs
    have hmn : n ≤ m := by rw [hmm]; split <;> omega
    have h2 : ∀ i, ∃ t : Act, i < n → W.cell? (a.add (i * 4 + 0)) = some (.int .i64 t.k) ∧ W.cell? (a.add (i * 4 + 1)) = some (.int .i64 t.s) ∧
        W.cell? (a.add (i * 4 + 2)) = some (.int .i64 t.wr) ∧ W.cell? (a.add (i * 4 + 3)) = some (.int .i64 t.b) := fun i => by
      by_cases hlt : i < n
      · obtain ⟨ys, k, _, _, _, hfd⟩ := hi i (by omega)
        obtain ⟨v0, y0, c0, _, h0⟩ := hfd 0 _ rfl
        obtain ⟨v1, y1, c1, _, h1⟩ := hfd 1 _ rfl
        obtain ⟨v2, y2, c2, _, h2⟩ := hfd 2 _ rfl
        obtain ⟨v3, y3, c3, _, h3⟩ := hfd 3 _ rfl
        obtain ⟨a0, e0, _⟩ := DataW.trod_int Tryd.underlying3 h0
        obtain ⟨a1, e1, _⟩ := DataW.trod_int Tryd.underlying3 h1
        obtain ⟨a2, e2, _⟩ := DataW.trod_int Tryd.underlying3 h2
        obtain ⟨a3, e3, _⟩ := DataW.trod_int Tryd.underlying3 h3
        simp only [List.cons.injEq, and_true] at e0 e1 e2 e3
        subst e0 e1 e2 e3
        exact ⟨⟨a0, a1, a2, a3⟩, fun _ => ⟨c0, c1, c2, c3⟩⟩
      · exact ⟨⟨0, 0, 0, 0⟩, fun h => absurd h hlt⟩
    obtain ⟨f, hfs⟩ := Classical.axiomOfChoice h2
    refine ⟨(List.range n).map f, fun i t ht => ?_, by simp, by omega⟩
    rw [List.getElem?_map] at ht
    have hlt : i < n := by
      by_cases h : i < n
      · exact h
      · rw [List.getElem?_eq_none (by simp; omega)] at ht; cases ht
    rw [List.getElem?_range hlt] at ht
    simp only [Option.map_some, Option.some.injEq] at ht
    subst ht
    obtain ⟨k0, k1, k2, k3⟩ := hfs i hlt
    have hsp : a.spot = none := by
      obtain ⟨k0, _⟩ := hfs 0 (by omega)
      have e0 : a.add (0 * 4 + 0) = a := by simp [Addr.add]
      rw [e0] at k0
      exact spot_none k0
    obtain ⟨b, off, sp⟩ := a
    dsimp only at hsp
    subst hsp
    have hadd : ∀ j, (⟨b, off, none⟩ : Addr).add j = ⟨b, off + j, none⟩ := fun j => by unfold Addr.add; split <;> simp_all
    rw [hadd] at k0 k1 k2 k3
    exact ⟨b, off, rfl, by simpa using k0, by simpa [Nat.add_assoc] using k1, by simpa [Nat.add_assoc] using k2, by simpa [Nat.add_assoc] using k3⟩

end Go.Proofs.YtcdinoepjimkmaaDoor
