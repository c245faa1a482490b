/-
  Walks over history: Explain.
-/
import Derived.Test.YtdjdhkbomhendaaGreatDoorGg
import Derived.Test.YtdjdhkbomhendaaGreatDoorHW15z
import Derived.Test.YtdjdhkbomhendaaGreatDoorHW31z
namespace Go.Proofs.YtdjdhkbomhendaaGreatDoor
open Go.RowKit
set_option linter.unusedVariables false
set_option linter.unusedSimpArgs false
set_option maxHeartbeats 4000000
set_option maxRecDepth 100000

theorem info_strs : (Tryz.prog.info? 9).map (fun i => (i.zero, i.size, i.bytes)) = some (some (.string ⟨#[]⟩), 1, 16) := by kernel_rfl
/-- strings.Join over a row of the call's own -/
theorem join_own (B : Nat) (v : Value) (l : List ByteArray) (w : World) (ho : w.ownsRow B 9 1 v l.length (strs l)) (hn : l.length ≤ 1000000) (hj : (joinB l).size ≤ 168000000) :
    Calls Tryz.prog 51 #[v, .string ⟨#[44, 32]⟩] w fun e w' => e = .returned (.string (joinB l)) ∧ Ext w w' := by
  rcases ho.2 with ⟨rfl, h0⟩ | ⟨g, cap, cur, rfl, hg1, hg2, hg3, hg4, hg5, hg6⟩
  · obtain rfl : l = [] := List.eq_nil_of_length_eq_zero h0
    refine (Tryz.strings_Join_none none 0 _ w).mono ?_
    rintro e w2 ⟨rfl, rfl⟩
    exact ⟨rfl, Ext.refl _⟩
  · have hcl : ∀ (j : Nat) (x : ByteArray), l[j]? = some x → w.cell? ⟨g, 0 + j, none⟩ = some (.string x) := fun j x hx => by
      have h1 := ho.cells (g := g) rfl j (.string x) (by unfold strs; rw [List.getElem?_map, hx]; rfl)
      have hadd : (⟨g, 0, none⟩ : Addr).add j = ⟨g, 0 + j, none⟩ := by unfold Addr.add; split <;> simp_all
      rwa [hadd] at h1
    have hgl : g < w.heap.size := (Array.getElem?_eq_some_iff.1 hg2).1
    have hl : (Lib.join (l.map (·.data.toList)) [44, 32]).length ≤ 168000000 := by
      have h : ((Lib.join (l.map (·.data.toList)) [44, 32]).toArray).size ≤ 168000000 := hj
      rwa [List.size_toArray] at h
    refine (Tryz.strings_Join g 0 cap l ⟨#[44, 32]⟩ w hcl hgl (by omega) hg3 (by show (Lib.join (l.map (·.data.toList)) [44, 32]).length ≤ _; omega)).mono ?_
    rintro e w2 ⟨rfl, hx⟩
    exact ⟨rfl, hx⟩
theorem named_at {S : List Tb} {x : Wt} {w : World} {A : Option Addr} (h : TbsAt w A S) :
    (namedW S x = false) ∨ ∃ (j : Nat) (b off : Nat) (Ac : Option Addr) (cc : Nat), namedW S x = true ∧ x.tb = (j : Int) ∧ j < S.length ∧ A = some ⟨b, off, none⟩ ∧ w.cell? ⟨b, off + j * 5, none⟩ = some (.string (tbOf S x).nm) ∧ w.cell? ⟨b, off + j * 5 + 1, none⟩ = some (.slice Ac x.row.length cc) ∧
      ∀ (i : Nat), i < x.row.length → ∃ b2 off2, Ac = some ⟨b2, off2, none⟩ ∧ w.cell? ⟨b2, off2 + i * 6, none⟩ = some (.string (((tbOf S x).cols[i]?).getD ⟨#[]⟩)) := by
  cases hn : namedW S x
  · exact .inl rfl
  · right
    unfold namedW at hn
    cases hs : S[x.tb.toNat]? with
    | none => rw [hs] at hn; cases hn
    | some t =>
      rw [hs] at hn
      simp only [Bool.and_eq_true, decide_eq_true_eq, beq_iff_eq] at hn
      obtain ⟨b, off, v, rfl, h1, h2, A2, c2, rfl, h3⟩ := h _ _ hs
      have ht : tbOf S x = t := by unfold tbOf; rw [hs]; rfl
      refine ⟨x.tb.toNat, b, off, A2, c2, rfl, (Int.toNat_of_nonneg hn.1).symm, (List.getElem?_eq_some_iff.1 hs).1, rfl, by rw [ht]; exact h1, by rw [← hn.2]; exact h2, fun i hi => ?_⟩
      rw [ht]
      have hi2 : i < t.cols.length := by omega
      rw [List.getElem?_eq_getElem hi2]
      obtain ⟨b2, off2, h4, h5⟩ := h3 i _ (List.getElem?_eq_getElem hi2)
      exact ⟨b2, off2, h4, h5⟩
end Go.Proofs.YtdjdhkbomhendaaGreatDoor
