/-
  What the rows over Format and Parse list: the table of the powers of ten, the two errors.
-/
import Derived.Test.YtkldgehnioapcaaDoorShape
import Derived.Test.YtkldgehnioapcaaDoorOpen
import Derived.Test.YtkldgehnioapcaaDoorRows
import Derived.Test.YtkldgehnioapcaaDoorW17
import Derived.MakeChecks
namespace Go.Proofs.YtkldgehnioapcaaDoor
open Go Go.RowKit Go.Stop
set_option maxRecDepth 100000

theorem tyTab : (Tryd.prog.globals[1]?).map (·.type) = some 96 := by kernel_rfl
theorem gSyn : Tryd.prog.globalNamed "strconv.ErrSyntax" = some 2 := by kernel_rfl
theorem gRng : Tryd.prog.globalNamed "strconv.ErrRange" = some 3 := by kernel_rfl
theorem tySyn : (Tryd.prog.globals[2]?).map (·.type) = some 58 := by kernel_rfl
theorem tyRng : (Tryd.prog.globals[3]?).map (·.type) = some 58 := by kernel_rfl
theorem starE : "*" ++ "errors.errorString" = "*errors.errorString" := by decide
theorem rowE (u : TypeId) (h : Tryd.prog.typeName? 3 u = some "*errors.errorString") : u = 115 :=
  typeName_ptr_named (nm := "errors.errorString") (by rw [starE]; kernel_rfl) (by kernel_rfl) (by decide) u (by rw [starE]; exact h)
theorem laid_both {x0 x1 x3 : String × DataW Unit} {r : List (String × DataW Unit)} {W : World}
    (h : laidMet Tryd.prog (x0 :: x1 :: ("internal/strconv.uint64pow10", Rows.laid_internal_strconv_uint64pow10) :: x3 :: ("strconv.ErrRange", Rows.laid_strconv_ErrRange) :: ("strconv.ErrSyntax", Rows.laid_strconv_ErrSyntax) :: r) W) : Tab W ∧ Er W := by
  have h2 := h.tail.tail
  have h4 := h2.tail.tail
  have h5 := h4.tail
  have htab : Lib.TabIs Tryd.prog W "internal/strconv.uint64pow10" .u64 Lib.pow10Tab := Lib.tabIs_of_head gTab tyTab Tryd.underlying96 Tryd.underlying64 (by kernel_rfl) (by kernel_rfl) h2
  obtain ⟨a3, s3, hv3, _, _, _⟩ := laid_sentinel h4 gRng tyRng Tryd.underlying58 rowE Tryd.underlying115 Tryd.underlying117 rfl rfl Tryd.underlying9 (by kernel_rfl) (by kernel_rfl)
  obtain ⟨a2, s2, hv2, _, _, _⟩ := laid_sentinel h5 gSyn tySyn Tryd.underlying58 rowE Tryd.underlying115 Tryd.underlying117 rfl rfl Tryd.underlying9 (by kernel_rfl) (by kernel_rfl)
  refine ⟨⟨htab, ?_⟩, ⟨115, _, by simpa using World.var?_cell gSyn hv2 0⟩, ⟨115, _, by simpa using World.var?_cell gRng hv3 0⟩⟩
  have := cell_lt (htab.cell gTab 0 (by decide))
  exact this
theorem laid_format {W : World} (h : laidMetH Tryd.prog Rows.valueFormatRow.laid W) : Tab W ∧ Er W := by
  rw [MakeChecks.laidMetH_plain _ _ _ (by kernel_rfl)] at h
  exact laid_both h
theorem laid_parse {W : World} (h : laidMetH Tryd.prog Rows.valueParseRow.laid W) : Tab W ∧ Er W := by
  rw [MakeChecks.laidMetH_plain _ _ _ (by kernel_rfl)] at h
  exact laid_both h
section
theorem open_vals2 {H : Type} {enc : TypeId × Value → H} {W : World} {held : Bool} {fuel n c : Nat} {A : Option Addr} {x : DataW H × List MemPlace}
    (hf : DataW.trod enc Tryd.prog W 0 (fun _ => true) held fuel 35 [.slice A n c] = some x) :
    ∃ ts : List Val, ValsAt W A ts ∧ ts.length = n ∧ n ≤ maxLen ∧ ∀ a ∈ ts, -9223372036854775808 ≤ a.n ∧ a.n ≤ 9223372036854775807 := by
  rcases open_slice_fields Tryd.underlying35 Tryd.underlying23 (by kernel_rfl) cells_of23 hf with ⟨h, _⟩ | ⟨a, len, cap, m, D, Pl, hcs, _, hl, hm, hmm, _, hi⟩
  · simp only [List.cons.injEq, Value.slice.injEq, and_true] at h
    obtain ⟨rfl, rfl, rfl⟩ := h
    exact ⟨[], fun i t ht => by simp at ht, rfl, Nat.zero_le _, fun a ha => by simp at ha⟩
  · simp only [List.cons.injEq, Value.slice.injEq, and_true] at hcs
    obtain ⟨rfl, rfl, rfl⟩ := hcs
    have hmn : n ≤ m := by rw [hmm]; split <;> omega
    have h2 : ∀ i, ∃ t : Val, i < n → (-9223372036854775808 ≤ t.n ∧ t.n ≤ 9223372036854775807) ∧ W.cell? (a.add (i * 3 + 0)) = some (.int .i64 t.k) ∧ W.cell? (a.add (i * 3 + 1)) = some (.int .i64 t.n) ∧
        W.cell? (a.add (i * 3 + 2)) = some (.string t.t) := fun i => by
      by_cases hlt : i < n
      · obtain ⟨ys, k, _, _, _, hfd⟩ := hi i (by omega)
        obtain ⟨v0, y0, c0, _, h0⟩ := hfd 0 _ rfl
        obtain ⟨v1, y1, c1, _, h1⟩ := hfd 1 _ rfl
        obtain ⟨v2, y2, c2, _, h2⟩ := hfd 2 _ rfl
        obtain ⟨a0, e0, _⟩ := DataW.trod_int Tryd.underlying3 h0
        obtain ⟨a1, e1, _, w1⟩ := DataW.trod_int Tryd.underlying2 h1
        obtain ⟨a2, e2, _⟩ := DataW.trod_string Tryd.underlying9 h2
        simp only [List.cons.injEq, and_true] at e0 e1 e2
        subst e0 e1 e2
        exact ⟨⟨a0, a1, a2⟩, fun _ => ⟨bounds_i64 w1, c0, c1, c2⟩⟩
      · exact ⟨⟨0, 0, ⟨#[]⟩⟩, fun h => absurd h hlt⟩
    obtain ⟨f, hfs⟩ := Classical.axiomOfChoice h2
    refine ⟨(List.range n).map f, fun i t ht => ?_, by simp, by omega, fun a ha => by
      obtain ⟨i, hi, rfl⟩ := List.mem_map.1 ha
      exact (hfs i (List.mem_range.1 hi)).1⟩
    rw [List.getElem?_map] at ht
    have hlt : i < n := by
      by_cases h : i < n
      · exact h
      · rw [List.getElem?_eq_none (by simp; omega)] at ht; cases ht
    rw [List.getElem?_range hlt] at ht
    simp only [Option.map_some, Option.some.injEq] at ht
    subst ht
    obtain ⟨_, k0, k1, k2⟩ := hfs i hlt
    have hsp : a.spot = none := by
      obtain ⟨_, k0, _⟩ := hfs 0 (by omega)
      have e0 : a.add (0 * 3 + 0) = a := by simp [Addr.add]
      rw [e0] at k0
      exact spot_none k0
    obtain ⟨b, off, sp⟩ := a
    dsimp only at hsp
    subst hsp
    have hadd : ∀ j, (⟨b, off, none⟩ : Addr).add j = ⟨b, off + j, none⟩ := fun j => by unfold Addr.add; split <;> simp_all
    rw [hadd] at k0 k1 k2
    exact ⟨b, off, rfl, by simpa using k0, by simpa [Nat.add_assoc] using k1, by simpa [Nat.add_assoc] using k2⟩

end
end Go.Proofs.YtkldgehnioapcaaDoor
