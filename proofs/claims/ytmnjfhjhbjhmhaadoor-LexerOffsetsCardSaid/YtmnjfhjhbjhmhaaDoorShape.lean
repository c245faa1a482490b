/-
  The wrap of a row that lists variables, the world's shape kept; what the library's variables hold.
-/
import Derived.Handed
import Derived.SizedLaws
import Derived.Shelf.Vars
import Derived.Stop.LaidErr
import Derived.Lib.LaidTab
import Derived.LaidMore
import Derived.Stop.Joined
import Derived.Test.YtmnjfhjhbjhmhaaDoorW21
import Derived.Test.YtmnjfhjhbjhmhaaDoorRows
import Derived.MakeChecks
namespace Go.Proofs.YtmnjfhjhbjhmhaaDoor
open Go Go.RowKit Go.Stop
set_option maxRecDepth 100000

section
variable {H : Type} {enc : TypeId × Value → H}
theorem handed_and {a : Assume} {C : Checked} {os : Os} {f : FuncId} {fn : Func} {s : ChangeSpec} {conds : List PathCond} {apart fresh handsOn again : Bool} {X : World → Array Value → Prop}
    (hX : ∀ (w w' : World) (args : Array Value), w.heap = w'.heap → X w args → X w' args)
    (own : ownKnob C.prog.godebug = none) (started : os.Started) (noInit : C.prog.inits.idxOf? f = none) (hfn : C.prog.funcs[f]? = some fn)
    (witness : ∃ (w : World) (tape : Tape) (i : Input), w.os = os ∧ (w.forCall tape i).Shaped C.prog ∧ i.vars = [] ∧ Input.okWide C.prog (w.forCall tape i) .any w.heap.size f i ∧
      ((s.pre enc C.prog fn conds apart (w.forCall tape i).memory i.args ∧ X (w.forCall tape i).memory i.args) ∧ sizedMet enc C.prog fn (OpenSpec.ofChange s) apart (w.forCall tape i).memory i.args) ∧ a.holds C.prog (lone (Frame.enter C.prog f i.args .normal) [] (w.forCall tape i)))
    (contract : ∀ (W : World) (base : Nat) (args : Array Value) (ds gs : List (DataW H)) (before : List MemPlace),
      (∀ (j : Nat) t v, fn.params[j]? = some t → args[j]? = some v → Value.okWide C.prog W .any base t v) →
      DataW.Whole enc C.prog fn.params.toList s.vars apart W args.toList ds gs before →
      conds.all (PathCond.test C.prog ⟨fn.params.toList, ds, s.plain.varTypes C.prog, gs⟩) = true →
      (DataW.weightsEach C.prog (fn.params.toList ++ s.plain.varTypes C.prog) (ds ++ gs)).all (· ≤ reachBytes) = true → X W args → W.ShapedOpen C.prog →
      a.holds C.prog (lone (Frame.enter C.prog f args .normal) [] W) →
      Calls C.prog f args W fun e W' => ∃ v, e = .returned v ∧ s.post enc C.prog fn apart fresh handsOn again W args v W') :
    ReturnsInHanded a C os f .any (fun w args => (s.pre enc C.prog fn conds apart w args ∧ X w args) ∧ sizedMet enc C.prog fn (OpenSpec.ofChange s) apart w args) (s.post enc C.prog fn apart fresh handsOn again) := by
  refine returnsInHanded_of_calls own started noInit witness ?_
  intro w tape i _ hsh _ hok hpre hholds
  obtain ⟨_, _, _, fn', hfn', _, _, _, _, hval⟩ := hok
  have e : fn' = fn := Option.some.inj (hfn'.symm.trans hfn)
  subst e
  obtain ⟨⟨⟨ds, gs, before, hw, hc⟩, hx⟩, hz⟩ := hpre
  have hw' := DataW.Whole.of_heap (w' := w.forCall tape i) (by rfl) hw
  refine (contract (w.forCall tape i) w.heap.size i.args ds gs before hval hw' hc (hz.weights hw) (hX _ _ _ (by rfl) hx) hsh hholds).mono fun e W' ⟨v, he, hp⟩ => ?_
  subst he
  exact ChangeSpec.post_blind hp
end

theorem sh_of {W : World} (h : W.ShapedOpen Tryd.prog) : Sh W :=
  cell_of_shapedOpen_int (g := 1) (t := 3) (zero := #[.int .i64 0]) h (by decide) (by kernel_rfl) rfl (by kernel_rfl) (by kernel_rfl) Tryd.underlying3

theorem gKw : Tryd.prog.globalNamed "disjoint/lexer.keywords" = some 0 := by kernel_rfl
theorem tyKw : (Tryd.prog.globals[0]?).map (·.type) = some 53 := by kernel_rfl
def kwData {H : Type} : List (DataW H) := kwNames.map fun l => .lit (.string l)
theorem kwData_eq {H : Type} : (Rows.laid_disjoint_lexer_keywords : DataW H) = .slice kwData [] := rfl
theorem spot_none {w : World} {a : Addr} {v : Value} (h : w.cell? a = some v) : a.spot = none := by
  unfold World.cell? at h
  split at h
  · split at h
    · cases h
    · rename_i hs
      cases hsp : a.spot
      · rfl
      · rw [hsp] at hs; simp at hs
  · cases h
theorem kw_of {x0 : String × DataW Unit} {r : List (String × DataW Unit)} {W : World} (h : laidMet Tryd.prog (x0 :: ("disjoint/lexer.keywords", Rows.laid_disjoint_lexer_keywords) :: r) W) : KwAt W := by
  obtain ⟨ps, ⟨g', t', cs, fuel, p, q, hg', ht', hvar, hd, _, _⟩, _⟩ := h.tail
  obtain rfl := Option.some.inj (gKw.symm.trans hg')
  obtain rfl := Option.some.inj (tyKw.symm.trans ht')
  rw [kwData_eq] at hd
  obtain ⟨a, cap, hcs, _, hel⟩ := open_row Tryd.underlying53 (by kernel_rfl) hd
  have hl : ((kwData : List (DataW Unit))).length = 47 := rfl
  have hcell : ∀ j, j < 47 → W.cell? (a.add j) = some (.string (kwStr j)) := by
    intro j hj
    have hkd : (kwData : List (DataW Unit))[j]? = some (.lit (.string (kwAt j))) := by
      unfold kwData kwAt
      rw [List.getElem?_map, List.getD_eq_getElem?_getD, List.getElem?_eq_getElem (show j < kwNames.length from hj)]
      rfl
    obtain ⟨v, n, q2, hc, ht⟩ := hel j _ hkd
    obtain ⟨s, e1, e2, _⟩ := DataW.trod_string Tryd.underlying9 ht
    simp only [List.cons.injEq, and_true] at e1
    subst e1
    rw [hc]
    have e3 : s.data.toList = kwAt j := by
      have := congrArg Prod.fst e2
      simp only [DataW.lit.injEq, Lit.string.injEq] at this
      exact this.symm
    congr 2
    unfold kwStr
    rw [← e3]
  obtain ⟨b, off, sp⟩ := a
  have hsp : sp = none := by
    have h0 := hcell 0 (by decide)
    have := spot_none h0
    unfold Addr.add at this
    cases sp with
    | none => rfl
    | some x => simp at this
  subst hsp
  refine ⟨b, off, cap, ?_, fun j hj => ?_⟩
  · have h1 := World.var?_cell gKw hvar 0
    rw [h1]
    have h2 : cs = #[Value.slice (some ⟨b, off, none⟩) 47 cap] := by
      apply Array.toList_inj.1
      rw [hcs, hl]
    rw [h2]
    rfl
  · have := hcell j hj
    have hadd : (⟨b, off, none⟩ : Addr).add j = ⟨b, off + j, none⟩ := by unfold Addr.add; split <;> simp_all
    rwa [hadd] at this
theorem laid_kw {W : World} (h : laidMetH Tryd.prog Rows.lexerTokensRow.laid W) : KwAt W := by
  rw [MakeChecks.laidMetH_plain _ _ _ (by kernel_rfl)] at h
  exact kw_of h
end Go.Proofs.YtmnjfhjhbjhmhaaDoor
