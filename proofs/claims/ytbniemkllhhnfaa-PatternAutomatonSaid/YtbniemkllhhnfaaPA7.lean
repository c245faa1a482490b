/-
  A map from numbers to their places in a list.
-/
import Derived.Test.YtbniemkllhhnfaaPA6
import Derived.Maps.OwnSet
namespace Go.Proofs.Ytbniemkllhhnfaa
open Go.RowKit
set_option linter.unusedVariables false
set_option linter.unusedSimpArgs false
set_option maxHeartbeats 1000000
set_option maxRecDepth 100000

/-- the map holds the place of each state -/
def NumMap (w : World) (P : Program) (k e : TypeId) (M n : Nat) (sts : List Nat) : Prop :=
  ∃ D : DataW Unit, w.ownsMap P k (plainElem P e) M n D ∧ Maps.IsMap D ∧ (∀ s : Nat, Maps.has D (.int .u32 s) = decide (s ∈ sts)) ∧ ∀ (i s : Nat), sts[i]? = some s → D.atKey (.int .u32 s) (.lit (.int .i64 0)) = .lit (.int .i64 i)
section
variable {P : Program} {w w' : World} {k e M n : Nat} {sts : List Nat}
theorem NumMap.made (w : World) (P : Program) (k e : TypeId) : NumMap (w.alloc (.map #[] 0)) P k e w.heap.size 0 [] :=
  ⟨_, World.ownsMap_made w P k _, Maps.isMap_empty, fun s => by simp [Maps.has], by simp⟩
theorem NumMap.lt (h : NumMap w P k e M n sts) : M < w.heap.size := by
  obtain ⟨D, h, _⟩ := h
  exact h.lt
theorem NumMap.kept (h : NumMap w P k e M n sts) {row : Option Nat} (hg : w.grownBy w' row) (hne : some M ≠ row) : NumMap w' P k e M n sts := by
  obtain ⟨D, h, h2⟩ := h
  exact ⟨D, h.kept hg hne, h2⟩
theorem NumMap.ext (h : NumMap w P k e M n sts) (hx : Ext w w') : NumMap w' P k e M n sts :=
  h.kept (row := none) ⟨Below.os hx, Below.tape hx, Below.output hx, Below.size hx, fun i hi _ => Below.block hx i hi⟩ (by simp)
theorem NumMap.far (h : NumMap w P k e M n sts) {p : Addr} (hp : M ≠ p.block) (u : Value) : NumMap (w.setCell p u) P k e M n sts :=
  h.kept (row := some p.block) ⟨rfl, rfl, rfl, by simp [World.setCell], fun i _ hi => Below.heap_setCell w p u i (fun e => hi (by rw [e]))⟩ (by simpa using hp)
theorem u32_wf {s : Nat} (hs : s < 4294967296) : (Lit.int .u32 (s : Int)).wf = true := by
  simp [Lit.wf, IntKind.min, IntKind.max, IntKind.signed, IntKind.bits]
  try omega
theorem i64_wf {s : Nat} (hs : s < 4294967296) : (Lit.int .i64 (s : Int)).wf = true := by
  simp [Lit.wf, IntKind.min, IntKind.max, IntKind.signed, IntKind.bits]
  try omega
theorem NumMap.look (h : NumMap w P k e M n sts) {t : TypeId} (hk : P.underlying k = some (.int .u32)) (ht : P.underlying t = some (.map k e)) (he : P.underlying e = some (.int .i64)) (hz : (zeroValue e).run P w = .ok (.int .i64 0) w)
    (s : Nat) (hs : s < 4294967296) : ∃ c : Int, (Instr.lookup t (.map (some M)) (.int .u32 s) true).run P w = .ok (.tuple #[.int .i64 c, .bool (decide (s ∈ sts))]) w ∧ ∀ i : Nat, sts[i]? = some s → c = (i : Int) := by
  obtain ⟨D, h, hI, h1, h2⟩ := h
  obtain ⟨v, ps, hrun, hv⟩ := h.look_ok (Maps.int_keyed hk) ht hz (plainElem_int he (a := 0) (by decide)) (Maps.keyOf_int_mk hk (u32_wf hs))
  obtain ⟨c, rfl, hc, _⟩ := plainElem_int_inv he hv
  refine ⟨c, by rw [hrun, h1 s], fun i hi => ?_⟩
  have := h2 i s hi
  have hc2 := congrArg Prod.fst hc
  simp only at hc2
  rw [this] at hc2
  simpa using hc2.symm
theorem NumMap.add (h : NumMap w P k e M n sts) {t : TypeId} (hk : P.underlying k = some (.int .u32)) (ht : P.underlying t = some (.map k e)) (he : P.underlying e = some (.int .i64)) (hn : n < maxLen)
    (s : Nat) (hs : s < 4294967296) (hl : sts.length < 4294967296) (hno : s ∉ sts) : ∃ w', (Instr.mapUpdate t (.map (some M)) (.int .u32 s) (.int .i64 sts.length)).run P w = .ok () w' ∧ NumMap w' P k e M (n + 1) (sts ++ [s]) ∧ w.grownBy w' (some M) := by
  obtain ⟨D, h, hI, h1, h2⟩ := h
  obtain ⟨w', hrun, h', hg⟩ := h.update (Maps.int_keyed hk) ht hn (Maps.keyOf_int_mk hk (u32_wf hs)) (plainElem_int he (i64_wf hl))
  refine ⟨w', hrun, ⟨_, h', hI.put _ _, fun x => ?_, fun i x hx => ?_⟩, hg⟩
  · by_cases hx : x = s
    · subst hx
      rw [Maps.has_put_same hI (by simp [WideAt.IsKeyLit])]
      simp
    · rw [Maps.has_put_other (by simp; omega), h1]
      simp [hx]
  · by_cases hi : i < sts.length
    · rw [List.getElem?_append_left hi] at hx
      have hm : x ∈ sts := List.mem_of_getElem? hx
      rw [Maps.atKey_put_other (by
        intro he
        have : x = s := by
          have he2 : (x : Int) = (s : Int) := by simpa using he
          omega
        exact hno (this ▸ hm)), h2 i x hx]
    · have hl := (List.getElem?_eq_some_iff.1 hx).1
      rw [List.length_append, List.length_singleton] at hl
      obtain rfl : i = sts.length := by omega
      simp at hx
      subst hx
      rw [Maps.atKey_put_same hI (by simp [WideAt.IsKeyLit])]
end
section
variable {P : Program} {w : World} {k e M n : Nat} {sts : List Nat} {ops : Array Oper} {rest : List Oper} {o : Oper} {a : Act} {Q : Exit → Act → World → Prop}
/-- 'v, ok := m[s]' at the operation -/
theorem wpList_nlook (hg : o.guard = none) (m x : Operand) (t : TypeId) (hop : o.op = Op.lookup t m x true)
    (hk : P.underlying k = some (.int .u32)) (ht : P.underlying t = some (.map k e)) (he : P.underlying e = some (.int .i64)) (hz : (zeroValue e).run P w = .ok (.int .i64 0) w)
    (hm : a.eval m = .map (some M)) (h : NumMap w P k e M n sts) (s : Nat) (hs : s < 4294967296) (hx : a.eval x = .int .u32 s)
    (hK : ∀ c : Int, (∀ i : Nat, sts[i]? = some s → c = (i : Int)) → wpList P ops Q rest (a.put o.dst (.tuple #[.int .i64 c, .bool (decide (s ∈ sts))])) w) :
    wpList P ops Q (o :: rest) a w := by
  refine wpList_plain hg fun K' hK' => ?_
  obtain ⟨c, hrun, hc⟩ := h.look hk ht he hz s hs
  unfold Oper.wp
  simp [execOp, hop, hm, hx, hrun, Result.andThen]
  exact hK' _ _ (hK c hc)
/-- 'm[s] = len' at the operation -/
theorem wpList_nput (hg : o.guard = none) (m x v : Operand) (t : TypeId) (hop : o.op = Op.mapUpdate t m x v)
    (hk : P.underlying k = some (.int .u32)) (ht : P.underlying t = some (.map k e)) (he : P.underlying e = some (.int .i64))
    (hm : a.eval m = .map (some M)) (h : NumMap w P k e M n sts) (hn : n < maxLen) (s : Nat) (hs : s < 4294967296) (hl : sts.length < 4294967296) (hno : s ∉ sts) (hx : a.eval x = .int .u32 s) (hv : a.eval v = .int .i64 sts.length)
    (hK : ∀ w', NumMap w' P k e M (n + 1) (sts ++ [s]) → w.grownBy w' (some M) → wpList P ops Q rest (a.put o.dst undef) w') :
    wpList P ops Q (o :: rest) a w := by
  refine wpList_plain hg fun K' hK' => ?_
  obtain ⟨w', hrun, r1, r2⟩ := h.add hk ht he hn s hs hl hno
  unfold Oper.wp
  simp [execOp, hop, hm, hx, hv, hrun, Result.andThen]
  exact hK' _ _ (hK w' r1 r2)
theorem wpList_nins (hg : o.guard = none) (m x v : Operand) (t : TypeId) (hop : o.op = Op.insert t m x v)
    (hk : P.underlying k = some (.int .u32)) (ht : P.underlying t = some (.map k e)) (he : P.underlying e = some (.int .i64))
    (hm : a.eval m = .map (some M)) (h : NumMap w P k e M n sts) (hn : n < maxLen) (s : Nat) (hs : s < 4294967296) (hl : sts.length < 4294967296) (hno : s ∉ sts) (hx : a.eval x = .int .u32 s) (hv : a.eval v = .int .i64 sts.length)
    (hK : ∀ w', NumMap w' P k e M (n + 1) (sts ++ [s]) → w.grownBy w' (some M) → wpList P ops Q rest (a.put o.dst undef) w') :
    wpList P ops Q (o :: rest) a w := by
  refine wpList_plain hg fun K' hK' => ?_
  obtain ⟨w', hrun, r1, r2⟩ := h.add hk ht he hn s hs hl hno
  unfold Oper.wp
  simp [execOp, hop, hm, hx, hv, hrun, Result.andThen]
  exact hK' _ _ (hK w' r1 r2)
end
end Go.Proofs.Ytbniemkllhhnfaa
