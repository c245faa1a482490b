/-
  The wrap of a row that lists variables, the world's shape kept; what the library's variables hold. · Opening an argument of events. · Opening an argument of names. · All that the rows reach.
-/
import Derived.Handed
import Derived.SizedLaws
import Derived.Shelf.Vars
import Derived.Stop.LaidErr
import Derived.Lib.LaidTab
import Derived.LaidMore
import Derived.Stop.Joined
import Derived.MakeChecks
import Derived.Test.YtdjdhkbomhendaaGreatDoorHW49z
import Derived.Test.YtdjdhkbomhendaaGreatDoorRows
import Derived.Deep.Slices
import Derived.Deep.Fields
import Derived.ChangeSame
import Derived.ProofKit
import Derived.OpenShut
import Derived.ShutString
import Derived.Lib.SmallJoins
import Derived.Test.YtdjdhkbomhendaaGreatDoorHW51z
namespace Go.Proofs.YtdjdhkbomhendaaGreatDoor
open Go Go.RowKit Go.Stop
set_option maxRecDepth 100000

section
variable {H : Type} {enc : TypeId × Value → H}
theorem handed_and {a : Assume} {C : Checked} {os : Os} {f : FuncId} {fn : Func} {s : ChangeSpec} {conds : List PathCond} {apart fresh handsOn again : Bool} {X : World → Array Value → Prop}
    (hX : ∀ (w w' : World) (args : Array Value), w.heap = w'.heap → X w args → X w' args)
    (own : ownKnob C.prog.godebug = none) (started : os.Started) (noInit : C.prog.inits.idxOf? f = none) (hfn : C.prog.funcs[f]? = some fn)
    (witness : ∃ (w : World) (tape : Tape) (i : Input), w.os = os ∧ (w.forCall tape i).Shaped C.prog ∧ i.vars = [] ∧ Input.okWide C.prog (w.forCall tape i) .any w.heap.size f i ∧
      ((s.pre enc C.prog fn conds apart (w.forCall tape i).memory i.args ∧ X (w.forCall tape i).memory i.args) ∧ sizedMet enc C.prog fn (OpenSpec.ofChange s) apart (w.forCall tape i).memory i.args) ∧ a.holds C.prog (lone (Frame.enter C.prog f i.args .normal) [] (w.forCall tape i)))
    (contract : ∀ (W : World) (base : Nat) (args : Array Value) (ds gs : List (DataW H)) (before : List MemPlace),
      (∀ (j : Nat) t v, fn.params[j]? = some t → args[j]? = some v → Value.okWide C.prog W .any base t v) →
      DataW.Whole enc C.prog fn.params.toList s.vars apart W args.toList ds gs before →
      conds.all (PathCond.test C.prog ⟨fn.params.toList, ds, s.plain.varTypes C.prog, gs⟩) = true →
      (DataW.weightsEach C.prog (fn.params.toList ++ s.plain.varTypes C.prog) (ds ++ gs)).all (· ≤ reachBytes) = true → X W args → W.ShapedOpen C.prog →
      a.holds C.prog (lone (Frame.enter C.prog f args .normal) [] W) →
      Calls C.prog f args W fun e W' => ∃ v, e = .returned v ∧ s.post enc C.prog fn apart fresh handsOn again W args v W') :
    ReturnsInHanded a C os f .any (fun w args => (s.pre enc C.prog fn conds apart w args ∧ X w args) ∧ sizedMet enc C.prog fn (OpenSpec.ofChange s) apart w args) (s.post enc C.prog fn apart fresh handsOn again) := by
  refine returnsInHanded_of_calls own started noInit witness ?_
  intro w tape i _ hsh _ hok hpre hholds
  obtain ⟨_, _, _, fn', hfn', _, _, _, _, hval⟩ := hok
  have e : fn' = fn := Option.some.inj (hfn'.symm.trans hfn)
  subst e
  obtain ⟨⟨⟨ds, gs, before, hw, hc⟩, hx⟩, hz⟩ := hpre
  have hw' := DataW.Whole.of_heap (w' := w.forCall tape i) (by rfl) hw
  refine (contract (w.forCall tape i) w.heap.size i.args ds gs before hval hw' hc (hz.weights hw) (hX _ _ _ (by rfl) hx) hsh hholds).mono fun e W' ⟨v, he, hp⟩ => ?_
  subst he
  exact ChangeSpec.post_blind hp
end

theorem sh_of {W : World} (h : W.ShapedOpen Tryz.prog) : Sh W :=
  cell_of_shapedOpen_int (g := 0) (t := 3) (zero := #[.int .i64 0]) h (by decide) (by kernel_rfl) rfl (by kernel_rfl) (by kernel_rfl) Tryz.underlying3
theorem tyTab : (Tryz.prog.globals[1]?).map (·.type) = some 154 := by kernel_rfl
theorem gSyn : Tryz.prog.globalNamed "strconv.ErrSyntax" = some 2 := by kernel_rfl
theorem gRng : Tryz.prog.globalNamed "strconv.ErrRange" = some 3 := by kernel_rfl
theorem tySyn : (Tryz.prog.globals[2]?).map (·.type) = some 69 := by kernel_rfl
theorem tyRng : (Tryz.prog.globals[3]?).map (·.type) = some 69 := by kernel_rfl
theorem starE : "*" ++ "errors.errorString" = "*errors.errorString" := by decide
theorem rowE (u : TypeId) (h : Tryz.prog.typeName? 3 u = some "*errors.errorString") : u = 181 :=
  typeName_ptr_named (nm := "errors.errorString") (by rw [starE]; kernel_rfl) (by kernel_rfl) (by decide) u (by rw [starE]; exact h)
theorem laid_both {x0 x1 x3 : String × DataW Unit} {r : List (String × DataW Unit)} {W : World}
    (h : laidMet Tryz.prog (x0 :: x1 :: ("internal/strconv.uint64pow10", Rows.laid_internal_strconv_uint64pow10) :: x3 :: ("strconv.ErrRange", Rows.laid_strconv_ErrRange) :: ("strconv.ErrSyntax", Rows.laid_strconv_ErrSyntax) :: r) W) : Tab W ∧ Er W := by
  have h2 := h.tail.tail
  have h4 := h2.tail.tail
  have h5 := h4.tail
  have htab : Lib.TabIs Tryz.prog W "internal/strconv.uint64pow10" .u64 Lib.pow10Tab := Lib.tabIs_of_head gTab tyTab Tryz.underlying154 Tryz.underlying134 (by kernel_rfl) (by kernel_rfl) h2
  obtain ⟨a3, s3, hv3, _, _, _⟩ := laid_sentinel h4 gRng tyRng Tryz.underlying69 rowE Tryz.underlying181 Tryz.underlying183 rfl rfl Tryz.underlying9 (by kernel_rfl) (by kernel_rfl)
  obtain ⟨a2, s2, hv2, _, _, _⟩ := laid_sentinel h5 gSyn tySyn Tryz.underlying69 rowE Tryz.underlying181 Tryz.underlying183 rfl rfl Tryz.underlying9 (by kernel_rfl) (by kernel_rfl)
  refine ⟨⟨htab, ?_⟩, ⟨181, _, by simpa using World.var?_cell gSyn hv2 0⟩, ⟨181, _, by simpa using World.var?_cell gRng hv3 0⟩⟩
  have := cell_lt (htab.cell gTab 0 (by decide))
  exact this
theorem gd_of {x0 x1 x3 : String × DataW Unit} {r : List (String × DataW Unit)} {W : World} (h : laidMetH Tryz.prog (x0 :: x1 :: ("internal/strconv.uint64pow10", Rows.laid_internal_strconv_uint64pow10) :: x3 :: ("strconv.ErrRange", Rows.laid_strconv_ErrRange) :: ("strconv.ErrSyntax", Rows.laid_strconv_ErrSyntax) :: r) W)
    (hp : laidMetH Tryz.prog (x0 :: x1 :: ("internal/strconv.uint64pow10", Rows.laid_internal_strconv_uint64pow10) :: x3 :: ("strconv.ErrRange", Rows.laid_strconv_ErrRange) :: ("strconv.ErrSyntax", Rows.laid_strconv_ErrSyntax) :: r) W = laidMet Tryz.prog (x0 :: x1 :: ("internal/strconv.uint64pow10", Rows.laid_internal_strconv_uint64pow10) :: x3 :: ("strconv.ErrRange", Rows.laid_strconv_ErrRange) :: ("strconv.ErrSyntax", Rows.laid_strconv_ErrSyntax) :: r) W) (hs : W.ShapedOpen Tryz.prog) : GdH W := ⟨sh_of hs, (laid_both (hp ▸ h)).1, (laid_both (hp ▸ h)).2⟩
end Go.Proofs.YtdjdhkbomhendaaGreatDoor
namespace Go.Proofs.YtdjdhkbomhendaaGreatDoor
open Go.ChangeShapes Go.WideShapes Go.Deep Go.RowKit
set_option maxHeartbeats 1000000
set_option maxRecDepth 10000
set_option linter.unusedVariables false
set_option linter.unusedSimpArgs false

theorem cell_spot {w : World} {a : Addr} {v : Value} (k0 : w.cell? a = some v) : a.spot = none := by
  unfold World.cell? at k0
  split at k0
  · split at k0
    · cases k0
    · rename_i h; simpa using h
  · cases k0
theorem some_at {α : Type} {l : List α} {i n : Nat} (h : l.length = n) (hi : i < n) : ∃ x, l[i]? = some x := ⟨l[i]'(by omega), List.getElem?_eq_getElem (by omega)⟩
theorem lst3 {α : Type} {l : List α} (h : l.length = 3) : ∃ c0 c1 c2, l = [c0, c1, c2] := by
  match l, h with
  | [c0, c1, c2], _ => exact ⟨c0, c1, c2, rfl⟩
theorem lst8 {α : Type} {l : List α} (h : l.length = 8) : ∃ c0 c1 c2 c3 c4 c5 c6 c7, l = [c0, c1, c2, c3, c4, c5, c6, c7] := by
  match l, h with
  | [c0, c1, c2, c3, c4, c5, c6, c7], _ => exact ⟨c0, c1, c2, c3, c4, c5, c6, c7, rfl⟩
theorem cl_int : Tryz.prog.cellsOf 3 = 1 := by kernel_rfl
theorem cl_int64 : Tryz.prog.cellsOf 2 = 1 := by kernel_rfl
theorem cl_str : Tryz.prog.cellsOf 9 = 1 := by kernel_rfl
theorem cl_errno : Tryz.prog.cellsOf 25 = 1 := by kernel_rfl
theorem cl_row : Tryz.prog.cellsOf 60 = 1 := by kernel_rfl
theorem cl_rows : Tryz.prog.cellsOf 33 = 1 := by kernel_rfl
theorem cl_wts : Tryz.prog.cellsOf 34 = 1 := by kernel_rfl
theorem rangeA_at {α : Type} {f : Nat → α} {len i : Nat} {e : α} (he : ((List.range len).map f)[i]? = some e) : i < len ∧ e = f i := by
  rw [List.getElem?_map] at he
  have hlt : i < len := by
    by_cases h : i < len
    · exact h
    · rw [List.getElem?_eq_none (by simp; omega)] at he; cases he
  rw [List.getElem?_range hlt] at he
  simp only [Option.map_some, Option.some.injEq] at he
  exact ⟨hlt, he.symm⟩
section
variable {H : Type} {enc : TypeId × Value → H} {w : World} {spare : Nat → Bool} {held : Bool} {base : Nat}
/-- a slice, opened: its elements by an opener of their type -/
theorem open_slice {α : Type} [Inhabited α] {T E : TypeId} {sz : Nat} (hT : Tryz.prog.underlying T = some (.slice E)) (hE : Tryz.prog.cellsOf E = sz) (hsz : 0 < sz) (P : α → List Value → Prop)
    (hel : ∀ (fuel : Nat) (cs : List Value) (x : DataW H × List MemPlace), DataW.trod enc Tryz.prog w base spare held fuel E cs = some x → ∃ a, P a cs)
    {fuel : Nat} {v : Value} {x : DataW H × List MemPlace} (h : DataW.trod enc Tryz.prog w base spare held fuel T [v] = some x) :
    ∃ (l : List α) (A : Option Addr) (n c : Nat), v = .slice A n c ∧ l.length = n ∧ n ≤ 9223372036854775807 ∧
      (∀ (i : Nat) (a : α), l[i]? = some a → ∃ cs b off, P a cs ∧ A = some ⟨b, off, none⟩ ∧ ∀ (j : Nat) (u : Value), cs[j]? = some u → w.cell? ⟨b, off + i * sz + j, none⟩ = some u) ∧ ∀ a ∈ l, ∃ cs, P a cs := by
  rcases DataW.trod_slice hT h with ⟨h7, _⟩ | ⟨a, len, cap, elems, rest, m, rfl, h7, hy, _, hl, hm, hlen, hel', _, _⟩
  · simp only [List.cons.injEq, and_true] at h7
    subst h7
    exact ⟨[], none, 0, 0, rfl, rfl, Nat.zero_le _, fun i a ha => by simp at ha, fun a ha => by simp at ha⟩
  · simp only [List.cons.injEq, and_true] at h7
    subst h7
    have hk : ∀ i, ∃ e : α, i < len → ∃ cs', (∀ j, j < sz → w.cell? ((a.add (i * sz)).add j) = cs'[j]?) ∧ cs'.length = sz ∧ P e cs' := by
      intro i
      by_cases hi : i < len
      · have he := hel' i hi
        obtain ⟨z, hz⟩ := some_at hlen hi
        rw [hz, hE, Option.bind_eq_some_iff] at he
        obtain ⟨cs', hc, ht⟩ := he
        obtain ⟨_, hcl, hat⟩ := World.cells?_some hc
        obtain ⟨e, hP⟩ := hel m cs' z ht
        exact ⟨e, fun _ => ⟨cs', hat, hcl, hP⟩⟩
      · exact ⟨default, fun h => absurd h hi⟩
    obtain ⟨f, hfs⟩ := Classical.axiomOfChoice hk
    refine ⟨(List.range len).map f, some a, len, cap, rfl, by simp, by unfold maxLen at hm; omega, ?_, ?_⟩
    · intro i e he
      obtain ⟨hlt, rfl⟩ := rangeA_at he
      obtain ⟨cs', hat, hcl, hP⟩ := hfs i hlt
      have hsp : a.spot = none := by
        obtain ⟨cs0, hat0, hcl0, _⟩ := hfs 0 (by omega)
        have k0 := hat0 0 hsz
        have e0 : (a.add (0 * sz)).add 0 = a := by simp [Addr.add]
        rw [e0, List.getElem?_eq_getElem (by omega)] at k0
        exact cell_spot k0
      obtain ⟨b, off, sp⟩ := a
      dsimp only at hsp
      subst hsp
      have hadd : ∀ (o j : Nat), (⟨b, o, none⟩ : Addr).add j = ⟨b, o + j, none⟩ := fun o j => by unfold Addr.add; split <;> simp_all
      refine ⟨cs', b, off, hP, rfl, fun j u hu => ?_⟩
      have hj : j < sz := by have := (List.getElem?_eq_some_iff.1 hu).1; omega
      have := hat j hj
      rw [hadd, hadd, hu] at this
      exact this
    · intro e he
      obtain ⟨i, hi⟩ := List.getElem?_of_mem he
      obtain ⟨hlt, rfl⟩ := rangeA_at hi
      obtain ⟨cs', _, _, hP⟩ := hfs i hlt
      exact ⟨cs', hP⟩
instance : Inhabited Val := ⟨⟨0, 0, ⟨#[]⟩⟩⟩
instance : Inhabited Wt := ⟨⟨0, 0, []⟩⟩
instance : Inhabited Ev := ⟨⟨0, 0, 0, 0, 0, 0, [], []⟩⟩
theorem one_cell {T E : TypeId} {fuel : Nat} {cs : List Value} {x : DataW H × List MemPlace} (hT : Tryz.prog.underlying T = some (.slice E)) (h : DataW.trod enc Tryz.prog w base spare held fuel T cs = some x) : ∃ v, cs = [v] := by
  rcases DataW.trod_slice hT h with ⟨h7, _⟩ | ⟨a, len, cap, elems, rest, m, rfl, h7, _⟩
  · exact ⟨_, h7⟩
  · exact ⟨_, h7⟩
theorem open_val {fuel : Nat} {cs : List Value} {x : DataW H × List MemPlace} (h : DataW.trod enc Tryz.prog w base spare held fuel 88 cs = some x) :
    ∃ a : Val, cs = [.int .i64 a.k, .int .i64 a.n, .string a.t] ∧ i64 a.n := by
  obtain ⟨xs, n, rfl, hxx, hl, hxl, hf⟩ := DataW.trod_struct Tryz.underlying88 h
  obtain ⟨c0, c1, c2, rfl⟩ := lst3 (hl.trans (by kernel_rfl : Tryz.prog.cellsOf 88 = 3))
  have hxl : xs.length = 3 := hxl
  obtain ⟨x0, x1, x2, rfl⟩ := lst3 hxl
  have h0 : DataW.trod enc Tryz.prog w base spare held n 3 (List.take (Tryz.prog.cellsOf 3) (List.drop 0 [c0, c1, c2])) = some x0 := hf 0 _ rfl
  have h1 : DataW.trod enc Tryz.prog w base spare held n 2 (List.take (Tryz.prog.cellsOf 2) (List.drop 1 [c0, c1, c2])) = some x1 := hf 1 _ rfl
  have h2 : DataW.trod enc Tryz.prog w base spare held n 9 (List.take (Tryz.prog.cellsOf 9) (List.drop 2 [c0, c1, c2])) = some x2 := hf 2 _ rfl
  simp only [cl_int, cl_int64, cl_str, List.drop_zero, List.drop_succ_cons, List.take_succ_cons, List.take_zero] at h0 h1 h2
  obtain ⟨a0, e0, _, w0⟩ := DataW.trod_int Tryz.underlying3 h0
  obtain ⟨a1, e1, _, w1⟩ := DataW.trod_int Tryz.underlying2 h1
  obtain ⟨a2, e2, _, w2⟩ := DataW.trod_string Tryz.underlying9 h2
  simp only [List.cons.injEq, and_true] at e0 e1 e2
  subst e0 e1 e2
  exact ⟨⟨a0, a1, a2⟩, rfl, bounds_i64 w1⟩
theorem open_row {fuel : Nat} {v : Value} {x : DataW H × List MemPlace} (h : DataW.trod enc Tryz.prog w base spare held fuel 60 [v] = some x) :
    ∃ l : List Val, RowAt w v l ∧ l.length ≤ 9223372036854775807 ∧ rowBd l := by
  obtain ⟨l, A, n, c, rfl, h2, h3, h4, h5⟩ := open_slice (α := Val) Tryz.underlying60 (by kernel_rfl : Tryz.prog.cellsOf 88 = 3) (by decide) (fun a cs => cs = [.int .i64 a.k, .int .i64 a.n, .string a.t] ∧ i64 a.n) (fun fuel cs x h => open_val h) h
  refine ⟨l, ⟨A, c, by rw [h2], fun i a ha => ?_⟩, by omega, fun a ha => ?_⟩
  · obtain ⟨cs, b, off, ⟨rfl, _⟩, hA, hc⟩ := h4 i a ha
    exact ⟨b, off, hA, by simpa using hc 0 _ rfl, hc 1 _ rfl, hc 2 _ rfl⟩
  · obtain ⟨cs, _, hi⟩ := h5 a ha
    exact hi
theorem open_rs {fuel : Nat} {v : Value} {x : DataW H × List MemPlace} (h : DataW.trod enc Tryz.prog w base spare held fuel 33 [v] = some x) :
    ∃ l : List (List Val), RsAt w v l ∧ l.length ≤ 9223372036854775807 ∧ ∀ r ∈ l, r.length ≤ 9223372036854775807 ∧ rowBd r := by
  obtain ⟨l, A, n, c, rfl, h2, h3, h4, h5⟩ := open_slice (α := List Val) Tryz.underlying33 cl_row (by decide) (fun r cs => ∃ u, cs = [u] ∧ RowAt w u r ∧ r.length ≤ 9223372036854775807 ∧ rowBd r) (fun fuel cs x h => by
    obtain ⟨u, rfl⟩ := one_cell Tryz.underlying60 h
    obtain ⟨r, k1, k2, k3⟩ := open_row h
    exact ⟨r, u, rfl, k1, k2, k3⟩) h
  refine ⟨l, ⟨A, c, by rw [h2], fun i r hr => ?_⟩, by omega, fun r hr => ?_⟩
  · obtain ⟨cs, b, off, ⟨u, rfl, k1, _⟩, hA, hc⟩ := h4 i r hr
    exact ⟨b, off, u, hA, by simpa using hc 0 _ rfl, k1⟩
  · obtain ⟨cs, u, _, _, k2, k3⟩ := h5 r hr
    exact ⟨k2, k3⟩
theorem open_wt {fuel : Nat} {cs : List Value} {x : DataW H × List MemPlace} (h : DataW.trod enc Tryz.prog w base spare held fuel 62 cs = some x) :
    ∃ a : Wt, ∃ u, cs = [.int .i64 a.tx, .int .i64 a.tb, u] ∧ RowAt w u a.row ∧ a.row.length ≤ 9223372036854775807 ∧ i64 a.tx ∧ i64 a.tb ∧ rowBd a.row := by
  obtain ⟨xs, n, rfl, hxx, hl, hxl, hf⟩ := DataW.trod_struct Tryz.underlying62 h
  obtain ⟨c0, c1, c2, rfl⟩ := lst3 (hl.trans (by kernel_rfl : Tryz.prog.cellsOf 62 = 3))
  have hxl : xs.length = 3 := hxl
  obtain ⟨x0, x1, x2, rfl⟩ := lst3 hxl
  have h0 : DataW.trod enc Tryz.prog w base spare held n 2 (List.take (Tryz.prog.cellsOf 2) (List.drop 0 [c0, c1, c2])) = some x0 := hf 0 _ rfl
  have h1 : DataW.trod enc Tryz.prog w base spare held n 3 (List.take (Tryz.prog.cellsOf 3) (List.drop 1 [c0, c1, c2])) = some x1 := hf 1 _ rfl
  have h2 : DataW.trod enc Tryz.prog w base spare held n 60 (List.take (Tryz.prog.cellsOf 60) (List.drop 2 [c0, c1, c2])) = some x2 := hf 2 _ rfl
  simp only [cl_int, cl_int64, cl_row, List.drop_zero, List.drop_succ_cons, List.take_succ_cons, List.take_zero] at h0 h1 h2
  obtain ⟨a0, e0, _, w0⟩ := DataW.trod_int Tryz.underlying2 h0
  obtain ⟨a1, e1, _, w1⟩ := DataW.trod_int Tryz.underlying3 h1
  obtain ⟨r, k1, k2, k3⟩ := open_row h2
  simp only [List.cons.injEq, and_true] at e0 e1
  subst e0 e1
  exact ⟨⟨a0, a1, r⟩, c2, rfl, k1, k2, bounds_i64 w0, bounds_i64 w1, k3⟩
theorem open_ws {fuel : Nat} {v : Value} {x : DataW H × List MemPlace} (h : DataW.trod enc Tryz.prog w base spare held fuel 34 [v] = some x) :
    ∃ l : List Wt, WsAt w v l ∧ l.length ≤ 9223372036854775807 ∧ ∀ a ∈ l, a.row.length ≤ 9223372036854775807 ∧ i64 a.tx ∧ i64 a.tb ∧ rowBd a.row := by
  obtain ⟨l, A, n, c, rfl, h2, h3, h4, h5⟩ := open_slice (α := Wt) Tryz.underlying34 (by kernel_rfl : Tryz.prog.cellsOf 62 = 3) (by decide) (fun a cs => ∃ u, cs = [.int .i64 a.tx, .int .i64 a.tb, u] ∧ RowAt w u a.row ∧ a.row.length ≤ 9223372036854775807 ∧ i64 a.tx ∧ i64 a.tb ∧ rowBd a.row) (fun fuel cs x h => open_wt h) h
  refine ⟨l, ⟨A, c, by rw [h2], fun i r hr => ?_⟩, by omega, fun r hr => ?_⟩
  · obtain ⟨cs, b, off, ⟨u, rfl, k1, _⟩, hA, hc⟩ := h4 i r hr
    exact ⟨b, off, u, hA, by simpa using hc 0 _ rfl, hc 1 _ rfl, hc 2 _ rfl, k1⟩
  · obtain ⟨cs, u, _, _, k2, k3⟩ := h5 r hr
    exact ⟨k2, k3⟩
theorem open_ev {fuel : Nat} {cs : List Value} {x : DataW H × List MemPlace} (h : DataW.trod enc Tryz.prog w base spare held fuel 36 cs = some x) :
    ∃ e : Ev, ∃ vr vw, cs = evC (e, vr, vw) ∧ RsAt w vr e.rows ∧ WsAt w vw e.wts ∧ e.fit ∧ e.bnd := by
  obtain ⟨xs, n, rfl, hxx, hl, hxl, hf⟩ := DataW.trod_struct Tryz.underlying36 h
  obtain ⟨c0, c1, c2, c3, c4, c5, c6, c7, rfl⟩ := lst8 (hl.trans (by kernel_rfl : Tryz.prog.cellsOf 36 = 8))
  have hxl : xs.length = 8 := hxl
  obtain ⟨x0, x1, x2, x3, x4, x5, x6, x7, rfl⟩ := lst8 hxl
  have h0 : DataW.trod enc Tryz.prog w base spare held n 3 (List.take (Tryz.prog.cellsOf 3) (List.drop 0 [c0, c1, c2, c3, c4, c5, c6, c7])) = some x0 := hf 0 _ rfl
  have h1 : DataW.trod enc Tryz.prog w base spare held n 3 (List.take (Tryz.prog.cellsOf 3) (List.drop 1 [c0, c1, c2, c3, c4, c5, c6, c7])) = some x1 := hf 1 _ rfl
  have h2 : DataW.trod enc Tryz.prog w base spare held n 2 (List.take (Tryz.prog.cellsOf 2) (List.drop 2 [c0, c1, c2, c3, c4, c5, c6, c7])) = some x2 := hf 2 _ rfl
  have h3 : DataW.trod enc Tryz.prog w base spare held n 3 (List.take (Tryz.prog.cellsOf 3) (List.drop 3 [c0, c1, c2, c3, c4, c5, c6, c7])) = some x3 := hf 3 _ rfl
  have h4 : DataW.trod enc Tryz.prog w base spare held n 25 (List.take (Tryz.prog.cellsOf 25) (List.drop 4 [c0, c1, c2, c3, c4, c5, c6, c7])) = some x4 := hf 4 _ rfl
  have h5 : DataW.trod enc Tryz.prog w base spare held n 3 (List.take (Tryz.prog.cellsOf 3) (List.drop 5 [c0, c1, c2, c3, c4, c5, c6, c7])) = some x5 := hf 5 _ rfl
  have h6 : DataW.trod enc Tryz.prog w base spare held n 33 (List.take (Tryz.prog.cellsOf 33) (List.drop 6 [c0, c1, c2, c3, c4, c5, c6, c7])) = some x6 := hf 6 _ rfl
  have h7 : DataW.trod enc Tryz.prog w base spare held n 34 (List.take (Tryz.prog.cellsOf 34) (List.drop 7 [c0, c1, c2, c3, c4, c5, c6, c7])) = some x7 := hf 7 _ rfl
  simp only [cl_int, cl_int64, cl_errno, cl_rows, cl_wts, List.drop_zero, List.drop_succ_cons, List.take_succ_cons, List.take_zero] at h0 h1 h2 h3 h4 h5 h6 h7
  obtain ⟨a0, e0, _, w0⟩ := DataW.trod_int Tryz.underlying3 h0
  obtain ⟨a1, e1, _, w1⟩ := DataW.trod_int Tryz.underlying3 h1
  obtain ⟨a2, e2, _, w2⟩ := DataW.trod_int Tryz.underlying2 h2
  obtain ⟨a3, e3, _, w3⟩ := DataW.trod_int Tryz.underlying3 h3
  obtain ⟨a4, e4, _, w4⟩ := DataW.trod_int Tryz.underlying25 h4
  obtain ⟨a5, e5, _, w5⟩ := DataW.trod_int Tryz.underlying3 h5
  obtain ⟨rs, k1, k2, k3⟩ := open_rs h6
  obtain ⟨ws, m1, m2, m3⟩ := open_ws h7
  simp only [List.cons.injEq, and_true] at e0 e1 e2 e3 e4 e5
  subst e0 e1 e2 e3 e4 e5
  exact ⟨⟨a0, a1, a2, a3, a4, a5, rs, ws⟩, c6, c7, rfl, k1, m1, ⟨k2, m2, fun r hr => (k3 r hr).1, fun x hx => (m3 x hx).1⟩, ⟨bounds_i64 w0, bounds_i64 w1, bounds_i64 w2, bounds_i64 w3, bounds_i64 w4, bounds_i64 w5⟩, fun r hr => (k3 r hr).2, fun x hx => (m3 x hx).2⟩
theorem open_evs {fuel : Nat} {v : Value} {x : DataW H × List MemPlace} (h : DataW.trod enc Tryz.prog w base spare held fuel 22 [v] = some x) :
    ∃ (l : List Ev) (A : Option Addr) (n c : Nat), v = .slice A n c ∧ EvArg w A n l := by
  obtain ⟨l, A, n, c, rfl, h2, h3, h4, h5⟩ := open_slice (α := Ev) Tryz.underlying22 (by kernel_rfl : Tryz.prog.cellsOf 36 = 8) (by decide) (fun e cs => ∃ vr vw, cs = evC (e, vr, vw) ∧ RsAt w vr e.rows ∧ WsAt w vw e.wts ∧ e.fit ∧ e.bnd) (fun fuel cs x h => open_ev h) h
  refine ⟨l, A, n, c, rfl, fun i e he => ?_, h2, h3, fun e he => ?_, fun e he => ?_⟩
  · obtain ⟨cs, b, off, ⟨vr, vw, rfl, k1, k2, _⟩, hA, hc⟩ := h4 i e he
    exact ⟨b, off, vr, vw, hA, by simpa using hc 0 _ rfl, hc 1 _ rfl, hc 2 _ rfl, hc 3 _ rfl, hc 4 _ rfl, hc 5 _ rfl, hc 6 _ rfl, hc 7 _ rfl, k1, k2⟩
  · obtain ⟨cs, vr, vw, _, _, _, k1, _⟩ := h5 e he
    exact k1
  · obtain ⟨cs, vr, vw, _, _, _, _, k1⟩ := h5 e he
    exact k1
end
/-- an argument, opened -/
theorem open_evarg {H : Type} {enc : TypeId × Value → H} {w : World} {base b0 : Nat} {r : Reach} {spare : Nat → Bool} {held : Bool} {v : Value} {d : DataW H} {p : List MemPlace} (hv : Value.okWide Tryz.prog w r b0 22 v)
    (h : DataW.Trod enc Tryz.prog w base spare held 22 v d p) : ∃ (l : List Ev) (A : Option Addr) (n c : Nat), v = .slice A n c ∧ EvArg w A n l := by
  obtain ⟨A, n, c, rfl⟩ := okWide_slice Tryz.underlying22 hv
  obtain ⟨fuel, hf⟩ := h
  exact open_evs hf
/-- an event, opened -/
theorem open_event {H : Type} {enc : TypeId × Value → H} {w : World} {base b0 : Nat} {r : Reach} {spare : Nat → Bool} {held : Bool} {v : Value} {d : DataW H} {p : List MemPlace} (hv : Value.okWide Tryz.prog w r b0 36 v)
    (h : DataW.Trod enc Tryz.prog w base spare held 36 v d p) : ∃ (e : Ev) (vr vw : Value), v = evV e vr vw ∧ RsAt w vr e.rows ∧ WsAt w vw e.wts ∧ e.fit ∧ e.bnd := by
  obtain ⟨cs, rfl, hsz⟩ := okWide_struct Tryz.underlying36 hv
  obtain ⟨fuel, hf⟩ := h
  obtain ⟨e, vr, vw, h1, h2⟩ := open_ev hf
  refine ⟨e, vr, vw, ?_, h2⟩
  obtain ⟨l⟩ := cs
  have h1 : l = evC (e, vr, vw) := h1
  subst h1
  rfl
end Go.Proofs.YtdjdhkbomhendaaGreatDoor
namespace Go.Proofs.YtdjdhkbomhendaaGreatDoor
open Go.ChangeShapes Go.WideShapes Go.Deep Go.RowKit
set_option maxHeartbeats 1000000
set_option maxRecDepth 10000
set_option linter.unusedVariables false
set_option linter.unusedSimpArgs false

theorem lst2 {α : Type} {l : List α} (h : l.length = 2) : ∃ c0 c1, l = [c0, c1] := by
  match l, h with
  | [c0, c1], _ => exact ⟨c0, c1, rfl⟩
theorem cl_strs : Tryz.prog.cellsOf 39 = 1 := by kernel_rfl
section
variable {H : Type} {enc : TypeId × Value → H} {w : World} {spare : Nat → Bool} {held : Bool} {base : Nat}
instance : Inhabited Tb := ⟨⟨⟨#[]⟩, []⟩⟩
theorem open_strs {fuel : Nat} {v : Value} {x : DataW H × List MemPlace} (h : DataW.trod enc Tryz.prog w base spare held fuel 39 [v] = some x) :
    ∃ (l : List ByteArray) (A : Option Addr) (c : Nat), v = .slice A l.length c ∧ l.length ≤ 9223372036854775807 ∧ ∀ (j : Nat) (s : ByteArray), l[j]? = some s → ∃ b off, A = some ⟨b, off, none⟩ ∧ w.cell? ⟨b, off + j, none⟩ = some (.string s) := by
  obtain ⟨l, A, n, c, rfl, h2, h3, h4, _⟩ := open_slice (α := ByteArray) Tryz.underlying39 (by kernel_rfl : Tryz.prog.cellsOf 9 = 1) (by decide) (fun s cs => cs = [.string s]) (fun fuel cs x h => by
    obtain ⟨s, e, _, _⟩ := DataW.trod_string Tryz.underlying9 h
    exact ⟨s, e⟩) h
  refine ⟨l, A, c, by rw [h2], by omega, fun j s hs => ?_⟩
  obtain ⟨cs, b, off, rfl, hA, hc⟩ := h4 j s hs
  exact ⟨b, off, hA, by simpa using hc 0 _ rfl⟩
theorem open_nm {fuel : Nat} {cs : List Value} {x : DataW H × List MemPlace} (h : DataW.trod enc Tryz.prog w base spare held fuel 41 cs = some x) :
    ∃ t : Tb, (∃ Ac cc, cs = [.string t.nm, .slice Ac t.cols.length cc] ∧ ∀ (j : Nat) (c : ByteArray), t.cols[j]? = some c → ∃ b2 off2, Ac = some ⟨b2, off2, none⟩ ∧ w.cell? ⟨b2, off2 + j, none⟩ = some (.string c)) ∧ t.nm.size ≤ 9223372036854775807 ∧ t.cols.length ≤ 9223372036854775807 := by
  obtain ⟨xs, n, rfl, hxx, hl, hxl, hf⟩ := DataW.trod_struct Tryz.underlying41 h
  obtain ⟨c0, c1, rfl⟩ := lst2 (hl.trans (by kernel_rfl : Tryz.prog.cellsOf 41 = 2))
  have hxl : xs.length = 2 := hxl
  obtain ⟨x0, x1, rfl⟩ := lst2 hxl
  have h0 : DataW.trod enc Tryz.prog w base spare held n 9 (List.take (Tryz.prog.cellsOf 9) (List.drop 0 [c0, c1])) = some x0 := hf 0 _ rfl
  have h1 : DataW.trod enc Tryz.prog w base spare held n 39 (List.take (Tryz.prog.cellsOf 39) (List.drop 1 [c0, c1])) = some x1 := hf 1 _ rfl
  simp only [cl_str, cl_strs, List.drop_zero, List.drop_succ_cons, List.take_succ_cons, List.take_zero] at h0 h1
  obtain ⟨s, e0, _, w0⟩ := DataW.trod_string Tryz.underlying9 h0
  simp only [List.cons.injEq, and_true] at e0
  subst e0
  obtain ⟨l, A, c, rfl, k1, k2⟩ := open_strs h1
  exact ⟨⟨s, l⟩, ⟨A, c, rfl, k2⟩, Nat.le_trans w0 (by unfold maxLen; omega), k1⟩
theorem open_nms {fuel : Nat} {v : Value} {x : DataW H × List MemPlace} (h : DataW.trod enc Tryz.prog w base spare held fuel 32 [v] = some x) :
    ∃ (S : List Tb) (A : Option Addr) (n c : Nat), v = .slice A n c ∧ NmsAt w A S ∧ S.length = n ∧ n ≤ 9223372036854775807 ∧ ∀ t ∈ S, t.nm.size ≤ 9223372036854775807 ∧ t.cols.length ≤ 9223372036854775807 := by
  obtain ⟨l, A, n, c, rfl, h2, h3, h4, h5⟩ := open_slice (α := Tb) Tryz.underlying32 (by kernel_rfl : Tryz.prog.cellsOf 41 = 2) (by decide) _ (fun fuel cs x h => open_nm h) h
  refine ⟨l, A, n, c, rfl, fun i t ht => ?_, h2, h3, fun t ht => ?_⟩
  · obtain ⟨cs, b, off, ⟨⟨Ac, cc, rfl, k1⟩, _⟩, hA, hc⟩ := h4 i t ht
    exact ⟨b, off, Ac, cc, hA, by simpa using hc 0 _ rfl, hc 1 _ rfl, k1⟩
  · obtain ⟨cs, _, k2⟩ := h5 t ht
    exact k2
end
theorem open_names {H : Type} {enc : TypeId × Value → H} {w : World} {base b0 : Nat} {r : Reach} {spare : Nat → Bool} {held : Bool} {v : Value} {d : DataW H} {p : List MemPlace} (hv : Value.okWide Tryz.prog w r b0 32 v)
    (h : DataW.Trod enc Tryz.prog w base spare held 32 v d p) : ∃ (S : List Tb) (A : Option Addr) (n c : Nat), v = .slice A n c ∧ NmsAt w A S ∧ S.length = n ∧ n ≤ 9223372036854775807 ∧ ∀ t ∈ S, t.nm.size ≤ 9223372036854775807 ∧ t.cols.length ≤ 9223372036854775807 := by
  obtain ⟨A, n, c, rfl⟩ := okWide_slice Tryz.underlying32 hv
  obtain ⟨fuel, hf⟩ := h
  exact open_nms hf
theorem law_explain2 (A : Option Addr) (n c : Nat) (S : List Tb) (e : Ev) (vr vw : Value) (w : World) (h1 : NmsAt w A S ∧ S.length = n ∧ n ≤ 9223372036854775807 ∧ ∀ t ∈ S, t.nm.size ≤ 9223372036854775807 ∧ t.cols.length ≤ 9223372036854775807)
    (h2 : RsAt w vr e.rows ∧ WsAt w vw e.wts ∧ e.fit ∧ e.bnd) (hg : GdH w) : Calls Tryz.prog 8 #[.slice A n c, evV e vr vw] w fun r w' => r = .returned (.bool true) ∧ Ext w w' :=
  law_explain A n c S e vr vw w h1.1 h1.2.1 h1.2.2.1 h2.1 h2.2.1 h2.2.2.1 h2.2.2.2 h1.2.2.2 hg
end Go.Proofs.YtdjdhkbomhendaaGreatDoor
namespace Go.Proofs.YtdjdhkbomhendaaGreatDoor
end Go.Proofs.YtdjdhkbomhendaaGreatDoor
