/-
  Opening a statement.
-/
import Derived.Test.YtcdnodjcnofogaaGreatDoorOpen2
import Derived.Test.YtcdnodjcnofogaaGreatDoorStmt
namespace Go.Proofs.YtcdnodjcnofogaaGreatDoor
open Go.ChangeShapes Go.WideShapes Go.Deep Go.RowKit
set_option maxHeartbeats 1000000
set_option maxRecDepth 10000
set_option linter.unusedVariables false
set_option linter.unusedSimpArgs false

def sumB {α : Type} (bk : α → Nat) : List α → Nat
  | [] => 0
  | a :: l => bk a + sumB bk l
theorem sumB_len {α : Type} {bk : α → Nat} (h : ∀ a, 1 ≤ bk a) : ∀ l : List α, l.length ≤ sumB bk l
  | [] => Nat.le_refl _
  | a :: l => by have := sumB_len h l; have := h a; rw [sumB, List.length_cons]; omega
theorem sumB_mem {α : Type} {bk : α → Nat} : ∀ {l : List α} {a : α}, a ∈ l → bk a ≤ sumB bk l
  | b :: l, a, h => by
    rw [sumB]
    rcases List.mem_cons.1 h with rfl | h
    · omega
    · have := sumB_mem (bk := bk) h; omega
theorem sumB_size (l : List Ex) : sumB Ex.size l = sizeL l := by
  induction l with
  | nil => rfl
  | cons e l ih => rw [sumB, sizeL, ih]
theorem lst2 {α : Type} {l : List α} (h : l.length = 2) : ∃ c0 c1, l = [c0, c1] := by
  match l, h with
  | [c0, c1], _ => exact ⟨c0, c1, rfl⟩
theorem lst3 {α : Type} {l : List α} (h : l.length = 3) : ∃ c0 c1 c2, l = [c0, c1, c2] := by
  match l, h with
  | [c0, c1, c2], _ => exact ⟨c0, c1, c2, rfl⟩
theorem lst4 {α : Type} {l : List α} (h : l.length = 4) : ∃ c0 c1 c2 c3, l = [c0, c1, c2, c3] := by
  match l, h with
  | [c0, c1, c2, c3], _ => exact ⟨c0, c1, c2, c3, rfl⟩
theorem lst6 {α : Type} {l : List α} (h : l.length = 6) : ∃ c0 c1 c2 c3 c4 c5, l = [c0, c1, c2, c3, c4, c5] := by
  match l, h with
  | [c0, c1, c2, c3, c4, c5], _ => exact ⟨c0, c1, c2, c3, c4, c5, rfl⟩
theorem lst9 {α : Type} {l : List α} (h : l.length = 9) : ∃ c0 c1 c2 c3 c4 c5 c6 c7 c8, l = [c0, c1, c2, c3, c4, c5, c6, c7, c8] := by
  match l, h with
  | [c0, c1, c2, c3, c4, c5, c6, c7, c8], _ => exact ⟨c0, c1, c2, c3, c4, c5, c6, c7, c8, rfl⟩
theorem lst10 {α : Type} {l : List α} (h : l.length = 10) : ∃ c0 c1 c2 c3 c4 c5 c6 c7 c8 c9, l = [c0, c1, c2, c3, c4, c5, c6, c7, c8, c9] := by
  match l, h with
  | [c0, c1, c2, c3, c4, c5, c6, c7, c8, c9], _ => exact ⟨c0, c1, c2, c3, c4, c5, c6, c7, c8, c9, rfl⟩
theorem lst12 {α : Type} {l : List α} (h : l.length = 12) : ∃ c0 c1 c2 c3 c4 c5 c6 c7 c8 c9 c10 c11, l = [c0, c1, c2, c3, c4, c5, c6, c7, c8, c9, c10, c11] := by
  match l, h with
  | [c0, c1, c2, c3, c4, c5, c6, c7, c8, c9, c10, c11], _ => exact ⟨c0, c1, c2, c3, c4, c5, c6, c7, c8, c9, c10, c11, rfl⟩
theorem lst22 {α : Type} {l : List α} (h : l.length = 22) : ∃ c0 c1 c2 c3 c4 c5 c6 c7 c8 c9 c10 c11 c12 c13 c14 c15 c16 c17 c18 c19 c20 c21, l = [c0, c1, c2, c3, c4, c5, c6, c7, c8, c9, c10, c11, c12, c13, c14, c15, c16, c17, c18, c19, c20, c21] := by
  match l, h with
  | [c0, c1, c2, c3, c4, c5, c6, c7, c8, c9, c10, c11, c12, c13, c14, c15, c16, c17, c18, c19, c20, c21], _ => exact ⟨c0, c1, c2, c3, c4, c5, c6, c7, c8, c9, c10, c11, c12, c13, c14, c15, c16, c17, c18, c19, c20, c21, rfl⟩
theorem cl_int : Tryz.prog.cellsOf 3 = 1 := by kernel_rfl
theorem cl_int64 : Tryz.prog.cellsOf 2 = 1 := by kernel_rfl
theorem cl_str : Tryz.prog.cellsOf 9 = 1 := by kernel_rfl
theorem cl_bool : Tryz.prog.cellsOf 4 = 1 := by kernel_rfl
theorem cl_strs : Tryz.prog.cellsOf 65 = 1 := by kernel_rfl
theorem cl_exprs : Tryz.prog.cellsOf 25 = 1 := by kernel_rfl
theorem cl_expr : Tryz.prog.cellsOf 35 = 8 := by kernel_rfl
theorem cl_cols : Tryz.prog.cellsOf 22 = 1 := by kernel_rfl
theorem cl_keys : Tryz.prog.cellsOf 23 = 1 := by kernel_rfl
theorem cl_frs : Tryz.prog.cellsOf 24 = 1 := by kernel_rfl
theorem cl_rows : Tryz.prog.cellsOf 28 = 1 := by kernel_rfl
theorem cl_asgs : Tryz.prog.cellsOf 29 = 1 := by kernel_rfl
theorem cl_itms : Tryz.prog.cellsOf 30 = 1 := by kernel_rfl
theorem cl_srcs : Tryz.prog.cellsOf 31 = 1 := by kernel_rfl
theorem cl_ords : Tryz.prog.cellsOf 36 = 1 := by kernel_rfl
theorem cl_def : Tryz.prog.cellsOf 27 = 4 := by kernel_rfl
section
variable {H : Type}
theorem bulk_pos (d : DataW H) : 1 ≤ Rows.uptoBulk d := by
  cases d
  case lit l => cases l <;> simp only [Rows.uptoBulk] <;> (try omega)
  all_goals (simp only [Rows.uptoBulk]; try omega)
theorem sum_of {α : Type} {bk : α → Nat} : ∀ {l : List α} {m : List (DataW H)}, l.length = m.length → (∀ (i : Nat) (e : α) (z : DataW H), l[i]? = some e → m[i]? = some z → bk e ≤ Rows.uptoBulk z) → sumB bk l ≤ Rows.uptoBulkAll m := by
  intro l
  induction l with
  | nil => intro m _ _; rw [sumB]; omega
  | cons e l ih =>
    intro m hl h
    cases m with
    | nil => cases hl
    | cons z m =>
      have h1 := h 0 e z rfl rfl
      have h2 := ih (m := m) (by simpa using hl) fun i e z he hz => h (i + 1) e z (by simpa using he) (by simpa using hz)
      rw [sumB, Rows.uptoBulkAll]
      omega
end
theorem rangeA_at {α : Type} {f : Nat → α} {len i : Nat} {e : α} (he : ((List.range len).map f)[i]? = some e) : i < len ∧ e = f i := by
  rw [List.getElem?_map] at he
  have hlt : i < len := by
    by_cases h : i < len
    · exact h
    · rw [List.getElem?_eq_none (by simp; omega)] at he; cases he
  rw [List.getElem?_range hlt] at he
  simp only [Option.map_some, Option.some.injEq] at he
  exact ⟨hlt, he.symm⟩
section
variable {H : Type} {enc : TypeId × Value → H} {w : World} {spare : Nat → Bool} {held : Bool} {base : Nat}
/-- a slice, opened: its elements by an opener of their type -/
theorem open_slice {α : Type} [Inhabited α] {T E : TypeId} {sz : Nat} (hT : Tryz.prog.underlying T = some (.slice E)) (hE : Tryz.prog.cellsOf E = sz) (hsz : 0 < sz) (P : α → List Value → Prop) (bk : α → Nat)
    (hel : ∀ (fuel : Nat) (cs : List Value) (x : DataW H × List MemPlace), DataW.trod enc Tryz.prog w base spare held fuel E cs = some x → ∃ a, P a cs ∧ bk a ≤ Rows.uptoBulk x.1)
    {fuel : Nat} {v : Value} {x : DataW H × List MemPlace} (h : DataW.trod enc Tryz.prog w base spare held fuel T [v] = some x) :
    ∃ (l : List α) (A : Option Addr) (n c : Nat), v = .slice A n c ∧ l.length = n ∧ n ≤ 9223372036854775807 ∧
      (∀ (i : Nat) (a : α), l[i]? = some a → ∃ cs b off, P a cs ∧ A = some ⟨b, off, none⟩ ∧ ∀ (j : Nat) (u : Value), cs[j]? = some u → w.cell? ⟨b, off + i * sz + j, none⟩ = some u) ∧ sumB bk l + 1 ≤ Rows.uptoBulk x.1 := by
  rcases DataW.trod_slice hT h with ⟨h7, _⟩ | ⟨a, len, cap, elems, rest, m, rfl, h7, hy, _, hl, hm, hlen, hel', _, _⟩
  · simp only [List.cons.injEq, and_true] at h7
    subst h7
    exact ⟨[], none, 0, 0, rfl, rfl, Nat.zero_le _, fun i a ha => by simp at ha, by rw [sumB]; exact bulk_pos _⟩
  · simp only [List.cons.injEq, and_true] at h7
    subst h7
    have hk : ∀ i, ∃ e : α, i < len → ∃ cs', (∀ j, j < sz → w.cell? ((a.add (i * sz)).add j) = cs'[j]?) ∧ cs'.length = sz ∧ P e cs' ∧ ∃ z, elems[i]? = some z ∧ bk e ≤ Rows.uptoBulk z.1 := by
      intro i
      by_cases hi : i < len
      · have he := hel' i hi
        obtain ⟨z, hz⟩ := some_at hlen hi
        rw [hz, hE, Option.bind_eq_some_iff] at he
        obtain ⟨cs', hc, ht⟩ := he
        obtain ⟨_, hcl, hat⟩ := World.cells?_some hc
        obtain ⟨e, hP, hb⟩ := hel m cs' z ht
        exact ⟨e, fun _ => ⟨cs', hat, hcl, hP, z, hz, hb⟩⟩
      · exact ⟨default, fun h => absurd h hi⟩
    obtain ⟨f, hfs⟩ := Classical.axiomOfChoice hk
    refine ⟨(List.range len).map f, some a, len, cap, rfl, by simp, by unfold maxLen at hm; omega, ?_, ?_⟩
    · intro i e he
      obtain ⟨hlt, rfl⟩ := rangeA_at he
      obtain ⟨cs', hat, hcl, hP, _⟩ := hfs i hlt
      have hsp : a.spot = none := by
        obtain ⟨cs0, hat0, hcl0, _⟩ := hfs 0 (by omega)
        have k0 := hat0 0 hsz
        have e0 : (a.add (0 * sz)).add 0 = a := by simp [Addr.add]
        rw [e0, List.getElem?_eq_getElem (by omega)] at k0
        exact cell_spot k0
      obtain ⟨b, off, sp⟩ := a
      dsimp only at hsp
      subst hsp
      have hadd : ∀ (o j : Nat), (⟨b, o, none⟩ : Addr).add j = ⟨b, o + j, none⟩ := fun o j => by unfold Addr.add; split <;> simp_all
      refine ⟨cs', b, off, hP, rfl, fun j u hu => ?_⟩
      have hj : j < sz := by have := (List.getElem?_eq_some_iff.1 hu).1; omega
      have := hat j hj
      rw [hadd, hadd, hu] at this
      exact this
    · have := sum_of (bk := bk) (l := (List.range len).map f) (m := elems.map (·.1)) (by simp [hlen]) fun i e z' he hz' => by
        obtain ⟨hlt, rfl⟩ := rangeA_at he
        obtain ⟨cs', _, _, _, z, hz, h1⟩ := hfs i hlt
        rw [List.getElem?_map, hz] at hz'
        obtain rfl := Option.some.inj hz'
        exact h1
      rw [hy]
      simp only [Rows.uptoBulk]
      omega
theorem one_cell {T E : TypeId} {fuel : Nat} {cs : List Value} {x : DataW H × List MemPlace} (hc : Tryz.prog.cellsOf T = 1) (h : DataW.trod enc Tryz.prog w base spare held fuel T cs = some x) (hT : Tryz.prog.underlying T = some (.slice E) := by first | exact Tryz.underlying65 | exact Tryz.underlying25) : ∃ v, cs = [v] := by
  rcases DataW.trod_slice hT h with ⟨h7, _⟩ | ⟨a, len, cap, elems, rest, m, rfl, h7, _⟩
  · exact ⟨_, h7⟩
  · exact ⟨_, h7⟩
instance : Inhabited Ex := ⟨exZ⟩
def bkS (s : ByteArray) : Nat := s.size + 1
theorem open_strs {fuel : Nat} {v : Value} {x : DataW H × List MemPlace} (h : DataW.trod enc Tryz.prog w base spare held fuel 65 [v] = some x) :
    ∃ (l : List ByteArray) (A : Option Addr) (n c : Nat), v = .slice A n c ∧ l.length = n ∧ n ≤ 9223372036854775807 ∧ StrsAt w A l ∧ sumB bkS l + 1 ≤ Rows.uptoBulk x.1 := by
  obtain ⟨l, A, n, c, h1, h2, h3, h4, h5⟩ := open_slice (α := ByteArray) Tryz.underlying65 (by kernel_rfl : Tryz.prog.cellsOf 9 = 1) (by decide) (fun s cs => cs = [.string s] ∧ s.size ≤ 9223372036854775807) bkS (fun fuel cs x h => by obtain ⟨s, e, y, hs⟩ := DataW.trod_string Tryz.underlying9 h; exact ⟨s, ⟨e, Nat.le_trans hs (by unfold maxLen; omega)⟩, by rw [y]; simp [Rows.uptoBulk, bkS]⟩) h
  refine ⟨l, A, n, c, h1, h2, h3, ?_, h5⟩
  intro i s hs
  obtain ⟨cs, b, off, ⟨rfl, hz⟩, hA, hc⟩ := h4 i s hs
  exact ⟨hz, b, off, hA, by simpa using hc 0 _ rfl⟩
theorem open_exprs {fuel : Nat} {v : Value} {x : DataW H × List MemPlace} (h : DataW.trod enc Tryz.prog w base spare held fuel 25 [v] = some x) :
    ∃ (l : List Ex) (A : Option Addr) (n c : Nat), v = .slice A n c ∧ l.length = n ∧ n ≤ 9223372036854775807 ∧ KidsAt w A l ∧ sizeL l + 1 ≤ Rows.uptoBulk x.1 := by
  obtain ⟨l, A, n, c, h1, h2, h3, h4, h5⟩ := open_slice (α := Ex) Tryz.underlying25 (by kernel_rfl : Tryz.prog.cellsOf 35 = 8) (by decide) (fun e cs => ExC w e cs) Ex.size (fun fuel cs x h => by obtain ⟨e, h1, _, h2⟩ := open_ex2 _ _ _ h; exact ⟨e, h1, h2⟩) h
  refine ⟨l, A, n, c, h1, h2, h3, ?_, by rw [← sumB_size]; exact h5⟩
  unfold KidsAt
  rw [exsAt_iff]
  intro i e he
  obtain ⟨cs, b, off, hE, hA, hc⟩ := h4 i e he
  exact ⟨cs, ⟨b, off, hA, fun j u hu => by rw [Nat.zero_add]; exact hc j u hu⟩, hE⟩
def bkK (l : List ByteArray) : Nat := sumB bkS l + 1
theorem open_keys {fuel : Nat} {v : Value} {x : DataW H × List MemPlace} (h : DataW.trod enc Tryz.prog w base spare held fuel 23 [v] = some x) :
    ∃ (l : List (List ByteArray)) (A : Option Addr) (n c : Nat), v = .slice A n c ∧ l.length = n ∧ n ≤ 9223372036854775807 ∧ KeysAt w A l ∧ sumB bkK l + 1 ≤ Rows.uptoBulk x.1 := by
  obtain ⟨l, A, n, c, h1, h2, h3, h4, h5⟩ := open_slice (α := (List ByteArray)) Tryz.underlying23 (by kernel_rfl : Tryz.prog.cellsOf 65 = 1) (by decide) (fun l cs => ∃ Ai ni ci, cs = [.slice Ai ni ci] ∧ l.length = ni ∧ ni ≤ 9223372036854775807 ∧ StrsAt w Ai l) bkK (fun fuel cs x h => by obtain ⟨v, rfl⟩ := one_cell (by kernel_rfl : Tryz.prog.cellsOf 65 = 1) h; obtain ⟨l, A, n, c, rfl, h2, h3, h4, h5⟩ := open_strs h; exact ⟨l, ⟨A, n, c, rfl, h2, h3, h4⟩, h5⟩) h
  refine ⟨l, A, n, c, h1, h2, h3, ?_, h5⟩
  intro i l hl
  obtain ⟨cs, b, off, ⟨Ai, ni, ci, rfl, hn, hm, hk⟩, hA, hc⟩ := h4 i l hl
  exact ⟨b, off, Ai, ni, ci, hA, by simpa using hc 0 _ rfl, hn, hm, hk⟩
def bkR (l : List Ex) : Nat := sizeL l + 1
theorem open_rows {fuel : Nat} {v : Value} {x : DataW H × List MemPlace} (h : DataW.trod enc Tryz.prog w base spare held fuel 28 [v] = some x) :
    ∃ (l : List (List Ex)) (A : Option Addr) (n c : Nat), v = .slice A n c ∧ l.length = n ∧ n ≤ 9223372036854775807 ∧ (RowsAt w A l ∧ ∀ r ∈ l, r.length ≤ 9223372036854775807) ∧ sumB bkR l + 1 ≤ Rows.uptoBulk x.1 := by
  obtain ⟨l, A, n, c, h1, h2, h3, h4, h5⟩ := open_slice (α := List Ex) Tryz.underlying28 (by kernel_rfl : Tryz.prog.cellsOf 25 = 1) (by decide) (fun l cs => ∃ Ai ni ci, cs = [.slice Ai ni ci] ∧ l.length = ni ∧ ni ≤ 9223372036854775807 ∧ KidsAt w Ai l) bkR
    (fun fuel cs x h => by obtain ⟨v, rfl⟩ := one_cell (by kernel_rfl : Tryz.prog.cellsOf 25 = 1) h; obtain ⟨l, A, n, c, rfl, h2, h3, h4, h5⟩ := open_exprs h; exact ⟨l, ⟨A, n, c, rfl, h2, h3, h4⟩, h5⟩) h
  refine ⟨l, A, n, c, h1, h2, h3, ⟨?_, ?_⟩, h5⟩
  · intro i r hr
    obtain ⟨cs, b, off, ⟨Ai, ni, ci, rfl, hn, hm, hk⟩, hA, hc⟩ := h4 i r hr
    exact ⟨b, off, Ai, ni, ci, hA, by simpa using hc 0 _ rfl, hn, hk⟩
  · intro r hr
    obtain ⟨i, hi, rfl⟩ := List.getElem_of_mem hr
    obtain ⟨cs, b, off, ⟨Ai, ni, ci, rfl, hn, hm, hk⟩, hA, hc⟩ := h4 i _ (List.getElem?_eq_getElem hi)
    omega
def bkCd (x : Cd) : Nat := x.nm.size + 1
theorem open_cd {fuel : Nat} {cs : List Value} {x : DataW H × List MemPlace} (h : DataW.trod enc Tryz.prog w base spare held fuel 63 cs = some x) :
    ∃ a : Cd, (cs = [.string a.nm, .int .i64 a.ty, .int .i64 a.lo, .int .i64 a.hi, .int .i64 a.mx, .bool a.nn] ∧ a.nm.size ≤ 9223372036854775807 ∧ I64 a.ty ∧ I64 a.lo ∧ I64 a.hi ∧ I64 a.mx) ∧ bkCd a ≤ Rows.uptoBulk x.1 := by
  obtain ⟨xs, n, rfl, hxx, hl, hxl, hf⟩ := DataW.trod_struct Tryz.underlying63 h
  obtain ⟨c0, c1, c2, c3, c4, c5, rfl⟩ := lst6 (hl.trans (by kernel_rfl : Tryz.prog.cellsOf 63 = 6))
  have hxl : xs.length = 6 := hxl
  obtain ⟨x0, x1, x2, x3, x4, x5, rfl⟩ := lst6 hxl
  have h0 : DataW.trod enc Tryz.prog w base spare held n 9 (List.take (Tryz.prog.cellsOf 9) (List.drop 0 [c0, c1, c2, c3, c4, c5])) = some x0 := hf 0 _ rfl
  have h1 : DataW.trod enc Tryz.prog w base spare held n 3 (List.take (Tryz.prog.cellsOf 3) (List.drop 1 [c0, c1, c2, c3, c4, c5])) = some x1 := hf 1 _ rfl
  have h2 : DataW.trod enc Tryz.prog w base spare held n 2 (List.take (Tryz.prog.cellsOf 2) (List.drop 2 [c0, c1, c2, c3, c4, c5])) = some x2 := hf 2 _ rfl
  have h3 : DataW.trod enc Tryz.prog w base spare held n 2 (List.take (Tryz.prog.cellsOf 2) (List.drop 3 [c0, c1, c2, c3, c4, c5])) = some x3 := hf 3 _ rfl
  have h4 : DataW.trod enc Tryz.prog w base spare held n 3 (List.take (Tryz.prog.cellsOf 3) (List.drop 4 [c0, c1, c2, c3, c4, c5])) = some x4 := hf 4 _ rfl
  have h5 : DataW.trod enc Tryz.prog w base spare held n 4 (List.take (Tryz.prog.cellsOf 4) (List.drop 5 [c0, c1, c2, c3, c4, c5])) = some x5 := hf 5 _ rfl
  simp only [cl_bool, cl_int, cl_int64, cl_str, List.drop_zero, List.drop_succ_cons, List.take_succ_cons, List.take_zero] at h0 h1 h2 h3 h4 h5
  have hb : Rows.uptoBulk x.1 = Rows.uptoBulk x0.1 + Rows.uptoBulk x1.1 + Rows.uptoBulk x2.1 + Rows.uptoBulk x3.1 + Rows.uptoBulk x4.1 + Rows.uptoBulk x5.1 + 1 := by rw [hxx]; simp [Rows.uptoBulk, Rows.uptoBulkAll]; try omega
  obtain ⟨a0, e0, y0, w0⟩ := DataW.trod_string Tryz.underlying9 h0
  have p0 : a0.size + 1 ≤ Rows.uptoBulk x0.1 := by rw [y0]; simp [Rows.uptoBulk]
  obtain ⟨a1, e1, _, w1⟩ := DataW.trod_int Tryz.underlying3 h1
  have p1 := bulk_pos x1.1
  obtain ⟨a2, e2, _, w2⟩ := DataW.trod_int Tryz.underlying2 h2
  have p2 := bulk_pos x2.1
  obtain ⟨a3, e3, _, w3⟩ := DataW.trod_int Tryz.underlying2 h3
  have p3 := bulk_pos x3.1
  obtain ⟨a4, e4, _, w4⟩ := DataW.trod_int Tryz.underlying3 h4
  have p4 := bulk_pos x4.1
  obtain ⟨a5, e5, _⟩ := DataW.trod_bool Tryz.underlying4 h5
  have p5 := bulk_pos x5.1
  simp only [List.cons.injEq, and_true] at e0 e1 e2 e3 e4 e5
  subst e0 e1 e2 e3 e4 e5
  exact ⟨⟨a0, a1, a2, a3, a4, a5⟩, ⟨rfl, Nat.le_trans w0 (by unfold maxLen; omega), bounds_i64 w1, bounds_i64 w2, bounds_i64 w3, bounds_i64 w4⟩, by rw [hb]; unfold bkCd; dsimp only; omega⟩
instance : Inhabited Cd := ⟨⟨⟨#[]⟩, 0, 0, 0, 0, false⟩⟩
theorem open_cols {fuel : Nat} {v : Value} {x : DataW H × List MemPlace} (h : DataW.trod enc Tryz.prog w base spare held fuel 22 [v] = some x) :
    ∃ (l : List Cd) (A : Option Addr) (n c : Nat), v = .slice A n c ∧ l.length = n ∧ n ≤ 9223372036854775807 ∧ CdsAt w A l ∧ sumB bkCd l + 1 ≤ Rows.uptoBulk x.1 := by
  obtain ⟨l, A, n, c, h1, h2, h3, h4, h5⟩ := open_slice (α := Cd) Tryz.underlying22 (by kernel_rfl : Tryz.prog.cellsOf 63 = 6) (by decide) (fun a cs => cs = [.string a.nm, .int .i64 a.ty, .int .i64 a.lo, .int .i64 a.hi, .int .i64 a.mx, .bool a.nn] ∧ a.nm.size ≤ 9223372036854775807 ∧ I64 a.ty ∧ I64 a.lo ∧ I64 a.hi ∧ I64 a.mx) bkCd (fun fuel cs x h => open_cd h) h
  refine ⟨l, A, n, c, h1, h2, h3, ?_, h5⟩
  intro i a ha
  obtain ⟨cs, b, off, ⟨rfl, hz⟩, hA, hc⟩ := h4 i a ha
  exact ⟨hz, b, off, hA, by simpa using hc 0 _ rfl, hc 1 _ rfl, hc 2 _ rfl, hc 3 _ rfl, hc 4 _ rfl, hc 5 _ rfl⟩
def bkRf (x : Rf) : Nat := sumB bkS x.cs + sumB bkS x.tg + x.tb.size + 1
theorem open_rf {fuel : Nat} {cs : List Value} {x : DataW H × List MemPlace} (h : DataW.trod enc Tryz.prog w base spare held fuel 67 cs = some x) :
    ∃ a : Rf, (∃ A1 n1 c1 A2 n2 c2, cs = [.slice A1 n1 c1, .string a.tb, .slice A2 n2 c2] ∧ a.tb.size ≤ 9223372036854775807 ∧ a.cs.length = n1 ∧ n1 ≤ 9223372036854775807 ∧ StrsAt w A1 a.cs ∧ a.tg.length = n2 ∧ n2 ≤ 9223372036854775807 ∧ StrsAt w A2 a.tg) ∧ bkRf a ≤ Rows.uptoBulk x.1 := by
  obtain ⟨xs, n, rfl, hxx, hl, hxl, hf⟩ := DataW.trod_struct Tryz.underlying67 h
  obtain ⟨c0, c1, c2, rfl⟩ := lst3 (hl.trans (by kernel_rfl : Tryz.prog.cellsOf 67 = 3))
  have hxl : xs.length = 3 := hxl
  obtain ⟨x0, x1, x2, rfl⟩ := lst3 hxl
  have h0 : DataW.trod enc Tryz.prog w base spare held n 65 (List.take (Tryz.prog.cellsOf 65) (List.drop 0 [c0, c1, c2])) = some x0 := hf 0 _ rfl
  have h1 : DataW.trod enc Tryz.prog w base spare held n 9 (List.take (Tryz.prog.cellsOf 9) (List.drop 1 [c0, c1, c2])) = some x1 := hf 1 _ rfl
  have h2 : DataW.trod enc Tryz.prog w base spare held n 65 (List.take (Tryz.prog.cellsOf 65) (List.drop 2 [c0, c1, c2])) = some x2 := hf 2 _ rfl
  simp only [cl_str, cl_strs, List.drop_zero, List.drop_succ_cons, List.take_succ_cons, List.take_zero] at h0 h1 h2
  have hb : Rows.uptoBulk x.1 = Rows.uptoBulk x0.1 + Rows.uptoBulk x1.1 + Rows.uptoBulk x2.1 + 1 := by rw [hxx]; simp [Rows.uptoBulk, Rows.uptoBulkAll]; try omega
  obtain ⟨a0, A0, n0, k0, e0, l0, m0, q0, p0⟩ := open_strs h0
  subst e0
  obtain ⟨a1, e1, y1, w1⟩ := DataW.trod_string Tryz.underlying9 h1
  have p1 : a1.size + 1 ≤ Rows.uptoBulk x1.1 := by rw [y1]; simp [Rows.uptoBulk]
  obtain ⟨a2, A2, n2, k2, e2, l2, m2, q2, p2⟩ := open_strs h2
  subst e2
  simp only [List.cons.injEq, and_true] at e1
  subst e1
  exact ⟨⟨a0, a1, a2⟩, ⟨A0, n0, k0, A2, n2, k2, rfl, Nat.le_trans w1 (by unfold maxLen; omega), l0, m0, q0, l2, m2, q2⟩, by rw [hb]; unfold bkRf; dsimp only; omega⟩
instance : Inhabited Rf := ⟨⟨[], ⟨#[]⟩, []⟩⟩
theorem open_frs {fuel : Nat} {v : Value} {x : DataW H × List MemPlace} (h : DataW.trod enc Tryz.prog w base spare held fuel 24 [v] = some x) :
    ∃ (l : List Rf) (A : Option Addr) (n c : Nat), v = .slice A n c ∧ l.length = n ∧ n ≤ 9223372036854775807 ∧ RfsAt w A l ∧ sumB bkRf l + 1 ≤ Rows.uptoBulk x.1 := by
  obtain ⟨l, A, n, c, h1, h2, h3, h4, h5⟩ := open_slice (α := Rf) Tryz.underlying24 (by kernel_rfl : Tryz.prog.cellsOf 67 = 3) (by decide) (fun a cs => ∃ A1 n1 c1 A2 n2 c2, cs = [.slice A1 n1 c1, .string a.tb, .slice A2 n2 c2] ∧ a.tb.size ≤ 9223372036854775807 ∧ a.cs.length = n1 ∧ n1 ≤ 9223372036854775807 ∧ StrsAt w A1 a.cs ∧ a.tg.length = n2 ∧ n2 ≤ 9223372036854775807 ∧ StrsAt w A2 a.tg) bkRf (fun fuel cs x h => open_rf h) h
  refine ⟨l, A, n, c, h1, h2, h3, ?_, h5⟩
  intro i a ha
  obtain ⟨cs, b, off, ⟨A1, n1, c1, A2, n2, c2, rfl, hz, h5', h6, h7, h8, h9, h10⟩, hA, hc⟩ := h4 i a ha
  exact ⟨hz, b, off, A1, n1, c1, A2, n2, c2, hA, by simpa using hc 0 _ rfl, hc 1 _ rfl, hc 2 _ rfl, h5', h6, h7, h8, h9, h10⟩
def bkA (x : Asg) : Nat := x.cl.size + x.ex.size + 1
def bkI (x : Itm) : Nat := x.ex.size + 1
def bkF (x : Src) : Nat := x.tb.size + x.al.size + 1
def bkO (_ : Ord') : Nat := 1
theorem exc_elt2 {w : World} {e : Ex} {c0 c1 c2 c3 c4 c5 c6 c7 : Value} (h : ExC w e [c0, c1, c2, c3, c4, c5, c6, c7]) : ∃ A n c, [c0, c1, c2, c3, c4, c5, c6, c7] = e.d.cells A n c ∧ ExV w e A n c := by
  cases e with
  | mk d ks =>
    rw [ExC] at h
    obtain ⟨h1, h2, A, c, h3, h4⟩ := h
    exact ⟨A, ks.length, c, h3, ⟨rfl, h2, h1, h4⟩⟩
theorem open_asg {fuel : Nat} {cs : List Value} {x : DataW H × List MemPlace} (h : DataW.trod enc Tryz.prog w base spare held fuel 59 cs = some x) :
    ∃ a : Asg, (∃ A n c, cs = [.string a.cl, .int .i64 a.ix, .int .i64 a.ex.d.op, .string a.ex.d.tb, .string a.ex.d.nm, .int .i64 a.ex.d.ix, .int .i64 a.ex.d.vk, .int .i64 a.ex.d.vi, .string a.ex.d.vt, .slice A n c] ∧ ExV w a.ex A n c ∧ a.cl.size ≤ 9223372036854775807 ∧ I64 a.ix) ∧ bkA a ≤ Rows.uptoBulk x.1 := by
  obtain ⟨xs, n, rfl, hxx, hl, hxl, hf⟩ := DataW.trod_struct Tryz.underlying59 h
  obtain ⟨c0, c1, c2, c3, c4, c5, c6, c7, c8, c9, rfl⟩ := lst10 (hl.trans (by kernel_rfl : Tryz.prog.cellsOf 59 = 10))
  have hxl : xs.length = 3 := hxl
  obtain ⟨x0, x1, x2, rfl⟩ := lst3 hxl
  have h0 : DataW.trod enc Tryz.prog w base spare held n 9 (List.take (Tryz.prog.cellsOf 9) (List.drop 0 [c0, c1, c2, c3, c4, c5, c6, c7, c8, c9])) = some x0 := hf 0 _ rfl
  have h1 : DataW.trod enc Tryz.prog w base spare held n 3 (List.take (Tryz.prog.cellsOf 3) (List.drop 1 [c0, c1, c2, c3, c4, c5, c6, c7, c8, c9])) = some x1 := hf 1 _ rfl
  have h2 : DataW.trod enc Tryz.prog w base spare held n 35 (List.take (Tryz.prog.cellsOf 35) (List.drop 2 [c0, c1, c2, c3, c4, c5, c6, c7, c8, c9])) = some x2 := hf 2 _ rfl
  simp only [cl_expr, cl_int, cl_str, List.drop_zero, List.drop_succ_cons, List.take_succ_cons, List.take_zero] at h0 h1 h2
  have hb : Rows.uptoBulk x.1 = Rows.uptoBulk x0.1 + Rows.uptoBulk x1.1 + Rows.uptoBulk x2.1 + 1 := by rw [hxx]; simp [Rows.uptoBulk, Rows.uptoBulkAll]; try omega
  obtain ⟨a0, e0, y0, w0⟩ := DataW.trod_string Tryz.underlying9 h0
  have p0 : a0.size + 1 ≤ Rows.uptoBulk x0.1 := by rw [y0]; simp [Rows.uptoBulk]
  obtain ⟨a1, e1, _, w1⟩ := DataW.trod_int Tryz.underlying3 h1
  have p1 := bulk_pos x1.1
  obtain ⟨a2, q2, _, p2⟩ := open_ex2 _ _ _ h2
  simp only [List.cons.injEq, and_true] at e0 e1
  subst e0 e1
  obtain ⟨A, n', c, hc, hx⟩ := exc_elt2 q2
  unfold Nd.cells at hc
  simp only [List.cons.injEq, and_true] at hc
  obtain ⟨rfl, rfl, rfl, rfl, rfl, rfl, rfl, rfl⟩ := hc
  exact ⟨⟨a0, a1, a2⟩, ⟨A, n', c, rfl, hx, Nat.le_trans w0 (by unfold maxLen; omega), bounds_i64 w1⟩, by rw [hb]; unfold bkA; dsimp only; omega⟩
instance : Inhabited Asg := ⟨⟨⟨#[]⟩, 0, exZ⟩⟩
theorem open_asgs {fuel : Nat} {v : Value} {x : DataW H × List MemPlace} (h : DataW.trod enc Tryz.prog w base spare held fuel 29 [v] = some x) :
    ∃ (l : List Asg) (A : Option Addr) (n c : Nat), v = .slice A n c ∧ l.length = n ∧ n ≤ 9223372036854775807 ∧ AsgsAt w A l ∧ sumB bkA l + 1 ≤ Rows.uptoBulk x.1 := by
  obtain ⟨l, A, n, c, h1, h2, h3, h4, h5⟩ := open_slice (α := Asg) Tryz.underlying29 (by kernel_rfl : Tryz.prog.cellsOf 59 = 10) (by decide) (fun a cs => ∃ A n c, cs = [.string a.cl, .int .i64 a.ix, .int .i64 a.ex.d.op, .string a.ex.d.tb, .string a.ex.d.nm, .int .i64 a.ex.d.ix, .int .i64 a.ex.d.vk, .int .i64 a.ex.d.vi, .string a.ex.d.vt, .slice A n c] ∧ ExV w a.ex A n c ∧ a.cl.size ≤ 9223372036854775807 ∧ I64 a.ix) bkA (fun fuel cs x h => open_asg h) h
  refine ⟨l, A, n, c, h1, h2, h3, ?_, h5⟩
  intro i a ha
  obtain ⟨cs, b, off, ⟨A1, n1, c1, rfl, hx, hz⟩, hA, hc⟩ := h4 i a ha
  exact ⟨hz, b, off, A1, n1, c1, hA, by simpa using hc 0 _ rfl, hc 1 _ rfl, ⟨hc 2 _ rfl, hc 3 _ rfl, hc 4 _ rfl, hc 5 _ rfl, hc 6 _ rfl, hc 7 _ rfl, hc 8 _ rfl, hc 9 _ rfl, hx⟩⟩
theorem open_itm {fuel : Nat} {cs : List Value} {x : DataW H × List MemPlace} (h : DataW.trod enc Tryz.prog w base spare held fuel 81 cs = some x) :
    ∃ a : Itm, (∃ A n c, cs = [.int .i64 a.ag, .int .i64 a.ex.d.op, .string a.ex.d.tb, .string a.ex.d.nm, .int .i64 a.ex.d.ix, .int .i64 a.ex.d.vk, .int .i64 a.ex.d.vi, .string a.ex.d.vt, .slice A n c] ∧ ExV w a.ex A n c ∧ I64 a.ag) ∧ bkI a ≤ Rows.uptoBulk x.1 := by
  obtain ⟨xs, n, rfl, hxx, hl, hxl, hf⟩ := DataW.trod_struct Tryz.underlying81 h
  obtain ⟨c0, c1, c2, c3, c4, c5, c6, c7, c8, rfl⟩ := lst9 (hl.trans (by kernel_rfl : Tryz.prog.cellsOf 81 = 9))
  have hxl : xs.length = 2 := hxl
  obtain ⟨x0, x1, rfl⟩ := lst2 hxl
  have h0 : DataW.trod enc Tryz.prog w base spare held n 3 (List.take (Tryz.prog.cellsOf 3) (List.drop 0 [c0, c1, c2, c3, c4, c5, c6, c7, c8])) = some x0 := hf 0 _ rfl
  have h1 : DataW.trod enc Tryz.prog w base spare held n 35 (List.take (Tryz.prog.cellsOf 35) (List.drop 1 [c0, c1, c2, c3, c4, c5, c6, c7, c8])) = some x1 := hf 1 _ rfl
  simp only [cl_expr, cl_int, List.drop_zero, List.drop_succ_cons, List.take_succ_cons, List.take_zero] at h0 h1
  have hb : Rows.uptoBulk x.1 = Rows.uptoBulk x0.1 + Rows.uptoBulk x1.1 + 1 := by rw [hxx]; simp [Rows.uptoBulk, Rows.uptoBulkAll]; try omega
  obtain ⟨a0, e0, _, w0⟩ := DataW.trod_int Tryz.underlying3 h0
  have p0 := bulk_pos x0.1
  obtain ⟨a1, q1, _, p1⟩ := open_ex2 _ _ _ h1
  simp only [List.cons.injEq, and_true] at e0
  subst e0
  obtain ⟨A, n', c, hc, hx⟩ := exc_elt2 q1
  unfold Nd.cells at hc
  simp only [List.cons.injEq, and_true] at hc
  obtain ⟨rfl, rfl, rfl, rfl, rfl, rfl, rfl, rfl⟩ := hc
  exact ⟨⟨a0, a1⟩, ⟨A, n', c, rfl, hx, bounds_i64 w0⟩, by rw [hb]; unfold bkI; dsimp only; omega⟩
instance : Inhabited Itm := ⟨⟨0, exZ⟩⟩
theorem open_itms {fuel : Nat} {v : Value} {x : DataW H × List MemPlace} (h : DataW.trod enc Tryz.prog w base spare held fuel 30 [v] = some x) :
    ∃ (l : List Itm) (A : Option Addr) (n c : Nat), v = .slice A n c ∧ l.length = n ∧ n ≤ 9223372036854775807 ∧ ItmsAt w A l ∧ sumB bkI l + 1 ≤ Rows.uptoBulk x.1 := by
  obtain ⟨l, A, n, c, h1, h2, h3, h4, h5⟩ := open_slice (α := Itm) Tryz.underlying30 (by kernel_rfl : Tryz.prog.cellsOf 81 = 9) (by decide) (fun a cs => ∃ A n c, cs = [.int .i64 a.ag, .int .i64 a.ex.d.op, .string a.ex.d.tb, .string a.ex.d.nm, .int .i64 a.ex.d.ix, .int .i64 a.ex.d.vk, .int .i64 a.ex.d.vi, .string a.ex.d.vt, .slice A n c] ∧ ExV w a.ex A n c ∧ I64 a.ag) bkI (fun fuel cs x h => open_itm h) h
  refine ⟨l, A, n, c, h1, h2, h3, ?_, h5⟩
  intro i a ha
  obtain ⟨cs, b, off, ⟨A1, n1, c1, rfl, hx, hz⟩, hA, hc⟩ := h4 i a ha
  exact ⟨hz, b, off, A1, n1, c1, hA, by simpa using hc 0 _ rfl, ⟨hc 1 _ rfl, hc 2 _ rfl, hc 3 _ rfl, hc 4 _ rfl, hc 5 _ rfl, hc 6 _ rfl, hc 7 _ rfl, hc 8 _ rfl, hx⟩⟩
theorem open_src {fuel : Nat} {cs : List Value} {x : DataW H × List MemPlace} (h : DataW.trod enc Tryz.prog w base spare held fuel 61 cs = some x) :
    ∃ a : Src, (cs = [.string a.tb, .string a.al] ∧ a.tb.size ≤ 9223372036854775807 ∧ a.al.size ≤ 9223372036854775807) ∧ bkF a ≤ Rows.uptoBulk x.1 := by
  obtain ⟨xs, n, rfl, hxx, hl, hxl, hf⟩ := DataW.trod_struct Tryz.underlying61 h
  obtain ⟨c0, c1, rfl⟩ := lst2 (hl.trans (by kernel_rfl : Tryz.prog.cellsOf 61 = 2))
  have hxl : xs.length = 2 := hxl
  obtain ⟨x0, x1, rfl⟩ := lst2 hxl
  have h0 : DataW.trod enc Tryz.prog w base spare held n 9 (List.take (Tryz.prog.cellsOf 9) (List.drop 0 [c0, c1])) = some x0 := hf 0 _ rfl
  have h1 : DataW.trod enc Tryz.prog w base spare held n 9 (List.take (Tryz.prog.cellsOf 9) (List.drop 1 [c0, c1])) = some x1 := hf 1 _ rfl
  simp only [cl_str, List.drop_zero, List.drop_succ_cons, List.take_succ_cons, List.take_zero] at h0 h1
  have hb : Rows.uptoBulk x.1 = Rows.uptoBulk x0.1 + Rows.uptoBulk x1.1 + 1 := by rw [hxx]; simp [Rows.uptoBulk, Rows.uptoBulkAll]; try omega
  obtain ⟨a0, e0, y0, w0⟩ := DataW.trod_string Tryz.underlying9 h0
  have p0 : a0.size + 1 ≤ Rows.uptoBulk x0.1 := by rw [y0]; simp [Rows.uptoBulk]
  obtain ⟨a1, e1, y1, w1⟩ := DataW.trod_string Tryz.underlying9 h1
  have p1 : a1.size + 1 ≤ Rows.uptoBulk x1.1 := by rw [y1]; simp [Rows.uptoBulk]
  simp only [List.cons.injEq, and_true] at e0 e1
  subst e0 e1
  exact ⟨⟨a0, a1⟩, ⟨rfl, Nat.le_trans w0 (by unfold maxLen; omega), Nat.le_trans w1 (by unfold maxLen; omega)⟩, by rw [hb]; unfold bkF; dsimp only; omega⟩
instance : Inhabited Src := ⟨⟨⟨#[]⟩, ⟨#[]⟩⟩⟩
theorem open_srcs {fuel : Nat} {v : Value} {x : DataW H × List MemPlace} (h : DataW.trod enc Tryz.prog w base spare held fuel 31 [v] = some x) :
    ∃ (l : List Src) (A : Option Addr) (n c : Nat), v = .slice A n c ∧ l.length = n ∧ n ≤ 9223372036854775807 ∧ SrcsAt w A l ∧ sumB bkF l + 1 ≤ Rows.uptoBulk x.1 := by
  obtain ⟨l, A, n, c, h1, h2, h3, h4, h5⟩ := open_slice (α := Src) Tryz.underlying31 (by kernel_rfl : Tryz.prog.cellsOf 61 = 2) (by decide) (fun a cs => cs = [.string a.tb, .string a.al] ∧ a.tb.size ≤ 9223372036854775807 ∧ a.al.size ≤ 9223372036854775807) bkF (fun fuel cs x h => open_src h) h
  refine ⟨l, A, n, c, h1, h2, h3, ?_, h5⟩
  intro i a ha
  obtain ⟨cs, b, off, ⟨rfl, hz⟩, hA, hc⟩ := h4 i a ha
  exact ⟨hz, b, off, hA, by simpa using hc 0 _ rfl, hc 1 _ rfl⟩
theorem open_ord {fuel : Nat} {cs : List Value} {x : DataW H × List MemPlace} (h : DataW.trod enc Tryz.prog w base spare held fuel 77 cs = some x) :
    ∃ a : Ord', (cs = [.int .i64 a.it, .bool a.ds] ∧ I64 a.it) ∧ bkO a ≤ Rows.uptoBulk x.1 := by
  obtain ⟨xs, n, rfl, hxx, hl, hxl, hf⟩ := DataW.trod_struct Tryz.underlying77 h
  obtain ⟨c0, c1, rfl⟩ := lst2 (hl.trans (by kernel_rfl : Tryz.prog.cellsOf 77 = 2))
  have hxl : xs.length = 2 := hxl
  obtain ⟨x0, x1, rfl⟩ := lst2 hxl
  have h0 : DataW.trod enc Tryz.prog w base spare held n 3 (List.take (Tryz.prog.cellsOf 3) (List.drop 0 [c0, c1])) = some x0 := hf 0 _ rfl
  have h1 : DataW.trod enc Tryz.prog w base spare held n 4 (List.take (Tryz.prog.cellsOf 4) (List.drop 1 [c0, c1])) = some x1 := hf 1 _ rfl
  simp only [cl_bool, cl_int, List.drop_zero, List.drop_succ_cons, List.take_succ_cons, List.take_zero] at h0 h1
  have hb : Rows.uptoBulk x.1 = Rows.uptoBulk x0.1 + Rows.uptoBulk x1.1 + 1 := by rw [hxx]; simp [Rows.uptoBulk, Rows.uptoBulkAll]; try omega
  obtain ⟨a0, e0, _, w0⟩ := DataW.trod_int Tryz.underlying3 h0
  have p0 := bulk_pos x0.1
  obtain ⟨a1, e1, _⟩ := DataW.trod_bool Tryz.underlying4 h1
  have p1 := bulk_pos x1.1
  simp only [List.cons.injEq, and_true] at e0 e1
  subst e0 e1
  exact ⟨⟨a0, a1⟩, ⟨rfl, bounds_i64 w0⟩, by rw [hb]; unfold bkO; omega⟩
instance : Inhabited Ord' := ⟨⟨0, false⟩⟩
theorem open_ords {fuel : Nat} {v : Value} {x : DataW H × List MemPlace} (h : DataW.trod enc Tryz.prog w base spare held fuel 36 [v] = some x) :
    ∃ (l : List Ord') (A : Option Addr) (n c : Nat), v = .slice A n c ∧ l.length = n ∧ n ≤ 9223372036854775807 ∧ OrdsAt w A l ∧ sumB bkO l + 1 ≤ Rows.uptoBulk x.1 := by
  obtain ⟨l, A, n, c, h1, h2, h3, h4, h5⟩ := open_slice (α := Ord') Tryz.underlying36 (by kernel_rfl : Tryz.prog.cellsOf 77 = 2) (by decide) (fun a cs => cs = [.int .i64 a.it, .bool a.ds] ∧ I64 a.it) bkO (fun fuel cs x h => open_ord h) h
  refine ⟨l, A, n, c, h1, h2, h3, ?_, h5⟩
  intro i a ha
  obtain ⟨cs, b, off, ⟨rfl, hz⟩, hA, hc⟩ := h4 i a ha
  exact ⟨hz, b, off, hA, by simpa using hc 0 _ rfl, hc 1 _ rfl⟩
theorem open_def {fuel : Nat} {cs : List Value} {x : DataW H × List MemPlace} (h : DataW.trod enc Tryz.prog w base spare held fuel 27 cs = some x) :
    ∃ (l0 : List Cd) (l1 : List (List ByteArray)) (l2 : List Rf) (l3 : List Ex) (B1 B2 B3 B4 : Sl), cs = [B1.v, B2.v, B3.v, B4.v] ∧ (l0.length = B1.n ∧ B1.n ≤ 9223372036854775807 ∧ CdsAt w B1.A l0) ∧ (l1.length = B2.n ∧ B2.n ≤ 9223372036854775807 ∧ KeysAt w B2.A l1) ∧ (l2.length = B3.n ∧ B3.n ≤ 9223372036854775807 ∧ RfsAt w B3.A l2) ∧ (l3.length = B4.n ∧ B4.n ≤ 9223372036854775807 ∧ KidsAt w B4.A l3) ∧ sumB bkCd l0 + sumB bkK l1 + sumB bkRf l2 + sizeL l3 ≤ Rows.uptoBulk x.1 := by
  obtain ⟨xs, n, rfl, hxx, hl, hxl, hf⟩ := DataW.trod_struct Tryz.underlying27 h
  obtain ⟨c0, c1, c2, c3, rfl⟩ := lst4 (hl.trans (by kernel_rfl : Tryz.prog.cellsOf 27 = 4))
  have hxl : xs.length = 4 := hxl
  obtain ⟨x0, x1, x2, x3, rfl⟩ := lst4 hxl
  have h0 : DataW.trod enc Tryz.prog w base spare held n 22 (List.take (Tryz.prog.cellsOf 22) (List.drop 0 [c0, c1, c2, c3])) = some x0 := hf 0 _ rfl
  have h1 : DataW.trod enc Tryz.prog w base spare held n 23 (List.take (Tryz.prog.cellsOf 23) (List.drop 1 [c0, c1, c2, c3])) = some x1 := hf 1 _ rfl
  have h2 : DataW.trod enc Tryz.prog w base spare held n 24 (List.take (Tryz.prog.cellsOf 24) (List.drop 2 [c0, c1, c2, c3])) = some x2 := hf 2 _ rfl
  have h3 : DataW.trod enc Tryz.prog w base spare held n 25 (List.take (Tryz.prog.cellsOf 25) (List.drop 3 [c0, c1, c2, c3])) = some x3 := hf 3 _ rfl
  simp only [cl_cols, cl_exprs, cl_frs, cl_keys, List.drop_zero, List.drop_succ_cons, List.take_succ_cons, List.take_zero] at h0 h1 h2 h3
  have hb : Rows.uptoBulk x.1 = Rows.uptoBulk x0.1 + Rows.uptoBulk x1.1 + Rows.uptoBulk x2.1 + Rows.uptoBulk x3.1 + 1 := by rw [hxx]; simp [Rows.uptoBulk, Rows.uptoBulkAll]; try omega
  obtain ⟨a0, A0, n0, k0, e0, l0, m0, q0, p0⟩ := open_cols h0
  subst e0
  obtain ⟨a1, A1, n1, k1, e1, l1, m1, q1, p1⟩ := open_keys h1
  subst e1
  obtain ⟨a2, A2, n2, k2, e2, l2, m2, q2, p2⟩ := open_frs h2
  subst e2
  obtain ⟨a3, A3, n3, k3, e3, l3, m3, q3, p3⟩ := open_exprs h3
  subst e3
  exact ⟨a0, a1, a2, a3, ⟨A0, n0, k0⟩, ⟨A1, n1, k1⟩, ⟨A2, n2, k2⟩, ⟨A3, n3, k3⟩, rfl, ⟨l0, m0, q0⟩, ⟨l1, m1, q1⟩, ⟨l2, m2, q2⟩, ⟨l3, m3, q3⟩, by rw [hb]; omega⟩
/-- the bulk of a statement -/
def St.bulk (s : St) : Nat := s.tb.size + (sumB bkCd s.cols + sumB bkK s.keys + sumB bkRf s.frs + sizeL s.chk) + sumB bkR s.vals + sumB bkA s.sets + sumB bkI s.itms + sumB bkF s.frm + s.whr.size + sizeL s.grp + sumB bkO s.ord + s.nm.size
theorem open_st {fuel : Nat} {cs : List Value} {x : DataW H × List MemPlace} (h : DataW.trod enc Tryz.prog w base spare held fuel 38 cs = some x) :
    ∃ (s : St) (a : SA), cs = s.cells a ∧ StV w s a ∧ s.bulk ≤ Rows.uptoBulk x.1 := by
  obtain ⟨xs, n, rfl, hxx, hl, hxl, hf⟩ := DataW.trod_struct Tryz.underlying38 h
  obtain ⟨c0, c1, c2, c3, c4, c5, c6, c7, c8, c9, c10, c11, c12, c13, c14, c15, c16, c17, c18, c19, c20, c21, rfl⟩ := lst22 (hl.trans (by kernel_rfl : Tryz.prog.cellsOf 38 = 22))
  have hxl : xs.length = 12 := hxl
  obtain ⟨x0, x1, x2, x3, x4, x5, x6, x7, x8, x9, x10, x11, rfl⟩ := lst12 hxl
  have h0 : DataW.trod enc Tryz.prog w base spare held n 3 (List.take (Tryz.prog.cellsOf 3) (List.drop 0 [c0, c1, c2, c3, c4, c5, c6, c7, c8, c9, c10, c11, c12, c13, c14, c15, c16, c17, c18, c19, c20, c21])) = some x0 := hf 0 _ rfl
  have h1 : DataW.trod enc Tryz.prog w base spare held n 9 (List.take (Tryz.prog.cellsOf 9) (List.drop 1 [c0, c1, c2, c3, c4, c5, c6, c7, c8, c9, c10, c11, c12, c13, c14, c15, c16, c17, c18, c19, c20, c21])) = some x1 := hf 1 _ rfl
  have h2 : DataW.trod enc Tryz.prog w base spare held n 27 (List.take (Tryz.prog.cellsOf 27) (List.drop 2 [c0, c1, c2, c3, c4, c5, c6, c7, c8, c9, c10, c11, c12, c13, c14, c15, c16, c17, c18, c19, c20, c21])) = some x2 := hf 2 _ rfl
  have h3 : DataW.trod enc Tryz.prog w base spare held n 28 (List.take (Tryz.prog.cellsOf 28) (List.drop 6 [c0, c1, c2, c3, c4, c5, c6, c7, c8, c9, c10, c11, c12, c13, c14, c15, c16, c17, c18, c19, c20, c21])) = some x3 := hf 3 _ rfl
  have h4 : DataW.trod enc Tryz.prog w base spare held n 29 (List.take (Tryz.prog.cellsOf 29) (List.drop 7 [c0, c1, c2, c3, c4, c5, c6, c7, c8, c9, c10, c11, c12, c13, c14, c15, c16, c17, c18, c19, c20, c21])) = some x4 := hf 4 _ rfl
  have h5 : DataW.trod enc Tryz.prog w base spare held n 30 (List.take (Tryz.prog.cellsOf 30) (List.drop 8 [c0, c1, c2, c3, c4, c5, c6, c7, c8, c9, c10, c11, c12, c13, c14, c15, c16, c17, c18, c19, c20, c21])) = some x5 := hf 5 _ rfl
  have h6 : DataW.trod enc Tryz.prog w base spare held n 31 (List.take (Tryz.prog.cellsOf 31) (List.drop 9 [c0, c1, c2, c3, c4, c5, c6, c7, c8, c9, c10, c11, c12, c13, c14, c15, c16, c17, c18, c19, c20, c21])) = some x6 := hf 6 _ rfl
  have h7 : DataW.trod enc Tryz.prog w base spare held n 35 (List.take (Tryz.prog.cellsOf 35) (List.drop 10 [c0, c1, c2, c3, c4, c5, c6, c7, c8, c9, c10, c11, c12, c13, c14, c15, c16, c17, c18, c19, c20, c21])) = some x7 := hf 7 _ rfl
  have h8 : DataW.trod enc Tryz.prog w base spare held n 25 (List.take (Tryz.prog.cellsOf 25) (List.drop 18 [c0, c1, c2, c3, c4, c5, c6, c7, c8, c9, c10, c11, c12, c13, c14, c15, c16, c17, c18, c19, c20, c21])) = some x8 := hf 8 _ rfl
  have h9 : DataW.trod enc Tryz.prog w base spare held n 36 (List.take (Tryz.prog.cellsOf 36) (List.drop 19 [c0, c1, c2, c3, c4, c5, c6, c7, c8, c9, c10, c11, c12, c13, c14, c15, c16, c17, c18, c19, c20, c21])) = some x9 := hf 9 _ rfl
  have h10 : DataW.trod enc Tryz.prog w base spare held n 3 (List.take (Tryz.prog.cellsOf 3) (List.drop 20 [c0, c1, c2, c3, c4, c5, c6, c7, c8, c9, c10, c11, c12, c13, c14, c15, c16, c17, c18, c19, c20, c21])) = some x10 := hf 10 _ rfl
  have h11 : DataW.trod enc Tryz.prog w base spare held n 9 (List.take (Tryz.prog.cellsOf 9) (List.drop 21 [c0, c1, c2, c3, c4, c5, c6, c7, c8, c9, c10, c11, c12, c13, c14, c15, c16, c17, c18, c19, c20, c21])) = some x11 := hf 11 _ rfl
  simp only [cl_asgs, cl_def, cl_expr, cl_exprs, cl_int, cl_itms, cl_ords, cl_rows, cl_srcs, cl_str, List.drop_zero, List.drop_succ_cons, List.take_succ_cons, List.take_zero] at h0 h1 h2 h3 h4 h5 h6 h7 h8 h9 h10 h11
  have hb : Rows.uptoBulk x.1 = Rows.uptoBulk x0.1 + Rows.uptoBulk x1.1 + Rows.uptoBulk x2.1 + Rows.uptoBulk x3.1 + Rows.uptoBulk x4.1 + Rows.uptoBulk x5.1 + Rows.uptoBulk x6.1 + Rows.uptoBulk x7.1 + Rows.uptoBulk x8.1 + Rows.uptoBulk x9.1 + Rows.uptoBulk x10.1 + Rows.uptoBulk x11.1 + 1 := by rw [hxx]; simp [Rows.uptoBulk, Rows.uptoBulkAll]; try omega
  obtain ⟨a0, e0, _, w0⟩ := DataW.trod_int Tryz.underlying3 h0
  have p0 := bulk_pos x0.1
  obtain ⟨a1, e1, y1, w1⟩ := DataW.trod_string Tryz.underlying9 h1
  have p1 : a1.size + 1 ≤ Rows.uptoBulk x1.1 := by rw [y1]; simp [Rows.uptoBulk]
  obtain ⟨l2, k2, m2, n2, B1, B2, B3, B4, e2, g2, i2, j2, o2, p2⟩ := open_def h2
  simp only [List.cons.injEq, and_true] at e2
  obtain ⟨rfl, rfl, rfl, rfl⟩ := e2
  obtain ⟨a3, A3, n3, k3, e3, l3, m3, q3, p3⟩ := open_rows h3
  subst e3
  obtain ⟨a4, A4, n4, k4, e4, l4, m4, q4, p4⟩ := open_asgs h4
  subst e4
  obtain ⟨a5, A5, n5, k5, e5, l5, m5, q5, p5⟩ := open_itms h5
  subst e5
  obtain ⟨a6, A6, n6, k6, e6, l6, m6, q6, p6⟩ := open_srcs h6
  subst e6
  obtain ⟨a7, q7, _, p7⟩ := open_ex2 _ _ _ h7
  obtain ⟨a8, A8, n8, k8, e8, l8, m8, q8, p8⟩ := open_exprs h8
  subst e8
  obtain ⟨a9, A9, n9, k9, e9, l9, m9, q9, p9⟩ := open_ords h9
  subst e9
  obtain ⟨a10, e10, _, w10⟩ := DataW.trod_int Tryz.underlying3 h10
  have p10 := bulk_pos x10.1
  obtain ⟨a11, e11, y11, w11⟩ := DataW.trod_string Tryz.underlying9 h11
  have p11 : a11.size + 1 ≤ Rows.uptoBulk x11.1 := by rw [y11]; simp [Rows.uptoBulk]
  simp only [List.cons.injEq, and_true] at e0 e1 e10 e11
  subst e0 e1 e10 e11
  obtain ⟨A7, n7, k7, hc, hx⟩ := exc_elt2 q7
  unfold Nd.cells at hc
  simp only [List.cons.injEq, and_true] at hc
  obtain ⟨rfl, rfl, rfl, rfl, rfl, rfl, rfl, rfl⟩ := hc
  refine ⟨⟨a0, a1, l2, k2, m2, n2, a3, a4, a5, a6, a7, a8, a9, a10, a11⟩, ⟨B1, B2, B3, B4, ⟨A3, n3, k3⟩, ⟨A4, n4, k4⟩, ⟨A5, n5, k5⟩, ⟨A6, n6, k6⟩, ⟨A7, n7, k7⟩, ⟨A8, n8, k8⟩, ⟨A9, n9, k9⟩⟩, rfl, ?_, ?_⟩
  · exact ⟨bounds_i64 w0, Nat.le_trans w1 (by unfold maxLen; omega), bounds_i64 w10, Nat.le_trans w11 (by unfold maxLen; omega), g2, i2, j2, o2, ⟨l3, m3, q3.1⟩, q3.2, ⟨l4, m4, q4⟩, ⟨l5, m5, q5⟩, ⟨l6, m6, q6⟩, hx, ⟨l8, m8, q8⟩, ⟨l9, m9, q9⟩⟩
  · rw [hb]
    unfold St.bulk
    dsimp only
    omega
end
/-- an argument, opened -/
theorem open_stmt {H : Type} {enc : TypeId × Value → H} {w : World} {base b0 : Nat} {r : Reach} {spare : Nat → Bool} {held : Bool} {v : Value} {d : DataW H} {p : List MemPlace} (hv : Value.okWide Tryz.prog w r b0 38 v)
    (h : DataW.Trod enc Tryz.prog w base spare held 38 v d p) : ∃ (s : St) (a : SA), v = s.val a ∧ StV w s a ∧ s.bulk ≤ Rows.uptoBulk d := by
  obtain ⟨cs, rfl, hsz⟩ := okWide_struct Tryz.underlying38 hv
  obtain ⟨fuel, hf⟩ := h
  obtain ⟨s, a, h1, h2, h3⟩ := open_st hf
  refine ⟨s, a, ?_, h2, h3⟩
  obtain ⟨l⟩ := cs
  have h1 : l = s.cells a := h1
  subst h1
  rfl
end Go.Proofs.YtcdnodjcnofogaaGreatDoor
