/-
  Plain laws on lists, for the walks over history. · Memory that stays: facts that hold in every world that agrees on some blocks; rows of values of the call's own. · The sizes of the texts of a history; no program in sight. · The sentences of a wait, as plain functions; a schema in memory.
-/
import Derived.Test.YtdjdhkbomhendaaGreatDoorGf
import Derived.Test.YtdjdhkbomhendaaGreatDoorGc
namespace Go.Proofs.YtdjdhkbomhendaaGreatDoor
open Go.RowKit
set_option linter.unusedVariables false

theorem rat_lt {α : Type} {L : List α} {i n : Nat} (hl : L.length = n) (h : i < n) : ∃ e, L[i]? = some e := ⟨_, List.getElem?_eq_getElem (by omega)⟩
/-- an index, or -1 -/
def IdxOf (b : Bool) (r : Ending) : Prop := ∃ x : Int, (-9223372036854775808 ≤ x ∧ x ≤ 9223372036854775807) ∧ r = .returned (.int .i64 x) ∧ decide (0 ≤ x) = b
theorem any_take {α : Type} {l : List α} {k : Nat} {e : α} {p : α → Bool} (h : l[k]? = some e) (hp : p e = true) : l.any p = true := List.any_eq_true.2 ⟨e, List.mem_of_getElem? h, hp⟩
theorem any_step {α : Type} {l : List α} {k : Nat} {e : α} {p : α → Bool} (h : l[k]? = some e) (h0 : (l.take k).any p = false) (hp : p e = false) : (l.take (k + 1)).any p = false := by
  obtain ⟨hi, rfl⟩ := List.getElem?_eq_some_iff.1 h
  rw [List.take_succ_eq_append_getElem hi, List.any_append, h0]
  simp [hp]
theorem any_end {α : Type} {l : List α} {n : Nat} {p : α → Bool} (hl : l.length = n) (h0 : (l.take n).any p = false) : l.any p = false := by
  rwa [List.take_of_length_le (by omega)] at h0
theorem any_not {α : Type} (p : α → Bool) : ∀ l : List α, (!l.any fun a => !p a) = l.all p
  | [] => rfl
  | a :: l => by
    rw [List.any_cons, List.all_cons, ← any_not p l]
    cases p a <;> simp
/-- the function can be entered -/
def Ent (F : FuncId) : Prop := ∀ (args : Array Value) (W : World), (callFunc F args).run Tryz.prog W = .ok (.enter F args) W
def STo {α : Type} (f : α → α → Bool) (l m : List α) (k : Nat) : Prop := ∀ (i : Nat), i < k → ∀ (x y : α), l[i]? = some x → m[i]? = some y → f x y = true
theorem STo.zero {α : Type} (f : α → α → Bool) (l m : List α) : STo f l m 0 := fun i hi => by omega
theorem STo.succ {α : Type} {f : α → α → Bool} {l m : List α} {k : Nat} {x y : α} (h : STo f l m k) (hx : l[k]? = some x) (hy : m[k]? = some y) (hf : f x y = true) : STo f l m (k + 1) := by
  intro i hi x' y' hx' hy'
  by_cases he : i = k
  · subst he
    obtain rfl := Option.some.inj (hx.symm.trans hx')
    obtain rfl := Option.some.inj (hy.symm.trans hy')
    exact hf
  · exact h i (by omega) x' y' hx' hy'
theorem eqL_yes {α : Type} {f : α → α → Bool} {l m : List α} {n : Nat} (hl : l.length = n) (hm : m.length = n) (h : STo f l m n) : eqL f l m = true :=
  eqL_all l m (by omega) fun k a b ha hb => h k (by have := (List.getElem?_eq_some_iff.1 ha).1; omega) a b ha hb
theorem fold_take {α β : Type} {l : List α} {k : Nat} {a : α} (f : β → α → β) (b : β) (h : l[k]? = some a) : (l.take (k + 1)).foldl f b = f ((l.take k).foldl f b) a := by
  rw [take_step h, List.foldl_append]
  rfl
end Go.Proofs.YtdjdhkbomhendaaGreatDoor
namespace Go.Proofs.YtdjdhkbomhendaaGreatDoor
open Go.RowKit
set_option linter.unusedVariables false

/-- P holds in every world that is as w on the blocks in S -/
def Kp (S : Nat → Prop) (w : World) (P : World → Prop) : Prop := ∀ w2 : World, (∀ k, k < w.heap.size → S k → w2.heap[k]? = w.heap[k]?) → P w2
theorem Kp.here {S : Nat → Prop} {w : World} {P : World → Prop} (h : Kp S w P) : P w := h w fun _ _ _ => rfl
theorem Kp.mono {S S' : Nat → Prop} {w w' : World} {P : World → Prop} (h : Kp S w P) (hs : w.heap.size ≤ w'.heap.size) (hS : ∀ k, k < w.heap.size → S k → S' k)
    (hk : ∀ k, k < w.heap.size → S k → w'.heap[k]? = w.heap[k]?) : Kp S' w' P :=
  fun w2 h2 => h w2 fun k h3 h4 => (h2 k (Nat.lt_of_lt_of_le h3 hs) (hS k h3 h4)).trans (hk k h3 h4)
theorem Kp.ext {S : Nat → Prop} {w w' : World} {P : World → Prop} (h : Kp S w P) (hx : Ext w w') : Kp S w' P :=
  h.mono hx.size (fun _ _ h => h) fun k hk _ => Below.block hx k hk
theorem Kp.sub {S S' : Nat → Prop} {w : World} {P : World → Prop} (h : Kp S w P) (hS : ∀ k, k < w.heap.size → S k → S' k) : Kp S' w P :=
  h.mono (Nat.le_refl _) hS fun _ _ _ => rfl
theorem Kp.imp {S : Nat → Prop} {w : World} {P Q : World → Prop} (h : Kp S w P) (hPQ : ∀ w, P w → Q w) : Kp S w Q := fun w2 h2 => hPQ w2 (h w2 h2)
theorem Kp.at {S : Nat → Prop} {w w' : World} {P : World → Prop} (h : Kp S w P) (hk : ∀ k, k < w.heap.size → S k → w'.heap[k]? = w.heap[k]?) : P w' := h w' hk
/-- what lies behind B -/
def Up (B : Nat) (k : Nat) : Prop := B ≤ k
/-- behind B, but not the block of v -/
def UpBut (B : Nat) (v : Value) (k : Nat) : Prop := B ≤ k ∧ some k ≠ v.ownBlock
theorem own_same {w w2 : World} {B e sz n : Nat} {v : Value} {xs : List Value} (h : w.ownsRow B e sz v n xs) (hb : ∀ g, v.ownBlock = some g → w2.heap[g]? = w.heap[g]?) : w2.ownsRow B e sz v n xs := by
  obtain ⟨h1, h2⟩ := h
  refine ⟨h1, ?_⟩
  rcases h2 with h2 | ⟨g, cap, cur, rfl, hg, hh, r⟩
  · exact .inl h2
  · exact .inr ⟨g, cap, cur, rfl, hg, (hb g rfl).trans hh, r⟩
theorem own_kp {w : World} {B e sz n : Nat} {v : Value} {xs : List Value} (h : w.ownsRow B e sz v n xs) {P : World → Prop} (hP : ∀ w2 : World, w2.ownsRow B e sz v n xs → P w2) : Kp (Up B) w P :=
  fun w2 h2 => hP w2 (own_same h fun g hg => h2 g (h.lt g hg).2 (h.lt g hg).1)
/-- the cells of a list of structs -/
theorem flat_get {α : Type} (f : α → List Value) (s : Nat) (hf : ∀ a, (f a).length = s) : ∀ (l : List α) (i j : Nat) (a : α), l[i]? = some a → j < s → (l.flatMap f)[i * s + j]? = (f a)[j]?
  | [], i, j, a, h, hj => by simp at h
  | b :: l, 0, j, a, h, hj => by
    obtain rfl : b = a := by simpa using h
    rw [List.flatMap_cons, List.getElem?_append_left (by rw [hf]; omega)]
    simp
  | b :: l, i + 1, j, a, h, hj => by
    rw [List.flatMap_cons, List.getElem?_append_right (by rw [hf]; rw [Nat.succ_mul]; omega), hf, show (i + 1) * s + j - s = i * s + j by rw [Nat.succ_mul]; omega]
    exact flat_get f s hf l i j a (by simpa using h) hj
theorem flat_len {α : Type} (f : α → List Value) (s : Nat) (hf : ∀ a, (f a).length = s) : ∀ l : List α, (l.flatMap f).length = l.length * s
  | [] => by simp
  | b :: l => by rw [List.flatMap_cons, List.length_append, hf, flat_len f s hf l, List.length_cons, Nat.succ_mul]; omega
theorem add0 (g j : Nat) : (⟨g, 0, none⟩ : Addr).add j = ⟨g, j, none⟩ := by unfold Addr.add; split <;> simp_all
theorem own_cell {w : World} {B e sz n : Nat} {v : Value} {xs : List Value} (h : w.ownsRow B e sz v n xs) {j : Nat} {u : Value} (hu : xs[j]? = some u) : ∃ g c, v = .slice (some ⟨g, 0, none⟩) n c ∧ w.cell? ⟨g, j, none⟩ = some u := by
  rcases h.2 with ⟨rfl, rfl⟩ | ⟨g, cap, cur, rfl, _⟩
  · have : xs = [] := List.eq_nil_of_length_eq_zero (by have := h.1; omega)
    subst this
    simp at hu
  · have := h.cells (g := g) rfl j u hu
    rw [add0] at this
    exact ⟨g, cap, rfl, this⟩
theorem own_slice {w : World} {B e sz n : Nat} {v : Value} {xs : List Value} (h : w.ownsRow B e sz v n xs) : ∃ A c, v = .slice A n c := by
  rcases h.2 with ⟨rfl, rfl⟩ | ⟨g, cap, cur, rfl, _⟩
  · exact ⟨_, _, rfl⟩
  · exact ⟨_, _, rfl⟩
/-- the cells of values -/
def valC (a : Val) : List Value := [.int .i64 a.k, .int .i64 a.n, .string a.t]
def valcs (l : List Val) : List Value := l.flatMap valC
theorem valcs_app (l m : List Val) : valcs (l ++ m) = valcs l ++ valcs m := by simp [valcs]
theorem own_row {w : World} {B n : Nat} {v : Value} {l : List Val} (e : TypeId) (h : w.ownsRow B e 3 v n (valcs l)) : RowAt w v l := by
  have hn : l.length = n := by
    have := h.1
    rw [valcs, flat_len valC 3 (fun _ => rfl)] at this
    omega
  obtain ⟨A, c, rfl⟩ := own_slice h
  refine ⟨A, c, by rw [hn], fun i a ha => ?_⟩
  have get : ∀ j, j < 3 → (valcs l)[i * 3 + j]? = (valC a)[j]? := fun j hj => flat_get valC 3 (fun _ => rfl) l i j a ha hj
  obtain ⟨g, c', e0, h0⟩ := own_cell h (j := i * 3 + 0) (get 0 (by omega))
  obtain ⟨g1, c1, e1, h1⟩ := own_cell h (j := i * 3 + 1) (get 1 (by omega))
  obtain ⟨g2, c2, e2, h2⟩ := own_cell h (j := i * 3 + 2) (get 2 (by omega))
  injection e0 with e0 _ _
  injection e1 with e1 _ _
  injection e2 with e2 _ _
  subst e0
  simp only [Option.some.injEq, Addr.mk.injEq, and_true] at e1 e2
  subst e1 e2
  exact ⟨g, 0, rfl, by simpa using h0, by simpa using h1, by simpa using h2⟩
theorem own_rowK {w : World} {B n : Nat} {v : Value} {l : List Val} (e : TypeId) (h : w.ownsRow B e 3 v n (valcs l)) : Kp (Up B) w fun w2 => RowAt w2 v l := own_kp h fun w2 h2 => own_row e h2
end Go.Proofs.YtdjdhkbomhendaaGreatDoor
namespace Go.Proofs.YtdjdhkbomhendaaGreatDoor
open Go.RowKit
set_option linter.unusedVariables false

def i64 (n : Int) : Prop := -9223372036854775808 ≤ n ∧ n ≤ 9223372036854775807
theorem fmtV_sz {a : Val} (h : i64 a.n) : (fmtV a).size ≤ 40 := by
  have h1 := itoB_size a.n h.1 h.2
  have h2 := quoB_size a.t
  unfold fmtV
  split
  · rename_i hv
    have h3 := validV_size hv
    split
    · decide
    · split
      · omega
      · rw [ByteArray.size_append, ByteArray.size_append]
        show 1 + _ + 1 ≤ 40
        omega
  · decide
theorem fmtRow_sz {l : List Val} (h : rowBd l) : (fmtRow l).size ≤ 42 * l.length + 2 := by
  unfold fmtRow
  split
  · have h1 := join_len [44, 32] 40 ((fmtS l).map (·.data.toList)) (fun x hx => by
      rw [List.mem_map] at hx
      obtain ⟨y, hy, rfl⟩ := hx
      unfold fmtS at hy
      rw [List.mem_map] at hy
      obtain ⟨a, ha, rfl⟩ := hy
      exact fmtV_sz (h a ha))
    rw [List.length_map] at h1
    have h2 : (fmtS l).length = l.length := by unfold fmtS; rw [List.length_map]
    rw [h2] at h1
    rw [ByteArray.size_append, ByteArray.size_append]
    have h3 : (⟨(Lib.join ((fmtS l).map (·.data.toList)) [44, 32]).toArray⟩ : ByteArray).size = (Lib.join ((fmtS l).map (·.data.toList)) [44, 32]).length := by
      show (Lib.join ((fmtS l).map (·.data.toList)) [44, 32]).toArray.size = _
      simp
    rw [h3]
    show 1 + _ + 1 ≤ _
    have h4 : l.length * (40 + [(44 : UInt8), 32].length) = 42 * l.length := by rw [Nat.mul_comm]; rfl
    omega
  · exact Nat.zero_le _
/-- small rows, reasons, events -/
def smR (r : List Val) : Prop := r.length ≤ 4000 ∧ rowBd r ∧ ∀ a ∈ r, a.t.size ≤ 4000000
def Wt.sm (x : Wt) : Prop := i64 x.tx ∧ i64 x.tb ∧ smR x.row
def Ev.sm (e : Ev) : Prop := (i64 e.kd ∧ i64 e.ss ∧ i64 e.tx ∧ i64 e.st ∧ i64 e.er ∧ i64 e.ct) ∧ e.rows.length ≤ 4000 ∧ e.wts.length ≤ 4000 ∧ (∀ r ∈ e.rows, smR r) ∧ ∀ x ∈ e.wts, Wt.sm x
theorem smR_fmt {r : List Val} (h : smR r) : (fmtRow r).size ≤ 168002 := by
  have := fmtRow_sz h.2.1
  have := h.1
  omega
theorem sz1 (a b : ByteArray) : (a ++ b).size = a.size + b.size := ByteArray.size_append
theorem itoB_sz {n : Int} (h : i64 n) : (itoB n).size ≤ 21 := itoB_size n h.1 h.2
theorem line_sz {x : Wt} (h : x.sm) : x.line.size ≤ 168100 := by
  have h1 := itoB_sz h.1
  have h2 := itoB_sz h.2.1
  have h3 := smR_fmt h.2.2
  unfold Wt.line
  rw [sz1, sz1, sz1, sz1, sz1, sz1]
  show 4 + _ + 1 + _ + 1 + _ + 1 ≤ _
  omega
theorem rowLn_sz {r : List Val} (h : smR r) : (rowLn r).size ≤ 168100 := by
  have h3 := smR_fmt h
  unfold rowLn
  rw [sz1, sz1]
  show 4 + _ + 1 ≤ _
  omega
theorem ite_sz {c : Prop} [Decidable c] {a b : ByteArray} {n : Nat} (ha : a.size ≤ n) (hb : b.size ≤ n) : (if c then a else b).size ≤ n := by
  split
  · exact ha
  · exact hb
theorem kwB_sz (k : Int) : (kwB k).size ≤ 10 := by
  unfold kwB
  repeat (refine ite_sz (by decide) ?_)
  decide
theorem head_sz {e : Ev} (h : e.sm) : e.head.size ≤ 200 := by
  obtain ⟨⟨_, h1, h2, h3, h4, h5⟩, _⟩ := h
  have k1 := itoB_sz h1
  have k2 := itoB_sz h2
  have k3 := itoB_sz h3
  have k4 := itoB_sz h4
  have k5 := itoB_sz h5
  have k6 := kwB_sz e.kd
  have sp : ∀ n, (spN n).size = 1 + (itoB n).size := fun n => by unfold spN; rw [sz1]; rfl
  have ha : (if e.kd < 11 then kwB e.kd ++ spN e.ss ++ spN e.tx ++ spN e.st else kwB e.kd).size ≤ 80 := by
    split
    · rw [sz1, sz1, sz1, sp, sp, sp]; omega
    · omega
  have hb : (if e.kd = 5 then (if e.kd < 11 then kwB e.kd ++ spN e.ss ++ spN e.tx ++ spN e.st else kwB e.kd) ++ spN e.ct else (if e.kd < 11 then kwB e.kd ++ spN e.ss ++ spN e.tx ++ spN e.st else kwB e.kd)).size ≤ 110 := by
    split
    · rw [sz1, sp]; omega
    · omega
  unfold Ev.head
  dsimp only
  split
  · omega
  · rw [sz1, sp]; omega
theorem fold_sz {α : Type} (f : α → ByteArray) (M : Nat) : ∀ (l : List α) (b : ByteArray), (∀ x ∈ l, (f x).size ≤ M) → (l.foldl (fun a x => a ++ f x) b).size ≤ b.size + M * l.length
  | [], b, _ => by simp
  | x :: l, b, h => by
    have h1 := fold_sz f M l (b ++ f x) fun y hy => h y (List.mem_cons_of_mem _ hy)
    have h2 := h x (List.mem_cons_self ..)
    rw [List.foldl_cons, List.length_cons, Nat.mul_succ]
    rw [sz1] at h1
    omega
def wtsB (b : ByteArray) (l : List Wt) : ByteArray := l.foldl (fun a x => a ++ x.line) b
def rowsB (b : ByteArray) (l : List (List Val)) : ByteArray := l.foldl (fun a r => a ++ rowLn r) b
theorem wtsB_sz {l : List Wt} {b : ByteArray} (h : ∀ x ∈ l, Wt.sm x) (hl : l.length ≤ 4000) : (wtsB b l).size ≤ b.size + 672400000 := by
  have := fold_sz Wt.line 168100 l b fun x hx => line_sz (h x hx)
  unfold wtsB
  omega
theorem rowsB_sz {l : List (List Val)} {b : ByteArray} (h : ∀ x ∈ l, smR x) (hl : l.length ≤ 4000) : (rowsB b l).size ≤ b.size + 672400000 := by
  have := fold_sz rowLn 168100 l b fun x hx => rowLn_sz (h x hx)
  unfold rowsB
  omega
theorem lines_eq (e : Ev) : e.lines = rowsB (wtsB (e.head ++ nlB) e.wts) e.rows := rfl
theorem lines_sz {e : Ev} (h : e.sm) : e.lines.size ≤ 1344800300 := by
  have h1 := head_sz h
  have h2 := wtsB_sz (b := e.head ++ nlB) h.2.2.2.2 h.2.2.1
  have h3 := rowsB_sz (b := wtsB (e.head ++ nlB) e.wts) h.2.2.2.1 h.2.1
  rw [lines_eq]
  rw [sz1] at h2
  have : nlB.size = 1 := rfl
  omega
theorem textH_sz {l : List Ev} (h : ∀ e ∈ l, Ev.sm e) : (textH l).size ≤ 1344800300 * l.length := by
  have := fold_sz Ev.lines 1344800300 l ⟨#[]⟩ fun x hx => lines_sz (h x hx)
  have e0 : (⟨#[]⟩ : ByteArray).size = 0 := rfl
  unfold textH
  omega
theorem wtsB_take {l : List Wt} {k : Nat} {x : Wt} (b : ByteArray) (h : l[k]? = some x) : wtsB b (l.take (k + 1)) = wtsB b (l.take k) ++ x.line := fold_take _ b h
theorem rowsB_take {l : List (List Val)} {k : Nat} {x : List Val} (b : ByteArray) (h : l[k]? = some x) : rowsB b (l.take (k + 1)) = rowsB b (l.take k) ++ rowLn x := fold_take _ b h
theorem textH_take {l : List Ev} {k : Nat} {x : Ev} (h : l[k]? = some x) : textH (l.take (k + 1)) = textH (l.take k) ++ x.lines := fold_take _ _ h
end Go.Proofs.YtdjdhkbomhendaaGreatDoor
namespace Go.Proofs.YtdjdhkbomhendaaGreatDoor
open Go.RowKit
set_option linter.unusedVariables false
set_option linter.unusedSimpArgs false
set_option maxHeartbeats 400000

/-- a table's names -/
structure Tb where
  nm : ByteArray
  cols : List ByteArray
def namedW (S : List Tb) (x : Wt) : Bool := match S[x.tb.toNat]? with
  | some t => decide (0 ≤ x.tb) && t.cols.length == x.row.length
  | none => false
def tbOf (S : List Tb) (x : Wt) : Tb := (S[x.tb.toNat]?).getD ⟨⟨#[]⟩, []⟩
/-- a value of the sentence -/
def pcW (S : List Tb) (x : Wt) (i : Nat) (v : Val) : ByteArray := if namedW S x = true then ((tbOf S x).cols[i]?).getD ⟨#[]⟩ ++ ⟨#[32, 61, 32]⟩ ++ fmtV v else fmtV v
def pcsW (S : List Tb) (x : Wt) (k : Nat) : List ByteArray := (x.row.take k).mapIdx (pcW S x)
def endW (S : List Tb) (x : Wt) : ByteArray := if namedW S x = true then ⟨#[32, 111, 102, 32]⟩ ++ (tbOf S x).nm else ⟨#[32, 111, 102, 32, 116, 97, 98, 108, 101, 32]⟩ ++ itoB x.tb
def trW : ByteArray := ⟨#[116, 114, 97, 110, 115, 97, 99, 116, 105, 111, 110, 32]⟩
def wfW : ByteArray := ⟨#[32, 119, 97, 105, 116, 115, 32, 102, 111, 114, 32, 116, 114, 97, 110, 115, 97, 99, 116, 105, 111, 110, 32]⟩
def rwW : ByteArray := ⟨#[58, 32, 114, 111, 119, 32, 40]⟩
def headW (tx : Int) (x : Wt) : ByteArray := trW ++ itoB tx ++ wfW ++ itoB x.tx ++ rwW
def joinB (l : List ByteArray) : ByteArray := ⟨(Lib.join (l.map (·.data.toList)) [44, 32]).toArray⟩
def expW (S : List Tb) (tx : Int) (x : Wt) : ByteArray := headW tx x ++ joinB (pcsW S x x.row.length) ++ ⟨#[41]⟩ ++ endW S x
def expP (S : List Tb) (e : Ev) : List ByteArray := if e.kd = 2 then e.wts.map (expW S e.tx) else []
theorem pcs_step {S : List Tb} {x : Wt} {k : Nat} {v : Val} (h : x.row[k]? = some v) : pcsW S x (k + 1) = pcsW S x k ++ [pcW S x k v] := by
  unfold pcsW
  rw [take_step h, List.mapIdx_concat]
  have hk : k ≤ x.row.length := Nat.le_of_lt (List.getElem?_eq_some_iff.1 h).1
  rw [List.length_take, Nat.min_eq_left hk]
theorem pcs_len {S : List Tb} {x : Wt} {k : Nat} (h : k ≤ x.row.length) : (pcsW S x k).length = k := by
  unfold pcsW
  rw [List.length_mapIdx, List.length_take, Nat.min_eq_left h]
theorem join_snocB (sep : List UInt8) (l : List (List UInt8)) (y : List UInt8) : Lib.join (l ++ [y]) sep = Lib.join l sep ++ (if l = [] then [] else sep) ++ y := by
  cases l with
  | nil => simp [Lib.join_cons, Lib.join_nil, Lib.joinTail]
  | cons x r =>
    rw [List.cons_append, Lib.join_cons, Lib.join_cons, if_neg (by simp)]
    have h := Lib.joinTail_take_succ sep (r ++ [y]) r.length y (by simp)
    rw [List.take_of_length_le (by simp), List.take_left] at h
    rw [h]
    simp
/-- the schema is small -/
def tbSm (t : Tb) : Prop := t.nm.size ≤ 1000 ∧ ∀ c ∈ t.cols, c.size ≤ 1000
def smS (S : List Tb) : Prop := S.length ≤ 4000 ∧ ∀ t ∈ S, tbSm t
theorem getD_sz {l : List ByteArray} (h : ∀ c ∈ l, c.size ≤ 1000) (i : Nat) : ((l[i]?).getD ⟨#[]⟩).size ≤ 1000 := by
  cases hi : l[i]? with
  | none => exact Nat.zero_le _
  | some c => exact h c (List.mem_of_getElem? hi)
theorem tb_sm {S : List Tb} (h : smS S) (x : Wt) : tbSm (tbOf S x) := by
  unfold tbOf
  cases hi : S[x.tb.toNat]? with
  | none => exact ⟨Nat.zero_le _, fun c h => by simp at h⟩
  | some t => exact h.2 t (List.mem_of_getElem? hi)
theorem pc_sz {S : List Tb} {x : Wt} (h : smS S) {v : Val} (hv : i64 v.n) (i : Nat) : (pcW S x i v).size ≤ 1043 := by
  unfold pcW
  have h1 := fmtV_sz hv
  split
  · have h2 := getD_sz (tb_sm h x).2 i
    rw [sz1, sz1]
    have h3 : (⟨#[32, 61, 32]⟩ : ByteArray).size = 3 := rfl
    omega
  · omega
theorem pcs_mem {S : List Tb} {x : Wt} {k : Nat} {b : ByteArray} (h : b ∈ pcsW S x k) : ∃ i v, v ∈ x.row ∧ b = pcW S x i v := by
  unfold pcsW at h
  obtain ⟨i, hi, h⟩ := List.mem_mapIdx.1 h
  exact ⟨i, _, List.mem_of_mem_take (List.getElem_mem hi), h.symm⟩
theorem pcs_join {S : List Tb} {x : Wt} (h : smS S) (hr : x.row.length ≤ 4000) (hv : ∀ v ∈ x.row, i64 v.n) (k : Nat) (hk : k ≤ x.row.length) : (joinB (pcsW S x k)).size ≤ 4200000 := by
  have h1 := join_len [44, 32] 1043 ((pcsW S x k).map (·.data.toList)) (fun y hy => by
    obtain ⟨b, hb, rfl⟩ := List.mem_map.1 hy
    obtain ⟨i, v, hv', rfl⟩ := pcs_mem hb
    exact pc_sz h (hv v hv') i)
  rw [List.length_map, pcs_len hk] at h1
  have h2 : k * (1043 + [(44 : UInt8), 32].length) ≤ 4000 * 1045 := Nat.mul_le_mul (by omega) (Nat.le_refl _)
  unfold joinB
  show ((Lib.join ((pcsW S x k).map (·.data.toList)) [44, 32]).toArray).size ≤ 4200000
  rw [List.size_toArray]
  omega
theorem headW_sz {tx : Int} {x : Wt} (h : i64 tx) (hx : i64 x.tx) : (headW tx x).size ≤ 100 := by
  unfold headW
  rw [sz1, sz1, sz1, sz1]
  have h1 := itoB_sz h
  have h2 := itoB_sz hx
  have h3 : trW.size = 12 := rfl
  have h4 : wfW.size = 23 := rfl
  have h5 : rwW.size = 7 := rfl
  omega
theorem end_sz {S : List Tb} {x : Wt} (h : smS S) (hx : i64 x.tb) : (endW S x).size ≤ 1100 := by
  unfold endW
  have h1 := itoB_sz hx
  have h2 := (tb_sm h x).1
  split
  · rw [sz1]
    have h3 : (⟨#[32, 111, 102, 32]⟩ : ByteArray).size = 4 := rfl
    omega
  · rw [sz1]
    have h3 : (⟨#[32, 111, 102, 32, 116, 97, 98, 108, 101, 32]⟩ : ByteArray).size = 10 := rfl
    omega
/-- columns in memory -/
def ColsAt (w : World) (v : Value) (l : List ByteArray) : Prop := ∃ A c, v = .slice A l.length c ∧ ∀ (j : Nat) (n : ByteArray), l[j]? = some n → ∃ b off, A = some ⟨b, off, none⟩ ∧ w.cell? ⟨b, off + j * 6, none⟩ = some (.string n)
theorem ColsAt.ext {w w' : World} {v : Value} {l : List ByteArray} (h : ColsAt w v l) (hx : Ext w w') : ColsAt w' v l := by
  obtain ⟨A, c, h1, h2⟩ := h
  exact ⟨A, c, h1, fun j n hn => by
    obtain ⟨b, off, h3, h4⟩ := h2 j n hn
    exact ⟨b, off, h3, hx.keep h4⟩⟩
/-- a schema in memory -/
def TbsAt (w : World) (A : Option Addr) (S : List Tb) : Prop := ∀ (i : Nat) (t : Tb), S[i]? = some t → ∃ b off v, A = some ⟨b, off, none⟩ ∧ w.cell? ⟨b, off + i * 5, none⟩ = some (.string t.nm) ∧ w.cell? ⟨b, off + i * 5 + 1, none⟩ = some v ∧ ColsAt w v t.cols
theorem TbsAt.ext {w w' : World} {A : Option Addr} {S : List Tb} (h : TbsAt w A S) (hx : Ext w w') : TbsAt w' A S := fun i t ht => by
  obtain ⟨b, off, v, h1, h2, h3, h4⟩ := h i t ht
  exact ⟨b, off, v, h1, hx.keep h2, hx.keep h3, h4.ext hx⟩
/-- strings in a row of the call's own -/
def StrsR (B : Nat) (l : List ByteArray) (r : Ending) (w' : World) : Prop := ∃ v, r = .returned v ∧ w'.ownsRow B 9 1 v l.length (strs l)
end Go.Proofs.YtdjdhkbomhendaaGreatDoor
