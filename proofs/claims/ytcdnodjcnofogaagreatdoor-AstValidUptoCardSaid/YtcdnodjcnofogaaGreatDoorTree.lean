/-
  Plain functions on expressions; no program in sight.
-/
import Derived.Test.YtcdnodjcnofogaaGreatDoorBase
namespace Go.Proofs.YtcdnodjcnofogaaGreatDoor
open Go.RowKit

/-- the fields of a node, but for its operands -/
structure Nd where
  op : Int
  tb : ByteArray
  nm : ByteArray
  ix : Int
  vk : Int
  vi : Int
  vt : ByteArray
/-- an expression -/
inductive Ex where
  | mk (d : Nd) (ks : List Ex)
def Ex.d : Ex → Nd
  | .mk d _ => d
def Ex.ks : Ex → List Ex
  | .mk _ ks => ks
theorem Ex.eta (e : Ex) : Ex.mk e.d e.ks = e := by cases e; rfl
mutual
/-- the number of all nodes -/
def Ex.size : Ex → Nat
  | .mk _ ks => 1 + sizeL ks
def sizeL : List Ex → Nat
  | [] => 0
  | e :: es => e.size + sizeL es
end
theorem size_pos (e : Ex) : 1 ≤ e.size := by cases e; rw [Ex.size]; omega
theorem sizeL_mem {e : Ex} {l : List Ex} (h : e ∈ l) : e.size ≤ sizeL l := by
  induction l with
  | nil => cases h
  | cons a l ih =>
    rw [sizeL]
    rcases List.mem_cons.1 h with rfl | h
    · omega
    · have := ih h; omega
theorem size_kid {e : Ex} {d : Nd} {ks : List Ex} (h : e ∈ ks) : e.size < (Ex.mk d ks).size := by
  rw [Ex.size]; have := sizeL_mem h; omega
/-- induction -/
theorem Ex.ind {P : Ex → Prop} (h : ∀ d ks, (∀ e ∈ ks, P e) → P (.mk d ks)) : ∀ e, P e := by
  have key : ∀ n e, e.size ≤ n → P e := by
    intro n
    induction n with
    | zero => intro e he; have := size_pos e; omega
    | succ n ih =>
      intro e he
      cases e with
      | mk d ks => exact h d ks fun k hk => ih k (by have := size_kid (d := d) hk; omega)
  exact fun e => key _ e (Nat.le_refl _)

/-- the fields of a node but for its operator and its operands are empty -/
def Nd.valZ (d : Nd) : Bool := d.vk == 0 && d.vi == 0 && d.vt.size == 0
/-- names -/
def isLow (c : Nat) : Bool := decide (97 ≤ c) && decide (c ≤ 122)
def isNmC (c : Nat) : Bool := isLow c || c == 95 || decide (48 ≤ c) && decide (c ≤ 57)
def kwWords : List (List Nat) := [[97, 110, 100], [97, 115], [97, 115, 99], [98, 101, 103, 105, 110], [98, 101, 116, 119, 101, 101, 110], [98, 121], [99, 104, 101, 99, 107], [99, 111, 109, 109, 105, 116], [99, 111, 117, 110, 116], [99, 114, 101, 97, 116, 101], [100, 101, 108, 101, 116, 101], [100, 101, 115, 99], [102, 111, 114, 101, 105, 103, 110], [102, 114, 111, 109], [103, 114, 111, 117, 112], [105, 110], [105, 110, 115, 101, 114, 116], [105, 110, 116, 101, 103, 101, 114], [105, 110, 116, 111], [105, 115], [106, 111, 105, 110], [107, 101, 121], [108, 101, 110, 103, 116, 104], [108, 105, 107, 101], [108, 105, 109, 105, 116], [109, 97, 120], [109, 105, 110], [110, 111, 116], [110, 117, 108, 108], [111, 110], [111, 114], [111, 114, 100, 101, 114], [112, 114, 105, 109, 97, 114, 121], [114, 101, 102, 101, 114, 101, 110, 99, 101, 115], [114, 101, 108, 101, 97, 115, 101], [114, 111, 108, 108, 98, 97, 99, 107], [115, 97, 118, 101, 112, 111, 105, 110, 116], [115, 101, 108, 101, 99, 116], [115, 101, 116], [115, 117, 109], [116, 97, 98, 108, 101], [116, 101, 120, 116], [116, 111], [117, 110, 105, 113, 117, 101], [117, 112, 100, 97, 116, 101], [118, 97, 108, 117, 101, 115], [119, 104, 101, 114, 101]]
def fstLow : List Nat → Bool
  | [] => false
  | c :: _ => isLow c
def nameL (l : List Nat) : Bool := fstLow l && l.all isNmC && decide (l.length ≤ 24) && !kwWords.contains l
def nameB (s : ByteArray) : Bool := nameL (N s)
def namesB (l : List ByteArray) : Bool := !l.isEmpty && l.all nameB
/-- texts -/
def textB (s : ByteArray) : Bool := (N s).all (fun c => decide (32 ≤ c) && decide (c ≤ 126)) && decide (s.size ≤ 16)
/-- the value of a literal -/
def Nd.litB (d : Nd) : Bool :=
  if d.vk = 0 then d.vi == 0 && d.vt.size == 0
  else if d.vk = 1 then decide (0 ≤ d.vi) && decide (d.vi ≤ 2147483648) && d.vt.size == 0
  else if d.vk = 2 then d.vi == 0 && textB d.vt
  else false
/-- the number of operands of an operator -/
def opN (op : Int) : Int :=
  if op = 1 ∨ op = 2 then 0
  else if op = 3 ∨ op = 9 ∨ op = 17 ∨ op = 20 then 1
  else if 4 ≤ op ∧ op ≤ 8 ∨ 10 ≤ op ∧ op ≤ 16 ∨ op = 18 ∨ op = 19 then 2
  else -1
/-- a node is well-formed, over its operands' nodes -/
def ndB (d : Nd) (ks : List Nd) : Bool :=
  if d.op = 2 then nameB d.nm && (d.tb.size == 0 || nameB d.tb) && d.valZ
  else if d.op = 1 then d.tb.size == 0 && d.nm.size == 0 && d.litB
  else if d.op = 16 ∧ ((ks.getD 1 d).op ≠ 1 ∨ (ks.getD 1 d).vk ≠ 2) then false
  else d.tb.size == 0 && d.nm.size == 0 && d.valZ
mutual
/-- well-formed -/
def Ex.formed : Ex → Bool
  | .mk d ks => opN d.op == (ks.length : Int) && formedL ks && ndB d (ks.map Ex.d)
def formedL : List Ex → Bool
  | [] => true
  | e :: es => e.formed && formedL es
end
theorem formedL_all (l : List Ex) : formedL l = l.all Ex.formed := by
  induction l with
  | nil => rfl
  | cons e l ih => rw [formedL, ih]; rfl
mutual
/-- the number of nodes with an operator -/
def Ex.nodes : Ex → Nat
  | .mk d ks => (if d.op = 0 then 0 else 1) + nodesL ks
def nodesL : List Ex → Nat
  | [] => 0
  | e :: es => e.nodes + nodesL es
end
theorem nodesL_app (a b : List Ex) : nodesL (a ++ b) = nodesL a + nodesL b := by
  induction a with
  | nil => simp [nodesL]
  | cons e a ih => simp [nodesL, ih]; omega
mutual
/-- the depth -/
def Ex.depth : Ex → Nat
  | .mk d ks => (if d.op = 0 then 0 else 1) + depthL ks
def depthL : List Ex → Nat
  | [] => 0
  | e :: es => max e.depth (depthL es)
end
theorem depthL_app (a b : List Ex) : depthL (a ++ b) = max (depthL a) (depthL b) := by
  induction a with
  | nil => simp [depthL]
  | cons e a ih => rw [List.cons_append, depthL, depthL, ih]; omega
theorem depthL_le (l : List Ex) : depthL l ≤ nodesL l ∧ ∀ e ∈ l, e.depth ≤ e.nodes := by
  have h : ∀ e : Ex, e.depth ≤ e.nodes := by
    intro e
    induction e using Ex.ind with
    | h d ks ih =>
      have : depthL ks ≤ nodesL ks := by
        clear d
        induction ks with
        | nil => simp [depthL, nodesL]
        | cons a ks ih2 =>
          rw [depthL, nodesL]
          have h1 := ih a (by simp)
          have h2 := ih2 fun e he => ih e (by simp [he])
          omega
      rw [Ex.depth, Ex.nodes]; omega
  refine ⟨?_, fun e _ => h e⟩
  induction l with
  | nil => simp [depthL, nodesL]
  | cons a l ih => rw [depthL, nodesL]; have := h a; omega
mutual
/-- the columns -/
def Ex.cols : Ex → List Ex
  | .mk d ks => (if d.op = 2 then [Ex.mk d ks] else []) ++ colsL ks
def colsL : List Ex → List Ex
  | [] => []
  | e :: es => e.cols ++ colsL es
end
theorem colsL_app (a b : List Ex) : colsL (a ++ b) = colsL a ++ colsL b := by
  induction a with
  | nil => simp [colsL]
  | cons e a ih => simp [colsL, ih]
theorem cols_len : ∀ e : Ex, e.cols.length ≤ e.size := by
  intro e
  induction e using Ex.ind with
  | h d ks ih =>
    have : (colsL ks).length ≤ sizeL ks := by
      clear d
      induction ks with
      | nil => simp [colsL, sizeL]
      | cons a ks ih2 =>
        rw [colsL, sizeL, List.length_append]
        have h1 := ih a (by simp)
        have h2 := ih2 fun e he => ih e (by simp [he])
        omega
    rw [Ex.cols, Ex.size, List.length_append]
    split <;> simp <;> omega
/-- nodes are equal, apart from Index -/
def Nd.same (a b : Nd) : Bool := a.op == b.op && N a.tb == N b.tb && N a.nm == N b.nm && (a.vk == b.vk && a.vi == b.vi && N a.vt == N b.vt)
mutual
/-- equal, apart from Index -/
def Ex.same : Ex → Ex → Bool
  | .mk d ks, .mk d' ks' => d.same d' && sameL ks ks'
def sameL : List Ex → List Ex → Bool
  | [], [] => true
  | e :: es, e' :: es' => e.same e' && sameL es es'
  | _, _ => false
end
theorem sameL_iff : ∀ (a b : List Ex), sameL a b = true ↔ a.length = b.length ∧ ∀ (i : Nat) (x y : Ex), a[i]? = some x → b[i]? = some y → x.same y = true := by
  intro a
  induction a with
  | nil => intro b; cases b <;> simp [sameL]
  | cons e a ih =>
    intro b
    cases b with
    | nil => simp [sameL]
    | cons f b =>
      rw [sameL, Bool.and_eq_true, ih]
      constructor
      · rintro ⟨h1, h2, h3⟩
        refine ⟨by simp [h2], fun i x y hx hy => ?_⟩
        cases i with
        | zero => simp at hx hy; subst hx hy; exact h1
        | succ i => exact h3 i x y (by simpa using hx) (by simpa using hy)
      · rintro ⟨h2, h3⟩
        exact ⟨h3 0 e f rfl rfl, by simpa using h2, fun i x y hx hy => h3 (i + 1) x y (by simpa using hx) (by simpa using hy)⟩
/-- the empty expression -/
def ndZ : Nd := ⟨0, ⟨#[]⟩, ⟨#[]⟩, 0, 0, 0, ⟨#[]⟩⟩
def exZ : Ex := .mk ndZ []
def Ex.absent (e : Ex) : Bool := e.d.op == 0 && e.d.tb.size == 0 && e.d.nm.size == 0 && e.d.valZ && e.ks.isEmpty
theorem N_empty (s : ByteArray) : (N s == []) = (s.size == 0) := by
  rw [Bool.eq_iff_iff, beq_iff_eq, beq_iff_eq]
  constructor
  · intro h; rw [← N_len, h]; rfl
  · intro h; exact List.eq_nil_of_length_eq_zero (by rw [N_len]; exact h)
theorem N_nil' : N ⟨#[]⟩ = [] := rfl
theorem same_absent (e : Ex) : e.same exZ = e.absent := by
  cases e with
  | mk d ks =>
    unfold exZ ndZ Ex.absent Nd.valZ Ex.d Ex.ks
    rw [Ex.same, Nd.same]
    simp only [N_nil', N_empty]
    cases ks <;> simp [sameL]
/-- the level of an operator -/
def lvl (op : Int) : Int :=
  if op = 19 then 1 else if op = 18 then 2 else if op = 20 then 3 else if op = 4 ∨ op = 5 then 5 else if 6 ≤ op ∧ op ≤ 8 then 6 else if op = 3 then 7
  else if op = 1 ∨ op = 2 ∨ op = 9 then 8 else 4
theorem same_refl (e : Ex) : e.same e = true := by
  induction e using Ex.ind with
  | h d ks ih =>
    rw [Ex.same, Bool.and_eq_true, sameL_iff]
    refine ⟨by simp [Nd.same], rfl, fun i x y hx hy => ?_⟩
    obtain rfl := Option.some.inj (hx.symm.trans hy)
    exact ih x (List.mem_of_getElem? hx)
theorem Nd.same_comm (a b : Nd) : a.same b = b.same a := by
  have h : ∀ {α : Type} [BEq α] [LawfulBEq α] (x y : α), (x == y) = (y == x) := fun x y => by rw [Bool.eq_iff_iff, beq_iff_eq, beq_iff_eq]; exact eq_comm
  unfold Nd.same
  rw [h a.op, h (N a.tb), h (N a.nm), h a.vk, h a.vi, h (N a.vt)]
theorem same_comm : ∀ a b : Ex, a.same b = b.same a := by
  intro a
  induction a using Ex.ind with
  | h d ks ih =>
    intro b
    cases b with
    | mk d' ks' =>
      rw [Ex.same, Ex.same, Nd.same_comm]
      congr 1
      rw [Bool.eq_iff_iff, sameL_iff, sameL_iff]
      constructor
      · rintro ⟨h1, h2⟩
        exact ⟨h1.symm, fun i x y hx hy => by rw [← ih y (List.mem_of_getElem? hy) x]; exact h2 i y x hy hx⟩
      · rintro ⟨h1, h2⟩
        exact ⟨h1.symm, fun i x y hx hy => by rw [ih x (List.mem_of_getElem? hx) y]; exact h2 i y x hy hx⟩
end Go.Proofs.YtcdnodjcnofogaaGreatDoor
