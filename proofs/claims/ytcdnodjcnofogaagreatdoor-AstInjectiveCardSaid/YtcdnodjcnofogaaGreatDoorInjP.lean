/-
  The canonical text of a formed expression determines it; no program in sight.
-/
import Derived.Test.YtcdnodjcnofogaaGreatDoorText
import Derived.Lib.ItoaNum
namespace Go.Proofs.YtcdnodjcnofogaaGreatDoor
open Go.RowKit
set_option linter.unusedVariables false
set_option linter.unusedSimpArgs false
set_option maxHeartbeats 1000000

/-- what a text tells -/
inductive PT where
  | num (l : List Nat)
  | txt (l : List Nat)
  | null
  | col (t n : List Nat)
  | un (op : Int) (a : PT)
  | bin (op : Int) (a b : PT)
def ptOf (d : Nd) (xs : List PT) : PT :=
  if d.op = 1 then (if d.vk = 1 then .num (N (itoB d.vi)) else if d.vk = 2 then .txt (N d.vt) else .null)
  else if d.op = 2 then .col (N d.tb) (N d.nm)
  else match xs with
    | [a] => .un d.op a
    | [a, b] => .bin d.op a b
    | _ => .null
mutual
def Ex.pt : Ex → PT
  | .mk d ks => ptOf d (ptL ks)
def ptL : List Ex → List PT
  | [] => []
  | e :: es => e.pt :: ptL es
end
theorem N_app (a b : ByteArray) : N (a ++ b) = N a ++ N b := by simp [N]
/-- digits -/
def isDg (c : Nat) : Bool := decide (48 ≤ c) && decide (c ≤ 57)
/-- a quoted text, behind its first quote -/
def rdq : List Nat → Option (List Nat × List Nat)
  | [] => none
  | [c] => if c = 39 then some ([], []) else none
  | c :: c2 :: t => if c = 39 then (if c2 = 39 then (rdq t).map fun x => (39 :: x.1, x.2) else some ([], c2 :: t)) else (rdq (c2 :: t)).map fun x => (c :: x.1, x.2)
def quoN : List Nat → List Nat
  | [] => []
  | c :: r => if c = 39 then 39 :: 39 :: quoN r else c :: quoN r
theorem N_quoB (t : ByteArray) : N (quoB t) = quoN (N t) := by
  unfold N quoB
  show (quo t.data.toList).map UInt8.toNat = _
  induction t.data.toList with
  | nil => rfl
  | cons c r ih =>
    rw [quo, List.map_cons, quoN]
    by_cases h : c = 39
    · subst h
      rw [if_pos rfl, if_pos (show (39 : UInt8).toNat = 39 from rfl), List.map_cons, List.map_cons, ih]
      rfl
    · have h2 : ¬ c.toNat = 39 := fun h2 => h (UInt8.toNat_inj.1 h2)
      rw [if_neg h, if_neg h2, List.map_cons, ih]
theorem rdq_quo (l s : List Nat) (hs : s = [] ∨ ∃ c t, s = c :: t ∧ (c = 32 ∨ c = 41)) : rdq (quoN l ++ 39 :: s) = some (l, s) := by
  induction l with
  | nil =>
    rcases hs with rfl | ⟨c, t, rfl, hc⟩
    · rfl
    · show rdq (39 :: c :: t) = _
      rw [rdq, if_pos rfl, if_neg (by omega)]
  | cons c r ih =>
    rw [quoN]
    by_cases h : c = 39
    · subst h
      rw [if_pos rfl]
      show rdq (39 :: 39 :: (quoN r ++ 39 :: s)) = _
      rw [rdq, if_pos rfl, if_pos rfl, ih]
      rfl
    · rw [if_neg h]
      show rdq (c :: (quoN r ++ 39 :: s)) = _
      cases hq : quoN r ++ 39 :: s with
      | nil => simp at hq
      | cons c2 t =>
        rw [rdq, if_neg h, ← hq, ih]
        rfl
/-- the operator with which a text goes on -/
def opAt (r : Nat) : List Nat → Option (Int × List Nat)
  | 32 :: 79 :: 82 :: 32 :: t => if r = 1 then some (19, t) else none
  | 32 :: 65 :: 78 :: 68 :: 32 :: t => if r = 2 then some (18, t) else none
  | 32 :: 43 :: 32 :: t => if r = 5 then some (4, t) else none
  | 32 :: 45 :: 32 :: t => if r = 5 then some (5, t) else none
  | 32 :: 42 :: 32 :: t => if r = 6 then some (6, t) else none
  | 32 :: 47 :: 32 :: t => if r = 6 then some (7, t) else none
  | 32 :: 37 :: 32 :: t => if r = 6 then some (8, t) else none
  | 32 :: 61 :: 32 :: t => if r = 4 then some (10, t) else none
  | 32 :: 60 :: 62 :: 32 :: t => if r = 4 then some (11, t) else none
  | 32 :: 60 :: 32 :: t => if r = 4 then some (12, t) else none
  | 32 :: 60 :: 61 :: 32 :: t => if r = 4 then some (13, t) else none
  | 32 :: 62 :: 32 :: t => if r = 4 then some (14, t) else none
  | 32 :: 62 :: 61 :: 32 :: t => if r = 4 then some (15, t) else none
  | 32 :: 76 :: 73 :: 75 :: 69 :: 32 :: t => if r = 4 then some (16, t) else none
  | 32 :: 73 :: 83 :: 32 :: 78 :: 85 :: 76 :: 76 :: t => if r = 4 then some (17, t) else none
  | _ => none
/-- what a primary asks for -/
inductive Rq where
  | done (x : PT) (u : List Nat)
  | sub (len : Bool) (t : List Nat)
  | bad
def colq (s : List Nat) : Rq :=
  match s.dropWhile isNmC with
  | 46 :: v => .done (.col (s.takeWhile isNmC) (v.takeWhile isNmC)) (v.dropWhile isNmC)
  | v => .done (.col [] (s.takeWhile isNmC)) v
def primc (c : Nat) (t : List Nat) : Rq :=
    if c = 40 then .sub false t
    else if c = 39 then (match rdq t with | some x => .done (.txt x.1) x.2 | none => .bad)
    else if c = 76 then (match t with | 69 :: 78 :: 71 :: 84 :: 72 :: 40 :: u => .sub true u | _ => .bad)
    else if c = 78 then (match t with | 85 :: 76 :: 76 :: u => .done .null u | _ => .bad)
    else if isDg c then .done (.num ((c :: t).takeWhile isDg)) ((c :: t).dropWhile isDg)
    else if isLow c then colq (c :: t)
    else .bad
def primq : List Nat → Rq
  | [] => .bad
  | c :: t => primc c t
/-- an operator ahead of its operand -/
def preAt (r : Nat) : List Nat → Option (Int × List Nat)
  | 45 :: t => if r = 7 then some (3, t) else none
  | 78 :: 79 :: 84 :: 32 :: t => if r = 3 then some (20, t) else none
  | _ => none
def closeq (len : Bool) (x : PT × List Nat) : Option (PT × List Nat) :=
  match x.2 with
  | 41 :: u => some (if len then .un 9 x.1 else x.1, u)
  | _ => none
mutual
def pr : Nat → Nat → List Nat → Option (PT × List Nat)
  | 0, _, _ => none
  | f + 1, r, s =>
    if r = 8 then (match primq s with
      | .done x u => some (x, u)
      | .sub b t => (pr f 1 t).bind (closeq b)
      | .bad => none)
    else match preAt r s with
      | some (op, t) => (pr f (if r = 7 then 8 else 3) t).bind fun x => some (.un op x.1, x.2)
      | none => (pr f (r + 1) s).bind fun x => lp f r x.1 x.2
def lp : Nat → Nat → PT → List Nat → Option (PT × List Nat)
  | 0, _, _, _ => none
  | f + 1, r, x, s =>
    match opAt r s with
    | none => some (x, s)
    | some (op, t) => if op = 17 then lp f r (.un 17 x) t else (pr f (r + 1) t).bind fun y => lp f r (.bin op x y.1) y.2
end
def Le {α : Type} (a b : Option α) : Prop := ∀ y, a = some y → b = some y
theorem Le.refl {α : Type} (a : Option α) : Le a a := fun _ h => h
theorem Le.bind {α β : Type} {a b : Option α} {f g : α → Option β} (h : Le a b) (k : ∀ x, Le (f x) (g x)) : Le (a.bind f) (b.bind g) := by
  intro y hy
  cases ha : a with
  | none => rw [ha] at hy; cases hy
  | some x =>
    rw [ha] at hy
    rw [h x ha]
    exact k x y hy
theorem pl_mono : ∀ f, (∀ r s, Le (pr f r s) (pr (f + 1) r s)) ∧ (∀ r x s, Le (lp f r x s) (lp (f + 1) r x s)) := by
  intro f
  induction f with
  | zero =>
    refine ⟨fun r s y h => ?_, fun r x s y h => ?_⟩
    · rw [pr] at h; cases h
    · rw [lp] at h; cases h
  | succ f ih =>
    refine ⟨fun r s => ?_, fun r x s => ?_⟩
    · rw [pr, pr]
      by_cases hr : r = 8
      · rw [if_pos hr, if_pos hr]
        cases primq s with
        | done x u => exact Le.refl _
        | sub b t => exact Le.bind (ih.1 _ _) fun x => Le.refl _
        | bad => exact Le.refl _
      · rw [if_neg hr, if_neg hr]
        cases preAt r s with
        | none => exact Le.bind (ih.1 _ _) fun x => ih.2 _ _ _
        | some z => exact Le.bind (ih.1 _ _) fun x => Le.refl _
    · rw [lp, lp]
      cases opAt r s with
      | none => exact Le.refl _
      | some z =>
        by_cases h : z.1 = 17
        · simp only [h, if_true]; exact ih.2 _ _ _
        · simp only [h, if_false]; exact Le.bind (ih.1 _ _) fun x => ih.2 _ _ _
theorem pr_up (f k r : Nat) (s : List Nat) {y : PT × List Nat} (h : pr f r s = some y) : pr (f + k) r s = some y := by
  induction k with
  | zero => exact h
  | succ k ih => exact (pl_mono _).1 _ _ _ ih
theorem lp_up (f k r : Nat) (x : PT) (s : List Nat) {y : PT × List Nat} (h : lp f r x s = some y) : lp (f + k) r x s = some y := by
  induction k with
  | zero => exact h
  | succ k ih => exact (pl_mono _).2 _ _ _ _ ih
def PR (r : Nat) (s : List Nat) (y : PT × List Nat) : Prop := ∃ f, pr f r s = some y
def LP (r : Nat) (x : PT) (s : List Nat) (y : PT × List Nat) : Prop := ∃ f, lp f r x s = some y
theorem PR.det {r : Nat} {s : List Nat} {y z : PT × List Nat} (h : PR r s y) (k : PR r s z) : y = z := by
  obtain ⟨f, h⟩ := h
  obtain ⟨g, k⟩ := k
  have h1 := pr_up f g r s h
  have k1 := pr_up g f r s k
  rw [Nat.add_comm, h1] at k1
  exact Option.some.inj k1
theorem PR.done {s u : List Nat} {x : PT} (h : primq s = .done x u) : PR 8 s (x, u) := ⟨1, by rw [pr, if_pos rfl, h]⟩
theorem PR.sub {s t u : List Nat} {x : PT} {b : Bool} (h : primq s = .sub b t) (k : PR 1 t (x, 41 :: u)) : PR 8 s (if b then .un 9 x else x, u) := by
  obtain ⟨f, k⟩ := k
  refine ⟨f + 1, ?_⟩
  rw [pr, if_pos rfl, h]
  show (pr f 1 t).bind (closeq b) = _
  rw [k]
  rfl
theorem PR.pre {r : Nat} {s t u : List Nat} {x : PT} {op : Int} (hr : r ≠ 8) (h : preAt r s = some (op, t)) (k : PR (if r = 7 then 8 else 3) t (x, u)) : PR r s (.un op x, u) := by
  obtain ⟨f, k⟩ := k
  refine ⟨f + 1, ?_⟩
  rw [pr, if_neg hr, h]
  show (pr f (if r = 7 then 8 else 3) t).bind (fun x => some (PT.un op x.1, x.2)) = _
  rw [k]
  rfl
theorem PR.step {r : Nat} {s t : List Nat} {x : PT} {z : PT × List Nat} (hr : r ≠ 8) (h : preAt r s = none) (k : PR (r + 1) s (x, t)) (l : LP r x t z) : PR r s z := by
  obtain ⟨f, k⟩ := k
  obtain ⟨g, l⟩ := l
  refine ⟨f + g + 1, ?_⟩
  rw [pr, if_neg hr, h]
  show (pr (f + g) (r + 1) s).bind (fun x => lp (f + g) r x.1 x.2) = _
  rw [pr_up f g _ _ k]
  have := lp_up g f _ _ _ l
  rw [Nat.add_comm] at this
  exact this
theorem LP.stop {r : Nat} {s : List Nat} (x : PT) (h : opAt r s = none) : LP r x s (x, s) := ⟨1, by rw [lp, h]⟩
theorem LP.none {r : Nat} {s : List Nat} {x : PT} {z : PT × List Nat} (h : opAt r s = none) (k : LP r x s z) : z = (x, s) := by
  obtain ⟨f, k⟩ := k
  cases f with
  | zero => rw [lp] at k; cases k
  | succ f => rw [lp, h] at k; exact (Option.some.inj k).symm
theorem LP.isn {r : Nat} {s t : List Nat} {x : PT} {z : PT × List Nat} (h : opAt r s = some (17, t)) (l : LP r (.un 17 x) t z) : LP r x s z := by
  obtain ⟨f, l⟩ := l
  exact ⟨f + 1, by rw [lp, h]; exact l⟩
theorem LP.op {r : Nat} {s t u : List Nat} {op : Int} {x y : PT} {z : PT × List Nat} (h : opAt r s = some (op, t)) (ho : op ≠ 17) (k : PR (r + 1) t (y, u)) (l : LP r (.bin op x y) u z) : LP r x s z := by
  obtain ⟨f, k⟩ := k
  obtain ⟨g, l⟩ := l
  refine ⟨f + g + 1, ?_⟩
  rw [lp, h]
  show (if op = 17 then lp (f + g) r (.un 17 x) t else (pr (f + g) (r + 1) t).bind fun y => lp (f + g) r (.bin op x y.1) y.2) = _
  rw [if_neg ho, pr_up f g _ _ k]
  have := lp_up g f _ _ _ l
  rw [Nat.add_comm] at this
  exact this
/-- what may follow -/
def Edge (s : List Nat) : Prop := s = [] ∨ ∃ c t, s = c :: t ∧ (c = 32 ∨ c = 41)
def Above (r : Nat) (s : List Nat) : Prop := ∀ q, r < q → opAt q s = none
theorem ladder {T s : List Nat} {x : PT} : ∀ (n r : Nat) (z : PT × List Nat), r + (n + 1) ≤ 8 → PR (r + (n + 1)) T (x, s) → (∀ k, r ≤ k → k < r + (n + 1) → preAt k T = none) → Above r s → LP r x s z → PR r T z := by
  intro n
  induction n with
  | zero => intro r z hr h hp _ l; exact PR.step (by omega) (hp r (by omega) (by omega)) h l
  | succ n ih =>
    intro r z hr h hp ha l
    refine PR.step (by omega) (hp r (by omega) (by omega)) (ih (r + 1) (x, s) (by omega) ?_ (fun k h1 h2 => hp k (by omega) (by omega)) (fun q hq => ha q (by omega)) (LP.stop x (ha _ (by omega)))) l
    rw [show r + 1 + (n + 1) = r + (n + 1 + 1) by omega]
    exact h
theorem climb {T s : List Nat} {x : PT} {q r : Nat} {z : PT × List Nat} (hrq : r < q) (hq : q ≤ 8) (h : PR q T (x, s)) (h7 : r ≤ 7 → 7 < q → preAt 7 T = none) (h3 : r ≤ 3 → 3 < q → preAt 3 T = none) (ha : Above r s) (l : LP r x s z) : PR r T z := by
  obtain ⟨n, rfl⟩ : ∃ n, q = r + (n + 1) := ⟨q - r - 1, by omega⟩
  refine ladder n r z hq h (fun k h1 h2 => ?_) ha l
  by_cases k7 : k = 7
  · subst k7; exact h7 h1 h2
  · by_cases k3 : k = 3
    · subst k3; exact h3 h1 h2
    · unfold preAt
      split
      · rw [if_neg k7]
      · rw [if_neg k3]
      · rfl
end Go.Proofs.YtcdnodjcnofogaaGreatDoor
