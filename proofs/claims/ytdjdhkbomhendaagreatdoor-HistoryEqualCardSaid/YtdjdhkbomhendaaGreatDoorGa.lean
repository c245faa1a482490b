/-
  Values: the order. · Walks over the value package: Compare. · Walks over the value package and its reference: Texts, Compare of the reference; Valid.
-/
import Derived.Test.YtdjdhkbomhendaaGreatDoorOwn
import Derived.Lib.Bytealg
namespace Go.Proofs.YtdjdhkbomhendaaGreatDoor
set_option linter.unusedVariables false
set_option linter.unusedSimpArgs false
open Go.RowKit
set_option maxHeartbeats 400000

theorem cb_range : ∀ a b : List UInt8, Lib.compareBytes a b = -1 ∨ Lib.compareBytes a b = 0 ∨ Lib.compareBytes a b = 1
  | [], [] => by simp [Lib.compareBytes]
  | [], _ :: _ => by simp [Lib.compareBytes]
  | _ :: _, [] => by simp [Lib.compareBytes]
  | a :: as, b :: bs => by
    rw [Lib.compareBytes]
    split
    · simp
    · split
      · simp
      · exact cb_range as bs
theorem cb_anti : ∀ a b : List UInt8, Lib.compareBytes a b = -Lib.compareBytes b a
  | [], [] => by simp [Lib.compareBytes]
  | [], _ :: _ => by simp [Lib.compareBytes]
  | _ :: _, [] => by simp [Lib.compareBytes]
  | a :: as, b :: bs => by
    rw [Lib.compareBytes, Lib.compareBytes]
    have h := cb_anti as bs
    by_cases h1 : a < b
    · have h2 : ¬ b < a := fun h => by rw [UInt8.lt_iff_toNat_lt] at h1 h; omega
      rw [if_pos h1, if_neg h2, if_pos h1]
    · by_cases h2 : b < a
      · rw [if_neg h1, if_pos h2, if_pos h2]; rfl
      · rw [if_neg h1, if_neg h2, if_neg h2, if_neg h1]; exact h
theorem cb_zero : ∀ a b : List UInt8, Lib.compareBytes a b = 0 ↔ a = b
  | [], [] => by simp [Lib.compareBytes]
  | [], _ :: _ => by simp [Lib.compareBytes]
  | _ :: _, [] => by simp [Lib.compareBytes]
  | a :: as, b :: bs => by
    rw [Lib.compareBytes]
    have h := cb_zero as bs
    by_cases h1 : a < b
    · rw [if_pos h1]
      have : a ≠ b := fun e => by subst e; rw [UInt8.lt_iff_toNat_lt] at h1; omega
      simp [this]
    · by_cases h2 : b < a
      · rw [if_neg h1, if_pos h2]
        have : a ≠ b := fun e => by subst e; rw [UInt8.lt_iff_toNat_lt] at h2; omega
        simp [this]
      · rw [if_neg h1, if_neg h2, h]
        have : a = b := UInt8.toNat_inj.1 (by rw [UInt8.lt_iff_toNat_lt] at h1 h2; omega)
        simp [this]
theorem cb_trans : ∀ a b c : List UInt8, Lib.compareBytes a b ≤ 0 → Lib.compareBytes b c ≤ 0 → Lib.compareBytes a c ≤ 0 ∧ (Lib.compareBytes a c = 0 → Lib.compareBytes a b = 0 ∧ Lib.compareBytes b c = 0)
  | [], [], [] => by simp [Lib.compareBytes]
  | [], [], _ :: _ => by simp [Lib.compareBytes]
  | [], _ :: _, [] => by simp [Lib.compareBytes]
  | [], _ :: _, _ :: _ => by simp [Lib.compareBytes]
  | _ :: _, [], _ => by simp [Lib.compareBytes]
  | _ :: _, _ :: _, [] => by simp [Lib.compareBytes]
  | a :: as, b :: bs, c :: cs => by
    intro h1 h2
    rw [Lib.compareBytes] at h1 h2
    rw [Lib.compareBytes, Lib.compareBytes, Lib.compareBytes]
    have ih := cb_trans as bs cs
    simp only [UInt8.lt_iff_toNat_lt] at *
    by_cases a1 : a.toNat < b.toNat
    · by_cases b1 : b.toNat < c.toNat
      · rw [if_pos (by omega)]
        simp
      · by_cases b2 : c.toNat < b.toNat
        · rw [if_neg b1, if_pos b2] at h2
          omega
        · rw [if_pos (by omega : a.toNat < c.toNat)]
          simp
    · by_cases a2 : b.toNat < a.toNat
      · rw [if_neg a1, if_pos a2] at h1
        omega
      · rw [if_neg a1, if_neg a2] at h1 ⊢
        by_cases b1 : b.toNat < c.toNat
        · rw [if_pos (by omega : a.toNat < c.toNat)]
          simp
        · by_cases b2 : c.toNat < b.toNat
          · rw [if_neg b1, if_pos b2] at h2
            omega
          · rw [if_neg b1, if_neg b2] at h2 ⊢
            rw [if_neg (by omega), if_neg (by omega)]
            exact ih h1 h2

/-- the order of numbers -/
def cmpI (x y : Int) : Int := if x < y then -1 else if y < x then 1 else 0
theorem cmpI_range (x y : Int) : cmpI x y = -1 ∨ cmpI x y = 0 ∨ cmpI x y = 1 := by unfold cmpI; split <;> (try split) <;> simp
theorem cmpI_zero (x y : Int) : cmpI x y = 0 ↔ x = y := by unfold cmpI; split <;> (try split) <;> omega
theorem cmpI_anti (x y : Int) : cmpI x y = -cmpI y x := by
  unfold cmpI
  by_cases h1 : x < y
  · rw [if_pos h1, if_neg (by omega), if_pos h1]
  · by_cases h2 : y < x
    · rw [if_neg h1, if_pos h2, if_pos h2]; rfl
    · rw [if_neg h1, if_neg h2, if_neg h2, if_neg h1]; rfl
structure Val where
  k : Int
  n : Int
  t : ByteArray
def Val.txt (a : Val) : List UInt8 := a.t.data.toList
theorem t_inj {s t : ByteArray} (h : s.data.toList = t.data.toList) : s = t := by
  obtain ⟨⟨l⟩⟩ := s
  obtain ⟨⟨m⟩⟩ := t
  simp at h
  rw [h]
def cmpV (a b : Val) : Int := if a.k = b.k then (if a.n = b.n then Lib.compareBytes a.txt b.txt else cmpI a.n b.n) else cmpI a.k b.k
theorem cmpV_range (a b : Val) : cmpV a b = -1 ∨ cmpV a b = 0 ∨ cmpV a b = 1 := by
  unfold cmpV
  split
  · split
    · exact cb_range _ _
    · exact cmpI_range _ _
  · exact cmpI_range _ _
theorem cmpV_anti (a b : Val) : cmpV a b = -cmpV b a := by
  unfold cmpV
  by_cases h1 : a.k = b.k
  · by_cases h2 : a.n = b.n
    · rw [if_pos h1, if_pos h2, if_pos h1.symm, if_pos h2.symm]
      exact cb_anti _ _
    · rw [if_pos h1, if_neg h2, if_pos h1.symm, if_neg (Ne.symm h2)]
      exact cmpI_anti _ _
  · rw [if_neg h1, if_neg (Ne.symm h1)]
    exact cmpI_anti _ _
theorem cmpV_zero (a b : Val) : cmpV a b = 0 ↔ a.k = b.k ∧ a.n = b.n ∧ a.t = b.t := by
  unfold cmpV
  by_cases h1 : a.k = b.k
  · by_cases h2 : a.n = b.n
    · rw [if_pos h1, if_pos h2, cb_zero]
      exact ⟨fun h => ⟨h1, h2, t_inj h⟩, fun h => by unfold Val.txt; rw [h.2.2]⟩
    · rw [if_pos h1, if_neg h2, cmpI_zero]
      exact ⟨fun h => absurd h h2, fun h => absurd h.2.1 h2⟩
  · rw [if_neg h1, cmpI_zero]
    exact ⟨fun h => absurd h h1, fun h => absurd h.1 h1⟩
theorem cmpV_trans (a b c : Val) (h1 : cmpV a b ≤ 0) (h2 : cmpV b c ≤ 0) : cmpV a c ≤ 0 ∧ (cmpV a c = 0 → cmpV a b = 0 ∧ cmpV b c = 0) := by
  unfold cmpV cmpI at *
  have ht := cb_trans a.txt b.txt c.txt
  by_cases k1 : a.k = b.k
  · by_cases k2 : b.k = c.k
    · rw [if_pos k1] at h1 ⊢
      rw [if_pos k2] at h2 ⊢
      rw [if_pos (k1.trans k2)]
      by_cases n1 : a.n = b.n
      · by_cases n2 : b.n = c.n
        · rw [if_pos n1] at h1 ⊢
          rw [if_pos n2] at h2 ⊢
          rw [if_pos (n1.trans n2)]
          exact ht h1 h2
        · rw [if_neg n2] at h2 ⊢
          rw [if_pos n1] at h1 ⊢
          rw [if_neg (by omega)]
          split at h2 <;> (try split at h2) <;> split <;> (try split) <;> omega
      · rw [if_neg n1] at h1 ⊢
        by_cases n2 : b.n = c.n
        · rw [if_pos n2] at h2 ⊢
          rw [if_neg (by omega)]
          split at h1 <;> (try split at h1) <;> split <;> (try split) <;> omega
        · rw [if_neg n2] at h2 ⊢
          have l1 : a.n < b.n := by split at h1 <;> (try split at h1) <;> omega
          have l2 : b.n < c.n := by split at h2 <;> (try split at h2) <;> omega
          rw [if_neg (by omega), if_pos (by omega)]
          omega
    · rw [if_neg k2] at h2 ⊢
      rw [if_neg (by omega)]
      have l2 : b.k < c.k := by split at h2 <;> (try split at h2) <;> omega
      rw [if_pos (by omega)]
      omega
  · rw [if_neg k1] at h1 ⊢
    have l1 : a.k < b.k := by split at h1 <;> (try split at h1) <;> omega
    by_cases k2 : b.k = c.k
    · rw [if_neg (by omega), if_pos (by omega)]
      omega
    · rw [if_neg k2] at h2 ⊢
      have l2 : b.k < c.k := by split at h2 <;> (try split at h2) <;> omega
      rw [if_neg (by omega), if_pos (by omega)]
      omega

/-- printable bytes -/
def prn (l : List Nat) : Bool := l.all fun x => decide (32 ≤ x) && decide (x ≤ 126)
theorem prn_no (s : ByteArray) (k : Nat) (h : k < s.size) (hb : s[k].toNat < 32 ∨ 126 < s[k].toNat) : prn (N s) = false := by
  unfold prn
  rw [Bool.eq_false_iff]
  intro hh
  rw [List.all_eq_true] at hh
  have := hh _ (List.mem_of_getElem? (N_get s k h))
  simp at this
  omega
theorem prn_yes (s : ByteArray) (k : Nat) (h : k < s.size) (hp : prn ((N s).take k) = true) (h1 : 32 ≤ s[k].toNat) (h2 : s[k].toNat ≤ 126) : prn ((N s).take (k + 1)) = true := by
  unfold prn at hp ⊢
  rw [N_take_succ s k h, List.all_append, hp]
  simp [h1, h2]
def validV (a : Val) : Bool :=
  if a.k = 0 then decide (a.n = 0) && (N a.t).isEmpty
  else if a.k = 1 then (N a.t).isEmpty
  else if a.k = 2 then decide (a.n = 0) && prn (N a.t) && decide (a.t.size ≤ 16)
  else false

end Go.Proofs.YtdjdhkbomhendaaGreatDoor
namespace Go.Proofs.YtdjdhkbomhendaaGreatDoor
set_option linter.unusedVariables false
set_option linter.unusedSimpArgs false
open Go.RowKit
set_option maxHeartbeats 400000
set_option maxRecDepth 100000

/-- a boxed value, in a later world -/
theorem box3 {w w2 : World} {a b c : Value} {T : TypeId} (h : Ext (w.alloc (.cells #[a, b, c] T)) w2) :
    w2.cell? ⟨w.heap.size, 0, none⟩ = some a ∧ w2.cell? ⟨w.heap.size, 1, none⟩ = some b ∧ w2.cell? ⟨w.heap.size, 2, none⟩ = some c :=
  ⟨h.keep (World.cell?_alloc_new w #[a, b, c] T 0), h.keep (World.cell?_alloc_new w #[a, b, c] T 1), h.keep (World.cell?_alloc_new w #[a, b, c] T 2)⟩

theorem box33 {w w2 : World} {a b c d e f : Value} {T U : TypeId} (h : Ext ((w.alloc (.cells #[a, b, c] T)).alloc (.cells #[d, e, f] U)) w2) :
    w2.cell? ⟨w.heap.size, 0, none⟩ = some a ∧ w2.cell? ⟨w.heap.size, 1, none⟩ = some b ∧ w2.cell? ⟨w.heap.size, 2, none⟩ = some c ∧
    w2.cell? ⟨w.heap.size + 1, 0, none⟩ = some d ∧ w2.cell? ⟨w.heap.size + 1, 1, none⟩ = some e ∧ w2.cell? ⟨w.heap.size + 1, 2, none⟩ = some f := by
  have h1 := box3 (((Ext.refl (w.alloc (.cells #[a, b, c] T))).alloc _).trans h)
  have h2 := box3 h
  rw [World.size_alloc] at h2
  exact ⟨h1.1, h1.2.1, h1.2.2, h2.1, h2.2.1, h2.2.2⟩
end Go.Proofs.YtdjdhkbomhendaaGreatDoor
namespace Go.Proofs.YtdjdhkbomhendaaGreatDoor
set_option linter.unusedVariables false
set_option linter.unusedSimpArgs false
open Go.RowKit
set_option maxHeartbeats 1000000
set_option maxRecDepth 100000

theorem cb_at (s t : ByteArray) (i : Nat) (hi : i < s.size) (hj : i < t.size) :
    Lib.compareBytes (s.data.toList.drop i) (t.data.toList.drop i) = if s[i].toNat < t[i].toNat then -1 else if t[i].toNat < s[i].toNat then 1 else Lib.compareBytes (s.data.toList.drop (i + 1)) (t.data.toList.drop (i + 1)) := by
  have h1 : i < s.data.toList.length := by simpa using hi
  have h2 : i < t.data.toList.length := by simpa using hj
  rw [List.drop_eq_getElem_cons h1, List.drop_eq_getElem_cons h2, Lib.compareBytes]
  simp only [UInt8.lt_iff_toNat_lt]
  rfl
theorem cb_end (s t : ByteArray) (i : Nat) (hi : i ≤ s.size) (hj : i ≤ t.size) (h : i = s.size ∨ i = t.size) :
    Lib.compareBytes (s.data.toList.drop i) (t.data.toList.drop i) = cmpI s.size t.size := by
  have e1 : (s.data.toList.drop i).length = s.size - i := by rw [List.length_drop]; rfl
  have e2 : (t.data.toList.drop i).length = t.size - i := by rw [List.length_drop]; rfl
  unfold cmpI
  cases hs : s.data.toList.drop i with
  | nil =>
    rw [hs] at e1
    simp at e1
    cases ht : t.data.toList.drop i with
    | nil =>
      rw [ht] at e2
      simp at e2
      rw [if_neg (by omega), if_neg (by omega)]
      rfl
    | cons b bs =>
      rw [ht] at e2
      simp at e2
      rw [if_pos (by omega)]
      rfl
  | cons a l1 =>
    rw [hs] at e1
    simp at e1
    cases ht : t.data.toList.drop i with
    | nil =>
      rw [ht] at e2
      simp at e2
      rw [if_neg (by omega), if_pos (by omega)]
      rfl
    | cons b bs =>
      rw [ht] at e2
      simp at e2
      omega

end Go.Proofs.YtdjdhkbomhendaaGreatDoor
