/-
  The canonical text of an expression; no program in sight.
-/
import Derived.Test.YtcdnodjcnofogaaGreatDoorTree
import Derived.Test.YtcdnodjcnofogaaGreatDoorQuo
import Derived.Lib.ItoaLen
namespace Go.Proofs.YtcdnodjcnofogaaGreatDoor
open Go.RowKit
set_option maxHeartbeats 400000

/-- a number in decimal -/
def itoB (n : Int) : ByteArray := ⟨(Lib.itoa n).toArray⟩
theorem itoB_size (n : Int) (h0 : -9223372036854775808 ≤ n) (h1 : n ≤ 9223372036854775807) : (itoB n).size ≤ 21 := by
  have := Lib.itoa_length_le n h0 h1
  show ((Lib.itoa n).toArray).size ≤ 21
  simpa using this
/-- a text with its quotes doubled -/
def quoB (t : ByteArray) : ByteArray := ⟨(quo t.data.toList).toArray⟩
theorem quoB_size (t : ByteArray) : (quoB t).size ≤ 2 * t.size := by
  have := quo_len t.data.toList
  show ((quo t.data.toList).toArray).size ≤ 2 * t.data.size
  simpa using this

/-- the sign of an operator -/
def sgn (op : Int) : ByteArray :=
  if op = 4 then ⟨#[43]⟩ else if op = 5 then ⟨#[45]⟩ else if op = 6 then ⟨#[42]⟩ else if op = 7 then ⟨#[47]⟩ else if op = 8 then ⟨#[37]⟩
  else if op = 10 then ⟨#[61]⟩ else if op = 11 then ⟨#[60, 62]⟩ else if op = 12 then ⟨#[60]⟩ else if op = 13 then ⟨#[60, 61]⟩ else if op = 14 then ⟨#[62]⟩ else if op = 15 then ⟨#[62, 61]⟩
  else if op = 16 then ⟨#[76, 73, 75, 69]⟩ else if op = 18 then ⟨#[65, 78, 68]⟩ else if op = 19 then ⟨#[79, 82]⟩ else ⟨#[]⟩
theorem ite_size (p : Prop) [Decidable p] (a b : ByteArray) (n : Nat) (ha : a.size ≤ n) (hb : b.size ≤ n) : (if p then a else b).size ≤ n := by
  by_cases h : p
  · rw [if_pos h]; exact ha
  · rw [if_neg h]; exact hb
theorem sgn_size (op : Int) : (sgn op).size ≤ 4 := by
  unfold sgn
  refine ite_size _ _ _ _ (show 1 ≤ 4 by omega) (ite_size _ _ _ _ (show 1 ≤ 4 by omega) (ite_size _ _ _ _ (show 1 ≤ 4 by omega) (ite_size _ _ _ _ (show 1 ≤ 4 by omega) (ite_size _ _ _ _ (show 1 ≤ 4 by omega)
    (ite_size _ _ _ _ (show 1 ≤ 4 by omega) (ite_size _ _ _ _ (show 2 ≤ 4 by omega) (ite_size _ _ _ _ (show 1 ≤ 4 by omega) (ite_size _ _ _ _ (show 2 ≤ 4 by omega) (ite_size _ _ _ _ (show 1 ≤ 4 by omega) (ite_size _ _ _ _ (show 2 ≤ 4 by omega)
    (ite_size _ _ _ _ (show 4 ≤ 4 by omega) (ite_size _ _ _ _ (show 3 ≤ 4 by omega) (ite_size _ _ _ _ (show 2 ≤ 4 by omega) (show 0 ≤ 4 by omega))))))))))))))
/-- in brackets, if its level is less than required -/
def brk (op : Int) (s : ByteArray) (r : Int) : ByteArray := if lvl op < r then ⟨#[40]⟩ ++ s ++ ⟨#[41]⟩ else s
theorem brk_size (op : Int) (s : ByteArray) (r : Int) : (brk op s r).size ≤ s.size + 2 := by
  unfold brk
  split
  · rw [ByteArray.size_append, ByteArray.size_append]
    show 1 + s.size + 1 ≤ _
    omega
  · omega
/-- the text of a node without brackets, over its operands' -/
def plD (d : Nd) (xs : List (Int × ByteArray)) : ByteArray :=
  let x := xs.getD 0 (0, ⟨#[]⟩)
  let y := xs.getD 1 (0, ⟨#[]⟩)
  if d.op = 1 then (if d.vk = 1 then itoB d.vi else if d.vk = 2 then ⟨#[39]⟩ ++ quoB d.vt ++ ⟨#[39]⟩ else ⟨#[78, 85, 76, 76]⟩)
  else if d.op = 2 then (if d.tb.size = 0 then d.nm else d.tb ++ ⟨#[46]⟩ ++ d.nm)
  else if d.op = 3 then ⟨#[45]⟩ ++ brk x.1 x.2 8
  else if d.op = 9 then ⟨#[76, 69, 78, 71, 84, 72, 40]⟩ ++ brk x.1 x.2 1 ++ ⟨#[41]⟩
  else if d.op = 17 then brk x.1 x.2 5 ++ ⟨#[32, 73, 83, 32, 78, 85, 76, 76]⟩
  else if d.op = 20 then ⟨#[78, 79, 84, 32]⟩ ++ brk x.1 x.2 3
  else brk x.1 x.2 (if lvl d.op = 4 then 5 else lvl d.op) ++ ⟨#[32]⟩ ++ sgn d.op ++ ⟨#[32]⟩ ++ brk y.1 y.2 (lvl d.op + 1)
mutual
/-- the text without brackets -/
def Ex.pl : Ex → ByteArray
  | .mk d ks => plD d (plL ks)
def plL : List Ex → List (Int × ByteArray)
  | [] => []
  | e :: es => (e.d.op, e.pl) :: plL es
end
/-- the text where a level is required -/
def Ex.tx (e : Ex) (r : Int) : ByteArray := brk e.d.op e.pl r
theorem plL_eq (l : List Ex) : plL l = l.map fun e => (e.d.op, e.pl) := by
  induction l with
  | nil => rfl
  | cons e l ih => rw [plL, ih]; rfl
theorem nameB_size {s : ByteArray} (h : nameB s = true) : s.size ≤ 24 := by
  unfold nameB nameL at h
  simp only [Bool.and_eq_true, decide_eq_true_eq, N_len] at h
  omega
theorem litB_size {d : Nd} (h : d.litB = true) : d.vt.size ≤ 16 ∧ (d.vk = 1 → 0 ≤ d.vi ∧ d.vi ≤ 2147483648) ∧ (d.vk = 0 ∨ d.vk = 1 ∨ d.vk = 2) := by
  unfold Nd.litB textB at h
  split at h
  · simp only [Bool.and_eq_true, beq_iff_eq] at h; omega
  · split at h
    · simp only [Bool.and_eq_true, beq_iff_eq, decide_eq_true_eq] at h; omega
    · split at h
      · simp only [Bool.and_eq_true, beq_iff_eq, decide_eq_true_eq] at h; omega
      · cases h
theorem formed_parts {d : Nd} {ks : List Ex} (h : (Ex.mk d ks).formed = true) : opN d.op = (ks.length : Int) ∧ (∀ k ∈ ks, k.formed = true) ∧ ndB d (ks.map Ex.d) = true := by
  rw [Ex.formed, formedL_all] at h
  simpa [and_assoc] using h
theorem opN_cases (op : Int) : (opN op = 0 ∧ (op = 1 ∨ op = 2)) ∨ (opN op = 1 ∧ (op = 3 ∨ op = 9 ∨ op = 17 ∨ op = 20)) ∨ (opN op = 2 ∧ (4 ≤ op ∧ op ≤ 8 ∨ 10 ≤ op ∧ op ≤ 16 ∨ op = 18 ∨ op = 19)) ∨ opN op = -1 := by
  unfold opN
  split
  · omega
  · split
    · omega
    · split <;> omega
theorem pl_size : ∀ e : Ex, e.formed = true → e.pl.size + 2 ≤ 60 * e.size := by
  intro e
  induction e using Ex.ind with
  | h d ks ih =>
    intro hf
    obtain ⟨h1, h2, h3⟩ := formed_parts hf
    rw [Ex.pl, plL_eq, Ex.size]
    rcases opN_cases d.op with ⟨h0, h4⟩ | ⟨h0, h4⟩ | ⟨h0, h4⟩ | h0
    · rcases h4 with h4 | h4
      · unfold ndB at h3
        rw [if_neg (by omega), if_pos h4] at h3
        simp only [Bool.and_eq_true] at h3
        have hl := litB_size h3.2
        unfold plD
        simp only [h4, if_true]
        split
        · have := itoB_size d.vi (by omega) (by omega)
          omega
        · split
          · have := quoB_size d.vt
            rw [ByteArray.size_append, ByteArray.size_append]
            show 1 + _ + 1 + 2 ≤ _
            omega
          · show 4 + 2 ≤ _; omega
      · unfold ndB at h3
        rw [if_pos h4] at h3
        simp only [Bool.and_eq_true, Bool.or_eq_true, beq_iff_eq] at h3
        have hn := nameB_size h3.1.1
        have ht : d.tb.size ≤ 24 := by
          rcases h3.1.2 with h | h
          · omega
          · exact nameB_size h
        unfold plD
        rw [if_neg (by omega), if_pos h4]
        split
        · omega
        · rw [ByteArray.size_append, ByteArray.size_append]
          show _ + 1 + _ + 2 ≤ _
          omega
    · obtain ⟨a, rfl⟩ : ∃ a, ks = [a] := by
        have : ks.length = 1 := by omega
        exact List.length_eq_one_iff.1 this
      have ha := ih a (by simp) (h2 a (by simp))
      simp only [sizeL, List.map_cons, List.map_nil]
      unfold plD
      simp only [List.getD_cons_zero]
      have hb := fun r => brk_size a.d.op a.pl r
      rcases h4 with h4 | h4 | h4 | h4
      all_goals
        simp only [h4]
        have h5 := hb 8
        have h6 := hb 1
        have h7 := hb 5
        have h8 := hb 3
        simp (decide := true) only [if_false, if_true]
        first
        | (rw [ByteArray.size_append, ByteArray.size_append]; show 7 + _ + 1 + 2 ≤ _; omega)
        | (rw [ByteArray.size_append]; show 1 + _ + 2 ≤ _; omega)
        | (rw [ByteArray.size_append]; show 4 + _ + 2 ≤ _; omega)
        | (rw [ByteArray.size_append]; show _ + 8 + 2 ≤ _; omega)
    · obtain ⟨a, b, rfl⟩ : ∃ a b, ks = [a, b] := by
        have : ks.length = 2 := by omega
        match ks, this with
        | [a, b], _ => exact ⟨a, b, rfl⟩
      have ha := ih a (by simp) (h2 a (by simp))
      have hb := ih b (by simp) (h2 b (by simp))
      simp only [sizeL, List.map_cons, List.map_nil]
      unfold plD
      rw [if_neg (by omega), if_neg (by omega), if_neg (by omega), if_neg (by omega), if_neg (by omega), if_neg (by omega)]
      simp only [ByteArray.size_append]
      have h5 := brk_size a.d.op a.pl (if lvl d.op = 4 then 5 else lvl d.op)
      have h6 := brk_size b.d.op b.pl (lvl d.op + 1)
      have h7 := sgn_size d.op
      show _ + 1 + _ + 1 + _ + 2 ≤ _
      simp only [List.getD_cons_zero, List.getD_cons_succ]
      omega
    · omega
theorem formed_op {d : Nd} {ks : List Ex} (h : (Ex.mk d ks).formed = true) : d.op ≠ 0 := by
  intro h0
  obtain ⟨h1, _⟩ := formed_parts h
  rw [h0] at h1
  unfold opN at h1
  simp at h1
theorem formed_nodes : ∀ e : Ex, e.formed = true → e.nodes = e.size := by
  intro e
  induction e using Ex.ind with
  | h d ks ih =>
    intro hf
    have h0 := formed_op hf
    obtain ⟨h1, h2, h3⟩ := formed_parts hf
    have : nodesL ks = sizeL ks := by
      clear h0 h1 h3 hf
      induction ks with
      | nil => rfl
      | cons a ks ih2 => rw [nodesL, sizeL, ih a (by simp) (h2 a (by simp)), ih2 (fun e he => ih e (by simp [he])) (fun e he => h2 e (by simp [he]))]
    rw [Ex.nodes, Ex.size, this, if_neg h0]
theorem tx_size (e : Ex) (r : Int) (h : e.formed = true) : (e.tx r).size ≤ 60 * e.size := by
  have h1 := brk_size e.d.op e.pl r
  have h2 := pl_size e h
  unfold Ex.tx
  omega
end Go.Proofs.YtcdnodjcnofogaaGreatDoor
