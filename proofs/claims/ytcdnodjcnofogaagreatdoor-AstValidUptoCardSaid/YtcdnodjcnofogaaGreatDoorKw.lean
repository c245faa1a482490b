/-
  Keywords and names: the list in a text; no program in sight.
-/
import Derived.Test.YtcdnodjcnofogaaGreatDoorTree
import Derived.Lib.Strings
import Derived.Lib.IndexMore
namespace Go.Proofs.YtcdnodjcnofogaaGreatDoor
open Go.RowKit
set_option maxHeartbeats 400000

/-- words, each followed by a space -/
def spaced : List (List Nat) → List Nat
  | [] => []
  | w :: ws => w ++ 32 :: spaced ws
theorem prefix_word (s w r : List Nat) (hs : 32 ∉ s) (hw : 32 ∉ w) : (s ++ [32]) <+: (w ++ 32 :: r) ↔ s = w := by
  induction s generalizing w with
  | nil =>
    cases w with
    | nil => simp
    | cons c w => simp at hw ⊢; exact hw.1
  | cons a s ih =>
    cases w with
    | nil =>
      simp at hs ⊢
      intro h; exact absurd h.symm hs.1
    | cons c w =>
      simp at hs hw
      simp only [List.cons_append, List.cons_prefix_cons, List.cons.injEq]
      rw [ih w hs.2 hw.2]
theorem infix_cons {a l : List Nat} {c : Nat} : a <:+: c :: l ↔ a <+: c :: l ∨ a <:+: l := List.infix_cons_iff
theorem infix_word (s w r : List Nat) (hw : 32 ∉ w) : (32 :: s) <:+: (w ++ r) ↔ (32 :: s) <:+: r := by
  induction w with
  | nil => rfl
  | cons c w ih =>
    simp at hw
    rw [List.cons_append, infix_cons, ih hw.2]
    constructor
    · rintro (h | h)
      · rw [List.cons_prefix_cons] at h; exact absurd h.1 hw.1
      · exact h
    · exact .inr
theorem infix_spaced (s : List Nat) (hs : 32 ∉ s) : ∀ ws : List (List Nat), (∀ w ∈ ws, 32 ∉ w) → ((32 :: (s ++ [32])) <:+: (32 :: spaced ws) ↔ s ∈ ws) := by
  intro ws
  induction ws with
  | nil =>
    intro _
    constructor
    · intro h
      have := h.length_le
      simp [spaced] at this
    · intro h; cases h
  | cons w ws ih =>
    intro hw
    have h1 := hw w (by simp)
    rw [spaced, infix_cons, List.cons_prefix_cons, prefix_word s w _ hs h1, infix_word _ _ _ h1, ih fun x hx => hw x (by simp [hx])]
    simp
theorem kw_no_space : ∀ w ∈ kwWords, 32 ∉ w := by decide +kernel
/-- the text of the program's keywords -/
def kwText : List Nat := 32 :: spaced kwWords
theorem kw_infix (s : List Nat) (hs : 32 ∉ s) : (32 :: (s ++ [32])) <:+: kwText ↔ kwWords.contains s = true := by
  unfold kwText
  rw [infix_spaced s hs kwWords kw_no_space, List.contains_iff_mem]
theorem occ_iff (s sub : List UInt8) (j : Nat) : Lib.occAt s sub j = true ↔ sub <+: s.drop j := by
  unfold Lib.occAt
  first | (rw [List.isPrefixOf_iff_prefix]) | (simp [List.isPrefixOf_iff_prefix])
theorem contains_infix (s sub : List UInt8) : Lib.contains s sub = true ↔ sub <:+: s := by
  unfold Lib.contains
  rw [decide_eq_true_eq]
  rcases Lib.index_spec s sub with ⟨h1, h2⟩ | ⟨i, h1, h2, h3, h4⟩
  · constructor
    · intro h; omega
    · rintro ⟨a, b, hab⟩
      have hj : a.length ≤ s.length := by rw [← hab]; simp
      have := h2 a.length hj
      rw [← Bool.not_eq_true, occ_iff s sub _] at this
      exact absurd ⟨b, by rw [← hab]; simp⟩ this
  · constructor
    · intro _
      have := (occ_iff s sub i).1 h3
      obtain ⟨t, ht⟩ := this
      exact ⟨s.take i, t, by rw [List.append_assoc, ht, List.take_append_drop]⟩
    · intro _; omega
theorem infix_map {a b : List UInt8} : a.map UInt8.toNat <:+: b.map UInt8.toNat ↔ a <:+: b := by
  have inj : ∀ x y : List UInt8, x.map UInt8.toNat = y.map UInt8.toNat → x = y := fun x y h => (List.map_inj_right (f := UInt8.toNat) fun a b h => UInt8.toNat_inj.1 h).1 h
  constructor
  · rintro ⟨p, q, h⟩
    have hl := congrArg List.length h
    simp at hl
    refine ⟨b.take p.length, b.drop (p.length + a.length), ?_⟩
    have h1 : (b.drop p.length).take a.length = a := by
      apply inj
      rw [List.map_take, List.map_drop, ← h]
      simp [List.append_assoc]
    have h2 : (b.drop p.length) = a ++ b.drop (p.length + a.length) := by
      conv => lhs; rw [← List.take_append_drop a.length (b.drop p.length), h1, List.drop_drop]
    rw [List.append_assoc, ← h2, List.take_append_drop]
  · rintro ⟨p, q, h⟩
    exact ⟨p.map UInt8.toNat, q.map UInt8.toNat, by rw [← h]; simp⟩
/-- whether a text stands in the program's keywords, between spaces -/
def kwIn (s : ByteArray) : Bool := Lib.contains (kwText.map UInt8.ofNat) ((⟨#[32]⟩ ++ s ++ ⟨#[32]⟩ : ByteArray)).data.toList
theorem kwIn_iff (s : ByteArray) (h : 32 ∉ N s) : kwIn s = kwWords.contains (N s) := by
  rw [Bool.eq_iff_iff]
  unfold kwIn
  rw [contains_infix, ← kw_infix (N s) h, ← infix_map]
  have e1 : (kwText.map UInt8.ofNat).map UInt8.toNat = kwText := by decide +kernel
  have e2 : ((⟨#[32]⟩ ++ s ++ ⟨#[32]⟩ : ByteArray)).data.toList.map UInt8.toNat = 32 :: (N s ++ [32]) := by
    unfold N
    simp
  rw [e1, e2]
/-- a text with a space is no name -/
theorem nm_space {s : ByteArray} (h : 32 ∈ N s) : (N s).all isNmC = false := by
  rw [List.all_eq_false]
  exact ⟨32, h, by decide⟩
theorem name_kw {s : ByteArray} (h : kwIn s = true) : nameB s = false := by
  unfold nameB nameL
  by_cases hs : 32 ∈ N s
  · rw [nm_space hs]; simp
  · rw [kwIn_iff s hs] at h
    rw [h]; simp
theorem name_nokw {s : ByteArray} (h : kwIn s = false) (c : Nat) (r : List Nat) (h0 : N s = c :: r) (h1 : isLow c = true) (h2 : s.size ≤ 24) : nameB s = (N s).all isNmC := by
  unfold nameB nameL
  have e : fstLow (N s) = true := by rw [h0]; exact h1
  rw [e]
  by_cases hs : 32 ∈ N s
  · rw [nm_space hs]; simp
  · rw [kwIn_iff s hs] at h
    rw [h, N_len]; simp [h2]
end Go.Proofs.YtcdnodjcnofogaaGreatDoor
