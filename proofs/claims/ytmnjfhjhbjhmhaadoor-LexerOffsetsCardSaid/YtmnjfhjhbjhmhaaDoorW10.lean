/-
  Walks over the lexer: Unquote, the program's and the reference's.
-/
import Derived.Test.YtmnjfhjhbjhmhaaDoorW9
namespace Go.Proofs.YtmnjfhjhbjhmhaaDoor
open Go.RowKit
set_option linter.unusedVariables false
set_option maxHeartbeats 2000000
set_option maxRecDepth 100000

def unqV : Option (List UInt8) → Value
  | some x => .tuple #[.string ⟨x.toArray⟩, .int .i64 0]
  | none => .tuple #[.string ⟨#[]⟩, .int .i64 2]
def unqR : Option (List UInt8) → Value
  | some x => .tuple #[.string ⟨x.toArray⟩, .bool true]
  | none => .tuple #[.string ⟨#[]⟩, .bool false]
theorem unq_not (c : UInt8) (r : List UInt8) (h : ¬ c.toNat = 39) : unq (c :: r) = none := by unfold unq; simp only; rw [if_neg h]
theorem unq_none (c : UInt8) (r : List UInt8) (h : c.toNat = 39) (hl : litF r [] 1 = none) : unq (c :: r) = none := by unfold unq; simp only; rw [if_pos h, hl]
theorem unq_some (c : UInt8) (r : List UInt8) (h : c.toNat = 39) (X : List UInt8) (i : Nat) (hl : litF r [] 1 = some (X, i)) : unq (c :: r) = if X.length ≤ 16 ∧ i = (c :: r).length then some X else none := by unfold unq; simp only; rw [if_pos h, hl]
theorem unquote_any (s : ByteArray) (w : World) (hs : s.size ≤ 20000) : Calls Tryd.prog 20 #[.string s] w fun e w' => e = .returned (unqV (unq s.data.toList)) ∧ Ext w w' := by
  by_cases h0 : 0 < s.size
  · have HC := hid (lst_cons s h0)
    have e1 : s.toList.isEmpty = false := by
      rw [ByteArray.toList_eq]
      rw [lst_cons s h0]; rfl
    by_cases hq : s[0].toNat = 39
    · have b1 : ((s[0].toNat : Int) != 39) = false := by rw [hq]; rfl
      have HT := hid (fun W => text_any s W hs h0)
      have HL : Hid (s.data.toList.length = s.size) := rfl
      cases hl : litF (s.data.toList.drop 1) [] 1 with
      | none =>
        have HR : Hid (unq s.data.toList = none) := by unfold Hid; rw [HC.out]; exact unq_none _ _ hq hl
        have HE : Hid (textL (s.data.toList.drop 1) = .bad 2) := by unfold Hid textL; rw [hl]
        clear hq hl
        go_enter Tryd.func20, Tryd.ntmps20
        go_wp2_with (go_at_call 38; refine (HT.out _).mono ?_; rintro e w1 ⟨rfl, hx1⟩; rw [HE.out]; unfold TRes)
        go_ret2
        exact ⟨by rw [HR.out]; rfl, hx1.alloc _⟩
      | some q =>
        obtain ⟨X, i⟩ := q
        have hu := unq_some s[0] (s.data.toList.drop 1) hq X i hl
        rw [← HC.out, HL.out] at hu
        by_cases hX : 16 < X.length
        · have HR : Hid (unq s.data.toList = none) := by unfold Hid; rw [hu, if_neg (by omega)]
          have HE : Hid (textL (s.data.toList.drop 1) = .bad 3) := by unfold Hid textL; rw [hl]; simp only; rw [if_pos hX]
          clear hq hl hu
          go_enter Tryd.func20, Tryd.ntmps20
          go_wp2_with (go_at_call 38; refine (HT.out _).mono ?_; rintro e w1 ⟨rfl, hx1⟩; rw [HE.out]; unfold TRes)
          go_ret2
          exact ⟨by rw [HR.out]; rfl, hx1.alloc _⟩
        · have HE : Hid (textL (s.data.toList.drop 1) = .tok 4 X i) := by unfold Hid textL; rw [hl]; simp only; rw [if_neg hX]
          by_cases hi : i = s.size
          · have HR : Hid (unq s.data.toList = some X) := by unfold Hid; rw [hu, if_pos ⟨by omega, hi⟩]
            have b2 : ((i : Int) != (s.size : Int)) = false := by rw [hi]; exact bne_self_eq_false _
            clear hq hl hu
            go_enter Tryd.func20, Tryd.ntmps20
            go_wp2_with (go_at_call 38; refine (HT.out _).mono ?_; rintro e w1 ⟨rfl, hx1⟩; rw [HE.out]; unfold TRes)
            go_ret2
            exact ⟨by rw [HR.out]; rfl, hx1.alloc _⟩
          · have HR : Hid (unq s.data.toList = none) := by unfold Hid; rw [hu, if_neg (by omega)]
            have b2 : ((i : Int) != (s.size : Int)) = true := by rw [bne_iff_ne]; omega
            clear hq hl hu
            go_enter Tryd.func20, Tryd.ntmps20
            go_wp2_with (go_at_call 38; refine (HT.out _).mono ?_; rintro e w1 ⟨rfl, hx1⟩; rw [HE.out]; unfold TRes)
            go_ret2
            exact ⟨by rw [HR.out]; rfl, hx1.alloc _⟩
    · have HR : Hid (unq s.data.toList = none) := by unfold Hid; rw [HC.out]; exact unq_not _ _ hq
      have b1 : ((s[0].toNat : Int) != 39) = true := by rw [bne_iff_ne]; omega
      clear hq
      go_enter Tryd.func20, Tryd.ntmps20
      go_wp2_with fail
      go_ret2
      exact ⟨by rw [HR.out]; rfl, Ext.refl _⟩
  · have hl0 : s.data.toList = [] := List.eq_nil_of_length_eq_zero (by rw [lst_len]; omega)
    have HR : Hid (unq s.data.toList = none) := by unfold Hid; rw [hl0]; rfl
    have e1 : s.toList.isEmpty = true := by rw [ByteArray.toList_eq, hl0]; rfl
    go_enter Tryd.func20, Tryd.ntmps20
    go_wp2_with fail
    go_ret2
    exact ⟨by rw [HR.out]; rfl, Ext.refl _⟩
theorem runquote_any (s : ByteArray) (w : World) (hs : s.size ≤ 20000) : Calls Tryd.prog 22 #[.string s] w fun e w' => e = .returned (unqR (unq s.data.toList)) ∧ Ext w w' := by
  by_cases h2 : 2 ≤ s.size
  · have h0 : 0 < s.size := by omega
    have HC := hid (lst_cons s h0)
    by_cases hq : s[0].toNat = 39
    · have b1 : ((s[0].toNat : Int) != 39) = false := by rw [hq]; rfl
      have HT := hid (fun W => literal_any s 0 W hs h0)
      have HL : Hid (s.data.toList.length = s.size) := rfl
      cases hl : litF (s.data.toList.drop 1) [] 1 with
      | none =>
        have HR : Hid (unq s.data.toList = none) := by unfold Hid; rw [HC.out]; exact unq_none _ _ hq hl
        have HE : Hid (litS s 0 = .tuple #[.string ⟨#[]⟩, .int .i64 (-1)]) := by unfold Hid litS; rw [hl]; rfl
        have b2 : ((-1 : Int) != (s.size : Int)) = true := by rw [bne_iff_ne]; omega
        clear hq hl
        go_enter Tryd.func22, Tryd.ntmps22
        go_wp2_with (go_at_call 39; refine (HT.out _).mono ?_; rintro e w1 ⟨rfl, rfl⟩; rw [HE.out])
        go_ret2
        exact ⟨by rw [HR.out]; rfl, Ext.refl _⟩
      | some q =>
        obtain ⟨X, i⟩ := q
        have hu := unq_some s[0] (s.data.toList.drop 1) hq X i hl
        rw [← HC.out, HL.out] at hu
        have HE : Hid (litS s 0 = .tuple #[.string ⟨X.toArray⟩, .int .i64 i]) := by unfold Hid litS; rw [hl]; rfl
        have hXl : Hid ((⟨X.toArray⟩ : ByteArray).size = X.length) := rfl
        by_cases hi : i = s.size
        · have b2 : ((i : Int) != (s.size : Int)) = false := by rw [hi]; exact bne_self_eq_false _
          by_cases hX : 16 < X.length
          · have HR : Hid (unq s.data.toList = none) := by unfold Hid; rw [hu, if_neg (by omega)]
            have hX' : 16 < (⟨X.toArray⟩ : ByteArray).size := hX
            clear hq hl hu
            generalize (⟨X.toArray⟩ : ByteArray) = F at *
            go_enter Tryd.func22, Tryd.ntmps22
            go_wp2_with (go_at_call 39; refine (HT.out _).mono ?_; rintro e w1 ⟨rfl, rfl⟩; rw [HE.out])
            go_ret2
            exact ⟨by rw [HR.out]; rfl, Ext.refl _⟩
          · have HR : Hid (unqR (unq s.data.toList) = .tuple #[.string ⟨X.toArray⟩, .bool true]) := by unfold Hid; rw [hu, if_pos ⟨by omega, hi⟩]; rfl
            have hX' : ¬ 16 < (⟨X.toArray⟩ : ByteArray).size := hX
            clear hq hl hu
            generalize (⟨X.toArray⟩ : ByteArray) = F at *
            go_enter Tryd.func22, Tryd.ntmps22
            go_wp2_with (go_at_call 39; refine (HT.out _).mono ?_; rintro e w1 ⟨rfl, rfl⟩; rw [HE.out])
            go_ret2
            exact ⟨by rw [HR.out]; rfl, Ext.refl _⟩
        · have HR : Hid (unq s.data.toList = none) := by unfold Hid; rw [hu, if_neg (by omega)]
          have b2 : ((i : Int) != (s.size : Int)) = true := by rw [bne_iff_ne]; omega
          clear hq hl hu
          generalize (⟨X.toArray⟩ : ByteArray) = F at *
          go_enter Tryd.func22, Tryd.ntmps22
          go_wp2_with (go_at_call 39; refine (HT.out _).mono ?_; rintro e w1 ⟨rfl, rfl⟩; rw [HE.out])
          go_ret2
          exact ⟨by rw [HR.out]; rfl, Ext.refl _⟩
    · have HR : Hid (unq s.data.toList = none) := by unfold Hid; rw [HC.out]; exact unq_not _ _ hq
      have b1 : ((s[0].toNat : Int) != 39) = true := by rw [bne_iff_ne]; omega
      clear hq
      go_enter Tryd.func22, Tryd.ntmps22
      go_wp2_with fail
      go_ret2
      exact ⟨by rw [HR.out]; rfl, Ext.refl _⟩
  · have HR : Hid (unq s.data.toList = none) := by
      unfold Hid
      match hm : s.data.toList with
      | [] => rfl
      | [c] =>
        by_cases hc : c.toNat = 39
        · exact unq_none c [] hc rfl
        · exact unq_not c [] hc
      | c :: d :: r =>
        exfalso
        have := congrArg List.length hm
        rw [lst_len] at this
        simp only [List.length_cons] at this
        omega
    go_enter Tryd.func22, Tryd.ntmps22
    go_wp2_with fail
    go_ret2
    exact ⟨by rw [HR.out]; rfl, Ext.refl _⟩
end Go.Proofs.YtmnjfhjhbjhmhaaDoor
