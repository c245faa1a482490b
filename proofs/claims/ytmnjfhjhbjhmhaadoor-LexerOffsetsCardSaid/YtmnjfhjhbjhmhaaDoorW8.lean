/-
  Walks over the lexer: names, the program's and the reference's.
-/
import Derived.Test.YtmnjfhjhbjhmhaaDoorW7
namespace Go.Proofs.YtmnjfhjhbjhmhaaDoor
open Go.RowKit
set_option linter.unusedVariables false
set_option maxHeartbeats 2000000
set_option maxRecDepth 100000

theorem name_long (l : List UInt8) (h : 24 < l.length) : nameP l = false := by
  cases l with
  | nil => rfl
  | cons c r => unfold nameP; simp only; rw [decide_eq_false (by omega)]; rfl
theorem name_letter (c : UInt8) (r : List UInt8) (h : isLetter c = false) : nameP (c :: r) = false := by
  unfold nameP
  simp only
  have : (decide (97 ≤ c.toNat) && decide (c.toNat ≤ 122)) = false := by
    unfold isLetter at h
    grind
  rw [this, Bool.and_false]
  rfl
theorem low_of (c : UInt8) (h : inWord c = true) (h2 : loC c = c) : lowW c = true := by
  unfold lowW
  unfold inWord isLetter at h
  have h3 := loC_num c
  rw [h2] at h3
  split at h3
  · omega
  · grind
theorem name_span (c : UInt8) (r : List UInt8) (h : spanN inWord (c :: r) < (c :: r).length) : nameP (c :: r) = false := by
  unfold nameP
  simp only
  have : (c :: r).all lowW = false := by
    cases ha : (c :: r).all lowW with
    | false => rfl
    | true =>
      have := span_full inWord (c :: r) fun x hx => (low_word x (List.all_eq_true.1 ha x hx)).1
      omega
  rw [this, Bool.and_false]
  rfl
theorem map_lo_all (l : List UInt8) (h : ∀ x ∈ l, inWord x = true) : (l == l.map loC) = l.all lowW := by
  rw [Bool.eq_iff_iff, beq_iff_eq, List.all_eq_true]
  constructor
  · intro e x hx
    refine low_of x (h x hx) ?_
    have e2 : l.map loC = l.map id := by rw [← e, List.map_id]
    exact List.map_inj_left.1 e2 x hx
  · intro ha
    have e2 : l.map loC = l.map id := List.map_congr_left fun x hx => (low_word x (ha x hx)).2
    rw [e2, List.map_id]
theorem name_rest (c : UInt8) (r : List UInt8) (h1 : (c :: r).length ≤ 24) (h2 : isLetter c = true) (h3 : spanN inWord (c :: r) = (c :: r).length) : nameP (c :: r) = (((c :: r) == (c :: r).map loC) && !(isKw (c :: r))) := by
  have hall : ∀ x ∈ c :: r, inWord x = true := fun x hx => span_all inWord (c :: r) x (by rw [h3, List.take_length]; exact hx)
  rw [map_lo_all _ hall]
  unfold nameP
  simp only
  rw [decide_eq_true h1, Bool.true_and]
  cases ha : (c :: r).all lowW with
  | false => rw [Bool.and_false]
  | true =>
    have hc := List.all_eq_true.1 ha c List.mem_cons_self
    have : (decide (97 ≤ c.toNat) && decide (c.toNat ≤ 122)) = true := by
      unfold lowW at hc
      unfold isLetter at h2
      unfold isDigit at hc
      grind
    rw [this]
    rfl
theorem lst_cons (s : ByteArray) (h : 0 < s.size) : s.data.toList = s[0] :: s.data.toList.drop 1 := by
  have := drop1 s 0 h
  rw [List.drop_zero] at this
  exact this
theorem lst_len (s : ByteArray) : s.data.toList.length = s.size := rfl
theorem isname_any (s : ByteArray) (w : World) (hs : s.size ≤ 20000) (hk : KwAt w) : Calls Tryd.prog 14 #[.string s] w fun e w' => e = .returned (.bool (nameP s.data.toList)) ∧ Ext w w' := by
  by_cases h0 : 0 < s.size
  · have HC := hid (lst_cons s h0)
    by_cases h1 : 24 < s.size
    · have HR : Hid (nameP s.data.toList = false) := name_long _ h1
      have e0 : (s.toList == []) = false := by
        rw [ByteArray.toList_eq, beq_eq_false_iff_ne]
        intro h
        have := congrArg List.length h
        rw [lst_len, List.length_nil] at this
        omega
      have e1 : s.toList.isEmpty = false := by
        rw [ByteArray.toList_eq]
        rw [lst_cons s h0]; rfl
      go_enter Tryd.func14, Tryd.ntmps14
      go_wp2_with fail
      go_ret
      exact ⟨ret_bool HR.out.symm, Ext.refl _⟩
    · have e1 : s.toList.isEmpty = false := by
        rw [ByteArray.toList_eq]
        rw [lst_cons s h0]; rfl
      cases h2 : isLetter s[0]
      · have HR : Hid (nameP s.data.toList = false) := by unfold Hid; rw [HC.out]; exact name_letter _ _ h2
        go_enter Tryd.func14, Tryd.ntmps14
        go_wp2_with (go_at_call 27; refine (letter_any s[0] _).mono ?_; rintro e w1 ⟨rfl, rfl⟩; rw [h2])
        go_ret
        exact ⟨ret_bool HR.out.symm, Ext.refl _⟩
      · have hle : spanN inWord s.data.toList ≤ s.size := span_le inWord s.data.toList
        by_cases h3 : spanN inWord s.data.toList < s.size
        · have HR : Hid (nameP s.data.toList = false) := by
            unfold Hid
            have h3' := h3
            rw [← lst_len] at h3'
            rw [HC.out] at h3' ⊢
            exact name_span _ _ h3'
          have HS := hid (span_word s w (by unfold maxLen; omega))
          generalize spanN inWord s.data.toList = n at *
          go_enter Tryd.func14, Tryd.ntmps14
          go_wp2_with (first | (go_at_call 27; refine (letter_any s[0] _).mono ?_; rintro e w1 ⟨rfl, rfl⟩; rw [h2]) | (go_at_call 28; refine (HS.out).mono ?_; rintro e w1 ⟨rfl, rfl⟩))
          go_ret
          exact ⟨ret_bool HR.out.symm, Ext.refl _⟩
        · have HR : Hid (nameP s.data.toList = ((s.data.toList == s.data.toList.map loC) && !(isKw s.data.toList))) := by
            unfold Hid
            have h3' : spanN inWord s.data.toList = s.data.toList.length := by rw [lst_len]; omega
            have h1' : s.data.toList.length ≤ 24 := by rw [lst_len]; omega
            rw [HC.out] at h3' h1' ⊢
            exact name_rest _ _ h1' h2 h3'
          have HS := hid (span_word s w (by unfold maxLen; omega))
          generalize hn : spanN inWord s.data.toList = n at *
          obtain rfl : n = s.size := by omega
          clear hle
          cases h4 : (s.data.toList == s.data.toList.map loC)
          · have b4 : (s.toList == s.data.toList.map loC) = false := by rw [ByteArray.toList_eq]; exact h4
            go_enter Tryd.func14, Tryd.ntmps14
            go_wp2_with (first | (go_at_call 27; refine (letter_any s[0] _).mono ?_; rintro e w1 ⟨rfl, rfl⟩; rw [h2]) | (go_at_call 28; refine (HS.out).mono ?_; rintro e w1 ⟨rfl, rfl⟩) | (go_at_call 30; refine (lower_any s _ hs).mono ?_; rintro e w1 ⟨rfl, hx1⟩))
            go_ret
            exact ⟨ret_bool (by rw [HR.out, h4]; rfl), hx1⟩
          · have b4 : (s.toList == s.data.toList.map loC) = true := by rw [ByteArray.toList_eq]; exact h4
            go_enter Tryd.func14, Tryd.ntmps14
            go_wp2_with (first | (go_at_call 27; refine (letter_any s[0] _).mono ?_; rintro e w1 ⟨rfl, rfl⟩; rw [h2]) | (go_at_call 28; refine (HS.out).mono ?_; rintro e w1 ⟨rfl, rfl⟩) | (go_at_call 30; refine (lower_any s _ hs).mono ?_; rintro e w1 ⟨rfl, hx1⟩) | (go_at_call 16; refine (keyword_any s _ hs (hk.ext hx1)).mono ?_; rintro e w2 ⟨rfl, hx2⟩))
            go_ret
            exact ⟨ret_bool (by rw [HR.out, h4]; rfl), hx1.trans hx2⟩
  · have HR : Hid (nameP s.data.toList = false) := by
      unfold Hid
      have : s.data.toList = [] := List.eq_nil_of_length_eq_zero (by rw [lst_len]; omega)
      rw [this]; rfl
    have e1 : s.toList.isEmpty = true := by
      have : s.data.toList = [] := List.eq_nil_of_length_eq_zero (by rw [lst_len]; omega)
      rw [ByteArray.toList_eq, this]; rfl
    go_enter Tryd.func14, Tryd.ntmps14
    go_wp2_with fail
    go_ret
    exact ⟨ret_bool HR.out.symm, Ext.refl _⟩
theorem name_head (c : UInt8) (r : List UInt8) (h : ¬ (97 ≤ c.toNat ∧ c.toNat ≤ 122)) : nameP (c :: r) = false := by
  unfold nameP
  simp only
  have : (decide (97 ≤ c.toNat) && decide (c.toNat ≤ 122)) = false := by grind
  rw [this, Bool.and_false]
  rfl
theorem name_bad (l : List UInt8) (c : UInt8) (hc : c ∈ l) (h : lowW c = false) : nameP l = false := by
  cases l with
  | nil => rfl
  | cons d r =>
    unfold nameP
    simp only
    have : (d :: r).all lowW = false := by
      rw [List.all_eq_false]
      exact ⟨c, hc, by rw [h]; decide⟩
    rw [this, Bool.and_false]
    rfl
theorem name_good (c : UInt8) (r : List UInt8) (h1 : (c :: r).length ≤ 24) (h2 : 97 ≤ c.toNat ∧ c.toNat ≤ 122) (h3 : (c :: r).all lowW = true) : nameP (c :: r) = !(isKw (c :: r)) := by
  unfold nameP
  simp only
  rw [h3, decide_eq_true h1, decide_eq_true h2.1, decide_eq_true h2.2]
  rfl
theorem risname_any (s : ByteArray) (w : World) (hs : s.size ≤ 20000) : Calls Tryd.prog 15 #[.string s] w fun e w' => e = .returned (.bool (nameP s.data.toList)) ∧ Ext w w' := by
  by_cases h0 : 0 < s.size
  · have HC := hid (lst_cons s h0)
    by_cases h1 : s.size ≤ 24
    · by_cases h2 : 97 ≤ s[0].toNat ∧ s[0].toNat ≤ 122
      · have HG : Hid (s.data.toList.all lowW = true → nameP s.data.toList = !(isKw s.data.toList)) := by
          unfold Hid
          intro ha
          have h1' : s.data.toList.length ≤ 24 := by rw [lst_len]; omega
          rw [HC.out] at ha h1' ⊢
          exact name_good _ _ h1' h2 ha
        obtain ⟨h2a, h2b⟩ := h2
        go_enter Tryd.func15, Tryd.ntmps15
        go_wp2_with fail
        go_loop [3] (fun i => ∃ k : Nat, k ≤ s.size ∧ i = .int .i64 k ∧ (s.data.toList.take k).all lowW = true) (fun i => s.size - (intOf i).toNat)
        case atStart => exact ⟨0, Nat.zero_le _, rfl, rfl⟩
        case round =>
          obtain ⟨k, hk, rfl, hv⟩ := hrel
          have HV := hid hv
          clear hv
          by_cases hlt : k < s.size
          · have HT := hid (take1 s k hlt)
            have HM : Hid (s[k] ∈ s.data.toList) := List.getElem_mem (show k < s.data.toList.length from hlt)
            by_cases h5 : s[k].toNat = 95
            · have b5 : ((s[k].toNat : Int) != 95) = false := by rw [h5]; rfl
              have HL : Hid (lowW s[k] = true) := by unfold Hid lowW; rw [h5]; simp
              clear h5
              go_wp2_with fail
              go_round
              case rel => exact ⟨k + 1, by omega, by go_num, by rw [HT.out, List.all_append, HV.out]; simpa using HL.out⟩
              case measure => simp [intOf]; omega
            · have b5 : ((s[k].toNat : Int) != 95) = true := by rw [bne_iff_ne]; omega
              cases hd : isDigit s[k]
              · by_cases h6 : 97 ≤ s[k].toNat ∧ s[k].toNat ≤ 122
                · have HL : Hid (lowW s[k] = true) := by unfold Hid lowW; rw [decide_eq_true h6.1, decide_eq_true h6.2]; rfl
                  obtain ⟨h6a, h6b⟩ := h6
                  clear h5
                  go_wp2_with (go_at_call 31; refine (rdigit_any s[k] _).mono ?_; rintro e w1 ⟨rfl, rfl⟩; rw [hd])
                  go_round
                  case rel => exact ⟨k + 1, by omega, by go_num, by rw [HT.out, List.all_append, HV.out]; simpa using HL.out⟩
                  case measure => simp [intOf]; omega
                · have HL : Hid (lowW s[k] = false) := by unfold Hid lowW; rw [hd]; grind
                  have HR : Hid (nameP s.data.toList = false) := name_bad _ _ HM.out HL.out
                  clear h5
                  go_wp2_with (go_at_call 31; refine (rdigit_any s[k] _).mono ?_; rintro e w1 ⟨rfl, rfl⟩; rw [hd])
                  all_goals first
                    | (go_ret; exact ⟨ret_bool HR.out.symm, Ext.refl _⟩)
                    | (exfalso; simp at *; omega)
              · have HL : Hid (lowW s[k] = true) := by unfold Hid lowW; rw [hd]; simp
                clear h5
                go_wp2_with (go_at_call 31; refine (rdigit_any s[k] _).mono ?_; rintro e w1 ⟨rfl, rfl⟩; rw [hd])
                go_round
                case rel => exact ⟨k + 1, by omega, by go_num, by rw [HT.out, List.all_append, HV.out]; simpa using HL.out⟩
                case measure => simp [intOf]; omega
          · obtain rfl : k = s.size := by omega
            have HR : Hid (nameP s.data.toList = !(isKw s.data.toList)) := HG.out (by
              have h := HV.out
              rw [List.take_of_length_le (Nat.le_of_eq (lst_len s))] at h
              exact h)
            go_wp2_with (go_at_call 17; refine (rkeyword_any s _ hs).mono ?_; rintro e w1 ⟨rfl, hx1⟩)
            go_ret
            exact ⟨ret_bool HR.out.symm, hx1⟩
      · have HR : Hid (nameP s.data.toList = false) := by unfold Hid; rw [HC.out]; exact name_head _ _ h2
        go_enter Tryd.func15, Tryd.ntmps15
        go_wp2_with fail
        all_goals first
          | (go_ret; exact ⟨ret_bool HR.out.symm, Ext.refl _⟩)
          | (exfalso; simp at *; omega)
    · have HR : Hid (nameP s.data.toList = false) := name_long _ (by rw [lst_len]; omega)
      go_enter Tryd.func15, Tryd.ntmps15
      go_wp2_with fail
      all_goals
        go_ret
        exact ⟨ret_bool HR.out.symm, Ext.refl _⟩
  · have HR : Hid (nameP s.data.toList = false) := by
      unfold Hid
      have : s.data.toList = [] := List.eq_nil_of_length_eq_zero (by rw [lst_len]; omega)
      rw [this]; rfl
    go_enter Tryd.func15, Tryd.ntmps15
    go_wp2_with fail
    all_goals
      go_ret
      exact ⟨ret_bool HR.out.symm, Ext.refl _⟩
end Go.Proofs.YtmnjfhjhbjhmhaaDoor
