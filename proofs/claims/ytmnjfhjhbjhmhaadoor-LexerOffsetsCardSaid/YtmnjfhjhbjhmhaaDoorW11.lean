/-
  Walks over the lexer: white space and comments, the program's and the reference's.
-/
import Derived.Test.YtmnjfhjhbjhmhaaDoorW10
namespace Go.Proofs.YtmnjfhjhbjhmhaaDoor
open Go.RowKit
set_option linter.unusedVariables false
set_option maxHeartbeats 2000000
set_option maxRecDepth 100000

theorem from_list (s : ByteArray) (k : Nat) : (s.extract k s.size).data.toList = s.data.toList.drop k := by
  rw [Lib.extract_data]
  rw [List.take_of_length_le]
  rw [List.length_drop, lst_len]
  exact Nat.le_refl _
theorem idx_skip : ∀ l : List UInt8, (Lib.indexByte l 10 = -1 → skipN true l = l.length) ∧ ∀ i : Nat, Lib.indexByte l 10 = (i : Int) → i < l.length ∧ skipN true l = i + skipN false (l.drop i)
  | [] => by
    constructor
    · intro _; rfl
    · intro i h
      unfold Lib.indexByte at h
      omega
  | b :: l => by
    have ih := idx_skip l
    have hg := Lib.indexByte_ge l 10
    rw [Lib.indexByte]
    by_cases hb : b = 10
    · subst hb
      constructor
      · intro h; simp at h
      · intro i h
        simp at h
        obtain rfl : i = 0 := by omega
        refine ⟨by simp, ?_⟩
        rw [List.drop_zero, skipN, if_pos (by decide), skipN, if_pos (.inr (.inr (by decide)))]
        omega
    · have e : (b == 10) = false := by simpa using hb
      have hb' : ¬ b.toNat = 10 := fun h => hb (num_ext b 10 h)
      rw [e]
      simp only [Bool.false_eq_true, if_false]
      rw [skipN, if_neg hb']
      by_cases hl : Lib.indexByte l 10 = -1
      · have h1 := ih.1 hl
        rw [hl, h1]
        constructor
        · intro _; rw [List.length_cons]
        · intro i h; simp at h; try omega
      · have e2 : (Lib.indexByte l 10 == -1) = false := by simpa using hl
        rw [e2]
        simp only [Bool.false_eq_true, if_false]
        constructor
        · intro h; omega
        · intro i h
          obtain ⟨j, rfl⟩ : ∃ j, i = j + 1 := ⟨i - 1, by omega⟩
          obtain ⟨h1, h2⟩ := ih.2 j (by omega)
          rw [List.length_cons, List.drop_succ_cons, h2]
          omega
theorem dash_skip (r : List UInt8) (h : r.head? = some 45) : skipN false (45 :: r) = skipN true (45 :: r) := by
  have e1 : skipN true (45 :: r) = skipN true r + 1 := by rw [skipN]; rfl
  rw [e1, skipN.eq_def]
  simp only
  rw [if_neg (by decide), if_pos ⟨by decide, h⟩]
theorem other_skip (c : UInt8) (r : List UInt8) (h1 : ¬ (c.toNat = 32 ∨ c.toNat = 9 ∨ c.toNat = 10)) (h2 : ¬ (c.toNat = 45 ∧ r.head? = some 45)) : skipN false (c :: r) = 0 := by
  rw [skipN, if_neg h1, if_neg h2]
theorem space_skip (c : UInt8) (r : List UInt8) (h1 : c.toNat = 32 ∨ c.toNat = 9 ∨ c.toNat = 10) : skipN false (c :: r) = skipN false r + 1 := by
  rw [skipN, if_pos h1]
theorem prefix_dash (c : UInt8) (r : List UInt8) : [45, 45].isPrefixOf (c :: r) = decide (c.toNat = 45 ∧ r.head? = some 45) := by
  rw [Bool.eq_iff_iff, decide_eq_true_eq]
  cases r with
  | nil => simp [List.isPrefixOf]
  | cons d q =>
    simp only [List.isPrefixOf, Bool.and_true, Bool.and_eq_true, beq_iff_eq, List.head?_cons, Option.some.injEq]
    constructor
    · rintro ⟨h1, h2⟩; exact ⟨by rw [← h1]; rfl, h2.symm⟩
    · rintro ⟨h1, h2⟩; exact ⟨(num_ext c 45 h1).symm, h2.symm⟩
theorem skip_any (s : ByteArray) (a : Nat) (w : World) (hs : s.size ≤ 20000) (ha : a ≤ s.size) : Calls Tryd.prog 23 #[.string s, .int .i64 a] w fun e w' => e = .returned (.int .i64 ((a + skipN false (s.data.toList.drop a) : Nat) : Int)) ∧ w' = w := by
  generalize hV : a + skipN false (s.data.toList.drop a) = V
  have HV := hid hV
  clear hV
  go_enter Tryd.func23, Tryd.ntmps23
  go_wp2_with fail
  go_loop [1] (fun i => ∃ k : Nat, k ≤ s.size ∧ i = .int .i64 k ∧ k + skipN false (s.data.toList.drop k) = V) (fun i => s.size - (intOf i).toNat)
  case atStart => exact ⟨a, ha, rfl, HV.out⟩
  case round =>
    obtain ⟨k, hk, rfl, hv⟩ := hrel
    have HV := hid hv
    clear hv
    by_cases hlt : k < s.size
    · have HD := hid (drop1 s k hlt)
      by_cases hsp : s[k].toNat = 32 ∨ s[k].toNat = 9 ∨ s[k].toNat = 10
      · have HE : Hid (k + 1 + skipN false (s.data.toList.drop (k + 1)) = V) := by
          have h := HV.out
          rw [HD.out, space_skip _ _ hsp] at h
          unfold Hid
          omega
        clear HV HD
        rcases hsp with h | h | h
        · have b1 : ((s[k].toNat : Int) == 32) = true := by rw [h]; rfl
          clear h
          go_wp2_with fail
          go_round
          case rel => exact ⟨k + 1, by omega, by go_num, HE.out⟩
          case measure => simp [intOf]; omega
        · have b1 : ((s[k].toNat : Int) == 32) = false := by rw [h]; rfl
          have b2 : ((s[k].toNat : Int) == 9) = true := by rw [h]; rfl
          clear h
          go_wp2_with fail
          go_round
          case rel => exact ⟨k + 1, by omega, by go_num, HE.out⟩
          case measure => simp [intOf]; omega
        · have b1 : ((s[k].toNat : Int) == 32) = false := by rw [h]; rfl
          have b2 : ((s[k].toNat : Int) == 9) = false := by rw [h]; rfl
          have b3 : ((s[k].toNat : Int) == 10) = true := by rw [h]; rfl
          clear h
          go_wp2_with fail
          go_round
          case rel => exact ⟨k + 1, by omega, by go_num, HE.out⟩
          case measure => simp [intOf]; omega
      · have b1 : ((s[k].toNat : Int) == 32) = false := by rw [beq_eq_false_iff_ne]; omega
        have b2 : ((s[k].toNat : Int) == 9) = false := by rw [beq_eq_false_iff_ne]; omega
        have b3 : ((s[k].toNat : Int) == 10) = false := by rw [beq_eq_false_iff_ne]; omega
        have HSP : Hid (¬ (s[k].toNat = 32 ∨ s[k].toNat = 9 ∨ s[k].toNat = 10)) := hsp
        clear hsp
        have hpre : Lib.hasPrefix (s.extract k s.size).data.toList (ByteArray.mk #[45, 45]).data.toList = decide (s[k].toNat = 45 ∧ (s.data.toList.drop (k + 1)).head? = some 45) := by
          rw [from_list, drop1 s k hlt]
          exact prefix_dash _ _
        have HP : Hid (∀ W, Calls Tryd.prog 40 #[.string (s.extract k s.size), .string ⟨#[45, 45]⟩] W fun e w' => e = .returned (.bool (decide (s[k].toNat = 45 ∧ (s.data.toList.drop (k + 1)).head? = some 45))) ∧ w' = W) := by
          intro W
          rw [← hpre]
          exact Tryd.strings_HasPrefix (s.extract k s.size) ⟨#[45, 45]⟩ W
        clear hpre
        by_cases hc : s[k].toNat = 45 ∧ (s.data.toList.drop (k + 1)).head? = some 45
        · rw [decide_eq_true hc] at HP
          have hix : ((10 : Int)).toNat.toUInt8 = 10 := rfl
          have HI : Hid (∀ W, Calls Tryd.prog 41 #[.string (s.extract k s.size), .int .u8 10] W fun e w' => e = .returned (.int .i64 (Lib.indexByte (s.data.toList.drop k) 10)) ∧ w' = W) := by
            intro W
            have := Tryd.strings_IndexByte (s.extract k s.size) 10 W
            rw [from_list, hix] at this
            exact this
          have HK : Hid (k + skipN true (s.data.toList.drop k) = V) := by
            have h := HV.out
            rw [HD.out] at h ⊢
            rw [num_ext s[k] 45 hc.1] at h ⊢
            rw [dash_skip _ hc.2] at h
            exact h
          have hdl : (s.data.toList.drop k).length = s.size - k := by rw [List.length_drop, lst_len]
          have hge := Lib.indexByte_ge (s.data.toList.drop k) 10
          by_cases hn : Lib.indexByte (s.data.toList.drop k) 10 = -1
          · have HE : Hid ((V : Int) = s.size) := by
              have h1 := (idx_skip _).1 hn
              have h := HK.out
              rw [h1] at h
              unfold Hid
              omega
            rw [hn] at HI
            clear hc hge hdl hn
            go_wp2_with (first | (go_at_call 40; refine (HP.out _).mono ?_; rintro e w1 ⟨rfl, rfl⟩) | (go_at_call 41; refine (HI.out _).mono ?_; rintro e w1 ⟨rfl, rfl⟩))
            go_ret
            exact ⟨ret_int HE.out.symm, rfl⟩
          · obtain ⟨m, hm⟩ : ∃ m : Nat, Lib.indexByte (s.data.toList.drop k) 10 = m := ⟨(Lib.indexByte (s.data.toList.drop k) 10).toNat, by omega⟩
            obtain ⟨h1, h2⟩ := (idx_skip _).2 m hm
            have HE : Hid (k + m + skipN false (s.data.toList.drop (k + m)) = V) := by
              have h := HK.out
              rw [h2, List.drop_drop] at h
              unfold Hid
              omega
            have hm0 : 0 < m := by
              rcases Nat.eq_zero_or_pos m with h0 | h0
              · exfalso
                subst h0
                rw [drop1 s k hlt, Lib.indexByte] at hm
                rw [num_ext s[k] 45 hc.1] at hm
                have : ((45 : UInt8) == 10) = false := rfl
                rw [this] at hm
                simp only [Bool.false_eq_true, if_false] at hm
                have hg2 := Lib.indexByte_ge (s.data.toList.drop (k + 1)) 10
                split at hm
                · omega
                · rename_i hx
                  have : Lib.indexByte (s.data.toList.drop (k + 1)) 10 ≠ -1 := fun e => hx (by rw [e]; rfl)
                  omega
              · exact h0
            rw [hdl] at h1
            rw [hm] at HI
            clear hc hge hdl hn h2 hm HK
            go_wp2_with (first | (go_at_call 40; refine (HP.out _).mono ?_; rintro e w1 ⟨rfl, rfl⟩) | (go_at_call 41; refine (HI.out _).mono ?_; rintro e w1 ⟨rfl, rfl⟩))
            go_round
            case rel => exact ⟨k + m, by omega, by go_num, HE.out⟩
            case measure => simp [intOf]; omega
        · rw [decide_eq_false hc] at HP
          have HE : Hid (k = V) := by
            have h := HV.out
            rw [HD.out, other_skip _ _ HSP.out hc] at h
            exact h
          clear hc
          go_wp2_with (go_at_call 40; refine (HP.out _).mono ?_; rintro e w1 ⟨rfl, rfl⟩)
          go_ret
          exact ⟨ret_int (by rw [HE.out]), rfl⟩
    · go_wp2_with fail
      go_ret
      obtain rfl : k = s.size := by omega
      have h := HV.out
      rw [List.drop_of_length_le (Nat.le_of_eq (lst_len s))] at h
      exact ⟨ret_int (by rw [← h]; rfl), rfl⟩
theorem rskip_any (s : ByteArray) (a : Nat) (w : World) (hs : s.size ≤ 20000) (ha : a ≤ s.size) : Calls Tryd.prog 25 #[.string s, .int .i64 a] w fun e w' => e = .returned (.int .i64 ((a + skipN false (s.data.toList.drop a) : Nat) : Int)) ∧ w' = w := by
  generalize hV : a + skipN false (s.data.toList.drop a) = V
  have HV := hid hV
  clear hV
  go_enter Tryd.func25, Tryd.ntmps25
  go_wp2_with fail
  go_loop [1] (fun i => ∃ k : Nat, k ≤ s.size ∧ i = .int .i64 k ∧ k + skipN false (s.data.toList.drop k) = V) (fun i => s.size - (intOf i).toNat)
  case atStart => exact ⟨a, ha, rfl, HV.out⟩
  case round =>
    obtain ⟨k, hk, rfl, hv⟩ := hrel
    have HV := hid hv
    clear hv
    by_cases hlt : k < s.size
    · have HD := hid (drop1 s k hlt)
      have HSC := hid (fun W => rspace_any s[k] W)
      by_cases hsp : s[k].toNat = 32 ∨ s[k].toNat = 9 ∨ s[k].toNat = 10
      · have HE : Hid (k + 1 + skipN false (s.data.toList.drop (k + 1)) = V) := by
          have h := HV.out
          rw [HD.out, space_skip _ _ hsp] at h
          unfold Hid
          omega
        have hb : isSpace s[k] = true := by unfold isSpace; grind
        rw [hb] at HSC
        clear HV HD hsp
        go_wp2_with (go_at_call 45; refine (HSC.out _).mono ?_; rintro e w1 ⟨rfl, rfl⟩)
        go_round
        case rel => exact ⟨k + 1, by omega, by go_num, HE.out⟩
        case measure => simp [intOf]; omega
      · have hb : isSpace s[k] = false := by unfold isSpace; grind
        rw [hb] at HSC
        have HSP : Hid (¬ (s[k].toNat = 32 ∨ s[k].toNat = 9 ∨ s[k].toNat = 10)) := hsp
        clear hsp
        by_cases hl : k + 1 < s.size
        · have HD2 := hid (drop1 s (k + 1) hl)
          by_cases h1 : s[k].toNat = 45
          · have b1 : ((s[k].toNat : Int) == 45) = true := by rw [h1]; rfl
            have b0 : ((s[k].toNat : Int) != 10) = true := by rw [h1]; rfl
            have H1 := hid h1
            clear h1
            by_cases h2 : s[k + 1].toNat = 45
            · have b2 : ((s[k + 1].toNat : Int) == 45) = true := by rw [h2]; rfl
              have HK : Hid (k + skipN true (s.data.toList.drop k) = V) := by
                have h := HV.out
                rw [HD.out] at h ⊢
                rw [num_ext s[k] 45 H1.out] at h ⊢
                rw [dash_skip _ (by rw [HD2.out, List.head?_cons, num_ext s[k + 1] 45 h2])] at h
                exact h
              clear h2
              go_wp2_with (go_at_call 45; refine (HSC.out _).mono ?_; rintro e w1 ⟨rfl, rfl⟩)
              clear HV HD HD2
              go_loop [1] (fun i => ∃ j : Nat, k ≤ j ∧ j ≤ s.size ∧ i = .int .i64 j ∧ j + skipN true (s.data.toList.drop j) = V) (fun i => s.size - (intOf i).toNat)
              case atStart => exact ⟨k, Nat.le_refl _, hk, rfl, HK.out⟩
              case round =>
                obtain ⟨j, hkj, hj, rfl, hv⟩ := hrel
                have HV := hid hv
                clear hv
                by_cases hjl : j < s.size
                · have HD := hid (drop1 s j hjl)
                  by_cases h10 : s[j].toNat = 10
                  · have b3 : ((s[j].toNat : Int) != 10) = false := by rw [h10]; rfl
                    have HE : Hid (j + skipN false (s.data.toList.drop j) = V) := by
                      have h := HV.out
                      rw [HD.out] at h ⊢
                      rw [skipN, if_pos h10] at h
                      rw [space_skip _ _ (.inr (.inr h10))]
                      exact h
                    have hne : k < j := by
                      rcases Nat.lt_or_ge k j with h | h
                      · exact h
                      · exfalso
                        obtain rfl : k = j := by omega
                        have := H1.out
                        omega
                    clear h10
                    go_wp2_with fail
                    go_round
                    case rel => exact ⟨j, hj, rfl, HE.out⟩
                    case measure => simp [intOf]; omega
                  · have b3 : ((s[j].toNat : Int) != 10) = true := by rw [bne_iff_ne]; omega
                    have HE : Hid (j + 1 + skipN true (s.data.toList.drop (j + 1)) = V) := by
                      have h := HV.out
                      rw [HD.out, skipN, if_neg h10] at h
                      unfold Hid
                      omega
                    clear h10
                    go_wp2_with fail
                    go_round
                    case rel => exact ⟨j + 1, by omega, by omega, by go_num, HE.out⟩
                    case measure => simp [intOf]; omega
                · have HE : Hid (j + skipN false (s.data.toList.drop j) = V) := by
                    have h := HV.out
                    have e : s.data.toList.drop j = [] := List.drop_of_length_le (by rw [lst_len]; omega)
                    rw [e] at h ⊢
                    exact h
                  go_wp2_with fail
                  go_round
                  case rel => exact ⟨j, hj, rfl, HE.out⟩
                  case measure => simp [intOf]; omega
            · have b2 : ((s[k + 1].toNat : Int) == 45) = false := by rw [beq_eq_false_iff_ne]; omega
              have HE : Hid (k = V) := by
                have h := HV.out
                rw [HD.out, other_skip _ _ HSP.out (by
                  rw [HD2.out, List.head?_cons]
                  rintro ⟨_, h⟩
                  injection h with h
                  rw [h] at h2
                  exact h2 rfl)] at h
                exact h
              clear h2
              go_wp2_with (go_at_call 45; refine (HSC.out _).mono ?_; rintro e w1 ⟨rfl, rfl⟩)
              go_ret
              exact ⟨ret_int (by rw [HE.out]), rfl⟩
          · have b1 : ((s[k].toNat : Int) == 45) = false := by rw [beq_eq_false_iff_ne]; omega
            have HE : Hid (k = V) := by
              have h := HV.out
              rw [HD.out, other_skip _ _ HSP.out (fun h => h1 h.1)] at h
              exact h
            clear h1
            go_wp2_with (go_at_call 45; refine (HSC.out _).mono ?_; rintro e w1 ⟨rfl, rfl⟩)
            go_ret
            exact ⟨ret_int (by rw [HE.out]), rfl⟩
        · have HE : Hid (k = V) := by
            have h := HV.out
            rw [HD.out, other_skip _ _ HSP.out (by
              rw [List.drop_of_length_le (show s.data.toList.length ≤ k + 1 by rw [lst_len]; omega)]
              rintro ⟨_, h⟩
              cases h)] at h
            exact h
          go_wp2_with (go_at_call 45; refine (HSC.out _).mono ?_; rintro e w1 ⟨rfl, rfl⟩)
          go_ret
          exact ⟨ret_int (by rw [HE.out]), rfl⟩
    · go_wp2_with fail
      go_ret
      obtain rfl : k = s.size := by omega
      have h := HV.out
      rw [List.drop_of_length_le (Nat.le_of_eq (lst_len s))] at h
      exact ⟨ret_int (by rw [← h]; rfl), rfl⟩
end Go.Proofs.YtmnjfhjhbjhmhaaDoor
