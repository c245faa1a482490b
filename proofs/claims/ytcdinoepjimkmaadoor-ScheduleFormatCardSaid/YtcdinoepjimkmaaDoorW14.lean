/-
  Walks over the schedule package's reference: action.
-/
import Derived.Test.YtcdinoepjimkmaaDoorW13
import Derived.RegionTactic
namespace Go.Proofs.YtcdinoepjimkmaaDoor
open Go.RowKit
set_option linter.unusedVariables false
set_option maxHeartbeats 4000000
set_option maxRecDepth 100000

def Act.val (a : Act) : Value := .agg #[.int .i64 a.k, .int .i64 a.s, .int .i64 a.wr, .int .i64 a.b]
theorem seq_list (s : ByteArray) (l : List UInt8) : (s.toList == l) = decide (s.data.toList = l) := by
  rw [ByteArray.toList_eq, Bool.eq_iff_iff, beq_iff_eq, decide_eq_true_eq]
theorem ex_list (s : ByteArray) (a k : Nat) : (s.extract a k).data.toList = (s.data.toList.drop a).take (k - a) := Lib.extract_data s a k
theorem ex0_list (s : ByteArray) (k : Nat) : (s.extract 0 k).data.toList = s.data.toList.take k := by rw [ex_list, List.drop_zero, Nat.sub_zero]
theorem dr1 (s : ByteArray) (k : Nat) (h : k < s.size) : s.data.toList.drop k = s[k] :: s.data.toList.drop (k + 1) := List.drop_eq_getElem_cons (show k < s.data.toList.length from h)
theorem cut32_at : ∀ (l : List UInt8) (i : Nat), (32 : UInt8) ∉ l.take i → l[i]? = some 32 → cut32 l = some (l.take i, l.drop (i + 1))
  | [], i, _, h => by simp at h
  | c :: r, 0, _, h => by
    simp only [List.getElem?_cons_zero, Option.some.injEq] at h
    subst h
    rw [cut32, if_pos rfl]
    rfl
  | c :: r, i + 1, h1, h2 => by
    rw [List.take_succ_cons] at h1
    have hc : ¬ c = 32 := fun e => h1 (by rw [e]; exact List.mem_cons_self ..)
    rw [cut32, if_neg hc, cut32_at r i (fun hm => h1 (List.mem_cons_of_mem _ hm)) (by simpa using h2)]
    rfl
theorem cut32_no : ∀ l : List UInt8, (32 : UInt8) ∉ l → cut32 l = none
  | [], _ => rfl
  | c :: r, h => by
    have hc : ¬ c = 32 := fun e => h (by rw [e]; exact List.mem_cons_self ..)
    rw [cut32, if_neg hc, cut32_no r fun hm => h (List.mem_cons_of_mem _ hm)]
    rfl
theorem action_any (s : ByteArray) (w : World) (hs : s.size ≤ 4000) (h0 : 0 < s.size) (hend : s[s.size - 1] = 10) : Calls Tryd.prog 35 #[.string s] w fun e w' => e = .returned (rcand s.data.toList).val ∧ Ext w w' := by
  have HN := hid (fun t W (ht : t.size ≤ 4000) => number_any t W ht)
  have hz : s.data.toList.length = s.size := rfl
  have HE := hid hend
  clear hend
  by_cases h1 : s.data.toList = checkW ++ [10]
  · have b1 : (s.toList == [99, 104, 101, 99, 107, 112, 111, 105, 110, 116, 10]) = true := by rw [seq_list]; exact decide_eq_true h1
    have HR : Hid (rcand s.data.toList = ⟨2, 0, 0, 0⟩) := if_pos h1
    clear h1
    go_enter Tryd.func35, Tryd.ntmps35
    go_wp2_with fail
    have HBn := Blk.of_new w 29 [.int .i64 (2), .int .i64 (0), .int .i64 (0), .int .i64 (0)]
    have s0 := HBn.cell 0
    have s1 := HBn.cell 1
    have s2 := HBn.cell 2
    have s3 := HBn.cell 3
    exact bodyPost_ret (v := .agg #[.int .i64 (2), .int .i64 (0), .int .i64 (0), .int .i64 (0)]) (by simp [results, Tryd.results35, go_sem, s0, s1, s2, s3]) rfl ⟨by rw [HR.out]; rfl, (Ext.refl w).alloc _⟩
  have b1 : (s.toList == [99, 104, 101, 99, 107, 112, 111, 105, 110, 116, 10]) = false := by rw [seq_list]; exact decide_eq_false h1
  by_cases h2 : s.data.toList = recoW ++ [10]
  · have b2 : (s.toList == [114, 101, 99, 111, 118, 101, 114, 10]) = true := by rw [seq_list]; exact decide_eq_true h2
    have HR : Hid (rcand s.data.toList = ⟨4, 0, 0, 0⟩) := by unfold Hid rcand; rw [if_neg h1, if_pos h2]
    clear h1 h2
    go_enter Tryd.func35, Tryd.ntmps35
    go_wp2_with fail
    have HBn := Blk.of_new w 29 [.int .i64 (4), .int .i64 (0), .int .i64 (0), .int .i64 (0)]
    have s0 := HBn.cell 0
    have s1 := HBn.cell 1
    have s2 := HBn.cell 2
    have s3 := HBn.cell 3
    exact bodyPost_ret (v := .agg #[.int .i64 (4), .int .i64 (0), .int .i64 (0), .int .i64 (0)]) (by simp [results, Tryd.results35, go_sem, s0, s1, s2, s3]) rfl ⟨by rw [HR.out]; rfl, (Ext.refl w).alloc _⟩
  have b2 : (s.toList == [114, 101, 99, 111, 118, 101, 114, 10]) = false := by rw [seq_list]; exact decide_eq_false h2
  by_cases h3 : s.data.toList = crashW ++ [10]
  · have b3 : (s.toList == [99, 114, 97, 115, 104, 10]) = true := by rw [seq_list]; exact decide_eq_true h3
    have HR : Hid (rcand s.data.toList = ⟨3, 0, 0, 0⟩) := by unfold Hid rcand; rw [if_neg h1, if_neg h2, if_pos h3]
    clear h1 h2 h3
    go_enter Tryd.func35, Tryd.ntmps35
    go_wp2_with fail
    have HBn := Blk.of_new w 29 [.int .i64 (3), .int .i64 (0), .int .i64 (0), .int .i64 (0)]
    have s0 := HBn.cell 0
    have s1 := HBn.cell 1
    have s2 := HBn.cell 2
    have s3 := HBn.cell 3
    exact bodyPost_ret (v := .agg #[.int .i64 (3), .int .i64 (0), .int .i64 (0), .int .i64 (0)]) (by simp [results, Tryd.results35, go_sem, s0, s1, s2, s3]) rfl ⟨by rw [HR.out]; rfl, (Ext.refl w).alloc _⟩
  have b3 : (s.toList == [99, 114, 97, 115, 104, 10]) = false := by rw [seq_list]; exact decide_eq_false h3
  have HR0 : Hid (rcand s.data.toList = if 6 < s.size ∧ s.data.toList.take 5 = stepW ++ [32] then ⟨1, numR ((s.data.toList.drop 5).take (s.size - 1 - 5)), 0, 0⟩
      else if 6 < s.size ∧ s.data.toList.take 6 = crashW ++ [32] then
        (match cut32 (s.data.toList.drop 6) with
        | none => ⟨0, 0, 0, 0⟩
        | some (a, b) => ⟨3, 0, numR a, numR (b.take (b.length - 1))⟩)
      else ⟨0, 0, 0, 0⟩) := by unfold Hid rcand; rw [if_neg h1, if_neg h2, if_neg h3]; rfl
  clear h1 h2 h3
  by_cases h6 : 6 < s.size
  · have hsz5 : (s.extract 0 5).size = 5 := by rw [ByteArray.size_extract]; omega
    by_cases h4 : s.data.toList.take 5 = stepW ++ [32]
    · have b4 : ((s.extract 0 5).toList == [115, 116, 101, 112, 32]) = true := by rw [seq_list, ex0_list]; exact decide_eq_true h4
      have HR : Hid (rcand s.data.toList = ⟨1, numR ((s.data.toList.drop 5).take (s.size - 1 - 5)), 0, 0⟩) := by unfold Hid; rw [HR0.out, if_pos ⟨h6, h4⟩]
      have HC : Hid (∀ W, Calls Tryd.prog 42 #[.string (s.extract 5 (s.size - 1))] W fun e w' => e = .returned (.int .i64 (numR ((s.data.toList.drop 5).take (s.size - 1 - 5)))) ∧ w' = W) := by
        intro W
        have hb : (s.extract 5 (s.size - 1)).size ≤ 4000 := by rw [ByteArray.size_extract]; omega
        have := HN.out (s.extract 5 (s.size - 1)) W hb
        rw [ex_list] at this
        exact this
      clear HR0 h4
      generalize numR ((s.data.toList.drop 5).take (s.size - 1 - 5)) = M at *
      go_enter Tryd.func35, Tryd.ntmps35
      go_wp2_with (go_at_call 42; refine (HC.out _).mono ?_; rintro e w1 ⟨rfl, hw1⟩; subst w1)
      have HBn := Blk.of_new w 29 [.int .i64 (1), .int .i64 (M), .int .i64 (0), .int .i64 (0)]
      have s0 := HBn.cell 0
      have s1 := HBn.cell 1
      have s2 := HBn.cell 2
      have s3 := HBn.cell 3
      exact bodyPost_ret (v := .agg #[.int .i64 (1), .int .i64 (M), .int .i64 (0), .int .i64 (0)]) (by simp [results, Tryd.results35, go_sem, s0, s1, s2, s3]) rfl ⟨by rw [HR.out]; rfl, (Ext.refl w).alloc _⟩
    · have b4 : ((s.extract 0 5).toList == [115, 116, 101, 112, 32]) = false := by rw [seq_list, ex0_list]; exact decide_eq_false h4
      by_cases h5 : s.data.toList.take 6 = crashW ++ [32]
      · have b5 : ((s.extract 0 6).toList == [99, 114, 97, 115, 104, 32]) = true := by rw [seq_list, ex0_list]; exact decide_eq_true h5
        have HR1 : Hid (rcand s.data.toList = (match cut32 (s.data.toList.drop 6) with
            | none => ⟨0, 0, 0, 0⟩
            | some (a, b) => ⟨3, 0, numR a, numR (b.take (b.length - 1))⟩)) := by unfold Hid; rw [HR0.out, if_neg (fun h => h4 h.2), if_pos ⟨h6, h5⟩]
        have HBk := hid (Blk.of_new w 29 [.int .i64 0, .int .i64 0, .int .i64 0, .int .i64 0])
        clear HR0 h4 h5
        go_enter Tryd.func35, Tryd.ntmps35
        go_wp2_with fail
        go_loop [3] (fun i => ∃ k : Nat, 6 ≤ k ∧ k ≤ s.size ∧ i = .int .i64 k ∧ (32 : UInt8) ∉ (s.data.toList.drop 6).take (k - 6)) (fun i => s.size - (intOf i).toNat)
        case atStart => exact ⟨6, Nat.le_refl _, by omega, rfl, by simp⟩
        case round =>
          obtain ⟨k, hk6, hk, rfl, hno⟩ := hrel
          have HNO := hid hno
          clear hno
          by_cases hlt : k < s.size
          · have hg6 : (s.data.toList.drop 6)[k - 6]? = some s[k] := by
              rw [List.getElem?_drop, show 6 + (k - 6) = k by omega, List.getElem?_eq_getElem (show k < s.data.toList.length from hlt)]
              rfl
            by_cases h32 : s[k].toNat = 32
            · have e32 : s[k] = 32 := UInt8.toNat_inj.1 h32
              have hkl : k < s.size - 1 := by
                rcases Nat.lt_or_ge k (s.size - 1) with h | h
                · exact h
                · exfalso
                  obtain rfl : k = s.size - 1 := by omega
                  have := HE.out
                  rw [e32] at this
                  cases this
              have hb32 : ((s[k].toNat : Int) == 32) = true := by rw [h32]; rfl
              have hcut := cut32_at _ _ HNO.out (by rw [hg6, e32])
              have HR : Hid (rcand s.data.toList = ⟨3, 0, numR ((s.data.toList.drop 6).take (k - 6)), numR ((s.data.toList.drop (k + 1)).take (s.size - 1 - (k + 1)))⟩) := by
                unfold Hid
                rw [HR1.out, hcut]
                simp only
                have e1 : (s.data.toList.drop 6).drop (k - 6 + 1) = s.data.toList.drop (k + 1) := by rw [List.drop_drop, show 6 + (k - 6 + 1) = k + 1 by omega]
                rw [e1, List.length_drop, hz, show s.size - (k + 1) - 1 = s.size - 1 - (k + 1) by omega]
              have HC1 : Hid (∀ W, Calls Tryd.prog 42 #[.string (s.extract 6 k)] W fun e w' => e = .returned (.int .i64 (numR ((s.data.toList.drop 6).take (k - 6)))) ∧ w' = W) := by
                intro W
                have hb : (s.extract 6 k).size ≤ 4000 := by rw [ByteArray.size_extract]; omega
                have := HN.out (s.extract 6 k) W hb
                rw [ex_list] at this
                exact this
              have HC2 : Hid (∀ W, Calls Tryd.prog 42 #[.string (s.extract (k + 1) (s.size - 1))] W fun e w' => e = .returned (.int .i64 (numR ((s.data.toList.drop (k + 1)).take (s.size - 1 - (k + 1))))) ∧ w' = W) := by
                intro W
                have hb : (s.extract (k + 1) (s.size - 1)).size ≤ 4000 := by rw [ByteArray.size_extract]; omega
                have := HN.out (s.extract (k + 1) (s.size - 1)) W hb
                rw [ex_list] at this
                exact this
              clear hg6 e32 h32 hcut
              generalize numR ((s.data.toList.drop 6).take (k - 6)) = M1 at *
              generalize numR ((s.data.toList.drop (k + 1)).take (s.size - 1 - (k + 1))) = M2 at *
              go_wp2_with fail
              clear HR1 HN HNO HBk
              have hkl2 : k + 2 ≤ s.size := by omega
              have hq1 : ((k : Int) + 1 ≤ (s.size : Int) - 1) := by omega
              have hw1 : IntKind.i64.wrap ((s.size : Int) - 1) = (s.size : Int) - 1 := IntWalk.i64_in _ (by omega)
              have hw2 : IntKind.i64.wrap ((k : Int) + 1) = (k : Int) + 1 := IntWalk.i64_in _ (by omega)
              go_region_with (first
                | (go_at_call_of 42 (Value.string (s.extract 6 k)); refine (HC1.out _).mono ?_; rintro e w1 ⟨rfl, hw1⟩; subst w1)
                | (go_at_call 42; refine (HC2.out _).mono ?_; rintro e w2 ⟨rfl, hw2⟩; subst w2))
              all_goals
                go_wp2_with fail
                have HBn := (Blk.of_new w 29 [.int .i64 3, .int .i64 0, .int .i64 M1, .int .i64 M2]).drew
                have s0 := HBn.cell 0
                have s1 := HBn.cell 1
                have s2 := HBn.cell 2
                have s3 := HBn.cell 3
                exact bodyPost_ret (v := .agg #[.int .i64 3, .int .i64 0, .int .i64 M1, .int .i64 M2]) (by simp [results, Tryd.results35, go_sem, s0, s1, s2, s3]) rfl ⟨by rw [HR.out]; rfl, ((Ext.refl w).alloc _).drew⟩
            · have hb32 : ((s[k].toNat : Int) == 32) = false := by rw [beq_eq_false_iff_ne]; omega
              have HN2 : Hid ((32 : UInt8) ∉ (s.data.toList.drop 6).take (k + 1 - 6)) := by
                rw [show k + 1 - 6 = (k - 6) + 1 by omega, List.take_add_one, hg6]
                intro hm
                rcases List.mem_append.1 hm with hm | hm
                · exact HNO.out hm
                · rw [Option.toList_some, List.mem_singleton] at hm
                  rw [← hm] at h32
                  exact h32 rfl
              clear h32 hg6
              go_wp2_with fail
              go_round
              case rel => exact ⟨k + 1, by omega, by omega, by go_num, HN2.out⟩
              case measure => simp [intOf]; omega
          · have HR : Hid (rcand s.data.toList = ⟨0, 0, 0, 0⟩) := by
              unfold Hid
              have h := HNO.out
              rw [List.take_of_length_le (by rw [List.length_drop, hz]; omega)] at h
              rw [HR1.out, cut32_no _ h]
            go_wp2_with fail
            have HBn := Blk.of_new w 29 [.int .i64 (0), .int .i64 (0), .int .i64 (0), .int .i64 (0)]
            have s0 := HBn.cell 0
            have s1 := HBn.cell 1
            have s2 := HBn.cell 2
            have s3 := HBn.cell 3
            exact bodyPost_ret (v := .agg #[.int .i64 (0), .int .i64 (0), .int .i64 (0), .int .i64 (0)]) (by simp [results, Tryd.results35, go_sem, s0, s1, s2, s3]) rfl ⟨by rw [HR.out]; rfl, (Ext.refl w).alloc _⟩
      · have b5 : ((s.extract 0 6).toList == [99, 114, 97, 115, 104, 32]) = false := by rw [seq_list, ex0_list]; exact decide_eq_false h5
        have HR : Hid (rcand s.data.toList = ⟨0, 0, 0, 0⟩) := by unfold Hid; rw [HR0.out, if_neg (fun h => h4 h.2), if_neg (fun h => h5 h.2)]
        clear HR0 h4 h5
        go_enter Tryd.func35, Tryd.ntmps35
        go_wp2_with fail
        have HBn := Blk.of_new w 29 [.int .i64 (0), .int .i64 (0), .int .i64 (0), .int .i64 (0)]
        have s0 := HBn.cell 0
        have s1 := HBn.cell 1
        have s2 := HBn.cell 2
        have s3 := HBn.cell 3
        exact bodyPost_ret (v := .agg #[.int .i64 (0), .int .i64 (0), .int .i64 (0), .int .i64 (0)]) (by simp [results, Tryd.results35, go_sem, s0, s1, s2, s3]) rfl ⟨by rw [HR.out]; rfl, (Ext.refl w).alloc _⟩
  · have HR : Hid (rcand s.data.toList = ⟨0, 0, 0, 0⟩) := by unfold Hid; rw [HR0.out, if_neg (fun h => h6 h.1), if_neg (fun h => h6 h.1)]
    go_enter Tryd.func35, Tryd.ntmps35
    go_wp2_with fail
    have HBn := Blk.of_new w 29 [.int .i64 (0), .int .i64 (0), .int .i64 (0), .int .i64 (0)]
    have s0 := HBn.cell 0
    have s1 := HBn.cell 1
    have s2 := HBn.cell 2
    have s3 := HBn.cell 3
    exact bodyPost_ret (v := .agg #[.int .i64 (0), .int .i64 (0), .int .i64 (0), .int .i64 (0)]) (by simp [results, Tryd.results35, go_sem, s0, s1, s2, s3]) rfl ⟨by rw [HR.out]; rfl, (Ext.refl w).alloc _⟩
end Go.Proofs.YtcdinoepjimkmaaDoor
