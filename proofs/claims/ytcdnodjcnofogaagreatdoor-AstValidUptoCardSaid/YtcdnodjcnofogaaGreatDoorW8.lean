/-
  Walks: the reference's names.
-/
import Derived.Test.YtcdnodjcnofogaaGreatDoorW7
namespace Go.Proofs.YtcdnodjcnofogaaGreatDoor
open Go.RowKit
set_option linter.unusedVariables false
set_option linter.unusedSimpArgs false
set_option maxHeartbeats 4000000
set_option maxRecDepth 100000

def kwStr (k : Nat) : ByteArray := S (kwWords.getD k [])
/-- a keyword -/
def kwB (s : ByteArray) : Bool := kwWords.contains (N s)
def kwVals : List Value := kwWords.map fun l => .string (S l)
theorem kwVals_get (k : Nat) (h : k < 47) : kwVals[k]? = some (.string (kwStr k)) := by
  have h' : k < kwWords.length := h
  unfold kwVals kwStr
  rw [List.getElem?_map, List.getD_eq_getElem?_getD, List.getElem?_eq_getElem h']
  rfl
theorem kw_small : ∀ l ∈ kwWords, ∀ x ∈ l, x < 256 := by decide +kernel
theorem kw_hit {s : ByteArray} {k : Nat} (hk : k < 47) (h : N (kwStr k) = N s) : kwB s = true := by
  unfold kwB
  have h' : k < kwWords.length := hk
  rw [List.contains_iff_mem, ← h]
  unfold kwStr
  rw [List.getD_eq_getElem?_getD, List.getElem?_eq_getElem h', Option.getD_some, N_S _ (kw_small _ (List.getElem_mem h'))]
  exact List.getElem_mem h'
theorem kw_miss {s : ByteArray} (h : ∀ k, k < 47 → N (kwStr k) ≠ N s) : kwB s = false := by
  unfold kwB
  rw [← Bool.not_eq_true, List.contains_iff_mem]
  intro hm
  obtain ⟨k, hk, he⟩ := List.getElem_of_mem hm
  apply h k hk
  unfold kwStr
  rw [List.getD_eq_getElem?_getD, List.getElem?_eq_getElem hk, Option.getD_some, N_S _ (kw_small _ (List.getElem_mem hk))]
  exact he
theorem keyword_any (s : ByteArray) (w : World) : Calls Tryz.prog 146 #[.string s] w fun r w' => r = .returned (.bool (kwB s)) ∧ Ext w w' := by
  have HB : Hid (Blk (w.alloc (.cells kwVals.toArray 9)) w.heap.size 9 kwVals) := Blk.of_new w 9 kwVals
  have HX : Hid (Ext w (w.alloc (.cells kwVals.toArray 9))) := (Ext.refl w).alloc _
  go_enter Tryz.func146, Tryz.ntmps146
  go_wp2_with fail
  obtain ⟨w1, hw1⟩ : ∃ w1, w.alloc (.cells kwVals.toArray 9) = w1 := ⟨_, rfl⟩
  rw [hw1] at HB HX
  change Code.wp _ _ _ _ (w.alloc (.cells kwVals.toArray 9))
  rw [hw1]
  clear hw1
  generalize w.heap.size = g at *
  go_loop [4] (fun i => ∃ k : Nat, k ≤ 47 ∧ i = .int .i64 k ∧ ∀ j, j < k → N (kwStr j) ≠ N s) (fun i => 47 - (intOf i).toNat)
  case atStart => exact ⟨0, Nat.zero_le _, rfl, fun j hj => absurd hj (Nat.not_lt_zero _)⟩
  case round =>
    obtain ⟨k, hk, rfl, hno⟩ := hrel
    have HN := hid hno
    clear hno
    by_cases hlt : k < 47
    · have hc := (HB.out.cell k).trans (kwVals_get k hlt)
      by_cases he : N (kwStr k) = N s
      · have b1 : ((kwStr k).toList == s.toList) = true := by rw [str_eq, he]; simp
        have HR := hid (kw_hit hlt he)
        clear he
        generalize kwStr k = t at *
        go_wp2_with fail
        go_ret
        exact ⟨ret_bool HR.out.symm, HX.out⟩
      · have b1 : ((kwStr k).toList == s.toList) = false := by rw [str_eq, beq_eq_false_iff_ne]; exact he
        have HE := hid he
        clear he
        have HQ : Hid (∀ j, j < k + 1 → N (kwStr j) ≠ N s) := by
          intro j hj
          rcases Nat.lt_or_ge j k with h | h
          · exact HN.out j h
          · obtain rfl : j = k := by omega
            exact HE.out
        clear HN HE
        generalize kwStr k = t at *
        go_wp2_with fail
        go_round
        case rel => exact ⟨k + 1, by omega, by go_num, HQ.out⟩
        case measure => simp [intOf]; omega
    · obtain rfl : k = 47 := by omega
      go_wp2_with fail
      go_ret
      exact ⟨ret_bool (kw_miss HN.out).symm, HX.out⟩
theorem rname_bits (s : ByteArray) : nameB s = (fstLow (N s) && (N s).all isNmC && decide (s.size ≤ 24) && !kwB s) := by unfold nameB nameL kwB; rw [N_len]
/-- the reference's test of one character -/
def chOk (k c : Nat) : Bool := isLow c || k != 0 && isNmC c
theorem chOk_all {s : ByteArray} {k : Nat} (hk : k < s.size) (h : ∀ j (hj : j < s.size), j < k → chOk j s[j].toNat = true) (h1 : chOk k s[k].toNat = true) : ∀ j (hj : j < s.size), j < k + 1 → chOk j s[j].toNat = true := by
  intro j hj hlt
  rcases Nat.lt_or_ge j k with h2 | h2
  · exact h j hj h2
  · obtain rfl : j = k := by omega
    exact h1
theorem chOk_no {s : ByteArray} {k : Nat} (hk : k < s.size) (h : chOk k s[k].toNat = false) : nameB s = false := by
  unfold chOk at h
  rw [Bool.or_eq_false_iff] at h
  by_cases h0 : k = 0
  · subst h0
    exact name_first hk h.1
  · have h1 : isNmC s[k].toNat = false := by
      have := h.2
      rw [Bool.and_eq_false_iff] at this
      rcases this with h2 | h2
      · simp at h2; exact absurd h2 h0
      · exact h2
    rw [rname_bits, all_no hk h1]
    simp
theorem chOk_yes {s : ByteArray} (h : ∀ j (hj : j < s.size), j < s.size → chOk j s[j].toNat = true) : nameB s = (decide (0 < s.size) && decide (s.size ≤ 24) && !kwB s) := by
  rw [rname_bits]
  by_cases hp : 0 < s.size
  · obtain ⟨r, hr⟩ := N_head hp
    have h1 := h 0 hp hp
    have h2 : fstLow (N s) = true := by
      rw [hr]
      simpa [fstLow, chOk] using h1
    have h3 : (N s).all isNmC = true := by
      rw [List.all_eq_true]
      intro x hx
      obtain ⟨j, hj, he⟩ := List.getElem_of_mem hx
      rw [N_len] at hj
      have h4 := h j hj hj
      have h5 := N_get s j hj
      rw [List.getElem?_eq_getElem (by rw [N_len]; exact hj)] at h5
      have h6 : x = s[j].toNat := by rw [← he]; exact Option.some.inj h5
      rw [h6]
      unfold chOk at h4
      rw [Bool.or_eq_true, Bool.and_eq_true] at h4
      rcases h4 with h4 | h4
      · unfold isNmC; rw [h4]; rfl
      · exact h4.2
    rw [h2, h3]; simp [hp]
  · have hN : N s = [] := List.eq_nil_of_length_eq_zero (by rw [N_len]; omega)
    rw [hN]
    simp [fstLow, hp]
theorem rname_any (s : ByteArray) (w : World) (hm : s.size ≤ 9223372036854775807) : Calls Tryz.prog 89 #[.string s] w fun r w' => r = .returned (.bool (nameB s)) ∧ Ext w w' := by
  go_enter Tryz.func89, Tryz.ntmps89
  go_wp2_with fail
  go_loop [3, 4] (fun i _ => ∃ k : Nat, k ≤ s.size ∧ i = .int .i64 k ∧ ∀ j (hj : j < s.size), j < k → chOk j s[j].toNat = true) (fun i _ => s.size - (intOf i).toNat)
  case atStart => exact ⟨0, Nat.zero_le _, rfl, fun j _ h => absurd h (Nat.not_lt_zero _)⟩
  case round =>
    obtain ⟨k, hk, rfl, hno⟩ := hrel
    have HV := hid hno
    clear hno
    by_cases hlt : k < s.size
    · have HS : Hid (chOk k s[k].toNat = true → ∀ j (hj : j < s.size), j < k + 1 → chOk j s[j].toNat = true) := fun h => chOk_all hlt HV.out h
      have HF : Hid (chOk k s[k].toNat = false → nameB s = false) := fun h => chOk_no hlt h
      have HI : Hid (chOk k s[k].toNat = (decide (97 ≤ s[k].toNat) && decide (s[k].toNat ≤ 122) || k != 0 && (decide (97 ≤ s[k].toNat) && decide (s[k].toNat ≤ 122) || s[k].toNat == 95 || decide (48 ≤ s[k].toNat) && decide (s[k].toNat ≤ 57)))) := rfl
      clear HV
      by_cases hk0 : k = 0
      · have HK0 := hid hk0
        have b0 : ((k : Int) == 0) = true := by rw [hk0]; rfl
        clear hk0
        go_wp2_with fail
        all_goals first
          | (go_round
             case rel =>
               refine ⟨k + 1, by omega, by go_num, HS.out ?_⟩
               rw [HI.out]
               have hk0 := HK0.out
               simp only [beq_iff_eq, bne_iff_ne, ne_eq, beq_eq_false_iff_ne, bne_eq_false_iff_eq, decide_eq_true_eq, decide_eq_false_iff_not, Bool.or_eq_true, Bool.and_eq_true, Bool.not_eq_true', Bool.not_eq_false'] at * <;> omega
             case measure => simp [intOf]; omega)
          | (go_ret
             refine ⟨ret_bool ?_, Ext.refl w⟩
             symm
             apply HF.out
             rw [HI.out, ← Bool.not_eq_true]
             have hk0 := HK0.out
             simp only [beq_iff_eq, bne_iff_ne, ne_eq, beq_eq_false_iff_ne, bne_eq_false_iff_eq, decide_eq_true_eq, decide_eq_false_iff_not, Bool.or_eq_true, Bool.and_eq_true, Bool.not_eq_true', Bool.not_eq_false'] at * <;> omega)
      · have HK0 := hid hk0
        have b0 : ((k : Int) == 0) = false := by rw [beq_eq_false_iff_ne]; omega
        clear hk0
        go_wp2_with fail
        all_goals first
          | (go_round
             case rel =>
               refine ⟨k + 1, by omega, by go_num, HS.out ?_⟩
               rw [HI.out]
               have hk0 := HK0.out
               simp only [beq_iff_eq, bne_iff_ne, ne_eq, beq_eq_false_iff_ne, bne_eq_false_iff_eq, decide_eq_true_eq, decide_eq_false_iff_not, Bool.or_eq_true, Bool.and_eq_true, Bool.not_eq_true', Bool.not_eq_false'] at * <;> omega
             case measure => simp [intOf]; omega)
          | (go_ret
             refine ⟨ret_bool ?_, Ext.refl w⟩
             symm
             apply HF.out
             rw [HI.out, ← Bool.not_eq_true]
             have hk0 := HK0.out
             simp only [beq_iff_eq, bne_iff_ne, ne_eq, beq_eq_false_iff_ne, bne_eq_false_iff_eq, decide_eq_true_eq, decide_eq_false_iff_not, Bool.or_eq_true, Bool.and_eq_true, Bool.not_eq_true', Bool.not_eq_false'] at * <;> omega)
    · obtain rfl : k = s.size := by omega
      have HN := hid (chOk_yes HV.out)
      have HK := hid (keyword_any s w)
      clear HV
      by_cases h0 : 0 < s.size
      · by_cases h1 : s.size ≤ 24
        · have d0 : decide ((0 : Int) < (s.size : Int)) = true := by simp; omega
          have d2 : decide (0 < s.size) = true := by simpa using h0
          have d1 : decide ((s.size : Int) ≤ (24 : Int)) = true := by simp; omega
          have HN2 : Hid (nameB s = !kwB s) := by unfold Hid; rw [HN.out]; simp [h0, h1]
          clear h1
          go_wp2_with (go_at_call 146; refine HK.out.mono ?_; rintro _ w2 ⟨rfl, hx2⟩)
          go_ret
          exact ⟨ret_bool HN2.out.symm, hx2⟩
        · have d0 : decide ((0 : Int) < (s.size : Int)) = true := by simp; omega
          have d2 : decide (0 < s.size) = true := by simpa using h0
          have d1 : decide ((s.size : Int) ≤ (24 : Int)) = false := by simp; omega
          have HN2 : Hid (nameB s = false) := by unfold Hid; rw [HN.out]; simp [h1]
          clear h1
          go_wp2_with fail
          go_ret
          exact ⟨ret_bool HN2.out.symm, Ext.refl w⟩
      · have d0 : decide ((0 : Int) < (s.size : Int)) = false := by simpa using h0
        have d2 : decide (0 < s.size) = false := by simpa using h0
        have HN2 : Hid (nameB s = false) := by unfold Hid; rw [HN.out]; simp [h0]
        go_wp2_with fail
        go_ret
        exact ⟨ret_bool HN2.out.symm, Ext.refl w⟩
end Go.Proofs.YtcdnodjcnofogaaGreatDoor
