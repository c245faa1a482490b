/-
  Walks over the lexer: keywords, the program's and the reference's.
-/
import Derived.Test.YtmnjfhjhbjhmhaaDoorW5
import Derived.Test.YtmnjfhjhbjhmhaaDoorShelf2
import Derived.BigQuiet
namespace Go.Proofs.YtmnjfhjhbjhmhaaDoor
open Go.RowKit
set_option linter.unusedVariables false
set_option maxHeartbeats 1000000
set_option maxRecDepth 100000

def kwAt (t : Nat) : List UInt8 := kwNames.getD t [255]
def kwStr (t : Nat) : ByteArray := ⟨(kwAt t).toArray⟩
def kwVals : List Value := kwNames.map fun l => .string ⟨l.toArray⟩
theorem kwVals_get (k : Nat) (h : k < 47) : kwVals[k]? = some (.string (kwStr k)) := by
  have h' : k < kwNames.length := h
  unfold kwVals kwStr kwAt
  rw [List.getElem?_map, List.getD_eq_getElem?_getD, List.getElem?_eq_getElem h']
  rfl
theorem str_list (l : List UInt8) : (⟨l.toArray⟩ : ByteArray).toList = l := by rw [ByteArray.toList_eq]
theorem kwStr_list (k : Nat) : (kwStr k).toList = kwAt k := str_list _
theorem kw_sorted : (List.range 47).all (fun j => (List.range 48).all fun t => Op.bytesLess (kwAt t) (kwAt j) == decide (t < j)) = true := by decide +kernel
theorem kw_less (j t : Nat) (hj : j < 47) : Op.bytesLess (kwAt t) (kwAt j) = decide (t < j) := by
  have h1 := List.all_eq_true.1 (List.all_eq_true.1 kw_sorted j (List.mem_range.2 hj))
  rcases Nat.lt_or_ge t 48 with h | h
  · exact eq_of_beq (h1 t (List.mem_range.2 h))
  · have h47 := eq_of_beq (h1 47 (List.mem_range.2 (by omega)))
    have e : kwAt t = kwAt 47 := by
      unfold kwAt
      rw [List.getD_eq_getElem?_getD, List.getD_eq_getElem?_getD, List.getElem?_eq_none (show kwNames.length ≤ t from Nat.le_trans (by decide) h), List.getElem?_eq_none (show kwNames.length ≤ 47 from Nat.le_refl _)]
    rw [e, h47]
    apply decide_eq_decide.2
    omega
/-- the search in the table answers as the membership -/
theorem kw_search (x : List UInt8) : decide (Lib.bsGo (fun t => Op.bytesLess (kwStr t).toList (⟨x.toArray⟩ : ByteArray).toList) 47 0 47 < 47 ∧ kwStr (Lib.bsGo (fun t => Op.bytesLess (kwStr t).toList (⟨x.toArray⟩ : ByteArray).toList) 47 0 47) = ⟨x.toArray⟩) = decide (x ∈ kwNames) := by
  by_cases h : x ∈ kwNames
  · obtain ⟨j, hj, hx⟩ := List.getElem_of_mem h
    have hj' : j < 47 := hj
    have e : x = kwAt j := by unfold kwAt; rw [List.getD_eq_getElem?_getD, List.getElem?_eq_getElem hj, hx]; rfl
    have hb : Lib.bsGo (fun t => Op.bytesLess (kwStr t).toList (⟨x.toArray⟩ : ByteArray).toList) 47 0 47 = j := by
      apply Lib.bsGo_spec _ j
      · intro t ht
        show Op.bytesLess (kwStr t).toList _ = true
        rw [kwStr_list, str_list, e, kw_less j t hj', decide_eq_true ht]
      · intro t ht
        show Op.bytesLess (kwStr t).toList _ = false
        rw [kwStr_list, str_list, e, kw_less j t hj', decide_eq_false (by omega)]
      · omega
      · omega
      · omega
    rw [hb, decide_eq_true h, decide_eq_true]
    refine ⟨hj', ?_⟩
    unfold kwStr
    rw [e]
  · rw [decide_eq_false h]
    apply decide_eq_false
    generalize Lib.bsGo _ 47 0 47 = I
    rintro ⟨h1, h2⟩
    apply h
    have h3 := congrArg ByteArray.toList h2
    rw [kwStr_list, str_list] at h3
    rw [← h3]
    unfold kwAt
    rw [List.getD_eq_getElem?_getD, List.getElem?_eq_getElem (show I < kwNames.length from h1)]
    exact List.getElem_mem _
/-- the program's table of keywords, where it lies -/
def KwAt (w : World) : Prop := ∃ b off c, w.cell? ⟨0, 0, none⟩ = some (.slice (some ⟨b, off, none⟩) 47 c) ∧ ∀ j, j < 47 → w.cell? ⟨b, off + j, none⟩ = some (.string (kwStr j))
theorem KwAt.ext {w w' : World} (h : KwAt w) (hx : Ext w w') : KwAt w' := by
  obtain ⟨b, off, c, h1, h2⟩ := h
  exact ⟨b, off, c, hx.keep h1, fun j hj => hx.keep (h2 j hj)⟩
theorem search_any (b off c : Nat) (x : List UInt8) (w : World) (h : ∀ j, j < 47 → w.cell? ⟨b, off + j, none⟩ = some (.string (kwStr j))) :
    ∃ I : Int, ∀ (y : Later w), Calls Tryd.prog 32 #[.slice (some ⟨b, off, none⟩) 47 c, .string ⟨x.toArray⟩] y.now fun e w' => e = .returned (.tuple #[.int .i64 I, .bool (decide (x ∈ kwNames))]) ∧ Ext y.now w' := by
  refine ⟨((Lib.bsGo (fun t => Op.bytesLess (kwStr t).toList (⟨x.toArray⟩ : ByteArray).toList) 47 0 47 : Nat) : Int), fun y => ?_⟩
  refine (Tryd.slices_BinarySearch b off 47 c kwStr ⟨x.toArray⟩ y.now (by decide) fun j hj => y.ext.keep (h j hj)).mono ?_
  rintro e w' ⟨rfl, q, rfl⟩
  refine ⟨?_, (Ext.refl _).drewN q⟩
  rw [kw_search]
theorem keyword_any (s : ByteArray) (w : World) (hs : s.size ≤ 20000) (hk : KwAt w) : Calls Tryd.prog 16 #[.string s] w fun e w' => e = .returned (.bool (isKw s.data.toList)) ∧ Ext w w' := by
  obtain ⟨b, off, c, h1, h2⟩ := hk
  obtain ⟨I, hI⟩ := search_any b off c (s.data.toList.map upC) w h2
  have hg := Later.keep h1
  have HI := hid hI
  clear hI h2
  go_enter Tryd.func16, Tryd.ntmps16
  go_wp2_with fail
  refine wp_region_later (by kernel_rfl) (by kernel_rfl) ?_
  repeat (go_big_quiet_step ((first | (go_at_call 33; exact later_of (upper_any s _ hs)) | (go_at_call 32; exact later_of (HI.out _)))))
  refine wpQuiet_nil ?_
  intro w' hw'
  have hx := later_out hw'
  clear hw' hg h1
  go_wp2_with fail
  go_ret
  exact ⟨rfl, hx⟩
theorem keywords_any (w : World) : Calls Tryd.prog 34 #[] w fun e w' => e = .returned (.slice (some ⟨w.heap.size, 0, none⟩) 47 47) ∧ Ext w w' ∧ Blk w' w.heap.size 9 kwVals := by
  go_enter Tryd.func34, Tryd.ntmps34
  go_wp2_with fail
  go_ret
  exact ⟨rfl, (Ext.refl w).alloc _, Blk.of_new w 9 kwVals⟩
theorem rkeyword_any (s : ByteArray) (w : World) (hs : s.size ≤ 20000) : Calls Tryd.prog 17 #[.string s] w fun e w' => e = .returned (.bool (isKw s.data.toList)) ∧ Ext w w' := by
  go_enter Tryd.func17, Tryd.ntmps17
  go_wp2_with fail
  refine (keywords_any _).mono ?_
  rintro e w1 ⟨rfl, hx1, hb1⟩
  go_wp2_with fail
  go_loopw [4] (fun i wr => ∃ k : Nat, k ≤ 47 ∧ i = .int .i64 k ∧ (∀ j, j < k → kwAt j ≠ s.data.toList.map upC) ∧ Ext w1 wr) (fun i _ => 47 - (intOf i).toNat)
  case atStart => exact ⟨0, Nat.zero_le _, rfl, fun j hj => absurd hj (Nat.not_lt_zero _), Ext.refl _⟩
  case round =>
    obtain ⟨k, hk, rfl, hno, hxr⟩ := hrel
    have HNO := hid hno
    clear hno
    by_cases hlt : k < 47
    · have hc := (hb1.ext hxr).cell_some (kwVals_get k hlt)
      have hck := Later.keep hc
      by_cases he : kwAt k = s.data.toList.map upC
      · have be : ((kwStr k).toList == s.data.toList.map upC) = true := by rw [kwStr_list, beq_iff_eq]; exact he
        have HR : Hid (isKw s.data.toList = true) := by
          unfold Hid isKw
          apply decide_eq_true
          rw [← he]
          unfold kwAt
          rw [List.getD_eq_getElem?_getD, List.getElem?_eq_getElem (show k < kwNames.length from hlt)]
          exact List.getElem_mem _
        clear he
        go_wp2_with fail
        refine wp_region_later (by kernel_rfl) (by kernel_rfl) ?_
        repeat (go_big_quiet_step ((go_at_call 35; exact later_of (rupper_any s _ hs))))
        refine wpQuiet_nil ?_
        intro w' hw'
        have hx := later_out hw'
        clear hw' hc hck
        go_wp2_with fail
        go_ret
        exact ⟨ret_bool HR.out.symm, hx1.trans (hxr.trans hx)⟩
      · have be : ((kwStr k).toList == s.data.toList.map upC) = false := by rw [kwStr_list, beq_eq_false_iff_ne]; exact he
        have HE := hid he
        clear he
        go_wp2_with fail
        refine wp_region_later (by kernel_rfl) (by kernel_rfl) ?_
        repeat (go_big_quiet_step ((go_at_call 35; exact later_of (rupper_any s _ hs))))
        refine wpQuiet_nil ?_
        intro w' hw'
        have hx := later_out hw'
        clear hw' hc hck
        go_wp2_with fail
        go_roundw
        case rel =>
          refine ⟨k + 1, by omega, by go_num, fun j hj => ?_, hxr.trans hx⟩
          rcases Nat.lt_or_ge j k with h | h
          · exact HNO.out j h
          · obtain rfl : j = k := by omega
            exact HE.out
        case measure => simp [intOf]; omega
    · go_wp2_with fail
      go_ret
      refine ⟨ret_bool ?_, hx1.trans hxr⟩
      obtain rfl : k = 47 := by omega
      unfold isKw
      symm
      apply decide_eq_false
      intro hm
      obtain ⟨j, hj, hx⟩ := List.getElem_of_mem hm
      refine HNO.out j hj ?_
      unfold kwAt
      rw [List.getD_eq_getElem?_getD, List.getElem?_eq_getElem hj, hx]
      rfl
end Go.Proofs.YtmnjfhjhbjhmhaaDoor
