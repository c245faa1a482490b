/-
  Walks over the schedule package's reference: line, Format.
-/
import Derived.Test.YtcdinoepjimkmaaDoorW12
namespace Go.Proofs.YtcdinoepjimkmaaDoor
open Go.RowKit
set_option linter.unusedVariables false
set_option maxHeartbeats 2000000
set_option maxRecDepth 100000

/-- the line of an action, with its line feed -/
def lineN (a : Act) : ByteArray := ⟨((lineB a).data.toList ++ [10]).toArray⟩
theorem rl_step (u : Nat) (hu : u < 8) (w : World) : Calls Tryd.prog 34 #[.agg #[.int .i64 1, .int .i64 u, .int .i64 0, .int .i64 0]] w fun e w' => e = .returned (.string (lineN ⟨1, u, 0, 0⟩)) ∧ Ext w w' := by
  have HD := hid (fun W => digits_any u u W (Nat.le_refl _) (by omega))
  have hsz := dig_size u (by omega)
  have HR : Hid ((⟨#[115, 116, 101, 112, 32]⟩ : ByteArray) ++ ⟨(Lib.decDigits u).toArray⟩ ++ ⟨#[10]⟩ = lineN ⟨1, u, 0, 0⟩) := by
    unfold Hid lineN
    rw [line_list1]
    apply b_ext
    rw [ByteArray.data_append, Array.toList_append, ByteArray.data_append, Array.toList_append]
    rfl
  have e5 : (⟨#[115, 116, 101, 112, 32]⟩ : ByteArray).size = 5 := rfl
  have e1 : (⟨#[10]⟩ : ByteArray).size = 1 := rfl
  generalize (⟨(Lib.decDigits u).toArray⟩ : ByteArray) = F at *
  have e6 : ((⟨#[115, 116, 101, 112, 32]⟩ : ByteArray) ++ F).size = 5 + F.size := by rw [ByteArray.size_append]; rfl
  go_enter Tryd.func34, Tryd.ntmps34
  go_wp2_with (go_at_call 41; refine (HD.out _).mono ?_; rintro e w1 ⟨rfl, hx1⟩)
  go_ret
  exact ⟨by rw [← HR.out]; rfl, ((Ext.refl w).alloc _).trans hx1⟩
theorem rl_two (w : World) : Calls Tryd.prog 34 #[.agg #[.int .i64 2, .int .i64 0, .int .i64 0, .int .i64 0]] w fun e w' => e = .returned (.string (lineN ⟨2, 0, 0, 0⟩)) ∧ Ext w w' := by
  go_enter Tryd.func34, Tryd.ntmps34
  go_wp2_with fail
  go_ret
  exact ⟨rfl, (Ext.refl w).alloc _⟩
theorem rl_four (w : World) : Calls Tryd.prog 34 #[.agg #[.int .i64 4, .int .i64 0, .int .i64 0, .int .i64 0]] w fun e w' => e = .returned (.string (lineN ⟨4, 0, 0, 0⟩)) ∧ Ext w w' := by
  go_enter Tryd.func34, Tryd.ntmps34
  go_wp2_with fail
  go_ret
  exact ⟨rfl, (Ext.refl w).alloc _⟩
theorem rl_three (w : World) : Calls Tryd.prog 34 #[.agg #[.int .i64 3, .int .i64 0, .int .i64 0, .int .i64 0]] w fun e w' => e = .returned (.string (lineN ⟨3, 0, 0, 0⟩)) ∧ Ext w w' := by
  go_enter Tryd.func34, Tryd.ntmps34
  go_wp2_with fail
  go_ret
  exact ⟨rfl, (Ext.refl w).alloc _⟩
theorem rl_crash (x b : Nat) (h1 : 1 ≤ x) (h2 : x ≤ 1000000) (h3 : b ≤ 64) (w : World) : Calls Tryd.prog 34 #[.agg #[.int .i64 3, .int .i64 0, .int .i64 x, .int .i64 b]] w fun e w' => e = .returned (.string (lineN ⟨3, 0, x, b⟩)) ∧ Ext w w' := by
  have HD1 := hid (fun W => digits_any x x W (Nat.le_refl _) h2)
  have HD2 := hid (fun W => digits_any b b W (Nat.le_refl _) (by omega))
  have hsz1 := dig_size x h2
  have hsz2 := dig_size b (by omega)
  have HR : Hid ((⟨#[99, 114, 97, 115, 104, 32]⟩ : ByteArray) ++ ⟨(Lib.decDigits x).toArray⟩ ++ ⟨#[32]⟩ ++ ⟨(Lib.decDigits b).toArray⟩ ++ ⟨#[10]⟩ = lineN ⟨3, 0, x, b⟩) := by
    unfold Hid lineN
    rw [line_list3 x b h1]
    apply b_ext
    simp [ByteArray.data_append, crashW]
  have b0 : ((x : Int) == 0) = false := by rw [beq_eq_false_iff_ne]; omega
  generalize (⟨(Lib.decDigits x).toArray⟩ : ByteArray) = F at *
  generalize (⟨(Lib.decDigits b).toArray⟩ : ByteArray) = G at *
  have e1 : ((⟨#[99, 114, 97, 115, 104, 32]⟩ : ByteArray) ++ F).size = 6 + F.size := by rw [ByteArray.size_append]; rfl
  have e2 : ((⟨#[99, 114, 97, 115, 104, 32]⟩ : ByteArray) ++ F ++ ⟨#[32]⟩).size = 7 + F.size := by rw [ByteArray.size_append, e1]; show 6 + F.size + 1 = _; omega
  have e3 : ((⟨#[99, 114, 97, 115, 104, 32]⟩ : ByteArray) ++ F ++ ⟨#[32]⟩ ++ G).size = 7 + F.size + G.size := by rw [ByteArray.size_append, e2]
  obtain ⟨hn0, hn1, hn2, hn3⟩ := boxL w (.int .i64 3) (.int .i64 0) (.int .i64 x) (.int .i64 b) 29
  go_enter Tryd.func34, Tryd.ntmps34
  go_wp2_with fail
  refine wp_region_later (by kernel_rfl) (by kernel_rfl) ?_
  repeat (go_big_quiet_step ((first | (go_at_call_of 41 (Value.int .i64 (x : Int)); exact later_of (HD1.out _)) | (go_at_call_of 41 (Value.int .i64 (b : Int)); exact later_of (HD2.out _)))))
  refine wpQuiet_nil ?_
  intro w' hw'
  have hx := later_out hw'
  clear hw' hn0 hn1 hn2 hn3
  go_wp2_with fail
  go_ret
  exact ⟨by rw [← HR.out]; rfl, ((Ext.refl w).alloc _).trans hx⟩
theorem rline_any (a : Act) (h : rightB a 8 = true) (w : World) : Calls Tryd.prog 34 #[.agg #[.int .i64 a.k, .int .i64 a.s, .int .i64 a.wr, .int .i64 a.b]] w fun e w' => e = .returned (.string (lineN a)) ∧ Ext w w' := by
  rcases right_cases a h with ⟨u, hu, rfl⟩ | rfl | rfl | rfl | ⟨x, b, h1, h2, h3, rfl⟩
  · exact rl_step u hu w
  · exact rl_two w
  · exact rl_four w
  · exact rl_three w
  · exact rl_crash x b h1 h2 h3 w
theorem lineN_size (a : Act) (h : rightB a 8 = true) : (lineN a).size ≤ 100 := by
  show ((lineB a).data.toList ++ [10]).length ≤ 100
  rw [List.length_append, List.length_singleton]
  rcases right_cases a h with ⟨u, hu, rfl⟩ | rfl | rfl | rfl | ⟨x, b, h1, h2, h3, rfl⟩
  · rw [line_list1, List.length_append, List.length_cons]
    have := digits_len u (by omega)
    have : stepW.length = 4 := rfl
    omega
  · decide
  · decide
  · decide
  · rw [line_list3 x b h1, List.length_append, List.length_cons, List.length_append, List.length_cons]
    have := digits_len x (by omega)
    have := digits_len b (by omega)
    have : crashW.length = 5 := rfl
    omega
theorem rformat_any (A : Option Addr) (l : List Act) (n c : Nat) (w : World) (hl : ActsAt w A l) (hn : l.length = n) (hm : n ≤ 1000) (hv : validB l 8 = true) :
    Calls Tryd.prog 21 #[.slice A n c] w fun e w' => e = .returned (.string ⟨(fmtL l).toArray⟩) ∧ Ext w w' := by
  have HN := hid hn
  have HL := hid hl
  have HV := hid hv
  clear hn hl hv
  go_enter Tryd.func21, Tryd.ntmps21
  go_wp2_with fail
  go_loopw [3, 4] (fun x i wr => ∃ (k : Nat) (X : ByteArray), k ≤ n ∧ i = .int .i64 k ∧ x = .string X ∧ X.size ≤ 100 * k ∧ X.data.toList = fmtL (l.take k) ∧ Ext w wr) (fun _ i _ => n - (intOf i).toNat)
  case atStart => exact ⟨0, ⟨#[]⟩, Nat.zero_le _, rfl, rfl, Nat.zero_le _, rfl, Ext.refl w⟩
  case round =>
    obtain ⟨k, X, hk, rfl, rfl, hXs, hX, hxr⟩ := hrel
    have HX := hid hX
    clear hX
    by_cases hlt : k < n
    · obtain ⟨a, ha⟩ : ∃ a, l[k]? = some a := ⟨_, List.getElem?_eq_getElem (by rw [HN.out]; exact hlt)⟩
      obtain ⟨b, off, rfl, hc0, hc1, hc2, hc3⟩ := (HL.out.ext hxr) k a ha
      have hra : rightB a 8 = true := by
        have := HV.out
        unfold validB at this
        exact List.all_eq_true.1 this a (List.mem_of_getElem? ha)
      have HC := hid (rline_any a hra)
      have hsz := lineN_size a hra
      have HT : Hid (fmtL (l.take (k + 1)) = fmtL (l.take k) ++ (lineN a).data.toList) := by
        obtain ⟨hi, rfl⟩ := List.getElem?_eq_some_iff.1 ha
        unfold Hid
        rw [List.take_succ_eq_append_getElem hi, fmtL_snoc]
        rfl
      clear ha hra
      generalize lineN a = L at *
      go_wp2_with (go_at_call 34; refine (HC.out _).mono ?_; rintro e w1 ⟨rfl, hx1⟩)
      go_roundw
      case rel =>
        refine ⟨k + 1, X ++ L, by omega, by go_num, rfl, by rw [ByteArray.size_append]; omega, ?_, hxr.trans hx1⟩
        rw [HT.out, ByteArray.data_append, Array.toList_append, HX.out]
      case measure => simp [intOf]; omega
    · obtain rfl : k = n := by omega
      go_wp2_with fail
      go_ret
      refine ⟨?_, hxr⟩
      have h := HX.out
      rw [List.take_of_length_le (by rw [HN.out]; exact Nat.le_refl _)] at h
      rw [← h]
      rfl
end Go.Proofs.YtcdinoepjimkmaaDoor
