/-
  Walks over the lexer: literals, written and read, the program's and the reference's.
-/
import Derived.Test.YtmnjfhjhbjhmhaaDoorW8
import Derived.Test.YtmnjfhjhbjhmhaaDoorShelf
import Derived.Test.YtmnjfhjhbjhmhaaDoorQuo
namespace Go.Proofs.YtmnjfhjhbjhmhaaDoor
open Go.RowKit
set_option linter.unusedVariables false
set_option maxHeartbeats 2000000
set_option maxRecDepth 100000

theorem flat_quo : ∀ l : List UInt8, flat l = quo l
  | [] => rfl
  | c :: r => by
    rw [flat, quo, flat_quo r]
    by_cases h : c.toNat = 39
    · obtain rfl : c = 39 := num_ext c 39 h
      rw [if_pos h, if_pos rfl]
    · rw [if_neg h, if_neg (fun e => h (by rw [e]; rfl))]
/-- the literal of a text; empty: there is none -/
def quoteP (s : ByteArray) : ByteArray := if isText s = true then ⟨(quoL s.data.toList).toArray⟩ else ⟨#[]⟩
theorem isText_eq (s : ByteArray) : isText s = (decide (spanN isPrint s.data.toList = s.size) && decide (s.size ≤ 16)) := by
  unfold isText
  congr 1
  rw [Bool.eq_iff_iff, List.all_eq_true, decide_eq_true_eq]
  constructor
  · intro h
    have := span_full isPrint s.data.toList fun x hx => h x hx
    rw [this]; rfl
  · intro h x hx
    refine span_all isPrint s.data.toList x ?_
    rw [h, List.take_of_length_le (Nat.le_of_eq (lst_len s))]
    exact hx
/-- the library's variable of the longest search holds some int -/
def Sh (w : World) : Prop := ∃ m : Int, w.cell? ⟨1, 0, none⟩ = some (.int .i64 m)
theorem Sh.ext {w w' : World} (h : Sh w) (hx : Ext w w') : Sh w' := by
  obtain ⟨m, h⟩ := h
  exact ⟨m, hx.keep h⟩
theorem countB_le (t : ByteArray) : Lib.countB t ⟨#[39]⟩ ≤ t.size + 1 := Lib.count_le t.data.toList [39]
theorem repl_any (t : ByteArray) (w : World) (h : Sh w) (hs : t.size ≤ 1000) : Calls Tryd.prog 37 #[.string t, .string ⟨#[39]⟩, .string ⟨#[39, 39]⟩] w fun e w' => e = .returned (.string ⟨(flat t.data.toList).toArray⟩) ∧ Ext w w' := by
  obtain ⟨m, hm⟩ := h
  have hc := countB_le t
  have e2 : (⟨#[39, 39]⟩ : ByteArray).size = 2 := rfl
  refine (Tryd.strings_ReplaceAll t ⟨#[39]⟩ ⟨#[39, 39]⟩ m w (by omega) hm (Nat.le_refl 1) (by rw [e2]; omega)).mono ?_
  rintro e w' ⟨rfl, hx⟩
  refine ⟨?_, hx⟩
  show Ending.returned (.string ⟨(Lib.replaceAll t.data.toList [39] [39, 39]).toArray⟩) = _
  rw [repAll_quo, ← flat_quo]
theorem flat_len : ∀ l : List UInt8, (flat l).length ≤ 2 * l.length
  | [] => Nat.le_refl _
  | c :: r => by
    have := flat_len r
    rw [flat]
    split <;> simp only [List.length_cons] <;> omega
theorem flat_app : ∀ a b : List UInt8, flat (a ++ b) = flat a ++ flat b := fun a b => by rw [flat_quo, flat_quo, flat_quo, quo_app]
theorem by_list {a b : ByteArray} (h : a.data.toList = b.data.toList) : a = b := by
  obtain ⟨⟨a⟩⟩ := a
  obtain ⟨⟨b⟩⟩ := b
  simpa using h
theorem quoL_bytes (l : List UInt8) : (⟨#[39]⟩ : ByteArray) ++ ⟨(flat l).toArray⟩ ++ ⟨#[39]⟩ = ⟨(quoL l).toArray⟩ := by
  apply by_list
  rw [ByteArray.data_append, Array.toList_append, ByteArray.data_append, Array.toList_append]
  rfl
theorem quote_any (s : ByteArray) (w : World) (hs : s.size ≤ 1000) (hsh : Sh w) : Calls Tryd.prog 18 #[.string s] w fun e w' => e = .returned (.string (quoteP s)) ∧ Ext w w' := by
  by_cases h1 : s.size ≤ 16
  · have hle : spanN isPrint s.data.toList ≤ s.size := span_le isPrint s.data.toList
    have HS := hid (span_print s w (by unfold maxLen; omega))
    by_cases h2 : spanN isPrint s.data.toList = s.size
    · have HR : Hid (quoteP s = (⟨#[39]⟩ : ByteArray) ++ ⟨(flat s.data.toList).toArray⟩ ++ ⟨#[39]⟩) := by
        unfold Hid quoteP
        rw [isText_eq, decide_eq_true h2, decide_eq_true h1, quoL_bytes]; rfl
      have hfl : (⟨(flat s.data.toList).toArray⟩ : ByteArray).size ≤ 2 * s.size := flat_len s.data.toList
      generalize spanN isPrint s.data.toList = n at *
      subst h2
      have HRP := hid (fun W (h : Sh W) => repl_any s W h hs)
      generalize (⟨(flat s.data.toList).toArray⟩ : ByteArray) = F at *
      have e1 : (⟨#[39]⟩ : ByteArray).size = 1 := rfl
      have e2 : ((⟨#[39]⟩ : ByteArray) ++ F).size = 1 + F.size := by rw [ByteArray.size_append]; rfl
      go_enter Tryd.func18, Tryd.ntmps18
      go_wp2_with (first | (go_at_call 28; refine (HS.out).mono ?_; rintro e w1 ⟨rfl, rfl⟩) | (go_at_call 37; refine (HRP.out _ hsh).mono ?_; rintro e w1 ⟨rfl, hx1⟩))
      go_ret
      exact ⟨by rw [HR.out]; rfl, hx1⟩
    · have HR : Hid (quoteP s = ⟨#[]⟩) := by
        unfold Hid quoteP
        rw [isText_eq, decide_eq_false h2]; rfl
      generalize spanN isPrint s.data.toList = n at *
      go_enter Tryd.func18, Tryd.ntmps18
      go_wp2_with (go_at_call 28; refine (HS.out).mono ?_; rintro e w1 ⟨rfl, rfl⟩)
      go_ret
      exact ⟨by rw [HR.out]; rfl, Ext.refl _⟩
  · have HR : Hid (quoteP s = ⟨#[]⟩) := by
      unfold Hid quoteP
      rw [isText_eq, decide_eq_false h1, Bool.and_false]; rfl
    go_enter Tryd.func18, Tryd.ntmps18
    go_wp2_with fail
    go_ret
    exact ⟨by rw [HR.out]; rfl, Ext.refl _⟩
theorem rquote_any (s : ByteArray) (w : World) (hs : s.size ≤ 1000) : Calls Tryd.prog 19 #[.string s] w fun e w' => e = .returned (.string (quoteP s)) ∧ w' = w := by
  have HT := hid (rtext_any s w (by unfold maxLen; omega))
  cases ht : isText s
  · have HR : Hid (quoteP s = ⟨#[]⟩) := by unfold Hid quoteP; rw [ht]; rfl
    go_enter Tryd.func19, Tryd.ntmps19
    go_wp2_with (go_at_call 21; refine (HT.out).mono ?_; rintro e w1 ⟨rfl, rfl⟩; rw [ht])
    go_ret
    exact ⟨by rw [HR.out]; rfl, rfl⟩
  · have HR : Hid (quoteP s = ⟨(quoL s.data.toList).toArray⟩) := by unfold Hid quoteP; rw [ht]; rfl
    go_enter Tryd.func19, Tryd.ntmps19
    go_wp2_with (go_at_call 21; refine (HT.out).mono ?_; rintro e w1 ⟨rfl, rfl⟩; rw [ht])
    go_loop [3, 4] (fun x i => ∃ (k : Nat) (X : ByteArray), k ≤ s.size ∧ i = .int .i64 k ∧ x = .string X ∧ X.size ≤ 1 + 2 * k ∧ X.data.toList = 39 :: flat (s.data.toList.take k)) (fun _ i => s.size - (intOf i).toNat)
    case atStart => exact ⟨0, ⟨#[39]⟩, Nat.zero_le _, rfl, rfl, Nat.le_refl _, rfl⟩
    case round =>
      obtain ⟨k, X, hk, rfl, rfl, hXs, hX⟩ := hrel
      have HX := hid hX
      clear hX
      by_cases hlt : k < s.size
      · have E1 := hid (ext1 s k hlt)
        have e2 : (s.extract k (k + 1)).size = 1 := by
          show (s.extract k (k + 1)).data.toList.length = 1
          rw [ext1 s k hlt]; rfl
        have HTK := hid (take1 s k hlt)
        have e3 : (X ++ s.extract k (k + 1)).size = X.size + 1 := by rw [ByteArray.size_append, e2]
        have e4 : (⟨#[39]⟩ : ByteArray).size = 1 := rfl
        by_cases hq : s[k].toNat = 39
        · have b1 : ((s[k].toNat : Int) == 39) = true := by rw [hq]; rfl
          have HQ := hid hq
          clear hq
          go_wp2_with fail
          go_round
          case rel =>
            refine ⟨k + 1, X ++ s.extract k (k + 1) ++ ⟨#[39]⟩, by omega, by go_num, rfl, ?_, ?_⟩
            · rw [ByteArray.size_append, e3, e4]; omega
            · rw [ByteArray.data_append, Array.toList_append, ByteArray.data_append, Array.toList_append, HX.out, E1.out, HTK.out, flat_app]
              simp only [flat]
              rw [if_pos HQ.out, num_ext s[k] 39 HQ.out]
              simp
          case measure => simp [intOf]; omega
        · have b1 : ((s[k].toNat : Int) == 39) = false := by rw [beq_eq_false_iff_ne]; omega
          have HQ : Hid (¬ s[k].toNat = 39) := hq
          clear hq
          go_wp2_with fail
          go_round
          case rel =>
            refine ⟨k + 1, X ++ s.extract k (k + 1), by omega, by go_num, rfl, ?_, ?_⟩
            · rw [e3]; omega
            · rw [ByteArray.data_append, Array.toList_append, HX.out, E1.out, HTK.out, flat_app]
              simp only [flat]
              rw [if_neg HQ.out]
              simp
          case measure => simp [intOf]; omega
      · obtain rfl : k = s.size := by omega
        have e4 : (⟨#[39]⟩ : ByteArray).size = 1 := rfl
        have HE : Hid (X ++ (⟨#[39]⟩ : ByteArray) = quoteP s) := by
          unfold Hid
          rw [HR.out]
          have h := HX.out
          rw [List.take_of_length_le (Nat.le_of_eq (lst_len s))] at h
          apply by_list
          rw [ByteArray.data_append, Array.toList_append, h]
          rfl
        go_wp2_with fail
        go_ret
        exact ⟨by rw [← HE.out]; rfl, rfl⟩
end Go.Proofs.YtmnjfhjhbjhmhaaDoor
