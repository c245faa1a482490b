/-
  Walk over the law PatternWords.
-/
import Derived.Test.YtbniemkllhhnfaaW26
import Derived.Test.YtbniemkllhhnfaaW14
namespace Go.Proofs.Ytbniemkllhhnfaa
open Go.RowKit
set_option maxHeartbeats 1000000
set_option maxRecDepth 100000

theorem lawwords_no (A : Option Addr) (ts : List Tst) (n c : Nat) (length most : Int) (w : World) (hts : TsAt w A ts) (hn : ts.length = n) (hlen : n ≤ maxLen) (hsz : ∀ t ∈ ts, t.p.size ≤ maxLen) (hf : fewB ts = false ∨ fewB ts = true ∧ (6 < length ∨ length ≤ 6 ∧ 20 < most)) :
    Calls Try.prog 6 #[.slice A n c, .int .i64 length, .int .i64 most] w fun e w' => e = .returned (.bool true) ∧ Ext w w' := by
  have hd : fewB ts = false ∨ fewB ts = true ∧ (decide (6 < length) = true ∨ decide (6 < length) = false ∧ decide (20 < most) = true) := by
    rcases hf with h | ⟨h, h2 | ⟨h2, h3⟩⟩
    · exact .inl h
    · exact .inr ⟨h, .inl (by simpa using h2)⟩
    · exact .inr ⟨h, .inr ⟨by simpa using h2, by simpa using h3⟩⟩
  clear hf
  rcases hd with hf | ⟨hf, h6 | ⟨h6, h20⟩⟩
  all_goals
    go_enter Try.func6, Try.ntmps6
    go_wp2_with fail
    refine (awake_any _).mono ?_
    rintro e w1 ⟨rfl, hx1⟩
    go_wp2_with fail
    refine (few_any A ts n c _ (hts.ext hx1) hn hlen hsz).mono ?_
    rintro e w2 ⟨rfl, hx2⟩
    rw [hf]
    go_wp2_with fail
    refine (awake_any _).mono ?_
    rintro e w3 ⟨rfl, hx3⟩
    go_wp2_with fail
    go_ret
    exact ⟨rfl, hx1.trans (hx2.trans hx3)⟩

theorem lawwords_yes (A : Option Addr) (ts : List Tst) (n c : Nat) (length most : Int) (w : World) (hts : TsAt w A ts) (hn : ts.length = n) (hlen : n ≤ maxLen) (hsz : ∀ t ∈ ts, t.p.size ≤ maxLen) (hf : fewB ts = true) (hl : length ≤ 6) (hm : most ≤ 20) :
    Calls Try.prog 6 #[.slice A n c, .int .i64 length, .int .i64 most] w fun e w' => e = .returned (.bool true) ∧ Ext w w' := by
  have h6 : decide (6 < length) = false := by simpa using hl
  have h20 : decide (20 < most) = false := by simpa using hm
  have HL := hid hl
  have HM := hid hm
  have hfew := hid (few_out hf)
  have HN := hid hn
  have HS := hid hsz
  have hLl : (wordsF ts length most).length ≤ 20 := by
    by_cases h : length < 0 ∨ most ≤ 0
    · unfold wordsF; rw [if_pos h]; simp
    · rw [wordsF_law ts hfew.out length most (by omega) (by omega) (by omega), List.length_take]; omega
  clear hl hm hn hsz
  go_enter Try.func6, Try.ntmps6
  go_wp2_with fail
  refine (awake_any _).mono ?_
  rintro e w1 ⟨rfl, hx1⟩
  go_wp2_with fail
  refine (few_any A ts n c _ (hts.ext hx1) HN.out hlen HS.out).mono ?_
  rintro e w2 ⟨rfl, hx2⟩
  rw [hf]
  go_wp2_with fail
  refine (pwords_all A ts n c length most _ ((hts.ext hx1).ext hx2) HN.out hfew.out HL.out HM.out).mono ?_
  rintro e w3 ⟨v3, rfl, ho3, hx3⟩
  obtain ⟨A3, c3, rfl, hr3⟩ := Rd_of_own ho3
  go_wp2_with fail
  refine (rwords_all A ts n c length most _ (((hts.ext hx1).ext hx2).ext hx3) HN.out hfew.out HL.out HM.out).mono ?_
  rintro e w4 ⟨v4, rfl, ho4, hx4⟩
  obtain ⟨A4, c4, rfl, hr4⟩ := Rd_of_own ho4
  generalize wordsF ts length most = L at hr3 hr4 hLl ⊢
  have hr3' := hr3.ext hx4
  have HX := hid (hx1.trans (hx2.trans (hx3.trans hx4)))
  clear ho3 ho4 hr3 hx1 hx2 hx3 hx4
  go_wp2_with fail
  go_loopw [41] (fun i wr => ∃ k : Nat, k ≤ L.length ∧ i = .int .i64 k ∧ Ext w4 wr) (fun i _ => L.length - (intOf i).toNat)
  case atStart => exact ⟨0, Nat.zero_le _, rfl, Ext.refl _⟩
  case round =>
    obtain ⟨k, hk, rfl, hxr⟩ := hrel
    by_cases hlt : k < L.length
    · obtain ⟨ba, oa, rfl, hca⟩ := (hr3'.ext hxr).at_ (strs_get L k hlt)
      obtain ⟨bl, ol, rfl, hcl⟩ := (hr4.ext hxr).at_ (strs_get L k hlt)
      have hba := Later.keep (w := wr) hca
      have hbl := Later.keep (w := wr) hcl
      have hq2 : ((S (atL L k)).toList != (S (atL L k)).toList) = false := by simp
      have hk0 : (0 : Int) ≤ (k : Int) := by omega
      have hkn : (k : Int) < (L.length : Int) := by omega
      go_wp2_with fail
      refine wp_region_later (by kernel_rfl) (by kernel_rfl) ?_
      repeat (go_big_quiet_step (fail))
      refine wpQuiet_nil ?_
      intro w' hw'
      have hx := later_out hw'
      clear hw' hba hbl hca hcl
      go_wp2_with fail
      go_roundw
      case rel => exact ⟨k + 1, by omega, by go_num, hxr.trans hx⟩
      case measure => simp [intOf]; omega
    · go_wp2_with fail
      go_ret
      exact ⟨rfl, HX.out.trans hxr⟩

theorem law_words (A : Option Addr) (ts : List Tst) (n c : Nat) (length most : Int) (w : World) (hts : TsAt w A ts) (hn : ts.length = n) (hlen : n ≤ maxLen) (hsz : ∀ t ∈ ts, t.p.size ≤ maxLen) (_ : -9223372036854775808 ≤ length ∧ length ≤ 9223372036854775807) (_ : -9223372036854775808 ≤ most ∧ most ≤ 9223372036854775807) :
    Calls Try.prog 6 #[.slice A n c, .int .i64 length, .int .i64 most] w fun e w' => e = .returned (.bool true) ∧ Ext w w' := by
  cases hf : fewB ts
  · exact lawwords_no A ts n c length most w hts hn hlen hsz (.inl hf)
  · by_cases h6 : length ≤ 6
    · by_cases h20 : most ≤ 20
      · exact lawwords_yes A ts n c length most w hts hn hlen hsz hf h6 h20
      · exact lawwords_no A ts n c length most w hts hn hlen hsz (.inr ⟨hf, .inr ⟨h6, by omega⟩⟩)
    · exact lawwords_no A ts n c length most w hts hn hlen hsz (.inr ⟨hf, .inl (by omega)⟩)

end Go.Proofs.Ytbniemkllhhnfaa
