/-
  Walk over the law PatternComparisons.
-/
import Derived.Test.YtbniemkllhhnfaaW15
import Derived.Test.YtbniemkllhhnfaaPure7
namespace Go.Proofs.Ytbniemkllhhnfaa
open Go.RowKit
set_option maxHeartbeats 1000000
set_option maxRecDepth 100000

theorem N_len16 {s : ByteArray} (h : s.size ≤ 16) : (N s).length ≤ 16 := by rw [N_len]; exact h
theorem law_cmp (c t : ByteArray) (w : World) (hc : c.size ≤ maxLen) (ht : t.size ≤ maxLen) :
    Calls Try.prog 4 #[.string c, .string t] w fun e w' => e = .returned (.bool true) ∧ Ext w w' := by
  have HC := hid hc
  have HT := hid ht
  unfold maxLen at hc ht
  by_cases hl : 16 < c.size
  · have hl2 : (16 : Int) < (c.size : Int) := by omega
    go_enter Try.func4, Try.ntmps4
    go_wp2_with fail
    refine (awake_any _).mono ?_
    rintro e w1 ⟨rfl, hx1⟩
    go_wp2_with fail
    refine (awake_any _).mono ?_
    rintro e w2 ⟨rfl, hx2⟩
    go_wp2_with fail
    go_ret
    exact ⟨rfl, hx1.trans hx2⟩
  by_cases hm : 30 < t.size
  · have hl2 : ¬ (16 : Int) < (c.size : Int) := by omega
    have hm2 : (30 : Int) < (t.size : Int) := by omega
    go_enter Try.func4, Try.ntmps4
    go_wp2_with fail
    refine (awake_any _).mono ?_
    rintro e w1 ⟨rfl, hx1⟩
    go_wp2_with fail
    refine (awake_any _).mono ?_
    rintro e w2 ⟨rfl, hx2⟩
    go_wp2_with fail
    go_ret
    exact ⟨rfl, hx1.trans hx2⟩
  have hl2 : ¬ (16 : Int) < (c.size : Int) := by omega
  have hm2 : ¬ (30 : Int) < (t.size : Int) := by omega
  cases hpc : prn (N c)
  · go_enter Try.func4, Try.ntmps4
    go_wp2_with fail
    refine (awake_any _).mono ?_
    rintro e w1 ⟨rfl, hx1⟩
    go_wp2_with fail
    refine (rprintable_any c _ HC.out).mono ?_
    rintro e w1' ⟨rfl, rfl⟩
    rw [hpc]
    go_wp2_with fail
    refine (awake_any _).mono ?_
    rintro e w2 ⟨rfl, hx2⟩
    go_wp2_with fail
    go_ret
    exact ⟨rfl, hx1.trans hx2⟩
  cases hpt : prn (N t)
  · go_enter Try.func4, Try.ntmps4
    go_wp2_with fail
    refine (awake_any _).mono ?_
    rintro e w1 ⟨rfl, hx1⟩
    go_wp2_with fail
    refine (rprintable_any c _ HC.out).mono ?_
    rintro e w1' ⟨rfl, rfl⟩
    rw [hpc]
    go_wp2_with fail
    refine (rprintable_any t _ HT.out).mono ?_
    rintro e w1' ⟨rfl, rfl⟩
    rw [hpt]
    go_wp2_with fail
    refine (awake_any _).mono ?_
    rintro e w2 ⟨rfl, hx2⟩
    go_wp2_with fail
    go_ret
    exact ⟨rfl, hx1.trans hx2⟩
  obtain ⟨q0, q2, q3⟩ := ps_cmp (N c) (N t) (N_len16 (by omega))
  rw [← str_eq] at q0 q3
  rw [← bytesLess_N] at q2 q3
  go_enter Try.func4, Try.ntmps4
  go_wp2_with fail
  refine (awake_any _).mono ?_
  rintro e w1 ⟨rfl, hx1⟩
  go_wp2_with fail
  refine (rprintable_any c _ HC.out).mono ?_
  rintro e w1' ⟨rfl, rfl⟩
  rw [hpc]
  go_wp2_with fail
  refine (rprintable_any t _ HT.out).mono ?_
  rintro e w1' ⟨rfl, rfl⟩
  rw [hpt]
  go_wp2_with fail
  refine (passes_any 0 0 false c t _ (by omega) (by omega)).mono ?_
  rintro e w2 ⟨rfl, hx2⟩
  rw [q0]
  go_wp2_with fail
  refine (passes_any 0 2 false c t _ (by omega) (by omega)).mono ?_
  rintro e w3 ⟨rfl, hx3⟩
  rw [q2]
  go_wp2_with fail
  refine (passes_any 0 3 false c t _ (by omega) (by omega)).mono ?_
  rintro e w4 ⟨rfl, hx4⟩
  rw [q3]
  go_wp2_with fail
  go_ret
  exact ⟨rfl, hx1.trans (hx2.trans (hx3.trans hx4))⟩

end Go.Proofs.Ytbniemkllhhnfaa
