/-
  Walks over the laws of the schedule package: ScheduleValid, ScheduleRoundRobin.
-/
import Derived.Test.YtcdinoepjimkmaaDoorW8
import Derived.Test.YtcdinoepjimkmaaDoorOpen
namespace Go.Proofs.YtcdinoepjimkmaaDoor
open Go.RowKit
set_option maxHeartbeats 1000000
set_option maxRecDepth 100000

theorem law_valid (A : Option Addr) (l : List Act) (n c : Nat) (S : Int) (w : World) (hl : ActsAt w A l) (hn : l.length = n) (hm : n ≤ maxLen) :
    Calls Tryd.prog 5 #[.slice A n c, .int .i64 S] w fun e w' => e = .returned (.bool true) ∧ Ext w w' := by
  have HN := hid hn
  have HL := hid hl
  have HM := hid hm
  clear hn hl
  unfold maxLen at hm
  by_cases h3 : 300 < n
  · have hb : (300 : Int) < (n : Int) := by omega
    go_enter Tryd.func5, Tryd.ntmps5
    go_wp2_with fail
    refine (awake_any _).mono ?_
    rintro e w1 ⟨rfl, hx1⟩
    go_wp2_with fail
    refine (awake_any _).mono ?_
    rintro e w2 ⟨rfl, hx2⟩
    go_wp2_with fail
    go_ret
    exact ⟨rfl, hx1.trans hx2⟩
  · have hb : ¬ (300 : Int) < (n : Int) := by omega
    go_enter Tryd.func5, Tryd.ntmps5
    go_wp2_with fail
    refine (awake_any _).mono ?_
    rintro e w1 ⟨rfl, hx1⟩
    go_wp2_with fail
    refine (valid_any A l n c S _ (HL.out.ext hx1) HN.out HM.out).mono ?_
    rintro e w2 ⟨rfl, hx2⟩
    go_wp2_with fail
    refine (rvalid_any A l n c S _ ((HL.out.ext hx1).ext hx2) HN.out HM.out).mono ?_
    rintro e w3 ⟨rfl, hx3⟩
    go_wp2_with fail
    go_ret
    exact ⟨ret_bool (by simp), (hx1.trans hx2).trans hx3⟩

theorem law_rr (s r : Int) (w : World) (_bs : -9223372036854775808 ≤ s ∧ s ≤ 9223372036854775807) (_br : -9223372036854775808 ≤ r ∧ r ≤ 9223372036854775807) :
    Calls Tryd.prog 3 #[.int .i64 s, .int .i64 r] w fun e w' => e = .returned (.bool true) ∧ Ext w w' := by
  cases hf : (decide (r ≤ 300) || decide (s < 1))
  · go_enter Tryd.func3, Tryd.ntmps3
    go_wp2_with fail
    refine (awake_any _).mono ?_
    rintro e w1 ⟨rfl, hx1⟩
    go_wp2_with fail
    refine (few_any s r _).mono ?_
    rintro e w1' ⟨rfl, rfl⟩
    rw [hf]
    go_wp2_with fail
    refine (awake_any _).mono ?_
    rintro e w2 ⟨rfl, hx2⟩
    go_wp2_with fail
    go_ret
    exact ⟨rfl, hx1.trans hx2⟩
  · obtain ⟨S, hS⟩ : ∃ S : Nat, cl s 0 8 = (S : Int) := ⟨(cl s 0 8).toNat, by have := cl_bd s 0 8 (by omega); omega⟩
    obtain ⟨R, hR⟩ : ∃ R : Nat, cl r 0 10000 = (R : Int) := ⟨(cl r 0 10000).toNat, by have := cl_bd r 0 10000 (by omega); omega⟩
    have hv := hid (rr_valid S R 8 (by have := cl_bd s 0 8 (by omega); omega))
    have HM : Hid (R * S ≤ maxLen) := by
      have h1 : S ≤ 8 := by have := cl_bd s 0 8 (by omega); omega
      have h2 : R ≤ 10000 := by have := cl_bd r 0 10000 (by omega); omega
      have h3 : R * S ≤ 10000 * 8 := Nat.mul_le_mul h2 h1
      unfold Hid maxLen
      omega
    have HS := hid hS
    have HR := hid hR
    clear hS hR
    go_enter Tryd.func3, Tryd.ntmps3
    go_wp2_with fail
    refine (awake_any _).mono ?_
    rintro e w1 ⟨rfl, hx1⟩
    go_wp2_with fail
    refine (few_any s r _).mono ?_
    rintro e w1' ⟨rfl, rfl⟩
    rw [hf]
    go_wp2_with fail
    refine (rr_any s r S R _ HS.out HR.out).mono ?_
    rintro e w2 ⟨v, rfl, hown, hx2⟩
    obtain ⟨A, c, rfl, ha, hlen⟩ := own_acts hown
    have HA := hid ha
    have HX2 : Hid (Ext w w2) := hx1.trans hx2
    clear hown ha hx1 hx2
    go_wp2_with fail
    refine (rrr_any s r S R _ HS.out HR.out).mono ?_
    rintro e w3 ⟨v, rfl, hown, hx3⟩
    obtain ⟨A', c', rfl, ha', _⟩ := own_acts hown
    have HA' := hid ha'
    have HX3 : Hid (Ext w w3) := HX2.out.trans hx3
    have HA3 := hid (HA.out.ext hx3)
    clear hown ha' hx3
    go_wp2_with fail
    refine (same_any A A' (rrL S R) (R * S) c c' _ HA3.out HA'.out (rrL_len S R ▸ rfl) HM.out).mono ?_
    rintro e w4 ⟨rfl, hx4⟩
    go_wp2_with fail
    refine (valid_any A (rrL S R) (R * S) c 8 _ (HA3.out.ext hx4) (rrL_len S R) HM.out).mono ?_
    rintro e w5 ⟨rfl, hx5⟩
    rw [hv.out]
    go_wp2_with fail
    go_ret
    exact ⟨rfl, (HX3.out.trans hx4).trans hx5⟩

end Go.Proofs.YtcdinoepjimkmaaDoor
