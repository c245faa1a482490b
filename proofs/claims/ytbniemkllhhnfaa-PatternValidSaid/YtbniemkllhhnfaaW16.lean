/-
  Walks over the laws of the pattern package: PatternValid.
-/
import Derived.Test.YtbniemkllhhnfaaW15
namespace Go.Proofs.Ytbniemkllhhnfaa
open Go.RowKit
set_option maxHeartbeats 1000000
set_option maxRecDepth 100000

theorem pvalid_any (v kd : Int) (ng : Bool) (p : ByteArray) (w : World) (hp : p.size ≤ 1000000) :
    Calls Try.prog 22 #[.agg #[.int .i64 v, .int .i64 kd, .bool ng, .string p]] w fun e w' => e = .returned (.bool (vT kd p)) ∧ Ext w w' := by
  go_enter Try.func22, Try.ntmps22
  obtain ⟨cap, w2, hconv, hx2, hsz2, hcell2⟩ := conv_bytes (P := Try.prog) (w.alloc (.cells #[.int .i64 v, .int .i64 kd, .bool ng, .string p] 23)) 9 57 5 p Try.underlying9 Try.underlying57 Try.underlying5
  obtain ⟨hb0, hb1, hb2, hb3⟩ := box4 hx2
  have HC := hid hcell2
  have HS := hid hsz2
  have HX := hid hx2
  clear hcell2 hsz2 hx2
  go_wp2_with fail
  go_loop [9] (fun i => ∃ k : Nat, k ≤ p.size ∧ i = .int .i64 k ∧ prn ((N p).take k) = true) (fun i => p.size - (intOf i).toNat)
  case atStart => exact ⟨0, Nat.zero_le _, rfl, rfl⟩
  case round =>
    obtain ⟨k, hk, rfl, hpr⟩ := hrel
    have HP := hid hpr
    clear hpr
    by_cases hlt : k < p.size
    · have hck := HC.out k hlt
      simp only [World.size_alloc] at hck
      by_cases h1 : p[k].toNat < 32
      · have hv := hid (prn_no p k hlt (.inl h1))
        go_wp2_with fail
        go_ret
        exact ⟨ret_bool (by unfold vT; rw [hv.out]; simp), ((Ext.refl w).alloc _).trans HX.out⟩
      · by_cases h2 : 126 < p[k].toNat
        · have hv := hid (prn_no p k hlt (.inr h2))
          go_wp2_with fail
          go_ret
          exact ⟨ret_bool (by unfold vT; rw [hv.out]; simp), ((Ext.refl w).alloc _).trans HX.out⟩
        · have hv := hid (prn_yes p k hlt HP.out (by omega) (by omega))
          go_wp2_with fail
          go_round
          case rel => exact ⟨k + 1, by omega, by go_num, hv.out⟩
          case measure => simp [intOf]; omega
    · obtain rfl : k = p.size := by omega
      have hv : Hid (prn (N p) = true) := by
        have := HP.out
        rw [List.take_of_length_le (by rw [N_len]; exact Nat.le_refl _)] at this
        exact this
      go_wp2
      all_goals
        go_ret
        refine ⟨ret_bool ?_, ((Ext.refl w).alloc _).trans HX.out⟩
        unfold vT
        rw [hv.out]
        first | grind | skip

theorem law_valid (v kd : Int) (ng : Bool) (p : ByteArray) (w : World) (hp : p.size ≤ maxLen) :
    Calls Try.prog 8 #[.agg #[.int .i64 v, .int .i64 kd, .bool ng, .string p]] w fun e w' => e = .returned (.bool true) ∧ Ext w w' := by
  have hp2 := hp
  unfold maxLen at hp2
  have HP := hid hp
  clear hp
  by_cases hl : 300 < p.size
  · have hl2 : (300 : Int) < (p.size : Int) := by omega
    go_enter Try.func8, Try.ntmps8
    go_wp2_with fail
    refine (awake_any _).mono ?_
    rintro e w1 ⟨rfl, hx1⟩
    obtain ⟨hb0, hb1, hb2, hb3⟩ := box4 hx1
    have HX := hid (((Ext.refl w).alloc _).trans hx1)
    clear hx1
    go_wp2_with fail
    refine (awake_any _).mono ?_
    rintro e w3 ⟨rfl, hx3⟩
    go_wp2_with fail
    go_ret
    exact ⟨rfl, HX.out.trans hx3⟩
  · have hl2 : ¬ (300 : Int) < (p.size : Int) := by omega
    go_enter Try.func8, Try.ntmps8
    go_wp2_with fail
    refine (awake_any _).mono ?_
    rintro e w1 ⟨rfl, hx1⟩
    obtain ⟨hb0, hb1, hb2, hb3⟩ := box4 hx1
    have ht0 := Later.keep hb0
    have ht1 := Later.keep hb1
    have ht2 := Later.keep hb2
    have ht3 := Later.keep hb3
    have HX := hid (((Ext.refl w).alloc _).trans hx1)
    clear hx1
    go_wp2_with fail
    refine wp_region_later (by kernel_rfl) (by kernel_rfl) ?_
    repeat (go_big_quiet_step ((first | (go_at_call 22; exact later_of (pvalid_any v kd ng p _ (by omega))) | (go_at_call 12; exact later_of (rvalid_any v kd ng p _ HP.out)))))
    refine wpQuiet_nil ?_
    intro w' hw'
    have hx := later_out hw'
    clear hw' ht0 ht1 ht2 ht3
    go_wp2_with fail
    go_ret
    exact ⟨ret_bool (by simp), HX.out.trans hx⟩

end Go.Proofs.Ytbniemkllhhnfaa
