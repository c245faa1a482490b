/-
  Walk over the law PatternPrefix.
-/
import Derived.Test.YtbniemkllhhnfaaW31
import Derived.Test.YtbniemkllhhnfaaW8
namespace Go.Proofs.Ytbniemkllhhnfaa
open Go.RowKit
set_option maxHeartbeats 1000000
set_option maxRecDepth 100000

theorem hasPrefix_N (t : ByteArray) (x : List Nat) (h : x <+: N t) : Lib.hasPrefix t.data.toList (S x).data.toList = true := by
  have hx : ∀ y ∈ x, y < 256 := fun y hy => by
    obtain ⟨b, _, rfl⟩ := List.mem_map.1 (h.subset hy)
    exact b.toNat_lt
  have e : (S x).data.toList.map UInt8.toNat = x := N_S x hx
  show (List.isPrefixOf _ _) = true
  rw [List.isPrefixOf_iff_prefix]
  rw [← e] at h
  unfold N at h
  rw [List.prefix_iff_eq_take] at h ⊢
  rw [← List.map_take, List.length_map] at h
  exact (List.map_inj_right (f := UInt8.toNat) fun a b h => UInt8.toNat_inj.1 h).1 h

theorem law_prefix (p t : ByteArray) (w : World) (hp : p.size ≤ maxLen) (ht : t.size ≤ maxLen) :
    Calls Try.prog 10 #[.string p, .string t] w fun e w' => e = .returned (.bool true) ∧ Ext w w' := by
  have HC := hid hp
  have HT := hid ht
  unfold maxLen at hp ht
  by_cases hl : 16 < p.size
  · have hl2 : (16 : Int) < (p.size : Int) := by omega
    go_enter Try.func10, Try.ntmps10
    go_wp2_with fail
    refine (awake_any _).mono ?_
    rintro e w1 ⟨rfl, hx1⟩
    go_wp2_with fail
    refine (awake_any _).mono ?_
    rintro e w2 ⟨rfl, hx2⟩
    go_wp2_with fail
    go_ret
    exact ⟨rfl, hx1.trans hx2⟩
  by_cases hm : 30 < t.size
  · have hl2 : ¬ (16 : Int) < (p.size : Int) := by omega
    have hm2 : (30 : Int) < (t.size : Int) := by omega
    go_enter Try.func10, Try.ntmps10
    go_wp2_with fail
    refine (awake_any _).mono ?_
    rintro e w1 ⟨rfl, hx1⟩
    go_wp2_with fail
    refine (awake_any _).mono ?_
    rintro e w2 ⟨rfl, hx2⟩
    go_wp2_with fail
    go_ret
    exact ⟨rfl, hx1.trans hx2⟩
  have hl2 : ¬ (16 : Int) < (p.size : Int) := by omega
  have hm2 : ¬ (30 : Int) < (t.size : Int) := by omega
  cases hpc : prn (N p)
  · go_enter Try.func10, Try.ntmps10
    go_wp2_with fail
    refine (awake_any _).mono ?_
    rintro e w1 ⟨rfl, hx1⟩
    go_wp2_with fail
    refine (rprintable_any p _ HC.out).mono ?_
    rintro e w1' ⟨rfl, rfl⟩
    rw [hpc]
    go_wp2_with fail
    refine (awake_any _).mono ?_
    rintro e w2 ⟨rfl, hx2⟩
    go_wp2_with fail
    go_ret
    exact ⟨rfl, hx1.trans hx2⟩
  cases hpt : prn (N t)
  · go_enter Try.func10, Try.ntmps10
    go_wp2_with fail
    refine (awake_any _).mono ?_
    rintro e w1 ⟨rfl, hx1⟩
    go_wp2_with fail
    refine (rprintable_any p _ HC.out).mono ?_
    rintro e w1' ⟨rfl, rfl⟩
    rw [hpc]
    go_wp2_with fail
    refine (rprintable_any t _ HT.out).mono ?_
    rintro e w1' ⟨rfl, rfl⟩
    rw [hpt]
    go_wp2_with fail
    refine (awake_any _).mono ?_
    rintro e w2 ⟨rfl, hx2⟩
    go_wp2_with fail
    go_ret
    exact ⟨rfl, hx1.trans hx2⟩
  have hR : rpsB 1 false (N p) (N t) = psB 1 false (N p) (N t) := (ps_eq 1 false (N p) (N t) (N_len16 (by omega)) ⟨by omega, by omega⟩).symm
  cases hps : psB 1 false (N p) (N t)
  · rw [hps] at hR
    go_enter Try.func10, Try.ntmps10
    go_wp2_with fail
    refine (awake_any _).mono ?_
    rintro e w1 ⟨rfl, hx1⟩
    go_wp2_with fail
    refine (rprintable_any p _ HC.out).mono ?_
    rintro e w1' ⟨rfl, rfl⟩
    rw [hpc]
    go_wp2_with fail
    refine (rprintable_any t _ HT.out).mono ?_
    rintro e w1' ⟨rfl, rfl⟩
    rw [hpt]
    go_wp2_with fail
    refine (lengths_any p _ (by omega)).mono ?_
    rintro e w1' ⟨rfl, rfl⟩
    go_wp2_with fail
    refine (rlengths_any p _ (by omega)).mono ?_
    rintro e w1' ⟨rfl, rfl⟩
    go_wp2_with fail
    refine (prefix_any p _ (by omega) hpc).mono ?_
    rintro e w2 ⟨rfl, hx2⟩
    go_wp2_with fail
    refine (rprefix_any p _ (by omega)).mono ?_
    rintro e w2' ⟨rfl, rfl⟩
    go_wp2_with fail
    refine (rpasses_any 0 1 false p t _ (by omega) ⟨by omega, by omega⟩ (by omega)).mono ?_
    rintro e w3 ⟨rfl, hx3⟩
    rw [hR]
    go_wp2_with fail
    go_ret
    exact ⟨rfl, hx1.trans (hx2.trans hx3)⟩
  · rw [hps] at hR
    obtain ⟨q1, q2⟩ := prefix_law (N p) (N t) hps
    have hq := hasPrefix_N t (preF (N p)) q1
    rw [N_len] at q2
    have hcase : (((t.size : Int) == ((lenF (N p) : Nat) : Int)) = true) ∨ (((t.size : Int) == ((lenF (N p) : Nat) : Int)) = false ∧ anyF (N p) = true ∧ decide (((lenF (N p) : Nat) : Int) < (t.size : Int)) = true) := by
      by_cases h : t.size = lenF (N p)
      · left; simp; omega
      · right
        rcases q2 with h2 | ⟨h2, h3⟩
        · exact absurd h2 h
        · exact ⟨by rw [beq_eq_false_iff_ne]; omega, h2, by simp; omega⟩
    clear q1 q2
    rcases hcase with hb1 | ⟨hb1, hb2, hb3⟩
    all_goals
      go_enter Try.func10, Try.ntmps10
      go_wp2_with fail
      refine (awake_any _).mono ?_
      rintro e w1 ⟨rfl, hx1⟩
      go_wp2_with fail
      refine (rprintable_any p _ HC.out).mono ?_
      rintro e w1' ⟨rfl, rfl⟩
      rw [hpc]
      go_wp2_with fail
      refine (rprintable_any t _ HT.out).mono ?_
      rintro e w1' ⟨rfl, rfl⟩
      rw [hpt]
      go_wp2_with fail
      refine (lengths_any p _ (by omega)).mono ?_
      rintro e w1' ⟨rfl, rfl⟩
      go_wp2_with fail
      refine (rlengths_any p _ (by omega)).mono ?_
      rintro e w1' ⟨rfl, rfl⟩
      go_wp2_with fail
      refine (prefix_any p _ (by omega) hpc).mono ?_
      rintro e w2 ⟨rfl, hx2⟩
      go_wp2_with fail
      refine (rprefix_any p _ (by omega)).mono ?_
      rintro e w2' ⟨rfl, rfl⟩
      go_wp2_with fail
      refine (rpasses_any 0 1 false p t _ (by omega) ⟨by omega, by omega⟩ (by omega)).mono ?_
      rintro e w3 ⟨rfl, hx3⟩
      rw [hR]
      go_wp2_with fail
      refine (prefix_any p _ (by omega) hpc).mono ?_
      rintro e w4 ⟨rfl, hx4⟩
      go_wp2_with fail
      refine (hasprefix_any t _ _).mono ?_
      rintro e w4' ⟨rfl, rfl⟩
      rw [hq]
      go_wp2_with fail
      go_ret
      first
        | exact ⟨rfl, hx1.trans (hx2.trans (hx3.trans hx4))⟩
        | exact ⟨ret_bool (by simpa using hb3), hx1.trans (hx2.trans (hx3.trans hx4))⟩

end Go.Proofs.Ytbniemkllhhnfaa
