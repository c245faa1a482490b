/-
  Walks over the pattern package.
-/
import Derived.Test.YtbniemkllhhnfaaRows
import Derived.Test.YtbniemkllhhnfaaPure
import Derived.WalkKit
import Derived.WalkSpells
import Derived.WalkLawsBesides
namespace Go.Proofs.Ytbniemkllhhnfaa
open Go.RowKit

set_option maxHeartbeats 400000 in
theorem closure_any (p : ByteArray) (s : Nat) (w : World) (hs : p.size ≤ 16) (h1 : s < 131072) :
    Calls Try.prog 47 #[.string p, .int .u32 s] w fun e w' => e = .returned (.int .u32 (clo (N p) s)) ∧ w = w' := by
  go_enter Try.func47, Try.ntmps47
  go_wp2
  go_loop [1, 8] (fun s' i => ∃ k : Nat, k ≤ p.size ∧ i = .int .i64 k ∧ s' = .int .u32 (cloTo (N p) s k)) (fun _ i => p.size - (intOf i).toNat)
  case atStart => exact ⟨0, Nat.zero_le _, rfl, rfl⟩
  case round =>
    obtain ⟨k, hk, rfl, rfl⟩ := hrel
    have hlt17 := cloTo_lt (N p) s k h1 (by omega)
    obtain ⟨s1, hs1⟩ : ∃ s1, s1 = cloTo (N p) s k := ⟨_, rfl⟩
    rw [← hs1] at hlt17 ⊢
    have e1 := bit_test s1 k (by omega)
    have HS := hid hs1
    clear hs1
    by_cases hlt : k < p.size
    · have e2 := bit_set s1 (k + 1) (by omega) (by omega)
      go_wp2
      all_goals
        go_round
        case rel => exact ⟨k + 1, by omega, by go_num, by first | rw [← clo_yes p s k s1 hlt HS.out ‹_› ‹_›] | rw [← clo_no p s k s1 hlt HS.out (.inl ‹_›)] | rw [← clo_no p s k s1 hlt HS.out (.inr ‹_›)]⟩
        case measure => simp [intOf]; omega
    · go_wp2
      go_ret
      obtain rfl : k = p.size := by omega
      exact ⟨ret_int (by rw [HS.out, clo, N_len]), rfl⟩

set_option maxHeartbeats 400000 in
theorem next_like (v : Int) (ng : Bool) (p : ByteArray) (s c : Nat) (w : World) (hs : p.size ≤ 16) (h1 : s < 131072) :
    Calls Try.prog 34 #[.agg #[.int .i64 v, .int .i64 1, .bool ng, .string p], .int .u32 s, .int .u8 c] w fun e w' => e = .returned (.int .u32 (nxLike (N p) s c)) ∧ Ext w w' := by
  go_enter Try.func34, Try.ntmps34
  go_wp2
  go_loop [7, 16] (fun s' i => ∃ k : Nat, k ≤ p.size ∧ i = .int .i64 k ∧ s' = .int .u32 (nxTo (N p) s c k)) (fun _ i => p.size - (intOf i).toNat)
  case atStart => exact ⟨0, Nat.zero_le _, rfl, rfl⟩
  case round =>
    obtain ⟨k, hk, rfl, rfl⟩ := hrel
    have hlt17 := nxTo_lt (N p) s c k (by omega)
    obtain ⟨s1, hs1⟩ : ∃ s1, s1 = nxTo (N p) s c k := ⟨_, rfl⟩
    rw [← hs1] at hlt17 ⊢
    have e1 := bit_test0 s k (by omega)
    have HS := hid hs1
    clear hs1
    by_cases hlt : k < p.size
    · have e2 := bit_set s1 (k + 1) (by omega) (by omega)
      have e3 := bit_set s1 k (by omega) (by omega)
      go_wp2
      all_goals
        go_round
        case rel => exact ⟨k + 1, by omega, by go_num, vint (nx_yes p s c k s1 _ hlt HS.out (by clear HS; grind))⟩
        case measure => simp [intOf]; omega
    · go_wp2_with (go_at_call 47; refine (closure_any p s1 _ hs (by omega)).mono ?_; rintro e w' ⟨rfl, rfl⟩)
      go_ret
      obtain rfl : k = p.size := by omega
      exact ⟨ret_int (by rw [HS.out, nxLike, N_len]), (Ext.refl _).alloc _⟩

set_option maxHeartbeats 400000 in
theorem next_cmp (v kd : Int) (ng : Bool) (p : ByteArray) (s c : Nat) (w : World) (hkd : (kd == 1) = false) (hs : p.size ≤ 16) (h1 : s ≤ p.size ∨ s = 100 ∨ s = 101) :
    Calls Try.prog 34 #[.agg #[.int .i64 v, .int .i64 kd, .bool ng, .string p], .int .u32 s, .int .u8 c] w fun e w' => e = .returned (.int .u32 (nxCmp (N p) s c)) ∧ Ext w w' := by
  go_enter Try.func34, Try.ntmps34
  go_wp2
  all_goals
    go_ret
    refine ⟨ret_int ?_, (Ext.refl _).alloc _⟩
  · have h : 100 ≤ s := by omega
    simp [nxCmp, h]
  · have h : s = p.size := by omega
    have h2 : ¬ 100 ≤ s := by omega
    rw [nxCmp, if_neg h2, if_pos (.inl (by rw [N_len]; exact h))]; rfl
  all_goals
    rw [nxCmp_at p s c (by assumption)]
    grind

end Go.Proofs.Ytbniemkllhhnfaa
