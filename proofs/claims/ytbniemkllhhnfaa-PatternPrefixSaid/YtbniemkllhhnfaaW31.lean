/-
  Walks: Prefix; the law PatternPrefix.
-/
import Derived.Test.YtbniemkllhhnfaaPure11
import Derived.Test.YtbniemkllhhnfaaShelf
import Derived.Test.YtbniemkllhhnfaaW17
namespace Go.Proofs.Ytbniemkllhhnfaa
open Go.RowKit
set_option maxHeartbeats 1000000
set_option maxRecDepth 100000

theorem prn_lt {p : ByteArray} (h : prn (N p) = true) : ∀ (j : Nat) (b : UInt8), p.data.toList[j]? = some b → b.toNat < 128 := by
  intro j b hb
  unfold prn at h
  rw [List.all_eq_true] at h
  have := h b.toNat (List.mem_map.2 ⟨b, List.mem_of_getElem? hb, rfl⟩)
  simp at this
  omega

theorem prefix_any (p : ByteArray) (w : World) (hs : p.size ≤ 1000) (hp : prn (N p) = true) :
    Calls Try.prog 30 #[.string p] w fun e w' => e = .returned (.string (S (preF (N p)))) ∧ Ext w w' := by
  have hidx : Hid (Lib.indexAny p.data.toList (ByteArray.mk #[37, 95]).data.toList = idxF (N p)) := idx_any p.data.toList
  have HP := hid (prn_lt hp)
  have hlen := (preF_take (N p))
  have hle : (preF (N p)).length ≤ p.size := by
    have := congrArg List.length hlen
    rw [List.length_take, N_len] at this
    omega
  clear hp
  by_cases hf : (preF (N p)).length = p.size
  · have hi : idxF (N p) = -1 := by unfold idxF; rw [N_len, if_pos hf]
    have hres : Hid (p = S (preF (N p))) := by
      unfold Hid
      rw [hlen, hf, List.take_of_length_le (by rw [N_len]; exact Nat.le_refl _), S_N]
    clear hlen hle hf
    go_enter Try.func30, Try.ntmps30
    go_wp2_with (go_at_call 45; refine (Try.strings_IndexAny_laid p ⟨#[37, 95]⟩ _ (by omega) (by decide) HP.out (by intro j b hb; match j, hb with | 0, hb => (cases hb; decide) | 1, hb => (cases hb; decide))).mono ?_; rintro e w1 ⟨rfl, hx1⟩; rw [hidx.out, hi])
    go_ret
    exact ⟨ret_str hres.out, hx1⟩
  · have hi : idxF (N p) = (((preF (N p)).length : Nat) : Int) := by unfold idxF; rw [N_len, if_neg hf]
    have hres : Hid (p.extract 0 (preF (N p)).length = S (preF (N p))) := by
      unfold Hid
      rw [← S_N (p.extract 0 (preF (N p)).length), N_extract]
      conv => rhs; rw [hlen]
      simp
    clear hlen hf
    generalize (preF (N p)).length = x at hi hres hle
    go_enter Try.func30, Try.ntmps30
    go_wp2_with (go_at_call 45; refine (Try.strings_IndexAny_laid p ⟨#[37, 95]⟩ _ (by omega) (by decide) HP.out (by intro j b hb; match j, hb with | 0, hb => (cases hb; decide) | 1, hb => (cases hb; decide))).mono ?_; rintro e w1 ⟨rfl, hx1⟩; rw [hidx.out, hi])
    go_ret
    exact ⟨ret_str hres.out, hx1⟩

end Go.Proofs.Ytbniemkllhhnfaa
