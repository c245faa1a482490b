/-
  Walks: strings.IndexAny at "%_", of a short ASCII string.
-/
import Derived.Test.YtbniemkllhhnfaaW29
import Derived.Laws.RangeString
namespace Go.Proofs.Ytbniemkllhhnfaa
open Go.RowKit
set_option maxHeartbeats 1000000
set_option maxRecDepth 100000

/-- the place of the first % or _, or -1 -/
def idxF (l : List Nat) : Int := if (preF l).length = l.length then -1 else ((preF l).length : Int)
theorem idxF_at (l : List Nat) (k : Nat) (c : Nat) (h : ∀ x ∈ l.take k, spec x = false) (hc : l[k]? = some c) (hs : spec c = true) : idxF l = (k : Int) := by
  obtain ⟨hk, _⟩ := List.getElem?_eq_some_iff.1 hc
  unfold idxF
  rw [preF_at l k c h hc hs, List.length_take, if_neg (by omega)]
  omega
theorem idxF_no (l : List Nat) (h : ∀ x ∈ l, spec x = false) : idxF l = -1 := by
  unfold idxF
  rw [preF_all l h, if_pos rfl]
theorem idx_two (c : Nat) (hc : c < 128) : ∃ V, Lib.indexByte (ByteArray.mk #[37, 95]).data.toList ((c : Int).toNat.toUInt8) = V ∧ decide (0 ≤ V) = spec c := by
  refine ⟨_, rfl, ?_⟩
  have : ∀ d, d < 128 → decide (0 ≤ Lib.indexByte (ByteArray.mk #[37, 95]).data.toList (Nat.toUInt8 d)) = spec d := by decide
  have h2 : ((c : Int)).toNat = c := by omega
  rw [h2]
  exact this c hc

theorem indexany_short (p : ByteArray) (w : World) (hs : p.size ≤ 8) (hp : ∀ x ∈ N p, x < 128) :
    Calls Try.prog 45 #[.string p, .string ⟨#[37, 95]⟩] w fun e w' => e = .returned (.int .i64 (idxF (N p))) ∧ Ext w w' := by
  have hp2 : ∀ k (h : k < p.size), p[k].toNat < 128 := fun k h => hp _ (List.mem_of_getElem? (N_get p k h))
  have HP := hid hp2
  have hd8 : decide ((8 : Int) < (p.size : Int)) = false := by simp; omega
  clear hp hp2
  go_enter Try.func45, Try.ntmps45
  go_wp2_with (go_at_call 58; refine (shouldset_any _ _).mono ?_; rintro e w' ⟨rfl, rfl⟩; rw [hd8])
  go_loopw [4] (fun _ wr => ∃ k : Nat, k ≤ p.size ∧ wr = w.iter p k ∧ ∀ x ∈ (N p).take k, spec x = false) (fun _ wr => p.size - wr.iterPos w.heap.size)
  case atStart => exact ⟨0, Nat.zero_le _, rfl, fun x hx => by simp at hx⟩
  case round =>
    obtain ⟨k, hk, rfl, hno⟩ := hrel
    have HNO := hid hno
    clear hno
    have hits : (w.iter p k).iterPos w.heap.size = k := by simp [World.iterPos, World.iter_heap]
    have hits2 : (w.iter p (k + 1)).iterPos w.heap.size = k + 1 := by simp [World.iterPos, World.iter_heap]
    by_cases hlt : k < p.size
    · have h128 := HP.out k hlt
      have hnx := fun ty => run_next_ascii (P := Try.prog) w p k ty hlt h128
      have h1 := hid (N_take_succ p k hlt)
      have hg := hid (N_get p k hlt)
      obtain ⟨V, hV, hVs⟩ := idx_two p[k].toNat h128
      have HV := hid hV
      have HI1 := hid hits
      have HI2 := hid hits2
      clear hV hits hits2
      cases hsp : spec p[k].toNat
      · rw [hsp] at hVs
        go_wp2_with (go_at_call 57; refine (indexrune_any _ p[k].toNat _ h128).mono ?_; rintro e w' ⟨rfl, rfl⟩; rw [HV.out])
        go_roundw
        case rel =>
          refine ⟨k + 1, by omega, rfl, fun x hx => ?_⟩
          rw [h1.out, List.mem_append, List.mem_singleton] at hx
          rcases hx with hx | rfl
          · exact HNO.out x hx
          · exact hsp
        case measure => rw [HI1.out, HI2.out]; omega
      · rw [hsp] at hVs
        have hfin := hid (idxF_at (N p) k _ HNO.out hg.out hsp)
        go_wp2_with (go_at_call 57; refine (indexrune_any _ p[k].toNat _ h128).mono ?_; rintro e w' ⟨rfl, rfl⟩; rw [HV.out])
        go_ret
        exact ⟨ret_int hfin.out.symm, (Ext.refl w).alloc _⟩
    · obtain rfl : k = p.size := by omega
      have e : (N p).take p.size = N p := List.take_of_length_le (by rw [N_len]; exact Nat.le_refl _)
      have hno := HNO.out
      rw [e] at hno
      have hfin := hid (idxF_no (N p) hno)
      have hnx := fun ty => run_next_end (P := Try.prog) w p p.size ty (by omega)
      clear hno e hits hits2
      go_wp2_with fail
      go_ret
      exact ⟨ret_int hfin.out.symm, (Ext.refl w).alloc _⟩

end Go.Proofs.Ytbniemkllhhnfaa
