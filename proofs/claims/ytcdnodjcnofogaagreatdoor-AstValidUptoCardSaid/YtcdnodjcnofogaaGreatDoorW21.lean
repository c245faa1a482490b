/-
  Walks: Concat of slices of expressions.
-/
import Derived.Test.YtcdnodjcnofogaaGreatDoorGrow
namespace Go.Proofs.YtcdnodjcnofogaaGreatDoor
open Go.RowKit
set_option linter.unusedVariables false
set_option linter.unusedSimpArgs false
set_option maxHeartbeats 4000000
set_option maxRecDepth 100000

/-- a slice of slices of expressions -/
def RowsAt (w : World) (A : Option Addr) (L : List (List Ex)) : Prop :=
  ∀ (i : Nat) (l : List Ex), L[i]? = some l → ∃ b off Ai ni ci, A = some ⟨b, off, none⟩ ∧ w.cell? ⟨b, off + i, none⟩ = some (.slice Ai ni ci) ∧ l.length = ni ∧ KidsAt w Ai l
theorem RowsAt.ext {w w' : World} {A : Option Addr} {L : List (List Ex)} (h : RowsAt w A L) (hx : Ext w w') : RowsAt w' A L := fun i l hl => by
  obtain ⟨b, off, Ai, ni, ci, hA, hc, hn, hk⟩ := h i l hl
  exact ⟨b, off, Ai, ni, ci, hA, hx.keep hc, hn, hk.ext hx⟩
theorem rat_lt {α : Type} {L : List α} {i n : Nat} (hl : L.length = n) (h : i < n) : ∃ e, L[i]? = some e := ⟨_, List.getElem?_eq_getElem (by omega)⟩
theorem flat_step {α : Type} {L : List (List α)} {k : Nat} {l : List α} (h : L[k]? = some l) : (L.take (k + 1)).flatten = (L.take k).flatten ++ l := by
  obtain ⟨hi, rfl⟩ := List.getElem?_eq_some_iff.1 h
  rw [List.take_succ_eq_append_getElem hi, List.flatten_append]
  simp
theorem flat_le {α : Type} (L : List (List α)) (k : Nat) : (L.take k).flatten.length ≤ L.flatten.length := by
  conv => rhs; rw [← List.take_append_drop k L, List.flatten_append, List.length_append]
  omega
theorem concat_any (L : List (List Ex)) (A : Option Addr) (n c : Nat) (w : World) (hl : L.length = n) (hn : n ≤ 9223372036854775807) (hr : RowsAt w A L) (hT : L.flatten.length ≤ 1000000000) :
    Calls Tryz.prog 70 #[.slice A n c] w fun r w' =>
      ∃ v xs, r = .returned v ∧ w'.ownsRow w.heap.size 35 8 v L.flatten.length xs ∧ LC w L.flatten xs ∧ Ext w w' := by
  obtain ⟨i0, hi, hz0, hz1, hz2⟩ := info_parts info_ex
  have HL := hid hl
  have HR := hid hr
  have HT := hid hT
  clear hl hr
  go_enter Tryz.func70, Tryz.ntmps70
  go_wp2_with fail
  go_loop [3, 5, 11] (fun sv _ iv => ∃ (k s : Nat), k ≤ n ∧ s ≤ 1000000000 ∧ iv = .int .i64 k ∧ sv = .int .i64 s ∧ s = (L.take k).flatten.length) (fun _ _ i => n - (intOf i).toNat)
  case atStart => exact ⟨0, 0, Nat.zero_le _, Nat.zero_le _, rfl, rfl, rfl⟩
  case round =>
    obtain ⟨k, s, hk, hs, rfl, rfl, hv⟩ := hrel
    have HV := hid hv
    clear hv
    by_cases hlt : k < n
    · obtain ⟨l, hl⟩ := rat_lt HL.out hlt
      obtain ⟨b, off, Ai, ni, ci, rfl, hc, hni, hki⟩ := HR.out k l hl
      have HS := hid (flat_step hl)
      have HNi := hid hni
      have hs2 : s + ni ≤ 1000000000 := by
        have h1 := flat_le L (k + 1)
        rw [HS.out, List.length_append] at h1
        have := HV.out
        have := HT.out
        omega
      have d0 : decide ((s : Int) + (ni : Int) < 0) = false := by simp; omega
      clear hl hni hki
      go_wp2_with fail
      go_round
      case rel => exact ⟨k + 1, s + ni, by omega, by omega, by go_num, by go_num, by rw [HS.out, List.length_append, HNi.out, HV.out]⟩
      case measure => simp [intOf]; omega
    · obtain rfl : k = n := by omega
      have HTk : Hid (L.take k = L) := List.take_of_length_le (Nat.le_of_eq HL.out)
      have HSL : Hid (s = L.flatten.length) := by unfold Hid; rw [HV.out, HTk.out]
      go_wp2_with (go_at_call 114; refine (grow_nil _ s hs).mono ?_; rintro _ w2 ⟨v0, rfl, hown0, hx0⟩; have HO0 := hid hown0; clear hown0)
      go_loopw [6, 8, 27] (fun nv _ iv wr => ∃ (j : Nat) (xs : List Value), j ≤ k ∧ iv = .int .i64 j ∧ wr.ownsRow w.heap.size 35 8 nv (L.take j).flatten.length xs ∧ LC w (L.take j).flatten xs ∧ Ext w wr) (fun _ _ i _ => k - (intOf i).toNat)
      case atStart => exact ⟨0, [], Nat.zero_le _, rfl, HO0.out, .nil, hx0⟩
      case round =>
        obtain ⟨j, xs, hj, rfl, hown, hlc, hxr⟩ := hrel
        have HO := hid hown
        have HLC := hid hlc
        have HXr := hid hxr
        clear hown hlc
        by_cases hlt2 : j < k
        · obtain ⟨l, hl⟩ := rat_lt HL.out hlt2
          obtain ⟨b, off, Ai, ni, ci, rfl, hc0, hni, hki⟩ := HR.out j l hl
          have hc := hxr.keep hc0
          have HS := hid (flat_step hl)
          obtain ⟨news, hnl, hnr⟩ := kids_reads hki hni
          have HNL := hid hnl
          have HNR := hid (hnr.below hxr)
          have HNi := hid hni
          have hb1 : (L.take j).flatten.length + ni ≤ 1000000000 := by
            have h1 := flat_le L (j + 1)
            rw [HS.out, List.length_append] at h1
            have := HT.out
            omega
          obtain ⟨p, hp⟩ : ∃ p, (L.take j).flatten.length = p := ⟨_, rfl⟩
          have HP := hid hp
          rw [hp] at hb1
          rw [hp] at HO
          clear hl hni hki hnl hnr hc0 hxr hp
          go_wp2_with (at_builtin; refine wpList_append_any _ rfl (.tmp 31) (.tmp 32) _ rfl w.heap.size 35 i0 _ 8 104 Tryz.underlying25 hi hz0 hz1 hz2 rfl (by decide) _ p xs rfl HO.out w.heap.size Ai ni ci news rfl HNR.out HNL.out.len.2 (by unfold maxLen; omega) (by omega) HXr.out.size ?_; intro v1 w3 hown3 hgr3 hat3; have HO3 := hid hown3; have HG3 := hid hgr3; clear hown3 hgr3 hat3)
          go_roundw
          case rel =>
            refine ⟨j + 1, xs ++ news, by omega, by go_num, ?_, ?_, ?_⟩
            · rw [HS.out, List.length_append, HP.out, HNi.out]
              exact HO3.out
            · rw [HS.out]
              exact HLC.out.app HNL.out
            · refine HXr.out.grown HG3.out fun q hq => (HO.out.lt q hq).1
          case measure => simp [intOf]; omega
        · obtain rfl : j = k := by omega
          go_wp2_with fail
          go_ret
          refine ⟨_, xs, rfl, ?_, ?_, HXr.out⟩
          · have := HO.out
            rwa [HTk.out] at this
          · have := HLC.out
            rwa [HTk.out] at this
end Go.Proofs.YtcdnodjcnofogaaGreatDoor
