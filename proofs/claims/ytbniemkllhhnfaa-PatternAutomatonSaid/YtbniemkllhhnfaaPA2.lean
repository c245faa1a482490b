/-
  Walks over the reference's automaton: Run, Final, Accepts, Valid.
-/
import Derived.Test.YtbniemkllhhnfaaPA1
namespace Go.Proofs.Ytbniemkllhhnfaa
open Go.RowKit
set_option linter.unusedVariables false
set_option linter.unusedSimpArgs false
set_option maxHeartbeats 2000000
set_option maxRecDepth 100000

theorem prn_at {s : ByteArray} (h : prn (N s) = true) {k : Nat} (hk : k < s.size) : 32 ≤ s[k].toNat ∧ s[k].toNat ≤ 126 := by
  unfold prn at h
  have := List.all_eq_true.1 h s[k].toNat (List.mem_of_getElem? (N_get s k hk))
  simpa using this
theorem run_step {kd : Int} {p sts : List Nat} {Es : List (List Ed)} (h : Aut kd p sts Es) {i s c : Nat} (hs : sts[i]? = some s) (h1 : 32 ≤ c) (h2 : c ≤ 126) : ∃ E j, Es[i]? = some E ∧ stepE E c = some j ∧ sts[j]? = some (nx kd p s c) := by
  have hi : i < Es.length := by rw [h.len]; exact (List.getElem?_eq_some_iff.1 hs).1
  have hE := List.getElem?_eq_getElem hi
  obtain ⟨s', hs', hc⟩ := h.cov i _ hE
  obtain rfl : s = s' := Option.some.inj (hs.symm.trans hs')
  obtain ⟨j, h3, h4⟩ := step_cov hc h1 h2
  exact ⟨_, j, hE, h3, h4⟩
theorem run_any (A B : Option Addr) (n cA cB : Nat) (kd : Int) (p sts : List Nat) (Es : List (List Ed)) (t : ByteArray) (w : World) (hE : EdsAt w B Es) (hn : Es.length = n) (hA : Aut kd p sts Es) (hl : ∀ E ∈ Es, E.length ≤ 1000000) (hn4 : n ≤ 1000000) (ht : t.size ≤ 1000000) (hp : prn (N t) = true) :
    Calls Try.prog 43 #[.agg #[.slice A n cA, .slice B n cB], .string t] w fun e w' => (∃ j : Nat, e = .returned (.int .i64 j) ∧ sts[j]? = some (run kd p (N t) (beg kd p))) ∧ Ext w w' := by
  have HE := hid hE
  have HN := hid hn
  have HA := hid hA
  have HL := hid hl
  have HP := hid hp
  have HB := hid (Blk.of_new w 48 [.slice A n cA, .slice B n cB])
  have HX := hid ((Ext.refl w).alloc (.cells #[.slice A n cA, .slice B n cB] 48))
  clear hE hn hA hl hp
  go_enter Try.func43, Try.ntmps43
  go_upto_region 1 with fail
  generalize w.alloc (.cells #[.slice A n cA, .slice B n cB] 48) = W1 at *
  generalize w.heap.size = g1 at *
  go_wp2_with fail
  go_loopw [5, 6] (fun sv iv wr => ∃ (k j : Nat), k ≤ t.size ∧ iv = .int .i64 k ∧ sv = .int .i64 j ∧ sts[j]? = some (run kd p ((N t).take k) (beg kd p)) ∧ Ext W1 wr) (fun _ i _ => t.size - (intOf i).toNat)
  case atStart => exact ⟨0, 0, Nat.zero_le _, rfl, rfl, HA.out.first, Ext.refl W1⟩
  case round =>
    obtain ⟨k, j, hk, rfl, rfl, hj, hxr⟩ := hrel
    have HJ := hid hj
    have HXr := hid hxr
    clear hj hxr
    generalize wr = W2 at *
    have hb0 := (HB.out.ext HXr.out).cell_some (i := 0) rfl
    have hb1 := (HB.out.ext HXr.out).cell_some (i := 1) rfl
    by_cases hlt : k < t.size
    · have hc := prn_at HP.out hlt
      obtain ⟨E, j2, hE, h3, h4⟩ := run_step HA.out HJ.out hc.1 hc.2
      have hrs := run_succ kd p t (beg kd p) k hlt
      rw [← hrs] at h4
      have HJ2 := hid h4
      have HSt := hid (fun W (hW : Ext W2 W) => step_any none none A B n cA cB Es E j t[k].toNat W (HE.out.ext ((HX.out.trans HXr.out).trans hW)) HN.out hE (by omega) (HL.out E (List.mem_of_getElem? hE)) hn4)
      rw [h3] at HSt
      clear hc hE h3 h4 hrs
      go_upto_region 5 with fail
      first | go_region_with (go_at_call 53; (with_reducible refine (HSt.out _ (by first | exact (Ext.refl W2).drew | exact Ext.refl W2)).mono ?_); rintro _ w3 ⟨rfl, hx3⟩) | fail
      all_goals
        have HX3 : Hid (Ext W1 w3) := HXr.out.trans ((Ext.refl W2).drew.trans hx3)
        clear hx3
        go_wp2_with fail
        go_roundw
        case rel => exact ⟨k + 1, j2, by omega, by go_num, rfl, HJ2.out, HX3.out⟩
        case measure => simp [intOf]; omega
    · have hkt : t.size = k := by omega
      have hr : sts[j]? = some (run kd p (N t) (beg kd p)) := by
        have := HJ.out
        rwa [List.take_of_length_le (by rw [N_len]; omega)] at this
      have HR := hid hr
      clear hr hb0 hb1
      go_wp2_with fail
      go_ret
      exact ⟨⟨j, rfl, HR.out⟩, HX.out.trans HXr.out⟩
theorem final_any (A B : Option Addr) (n m cA cB : Nat) (acc : List Bool) (j : Nat) (b : Bool) (w : World) (hA : AccAt w A acc) (hn : acc.length = n) (hj : acc[j]? = some b) :
    Calls Try.prog 42 #[.agg #[.slice A n cA, .slice B m cB], .int .i64 j] w fun e w' => e = .returned (.bool b) ∧ Ext w w' := by
  have hjn : j < n := by rw [← hn]; exact (List.getElem?_eq_some_iff.1 hj).1
  have HX := hid ((Ext.refl w).alloc (.cells #[.slice A n cA, .slice B m cB] 48))
  obtain ⟨g, off, rfl, hc⟩ := (hA.ext HX.out) j b hj
  have HB := hid (Blk.of_new w 48 [.slice (some ⟨g, off, none⟩) n cA, .slice B m cB])
  clear hA hn hj
  go_enter Try.func42, Try.ntmps42
  go_upto_region 1 with fail
  generalize w.alloc (.cells #[.slice (some ⟨g, off, none⟩) n cA, .slice B m cB] 48) = W1 at *
  generalize w.heap.size = g1 at *
  have hb0 := HB.out.cell_some (i := 0) rfl
  have b1 : decide ((0 : Int) ≤ (j : Int)) = true := decide_eq_true (by omega)
  have i0 : (0 : Int) ≤ (j : Int) := by omega
  have i1 : (j : Int) < (n : Int) := by omega
  go_wp2_with fail
  go_ret
  exact ⟨rfl, HX.out⟩
theorem accepts_any (A B : Option Addr) (n cA cB : Nat) (kd : Int) (ng : Bool) (p sts : List Nat) (acc : List Bool) (Es : List (List Ed)) (t : ByteArray) (w : World) (hC : AccAt w A acc) (hE : EdsAt w B Es) (hn : Es.length = n) (hA : Aut kd p sts Es)
    (hacc : acc = sts.map fun s => okOf kd p.length s != ng) (hl : ∀ E ∈ Es, E.length ≤ 1000000) (hn4 : n ≤ 1000000) (ht : t.size ≤ 1000000) (hp : prn (N t) = true) :
    Calls Try.prog 27 #[.agg #[.slice A n cA, .slice B n cB], .string t] w fun e w' => e = .returned (.bool (psB kd ng p (N t))) ∧ Ext w w' := by
  have hX := (Ext.refl w).alloc (.cells #[.slice A n cA, .slice B n cB] 48)
  have HX := hid hX
  have HB := hid (Blk.of_new w 48 [.slice A n cA, .slice B n cB])
  have hal : acc.length = n := by rw [hacc, List.length_map, ← hA.len, hn]
  have HR := hid (fun W (hW : Ext w W) => run_any A B n cA cB kd p sts Es t W (hE.ext hW) hn hA hl hn4 ht hp)
  have HF := hid (fun W j (hW : Ext w W) (hj : sts[j]? = some (run kd p (N t) (beg kd p))) => final_any A B n n cA cB acc j (psB kd ng p (N t)) W (hC.ext hW) hal (by rw [hacc, List.getElem?_map, hj]; rfl))
  clear hC hE hn hA hacc hl hp hal hX
  go_enter Try.func27, Try.ntmps27
  go_upto_region 1 with fail
  generalize w.alloc (.cells #[.slice A n cA, .slice B n cB] 48) = W1 at *
  generalize w.heap.size = g1 at *
  obtain ⟨b0, b1⟩ : W1.cell? ⟨g1, 0, none⟩ = some (.slice A n cA) ∧ W1.cell? ⟨g1, 1, none⟩ = some (.slice B n cB) := ⟨HB.out.cell_some rfl, HB.out.cell_some rfl⟩
  first | go_region_with (first
    | (go_at_call 42; (with_reducible refine (HF.out _ _ (HX.out.trans hx2) hj).mono ?_); rintro _ w3 ⟨rfl, hx3⟩)
    | (go_at_call 43; (with_reducible refine (HR.out _ (by first | exact HX.out.drew | exact HX.out)).mono ?_); rintro _ w2 ⟨⟨j, rfl, hj⟩, hx2⟩; replace hx2 : Ext W1 w2 := (Ext.refl W1).drew.trans hx2; have c0 := (HB.out.ext hx2).cell_some (i := 0) rfl; have c1 := (HB.out.ext hx2).cell_some (i := 1) rfl)) | fail
  all_goals
    go_wp2_with fail
    go_ret
    exact ⟨rfl, HX.out.trans (hx2.trans hx3)⟩
end Go.Proofs.Ytbniemkllhhnfaa
