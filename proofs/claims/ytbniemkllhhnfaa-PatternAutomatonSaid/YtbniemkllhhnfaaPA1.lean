/-
  Walks over the reference's automaton: Step, Run, Final, Accepts.
-/
import Derived.Test.YtbniemkllhhnfaaPure13
import Derived.Test.YtbniemkllhhnfaaW15
import Derived.Test.YtbniemkllhhnfaaW9
import Derived.RegionTactic
import Derived.Deep.DeepCutAuto
import Derived.Deep.CutBlock
import Derived.Deep.RegionHeldLaw
import Derived.BigRegion
namespace Go.Proofs.Ytbniemkllhhnfaa
open Go.RowKit
set_option linter.unusedVariables false
set_option linter.unusedSimpArgs false
set_option maxHeartbeats 2000000
set_option maxRecDepth 100000

/-- the accepting states in memory -/
def AccAt (w : World) (A : Option Addr) (l : List Bool) : Prop := ∀ (i : Nat) (b : Bool), l[i]? = some b → ∃ g off, A = some ⟨g, off, none⟩ ∧ w.cell? ⟨g, off + i, none⟩ = some (.bool b)
theorem AccAt.ext {w w' : World} {A : Option Addr} {l : List Bool} (h : AccAt w A l) (hx : Ext w w') : AccAt w' A l := fun i b hb => by
  obtain ⟨g, off, h1, h2⟩ := h i b hb
  exact ⟨g, off, h1, hx.keep h2⟩
/-- a list of edges in memory -/
def EdgAt (w : World) (v : Value) (E : List Ed) : Prop := ∃ A c, v = .slice A E.length c ∧ ∀ (i : Nat) (e : Ed), E[i]? = some e → ∃ g off, A = some ⟨g, off, none⟩ ∧ w.cell? ⟨g, off + i * 3, none⟩ = some (.int .u8 e.lo) ∧ w.cell? ⟨g, off + i * 3 + 1, none⟩ = some (.int .u8 e.hi) ∧ w.cell? ⟨g, off + i * 3 + 2, none⟩ = some (.int .i64 e.to)
theorem EdgAt.ext {w w' : World} {v : Value} {E : List Ed} (h : EdgAt w v E) (hx : Ext w w') : EdgAt w' v E := by
  obtain ⟨A, c, h1, h2⟩ := h
  exact ⟨A, c, h1, fun i e he => by
    obtain ⟨g, off, k1, k2, k3, k4⟩ := h2 i e he
    exact ⟨g, off, k1, hx.keep k2, hx.keep k3, hx.keep k4⟩⟩
def EdsAt (w : World) (A : Option Addr) (Es : List (List Ed)) : Prop := ∀ (i : Nat) (E : List Ed), Es[i]? = some E → ∃ g off v, A = some ⟨g, off, none⟩ ∧ w.cell? ⟨g, off + i, none⟩ = some v ∧ EdgAt w v E
theorem EdsAt.ext {w w' : World} {A : Option Addr} {Es : List (List Ed)} (h : EdsAt w A Es) (hx : Ext w w') : EdsAt w' A Es := fun i E hE => by
  obtain ⟨g, off, v, h1, h2, h3⟩ := h i E hE
  exact ⟨g, off, v, h1, hx.keep h2, h3.ext hx⟩
/-- the number of a state, or -1 -/
def numE : Option Nat → Int
  | some j => (j : Int)
  | none => -1
theorem find_no {E : List Ed} {c k : Nat} {e : Ed} (h : (E.take k).find? (fun e => decide (e.lo ≤ c) && decide (c ≤ e.hi)) = none) (he : E[k]? = some e) (hn : ¬ (e.lo ≤ c ∧ c ≤ e.hi)) : (E.take (k + 1)).find? (fun e => decide (e.lo ≤ c) && decide (c ≤ e.hi)) = none := by
  obtain ⟨hi, rfl⟩ := List.getElem?_eq_some_iff.1 he
  rw [List.take_succ_eq_append_getElem hi, List.find?_append, h]
  simp only [Option.none_or, List.find?_cons, List.find?_nil]
  cases hb : (decide (E[k].lo ≤ c) && decide (c ≤ E[k].hi))
  · rfl
  · simp only [Bool.and_eq_true, decide_eq_true_eq] at hb
    exact absurd hb hn
theorem find_yes {E : List Ed} {c k : Nat} {e : Ed} (h : (E.take k).find? (fun e => decide (e.lo ≤ c) && decide (c ≤ e.hi)) = none) (he : E[k]? = some e) (hn : e.lo ≤ c ∧ c ≤ e.hi) : stepE E c = some e.to := by
  have hd : E.drop k = e :: E.drop (k + 1) := by
    obtain ⟨hi, rfl⟩ := List.getElem?_eq_some_iff.1 he
    exact List.drop_eq_getElem_cons hi
  have hE : E = E.take k ++ (e :: E.drop (k + 1)) := by rw [← hd, List.take_append_drop]
  unfold stepE
  rw [hE, List.find?_append, h]
  simp [hn.1, hn.2]
theorem step_any (vA vB A B : Option Addr) (n cA cB : Nat) (Es : List (List Ed)) (E : List Ed) (s c : Nat) (w : World) (hE : EdsAt w B Es) (hn : Es.length = n) (hs : Es[s]? = some E) (hc : c < 256) (hl : E.length ≤ 1000000) (hn4 : n ≤ 1000000) :
    Calls Try.prog 53 #[.agg #[.slice A n cA, .slice B n cB], .int .i64 s, .int .u8 c] w fun e w' => e = .returned (.int .i64 (numE (stepE E c))) ∧ Ext w w' := by
  have hsn : s < n := by rw [← hn]; exact (List.getElem?_eq_some_iff.1 hs).1
  have HE := hid hE
  have HS := hid hs
  have HB := hid (Blk.of_new w 48 [.slice A n cA, .slice B n cB])
  have HX := hid ((Ext.refl w).alloc (.cells #[.slice A n cA, .slice B n cB] 48))
  clear hE hs hn
  go_enter Try.func53, Try.ntmps53
  go_upto_region 1 with fail
  generalize w.alloc (.cells #[.slice A n cA, .slice B n cB] 48) = W1 at *
  generalize w.heap.size = g1 at *
  go_wp2_with fail
  go_loopw [7] (fun iv wr => ∃ k : Nat, k ≤ E.length ∧ iv = .int .i64 k ∧ (E.take k).find? (fun e => decide (e.lo ≤ c) && decide (c ≤ e.hi)) = none ∧ Ext W1 wr) (fun i _ => E.length - (intOf i).toNat)
  case atStart => exact ⟨0, Nat.zero_le _, rfl, rfl, Ext.refl W1⟩
  case round =>
    obtain ⟨k, hk, rfl, hf, hxr⟩ := hrel
    have HF := hid hf
    have HXr := hid hxr
    clear hf hxr
    have hb1 := (HB.out.ext HXr.out).cell_some (i := 1) rfl
    obtain ⟨g, off, v, rfl, h2, h3⟩ := (HE.out.ext (HX.out.trans HXr.out)) s E HS.out
    obtain ⟨Ae, ce, rfl, h4⟩ := h3
    have i0 : (0 : Int) ≤ (s : Int) := by omega
    have i1 : (s : Int) < (n : Int) := by omega
    by_cases hlt : k < E.length
    · obtain ⟨e, he⟩ : ∃ e, E[k]? = some e := ⟨_, List.getElem?_eq_getElem hlt⟩
      obtain ⟨ge, oe, rfl, k1, k2, k3⟩ := h4 k e he
      have i2 : (0 : Int) ≤ (k : Int) := by omega
      have i3 : (k : Int) < (E.length : Int) := by omega
      have HY := hid (fun h => find_yes (c := c) HF.out he h)
      have HN := hid (fun h => find_no (c := c) HF.out he h)
      obtain ⟨lo, hlo⟩ : ∃ a, e.lo = a := ⟨_, rfl⟩
      obtain ⟨hi, hhi⟩ : ∃ a, e.hi = a := ⟨_, rfl⟩
      obtain ⟨tn, hto⟩ : ∃ a, e.to = a := ⟨_, rfl⟩
      rw [hlo, hhi, hto] at HY
      rw [hlo, hhi] at HN
      rw [hlo] at k1
      rw [hhi] at k2
      rw [hto] at k3
      clear he hlo hhi hto h4
      go_wp2_with fail
      all_goals first
        | (go_ret; exact ⟨by rw [HY.out (by omega)]; rfl, HX.out.trans (HXr.out.alloc _)⟩)
        | exact ⟨⟨k + 1, by omega, by go_num, HN.out (by omega), HXr.out.alloc _⟩, by simp [intOf]; omega⟩
    · have hkl : E.length = k := by omega
      have hr : stepE E c = none := by
        have := HF.out
        rw [List.take_of_length_le (by omega)] at this
        unfold stepE
        rw [this]
        rfl
      have HR := hid hr
      have b3 : ¬ (k : Int) < (E.length : Int) := by omega
      clear hr h4
      go_wp2_with fail
      go_ret
      exact ⟨by rw [HR.out]; rfl, HX.out.trans HXr.out⟩
end Go.Proofs.Ytbniemkllhhnfaa
