/-
  A walk over the reference's validity of an automaton.
-/
import Derived.Test.YtbniemkllhhnfaaPA2
namespace Go.Proofs.Ytbniemkllhhnfaa
open Go.RowKit
set_option linter.unusedVariables false
set_option linter.unusedSimpArgs false
set_option maxHeartbeats 2000000
set_option maxRecDepth 100000

theorem cov_len {sts : List Nat} {f : Nat → Nat} {E : List Ed} {c : Nat} (h : Cov sts f E c) : ∀ k, k ≤ E.length → 31 + k ≤ hiAt E k := by
  intro k
  induction k with
  | zero => intro _; simp [hiAt]
  | succ k ih =>
    intro hk
    have he : E[k]? = some E[k] := List.getElem?_eq_getElem (by omega)
    have := h.seq k _ he
    have := ih (by omega)
    rw [hiAt_succ E k _ he]
    omega
theorem cov_len2 {sts : List Nat} {f : Nat → Nat} {E : List Ed} {c : Nat} (h : Cov sts f E c) : E.length + 32 ≤ c := by
  have := cov_len h E.length (Nat.le_refl _)
  have := h.done
  omega
theorem aut_len {kd : Int} {p sts : List Nat} {Es : List (List Ed)} (h : Aut kd p sts Es) : ∀ E ∈ Es, E.length ≤ 95 := fun E hE => by
  obtain ⟨i, hi⟩ := List.getElem?_of_mem hE
  obtain ⟨s, _, hc⟩ := h.cov i E hi
  have := cov_len2 hc
  omega
theorem aut_edge {kd : Int} {p sts : List Nat} {Es : List (List Ed)} (h : Aut kd p sts Es) {i k : Nat} {E : List Ed} {e : Ed} (hE : Es[i]? = some E) (he : E[k]? = some e) : hiAt E k < e.lo ∧ e.lo ≤ e.hi ∧ e.hi ≤ 126 ∧ e.to < sts.length ∧ hiAt E (k + 1) = e.hi := by
  obtain ⟨s, _, hc⟩ := h.cov i E hE
  have h1 := hc.hi_lt k e he
  have h2 := hc.goes k e he e.lo (Nat.le_refl _) h1.2.1
  exact ⟨by omega, h1.2.1, by omega, (List.getElem?_eq_some_iff.1 h2).1, hiAt_succ E k e he⟩
theorem avalid_any (A B : Option Addr) (n cA cB : Nat) (kd : Int) (p sts : List Nat) (Es : List (List Ed)) (w : World) (hE : EdsAt w B Es) (hn : Es.length = n) (hA : Aut kd p sts Es) (hn1 : 1 ≤ n) (hn4 : n ≤ 4096) :
    Calls Try.prog 26 #[.agg #[.slice A n cA, .slice B n cB]] w fun e w' => e = .returned (.bool true) ∧ Ext w w' := by
  have HE := hid hE
  have HN := hid hn
  have HA := hid hA
  have HB := hid (Blk.of_new w 48 [.slice A n cA, .slice B n cB])
  have HX := hid ((Ext.refl w).alloc (.cells #[.slice A n cA, .slice B n cB] 48))
  clear hE hn hA
  go_enter Try.func26, Try.ntmps26
  go_upto_region 1 with fail
  generalize w.alloc (.cells #[.slice A n cA, .slice B n cB] 48) = W1 at *
  generalize w.heap.size = g1 at *
  obtain ⟨b0, b1⟩ : W1.cell? ⟨g1, 0, none⟩ = some (.slice A n cA) ∧ W1.cell? ⟨g1, 1, none⟩ = some (.slice B n cB) := ⟨HB.out.cell_some rfl, HB.out.cell_some rfl⟩
  have c1 : ¬ (n : Int) < 1 := by omega
  have c2 : ¬ (4096 : Int) < n := by omega
  go_wp2_with fail
  go_loopw [4] (fun iv wr => ∃ k : Nat, k ≤ n ∧ iv = .int .i64 k ∧ Ext W1 wr) (fun i _ => n - (intOf i).toNat)
  case atStart => exact ⟨0, Nat.zero_le _, rfl, Ext.refl W1⟩
  case round =>
    obtain ⟨i, hi, rfl, hxr⟩ := hrel
    have HXr := hid hxr
    clear hxr b0 b1 c1 c2
    generalize wr = W2 at *
    by_cases hlt : i < n
    · obtain ⟨E, hEi⟩ : ∃ E, Es[i]? = some E := ⟨_, List.getElem?_eq_getElem (by rw [HN.out]; exact hlt)⟩
      have HEi := hid hEi
      have hl := aut_len HA.out E (List.mem_of_getElem? hEi)
      clear hEi
      go_upto_region 9 with fail
      go_loopw [5, 6] (fun lv iv wr => ∃ k : Nat, k ≤ E.length ∧ iv = .int .i64 k ∧ lv = .int .i64 (hiAt E k) ∧ Ext W1 wr) (fun _ i _ => E.length - (intOf i).toNat)
      case atStart => exact ⟨0, Nat.zero_le _, rfl, rfl, HXr.out⟩
      case round =>
        obtain ⟨k, hk, rfl, rfl, hxr⟩ := hrel
        have HXs := hid hxr
        clear hxr
        have hb1 := (HB.out.ext HXs.out).cell_some (i := 1) rfl
        obtain ⟨g, off, v, rfl, h2, h3⟩ := (HE.out.ext (HX.out.trans HXs.out)) i E HEi.out
        obtain ⟨Ae, ce, rfl, h4⟩ := h3
        have i0 : (0 : Int) ≤ (i : Int) := by omega
        have i1 : (i : Int) < (n : Int) := by omega
        by_cases hlk : k < E.length
        · obtain ⟨e, he⟩ : ∃ e, E[k]? = some e := ⟨_, List.getElem?_eq_getElem hlk⟩
          obtain ⟨ge, oe, rfl, k1, k2, k3⟩ := h4 k e he
          have i2 : (0 : Int) ≤ (k : Int) := by omega
          have i3 : (k : Int) < (E.length : Int) := by omega
          obtain ⟨f1, f2, f3, f4, f5⟩ := aut_edge HA.out HEi.out he
          rw [← HA.out.len, HN.out] at f4
          obtain ⟨lo, hlo⟩ : ∃ a, e.lo = a := ⟨_, rfl⟩
          obtain ⟨hi, hhi⟩ : ∃ a, e.hi = a := ⟨_, rfl⟩
          obtain ⟨tn, hto⟩ : ∃ a, e.to = a := ⟨_, rfl⟩
          rw [hlo] at k1 f1 f2
          rw [hhi] at k2 f2 f3 f5
          rw [hto] at k3 f4
          clear he hlo hhi hto h4
          have HM := hid f5
          clear f5
          generalize hiAt E k = la at *
          have d1 : ¬ (lo : Int) ≤ (la : Int) := by omega
          have d2 : ¬ (hi : Int) < (lo : Int) := by omega
          have d3 : ¬ (126 : Int) < (hi : Int) := by omega
          have d4 : ¬ (tn : Int) < (0 : Int) := by omega
          have d5 : ¬ (n : Int) ≤ (tn : Int) := by omega
          go_wp2_with fail
          exact ⟨⟨k + 1, by omega, by go_num, by rw [HM.out], HXs.out.alloc _⟩, by simp [intOf]; omega⟩
        · have hkl : E.length = k := by omega
          have d1 : ¬ (k : Int) < (E.length : Int) := by omega
          clear h4
          go_wp2_with fail
          exact ⟨⟨i + 1, by omega, by go_num, HXs.out⟩, by simp [intOf]; omega⟩
    · have d1 : ¬ (i : Int) < (n : Int) := by omega
      go_wp2_with fail
      go_ret
      exact ⟨rfl, HX.out.trans HXr.out⟩
end Go.Proofs.Ytbniemkllhhnfaa
