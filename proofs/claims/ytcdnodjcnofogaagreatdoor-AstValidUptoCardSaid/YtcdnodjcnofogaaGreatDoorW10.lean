/-
  formed returns whether an expression is well-formed.
-/
import Derived.Test.YtcdnodjcnofogaaGreatDoorW9
namespace Go.Proofs.YtcdnodjcnofogaaGreatDoor
open Go.RowKit
set_option linter.unusedVariables false
set_option maxHeartbeats 1000000

theorem elt_parts {w : World} {b o : Nat} {d : Nd} {ks : List Ex} {A : Option Addr} {n c : Nat} (h : EltAt w b o (.mk d ks) A n c) :
    w.cell? ⟨b, o, none⟩ = some (.int .i64 d.op) ∧ w.cell? ⟨b, o + 1, none⟩ = some (.string d.tb) ∧ w.cell? ⟨b, o + 2, none⟩ = some (.string d.nm) ∧ w.cell? ⟨b, o + 3, none⟩ = some (.int .i64 d.ix) ∧
    w.cell? ⟨b, o + 4, none⟩ = some (.int .i64 d.vk) ∧ w.cell? ⟨b, o + 5, none⟩ = some (.int .i64 d.vi) ∧ w.cell? ⟨b, o + 6, none⟩ = some (.string d.vt) ∧ w.cell? ⟨b, o + 7, none⟩ = some (.slice A n c) :=
  ⟨h.c0, h.c1, h.c2, h.c3, h.c4, h.c5, h.c6, h.c7⟩
theorem formed_any : ∀ (e : Ex) (A : Option Addr) (n c : Nat) (w : World), ExV w e A n c → Sh w →
    Calls Tryz.prog 47 #[e.d.val A n c] w fun r w' => r = .returned (.bool e.formed) ∧ Ext w w' := by
  intro e
  induction e using Ex.ind with
  | h d ks ih =>
    intro A n c w hv hw
    obtain ⟨h1, h2, h3, h4⟩ := hv
    have h1 : ks.length = n := h1
    have h4 : KidsAt w A ks := h4
    have h3 : d.fit := h3
    have hF := formed_eq d ks
    rw [h1] at hF
    obtain ⟨B, hB⟩ : ∃ B, (ks.any fun x => !x.formed) = B := ⟨_, rfl⟩
    have hFC : FC d.tb d.nm d.vt A n c w B := by
      refine ⟨h3.tb, h3.nm, h3.vt, hw, fun y => ?_⟩
      rw [← hB]
      refine contains_ex 101 ent101 _ ks A n c _ h1 h2 (h4.ext y.ext) ?_
      intro x hx A' n' c' W hW hxv
      exact formed1 x A' n' c' W fun W' hW' => ih x hx A' n' c' W' (hxv.ext hW') (((hw.ext y.ext).ext hW).ext hW')
    rw [hB] at hF
    have hND : ndB d (ks.map Ex.d) = if d.op = 2 then nameB d.nm && (d.tb.size == 0 || nameB d.tb) && d.valZ
      else if d.op = 1 then d.tb.size == 0 && d.nm.size == 0 && d.litB
      else if d.op = 16 ∧ (((ks.map Ex.d).getD 1 d).op ≠ 1 ∨ ((ks.map Ex.d).getD 1 d).vk ≠ 2) then false
      else d.tb.size == 0 && d.nm.size == 0 && d.valZ := rfl
    have hVZ : d.valZ = (d.vk == 0 && d.vi == 0 && d.vt.size == 0) := rfl
    have hval : ∀ A, (Ex.mk d ks).d.val A n c = .agg #[.int .i64 d.op, .string d.tb, .string d.nm, .int .i64 d.ix, .int .i64 d.vk, .int .i64 d.vi, .string d.vt, .slice A n c] := fun _ => rfl
    rw [hval, hF]
    by_cases hN : opN d.op = (n : Int)
    · have bN : (opN d.op != (n : Int)) = false := by rw [hN]; simp
      have bN2 : (opN d.op == (n : Int)) = true := by rw [hN]; simp
      rw [bN2, Bool.true_and]
      cases B
      · simp only [Bool.not_false, Bool.true_and]
        rw [hND]
        by_cases ht : d.tb.size = 0
        · have e1 := empty_yes ht
          by_cases hn : d.nm.size = 0
          · have e2 := empty_yes hn
            by_cases k2 : d.op = 2
            · rw [if_pos k2, name_len0 hn]
              exact fc3a _ _ _ _ _ _ _ _ _ _ _ hFC bN (by rw [k2]; rfl) (name_len0 hn)
            · rw [if_neg k2]
              by_cases k1 : d.op = 1
              · rw [if_pos k1, ht, hn]
                simp only [beq_self_eq_true, Bool.true_and]
                rw [e1, e2] at hFC ⊢
                exact fc4a _ _ _ _ _ _ _ _ _ d rfl rfl rfl hFC bN (by rw [k1]; rfl) (by rw [k1]; rfl)
              · rw [if_neg k1]
                by_cases k16 : d.op = 16
                · have hn2 : n = 2 := by
                    rw [k16] at hN
                    unfold opN at hN
                    simp at hN
                    omega
                  obtain ⟨x, hx⟩ := at_lt (i := 1) h1 (by omega)
                  obtain ⟨b, off, A', n', c', rfl, hQ⟩ := h4.get hx
                  obtain ⟨dx, kx⟩ := x
                  rw [get1 d hx]
                  have hE := elt_parts hQ
                  have b2 : (d.op == 2) = false := by rw [k16]; rfl
                  have b1 : (d.op == 1) = false := by rw [k16]; rfl
                  have b16 : (d.op == 16) = true := by rw [k16]; rfl
                  by_cases o1 : dx.op = 1
                  · by_cases o2 : dx.vk = 2
                    · rw [if_neg (by rintro ⟨_, h | h⟩; exact h o1; exact h o2), ht, hn, hVZ]
                      simp only [beq_self_eq_true, Bool.true_and]
                      rw [e1, e2] at hFC ⊢
                      exact fc5e _ _ _ _ _ _ _ _ b off _ _ _ _ _ _ _ _ _ _ hE hFC bN b2 b1 b16 (by omega) (by rw [o1]; rfl) (by rw [o2]; rfl)
                    · rw [if_pos ⟨k16, .inr o2⟩]
                      exact fc5b _ _ _ _ _ _ _ _ _ _ b off _ _ _ _ _ _ _ _ _ _ hE hFC bN b2 b1 b16 (by omega) (by rw [o1]; rfl) (by simpa using o2)
                  · rw [if_pos ⟨k16, .inl o1⟩]
                    exact fc5a _ _ _ _ _ _ _ _ _ _ b off _ _ _ _ _ _ _ _ _ _ hE hFC bN b2 b1 b16 (by omega) (by simpa using o1)
                · rw [if_neg (fun h => k16 h.1), ht, hn, hVZ]
                  simp only [beq_self_eq_true, Bool.true_and]
                  rw [e1, e2] at hFC ⊢
                  exact fc6c _ _ _ _ _ _ _ _ _ hFC bN (by simpa using k2) (by simpa using k1) (by simpa using k16)
          · have t1 := empty_no hn
            have t2 := empty_no2 hn
            by_cases k2 : d.op = 2
            · rw [if_pos k2, ht]
              cases hx : nameB d.nm
              · exact fc3a _ _ _ _ _ _ _ _ _ _ _ hFC bN (by rw [k2]; rfl) hx
              · rw [hVZ]
                simp only [beq_self_eq_true, Bool.true_and, Bool.true_or]
                rw [e1] at hFC ⊢
                exact fc3b _ _ _ _ _ _ _ _ _ _ hFC bN (by rw [k2]; rfl) hx
            · rw [if_neg k2]
              have z : (d.nm.size == 0) = false := by simpa using hn
              by_cases k1 : d.op = 1
              · rw [if_pos k1, z]
                simp only [Bool.and_false, Bool.false_and]
                rw [e1] at hFC ⊢
                exact fc4b _ _ _ _ _ _ _ _ _ _ hFC bN (by rw [k1]; rfl) (by rw [k1]; rfl) t1 t2
              · rw [if_neg k1]
                by_cases k16 : d.op = 16
                · have hn2 : n = 2 := by
                    rw [k16] at hN
                    unfold opN at hN
                    simp at hN
                    omega
                  obtain ⟨x, hx⟩ := at_lt (i := 1) h1 (by omega)
                  obtain ⟨b, off, A', n', c', rfl, hQ⟩ := h4.get hx
                  obtain ⟨dx, kx⟩ := x
                  rw [get1 d hx]
                  have hE := elt_parts hQ
                  have b2 : (d.op == 2) = false := by rw [k16]; rfl
                  have b1 : (d.op == 1) = false := by rw [k16]; rfl
                  have b16 : (d.op == 16) = true := by rw [k16]; rfl
                  by_cases o1 : dx.op = 1
                  · by_cases o2 : dx.vk = 2
                    · rw [if_neg (by rintro ⟨_, h | h⟩; exact h o1; exact h o2), z]
                      simp only [Bool.and_false, Bool.false_and]
                      rw [e1] at hFC ⊢
                      exact fc5d _ _ _ _ _ _ _ _ _ b off _ _ _ _ _ _ _ _ _ _ hE hFC bN b2 b1 b16 (by omega) (by rw [o1]; rfl) (by rw [o2]; rfl) t1 t2
                    · rw [if_pos ⟨k16, .inr o2⟩]
                      exact fc5b _ _ _ _ _ _ _ _ _ _ b off _ _ _ _ _ _ _ _ _ _ hE hFC bN b2 b1 b16 (by omega) (by rw [o1]; rfl) (by simpa using o2)
                  · rw [if_pos ⟨k16, .inl o1⟩]
                    exact fc5a _ _ _ _ _ _ _ _ _ _ b off _ _ _ _ _ _ _ _ _ _ hE hFC bN b2 b1 b16 (by omega) (by simpa using o1)
                · rw [if_neg (fun h => k16 h.1), z]
                  simp only [Bool.and_false, Bool.false_and]
                  rw [e1] at hFC ⊢
                  exact fc6b _ _ _ _ _ _ _ _ _ _ hFC bN (by simpa using k2) (by simpa using k1) (by simpa using k16) t1 t2
        · have t1 := empty_no ht
          have t2 := empty_no2 ht
          have z : (d.tb.size == 0) = false := by simpa using ht
          by_cases k2 : d.op = 2
          · rw [if_pos k2, z]
            cases hx : nameB d.nm
            · exact fc3a _ _ _ _ _ _ _ _ _ _ _ hFC bN (by rw [k2]; rfl) hx
            · cases hy : nameB d.tb
              · exact fc3c _ _ _ _ _ _ _ _ _ _ _ hFC bN (by rw [k2]; rfl) hx hy t1 t2
              · rw [hVZ]
                simp only [Bool.true_and, Bool.or_true]
                exact fc3d _ _ _ _ _ _ _ _ _ _ _ hFC bN (by rw [k2]; rfl) hx hy t1 t2
          · rw [if_neg k2]
            by_cases k1 : d.op = 1
            · rw [if_pos k1, z]
              simp only [Bool.false_and]
              exact fc4c _ _ _ _ _ _ _ _ _ _ _ hFC bN (by rw [k1]; rfl) (by rw [k1]; rfl) t1 t2
            · rw [if_neg k1]
              by_cases k16 : d.op = 16
              · have hn2 : n = 2 := by
                  rw [k16] at hN
                  unfold opN at hN
                  simp at hN
                  omega
                obtain ⟨x, hx⟩ := at_lt (i := 1) h1 (by omega)
                obtain ⟨b, off, A', n', c', rfl, hQ⟩ := h4.get hx
                obtain ⟨dx, kx⟩ := x
                rw [get1 d hx]
                have hE := elt_parts hQ
                have b2 : (d.op == 2) = false := by rw [k16]; rfl
                have b1 : (d.op == 1) = false := by rw [k16]; rfl
                have b16 : (d.op == 16) = true := by rw [k16]; rfl
                by_cases o1 : dx.op = 1
                · by_cases o2 : dx.vk = 2
                  · rw [if_neg (by rintro ⟨_, h | h⟩; exact h o1; exact h o2), z]
                    simp only [Bool.false_and]
                    exact fc5c _ _ _ _ _ _ _ _ _ _ b off _ _ _ _ _ _ _ _ _ _ hE hFC bN b2 b1 b16 (by omega) (by rw [o1]; rfl) (by rw [o2]; rfl) t1 t2
                  · rw [if_pos ⟨k16, .inr o2⟩]
                    exact fc5b _ _ _ _ _ _ _ _ _ _ b off _ _ _ _ _ _ _ _ _ _ hE hFC bN b2 b1 b16 (by omega) (by rw [o1]; rfl) (by simpa using o2)
                · rw [if_pos ⟨k16, .inl o1⟩]
                  exact fc5a _ _ _ _ _ _ _ _ _ _ b off _ _ _ _ _ _ _ _ _ _ hE hFC bN b2 b1 b16 (by omega) (by simpa using o1)
              · rw [if_neg (fun h => k16 h.1), z]
                simp only [Bool.false_and]
                exact fc6a _ _ _ _ _ _ _ _ _ _ _ hFC bN (by simpa using k2) (by simpa using k1) (by simpa using k16) t1 t2
      · simp only [Bool.not_true, Bool.false_and]
        exact fc2 _ _ _ _ _ _ _ _ _ _ _ hFC bN
    · have bN : (opN d.op != (n : Int)) = true := by simpa using hN
      have bN2 : (opN d.op == (n : Int)) = false := by simpa using hN
      rw [bN2]
      simp only [Bool.false_and]
      exact fc1 _ _ _ _ _ _ _ _ _ _ _ B hFC bN
end Go.Proofs.YtcdnodjcnofogaaGreatDoor
