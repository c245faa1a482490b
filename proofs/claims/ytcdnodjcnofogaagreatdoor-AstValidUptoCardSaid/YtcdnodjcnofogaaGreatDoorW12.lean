/-
  Formed returns whether an expression is well-formed.
-/
import Derived.Test.YtcdnodjcnofogaaGreatDoorW11
namespace Go.Proofs.YtcdnodjcnofogaaGreatDoor
open Go.RowKit
set_option linter.unusedVariables false
set_option maxHeartbeats 1000000

theorem rformed_any : ∀ (e : Ex) (A : Option Addr) (n c : Nat) (w : World), ExV w e A n c →
    Calls Tryz.prog 48 #[e.d.val A n c] w fun r w' => r = .returned (.bool e.formed) ∧ Ext w w' := by
  intro e
  induction e using Ex.ind with
  | h d ks ih =>
    intro A n c w hv
    obtain ⟨h1, h2, h3, h4⟩ := hv
    have h1 : ks.length = n := h1
    have h4 : KidsAt w A ks := h4
    have h3 : d.fit := h3
    have hF := formed_eq d ks
    rw [h1] at hF
    have hRC : RC ks d.tb d.nm d.vt A n c w := ⟨h3.tb, h3.nm, h3.vt, h1, h2, h4, fun x hx A' n' c' W hxv => ih x hx A' n' c' W hxv⟩
    have hND : ndB d (ks.map Ex.d) = if d.op = 2 then nameB d.nm && (d.tb.size == 0 || nameB d.tb) && d.valZ
      else if d.op = 1 then d.tb.size == 0 && d.nm.size == 0 && d.litB
      else if d.op = 16 ∧ (((ks.map Ex.d).getD 1 d).op ≠ 1 ∨ ((ks.map Ex.d).getD 1 d).vk ≠ 2) then false
      else d.tb.size == 0 && d.nm.size == 0 && d.valZ := rfl
    have hVZ : d.valZ = (d.vk == 0 && d.vi == 0 && d.vt.size == 0) := rfl
    have hval : ∀ A, (Ex.mk d ks).d.val A n c = .agg #[.int .i64 d.op, .string d.tb, .string d.nm, .int .i64 d.ix, .int .i64 d.vk, .int .i64 d.vi, .string d.vt, .slice A n c] := fun _ => rfl
    rw [hval, hF]
    by_cases hN : opN d.op = (n : Int)
    · have bN : (opN d.op != (n : Int)) = false := by rw [hN]; simp
      have bN2 : (opN d.op == (n : Int)) = true := by rw [hN]; simp
      rw [bN2, Bool.true_and]
      cases hB : ks.any fun x => !x.formed
      · simp only [Bool.not_false, Bool.true_and]
        rw [hND]
        by_cases k2 : d.op = 2
        · rw [if_pos k2]
          have b2 : (d.op == 2) = true := by rw [k2]; rfl
          cases hx : nameB d.nm
          · exact rc3a _ _ _ _ _ _ _ _ _ _ _ _ hRC hB bN b2 hx
          · by_cases ht : d.tb.size = 0
            · rw [ht, hVZ]
              simp only [beq_self_eq_true, Bool.true_and, Bool.true_or]
              rw [empty_yes ht] at hRC ⊢
              exact rc3b _ _ _ _ _ _ _ _ _ _ _ hRC hB bN b2 hx
            · have z : (d.tb.size == 0) = false := by simpa using ht
              rw [z]
              cases hy : nameB d.tb
              · exact rc3c _ _ _ _ _ _ _ _ _ _ _ _ hRC hB bN b2 hx hy (empty_no ht) (empty_no2 ht)
              · rw [hVZ]
                simp only [Bool.true_and, Bool.or_true]
                exact rc3d _ _ _ _ _ _ _ _ _ _ _ _ hRC hB bN b2 hx hy (empty_no ht) (empty_no2 ht)
        · rw [if_neg k2]
          have b2 : (d.op == 2) = false := by simpa using k2
          by_cases ht : d.tb.size = 0
          · have e1 := empty_yes ht
            by_cases hn : d.nm.size = 0
            · have e2 := empty_yes hn
              by_cases k1 : d.op = 1
              · rw [if_pos k1, ht, hn]
                simp only [beq_self_eq_true, Bool.true_and]
                rw [e1, e2] at hRC ⊢
                exact rc5 _ _ _ _ _ _ _ _ _ _ d rfl rfl rfl hRC hB bN b2 (by rw [k1]; rfl)
              · rw [if_neg k1]
                have b1 : (d.op == 1) = false := by simpa using k1
                rw [ht, hn, hVZ]
                simp only [beq_self_eq_true, Bool.true_and]
                by_cases k16 : d.op = 16
                · have hn2 : n = 2 := by
                    rw [k16] at hN
                    unfold opN at hN
                    simp at hN
                    omega
                  obtain ⟨x, hx⟩ := at_lt (i := 1) h1 (by omega)
                  obtain ⟨b, off, A', n', c', rfl, hQ⟩ := h4.get hx
                  obtain ⟨dx, kx⟩ := x
                  rw [get1 d hx]
                  have b16 : (d.op == 16) = true := by rw [k16]; rfl
                  rw [e1, e2] at hRC ⊢
                  by_cases o1 : dx.op = 1
                  · by_cases o2 : dx.vk = 2
                    · rw [if_neg (by rintro ⟨_, h | h⟩; exact h o1; exact h o2)]
                      exact rc6c _ _ _ _ _ _ _ _ _ b off dx.op dx.vk ⟨hQ.c0, hQ.c4⟩ hRC hB bN b2 b1 b16 (by omega) (by rw [o1]; rfl) (by rw [o2]; rfl)
                    · rw [if_pos ⟨k16, .inr o2⟩]
                      exact rc6b _ _ _ _ _ _ _ _ _ b off dx.op dx.vk ⟨hQ.c0, hQ.c4⟩ hRC hB bN b2 b1 b16 (by omega) (by rw [o1]; rfl) (by simpa using o2)
                  · rw [if_pos ⟨k16, .inl o1⟩]
                    exact rc6a _ _ _ _ _ _ _ _ _ b off dx.op dx.vk ⟨hQ.c0, hQ.c4⟩ hRC hB bN b2 b1 b16 (by omega) (by simpa using o1)
                · rw [if_neg (fun h => k16 h.1)]
                  rw [e1, e2] at hRC ⊢
                  exact rc7 _ _ _ _ _ _ _ _ _ _ hRC hB bN b2 b1 (by simpa using k16)
            · have z : (d.nm.size == 0) = false := by simpa using hn
              have hR : (if d.op = 1 then d.tb.size == 0 && d.nm.size == 0 && d.litB else if d.op = 16 ∧ (((ks.map Ex.d).getD 1 d).op ≠ 1 ∨ ((ks.map Ex.d).getD 1 d).vk ≠ 2) then false else d.tb.size == 0 && d.nm.size == 0 && d.valZ) = false := by
                rw [z]
                simp
              rw [hR]
              rw [e1] at hRC ⊢
              exact rc4b _ _ _ _ _ _ _ _ _ _ _ hRC hB bN b2 (empty_no hn) (empty_no2 hn)
          · have z : (d.tb.size == 0) = false := by simpa using ht
            have hR : (if d.op = 1 then d.tb.size == 0 && d.nm.size == 0 && d.litB else if d.op = 16 ∧ (((ks.map Ex.d).getD 1 d).op ≠ 1 ∨ ((ks.map Ex.d).getD 1 d).vk ≠ 2) then false else d.tb.size == 0 && d.nm.size == 0 && d.valZ) = false := by
              rw [z]
              simp
            rw [hR]
            exact rc4a _ _ _ _ _ _ _ _ _ _ _ _ hRC hB bN b2 (empty_no ht) (empty_no2 ht)
      · simp only [Bool.not_true, Bool.false_and]
        exact rc2 _ _ _ _ _ _ _ _ _ _ _ _ hRC hB bN
    · have bN : (opN d.op != (n : Int)) = true := by simpa using hN
      have bN2 : (opN d.op == (n : Int)) = false := by simpa using hN
      rw [bN2]
      simp only [Bool.false_and]
      exact rc1 _ _ _ _ _ _ _ _ _ _ _ _ hRC bN
end Go.Proofs.YtcdnodjcnofogaaGreatDoor
