/-
  Walks over the references of the pattern package: Match.
-/
import Derived.Test.YtbniemkllhhnfaaW3
import Derived.Test.YtbniemkllhhnfaaPure3
namespace Go.Proofs.Ytbniemkllhhnfaa
open Go.RowKit

theorem ibeq95 (a : Nat) : ((a : Int) == 95) = (a == 95) := ibeq a 95

set_option maxHeartbeats 1000000 in
theorem match_any (n : Nat) : ∀ (p t : ByteArray) (w : World), p.size + t.size ≤ n → p.size ≤ 1000000 → t.size ≤ 1000000 →
    Calls Try.prog 16 #[.string p, .string t] w fun e w' => e = .returned (.bool (mtc (N p) (N t))) ∧ Ext w w' := by
  induction n with
  | zero =>
    intro p t w hn hp ht
    have hp0 : N p = [] := N_nil p (by omega)
    have hp1 : p.toList.isEmpty = true := by rw [str_empty, hp0]; rfl
    clear hp0
    go_enter Try.func16, Try.ntmps16
    go_wp2_with fail
    go_ret
    exact ⟨ret_bool (by rw [N_nil p (by omega), str_empty]; rfl), Ext.refl _⟩
  | succ n ih =>
    intro p t w hn hp ht
    by_cases hp0 : p.size = 0
    · have hp0' : N p = [] := N_nil p (by omega)
      have hp1 : p.toList.isEmpty = true := by rw [str_empty, hp0']; rfl
      clear hp0'
      go_enter Try.func16, Try.ntmps16
      go_wp2_with fail
      go_ret
      exact ⟨ret_bool (by rw [N_nil p (by omega), str_empty]; rfl), Ext.refl _⟩
    have hps : 0 < p.size := by omega
    have hNp := hid (N_cons p hps)
    have hp1 : p.toList.isEmpty = false := by rw [str_empty, hNp.out]; rfl
    have hsz : (p.extract 1 p.size).size = p.size - 1 := by simp
    have hszt : (t.extract 1 t.size).size = t.size - 1 := by simp
    by_cases h37 : p[0].toNat = 37
    · have b37 : ((p[0].toNat : Int) == 37) = true := by simp [h37]
      by_cases ht0 : t.size = 0
      · have ht1 : t.toList.isEmpty = true := by rw [str_empty, N_nil t ht0]; rfl
        have HF : Hid (mtc (N p) (N t) = mtc (N (p.extract 1 p.size)) (N t)) := by rw [hNp.out, N_nil t ht0, mtc_pct_nil _ _ h37]; exact rfl
        clear h37
        cases hm : mtc (N (p.extract 1 p.size)) (N t)
        all_goals
          go_enter Try.func16, Try.ntmps16
          go_wp2_with (go_at_call 16; refine (ih (p.extract 1 p.size) t _ (by omega) (by omega) (by omega)).mono ?_; rintro e w1 ⟨rfl, hx⟩)
          go_ret
          exact ⟨ret_bool (by rw [HF.out, hm]), hx⟩
      · have ht1 : t.toList.isEmpty = false := by rw [str_empty, N_cons t (by omega)]; rfl
        have HF : Hid (mtc (N p) (N t) = (mtc (N (p.extract 1 p.size)) (N t) || mtc (N p) (N (t.extract 1 t.size)))) := by
          have e := mtc_pct_cons p[0].toNat t[0].toNat (N (p.extract 1 p.size)) (N (t.extract 1 t.size)) h37
          rw [← hNp.out, ← N_cons t (by omega)] at e
          exact e
        clear h37
        cases hm : mtc (N (p.extract 1 p.size)) (N t)
        · go_enter Try.func16, Try.ntmps16
          go_wp2_with (first | (go_at_call_of 16 (Value.string (p.extract 1 p.size)); refine (ih (p.extract 1 p.size) t _ (by omega) (by omega) (by omega)).mono ?_; rintro e w1 ⟨rfl, hx⟩) | (go_at_call_of 16 (Value.string (t.extract 1 t.size)); refine (ih p (t.extract 1 t.size) _ (by omega) (by omega) (by omega)).mono ?_; rintro e w2 ⟨rfl, hx2⟩))
          go_ret
          exact ⟨ret_bool (by rw [HF.out, hm, Bool.false_or]), hx.trans hx2⟩
        · go_enter Try.func16, Try.ntmps16
          go_wp2_with (go_at_call_of 16 (Value.string (p.extract 1 p.size)); refine (ih (p.extract 1 p.size) t _ (by omega) (by omega) (by omega)).mono ?_; rintro e w1 ⟨rfl, hx⟩)
          go_ret
          exact ⟨ret_bool (by rw [HF.out, hm, Bool.true_or]), hx⟩
    · have b37 : ((p[0].toNat : Int) == 37) = false := by simp; omega
      by_cases ht0 : t.size = 0
      · have ht1 : t.toList.isEmpty = true := by rw [str_empty, N_nil t ht0]; rfl
        have HF : Hid (mtc (N p) (N t) = false) := by rw [hNp.out, N_nil t ht0, mtc_nil _ _ h37]; exact rfl
        clear h37
        go_enter Try.func16, Try.ntmps16
        go_wp2_with fail
        refine wp_region_later (by kernel_rfl) (by kernel_rfl) ?_
        repeat (go_big_quiet_step (fail))
        refine wpQuiet_nil ?_
        intro w' hw'
        have hx := later_out hw'
        clear hw'
        go_wp2_with fail
        go_ret
        exact ⟨ret_bool HF.out.symm, hx⟩
      · have ht1 : t.toList.isEmpty = false := by rw [str_empty, N_cons t (by omega)]; rfl
        have htp : 0 < t.size := by omega
        have e := mtc_cons p[0].toNat t[0].toNat (N (p.extract 1 p.size)) (N (t.extract 1 t.size)) h37
        rw [← hNp.out, ← N_cons t htp] at e
        have HF := hid e
        clear e h37
        cases hb95 : ((p[0].toNat : Int) == 95)
        · cases hbc : ((p[0].toNat : Int) == (t[0].toNat : Int))
          · go_enter Try.func16, Try.ntmps16
            go_wp2_with fail
            refine wp_region_later (by kernel_rfl) (by kernel_rfl) ?_
            repeat (go_big_quiet_step (fail))
            refine wpQuiet_nil ?_
            intro w' hw'
            have hx := later_out hw'
            clear hw'
            go_wp2_with fail
            go_ret
            exact ⟨ret_bool (by rw [HF.out, ← ibeq95, ← ibeq p[0].toNat, hb95, hbc]; rfl), hx⟩
          · go_enter Try.func16, Try.ntmps16
            go_wp2_with fail
            refine wp_region_later (by kernel_rfl) (by kernel_rfl) ?_
            repeat (go_big_quiet_step ((go_at_call 16; exact later_of (ih (p.extract 1 p.size) (t.extract 1 t.size) _ (by omega) (by omega) (by omega)))))
            refine wpQuiet_nil ?_
            intro w' hw'
            have hx := later_out hw'
            clear hw'
            go_wp2_with fail
            go_ret
            exact ⟨ret_bool (by rw [HF.out, ← ibeq95, ← ibeq p[0].toNat, hb95, hbc]; rfl), hx⟩
        · go_enter Try.func16, Try.ntmps16
          go_wp2_with fail
          refine wp_region_later (by kernel_rfl) (by kernel_rfl) ?_
          repeat (go_big_quiet_step ((go_at_call 16; exact later_of (ih (p.extract 1 p.size) (t.extract 1 t.size) _ (by omega) (by omega) (by omega)))))
          refine wpQuiet_nil ?_
          intro w' hw'
          have hx := later_out hw'
          clear hw'
          go_wp2_with fail
          go_ret
          exact ⟨ret_bool (by rw [HF.out, ← ibeq95, hb95]; rfl), hx⟩

end Go.Proofs.Ytbniemkllhhnfaa
