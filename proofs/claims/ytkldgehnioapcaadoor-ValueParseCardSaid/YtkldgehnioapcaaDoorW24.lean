/-
  The law of Parse.
-/
import Derived.Test.YtkldgehnioapcaaDoorW23
import Derived.Test.YtkldgehnioapcaaDoorW7
namespace Go.Proofs.YtkldgehnioapcaaDoor
open Go.RowKit
set_option linter.unusedVariables false
set_option maxHeartbeats 2000000
set_option maxRecDepth 100000

theorem prs_cases (s : ByteArray) : (prs s = (pc s, 0) ∧ fmtV (pc s) = s) ∨ prs s = (⟨0, 0, ⟨#[]⟩⟩, 2) := by
  unfold prs
  by_cases h : fmtV (pc s) = s
  · rw [if_pos h]; exact .inl ⟨rfl, h⟩
  · rw [if_neg h]; exact .inr rfl

theorem law_parse (s : ByteArray) (w : World) (hs : s.size ≤ maxLen) (hw : Sh w) (ht : Tab w) (he : Er w) :
    Calls Tryd.prog 10 #[.string s] w fun e w' => e = .returned (.bool true) ∧ Ext w w' := by
  have HW := hid hw
  have HT := hid ht
  have HE := hid he
  clear hw ht he
  unfold maxLen at hs
  by_cases hg : s.size ≤ 100
  · rcases prs_cases s with ⟨hp, hf⟩ | hp
    · have HF := hid hf
      have HP := hid hp
      have NB := hid (pc_bd s)
      have TS : Hid ((pc s).t.size ≤ 1000) := Nat.le_trans (pc_size s) (by omega)
      have bq : ((fmtV (pc s)).toList == s.toList) = true := by rw [hf]; exact beq_self_eq_true _
      clear hf hp
      go_enter Tryd.func10, Tryd.ntmps10
      go_wp2_with fail
      refine (awake_any _ HW.out).mono ?_
      rintro e w1 ⟨rfl, hx1⟩
      have HX1 := hid hx1
      clear hx1
      go_wp2_with fail
      refine (parse_any s _ hg (HW.out.ext HX1.out) (HT.out.ext HX1.out) (HE.out.ext HX1.out)).mono ?_
      rintro e w2 ⟨rfl, hx2⟩
      have HX2 := hid (HX1.out.trans hx2)
      clear hx2
      rw [HP.out]
      go_wp2_with fail
      refine (read_any s _ hg).mono ?_
      rintro e w3 ⟨rfl, hx3⟩
      obtain ⟨d0, d1, d2⟩ := box3 (hx3.alloc (.cells #[.int .i64 (pc s).k, .int .i64 (pc s).n, .string (pc s).t] 23))
      have HBX := hid (hx3.alloc (.cells #[.int .i64 (pc s).k, .int .i64 (pc s).n, .string (pc s).t] 23))
      have HX3 : Hid (Ext w (w3.alloc (.cells #[.int .i64 (pc s).k, .int .i64 (pc s).n, .string (pc s).t] 23))) := ((HX2.out.alloc _).trans hx3).alloc _
      clear hx3
      rw [HP.out]
      have b0 : (((pc s, (0 : Int)).2 == 0)) = true := rfl
      rw [b0]
      go_wp2_with fail
      refine (format_any (pc s).k (pc s).n (pc s).t _ TS.out (HW.out.ext HX3.out) (.inr ⟨HT.out.ext HX3.out, NB.out⟩)).mono ?_
      rintro e w4 ⟨rfl, hx4⟩
      have HX4 := hid (HX3.out.trans hx4)
      clear hx4
      go_wp2_with fail
      go_ret
      exact ⟨rfl, HX4.out⟩
    · have HP := hid hp
      clear hp
      go_enter Tryd.func10, Tryd.ntmps10
      go_wp2_with fail
      refine (awake_any _ HW.out).mono ?_
      rintro e w1 ⟨rfl, hx1⟩
      have HX1 := hid hx1
      clear hx1
      go_wp2_with fail
      refine (parse_any s _ hg (HW.out.ext HX1.out) (HT.out.ext HX1.out) (HE.out.ext HX1.out)).mono ?_
      rintro e w2 ⟨rfl, hx2⟩
      have HX2 := hid (HX1.out.trans hx2)
      clear hx2
      rw [HP.out]
      go_wp2_with fail
      refine (read_any s _ hg).mono ?_
      rintro e w3 ⟨rfl, hx3⟩
      obtain ⟨d0, d1, d2⟩ := box3 (hx3.alloc (.cells #[.int .i64 0, .int .i64 0, .string ⟨#[]⟩] 23))
      have HX3 : Hid (Ext w (w3.alloc (.cells #[.int .i64 0, .int .i64 0, .string ⟨#[]⟩] 23))) := ((HX2.out.alloc _).trans hx3).alloc _
      clear hx3
      rw [HP.out]
      have b0 : ((((⟨0, 0, ⟨#[]⟩⟩ : Val), (2 : Int)).2 == 0)) = false := rfl
      rw [b0]
      go_wp2_with fail
      go_ret
      exact ⟨rfl, HX3.out⟩
  · go_enter Tryd.func10, Tryd.ntmps10
    go_wp2_with fail
    refine (awake_any _ HW.out).mono ?_
    rintro e w1 ⟨rfl, hx1⟩
    have HX1 := hid hx1
    clear hx1
    go_wp2_with fail
    refine (awake_any _ (HW.out.ext HX1.out)).mono ?_
    rintro e w2 ⟨rfl, hx2⟩
    go_wp2_with fail
    go_ret
    exact ⟨rfl, HX1.out.trans hx2⟩

end Go.Proofs.YtkldgehnioapcaaDoor
