/-
  Walks over the laws of the lexer: LexerNames.
-/
import Derived.Test.YtmnjfhjhbjhmhaaDoorW22
namespace Go.Proofs.YtmnjfhjhbjhmhaaDoor
open Go.RowKit
set_option linter.unusedVariables false
set_option maxHeartbeats 2000000
set_option maxRecDepth 100000

theorem law_names (s : ByteArray) (w : World) (hm : s.size ≤ maxLen) (hk : KwAt w) (hsh : Sh w) : Calls Tryd.prog 7 #[.string s] w fun e w' => e = .returned (.bool true) ∧ Ext w w' := by
  have HA := hid (fun W (h : Ext w W) => awake_any W (hk.ext h) (hsh.ext h))
  by_cases hs : s.size ≤ 200
  · have HI := hid (fun W (h : Ext w W) => isname_any s W (by omega) (hk.ext h))
    have HJ := hid (fun W => risname_any s W (by omega))
    have HK := hid (fun W (h : Ext w W) => keyword_any s W (by omega) (hk.ext h))
    have HL := hid (fun W => rkeyword_any s W (by omega))
    have hta : tokAll s = T s.data.toList 0 := if_neg (by omega)
    have hsame : ∀ b : Bool, (b != b) = false := fun b => by cases b <;> rfl
    cases hn : nameP s.data.toList
    · cases hkw : isKw s.data.toList
      · have HT := hid (fun W (h : Ext w W) => tokens_any s W (by omega) (hk.ext h))
        unfold TokRes at HT
        generalize tokAll s = R at *
        rw [hn] at HI HJ
        rw [hkw] at HK HL
        clear hn hkw hta
        go_enter Tryd.func7, Tryd.ntmps7
        go_wp2_with (first
          | (go_at_call 10; refine (HA.out _ (Ext.refl w)).mono ?_; rintro e' w1 ⟨rfl, hx1⟩)
          | (go_at_call 14; refine (HI.out _ hx1).mono ?_; rintro e' w2 ⟨rfl, hx2⟩)
          | (go_at_call 15; refine (HJ.out w6).mono ?_; rintro e' w7 ⟨rfl, hx7⟩)
          | (go_at_call 15; refine (HJ.out _).mono ?_; rintro e' w3 ⟨rfl, hx3⟩)
          | (go_at_call 16; refine (HK.out _ ((hx1.trans hx2).trans hx3)).mono ?_; rintro e' w4 ⟨rfl, hx4⟩)
          | (go_at_call 17; refine (HL.out w7).mono ?_; rintro e' w8 ⟨rfl, hx8⟩)
          | (go_at_call 17; refine (HL.out _).mono ?_; rintro e' w5 ⟨rfl, hx5⟩)
          | (go_at_call 11; refine (HT.out _ ((((hx1.trans hx2).trans hx3).trans hx4).trans hx5)).mono ?_; rintro e' w6 ⟨v, rfl, ⟨A, c, rfl, hat⟩, hx6⟩))
        go_ret
        exact ⟨rfl, (((((((hx1.trans hx2).trans hx3).trans hx4).trans hx5).trans hx6).trans hx7).trans hx8)⟩
      · have hR : tokAll s = .ok [⟨2, s.data.toList.map upC, 0⟩, ⟨0, [], s.data.toList.length⟩] := by rw [hta]; exact T_kw _ hkw
        have HT := hid (toks_ok (w := w) s _ 2 rfl hR (by omega) hk)
        have HM : Hid (∀ W, Ext w W → Calls Tryd.prog 16 #[.string ⟨(s.data.toList.map upC).toArray⟩] W fun e w' => e = .returned (.bool true) ∧ Ext W w') := by
          intro W hW
          have hsz : (⟨(s.data.toList.map upC).toArray⟩ : ByteArray).size = s.size := by
            show (s.data.toList.map upC).length = _
            rw [List.length_map]; rfl
          have := keyword_any ⟨(s.data.toList.map upC).toArray⟩ W (by omega) (hk.ext hW)
          have h2 : isKw (⟨(s.data.toList.map upC).toArray⟩ : ByteArray).data.toList = true := by
            show isKw (s.data.toList.map upC) = true
            rw [isKw_up, hkw]
          rw [h2] at this
          exact this
        rw [hn] at HI HJ
        rw [hkw] at HK HL
        clear hn hkw hta hR
        go_enter Tryd.func7, Tryd.ntmps7
        go_wp2_with (first
          | (go_at_call 10; refine (HA.out _ (Ext.refl w)).mono ?_; rintro e' w1 ⟨rfl, hx1⟩)
          | (go_at_call 14; refine (HI.out _ hx1).mono ?_; rintro e' w2 ⟨rfl, hx2⟩)
          | (go_at_call 15; refine (HJ.out w6).mono ?_; rintro e' w7 ⟨rfl, hx7⟩)
          | (go_at_call 15; refine (HJ.out _).mono ?_; rintro e' w3 ⟨rfl, hx3⟩)
          | (go_at_call 16; refine (HM.out w8 (((((((hx1.trans hx2).trans hx3).trans hx4).trans hx5).trans hx6).trans hx7).trans hx8)).mono ?_; rintro e' w9 ⟨rfl, hx9⟩)
          | (go_at_call 16; refine (HK.out _ ((hx1.trans hx2).trans hx3)).mono ?_; rintro e' w4 ⟨rfl, hx4⟩)
          | (go_at_call 17; refine (HL.out w7).mono ?_; rintro e' w8 ⟨rfl, hx8⟩; obtain ⟨b, off, rfl, c0, c1, c2⟩ := tk0 ((hat.ext hx7).ext hx8))
          | (go_at_call 17; refine (HL.out _).mono ?_; rintro e' w5 ⟨rfl, hx5⟩)
          | (go_at_call 11; refine (HT.out _ ((((hx1.trans hx2).trans hx3).trans hx4).trans hx5)).mono ?_; rintro e' w6 ⟨A, c, rfl, hat, hx6⟩))
        go_ret
        exact ⟨rfl, ((((((((hx1.trans hx2).trans hx3).trans hx4).trans hx5).trans hx6).trans hx7).trans hx8).trans hx9)⟩
    · have hR : tokAll s = .ok [⟨1, s.data.toList, 0⟩, ⟨0, [], s.data.toList.length⟩] := by rw [hta]; exact T_name _ hn
      have HT := hid (toks_ok (w := w) s _ 2 rfl hR (by omega) hk)
      rw [hn] at HI HJ
      generalize isKw s.data.toList = kb at *
      clear hn hta hR
      go_enter Tryd.func7, Tryd.ntmps7
      go_wp2_with (first
        | (go_at_call 10; refine (HA.out _ (Ext.refl w)).mono ?_; rintro e' w1 ⟨rfl, hx1⟩)
        | (go_at_call 14; refine (HI.out _ hx1).mono ?_; rintro e' w2 ⟨rfl, hx2⟩)
        | (go_at_call 15; refine (HJ.out w6).mono ?_; rintro e' w7 ⟨rfl, hx7⟩; obtain ⟨b, off, rfl, c0, c1, c2⟩ := tk0 (hat.ext hx7); simp only [self_list] at c1)
        | (go_at_call 15; refine (HJ.out _).mono ?_; rintro e' w3 ⟨rfl, hx3⟩)
        | (go_at_call 16; refine (HK.out _ ((hx1.trans hx2).trans hx3)).mono ?_; rintro e' w4 ⟨rfl, hx4⟩)
        | (go_at_call 17; refine (HL.out _).mono ?_; rintro e' w5 ⟨rfl, hx5⟩; have hkb := hsame kb)
        | (go_at_call 11; refine (HT.out _ ((((hx1.trans hx2).trans hx3).trans hx4).trans hx5)).mono ?_; rintro e' w6 ⟨A, c, rfl, hat, hx6⟩))
      go_ret
      exact ⟨ret_bool (by simp), ((((((hx1.trans hx2).trans hx3).trans hx4).trans hx5).trans hx6).trans hx7)⟩
  · go_enter Tryd.func7, Tryd.ntmps7
    go_wp2_with (first
      | (go_at_call 10; refine (HA.out _ (Ext.refl w)).mono ?_; rintro e' w1 ⟨rfl, hx1⟩)
      | (go_at_call 10; refine (HA.out _ hx1).mono ?_; rintro e' w2 ⟨rfl, hx2⟩))
    go_ret
    exact ⟨rfl, hx1.trans hx2⟩
end Go.Proofs.YtmnjfhjhbjhmhaaDoor
