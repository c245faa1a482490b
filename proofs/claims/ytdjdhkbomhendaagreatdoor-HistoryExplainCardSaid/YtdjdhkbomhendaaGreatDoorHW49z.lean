/-
  Walks over history: the laws (Format, Parse, RoundTrip, Reformat, Equal).
-/
import Derived.Test.YtdjdhkbomhendaaGreatDoorHW47z
import Derived.Test.YtdjdhkbomhendaaGreatDoorHW48z
import Derived.Test.YtdjdhkbomhendaaGreatDoorGu
import Derived.Test.YtdjdhkbomhendaaGreatDoorGv
import Derived.Test.YtdjdhkbomhendaaGreatDoorHW32z
namespace Go.Proofs.YtdjdhkbomhendaaGreatDoor
open Go.RowKit
set_option linter.unusedVariables false
set_option linter.unusedSimpArgs false
set_option maxHeartbeats 4000000
set_option maxRecDepth 100000

/-- the library's variables -/
def GdH (w : World) : Prop := Sh w ∧ Tab w ∧ Er w
theorem GdH.ext {w w' : World} (h : GdH w) (hx : Ext w w') : GdH w' := ⟨h.1.ext hx, h.2.1.ext hx, h.2.2.ext hx⟩
/-- an argument of events -/
def EvArg (w : World) (A : Option Addr) (n : Nat) (l : List Ev) : Prop := EvsAt w A l ∧ l.length = n ∧ n ≤ 9223372036854775807 ∧ (∀ e ∈ l, Ev.fit e) ∧ ∀ e ∈ l, Ev.bnd e
theorem str_refl (s : ByteArray) : (s.toList == s.toList) = true := beq_self_eq_true _
theorem law_format (A : Option Addr) (n c : Nat) (l : List Ev) (w : World) (ha : EvArg w A n l) (hg : GdH w) :
    Calls Tryz.prog 3 #[.slice A n c] w fun r w' => r = .returned (.bool true) ∧ Ext w w' := by
  have HA := hid (fun W (hW : Ext w W) => awake_any W (hg.1.ext hW) (hg.2.1.ext hW) (hg.2.2.ext hW))
  have HFw := hid (fun W (hW : Ext w W) => Few_any A l n c W (ha.1.ext hW) ha.2.1 ha.2.2.1 ha.2.2.2.1)
  have HArg := hid ha
  have HGd := hid hg
  clear ha hg
  obtain ⟨fw, hfw⟩ : ∃ b, fewH l = b := ⟨_, rfl⟩
  have HFb := hid hfw
  rw [hfw] at HFw
  clear hfw
  go_enter Tryz.func3, Tryz.ntmps3
  go_upto_region 1 with fail
  go_cut [13] from 7 to 13 (fun cv wx => cv = .bool (!fw) ∧ Ext w wx)
  case first =>
    go_wp2_with (first | (go_at_call 11; (with_reducible refine (HA.out _ (Ext.refl w)).mono ?_); rintro _ w2 ⟨rfl, hw2⟩) | (go_at_call 12; (with_reducible refine (HFw.out _ hw2).mono ?_); rintro _ w3 ⟨rfl, hw3⟩))
    go_meet
    exact ⟨rfl, hw2.trans hw3⟩
  case rest =>
    obtain ⟨rfl, hxN⟩ := hcut
    generalize wc = w1 at *
    have HX := hid hxN
    clear hxN HFw
    cases fw
    · go_wp2_with (go_at_call 11; (with_reducible refine (HA.out _ HX.out).mono ?_); rintro _ w2 ⟨rfl, hw2⟩)
      go_ret
      exact ⟨rfl, HX.out.trans hw2⟩
    · have hfw := HFb.out
      have ha := HArg.out
      have hsm := few_sm hfw ha.2.2.2.2
      have hl4 := (few_parts hfw).1
      have HF := hid (fun W (hW : Ext w W) => Format_any A l n c W (ha.1.ext hW) ha.2.1 (by have := ha.2.1; omega) hsm (HGd.out.1.ext hW) (HGd.out.2.1.ext hW))
      have HT := hid (fun W (hW : Ext w W) => Text_any A l n c W (ha.1.ext hW) ha.2.1 (by have := ha.2.1; omega) hsm (HGd.out.2.1.ext hW))
      clear hfw ha hsm hl4
      generalize (fmtH l).1 = T at *
      generalize (fmtH l).2 = E at *
      have hq := str_refl T
      go_wp2_with (first | (go_at_call 13; (with_reducible refine (HF.out _ HX.out).mono ?_); rintro _ w2 ⟨rfl, hx2⟩) | (go_at_call 14; (with_reducible refine (HT.out _ (HX.out.trans hx2)).mono ?_); rintro _ w3 ⟨rfl, hx3⟩))
      go_ret
      exact ⟨by simp, HX.out.trans (hx2.trans hx3)⟩
/-- what was parsed, either way -/
theorem prs_sm (s : ByteArray) (hs : s.size ≤ 2000) : (prsH s).1.length ≤ 2000 ∧ (∀ e ∈ (prsH s).1, e.sm) ∧ (∀ e ∈ (prsH s).1, e.fit) := by
  rcases prsH_back s with ⟨l, h, h1, h2, h3⟩ | ⟨k, h, _⟩
  · obtain ⟨c1, c2, _⟩ := back_sm (n := 2000) (by omega) h1 h2 (by rw [h3]; exact hs)
    rw [h]
    exact ⟨c1, c2, fun e he => smE_fit (c2 e he)⟩
  · rw [h]
    exact ⟨Nat.zero_le _, fun e he => by simp at he, fun e he => by simp at he⟩
theorem eqH_refl (l : List Ev) : eqH l l = true := eqH_iff.2 rfl
theorem law_parse (s : ByteArray) (w : World)  (hg : GdH w) :
    Calls Tryz.prog 4 #[.string s] w fun r w' => r = .returned (.bool true) ∧ Ext w w' := by
  have HA := hid (fun W (hW : Ext w W) => awake_any W (hg.1.ext hW) (hg.2.1.ext hW) (hg.2.2.ext hW))
  have HGd := hid hg
  clear hg
  go_enter Tryz.func4, Tryz.ntmps4
  go_upto_region 1 with fail
  by_cases hbig : s.size ≤ 2000
  · have b1 : decide ((2000 : Int) < (s.size : Int)) = false := decide_eq_false (by omega)
    have b2 : ¬ (2000 : Int) < (s.size : Int) := by omega
    go_cut [15] from 9 to 15 (fun cv wx => cv = .bool false ∧ Ext w wx)
    case first =>
      go_wp2_with (go_at_call 11; (with_reducible refine (HA.out _ (Ext.refl w)).mono ?_); rintro _ w2 ⟨rfl, hw2⟩)
      go_meet
      exact ⟨rfl, hw2⟩
    case rest =>
      obtain ⟨rfl, hxN⟩ := hcut
      generalize wc = w1 at *
      have HX := hid hxN
      clear hxN b1 b2
      obtain ⟨p1, p2, p3⟩ := prs_sm s hbig
      have HP := hid (fun W (hW : Ext w W) => Parse_any s W (by omega) (HGd.out.1.ext hW) (HGd.out.2.1.ext hW) (HGd.out.2.2.ext hW))
      have HQ := hid (fun W (hW : Ext w W) => rParse_any s W (by omega) (HGd.out.2.1.ext hW))
      have HS := hid (fun W A B n p c c' (h1 : (prsH s).1.length = n) (h2 : (prsH s).1.length = p) (k1 : EvsAt W A (prsH s).1) (k2 : EvsAt W B (prsH s).1) => Same_any (prsH s).1 (prsH s).1 A B n p c c' W h1 h2 (by omega) (by omega) k1 k2 p3 p3)
      rw [eqH_refl] at HS
      clear hbig p1 p2 p3
      unfold PrsR at HP HQ
      obtain ⟨m, hm⟩ : ∃ m, (prsH s).1.length = m := ⟨_, rfl⟩
      rw [hm] at HP HQ
      have HM := hid hm
      clear hm
      generalize (prsH s).1 = l at *
      generalize (prsH s).2.1 = k at *
      generalize (prsH s).2.2 = e at *
      go_wp2_with (first
        | (go_at_call 17; (with_reducible refine (HS.out _ _ _ _ _ _ _ HM.out HM.out (hk2.ext hx3) hk3).mono ?_); rintro _ w4 ⟨rfl, hx4⟩)
        | (go_at_call 16; (with_reducible refine (HQ.out _ (HX.out.trans hx2)).mono ?_); rintro _ w3 ⟨⟨A3, c3, rfl, hk3⟩, hx3⟩)
        | (go_at_call 15; (with_reducible refine (HP.out _ HX.out).mono ?_); rintro _ w2 ⟨⟨A2, c2, rfl, hk2⟩, hx2⟩))
      go_ret
      exact ⟨by simp, HX.out.trans ((hx2.trans hx3).trans hx4)⟩
  · have b1 : decide ((2000 : Int) < (s.size : Int)) = true := decide_eq_true (by omega)
    have b2 : (2000 : Int) < (s.size : Int) := by omega
    go_wp2_with (first | (go_at_call 11; (with_reducible refine (HA.out _ hw2).mono ?_); rintro _ w3 ⟨rfl, hw3⟩) | (go_at_call 11; (with_reducible refine (HA.out _ (Ext.refl w)).mono ?_); rintro _ w2 ⟨rfl, hw2⟩))
    go_ret
    exact ⟨rfl, hw2.trans hw3⟩
theorem law_trip (A : Option Addr) (n c : Nat) (l : List Ev) (w : World) (ha : EvArg w A n l) (hg : GdH w) :
    Calls Tryz.prog 5 #[.slice A n c] w fun r w' => r = .returned (.bool true) ∧ Ext w w' := by
  have HA := hid (fun W (hW : Ext w W) => awake_any W (hg.1.ext hW) (hg.2.1.ext hW) (hg.2.2.ext hW))
  have HFw := hid (fun W (hW : Ext w W) => Few_any A l n c W (ha.1.ext hW) ha.2.1 ha.2.2.1 ha.2.2.2.1)
  have HArg := hid ha
  have HGd := hid hg
  clear ha hg
  obtain ⟨fw, hfw⟩ : ∃ b, fewH l = b := ⟨_, rfl⟩
  have HFb := hid hfw
  rw [hfw] at HFw
  clear hfw
  go_enter Tryz.func5, Tryz.ntmps5
  go_upto_region 1 with fail
  go_cut [14] from 8 to 14 (fun cv wx => cv = .bool (!fw) ∧ Ext w wx)
  case first =>
    go_wp2_with (first | (go_at_call 11; (with_reducible refine (HA.out _ (Ext.refl w)).mono ?_); rintro _ w2 ⟨rfl, hw2⟩) | (go_at_call 12; (with_reducible refine (HFw.out _ hw2).mono ?_); rintro _ w3 ⟨rfl, hw3⟩))
    go_meet
    exact ⟨rfl, hw2.trans hw3⟩
  case rest =>
    obtain ⟨rfl, hxN⟩ := hcut
    generalize wc = w1 at *
    have HX := hid hxN
    clear hxN HFw
    cases fw
    · go_wp2_with (go_at_call 11; (with_reducible refine (HA.out _ HX.out).mono ?_); rintro _ w2 ⟨rfl, hw2⟩)
      go_ret
      exact ⟨rfl, HX.out.trans hw2⟩
    · have hfw := HFb.out
      have ha := HArg.out
      have hsm := few_sm hfw ha.2.2.2.2
      have hl4 := (few_parts hfw).1
      have HF := hid (fun W (hW : Ext w W) => Format_any A l n c W (ha.1.ext hW) ha.2.1 (by have := ha.2.1; omega) hsm (HGd.out.1.ext hW) (HGd.out.2.1.ext hW))
      cases hok : okH l
      · have hf : fmtH l = (⟨#[]⟩, 1) := by unfold fmtH; rw [hok]; rfl
        rw [hf] at HF
        clear hfw ha hsm hl4 hf hok
        go_wp2_with (go_at_call 13; (with_reducible refine (HF.out _ HX.out).mono ?_); rintro _ w2 ⟨rfl, hx2⟩)
        go_ret
        exact ⟨rfl, HX.out.trans hx2⟩
      · have hf : fmtH l = (textH l, 0) := by unfold fmtH; rw [hok]; rfl
        have hz := few_text hfw ha.2.2.2.2
        have hp : prsH (textH l) = (l, 0, 0) := prsH_text hok fun e he => bnd_bd (ha.2.2.2.2 e he)
        rw [hf] at HF
        have HP := hid (fun W (hW : Ext w W) => Parse_any (textH l) W hz (HGd.out.1.ext hW) (HGd.out.2.1.ext hW) (HGd.out.2.2.ext hW))
        have hm := ha.2.1
        unfold PrsR at HP
        rw [hp] at HP
        rw [hm] at HP
        have HS := hid (fun W B p c' (h1 : Ext w W) (h2 : l.length = p) (k2 : EvsAt W B l) => Same_any l l A B n p c c' W hm h2 (by omega) (by omega) (ha.1.ext h1) k2 ha.2.2.2.1 ha.2.2.2.1)
        have HE := hid (fun W B p c' (h1 : Ext w W) (h2 : l.length = p) (k2 : EvsAt W B l) => hequal_any l l A B n p c c' W hm h2 (by omega) (by omega) (ha.1.ext h1) k2 ha.2.2.2.1 ha.2.2.2.1)
        rw [eqH_refl] at HS HE
        have HM := hid hm
        clear hfw ha hsm hl4 hf hok hz hp hm
        generalize textH l = T at *
        go_wp2_with (first
          | (go_at_call 18; (with_reducible refine (HE.out _ _ _ _ (HX.out.trans ((hx2.trans hx3).trans hx4)) HM.out (hk3.ext hx4)).mono ?_); rintro _ w5 ⟨rfl, hx5⟩)
          | (go_at_call 17; (with_reducible refine (HS.out _ _ _ _ (HX.out.trans (hx2.trans hx3)) HM.out hk3).mono ?_); rintro _ w4 ⟨rfl, hx4⟩)
          | (go_at_call 15; (with_reducible refine (HP.out _ (HX.out.trans hx2)).mono ?_); rintro _ w3 ⟨⟨A3, c3, rfl, hk3⟩, hx3⟩)
          | (go_at_call 13; (with_reducible refine (HF.out _ HX.out).mono ?_); rintro _ w2 ⟨rfl, hx2⟩))
        go_ret
        exact ⟨rfl, HX.out.trans (((hx2.trans hx3).trans hx4).trans hx5)⟩
theorem law_reformat (s : ByteArray) (w : World)  (hg : GdH w) :
    Calls Tryz.prog 6 #[.string s] w fun r w' => r = .returned (.bool true) ∧ Ext w w' := by
  have HA := hid (fun W (hW : Ext w W) => awake_any W (hg.1.ext hW) (hg.2.1.ext hW) (hg.2.2.ext hW))
  have HGd := hid hg
  clear hg
  go_enter Tryz.func6, Tryz.ntmps6
  go_upto_region 1 with fail
  by_cases hbig : s.size ≤ 2000
  · have b1 : decide ((2000 : Int) < (s.size : Int)) = false := decide_eq_false (by omega)
    have b2 : ¬ (2000 : Int) < (s.size : Int) := by omega
    go_cut [14] from 8 to 14 (fun cv wx => cv = .bool false ∧ Ext w wx)
    case first =>
      go_wp2_with (go_at_call 11; (with_reducible refine (HA.out _ (Ext.refl w)).mono ?_); rintro _ w2 ⟨rfl, hw2⟩)
      go_meet
      exact ⟨rfl, hw2⟩
    case rest =>
      obtain ⟨rfl, hxN⟩ := hcut
      generalize wc = w1 at *
      have HX := hid hxN
      clear hxN b1 b2
      have HP := hid (fun W (hW : Ext w W) => Parse_any s W (by omega) (HGd.out.1.ext hW) (HGd.out.2.1.ext hW) (HGd.out.2.2.ext hW))
      unfold PrsR at HP
      rcases prsH_back s with ⟨l, h, h1, h2, h3⟩ | ⟨k, h, hk⟩
      · obtain ⟨c1, c2, c3⟩ := back_sm (n := 2000) (by omega) h1 h2 (by rw [h3]; exact hbig)
        have hf : fmtH l = (s, 0) := by unfold fmtH; rw [if_pos h1, h3]
        rw [h] at HP
        obtain ⟨m, hm⟩ : ∃ m, l.length = m := ⟨_, rfl⟩
        have HF := hid (fun W A c (hW : Ext w W) (h : EvsAt W A l) => Format_any A l m c W h hm (by omega) c2 (HGd.out.1.ext hW) (HGd.out.2.1.ext hW))
        rw [hf] at HF
        rw [hm] at HP
        clear h h1 h2 h3 hf hm c1 c2 c3 hbig
        have hq := str_refl s
        go_wp2_with (first
          | (go_at_call 13; (with_reducible refine (HF.out _ _ _ (HX.out.trans hx2) hk2).mono ?_); rintro _ w3 ⟨rfl, hx3⟩)
          | (go_at_call 15; (with_reducible refine (HP.out _ HX.out).mono ?_); rintro _ w2 ⟨⟨A2, c2, rfl, hk2⟩, hx2⟩))
        go_ret
        exact ⟨rfl, HX.out.trans (hx2.trans hx3)⟩
      · rw [h] at HP
        have hk1 : decide ((1 : Int) ≤ k) = true := decide_eq_true hk
        clear h hbig
        go_wp2_with (go_at_call 15; (with_reducible refine (HP.out _ HX.out).mono ?_); rintro _ w2 ⟨⟨A2, c2, rfl, hk2⟩, hx2⟩)
        go_ret
        exact ⟨by simp [hk], HX.out.trans hx2⟩
  · have b1 : decide ((2000 : Int) < (s.size : Int)) = true := decide_eq_true (by omega)
    have b2 : (2000 : Int) < (s.size : Int) := by omega
    go_wp2_with (first | (go_at_call 11; (with_reducible refine (HA.out _ hw2).mono ?_); rintro _ w3 ⟨rfl, hw3⟩) | (go_at_call 11; (with_reducible refine (HA.out _ (Ext.refl w)).mono ?_); rintro _ w2 ⟨rfl, hw2⟩))
    go_ret
    exact ⟨rfl, hw2.trans hw3⟩
end Go.Proofs.YtdjdhkbomhendaaGreatDoor
