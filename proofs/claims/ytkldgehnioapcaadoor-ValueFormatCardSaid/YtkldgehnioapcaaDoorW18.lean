/-
  The law of Format.
-/
import Derived.Test.YtkldgehnioapcaaDoorW17
import Derived.Test.YtkldgehnioapcaaDoorW16
import Derived.Test.YtkldgehnioapcaaDoorW13
namespace Go.Proofs.YtkldgehnioapcaaDoor
open Go.RowKit
set_option maxHeartbeats 2000000
set_option maxRecDepth 100000

theorem law_format (A : Option Addr) (l : List Val) (n c : Nat) (w : World) (hl : ValsAt w A l) (hn : l.length = n) (hm : n ≤ maxLen) (hb : ∀ a ∈ l, -9223372036854775808 ≤ a.n ∧ a.n ≤ 9223372036854775807) (hw : Sh w) (ht : Tab w) (he : Er w) :
    Calls Tryd.prog 9 #[.slice A n c] w fun e w' => e = .returned (.bool true) ∧ Ext w w' := by
  have HN := hid hn
  have HL := hid hl
  have HB := hid hb
  have HW := hid hw
  have HT := hid ht
  have HE := hid he
  clear hn hl hb hw ht he
  unfold maxLen at hm
  cases hg : longB l
  · obtain ⟨hlen, hsz⟩ := longB_no hg
    have HSZ := hid hsz
    clear hsz
    go_enter Tryd.func9, Tryd.ntmps9
    go_wp2_with fail
    refine (awake_any _ HW.out).mono ?_
    rintro e w1 ⟨rfl, hx1⟩
    have HX1 := hid hx1
    clear hx1
    go_wp2_with fail
    refine (longrow_any A l n c _ (HL.out.ext HX1.out) HN.out (by unfold maxLen; exact hm)).mono ?_
    rintro e w2 ⟨rfl, hx2⟩
    rw [hg]
    have HX2 := hid (HX1.out.trans hx2)
    clear hx2
    go_wp2_with fail
    go_loopw [17] (fun i wr => ∃ k : Nat, k ≤ n ∧ i = .int .i64 k ∧ Ext w wr) (fun i _ => n - (intOf i).toNat)
    case atStart => exact ⟨0, Nat.zero_le _, rfl, HX2.out⟩
    case round =>
      obtain ⟨k, hk, rfl, hxr⟩ := hrel
      have HX := hid hxr
      by_cases hlt : k < n
      · obtain ⟨a, ha⟩ : ∃ a, l[k]? = some a := ⟨_, List.getElem?_eq_getElem (by rw [HN.out]; exact hlt)⟩
        obtain ⟨b, off, rfl, c0, c1, c2⟩ := (HL.out.ext hxr) k a ha
        have hmem : a ∈ l := List.mem_of_getElem? ha
        have HAB := hid (HB.out a hmem)
        have HAS := hid (HSZ.out a hmem)
        have HFS := hid (fmtV_size w a (.inr ⟨HT.out, HAB.out⟩))
        have HLITS : Hid (a.t.size ≤ 1000) := Nat.le_trans HAS.out (by omega)
        have HVS : Hid (a.t.size ≤ 9223372036854775807) := Nat.le_trans HAS.out (by omega)
        clear ha hxr hmem
        cases hv : validV a
        · have HV := hid hv
          have HP : Hid (prs (fmtV a) = (⟨0, 0, ⟨#[]⟩⟩, 2)) := prs_no a hv
          have bq : ((fmtV a).toList == (fmtV a).toList) = true := beq_self_eq_true _
          clear hv
          go_wp2_with fail
          refine (format_any a.k a.n a.t _ HLITS.out (HW.out.ext (HX.out.alloc _)) (.inr ⟨HT.out.ext (HX.out.alloc _), HAB.out⟩)).mono ?_
          rintro e w3 ⟨rfl, hx3⟩
          have HX3 : Hid (Ext w w3) := (HX.out.alloc _).trans hx3
          obtain ⟨d0, d1, d2⟩ := box3 hx3
          have HBX3 := hid hx3
          clear hx3 c0 c1 c2
          go_wp2_with fail
          refine (parse_any (fmtV a) _ (Nat.le_trans HFS.out (by omega)) (HW.out.ext HX3.out) (HT.out.ext HX3.out) (HE.out.ext HX3.out)).mono ?_
          rintro e w4 ⟨rfl, hx4⟩
          have HX4 : Hid (Ext w w4) := HX3.out.trans hx4
          clear d0 d1 d2
          obtain ⟨d0, d1, d2⟩ := box3 ((HBX3.out.trans hx4).alloc (.cells #[.int .i64 0, .int .i64 0, .string ⟨#[]⟩] 23))
          have HBX4 : Hid (Ext (wr.alloc (.cells #[.int .i64 a.k, .int .i64 a.n, .string a.t] 23)) (w4.alloc (.cells #[.int .i64 0, .int .i64 0, .string ⟨#[]⟩] 23))) := (HBX3.out.trans hx4).alloc _
          clear hx4
          rw [HP.out]
          go_wp2_with fail
          refine (lit_any a.k a.n a.t _ HLITS.out HAB.out).mono ?_
          rintro e w5 ⟨rfl, hx5⟩
          have HX5 : Hid (Ext w w5) := (HX4.out.alloc _).trans hx5
          clear d0 d1 d2
          obtain ⟨d0, d1, d2⟩ := box3 (HBX4.out.trans hx5)
          have HBX5 := hid (HBX4.out.trans hx5)
          have HCX5 := hid hx5
          clear hx5
          go_wp2_with fail
          refine (rvalid_any a.k a.n a.t _ HVS.out).mono ?_
          rintro e w6 ⟨rfl, hx6⟩
          have HX6 : Hid (Ext w w6) := HX5.out.trans hx6
          clear d0 d1 d2
          obtain ⟨d0, d1, d2⟩ := box3 (HBX5.out.trans hx6)
          obtain ⟨e0, e1, e2⟩ := box3 (HCX5.out.trans hx6)
          clear hx6
          rw [HV.out]
          go_wp2_with fail
          go_roundw
          case rel => exact ⟨k + 1, by omega, by go_num, HX6.out⟩
          case measure => simp [intOf]; omega
        · have HV := hid hv
          have HP : Hid (prs (fmtV a) = (a, 0)) := prs_of a hv HAB.out.1 HAB.out.2
          have bq : ((fmtV a).toList == (fmtV a).toList) = true := beq_self_eq_true _
          clear hv
          go_wp2_with fail
          refine (format_any a.k a.n a.t _ HLITS.out (HW.out.ext (HX.out.alloc _)) (.inr ⟨HT.out.ext (HX.out.alloc _), HAB.out⟩)).mono ?_
          rintro e w3 ⟨rfl, hx3⟩
          have HX3 : Hid (Ext w w3) := (HX.out.alloc _).trans hx3
          obtain ⟨d0, d1, d2⟩ := box3 hx3
          have HBX3 := hid hx3
          clear hx3 c0 c1 c2
          go_wp2_with fail
          refine (parse_any (fmtV a) _ (Nat.le_trans HFS.out (by omega)) (HW.out.ext HX3.out) (HT.out.ext HX3.out) (HE.out.ext HX3.out)).mono ?_
          rintro e w4 ⟨rfl, hx4⟩
          have HX4 : Hid (Ext w w4) := HX3.out.trans hx4
          clear d0 d1 d2
          obtain ⟨d0, d1, d2⟩ := box3 ((HBX3.out.trans hx4).alloc (.cells #[.int .i64 a.k, .int .i64 a.n, .string a.t] 23))
          have HBX4 : Hid (Ext (wr.alloc (.cells #[.int .i64 a.k, .int .i64 a.n, .string a.t] 23)) (w4.alloc (.cells #[.int .i64 a.k, .int .i64 a.n, .string a.t] 23))) := (HBX3.out.trans hx4).alloc _
          clear hx4
          rw [HP.out]
          go_wp2_with fail
          refine (lit_any a.k a.n a.t _ HLITS.out HAB.out).mono ?_
          rintro e w5 ⟨rfl, hx5⟩
          have HX5 : Hid (Ext w w5) := (HX4.out.alloc _).trans hx5
          clear d0 d1 d2
          obtain ⟨d0, d1, d2⟩ := box3 (HBX4.out.trans hx5)
          have HBX5 := hid (HBX4.out.trans hx5)
          have HCX5 := hid hx5
          clear hx5
          go_wp2_with fail
          refine (rvalid_any a.k a.n a.t _ HVS.out).mono ?_
          rintro e w6 ⟨rfl, hx6⟩
          have HX6 : Hid (Ext w w6) := HX5.out.trans hx6
          clear d0 d1 d2
          obtain ⟨d0, d1, d2⟩ := box3 (HBX5.out.trans hx6)
          obtain ⟨e0, e1, e2⟩ := box3 (HCX5.out.trans hx6)
          clear hx6
          rw [HV.out]
          go_wp2_with fail
          go_roundw
          case rel => exact ⟨k + 1, by omega, by go_num, HX6.out⟩
          case measure => simp [intOf]; omega
      · obtain rfl : k = n := by omega
        have HS2 : Hid (∀ a ∈ l, a.t.size ≤ 1000) := fun a ha => Nat.le_trans (HSZ.out a ha) (by omega)
        have HC2 : Hid (∀ a ∈ l, Can w a.n) := fun a ha => .inr ⟨HT.out, HB.out a ha⟩
        have bq : ((fmtRow l).toList == (fmtRow l).toList) = true := beq_self_eq_true _
        go_wp2_with fail
        refine (formatrow_any A l k c _ (HL.out.ext HX.out) HN.out (by have := HN.out; omega) HS2.out (HW.out.ext HX.out) (fun a ha => (HC2.out a ha).ext HX.out)).mono ?_
        rintro e w7 ⟨rfl, hx7⟩
        have HX7 := hid (HX.out.trans hx7)
        clear hx7
        go_wp2_with fail
        refine (rtext_any A l k c _ (HL.out.ext HX7.out) HN.out (by have := HN.out; omega) HS2.out (fun a ha => (HC2.out a ha).ext HX7.out)).mono ?_
        rintro e w8 ⟨rfl, hx8⟩
        go_wp2_with fail
        go_ret
        exact ⟨rfl, HX7.out.trans hx8⟩
  · go_enter Tryd.func9, Tryd.ntmps9
    go_wp2_with fail
    refine (awake_any _ HW.out).mono ?_
    rintro e w1 ⟨rfl, hx1⟩
    have HX1 := hid hx1
    clear hx1
    go_wp2_with fail
    refine (longrow_any A l n c _ (HL.out.ext HX1.out) HN.out (by unfold maxLen; exact hm)).mono ?_
    rintro e w2 ⟨rfl, hx2⟩
    rw [hg]
    have HX2 := hid (HX1.out.trans hx2)
    clear hx2
    go_wp2_with fail
    refine (awake_any _ (HW.out.ext HX2.out)).mono ?_
    rintro e w4 ⟨rfl, hx4⟩
    go_wp2_with fail
    go_ret
    exact ⟨rfl, HX2.out.trans hx4⟩

end Go.Proofs.YtkldgehnioapcaaDoor
