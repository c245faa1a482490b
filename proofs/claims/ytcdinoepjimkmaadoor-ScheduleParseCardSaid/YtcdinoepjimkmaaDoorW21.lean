/-
  Walks over the schedule package: the laws ScheduleFormat and ScheduleParse.
-/
import Derived.Test.YtcdinoepjimkmaaDoorW20
import Derived.Test.YtcdinoepjimkmaaDoorW18
import Derived.Test.YtcdinoepjimkmaaDoorW8
namespace Go.Proofs.YtcdinoepjimkmaaDoor
open Go.RowKit
set_option linter.unusedVariables false
set_option maxHeartbeats 4000000
set_option maxRecDepth 100000

theorem law_format (A : Option Addr) (l : List Act) (n c : Nat) (w : World) (hl : ActsAt w A l) (hn : l.length = n) (hm : n ≤ maxLen) (hsh : HasCap w) (htab : Tab w) (her : Er w) :
    Calls Tryd.prog 8 #[.slice A n c] w fun e w' => e = .returned (.bool true) ∧ Ext w w' := by
  have HN := hid hn
  have HL := hid hl
  have HM := hid hm
  clear hn hl
  unfold maxLen at hm
  by_cases h3 : 300 < n
  · have hb : (300 : Int) < (n : Int) := by omega
    go_enter Tryd.func8, Tryd.ntmps8
    go_wp2_with fail
    refine (awake_any _).mono ?_
    rintro e w1 ⟨rfl, hx1⟩
    go_wp2_with fail
    refine (awake_any _).mono ?_
    rintro e w2 ⟨rfl, hx2⟩
    go_wp2_with fail
    go_ret
    exact ⟨rfl, hx1.trans hx2⟩
  · have hb : ¬ (300 : Int) < (n : Int) := by omega
    cases hv : validB l 8
    · go_enter Tryd.func8, Tryd.ntmps8
      go_wp2_with fail
      refine (awake_any _).mono ?_
      rintro e w1 ⟨rfl, hx1⟩
      go_wp2_with fail
      refine (format_no A l n c _ (HL.out.ext hx1) HN.out HM.out hv).mono ?_
      rintro e w2 ⟨rfl, hx2⟩
      go_wp2_with fail
      refine (rvalid_any A l n c 8 _ ((HL.out.ext hx1).ext hx2) HN.out HM.out).mono ?_
      rintro e w3 ⟨rfl, hx3⟩
      rw [hv]
      go_wp2_with fail
      go_ret
      exact ⟨ret_bool (by simp), (hx1.trans hx2).trans hx3⟩
    · have HC : Hid (∀ W, Ext w W → ∀ a ∈ l, CanA W a) := by
        intro W hW a ha
        refine right_can ?_ (htab.ext hW)
        unfold validB at hv
        exact List.all_eq_true.1 hv a ha
      have HF : Hid ((fmtL l).length ≤ 20000) := by
        have := fmtL_len w l (HC.out w (Ext.refl w))
        rw [HN.out] at this
        unfold Hid
        omega
      have HP := hid (pr_fmt l 1 hv)
      have HPL := hid (fun (W : World) (h : Ext w W) => show Hid (∀ (t : ByteArray) (W' : World), t.size ≤ 20000 → Ext W W' → Calls Tryd.prog 33 #[.string t] W' fun e w' => ∃ v, e = .returned v ∧ LineOf t v ∧ Ext W' w') from
        fun t W' ht h' => parseline_any t W' ht (hsh.ext (h.trans h')) (htab.ext (h.trans h')) (her.ext (h.trans h')))
      have hv2 := hv
      go_enter Tryd.func8, Tryd.ntmps8
      go_wp2_with fail
      refine (awake_any _).mono ?_
      rintro e w1 ⟨rfl, hx1⟩
      go_wp2_with fail
      refine (format_ok A l n c _ (HL.out.ext hx1) HN.out (by omega) hv (HC.out _ hx1)).mono ?_
      rintro e w2 ⟨rfl, hx2⟩
      have HX2 := hid (hx1.trans hx2)
      clear hx1 hx2
      go_wp2_with fail
      refine (rvalid_any A l n c 8 _ (HL.out.ext HX2.out) HN.out HM.out).mono ?_
      rintro e w3 ⟨rfl, hx3⟩
      have HX3 := hid (HX2.out.trans hx3)
      clear hx3
      rw [hv]
      go_wp2_with fail
      refine (parse_any ⟨(fmtL l).toArray⟩ _ HF.out (hsh.ext HX3.out) (HPL.out _ HX3.out)).mono ?_
      rintro e w4 ⟨v, rfl, hr, hx4⟩
      have HX4 := hid (HX3.out.trans hx4)
      clear hx4
      rw [show (⟨(fmtL l).toArray⟩ : ByteArray).data.toList = fmtL l from rfl, HP.out] at hr
      obtain ⟨B, d, rfl, hB⟩ := hr
      have HB : Hid (ActsAt w4 B l) := hB
      clear hB
      rw [show (prL2 (.ok l)).length = n from HN.out]
      go_wp2_with (first
        | (go_at_call 21; refine (rformat_any A l n c _ (HL.out.ext HX4.out) HN.out (by omega) hv2).mono ?_; rintro e w5 ⟨rfl, hx5⟩)
        | (go_at_call 13; refine (same_any B A l n d c _ (HB.out.ext hx5) (HL.out.ext (HX4.out.trans hx5)) HN.out HM.out).mono ?_; rintro e w6 ⟨rfl, hx6⟩))
      go_ret
      exact ⟨ret_bool (by simp), (HX4.out.trans hx5).trans hx6⟩

theorem prF_ge : ∀ (f : Nat) (l : List UInt8) (n k : Nat), prF f l n = .bad k → n ≤ k
  | 0, l, n, k => by
    intro h
    rw [prF] at h
    injection h with h
    omega
  | f + 1, l, n, k => by
    intro h
    cases l with
    | nil => cases h
    | cons c r =>
      have h : (match cut10 (c :: r) with | none => Pr.bad n | some (a, q) => match lineP a with | none => .bad n | some x => (prF f q (n + 1)).pre [x]) = .bad k := h
      cases hc : cut10 (c :: r) with
      | none => rw [hc] at h; injection h with h; omega
      | some aq =>
        obtain ⟨a, q⟩ := aq
        rw [hc] at h
        simp only at h
        cases hl : lineP a with
        | none => rw [hl] at h; injection h with h; omega
        | some x =>
          rw [hl] at h
          simp only at h
          cases hq : prF f q (n + 1) with
          | ok o => rw [hq] at h; cases h
          | bad j =>
            have := prF_ge f q (n + 1) j hq
            rw [hq] at h
            injection h with h
            omega
theorem prF_len : ∀ (f : Nat) (l : List UInt8) (n : Nat) (o : List Act), prF f l n = .ok o → o.length ≤ f
  | 0, l, n, o => by
    intro h
    rw [prF] at h
    cases h
  | f + 1, l, n, o => by
    intro h
    cases l with
    | nil => injection h with h; subst h; exact Nat.zero_le _
    | cons c r =>
      have h : (match cut10 (c :: r) with | none => Pr.bad n | some (a, q) => match lineP a with | none => .bad n | some x => (prF f q (n + 1)).pre [x]) = .ok o := h
      cases hc : cut10 (c :: r) with
      | none => rw [hc] at h; cases h
      | some aq =>
        obtain ⟨a, q⟩ := aq
        rw [hc] at h
        simp only at h
        cases hl : lineP a with
        | none => rw [hl] at h; cases h
        | some x =>
          rw [hl] at h
          simp only at h
          cases hq : prF f q (n + 1) with
          | bad j => rw [hq] at h; cases h
          | ok o2 =>
            have := prF_len f q (n + 1) o2 hq
            rw [hq] at h
            injection h with h
            subst h
            simp
            omega
theorem law_parse (s : ByteArray) (w : World) (hs : s.size ≤ maxLen) (hsh : HasCap w) (htab : Tab w) (her : Er w) :
    Calls Tryd.prog 9 #[.string s] w fun e w' => e = .returned (.bool true) ∧ Ext w w' := by
  unfold maxLen at hs
  by_cases h3 : 3000 < s.size
  · have hb : (3000 : Int) < (s.size : Int) := by omega
    go_enter Tryd.func9, Tryd.ntmps9
    go_wp2_with fail
    refine (awake_any _).mono ?_
    rintro e w1 ⟨rfl, hx1⟩
    go_wp2_with fail
    refine (awake_any _).mono ?_
    rintro e w2 ⟨rfl, hx2⟩
    go_wp2_with fail
    go_ret
    exact ⟨rfl, hx1.trans hx2⟩
  · have hb : ¬ (3000 : Int) < (s.size : Int) := by omega
    have HPL := hid (fun (W : World) (h : Ext w W) => show Hid (∀ (t : ByteArray) (W' : World), t.size ≤ 20000 → Ext W W' → Calls Tryd.prog 33 #[.string t] W' fun e w' => ∃ v, e = .returned v ∧ LineOf t v ∧ Ext W' w') from
      fun t W' ht h' => parseline_any t W' ht (hsh.ext (h.trans h')) (htab.ext (h.trans h')) (her.ext (h.trans h')))
    go_enter Tryd.func9, Tryd.ntmps9
    go_wp2_with fail
    refine (awake_any _).mono ?_
    rintro e w1 ⟨rfl, hx1⟩
    go_wp2_with fail
    refine (parse_any s _ (by omega) (hsh.ext hx1) (HPL.out _ hx1)).mono ?_
    rintro e w2 ⟨v, rfl, hr, hx2⟩
    have HX2 := hid (hx1.trans hx2)
    clear hx1 hx2
    cases hp : prL s.data.toList 1 with
    | ok l =>
      rw [hp] at hr
      obtain ⟨B, d, rfl, hB⟩ := hr
      have HB : Hid (ActsAt w2 B l) := hB
      clear hB
      have hlen : Hid (l.length ≤ maxLen) := by
        have := prF_len _ _ _ _ hp
        have e : s.data.toList.length = s.size := rfl
        unfold Hid maxLen
        omega
      go_wp2_with fail
      refine (rparse_any s _ (by omega)).mono ?_
      rintro e w3 ⟨v, rfl, hr, hx3⟩
      rw [hp] at hr
      obtain ⟨C, c, rfl, hC⟩ := hr
      have HC : Hid (ActsAt w3 C l) := hC
      clear hC
      simp only [prL2, prN, prE]
      go_wp2_with fail
      refine (same_any B C l l.length d c _ (HB.out.ext hx3) HC.out rfl hlen.out).mono ?_
      rintro e w4 ⟨rfl, hx4⟩
      go_wp2_with fail
      go_ret
      exact ⟨ret_bool (by simp), (HX2.out.trans hx3).trans hx4⟩
    | bad k =>
      have hk : 0 < k := by have := prF_ge _ _ _ _ hp; omega
      have hk1 : (0 : Int) < (k : Int) := by omega
      have hk2 : (((k : Nat) : Int) == 0) = false := by rw [beq_eq_false_iff_ne]; omega
      rw [hp] at hr
      obtain ⟨B, d, rfl, hB⟩ := hr
      have HB : Hid (ActsAt w2 B []) := hB
      clear hB
      go_wp2_with fail
      refine (rparse_any s _ (by omega)).mono ?_
      rintro e w3 ⟨v, rfl, hr, hx3⟩
      rw [hp] at hr
      obtain ⟨C, c, rfl, hC⟩ := hr
      have HC : Hid (ActsAt w3 C []) := hC
      clear hC
      simp only [prL2, prN, prE, List.length_nil]
      go_wp2_with fail
      refine (same_any B C [] 0 d c _ (HB.out.ext hx3) HC.out rfl (Nat.zero_le _)).mono ?_
      rintro e w4 ⟨rfl, hx4⟩
      go_wp2_with fail
      go_ret
      exact ⟨ret_bool (by simp), (HX2.out.trans hx3).trans hx4⟩
end Go.Proofs.YtcdinoepjimkmaaDoor
