/-
  Walks over the value package and its reference: Texts, Compare of the reference; Valid.
-/
import Derived.Test.YtkldgehnioapcaaDoorW1b
namespace Go.Proofs.YtkldgehnioapcaaDoor
open Go.RowKit
set_option maxHeartbeats 1000000
set_option maxRecDepth 100000

theorem cb_at (s t : ByteArray) (i : Nat) (hi : i < s.size) (hj : i < t.size) :
    Lib.compareBytes (s.data.toList.drop i) (t.data.toList.drop i) = if s[i].toNat < t[i].toNat then -1 else if t[i].toNat < s[i].toNat then 1 else Lib.compareBytes (s.data.toList.drop (i + 1)) (t.data.toList.drop (i + 1)) := by
  have h1 : i < s.data.toList.length := by simpa using hi
  have h2 : i < t.data.toList.length := by simpa using hj
  rw [List.drop_eq_getElem_cons h1, List.drop_eq_getElem_cons h2, Lib.compareBytes]
  simp only [UInt8.lt_iff_toNat_lt]
  rfl
theorem cb_end (s t : ByteArray) (i : Nat) (hi : i ≤ s.size) (hj : i ≤ t.size) (h : i = s.size ∨ i = t.size) :
    Lib.compareBytes (s.data.toList.drop i) (t.data.toList.drop i) = cmpI s.size t.size := by
  have e1 : (s.data.toList.drop i).length = s.size - i := by rw [List.length_drop]; rfl
  have e2 : (t.data.toList.drop i).length = t.size - i := by rw [List.length_drop]; rfl
  unfold cmpI
  cases hs : s.data.toList.drop i with
  | nil =>
    rw [hs] at e1
    simp at e1
    cases ht : t.data.toList.drop i with
    | nil =>
      rw [ht] at e2
      simp at e2
      rw [if_neg (by omega), if_neg (by omega)]
      rfl
    | cons b bs =>
      rw [ht] at e2
      simp at e2
      rw [if_pos (by omega)]
      rfl
  | cons a l1 =>
    rw [hs] at e1
    simp at e1
    cases ht : t.data.toList.drop i with
    | nil =>
      rw [ht] at e2
      simp at e2
      rw [if_neg (by omega), if_pos (by omega)]
      rfl
    | cons b bs =>
      rw [ht] at e2
      simp at e2
      omega

theorem texts_any (s t : ByteArray) (w : World) (hs : s.size ≤ 1000000) (_ht : t.size ≤ 1000000) :
    Calls Tryd.prog 41 #[.string s, .string t] w fun e w' => e = .returned (.int .i64 (Lib.compareBytes s.data.toList t.data.toList)) ∧ Ext w w' := by
  go_enter Tryd.func41, Tryd.ntmps41
  go_wp2_with fail
  go_loopw [5] (fun i wr => ∃ k : Nat, k ≤ s.size ∧ k ≤ t.size ∧ i = .int .i64 k ∧ Lib.compareBytes (s.data.toList.drop k) (t.data.toList.drop k) = Lib.compareBytes s.data.toList t.data.toList ∧ Ext w wr) (fun i _ => s.size - (intOf i).toNat)
  case atStart => exact ⟨0, Nat.zero_le _, Nat.zero_le _, rfl, rfl, Ext.refl w⟩
  case round =>
    obtain ⟨k, hk, hk2, rfl, hc, hx⟩ := hrel
    have HC := hid hc
    have HX := hid hx
    clear hc hx
    by_cases h1 : k < s.size
    · by_cases h2 : k < t.size
      · have HA := hid (cb_at s t k h1 h2)
        have i1 : (0 : Int) ≤ (k : Int) := by omega
        have i2 : (k : Int) < (s.size : Int) := by omega
        have i3 : (k : Int) < (t.size : Int) := by omega
        by_cases he : s[k].toNat = t[k].toNat
        · have hb : ((s[k].toNat : Int) != (t[k].toNat : Int)) = false := by simp [he]
          have HN : Hid (Lib.compareBytes (s.data.toList.drop (k + 1)) (t.data.toList.drop (k + 1)) = Lib.compareBytes s.data.toList t.data.toList) := by
            unfold Hid
            rw [← HC.out, HA.out, if_neg (by omega), if_neg (by omega)]
          clear he
          go_wp2_with fail
          go_quiet (fail)
          go_wp2_with fail
          go_roundw
          case rel => exact ⟨k + 1, by omega, by omega, by go_num, HN.out, HX.out.drewN _⟩
          case measure => simp [intOf]; omega
        · have hb : ((s[k].toNat : Int) != (t[k].toNat : Int)) = true := by simp; omega
          have HN : Hid (cmpI s[k].toNat t[k].toNat = Lib.compareBytes s.data.toList t.data.toList) := by
            unfold Hid cmpI
            rw [← HC.out, HA.out]
            by_cases l : s[k].toNat < t[k].toNat
            · rw [if_pos (by omega), if_pos l]
            · rw [if_neg (by omega), if_pos (by omega), if_neg l, if_pos (by omega)]
          clear he
          go_wp2_with fail
          go_quiet (fail)
          go_wp2_with fail
          have wc1 : IntKind.i64.wrap (s[k].toNat : Int) = (s[k].toNat : Int) := IntWalk.i64_in _ (by have := s[k].toNat_lt; omega)
          have wc2 : IntKind.i64.wrap (t[k].toNat : Int) = (t[k].toNat : Int) := IntWalk.i64_in _ (by have := t[k].toNat_lt; omega)
          refine wp_region_later (by kernel_rfl) (by kernel_rfl) ?_
          repeat (go_big_quiet_step ((go_at_call 40; exact later_same (ints_any _ _ _))))
          refine wpQuiet_nil ?_
          intro w' hw'
          have hx := later_out hw'
          clear hw'
          go_wp2_with fail
          go_ret
          exact ⟨ret_int HN.out, (HX.out.drewN _).trans hx⟩
      · obtain rfl : k = t.size := by omega
        have HE := hid (cb_end s t t.size hk (Nat.le_refl _) (.inr rfl))
        go_wp2_with (go_at_call 40; refine (ints_any s.size t.size _).mono ?_; rintro e w' ⟨rfl, rfl⟩)
        go_ret
        exact ⟨ret_int (by rw [← HE.out, HC.out]), HX.out⟩
    · obtain rfl : k = s.size := by omega
      have HE := hid (cb_end s t s.size (Nat.le_refl _) hk2 (.inl rfl))
      go_wp2_with (go_at_call 40; refine (ints_any s.size t.size _).mono ?_; rintro e w' ⟨rfl, rfl⟩)
      go_ret
      exact ⟨ret_int (by rw [← HE.out, HC.out]), HX.out⟩

theorem rcompare_any (k1 n1 k2 n2 : Int) (t1 t2 : ByteArray) (w : World) (hs : t1.size ≤ 1000000) (ht : t2.size ≤ 1000000) :
    Calls Tryd.prog 16 #[.agg #[.int .i64 k1, .int .i64 n1, .string t1], .agg #[.int .i64 k2, .int .i64 n2, .string t2]] w fun e w' => e = .returned (.int .i64 (cmpV ⟨k1, n1, t1⟩ ⟨k2, n2, t2⟩)) ∧ Ext w w' := by
  have HE : Hid (cmpV ⟨k1, n1, t1⟩ ⟨k2, n2, t2⟩ = if k1 = k2 then (if n1 = n2 then Lib.compareBytes t1.data.toList t2.data.toList else cmpI n1 n2) else cmpI k1 k2) := rfl
  by_cases h1 : k1 = k2
  · have b1 : (k1 != k2) = false := by simp [h1]
    have H1 := hid h1
    clear h1
    by_cases h2 : n1 = n2
    · have b2 : (n1 != n2) = false := by simp [h2]
      have H2 := hid h2
      clear h2
      go_enter Tryd.func16, Tryd.ntmps16
      go_wp2_with fail
      refine (texts_any t1 t2 _ hs ht).mono ?_
      rintro e w1 ⟨rfl, hx1⟩
      go_wp2_with fail
      go_ret
      exact ⟨ret_int (by rw [HE.out, if_pos H1.out, if_pos H2.out]), (((Ext.refl w).alloc _).alloc _).trans hx1⟩
    · have b2 : (n1 != n2) = true := by simp [h2]
      have H2 : Hid (¬ n1 = n2) := h2
      clear h2
      go_enter Tryd.func16, Tryd.ntmps16
      go_wp2_with fail
      refine (ints_any n1 n2 _).mono ?_
      rintro e w1 ⟨rfl, rfl⟩
      go_wp2_with fail
      go_ret
      exact ⟨ret_int (by rw [HE.out, if_pos H1.out, if_neg H2.out]), ((Ext.refl w).alloc _).alloc _⟩
  · have b1 : (k1 != k2) = true := by simp [h1]
    have H1 : Hid (¬ k1 = k2) := h1
    clear h1
    go_enter Tryd.func16, Tryd.ntmps16
    go_wp2_with fail
    refine (ints_any k1 k2 _).mono ?_
    rintro e w1 ⟨rfl, rfl⟩
    go_wp2_with fail
    go_ret
    exact ⟨ret_int (by rw [HE.out, if_neg H1.out]), ((Ext.refl w).alloc _).alloc _⟩

end Go.Proofs.YtkldgehnioapcaaDoor
