/-
  Walks over the value package: CompareRows.
-/
import Derived.Test.YtkldgehnioapcaaDoorW12
namespace Go.Proofs.YtkldgehnioapcaaDoor
open Go.RowKit
set_option maxHeartbeats 1000000
set_option maxRecDepth 100000

theorem cmpfunc_any (A B : Option Addr) (l m : List Val) (n p c d : Nat) (w : World) (hl : ValsAt w A l) (hm : ValsAt w B m) (hn : l.length = n) (hp : m.length = p) (hs : n ≤ 1000) (hs2 : p ≤ 1000) :
    Calls Tryd.prog 45 #[.slice A n c, .slice B p d, .func (Fn.func 15) #[] #[]] w fun e w' => e = .returned (.int .i64 (cmpR l m)) ∧ Ext w w' := by
  have HN := hid hn
  have HP := hid hp
  have HL := hid hl
  have HM := hid hm
  clear hn hp hl hm
  go_enter Tryd.func45, Tryd.ntmps45
  go_wp2_with fail
  go_loopw [13] (fun i wr => ∃ k : Nat, k ≤ n ∧ k ≤ p ∧ i = .int .i64 k ∧ cmpR (l.drop k) (m.drop k) = cmpR l m ∧ Ext w wr) (fun i _ => n - (intOf i).toNat)
  case atStart => exact ⟨0, Nat.zero_le _, Nat.zero_le _, rfl, rfl, Ext.refl w⟩
  case round =>
    obtain ⟨k, hk, hk2, rfl, hc, hxr⟩ := hrel
    have HC := hid hc
    have HX := hid hxr
    clear hc
    by_cases h1 : k < n
    · obtain ⟨a, ha⟩ : ∃ a, l[k]? = some a := ⟨_, List.getElem?_eq_getElem (by rw [HN.out]; exact h1)⟩
      obtain ⟨g1, o1, rfl, c0, c1, c2⟩ := (HL.out.ext hxr) k a ha
      by_cases h2 : k < p
      · obtain ⟨b, hb⟩ : ∃ b, m[k]? = some b := ⟨_, List.getElem?_eq_getElem (by rw [HP.out]; exact h2)⟩
        obtain ⟨g2, o2, rfl, e0, e1, e2⟩ := (HM.out.ext hxr) k b hb
        have HA := hid (cmpR_at l m k a b ha hb)
        have hA : ∀ W, Calls Tryd.prog 15 #[.agg #[.int .i64 a.k, .int .i64 a.n, .string a.t], .agg #[.int .i64 b.k, .int .i64 b.n, .string b.t]] W fun e w' => e = .returned (.int .i64 (cmpV a b)) ∧ Ext W w' := fun W => compare_any a.k a.n b.k b.n a.t b.t W
        obtain ⟨x, hx⟩ : ∃ x, x = cmpV a b := ⟨_, rfl⟩
        rw [← hx] at hA
        have HXX := hid hx
        have HCA := hid hA
        have q0 := fun o => ((Ext.refl wr).alloc o).keep e0
        have q1 := fun o => ((Ext.refl wr).alloc o).keep e1
        have q2 := fun o => ((Ext.refl wr).alloc o).keep e2
        clear ha hb hxr hx hA
        by_cases hz : x = 0
        · have b1 : (x != 0) = false := by simp [hz]
          have HZ : Hid (cmpR (l.drop (k + 1)) (m.drop (k + 1)) = cmpR l m) := by
            unfold Hid
            rw [← HC.out, HA.out, ← HXX.out, if_pos hz]
          clear hz
          go_wp2_with fail
          refine (HCA.out _).mono ?_
          rintro e w1 ⟨rfl, hx1⟩
          go_wp2_with fail
          go_roundw
          case rel => exact ⟨k + 1, by omega, by omega, by go_num, HZ.out, ((HX.out.alloc _).alloc _).trans hx1⟩
          case measure => simp [intOf]; omega
        · have b1 : (x != 0) = true := by simp [hz]
          have HZ : Hid (cmpR l m = x) := by
            unfold Hid
            rw [← HC.out, HA.out, ← HXX.out, if_neg hz]
          clear hz
          go_wp2_with fail
          refine (HCA.out _).mono ?_
          rintro e w1 ⟨rfl, hx1⟩
          go_wp2_with fail
          go_ret
          exact ⟨ret_int HZ.out.symm, ((HX.out.alloc _).alloc _).trans hx1⟩
      · obtain rfl : k = p := by omega
        have HE : Hid (cmpI n k = cmpR l m) := by unfold Hid; rw [← HC.out, cmpR_end l m k (by rw [HN.out]; exact hk) (by rw [HP.out]; exact Nat.le_refl _) (.inr HP.out.symm), HN.out, HP.out]
        have HE2 : Hid (cmpI n k = 1) := by unfold Hid cmpI; rw [if_neg (by omega), if_pos (by omega)]
        clear ha hxr
        go_wp2_with fail
        go_ret
        exact ⟨ret_int (by rw [← HE.out, HE2.out]), HX.out.alloc _⟩
    · obtain rfl : k = n := by omega
      have HE : Hid (cmpI k p = cmpR l m) := by unfold Hid; rw [← HC.out, cmpR_end l m k (by rw [HN.out]; exact Nat.le_refl _) (by rw [HP.out]; exact hk2) (.inl HN.out.symm), HN.out, HP.out]
      by_cases h2 : k < p
      · have HE2 : Hid (cmpI k p = -1) := by unfold Hid cmpI; rw [if_pos (by omega)]
        go_wp2_with fail
        go_ret
        exact ⟨ret_int (by rw [← HE.out, HE2.out]), HX.out⟩
      · have HE2 : Hid (cmpI k p = 0) := by unfold Hid cmpI; rw [if_neg (by omega), if_neg (by omega)]
        go_wp2_with fail
        go_ret
        exact ⟨ret_int (by rw [← HE.out, HE2.out]), HX.out⟩

theorem rows_any (A B : Option Addr) (l m : List Val) (n p c d : Nat) (w : World) (hl : ValsAt w A l) (hm : ValsAt w B m) (hn : l.length = n) (hp : m.length = p) (hs : n ≤ 1000) (hs2 : p ≤ 1000) :
    Calls Tryd.prog 24 #[.slice A n c, .slice B p d] w fun e w' => e = .returned (.int .i64 (cmpR l m)) ∧ Ext w w' := by
  have HC := hid (cmpfunc_any A B l m n p c d w hl hm hn hp hs hs2)
  clear hl hm hn hp
  go_enter Tryd.func24, Tryd.ntmps24
  go_wp2_with fail
  refine HC.out.mono ?_
  rintro e w1 ⟨rfl, hx1⟩
  go_wp2_with fail
  go_ret
  exact ⟨rfl, hx1⟩

theorem longB_no {l : List Val} (h : longB l = false) : l.length ≤ 40 ∧ ∀ a ∈ l, a.t.size ≤ 100 := by
  unfold longB at h
  rw [Bool.or_eq_false_iff] at h
  refine ⟨by simpa using h.2, fun a ha => ?_⟩
  have := h.1
  rw [List.any_eq_false] at this
  have := this a ha
  simpa using this

theorem law_rows (A : Option Addr) (l : List Val) (n c : Nat) (B : Option Addr) (m : List Val) (p d : Nat) (w : World) (hl : ValsAt w A l) (hn : l.length = n) (hs : n ≤ maxLen) (hm : ValsAt w B m) (hp : m.length = p) (hs2 : p ≤ maxLen) (hw : Sh w) :
    Calls Tryd.prog 8 #[.slice A n c, .slice B p d] w fun e w' => e = .returned (.bool true) ∧ Ext w w' := by
  have HN := hid hn
  have HP := hid hp
  have HL := hid hl
  have HM := hid hm
  have HS := hid hs
  have HS2 := hid hs2
  have HW := hid hw
  clear hn hp hl hm hs hs2 hw
  cases h1 : longB l
  · cases h2 : longB m
    · obtain ⟨z1, z2⟩ := longB_no h1
      obtain ⟨z3, z4⟩ := longB_no h2
      have Z1 : Hid (n ≤ 1000) := by unfold Hid; have := HN.out; omega
      have Z3 : Hid (p ≤ 1000) := by unfold Hid; have := HP.out; omega
      have Z2 : Hid (∀ a ∈ l, a.t.size ≤ 1000) := fun a ha => by have := z2 a ha; omega
      have Z4 : Hid (∀ a ∈ m, a.t.size ≤ 1000) := fun a ha => by have := z4 a ha; omega
      clear z1 z2 z3 z4
      go_enter Tryd.func8, Tryd.ntmps8
      go_wp2_with fail
      refine (awake_any _ HW.out).mono ?_
      rintro e w1 ⟨rfl, hx1⟩
      have HX1 := hid hx1
      clear hx1
      go_wp2_with fail
      refine (longrow_any A l n c _ (HL.out.ext HX1.out) HN.out HS.out).mono ?_
      rintro e w2 ⟨rfl, hx2⟩
      rw [h1]
      have HX2 := hid (HX1.out.trans hx2)
      clear hx2
      go_wp2_with fail
      refine (longrow_any B m p d _ (HM.out.ext HX2.out) HP.out HS2.out).mono ?_
      rintro e w3 ⟨rfl, hx3⟩
      rw [h2]
      have HX3 := hid (HX2.out.trans hx3)
      clear hx3
      go_wp2_with fail
      refine (rows_any A B l m n p c d _ (HL.out.ext HX3.out) (HM.out.ext HX3.out) HN.out HP.out Z1.out Z3.out).mono ?_
      rintro e w4 ⟨rfl, hx4⟩
      have HX4 := hid (HX3.out.trans hx4)
      clear hx4
      go_wp2_with fail
      refine (rrows_any A B l m n p c d _ (HL.out.ext HX4.out) (HM.out.ext HX4.out) HN.out HP.out Z1.out Z3.out Z2.out Z4.out).mono ?_
      rintro e w5 ⟨rfl, hx5⟩
      have HX5 := hid (HX4.out.trans hx5)
      clear hx5
      have hb : (cmpR l m == cmpR l m) = true := by simp
      go_wp2_with fail
      refine (rows_any A A l l n n c c _ (HL.out.ext HX5.out) (HL.out.ext HX5.out) HN.out HN.out Z1.out Z1.out).mono ?_
      rintro e w6 ⟨rfl, hx6⟩
      rw [cmpR_self]
      go_wp2_with fail
      go_ret
      exact ⟨rfl, HX5.out.trans hx6⟩
    · go_enter Tryd.func8, Tryd.ntmps8
      go_wp2_with fail
      refine (awake_any _ HW.out).mono ?_
      rintro e w1 ⟨rfl, hx1⟩
      have HX1 := hid hx1
      clear hx1
      go_wp2_with fail
      refine (longrow_any A l n c _ (HL.out.ext HX1.out) HN.out HS.out).mono ?_
      rintro e w2 ⟨rfl, hx2⟩
      rw [h1]
      have HX2 := hid (HX1.out.trans hx2)
      clear hx2
      go_wp2_with fail
      refine (longrow_any B m p d _ (HM.out.ext HX2.out) HP.out HS2.out).mono ?_
      rintro e w3 ⟨rfl, hx3⟩
      rw [h2]
      have HX3 := hid (HX2.out.trans hx3)
      clear hx3
      go_wp2_with fail
      refine (awake_any _ (HW.out.ext HX3.out)).mono ?_
      rintro e w4 ⟨rfl, hx4⟩
      go_wp2_with fail
      go_ret
      exact ⟨rfl, HX3.out.trans hx4⟩
  · go_enter Tryd.func8, Tryd.ntmps8
    go_wp2_with fail
    refine (awake_any _ HW.out).mono ?_
    rintro e w1 ⟨rfl, hx1⟩
    have HX1 := hid hx1
    clear hx1
    go_wp2_with fail
    refine (longrow_any A l n c _ (HL.out.ext HX1.out) HN.out HS.out).mono ?_
    rintro e w2 ⟨rfl, hx2⟩
    rw [h1]
    have HX2 := hid (HX1.out.trans hx2)
    clear hx2
    go_wp2_with fail
    refine (awake_any _ (HW.out.ext HX2.out)).mono ?_
    rintro e w4 ⟨rfl, hx4⟩
    go_wp2_with fail
    go_ret
    exact ⟨rfl, HX2.out.trans hx4⟩

end Go.Proofs.YtkldgehnioapcaaDoor
