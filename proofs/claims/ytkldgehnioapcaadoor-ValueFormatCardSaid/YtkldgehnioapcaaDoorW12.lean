/-
  Walks over the value package: rows compared.
-/
import Derived.Test.YtkldgehnioapcaaDoorW7
namespace Go.Proofs.YtkldgehnioapcaaDoor
open Go.RowKit
set_option maxHeartbeats 1000000
set_option maxRecDepth 100000

theorem vals_at {w : World} {b off : Nat} {l : List Val} (h : ValsAt w (some ⟨b, off, none⟩) l) {i : Nat} {a : Val} (ha : l[i]? = some a) :
    w.cell? ⟨b, off + i * 3, none⟩ = some (.int .i64 a.k) ∧ w.cell? ⟨b, off + i * 3 + 1, none⟩ = some (.int .i64 a.n) ∧ w.cell? ⟨b, off + i * 3 + 2, none⟩ = some (.string a.t) := by
  obtain ⟨b', off', e, r⟩ := h i a ha
  simp only [Option.some.injEq, Addr.mk.injEq, and_true] at e
  obtain ⟨rfl, rfl⟩ := e
  exact r

def longB (l : List Val) : Bool := (l.any fun a => decide (100 < a.t.size)) || decide (40 < l.length)
theorem longrow_any (A : Option Addr) (l : List Val) (n c : Nat) (w : World) (hl : ValsAt w A l) (hn : l.length = n) (hm : n ≤ maxLen) :
    Calls Tryd.prog 23 #[.slice A n c] w fun e w' => e = .returned (.bool (longB l)) ∧ Ext w w' := by
  have HN := hid hn
  have HL := hid hl
  clear hn hl
  unfold maxLen at hm
  go_enter Tryd.func23, Tryd.ntmps23
  go_wp2_with fail
  go_loopw [7] (fun i wr => ∃ k : Nat, k ≤ n ∧ i = .int .i64 k ∧ ((l.take k).any fun a => decide (100 < a.t.size)) = false ∧ Ext w wr) (fun i _ => n - (intOf i).toNat)
  case atStart => exact ⟨0, Nat.zero_le _, rfl, rfl, Ext.refl w⟩
  case round =>
    obtain ⟨k, hk, rfl, hv, hxr⟩ := hrel
    have HV := hid hv
    have HX := hid hxr
    clear hv
    by_cases hlt : k < n
    · obtain ⟨a, ha⟩ : ∃ a, l[k]? = some a := ⟨_, List.getElem?_eq_getElem (by rw [HN.out]; exact hlt)⟩
      obtain ⟨b, off, rfl, c0, c1, c2⟩ := (HL.out.ext hxr) k a ha
      have HT : Hid (l.take (k + 1) = l.take k ++ [a]) := by
        obtain ⟨hi, rfl⟩ := List.getElem?_eq_some_iff.1 ha
        exact List.take_succ_eq_append_getElem hi
      have HA := hid ha
      clear ha hxr
      by_cases h1 : 100 < a.t.size
      · have d1 : decide (100 < (a.t.size : Int)) = true := by simp; omega
        have HR : Hid (longB l = true) := by
          unfold Hid longB
          rw [Bool.or_eq_true]
          left
          rw [List.any_eq_true]
          exact ⟨a, List.mem_of_getElem? HA.out, by simpa using h1⟩
        clear h1
        go_wp2_with fail
        refine (long_any a.k a.n a.t _).mono ?_
        rintro e w1 ⟨rfl, hx1⟩
        rw [d1]
        go_wp2_with fail
        go_ret
        exact ⟨ret_bool HR.out.symm, (HX.out.alloc _).trans hx1⟩
      · have d1 : decide (100 < (a.t.size : Int)) = false := by simp; omega
        have H1 : Hid (¬ 100 < a.t.size) := h1
        clear h1
        go_wp2_with fail
        refine (long_any a.k a.n a.t _).mono ?_
        rintro e w1 ⟨rfl, hx1⟩
        rw [d1]
        go_wp2_with fail
        go_roundw
        case rel =>
          refine ⟨k + 1, by omega, by go_num, ?_, (HX.out.alloc _).trans hx1⟩
          rw [HT.out, List.any_append, HV.out]
          simpa using Nat.not_lt.1 H1.out
        case measure => simp [intOf]; omega
    · obtain rfl : k = n := by omega
      have HR : Hid (longB l = decide (40 < (k : Int))) := by
        have h := HV.out
        rw [List.take_of_length_le (by rw [HN.out]; exact Nat.le_refl _)] at h
        unfold Hid longB
        rw [h, HN.out, Bool.false_or]
        simp
        omega
      go_wp2_with fail
      go_ret
      exact ⟨ret_bool HR.out.symm, HX.out⟩

/-- rows compared -/
def cmpR : List Val → List Val → Int
  | [], [] => 0
  | [], _ :: _ => -1
  | _ :: _, [] => 1
  | a :: l, b :: m => if cmpV a b = 0 then cmpR l m else cmpV a b
theorem cmpR_at (l m : List Val) (i : Nat) (a b : Val) (ha : l[i]? = some a) (hb : m[i]? = some b) : cmpR (l.drop i) (m.drop i) = if cmpV a b = 0 then cmpR (l.drop (i + 1)) (m.drop (i + 1)) else cmpV a b := by
  obtain ⟨h1, rfl⟩ := List.getElem?_eq_some_iff.1 ha
  obtain ⟨h2, rfl⟩ := List.getElem?_eq_some_iff.1 hb
  rw [List.drop_eq_getElem_cons h1, List.drop_eq_getElem_cons h2, cmpR]
theorem cmpR_end (l m : List Val) (i : Nat) (hi : i ≤ l.length) (hj : i ≤ m.length) (h : i = l.length ∨ i = m.length) : cmpR (l.drop i) (m.drop i) = cmpI l.length m.length := by
  have e1 : (l.drop i).length = l.length - i := List.length_drop ..
  have e2 : (m.drop i).length = m.length - i := List.length_drop ..
  unfold cmpI
  cases hs : l.drop i with
  | nil =>
    rw [hs] at e1
    simp at e1
    cases ht : m.drop i with
    | nil =>
      rw [ht] at e2
      simp at e2
      rw [if_neg (by omega), if_neg (by omega)]
      rfl
    | cons b bs =>
      rw [ht] at e2
      simp at e2
      rw [if_pos (by omega)]
      rfl
  | cons a l1 =>
    rw [hs] at e1
    simp at e1
    cases ht : m.drop i with
    | nil =>
      rw [ht] at e2
      simp at e2
      rw [if_neg (by omega), if_pos (by omega)]
      rfl
    | cons b bs =>
      rw [ht] at e2
      simp at e2
      omega
theorem cmpR_self : ∀ l : List Val, cmpR l l = 0
  | [] => rfl
  | a :: l => by rw [cmpR, if_pos ((cmpV_zero a a).2 ⟨rfl, rfl, rfl⟩)]; exact cmpR_self l

theorem rrows_any (A B : Option Addr) (l m : List Val) (n p c d : Nat) (w : World) (hl : ValsAt w A l) (hm : ValsAt w B m) (hn : l.length = n) (hp : m.length = p) (hs : n ≤ 1000) (hs2 : p ≤ 1000) (ht : ∀ a ∈ l, a.t.size ≤ 1000) (ht2 : ∀ a ∈ m, a.t.size ≤ 1000) :
    Calls Tryd.prog 25 #[.slice A n c, .slice B p d] w fun e w' => e = .returned (.int .i64 (cmpR l m)) ∧ Ext w w' := by
  have HN := hid hn
  have HP := hid hp
  have HL := hid hl
  have HM := hid hm
  have HT := hid ht
  have HT2 := hid ht2
  clear hn hp hl hm ht ht2
  go_enter Tryd.func25, Tryd.ntmps25
  go_wp2_with fail
  go_loopw [5] (fun i wr => ∃ k : Nat, k ≤ n ∧ k ≤ p ∧ i = .int .i64 k ∧ cmpR (l.drop k) (m.drop k) = cmpR l m ∧ Ext w wr) (fun i _ => n - (intOf i).toNat)
  case atStart => exact ⟨0, Nat.zero_le _, Nat.zero_le _, rfl, rfl, Ext.refl w⟩
  case round =>
    obtain ⟨k, hk, hk2, rfl, hc, hxr⟩ := hrel
    have HC := hid hc
    have HX := hid hxr
    clear hc
    by_cases h1 : k < n
    · by_cases h2 : k < p
      · obtain ⟨a, ha⟩ : ∃ a, l[k]? = some a := ⟨_, List.getElem?_eq_getElem (by rw [HN.out]; exact h1)⟩
        obtain ⟨b, hb⟩ : ∃ b, m[k]? = some b := ⟨_, List.getElem?_eq_getElem (by rw [HP.out]; exact h2)⟩
        obtain ⟨g1, o1, rfl, c0, c1, c2⟩ := (HL.out.ext hxr) k a ha
        obtain ⟨g2, o2, rfl, e0, e1, e2⟩ := (HM.out.ext hxr) k b hb
        have hz1 := HT.out a (List.mem_of_getElem? ha)
        have hz2 := HT2.out b (List.mem_of_getElem? hb)
        have HA := hid (cmpR_at l m k a b ha hb)
        have hA : ∀ W, Calls Tryd.prog 16 #[.agg #[.int .i64 a.k, .int .i64 a.n, .string a.t], .agg #[.int .i64 b.k, .int .i64 b.n, .string b.t]] W fun e w' => e = .returned (.int .i64 (cmpV a b)) ∧ Ext W w' := fun W => rcompare_any a.k a.n b.k b.n a.t b.t W (by omega) (by omega)
        obtain ⟨x, hx⟩ : ∃ x, x = cmpV a b := ⟨_, rfl⟩
        rw [← hx] at hA
        have HXX := hid hx
        have HCA := hid hA
        have l0 := Later.keep c0
        have l1 := Later.keep c1
        have l2 := Later.keep c2
        have l3 := Later.keep e0
        have l4 := Later.keep e1
        have l5 := Later.keep e2
        have i1 : (0 : Int) ≤ (k : Int) := by omega
        have i2 : (k : Int) < (n : Int) := by omega
        have i3 : (k : Int) < (p : Int) := by omega
        clear ha hb hxr hx hA
        by_cases hz : x = 0
        · have b1 : (x != 0) = false := by simp [hz]
          have HZ : Hid (cmpR (l.drop (k + 1)) (m.drop (k + 1)) = cmpR l m) := by
            unfold Hid
            rw [← HC.out, HA.out, ← HXX.out, if_pos hz]
          clear hz
          go_wp2_with fail
          refine wp_region_later (by kernel_rfl) (by kernel_rfl) ?_
          repeat (go_big_quiet_step ((go_at_call 16; exact later_of (HCA.out _))))
          refine wpQuiet_nil ?_
          intro w' hw'
          have hx := later_out hw'
          clear hw' l0 l1 l2 l3 l4 l5
          go_wp2_with fail
          go_roundw
          case rel => exact ⟨k + 1, by omega, by omega, by go_num, HZ.out, HX.out.trans hx⟩
          case measure => simp [intOf]; omega
        · have b1 : (x != 0) = true := by simp [hz]
          have HZ : Hid (cmpR l m = x) := by
            unfold Hid
            rw [← HC.out, HA.out, ← HXX.out, if_neg hz]
          clear hz
          go_wp2_with fail
          refine wp_region_later (by kernel_rfl) (by kernel_rfl) ?_
          repeat (go_big_quiet_step ((go_at_call 16; exact later_of (HCA.out _))))
          refine wpQuiet_nil ?_
          intro w' hw'
          have hx := later_out hw'
          clear hw' l0 l1 l2 l3 l4 l5
          go_wp2_with fail
          go_ret
          exact ⟨ret_int HZ.out.symm, HX.out.trans hx⟩
      · obtain rfl : k = p := by omega
        have HE : Hid (cmpI n k = cmpR l m) := by unfold Hid; rw [← HC.out, cmpR_end l m k (by rw [HN.out]; exact hk) (by rw [HP.out]; exact Nat.le_refl _) (.inr HP.out.symm), HN.out, HP.out]
        go_wp2_with (go_at_call 40; refine (ints_any n k _).mono ?_; rintro e w' ⟨rfl, rfl⟩)
        go_ret
        exact ⟨ret_int HE.out, HX.out⟩
    · obtain rfl : k = n := by omega
      have HE : Hid (cmpI k p = cmpR l m) := by unfold Hid; rw [← HC.out, cmpR_end l m k (by rw [HN.out]; exact Nat.le_refl _) (by rw [HP.out]; exact hk2) (.inl HN.out.symm), HN.out, HP.out]
      go_wp2_with (go_at_call 40; refine (ints_any k p _).mono ?_; rintro e w' ⟨rfl, rfl⟩)
      go_ret
      exact ⟨ret_int HE.out, HX.out⟩

end Go.Proofs.YtkldgehnioapcaaDoor
