/-
  Walks over history: the reference's row. · Walks over history: the reference's short rows. · Walks over history: the reference's equal rows. · Walks over history: the reference's equal rows.
-/
import Derived.Test.YtdjdhkbomhendaaGreatDoorGe
import Derived.Test.YtdjdhkbomhendaaGreatDoorGb
namespace Go.Proofs.YtdjdhkbomhendaaGreatDoor
set_option linter.unusedVariables false
set_option linter.unusedSimpArgs false
open Go.RowKit
set_option maxHeartbeats 1000000
set_option maxRecDepth 100000

theorem take_step {α : Type} {l : List α} {k : Nat} {a : α} (ha : l[k]? = some a) : l.take (k + 1) = l.take k ++ [a] := by
  obtain ⟨hi, rfl⟩ := List.getElem?_eq_some_iff.1 ha
  exact List.take_succ_eq_append_getElem hi
theorem rrow_any (A : Option Addr) (l : List Val) (n c : Nat) (w : World) (hl : ValsAt w A l) (hn : l.length = n) (hm : n ≤ 4000000) (hs : ∀ a ∈ l, a.t.size ≤ 4000000) :
    Calls Tryz.prog 66 #[.slice A n c] w fun e w' => e = .returned (.bool (rowV l)) ∧ Ext w w' := by
  have HN := hid hn
  have HS := hid hs
  have HL := hid hl
  clear hn hs hl
  go_enter Tryz.func66, Tryz.ntmps66
  go_wp2_with fail
  go_loopw [3] (fun i wr => ∃ (k : Nat), k ≤ n ∧ i = .int .i64 k ∧ (l.take k).all validV = true ∧ Ext w wr) (fun i _ => n - (intOf i).toNat)
  case atStart => exact ⟨0, Nat.zero_le _, rfl, rfl, Ext.refl w⟩
  case round =>
    obtain ⟨k, hk, rfl, hv, hxr⟩ := hrel
    have HV := hid hv
    clear hv
    by_cases hlt : k < n
    · obtain ⟨a, ha⟩ : ∃ a, l[k]? = some a := ⟨_, List.getElem?_eq_getElem (by rw [HN.out]; exact hlt)⟩
      obtain ⟨b, off, rfl, c0, c1, c2⟩ := (HL.out.ext hxr) k a ha
      have hsz := HS.out a (List.mem_of_getElem? ha)
      have HFA : Hid (∀ W, Calls Tryz.prog 86 #[.agg #[.int .i64 a.k, .int .i64 a.n, .string a.t]] W fun e w' => e = .returned (.bool (validV a)) ∧ Ext W w') := fun W => rvalid_any a.k a.n a.t W (by omega)
      have HT := hid (take_step ha)
      have HA := hid ha
      have HXR := hid hxr
      clear ha hxr
      go_wp2_with fail
      refine (HFA.out _).mono ?_
      rintro e w1 ⟨rfl, hx1⟩
      have HX1 : Hid (Ext w w1) := HXR.out.trans hx1
      clear hx1
      cases hv : validV a
      · have HR : Hid (rowV l = false) := by
          unfold Hid rowV
          rw [Bool.eq_false_iff]
          intro hall
          rw [List.all_eq_true] at hall
          have := hall a (List.mem_of_getElem? HA.out)
          rw [hv] at this
          cases this
        go_wp2_with fail
        go_ret
        exact ⟨ret_bool HR.out.symm, HX1.out⟩
      · have HVA : Hid ((l.take (k + 1)).all validV = true) := by unfold Hid; rw [HT.out, List.all_append, HV.out]; simp [hv]
        clear hv
        go_wp2_with fail
        go_roundw
        case rel => exact ⟨k + 1, by omega, by go_num, HVA.out, HX1.out⟩
        case measure => simp [intOf]; omega
    · obtain rfl : k = n := by omega
      have HR : Hid (rowV l = true) := by
        have h1 := HV.out
        rw [List.take_of_length_le (by rw [HN.out]; exact Nat.le_refl _)] at h1
        exact h1
      go_wp2_with fail
      go_ret
      exact ⟨ret_bool HR.out.symm, hxr⟩
end Go.Proofs.YtdjdhkbomhendaaGreatDoor
namespace Go.Proofs.YtdjdhkbomhendaaGreatDoor
set_option linter.unusedVariables false
set_option linter.unusedSimpArgs false
open Go.RowKit
set_option maxHeartbeats 1000000
set_option maxRecDepth 100000

def shortR (l : List Val) : Bool := l.all (fun a => decide (a.t.size ≤ 40)) && decide (l.length ≤ 12)
theorem short_any (A : Option Addr) (l : List Val) (n c : Nat) (w : World) (hl : ValsAt w A l) (hn : l.length = n) (hm : n ≤ 9223372036854775807) :
    Calls Tryz.prog 26 #[.slice A n c] w fun e w' => e = .returned (.bool (shortR l)) ∧ Ext w w' := by
  have HN := hid hn
  have HL := hid hl
  clear hn hl
  go_enter Tryz.func26, Tryz.ntmps26
  go_wp2_with fail
  go_loopw [3] (fun i wr => ∃ (k : Nat), k ≤ n ∧ i = .int .i64 k ∧ (l.take k).all (fun a => decide (a.t.size ≤ 40)) = true ∧ Ext w wr) (fun i _ => n - (intOf i).toNat)
  case atStart => exact ⟨0, Nat.zero_le _, rfl, rfl, Ext.refl w⟩
  case round =>
    obtain ⟨k, hk, rfl, hv, hxr⟩ := hrel
    have HV := hid hv
    clear hv
    by_cases hlt : k < n
    · obtain ⟨a, ha⟩ : ∃ a, l[k]? = some a := ⟨_, List.getElem?_eq_getElem (by rw [HN.out]; exact hlt)⟩
      obtain ⟨b, off, rfl, c0, c1, c2⟩ := (HL.out.ext hxr) k a ha
      have HT := hid (take_step ha)
      have HA := hid ha
      have HXR := hid hxr
      clear ha hxr
      by_cases hv : a.t.size ≤ 40
      · have b1 : ¬ (40 : Int) < (a.t.size : Int) := by omega
        have HVA : Hid ((l.take (k + 1)).all (fun a => decide (a.t.size ≤ 40)) = true) := by unfold Hid; rw [HT.out, List.all_append, HV.out]; simp [hv]
        clear hv
        go_wp2_with fail
        go_roundw
        case rel => exact ⟨k + 1, by omega, by go_num, HVA.out, HXR.out⟩
        case measure => simp [intOf]; omega
      · have b1 : (40 : Int) < (a.t.size : Int) := by omega
        have HR : Hid (shortR l = false) := by
          unfold Hid shortR
          have : l.all (fun a => decide (a.t.size ≤ 40)) = false := by
            rw [Bool.eq_false_iff]
            intro hall
            rw [List.all_eq_true] at hall
            have := hall a (List.mem_of_getElem? HA.out)
            exact hv (by simpa using this)
          rw [this]
          rfl
        go_wp2_with fail
        go_ret
        exact ⟨ret_bool HR.out.symm, HXR.out⟩
    · obtain rfl : k = n := by omega
      have HR : Hid (shortR l = decide ((k : Int) ≤ 12)) := by
        have h1 := HV.out
        rw [List.take_of_length_le (by rw [HN.out]; exact Nat.le_refl _)] at h1
        unfold Hid shortR
        rw [h1, HN.out]
        simp
        omega
      go_wp2_with fail
      go_ret
      exact ⟨ret_bool HR.out.symm, hxr⟩
end Go.Proofs.YtdjdhkbomhendaaGreatDoor
namespace Go.Proofs.YtdjdhkbomhendaaGreatDoor
set_option linter.unusedVariables false
set_option linter.unusedSimpArgs false
open Go.RowKit
set_option maxHeartbeats 1000000
set_option maxRecDepth 100000

theorem eqL_take {α : Type} {f : α → α → Bool} : ∀ (l m : List α) (k : Nat) (a b : α), l[k]? = some a → m[k]? = some b → f a b = false → eqL f l m = false
  | [], m, k, a, b, ha, hb, h => by cases ha
  | x :: l, [], k, a, b, ha, hb, h => by cases hb
  | x :: l, y :: m, 0, a, b, ha, hb, h => by
    obtain rfl := Option.some.inj ha
    obtain rfl := Option.some.inj hb
    rw [eqL, h]
    rfl
  | x :: l, y :: m, k + 1, a, b, ha, hb, h => by
    rw [eqL, eqL_take l m k a b ha hb h, Bool.and_false]
theorem eqL_len {α : Type} {f : α → α → Bool} : ∀ l m : List α, l.length ≠ m.length → eqL f l m = false
  | [], [], h => absurd rfl h
  | [], y :: m, h => rfl
  | x :: l, [], h => rfl
  | x :: l, y :: m, h => by rw [eqL, eqL_len l m (by simp at h; exact h), Bool.and_false]
theorem eqL_all {α : Type} {f : α → α → Bool} : ∀ l m : List α, l.length = m.length → (∀ (k : Nat) a b, l[k]? = some a → m[k]? = some b → f a b = true) → eqL f l m = true
  | [], [], _, _ => rfl
  | [], y :: m, h, _ => by cases h
  | x :: l, [], h, _ => by cases h
  | x :: l, y :: m, h, hf => by
    rw [eqL, hf 0 x y rfl rfl, eqL_all l m (by simpa using h) fun k a b ha hb => hf (k + 1) a b ha hb]
    rfl
end Go.Proofs.YtdjdhkbomhendaaGreatDoor
namespace Go.Proofs.YtdjdhkbomhendaaGreatDoor
set_option linter.unusedVariables false
set_option linter.unusedSimpArgs false
open Go.RowKit
set_option maxHeartbeats 1000000
set_option maxRecDepth 100000

theorem rrows_any (A B : Option Addr) (l m : List Val) (n p c d : Nat) (w : World) (hl : ValsAt w A l) (hn : l.length = n) (hm : n ≤ 9223372036854775807) (hl2 : ValsAt w B m) (hp : m.length = p) (hm2 : p ≤ 9223372036854775807) :
    Calls Tryz.prog 79 #[.slice A n c, .slice B p d] w fun e w' => e = .returned (.bool (eqR l m)) ∧ Ext w w' := by
  have HN := hid hn
  have HL := hid hl
  have HP := hid hp
  have HL2 := hid hl2
  clear hn hl hp hl2
  by_cases hne : n = p
  · subst hne
    go_enter Tryz.func79, Tryz.ntmps79
    go_wp2_with fail
    go_loopw [5] (fun i wr => ∃ (k : Nat), k ≤ n ∧ i = .int .i64 k ∧ (∀ (j : Nat) a b, j < k → l[j]? = some a → m[j]? = some b → eqV a b = true) ∧ Ext w wr) (fun i _ => n - (intOf i).toNat)
    case atStart => exact ⟨0, Nat.zero_le _, rfl, fun j a b hj => absurd hj (Nat.not_lt_zero _), Ext.refl w⟩
    case round =>
      obtain ⟨k, hk, rfl, hv, hxr⟩ := hrel
      have HV := hid hv
      clear hv
      by_cases hlt : k < n
      · obtain ⟨a, ha⟩ : ∃ a, l[k]? = some a := ⟨_, List.getElem?_eq_getElem (by rw [HN.out]; exact hlt)⟩
        obtain ⟨b, hb⟩ : ∃ b, m[k]? = some b := ⟨_, List.getElem?_eq_getElem (by rw [HP.out]; exact hlt)⟩
        obtain ⟨b1, off, rfl, c0, c1, c2⟩ := (HL.out.ext hxr) k a ha
        obtain ⟨b2, off2, rfl, d0, d1, d2⟩ := (HL2.out.ext hxr) k b hb
        have HA := hid ha
        have HB := hid hb
        have HXR := hid hxr
        clear ha hb hxr
        have hcs : (a.k = b.k ∧ a.n = b.n ∧ a.t = b.t) ∨ ¬ (a.k = b.k ∧ a.n = b.n ∧ a.t = b.t) := Classical.em _
        rcases hcs with ⟨q1, q2, q3⟩ | hcs
        · have HE : Hid (eqV a b = true) := by unfold Hid eqV; simp [q1, q2, q3]
          go_wp2_with fail
          go_region_held3 (fun w' => w'.cell? ⟨b1, off + k * 3, none⟩ = some (.int .i64 a.k) ∧ w'.cell? ⟨b1, off + k * 3 + 1, none⟩ = some (.int .i64 a.n) ∧ w'.cell? ⟨b1, off + k * 3 + 2, none⟩ = some (.string a.t) ∧
            w'.cell? ⟨b2, off2 + k * 3, none⟩ = some (.int .i64 b.k) ∧ w'.cell? ⟨b2, off2 + k * 3 + 1, none⟩ = some (.int .i64 b.n) ∧ w'.cell? ⟨b2, off2 + k * 3 + 2, none⟩ = some (.string b.t)) (go_keep) (fail)
          go_wp2_with fail
          go_roundw
          case rel => exact ⟨k + 1, by omega, by go_num, fun j x y hj hx hy => by
            by_cases hjk : j = k
            · subst hjk
              rw [HA.out] at hx
              rw [HB.out] at hy
              obtain rfl := Option.some.inj hx
              obtain rfl := Option.some.inj hy
              exact HE.out
            · exact HV.out j x y (by omega) hx hy, HXR.out.drew⟩
          case measure => simp [intOf]; omega
        · have HR : Hid (eqR l m = false) := eqL_take l m k a b HA.out HB.out (by
            rw [Bool.eq_false_iff]
            intro h
            obtain rfl := eqV_iff.1 h
            exact hcs ⟨rfl, rfl, rfl⟩)
          by_cases r1 : a.k = b.k
          · by_cases r2 : a.n = b.n
            · have r3 : ¬ a.t = b.t := fun h => hcs ⟨r1, r2, h⟩
              have r4 : (a.t.toList == b.t.toList) = false := by
                rw [beq_eq_false_iff_ne]
                intro h
                rw [ByteArray.toList_eq, ByteArray.toList_eq] at h
                exact r3 (t_inj h)
              clear hcs
              go_wp2_with fail
              go_region_held3 (fun w' => w'.cell? ⟨b1, off + k * 3, none⟩ = some (.int .i64 a.k) ∧ w'.cell? ⟨b1, off + k * 3 + 1, none⟩ = some (.int .i64 a.n) ∧ w'.cell? ⟨b1, off + k * 3 + 2, none⟩ = some (.string a.t) ∧
            w'.cell? ⟨b2, off2 + k * 3, none⟩ = some (.int .i64 b.k) ∧ w'.cell? ⟨b2, off2 + k * 3 + 1, none⟩ = some (.int .i64 b.n) ∧ w'.cell? ⟨b2, off2 + k * 3 + 2, none⟩ = some (.string b.t)) (go_keep) (fail)
              go_wp2_with fail
              go_ret
              exact ⟨ret_bool HR.out.symm, HXR.out.drew⟩
            · clear hcs
              go_wp2_with fail
              go_region_held3 (fun w' => w'.cell? ⟨b1, off + k * 3, none⟩ = some (.int .i64 a.k) ∧ w'.cell? ⟨b1, off + k * 3 + 1, none⟩ = some (.int .i64 a.n) ∧ w'.cell? ⟨b1, off + k * 3 + 2, none⟩ = some (.string a.t) ∧
            w'.cell? ⟨b2, off2 + k * 3, none⟩ = some (.int .i64 b.k) ∧ w'.cell? ⟨b2, off2 + k * 3 + 1, none⟩ = some (.int .i64 b.n) ∧ w'.cell? ⟨b2, off2 + k * 3 + 2, none⟩ = some (.string b.t)) (go_keep) (fail)
              go_wp2_with fail
              go_ret
              exact ⟨ret_bool HR.out.symm, HXR.out.drew⟩
          · clear hcs
            go_wp2_with fail
            go_region_held3 (fun w' => w'.cell? ⟨b1, off + k * 3, none⟩ = some (.int .i64 a.k) ∧ w'.cell? ⟨b1, off + k * 3 + 1, none⟩ = some (.int .i64 a.n) ∧ w'.cell? ⟨b1, off + k * 3 + 2, none⟩ = some (.string a.t) ∧
            w'.cell? ⟨b2, off2 + k * 3, none⟩ = some (.int .i64 b.k) ∧ w'.cell? ⟨b2, off2 + k * 3 + 1, none⟩ = some (.int .i64 b.n) ∧ w'.cell? ⟨b2, off2 + k * 3 + 2, none⟩ = some (.string b.t)) (go_keep) (fail)
            go_wp2_with fail
            go_ret
            exact ⟨ret_bool HR.out.symm, HXR.out.drew⟩
      · obtain rfl : k = n := by omega
        have HR : Hid (eqR l m = true) := eqL_all l m (by rw [HN.out, HP.out]) fun j a b ha hb => HV.out j a b (by
          have := (List.getElem?_eq_some_iff.1 ha).1
          rw [HN.out] at this
          exact this) ha hb
        go_wp2_with fail
        go_ret
        exact ⟨ret_bool HR.out.symm, hxr⟩
  · have b0 : ((n : Int) == (p : Int)) = false := by simp; omega
    have HR : Hid (eqR l m = false) := eqL_len l m (by rw [HN.out, HP.out]; exact hne)
    go_enter Tryz.func79, Tryz.ntmps79
    go_wp2_with fail
    go_ret
    exact ⟨ret_bool HR.out.symm, Ext.refl w⟩
end Go.Proofs.YtdjdhkbomhendaaGreatDoor
