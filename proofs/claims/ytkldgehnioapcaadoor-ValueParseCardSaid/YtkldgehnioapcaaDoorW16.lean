/-
  Walks over the value package's reference: Text.
-/
import Derived.Test.YtkldgehnioapcaaDoorW15
namespace Go.Proofs.YtkldgehnioapcaaDoor
open Go.RowKit
set_option maxHeartbeats 1000000
set_option maxRecDepth 100000

theorem joinTail_snoc (sep : List UInt8) (r : List (List UInt8)) (y : List UInt8) : Lib.joinTail sep (r ++ [y]) = Lib.joinTail sep r ++ (sep ++ y) := by simp [Lib.joinTail]
theorem join_snoc (xs : List (List UInt8)) (y sep : List UInt8) (h : xs ≠ []) : Lib.join (xs ++ [y]) sep = Lib.join xs sep ++ (sep ++ y) := by
  match xs, h with
  | x :: r, _ =>
    rw [List.cons_append, Lib.join_cons, Lib.join_cons, joinTail_snoc, List.append_assoc]
/-- the first k values' texts, joined -/
def jn (l : List Val) (k : Nat) : List UInt8 := Lib.join ((fmtS (l.take k)).map (·.data.toList)) [44, 32]
theorem jn_zero (l : List Val) : jn l 0 = [] := by unfold jn; rw [List.take_zero]; exact Lib.join_nil _
theorem jn_len (w : World) (l : List Val) (k : Nat) (h : ∀ a ∈ l, Can w a.n) : (jn l k).length ≤ 42 * k := by
  unfold jn
  have h1 := join_len [44, 32] 40 ((fmtS (l.take k)).map (·.data.toList)) (fun x hx => by
    rw [List.mem_map] at hx
    obtain ⟨y, hy, rfl⟩ := hx
    unfold fmtS at hy
    rw [List.mem_map] at hy
    obtain ⟨a, ha, rfl⟩ := hy
    exact fmtV_size w a (h a (List.mem_of_mem_take ha)))
  rw [List.length_map] at h1
  have h2 : (fmtS (l.take k)).length ≤ k := by unfold fmtS; rw [List.length_map]; exact List.length_take_le _ _
  have h3 : (fmtS (l.take k)).length * (40 + [(44 : UInt8), 32].length) ≤ k * 42 := Nat.mul_le_mul h2 (Nat.le_refl _)
  omega
theorem jn_step (l : List Val) (k : Nat) (a : Val) (h : l[k]? = some a) : jn l (k + 1) = (if k = 0 then [] else jn l k ++ [44, 32]) ++ (fmtV a).data.toList := by
  obtain ⟨hi, rfl⟩ := List.getElem?_eq_some_iff.1 h
  have e : (fmtS (l.take (k + 1))).map (·.data.toList) = (fmtS (l.take k)).map (·.data.toList) ++ [(fmtV l[k]).data.toList] := by
    rw [List.take_succ_eq_append_getElem hi]
    unfold fmtS
    rw [List.map_append, List.map_append]
    rfl
  unfold jn
  rw [e]
  by_cases hk : k = 0
  · subst hk
    rw [if_pos rfl, List.take_zero]
    exact Lib.join_one _ _
  · rw [if_neg hk, join_snoc _ _ _ ?_, List.append_assoc]
    intro h0
    have := congrArg List.length h0
    rw [List.length_map] at this
    unfold fmtS at this
    rw [List.length_map, List.length_take, List.length_nil] at this
    omega

theorem rtext_any (A : Option Addr) (l : List Val) (n c : Nat) (w : World) (hl : ValsAt w A l) (hn : l.length = n) (hm : n ≤ 1000) (hs : ∀ a ∈ l, a.t.size ≤ 1000) (hc : ∀ a ∈ l, Can w a.n) :
    Calls Tryd.prog 30 #[.slice A n c] w fun e w' => e = .returned (.string (fmtRow l)) ∧ Ext w w' := by
  have HN := hid hn
  have HS := hid hs
  have HC := hid hc
  have HL := hid hl
  clear hn hs hc hl
  go_enter Tryd.func30, Tryd.ntmps30
  go_wp2_with fail
  go_loopw [3, 4] (fun sv i wr => ∃ (k : Nat) (X : ByteArray), k ≤ n ∧ i = .int .i64 k ∧ sv = .string X ∧ X.data.toList = jn l k ∧ (l.take k).all validV = true ∧ Ext w wr) (fun _ i _ => n - (intOf i).toNat)
  case atStart => exact ⟨0, ⟨#[]⟩, Nat.zero_le _, rfl, rfl, (jn_zero l).symm, rfl, Ext.refl w⟩
  case round =>
    obtain ⟨k, X, hk, rfl, rfl, hX, hv, hxr⟩ := hrel
    have hXs : X.size ≤ 42000 := by
      have h1 := jn_len w l k HC.out
      have : X.size = X.data.toList.length := rfl
      rw [this, hX]
      omega
    have HXX := hid hX
    have HV := hid hv
    clear hv hX
    by_cases hlt : k < n
    · obtain ⟨a, ha⟩ : ∃ a, l[k]? = some a := ⟨_, List.getElem?_eq_getElem (by rw [HN.out]; exact hlt)⟩
      obtain ⟨b, off, rfl, c0, c1, c2⟩ := (HL.out.ext hxr) k a ha
      have hsz := HS.out a (List.mem_of_getElem? ha)
      have hcn := (HC.out a (List.mem_of_getElem? ha))
      obtain ⟨F, hF⟩ : ∃ F, F = fmtV a := ⟨_, rfl⟩
      have hfs : F.size ≤ 40 := by rw [hF]; exact fmtV_size w a hcn
      have hfa : ∀ W, Calls Tryd.prog 28 #[.agg #[.int .i64 a.k, .int .i64 a.n, .string a.t]] W fun e w' => e = .returned (.string F) ∧ Ext W w' := fun W => by rw [hF]; exact lit_any a.k a.n a.t W hsz hcn.bd
      have HE : Hid (F.toList.isEmpty = !(validV a)) := by rw [hF]; exact fmtV_empty a
      have HJ : Hid (jn l (k + 1) = (if k = 0 then [] else jn l k ++ [44, 32]) ++ F.data.toList) := by rw [hF]; exact jn_step l k a ha
      have HFA := hid hfa
      have HF := hid hF
      have HT : Hid (l.take (k + 1) = l.take k ++ [a]) := by
        obtain ⟨hi, rfl⟩ := List.getElem?_eq_some_iff.1 ha
        exact List.take_succ_eq_append_getElem hi
      have HA := hid ha
      have HXR := hid hxr
      clear ha hxr hF hfa hcn
      go_wp2_with fail
      refine (HFA.out _).mono ?_
      rintro e w1 ⟨rfl, hx1⟩
      have HX1 : Hid (Ext w w1) := HXR.out.trans hx1
      clear hx1
      cases hv : validV a
      · have he : F.toList.isEmpty = true := by rw [HE.out, hv]; rfl
        have HR : Hid (fmtRow l = ⟨#[]⟩) := by
          unfold Hid fmtRow
          rw [if_neg]
          intro hall
          rw [List.all_eq_true] at hall
          have := hall a (List.mem_of_getElem? HA.out)
          rw [hv] at this
          cases this
        go_wp2_with fail
        go_ret
        exact ⟨ret_str HR.out.symm, HX1.out⟩
      · have he : F.toList.isEmpty = false := by rw [HE.out, hv]; rfl
        have HVA : Hid ((l.take (k + 1)).all validV = true) := by unfold Hid; rw [HT.out, List.all_append, HV.out]; simp [hv]
        clear hv
        by_cases h0 : k = 0
        · have b0 : ¬ (0 : Int) < (k : Int) := by omega
          have HJ2 : Hid (jn l (k + 1) = X.data.toList ++ F.data.toList) := by
            unfold Hid
            rw [HJ.out, if_pos h0, HXX.out, h0, jn_zero]
          have H0 := hid h0
          clear h0
          go_wp2_with fail
          go_roundw
          case rel => exact ⟨k + 1, _, by omega, by go_num, rfl, by rw [HJ2.out, ByteArray.data_append, Array.toList_append], HVA.out, HX1.out⟩
          case measure => simp [intOf]; omega
        · have b0 : (0 : Int) < (k : Int) := by omega
          have HJ2 : Hid (jn l (k + 1) = X.data.toList ++ [44, 32] ++ F.data.toList) := by
            unfold Hid
            rw [HJ.out, if_neg h0, HXX.out]
          clear h0
          go_wp2_with fail
          go_roundw
          case rel => exact ⟨k + 1, _, by omega, by go_num, rfl, by rw [HJ2.out, ByteArray.data_append, Array.toList_append, ByteArray.data_append, Array.toList_append], HVA.out, HX1.out⟩
          case measure => simp [intOf]; omega
    · obtain rfl : k = n := by omega
      have HR : Hid (fmtRow l = ⟨#[40]⟩ ++ X ++ ⟨#[41]⟩) := by
        have h1 := HV.out
        have h2 := HXX.out
        unfold jn at h2
        rw [List.take_of_length_le (by rw [HN.out]; exact Nat.le_refl _)] at h1 h2
        have e : X = ⟨(Lib.join ((fmtS l).map (·.data.toList)) [44, 32]).toArray⟩ := t_inj (by rw [h2])
        unfold Hid fmtRow
        rw [if_pos h1, ← e]
      go_wp2_with fail
      go_ret
      exact ⟨ret_str HR.out.symm, hxr⟩

end Go.Proofs.YtkldgehnioapcaaDoor
