/-
  Walks over the value package's reference: Literal, Text.
-/
import Derived.Test.YtkldgehnioapcaaDoorW14
namespace Go.Proofs.YtkldgehnioapcaaDoor
open Go.RowKit
set_option maxHeartbeats 1000000
set_option maxRecDepth 100000

theorem take1 (t : ByteArray) (k : Nat) (h : k < t.size) : t.data.toList.take (k + 1) = t.data.toList.take k ++ [t[k]] := by
  have hk' : k < t.data.toList.length := by simpa using h
  rw [List.take_succ_eq_append_getElem hk']
  rfl
theorem ext1 (t : ByteArray) (k : Nat) (h : k < t.size) : (t.extract k (k + 1)).data.toList = [t[k]] := by
  have hk' : k < t.data.toList.length := by simpa using h
  rw [Lib.extract_data]
  have : t.data.toList.drop k = t.data.toList[k] :: t.data.toList.drop (k + 1) := List.drop_eq_getElem_cons hk'
  rw [show k + 1 - k = 1 by omega, this]
  rfl
theorem lit_text (t : ByteArray) (w : World) (hs : t.size ≤ 1000) (hv : validV ⟨2, 0, t⟩ = true) :
    Calls Tryd.prog 28 #[.agg #[.int .i64 2, .int .i64 0, .string t]] w fun e w' => e = .returned (.string (⟨#[39]⟩ ++ quoB t ++ ⟨#[39]⟩)) ∧ Ext w w' := by
  go_enter Tryd.func28, Tryd.ntmps28
  go_wp2_with fail
  refine (rvalid_any 2 0 t _ (by omega)).mono ?_
  rintro e w1 ⟨rfl, hx1⟩
  obtain ⟨c0, c1, c2⟩ := box3 hx1
  have HX1 : Hid (Ext w w1) := ((Ext.refl w).alloc _).trans hx1
  rw [hv]
  clear hx1 hv
  go_wp2_with fail
  go_loop [3, 4] (fun sv i => ∃ (k : Nat) (X : ByteArray), k ≤ t.size ∧ i = .int .i64 k ∧ sv = .string X ∧ X.data.toList = 39 :: quo (t.data.toList.take k)) (fun _ i => t.size - (intOf i).toNat)
  case atStart => exact ⟨0, ⟨#[39]⟩, Nat.zero_le _, rfl, rfl, rfl⟩
  case round =>
    obtain ⟨k, X, hk, rfl, rfl, hX⟩ := hrel
    have hXs : X.size ≤ 2001 := by
      have h1 := quo_len (t.data.toList.take k)
      have h2 : (t.data.toList.take k).length ≤ k := List.length_take_le _ _
      have : X.size = X.data.toList.length := rfl
      rw [this, hX, List.length_cons]
      omega
    have HX := hid hX
    clear hX
    by_cases hlt : k < t.size
    · have E1 := hid (ext1 t k hlt)
      have e2 : (t.extract k (k + 1)).size = 1 := by
        show (t.extract k (k + 1)).data.toList.length = 1
        rw [ext1 t k hlt]; rfl
      have HT := hid (take1 t k hlt)
      by_cases hq : t[k].toNat = 39
      · have b1 : ((t[k].toNat : Int) == 39) = true := by simp [hq]
        have HQ : Hid (t[k] = 39) := UInt8.toNat_inj.1 hq
        clear hq
        go_wp2_with fail
        go_round
        case rel =>
          refine ⟨k + 1, _, by omega, by go_num, rfl, ?_⟩
          rw [HT.out, quo_app, ByteArray.data_append, Array.toList_append, ByteArray.data_append, Array.toList_append, HX.out, E1.out, HQ.out]
          simp [quo]
        case measure => simp [intOf]; omega
      · have b1 : ((t[k].toNat : Int) == 39) = false := by simp; omega
        have HQ : Hid (¬ t[k] = 39) := fun e => hq (by rw [e]; rfl)
        clear hq
        go_wp2_with fail
        go_round
        case rel =>
          refine ⟨k + 1, _, by omega, by go_num, rfl, ?_⟩
          rw [HT.out, quo_app, ByteArray.data_append, Array.toList_append, HX.out, E1.out]
          simp [quo, HQ.out]
        case measure => simp [intOf]; omega
    · obtain rfl : k = t.size := by omega
      have HR : Hid (X = ⟨#[39]⟩ ++ quoB t) := by
        apply t_inj
        rw [HX.out, List.take_of_length_le (by simp)]
        simp [quoB]
      go_wp2_with fail
      go_ret
      exact ⟨ret_str (by rw [HR.out]), HX1.out⟩

theorem lit_any (k n : Int) (t : ByteArray) (w : World) (hs : t.size ≤ 1000) (hn : -9223372036854775808 ≤ n ∧ n ≤ 9223372036854775807) :
    Calls Tryd.prog 28 #[.agg #[.int .i64 k, .int .i64 n, .string t]] w fun e w' => e = .returned (.string (fmtV ⟨k, n, t⟩)) ∧ Ext w w' := by
  have HE : Hid (fmtV ⟨k, n, t⟩ = if validV ⟨k, n, t⟩ = true then (if k = 0 then ⟨#[78, 85, 76, 76]⟩ else if k = 1 then itoB n else ⟨#[39]⟩ ++ quoB t ++ ⟨#[39]⟩) else ⟨#[]⟩) := rfl
  have HS : Hid (t.size ≤ 9223372036854775807) := by unfold Hid; omega
  have HNN := hid hn
  clear hn
  cases hv : validV ⟨k, n, t⟩
  · have HV := hid hv
    go_enter Tryd.func28, Tryd.ntmps28
    go_wp2_with fail
    refine (rvalid_any k n t _ HS.out).mono ?_
    rintro e w1 ⟨rfl, hx1⟩
    rw [hv]
    go_wp2_with fail
    go_ret
    exact ⟨ret_str (by rw [HE.out, HV.out]; rfl), ((Ext.refl w).alloc _).trans hx1⟩
  · have HV := hid hv
    by_cases h0 : k = 0
    · have b0 : (k == 0) = true := by simp [h0]
      have H0 := hid h0
      clear h0
      go_enter Tryd.func28, Tryd.ntmps28
      go_wp2_with fail
      refine (rvalid_any k n t _ HS.out).mono ?_
      rintro e w1 ⟨rfl, hx1⟩
      obtain ⟨c0, c1, c2⟩ := box3 hx1
      rw [hv]
      clear hv
      go_wp2_with fail
      go_ret
      exact ⟨ret_str (by rw [HE.out, HV.out, if_pos rfl, if_pos H0.out]), ((Ext.refl w).alloc _).trans hx1⟩
    · by_cases h1 : k = 1
      · have b0 : (k == 0) = false := by simp [h0]
        have b1 : (k == 1) = true := by simp [h1]
        have H0 : Hid (¬ k = 0) := h0
        have H1 := hid h1
        clear h0 h1
        go_enter Tryd.func28, Tryd.ntmps28
        go_wp2_with fail
        refine (rvalid_any k n t _ HS.out).mono ?_
        rintro e w1 ⟨rfl, hx1⟩
        obtain ⟨c0, c1, c2⟩ := box3 hx1
        rw [hv]
        clear hv
        go_wp2_with fail
        refine (num_any n _ HNN.out.1 HNN.out.2).mono ?_
        rintro e w2 ⟨rfl, hx2⟩
        go_wp2_with fail
        go_ret
        exact ⟨ret_str (by rw [HE.out, HV.out, if_pos rfl, if_neg H0.out, if_pos H1.out]), (((Ext.refl w).alloc _).trans hx1).trans hx2⟩
      · have hk2 : k = 2 := by
          rcases validV_k hv with h | h | h
          · exact absurd h h0
          · exact absurd h h1
          · exact h
        subst hk2
        have hn0 : n = 0 := by
          have h := hv
          unfold validV at h
          rw [if_neg (by dsimp only; omega), if_neg (by dsimp only; omega), if_pos rfl] at h
          simp only [Bool.and_eq_true, decide_eq_true_eq] at h
          exact h.1.1
        subst hn0
        have HQ : Hid (fmtV ⟨2, 0, t⟩ = ⟨#[39]⟩ ++ quoB t ++ ⟨#[39]⟩) := by unfold Hid; rw [HE.out, HV.out, if_pos rfl, if_neg h0, if_neg h1]
        rw [HQ.out]
        exact lit_text t w hs hv

end Go.Proofs.YtkldgehnioapcaaDoor
