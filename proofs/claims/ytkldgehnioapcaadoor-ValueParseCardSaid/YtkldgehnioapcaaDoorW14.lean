/-
  Walks over the value package's reference: Num.
-/
import Derived.Test.YtkldgehnioapcaaDoorW7
namespace Go.Proofs.YtkldgehnioapcaaDoor
open Go.RowKit
set_option maxHeartbeats 1000000
set_option maxRecDepth 100000

theorem S_data (l : List Nat) : (S l).data.toList = l.map UInt8.ofNat := by simp [S]
theorem dec_small {u : Nat} (h : u < 10) : Lib.decDigits u = [UInt8.ofNat (48 + u)] := by rw [Lib.decDigits, dif_pos h]
theorem dec_big {u : Nat} (h : ¬ u < 10) : Lib.decDigits u = Lib.decDigits (u / 10) ++ [UInt8.ofNat (48 + u % 10)] := by rw [Lib.decDigits, dif_neg h]
theorem dec_len (u : Nat) (h : u < 18446744073709551616) : (Lib.decDigits u).length ≤ 20 := by rw [Lib.decDigits_length]; exact Lib.nDigits_le20 u h

theorem num_pos (n : Int) (w : World) (h0 : 0 ≤ n) (h1 : n ≤ 9223372036854775807) :
    Calls Tryd.prog 49 #[.int .i64 n] w fun e w' => e = .returned (.string (itoB n)) ∧ Ext w w' := by
  obtain ⟨M, rfl⟩ : ∃ M : Nat, n = (M : Int) := ⟨n.toNat, by omega⟩
  have HI : Hid (itoB (M : Int) = ⟨(Lib.decDigits M).toArray⟩) := by
    unfold Hid itoB Lib.itoa
    rw [if_neg (by omega)]
    rfl
  have HD := hid (dec_len M (by omega))
  have hM2 : M ≤ 9223372036854775807 := by omega
  go_enter Tryd.func49, Tryd.ntmps49
  go_wp2_with fail
  go_loopw [3, 5] (fun uv sv wr => ∃ (U : Nat) (X : ByteArray), U ≤ M ∧ uv = .int .u64 (U : Int) ∧ sv = .string X ∧ Lib.decDigits M = Lib.decDigits U ++ X.data.toList ∧ Ext w wr) (fun uv _ _ => (intOf uv).toNat)
  case atStart => exact ⟨M, ⟨#[]⟩, Nat.le_refl _, rfl, rfl, by simp, Ext.refl w⟩
  case round =>
    obtain ⟨U, X, hUM, rfl, rfl, hd2, hxr⟩ := hrel
    have HX := hid hxr
    have hXs : X.size ≤ 20 := by
      have h1 := HD.out
      rw [hd2, List.length_append] at h1
      have : X.size = X.data.toList.length := rfl
      omega
    have hcv := conv_one (P := Tryd.prog) 70 9 5 (48 + U % 10) Tryd.underlying70 Tryd.underlying5 Tryd.underlying9
    have hcast : ((48 + U % 10 : Nat) : Int) = 48 + (U : Int) % 10 := by omega
    rw [hcast] at hcv
    have hs1 : (S [48 + U % 10]).size = 1 := rfl
    have hSd : Hid ((S [48 + U % 10]).data.toList = [UInt8.ofNat (48 + U % 10)]) := S_data _
    have HD2 := hid hd2
    clear hd2 hxr hcast
    generalize S [48 + U % 10] = C at *
    by_cases h9 : U < 10
    · have hq : (U : Int) / 10 = 0 := by omega
      have HR : Hid ((⟨(Lib.decDigits M).toArray⟩ : ByteArray) = C ++ X) := by
        apply t_inj
        show Lib.decDigits M = _
        rw [HD2.out, dec_small h9, ByteArray.data_append, Array.toList_append, hSd.out, Nat.mod_eq_of_lt h9]
      have b0 : (((U : Int) / 10) == 0) = true := by rw [hq]; rfl
      clear h9
      go_wp2_with fail
      go_ret
      exact ⟨ret_str (by rw [HI.out, HR.out]; apply t_inj; simp), HX.out.alloc _⟩
    · have b0 : (((U : Int) / 10) == 0) = false := by simp; omega
      have HQ : Hid (Lib.decDigits M = Lib.decDigits (U / 10) ++ (C ++ X).data.toList) := by
        unfold Hid
        rw [HD2.out, dec_big h9, ByteArray.data_append, Array.toList_append, hSd.out, List.append_assoc]
      have H9 : Hid (¬ U < 10) := h9
      clear h9
      go_wp2_with fail
      go_roundw
      case rel =>
        have := H9.out
        exact ⟨U / 10, _, by omega, by go_num, rfl, HQ.out, HX.out.alloc _⟩
      case measure => have := H9.out; simp [intOf]; omega

theorem num_neg (n : Int) (w : World) (h0 : n < 0) (h1 : -9223372036854775808 ≤ n) :
    Calls Tryd.prog 49 #[.int .i64 n] w fun e w' => e = .returned (.string (itoB n)) ∧ Ext w w' := by
  obtain ⟨M, hM⟩ : ∃ M : Nat, n = -(M : Int) := ⟨n.natAbs, by omega⟩
  have HI : Hid (itoB n = ⟨#[45]⟩ ++ ⟨(Lib.decDigits M).toArray⟩) := by
    have e : n.natAbs = M := by omega
    unfold Hid itoB Lib.itoa
    rw [if_pos (by omega), e]
    apply t_inj
    simp
  have HD := hid (dec_len M (by omega))
  have hM2 : M ≤ 9223372036854775808 := by omega
  have hw : IntKind.u64.wrap (-(IntKind.u64.wrap n)) = (M : Int) := by
    simp [IntKind.wrap, IntKind.bits, IntKind.signed]
    omega
  have hM1 : 1 ≤ M := by omega
  clear hM
  go_enter Tryd.func49, Tryd.ntmps49
  go_wp2_with fail
  go_loopw [3, 5] (fun uv sv wr => ∃ (U : Nat) (X : ByteArray), U ≤ M ∧ uv = .int .u64 (U : Int) ∧ sv = .string X ∧ Lib.decDigits M = Lib.decDigits U ++ X.data.toList ∧ Ext w wr) (fun uv _ _ => (intOf uv).toNat)
  case atStart => exact ⟨M, ⟨#[]⟩, Nat.le_refl _, rfl, rfl, by simp, Ext.refl w⟩
  case round =>
    obtain ⟨U, X, hUM, rfl, rfl, hd2, hxr⟩ := hrel
    have HX := hid hxr
    have hXs : X.size ≤ 20 := by
      have h1 := HD.out
      rw [hd2, List.length_append] at h1
      have : X.size = X.data.toList.length := rfl
      omega
    have hcv := conv_one (P := Tryd.prog) 70 9 5 (48 + U % 10) Tryd.underlying70 Tryd.underlying5 Tryd.underlying9
    have hcast : ((48 + U % 10 : Nat) : Int) = 48 + (U : Int) % 10 := by omega
    rw [hcast] at hcv
    have hs1 : (S [48 + U % 10]).size = 1 := rfl
    have hSd : Hid ((S [48 + U % 10]).data.toList = [UInt8.ofNat (48 + U % 10)]) := S_data _
    have HD2 := hid hd2
    clear hd2 hxr hcast
    generalize S [48 + U % 10] = C at *
    by_cases h9 : U < 10
    · have hq : (U : Int) / 10 = 0 := by omega
      have HR : Hid ((⟨(Lib.decDigits M).toArray⟩ : ByteArray) = C ++ X) := by
        apply t_inj
        show Lib.decDigits M = _
        rw [HD2.out, dec_small h9, ByteArray.data_append, Array.toList_append, hSd.out, Nat.mod_eq_of_lt h9]
      have b0 : (((U : Int) / 10) == 0) = true := by rw [hq]; rfl
      clear h9
      go_wp2_with fail
      go_ret
      exact ⟨ret_str (by rw [HI.out, HR.out]), HX.out.alloc _⟩
    · have b0 : (((U : Int) / 10) == 0) = false := by simp; omega
      have HQ : Hid (Lib.decDigits M = Lib.decDigits (U / 10) ++ (C ++ X).data.toList) := by
        unfold Hid
        rw [HD2.out, dec_big h9, ByteArray.data_append, Array.toList_append, hSd.out, List.append_assoc]
      have H9 : Hid (¬ U < 10) := h9
      clear h9
      go_wp2_with fail
      go_roundw
      case rel =>
        have := H9.out
        exact ⟨U / 10, _, by omega, by go_num, rfl, HQ.out, HX.out.alloc _⟩
      case measure => have := H9.out; simp [intOf]; omega

theorem num_any (n : Int) (w : World) (h0 : -9223372036854775808 ≤ n) (h1 : n ≤ 9223372036854775807) :
    Calls Tryd.prog 49 #[.int .i64 n] w fun e w' => e = .returned (.string (itoB n)) ∧ Ext w w' := by
  by_cases h : n < 0
  · exact num_neg n w h h0
  · exact num_pos n w (by omega) h1

end Go.Proofs.YtkldgehnioapcaaDoor
