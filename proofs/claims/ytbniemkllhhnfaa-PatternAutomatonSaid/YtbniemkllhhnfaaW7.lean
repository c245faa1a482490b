/-
  Walks over the references of the pattern package: step of a comparison, final.
-/
import Derived.Test.YtbniemkllhhnfaaW5
namespace Go.Proofs.Ytbniemkllhhnfaa
open Go.RowKit
set_option maxHeartbeats 1000000
set_option maxRecDepth 100000

theorem step_dec (v kd : Int) (ng : Bool) (p s : ByteArray) (c : Nat) (w : World) (hkd : (kd == 1) = false) (hsz : 0 < s.size) (h0 : ((s[0].toNat : Int) != 61) = true) :
    Calls Try.prog 37 #[.agg #[.int .i64 v, .int .i64 kd, .bool ng, .string p], .string s, .int .u8 c] w fun e w' => e = .returned (.string s) ∧ Ext w w' := by
  go_enter Try.func37, Try.ntmps37
  go_wp2_with fail
  go_ret
  exact ⟨rfl, (Ext.refl w).alloc _⟩

theorem step_eq (v kd : Int) (ng : Bool) (p s : ByteArray) (c i : Nat) (w : World) (hs : p.size ≤ 16) (hkd : (kd == 1) = false) (hsz : 1 < s.size) (h0 : ((s[0].toNat : Int) != 61) = false) (hi : i ≤ p.size) (hs1 : s[1].toNat = i) :
    Calls Try.prog 37 #[.agg #[.int .i64 v, .int .i64 kd, .bool ng, .string p], .string s, .int .u8 c] w fun e w' => e = .returned (.string (S (rnCmp (N p) [61, i] c))) ∧ Ext w w' := by
  have hcv := conv_one (P := Try.prog) 57 9 5 (i + 1) Try.underlying57 Try.underlying5 Try.underlying9
  have hcv' : Hid ((((i + 1 : Nat) : Int)) = (i : Int) + 1) := by simp [Hid]
  rw [hcv'.out] at hcv
  clear hcv'
  have hfin := hid (rnCmp_eq (N p) i c)
  by_cases h1 : i = p.size
  · have b1 : ((i : Int) == (p.size : Int)) = true := by simp [h1]
    have hf2 : Hid (rnCmp (N p) [61, i] c = [62]) := by rw [hfin.out, if_pos (.inl (by rw [N_len]; exact h1))]; exact rfl
    clear h1
    go_enter Try.func37, Try.ntmps37
    go_wp2_with fail
    go_ret
    exact ⟨ret_str (by rw [hf2.out]; rfl), (Ext.refl w).alloc _⟩
  · have hip : i < p.size := by omega
    have b1 : ((i : Int) == (p.size : Int)) = false := by simp; omega
    have hf2 : Hid (rnCmp (N p) [61, i] c = if p[i].toNat < c then [62] else if c < p[i].toNat then [60] else [61, i + 1]) := by
      rw [hfin.out, N_len, at0_N p i hip]
      simp [h1, Hid]
    clear h1 hfin
    by_cases h2 : p[i].toNat < c
    · have hf3 : Hid (rnCmp (N p) [61, i] c = [62]) := by rw [hf2.out, if_pos h2]; exact rfl
      go_enter Try.func37, Try.ntmps37
      go_wp2_with fail
      go_ret
      exact ⟨ret_str (by rw [hf3.out]; rfl), (Ext.refl w).alloc _⟩
    · by_cases h3 : c < p[i].toNat
      · have hf3 : Hid (rnCmp (N p) [61, i] c = [60]) := by rw [hf2.out, if_neg h2, if_pos h3]; exact rfl
        go_enter Try.func37, Try.ntmps37
        go_wp2_with fail
        go_ret
        exact ⟨ret_str (by rw [hf3.out]; rfl), (Ext.refl w).alloc _⟩
      · have hf3 : Hid (rnCmp (N p) [61, i] c = [61, i + 1]) := by rw [hf2.out, if_neg h2, if_neg h3]; exact rfl
        go_enter Try.func37, Try.ntmps37
        go_wp2_with fail
        go_ret
        exact ⟨ret_str (by rw [hf3.out, S_cons 61 [i + 1]]; rfl), ((Ext.refl w).alloc _).alloc _⟩

theorem final_like (v : Int) (ng : Bool) (p s : ByteArray) (w : World) (_hs : p.size ≤ 16) (hsz : p.size < s.size) :
    Calls Try.prog 38 #[.agg #[.int .i64 v, .int .i64 1, .bool ng, .string p], .string s] w fun e w' => e = .returned (.bool ((s[p.size].toNat == 1) != ng)) ∧ Ext w w' := by
  have e1 : ((s[p.size].toNat : Int) == 1) = (s[p.size].toNat == 1) := ibeq _ 1
  go_enter Try.func38, Try.ntmps38
  go_wp2_with fail
  go_ret
  exact ⟨ret_bool (by grind), (Ext.refl w).alloc _⟩

end Go.Proofs.Ytbniemkllhhnfaa
