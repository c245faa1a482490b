/-
  Walks over the laws of the lexer: LexerCase.
-/
import Derived.Test.YtmnjfhjhbjhmhaaDoorOpen
namespace Go.Proofs.YtmnjfhjhbjhmhaaDoor
open Go.RowKit
set_option linter.unusedVariables false
set_option maxHeartbeats 2000000
set_option maxRecDepth 100000

theorem mix_get (ys : List UInt8) (s : ByteArray) (k : Nat) (hy : ys.length = k) (h : k < s.size) (h' : k < (ys ++ s.data.toList.drop k).length) : (ys ++ s.data.toList.drop k)[k] = s[k] := by
  rw [List.getElem_append_right (by omega)]
  simp only [hy, Nat.sub_self, drop1 s k h, List.getElem_cons_zero]
theorem mix_len (ys : List UInt8) (s : ByteArray) (k : Nat) (hy : ys.length = k) (h : k ≤ s.size) : (ys ++ s.data.toList.drop k).length = s.size := by
  rw [List.length_append, List.length_drop, lst_len]; omega
theorem mix_set (ys : List UInt8) (s : ByteArray) (k : Nat) (c : UInt8) (hy : ys.length = k) (h : k < s.size) : (ys ++ s.data.toList.drop k).set k c = (ys ++ [c]) ++ s.data.toList.drop (k + 1) := by
  rw [List.set_append_right _ _ (by omega), hy, Nat.sub_self, drop1 s k h, List.set_cons_zero, List.append_assoc]
  rfl
theorem mix_same (ys : List UInt8) (s : ByteArray) (k : Nat) (h : k < s.size) : ys ++ s.data.toList.drop k = (ys ++ [s[k]]) ++ s.data.toList.drop (k + 1) := by
  rw [drop1 s k h, List.append_assoc]; rfl
theorem xor_tab : ((List.range 256).all fun n => (!(decide (97 ≤ n) && decide (n ≤ 122)) || (bits BinOp.xor IntKind.u8 (n : Int) 32 == ((n - 32 : Nat) : Int))) && (!(decide (65 ≤ n) && decide (n ≤ 90)) || (bits BinOp.xor IntKind.u8 (n : Int) 32 == ((n + 32 : Nat) : Int)))) = true := by kernel_rfl
theorem xor_low (c : UInt8) (h1 : 97 ≤ c.toNat) (h2 : c.toNat ≤ 122) : bits BinOp.xor IntKind.u8 (c.toNat : Int) 32 = ((upC c).toNat : Int) := by
  have h := List.all_eq_true.1 xor_tab c.toNat (List.mem_range.2 c.toNat_lt)
  rw [Bool.and_eq_true] at h
  have h3 := h.1
  rw [decide_eq_true h1, decide_eq_true h2] at h3
  have h4 : bits BinOp.xor IntKind.u8 (c.toNat : Int) 32 = ((c.toNat - 32 : Nat) : Int) := by simpa using h3
  rw [h4, upC_num, if_pos ⟨h1, h2⟩]
theorem xor_upp (c : UInt8) (h1 : 65 ≤ c.toNat) (h2 : c.toNat ≤ 90) : bits BinOp.xor IntKind.u8 (c.toNat : Int) 32 = ((loC c).toNat : Int) := by
  have h := List.all_eq_true.1 xor_tab c.toNat (List.mem_range.2 c.toNat_lt)
  rw [Bool.and_eq_true] at h
  have h3 := h.2
  rw [decide_eq_true h1, decide_eq_true h2] at h3
  have h4 : bits BinOp.xor IntKind.u8 (c.toNat : Int) 32 = ((c.toNat + 32 : Nat) : Int) := by simpa using h3
  rw [h4, loC_num, if_pos ⟨h1, h2⟩]
theorem up_lo (c : UInt8) : upC (loC c) = upC c := by
  apply num_ext
  have h := upC_num (loC c)
  have h2 := loC_num c
  have h3 := upC_num c
  split at h <;> split at h2 <;> split at h3 <;> omega
theorem law_case (s : ByteArray) (A : Option Addr) (ts : List Bool) (n c : Nat) (w : World) (hm : s.size ≤ maxLen) (hat : BoolsAt w A ts) (hn : ts.length = n) (hnm : n ≤ maxLen) (hk : KwAt w) (hsh : Sh w) : Calls Tryd.prog 5 #[.string s, .slice A n c] w fun e w' => e = .returned (.bool true) ∧ Ext w w' := by
  have HA := hid (fun W (h : Ext w W) => awake_any W (hk.ext h) (hsh.ext h))
  by_cases hs : s.size ≤ 2000
  · have HN := hid hn
    clear hn
    have HCV := hid (fun W => conv_blk (P := Tryd.prog) W 9 34 5 s Tryd.underlying9 Tryd.underlying34 Tryd.underlying5)
    go_enter Tryd.func5, Tryd.ntmps5
    go_wp2_with (go_at_call 10; refine (HA.out _ (Ext.refl w)).mono ?_; rintro e' w1 ⟨rfl, hx1⟩; obtain ⟨cap, w2, rest, hcv, hx2, hz2, hb2⟩ := HCV.out w1; have HZ := hid hz2; clear hz2)
    go_loopw [6, 7, 8, 27] (fun _ _ _ i wr => ∃ (k : Nat) (ys : List UInt8), k ≤ s.size ∧ i = .int .i64 k ∧ ys.length = k ∧ BM wr w1.heap.size 5 (b8 (ys ++ s.data.toList.drop k) ++ rest) ∧ Ext w1 wr ∧ ys.map upC = (s.data.toList.take k).map upC ∧ ∀ x ∈ s.data.toList.take k, x.toNat ≠ 39) (fun _ _ _ i _ => s.size - (intOf i).toNat)
    case atStart => exact ⟨0, [], Nat.zero_le _, rfl, rfl, by rw [List.drop_zero]; exact hb2, hx2, rfl, fun x hx => by simp at hx⟩
    case round =>
      obtain ⟨k, ys, hk1, rfl, hyl, hbr, hxr, hup, hno⟩ := hrel
      have HB := hid hbr
      have HUP := hid hup
      have HNO := hid hno
      have HYL := hid hyl
      clear hup hno hb2 hcv hx2
      by_cases hlt : k < s.size
      · have hl' : k < (ys ++ s.data.toList.drop k).length := by rw [mix_len ys s k hyl hk1]; exact hlt
        have hck := hbr.cell (b8_get' _ rest k hl')
        rw [mix_get ys s k hyl hlt hl'] at hck
        have hfk : wr.frozen? ⟨w1.heap.size, k, none⟩ = false := hbr.frozen (by rw [List.length_append, b8_len]; omega)
        have HT := hid (take1 s k hlt)
        clear hbr hyl
        by_cases hq : s[k].toNat = 39
        · have b1 : ((s[k].toNat : Int) == 39) = true := by rw [hq]; rfl
          clear hq
          go_wp2_with fail
          go_ret
          exact ⟨rfl, hx1.trans hxr⟩
        · have b1 : ((s[k].toNat : Int) == 39) = false := by rw [beq_eq_false_iff_ne]; omega
          have HQ : Hid (s[k].toNat ≠ 39) := hq
          clear hq
          by_cases hlow : 97 ≤ s[k].toNat ∧ s[k].toNat ≤ 122
          · obtain ⟨hl1, hl2⟩ := hlow
            by_cases hkn : k < n
            · obtain ⟨b, hb⟩ : ∃ b, ts[k]? = some b := ⟨_, List.getElem?_eq_getElem (by rw [HN.out]; exact hkn)⟩
              obtain ⟨bx, ox, rfl, hcx⟩ := ((hat.ext hx1).ext hxr) k b hb
              clear hb
              cases b
              · go_wp2_with fail
                go_roundw
                case rel =>
                  refine ⟨k + 1, ys ++ [s[k]], by omega, by go_num, by rw [List.length_append, HYL.out]; rfl, by rw [← mix_same ys s k hlt]; exact HB.out, hxr, by rw [List.map_append, HUP.out, HT.out, List.map_append], fun x hx => ?_⟩
                  rw [HT.out] at hx
                  rcases List.mem_append.1 hx with h | h
                  · exact HNO.out x h
                  · rw [List.mem_singleton.1 h]; exact HQ.out
                case measure => simp [intOf]; omega
              · have HXR := hid (xor_low s[k] hl1 hl2)
                go_wp2_with fail
                go_roundw
                case rel =>
                  have h1 := HB.out.set k (.int .u8 ((upC s[k]).toNat : Int))
                  rw [b8_set _ rest k _ hl', mix_set ys s k _ HYL.out hlt] at h1
                  refine ⟨k + 1, ys ++ [upC s[k]], by omega, by go_num, by rw [List.length_append, HYL.out]; rfl, by rw [HXR.out]; exact h1, hxr.setCell (Nat.le_refl _) _, by rw [List.map_append, HUP.out, HT.out, List.map_append, List.map_singleton, List.map_singleton, up_up], fun x hx => ?_⟩
                  rw [HT.out] at hx
                  rcases List.mem_append.1 hx with h | h
                  · exact HNO.out x h
                  · rw [List.mem_singleton.1 h]; exact HQ.out
                case measure => simp [intOf]; omega
            · go_wp2_with fail
              go_roundw
              case rel =>
                refine ⟨k + 1, ys ++ [s[k]], by omega, by go_num, by rw [List.length_append, HYL.out]; rfl, by rw [← mix_same ys s k hlt]; exact HB.out, hxr, by rw [List.map_append, HUP.out, HT.out, List.map_append], fun x hx => ?_⟩
                rw [HT.out] at hx
                rcases List.mem_append.1 hx with h | h
                · exact HNO.out x h
                · rw [List.mem_singleton.1 h]; exact HQ.out
              case measure => simp [intOf]; omega
          · by_cases hupp : 65 ≤ s[k].toNat ∧ s[k].toNat ≤ 90
            · obtain ⟨hl1, hl2⟩ := hupp
              have hl3 : ¬ 97 ≤ s[k].toNat := by omega
              clear hlow
              by_cases hkn : k < n
              · obtain ⟨b, hb⟩ : ∃ b, ts[k]? = some b := ⟨_, List.getElem?_eq_getElem (by rw [HN.out]; exact hkn)⟩
                obtain ⟨bx, ox, rfl, hcx⟩ := ((hat.ext hx1).ext hxr) k b hb
                clear hb
                cases b
                · go_wp2_with fail
                  go_roundw
                  case rel =>
                    refine ⟨k + 1, ys ++ [s[k]], by omega, by go_num, by rw [List.length_append, HYL.out]; rfl, by rw [← mix_same ys s k hlt]; exact HB.out, hxr, by rw [List.map_append, HUP.out, HT.out, List.map_append], fun x hx => ?_⟩
                    rw [HT.out] at hx
                    rcases List.mem_append.1 hx with h | h
                    · exact HNO.out x h
                    · rw [List.mem_singleton.1 h]; exact HQ.out
                  case measure => simp [intOf]; omega
                · have HXR := hid (xor_upp s[k] hl1 hl2)
                  go_wp2_with fail
                  go_roundw
                  case rel =>
                    have h1 := HB.out.set k (.int .u8 ((loC s[k]).toNat : Int))
                    rw [b8_set _ rest k _ hl', mix_set ys s k _ HYL.out hlt] at h1
                    refine ⟨k + 1, ys ++ [loC s[k]], by omega, by go_num, by rw [List.length_append, HYL.out]; rfl, by rw [HXR.out]; exact h1, hxr.setCell (Nat.le_refl _) _, by rw [List.map_append, HUP.out, HT.out, List.map_append, List.map_singleton, List.map_singleton, up_lo], fun x hx => ?_⟩
                    rw [HT.out] at hx
                    rcases List.mem_append.1 hx with h | h
                    · exact HNO.out x h
                    · rw [List.mem_singleton.1 h]; exact HQ.out
                  case measure => simp [intOf]; omega
              · go_wp2_with fail
                go_roundw
                case rel =>
                  refine ⟨k + 1, ys ++ [s[k]], by omega, by go_num, by rw [List.length_append, HYL.out]; rfl, by rw [← mix_same ys s k hlt]; exact HB.out, hxr, by rw [List.map_append, HUP.out, HT.out, List.map_append], fun x hx => ?_⟩
                  rw [HT.out] at hx
                  rcases List.mem_append.1 hx with h | h
                  · exact HNO.out x h
                  · rw [List.mem_singleton.1 h]; exact HQ.out
                case measure => simp [intOf]; omega
            · go_wp2_with fail
              all_goals
                first
                  | (exfalso; omega)
                  | skip
              all_goals
                go_roundw
                case rel =>
                  refine ⟨k + 1, ys ++ [s[k]], by omega, by go_num, by rw [List.length_append, HYL.out]; rfl, by rw [← mix_same ys s k hlt]; exact HB.out, hxr, by rw [List.map_append, HUP.out, HT.out, List.map_append], fun x hx => ?_⟩
                  rw [HT.out] at hx
                  rcases List.mem_append.1 hx with h | h
                  · exact HNO.out x h
                  · rw [List.mem_singleton.1 h]; exact HQ.out
                case measure => simp [intOf]; omega
      · have hX := mix_len ys s k hyl hk1
        have hXu : (ys ++ s.data.toList.drop k).map upC = s.data.toList.map upC := by
          have hkk : s.data.toList.length ≤ k := by rw [lst_len]; omega
          rw [List.drop_of_length_le hkk, List.append_nil, HUP.out, List.take_of_length_le hkk]
        have hXn : ∀ x ∈ s.data.toList, x.toNat ≠ 39 := by
          have hkk : s.data.toList.length ≤ k := by rw [lst_len]; omega
          intro x hx
          exact HNO.out x (by rw [List.take_of_length_le hkk]; exact hx)
        have hcv := conv_pre (P := Tryd.prog) (w := wr) 34 9 5 w1.heap.size cap (ys ++ s.data.toList.drop k) rest s.size hX.symm Tryd.underlying34 Tryd.underlying5 Tryd.underlying9 hbr
        have hTA : tokAll ⟨(ys ++ s.data.toList.drop k).toArray⟩ = tokAll s := by
          have hz : (⟨(ys ++ s.data.toList.drop k).toArray⟩ : ByteArray).size = s.size := hX
          unfold tokAll
          rw [hz]
          have : T (⟨(ys ++ s.data.toList.drop k).toArray⟩ : ByteArray).data.toList 0 = T s.data.toList 0 := T_case _ _ 0 hXu hXn
          rw [this]
        have hzz : (⟨(ys ++ s.data.toList.drop k).toArray⟩ : ByteArray).size ≤ 20000 := by
          have hz : (⟨(ys ++ s.data.toList.drop k).toArray⟩ : ByteArray).size = s.size := hX
          omega
        have HT := hid (fun W (h : Ext w W) => tokens_any ⟨(ys ++ s.data.toList.drop k).toArray⟩ W hzz (hk.ext h))
        rw [hTA] at HT
        have HU := hid (fun W => rtokens_any s W (by omega))
        obtain ⟨hl1, hl2⟩ := all_len s
        have HL2 : Hid (∀ t ∈ lsL (tokAll s), t.pos ≤ 100000) := fun t ht => by have := hl2 t ht; omega
        clear hTA hzz hX hXu hXn hl2 hbr hyl
        generalize (⟨(ys ++ s.data.toList.drop k).toArray⟩ : ByteArray) = F at *
        generalize tokAll s = R at *
        unfold TokRes at HT HU
        have HS : Hid (∀ (A B : Option Addr) (c1 c2 : Nat) (W : World), TksAt W A (lsL R) → TksAt W B (lsL R) → Calls Tryd.prog 13 #[.slice A (lsL R).length c1, .slice B (lsL R).length c2, .int .i64 0] W fun e w' => e = .returned (.bool true) ∧ Ext W w') := by
          intro A B c1 c2 W h1 h2
          exact same_true A B _ _ c1 c2 0 (lsL R) (lsL R) W h1 h2 rfl rfl (sh_zero _) (by omega) (by decide) HL2.out
        clear hl1
        go_wp2_with (first
          | (go_at_call 11; refine (HT.out _ (hx1.trans hxr)).mono ?_; rintro e' w4 ⟨v, rfl, ⟨A1, c1, rfl, hat1⟩, hx4⟩)
          | (go_at_call 12; refine (HU.out _).mono ?_; rintro e' w5 ⟨v, rfl, ⟨B1, c2, rfl, hbt1⟩, hx5⟩)
          | (go_at_call 13; refine (HS.out A1 B1 c1 c2 _ (hat1.ext hx5) hbt1).mono ?_; rintro e' w6 ⟨rfl, hx6⟩))
        go_ret
        exact ⟨ret_bool (by simp), ((((hx1.trans hxr).trans hx4).trans hx5).trans hx6)⟩
  · go_enter Tryd.func5, Tryd.ntmps5
    go_wp2_with (first
      | (go_at_call 10; refine (HA.out _ (Ext.refl w)).mono ?_; rintro e' w1 ⟨rfl, hx1⟩)
      | (go_at_call 10; refine (HA.out _ hx1).mono ?_; rintro e' w2 ⟨rfl, hx2⟩))
    go_ret
    exact ⟨rfl, hx1.trans hx2⟩
end Go.Proofs.YtmnjfhjhbjhmhaaDoor
