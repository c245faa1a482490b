/-
  Walks over the lexer's reference: one token.
-/
import Derived.Test.YtmnjfhjhbjhmhaaDoorW14
namespace Go.Proofs.YtmnjfhjhbjhmhaaDoor
open Go.RowKit
set_option linter.unusedVariables false
set_option maxHeartbeats 4000000
set_option maxRecDepth 100000

/-- a token read at an offset, as it is returned -/
def RRes (a : Nat) : TR → Value
  | .bad e => .tuple #[.agg #[.int .i64 0, .string ⟨#[]⟩, .int .i64 0], .int .i64 0, .int .i64 e]
  | .tok k x n => .tuple #[.agg #[.int .i64 k, .string ⟨x.toArray⟩, .int .i64 a], .int .i64 ((a + n : Nat) : Int), .int .i64 0]
theorem piece_list (s : ByteArray) (a k : Nat) : (s.extract a k).data.toList = (s.data.toList.drop a).take (k - a) := Lib.extract_data s a k
theorem rres_tok (a E k n : Nat) (x : List UInt8) (h : a + n = E) : RRes a (.tok k x n) = .tuple #[.agg #[.int .i64 k, .string ⟨x.toArray⟩, .int .i64 a], .int .i64 E, .int .i64 0] := by rw [← h]; rfl
theorem word_parts (c : UInt8) : inWord c = (isLetter c || isDigit c || c.toNat == 95) := rfl
theorem next_letter (s : ByteArray) (a : Nat) (w : World) (hs : s.size ≤ 20000) (ha : a < s.size) (hl : isLetter s[a] = true) : Calls Tryd.prog 26 #[.string s, .int .i64 a] w fun e w' => e = .returned (RRes a (tokL (s.data.toList.drop a))) ∧ Ext w w' := by
  have HT : Hid (tokL (s.data.toList.drop a) = wordL (s.data.toList.drop a)) := by
    unfold Hid
    rw [drop1 s a ha, tokL, if_pos hl]
  have HL := hid (fun W => rletter_any s[a] W)
  rw [hl] at HL
  have hle : spanN inWord (s.data.toList.drop a) ≤ (s.data.toList.drop a).length := span_le inWord _
  rw [List.length_drop, lst_len] at hle
  have HW : Hid (wordL (s.data.toList.drop a) = if isKw ((s.data.toList.drop a).take (spanN inWord (s.data.toList.drop a))) = true then .tok 2 (((s.data.toList.drop a).take (spanN inWord (s.data.toList.drop a))).map upC) (spanN inWord (s.data.toList.drop a))
      else if 24 < spanN inWord (s.data.toList.drop a) then .bad 3
      else .tok 1 (((s.data.toList.drop a).take (spanN inWord (s.data.toList.drop a))).map loC) (spanN inWord (s.data.toList.drop a))) := rfl
  obtain ⟨n, hn⟩ : ∃ n, spanN inWord (s.data.toList.drop a) = n := ⟨_, rfl⟩
  have HSP := hid hn
  rw [hn] at HW hle
  clear hn
  obtain ⟨E, hE⟩ : ∃ E, a + n = E := ⟨_, rfl⟩
  have HEn := hid hE
  have hEa : a ≤ E := by omega
  have hEs : E ≤ s.size := by omega
  have hna : E - a = n := by omega
  have hps : (s.extract a E).size ≤ 20000 := Nat.le_trans (piece_size s a E) hs
  have HU : Hid (∀ W, Calls Tryd.prog 35 #[.string (s.extract a E)] W fun e w' => e = .returned (.string ⟨(((s.data.toList.drop a).take n).map upC).toArray⟩) ∧ Ext W w') := by
    intro W
    have := rupper_any (s.extract a E) W hps
    rw [piece_list, hna] at this
    exact this
  have HO : Hid (∀ W, Calls Tryd.prog 47 #[.string (s.extract a E)] W fun e w' => e = .returned (.string ⟨(((s.data.toList.drop a).take n).map loC).toArray⟩) ∧ Ext W w') := by
    intro W
    have := rlower_any (s.extract a E) W hps
    rw [piece_list, hna] at this
    exact this
  have HK : Hid (∀ W, Calls Tryd.prog 17 #[.string (s.extract a E)] W fun e w' => e = .returned (.bool (isKw ((s.data.toList.drop a).take n))) ∧ Ext W w') := by
    intro W
    have := rkeyword_any (s.extract a E) W hps
    rw [piece_list, hna] at this
    exact this
  have HNA := hid hna
  have HBk := hid (Blk.of_new w 43 [.int .i64 0, .string ⟨#[]⟩, .int .i64 0])
  clear hps hle hE hna hl
  generalize hL : (s.data.toList.drop a).take n = L at *
  clear hL
  go_enter Tryd.func26, Tryd.ntmps26
  go_wp2_with (go_at_call 46; refine (HL.out _).mono ?_; rintro e' w1 ⟨rfl, rfl⟩)
  go_loop [7] (fun i => ∃ k : Nat, a ≤ k ∧ k ≤ s.size ∧ i = .int .i64 k ∧ E = k + spanN inWord (s.data.toList.drop k)) (fun i => s.size - (intOf i).toNat)
  case atStart => exact ⟨a, Nat.le_refl _, Nat.le_of_lt ha, rfl, by rw [HSP.out]; exact HEn.out.symm⟩
  case round =>
    obtain ⟨k, hak, hk, rfl, hv⟩ := hrel
    have HVx := hid hv
    clear hv
    by_cases hlt : k < s.size
    · have HD := hid (drop1 s k hlt)
      have HLk := hid (fun W => rletter_any s[k] W)
      have HDk := hid (fun W => rdigit_any s[k] W)
      have HWP := hid (word_parts s[k])
      cases h1 : isLetter s[k]
      · rw [h1] at HLk HWP
        cases h2 : isDigit s[k]
        · rw [h2] at HDk HWP
          by_cases h3 : s[k].toNat = 95
          · have b3 : ((s[k].toNat : Int) == 95) = true := by rw [h3]; rfl
            have HV : Hid (E = k + 1 + spanN inWord (s.data.toList.drop (k + 1))) := by
              unfold Hid
              rw [HVx.out, HD.out, spanN, if_pos (by rw [HWP.out, h3]; rfl)]
              omega
            clear h1 h2 h3
            go_wp2_with (first | (go_at_call 46; refine (HLk.out _).mono ?_; rintro e' w1 ⟨rfl, rfl⟩) | (go_at_call 31; refine (HDk.out _).mono ?_; rintro e' w1 ⟨rfl, rfl⟩))
            go_round
            case rel => exact ⟨k + 1, by omega, by omega, by go_num, HV.out⟩
            case measure => simp [intOf]; omega
          · have b3 : ((s[k].toNat : Int) == 95) = false := by rw [beq_eq_false_iff_ne]; omega
            have HV : Hid (E = k) := by
              unfold Hid
              rw [HVx.out, HD.out, spanN, if_neg (by rw [HWP.out]; simpa using h3)]
              omega
            clear h1 h2 h3
            obtain rfl : k = E := HV.out.symm
            cases hkw : isKw L
            · by_cases h24 : 24 < k - a
              · have HE : Hid (tokL (s.data.toList.drop a) = .bad 3) := by unfold Hid; rw [HT.out, HW.out, hkw, if_neg (by decide), if_pos (by rw [← HNA.out]; exact h24)]
                go_wp2_with (first | (go_at_call 46; refine (HLk.out _).mono ?_; rintro e' w1 ⟨rfl, rfl⟩) | (go_at_call 31; refine (HDk.out _).mono ?_; rintro e' w1 ⟨rfl, rfl⟩) | (go_at_call 17; refine (HK.out _).mono ?_; rintro e' w2 ⟨rfl, hx2⟩; rw [hkw]; have HB := hid (HBk.out.ext hx2); have hc0 := HB.out.cell 0; have hc1 := HB.out.cell 1; have hc2 := HB.out.cell 2; have hf0 := HB.out.frozen 0; have hf1 := HB.out.frozen 1; have hf2 := HB.out.frozen 2))
                have s0 : (w2.setCell ⟨w.heap.size, 0, none⟩ (.int .i64 0)).cell? ⟨w.heap.size, 0, none⟩ = some (.int .i64 0) := (HB.out.set 0 _).cell 0
                have s1 : ((w2.setCell ⟨w.heap.size, 0, none⟩ (.int .i64 0)).setCell ⟨w.heap.size, 1, none⟩ (.string ⟨#[]⟩)).cell? ⟨w.heap.size, 1, none⟩ = some (.string ⟨#[]⟩) := ((HB.out.set 0 _).set 1 _).cell 1
                have s2 : (((w2.setCell ⟨w.heap.size, 0, none⟩ (.int .i64 0)).setCell ⟨w.heap.size, 1, none⟩ (.string ⟨#[]⟩)).setCell ⟨w.heap.size, 2, none⟩ (.int .i64 0)).cell? ⟨w.heap.size, 2, none⟩ = some (.int .i64 0) := (((HB.out.set 0 _).set 1 _).set 2 _).cell 2
                exact bodyPost_ret (v := .tuple #[.agg #[.int .i64 0, .string ⟨#[]⟩, .int .i64 0], .int .i64 (0), .int .i64 (3)]) (by simp [results, Tryd.results26, go_sem, s0, s1, s2]) rfl ⟨by rw [HE.out]; rfl, (((((Ext.refl w).alloc _).trans hx2).setCell (Nat.le_refl _) _).setCell (Nat.le_refl _) _).setCell (Nat.le_refl _) _⟩
              · have HE : Hid (tokL (s.data.toList.drop a) = .tok 1 (L.map loC) n) := by unfold Hid; rw [HT.out, HW.out, hkw, if_neg (by decide), if_neg (by rw [← HNA.out]; exact h24)]
                generalize L.map loC = F at *
                go_wp2_with (first | (go_at_call 46; refine (HLk.out _).mono ?_; rintro e' w1 ⟨rfl, rfl⟩) | (go_at_call 31; refine (HDk.out _).mono ?_; rintro e' w1 ⟨rfl, rfl⟩) | (go_at_call 17; refine (HK.out _).mono ?_; rintro e' w2 ⟨rfl, hx2⟩; rw [hkw]) | (go_at_call 47; refine (HO.out _).mono ?_; rintro e' w3 ⟨rfl, hx3⟩; have HB := hid ((HBk.out.ext hx2).ext hx3); have hc0 := HB.out.cell 0; have hc1 := HB.out.cell 1; have hc2 := HB.out.cell 2; have hf0 := HB.out.frozen 0; have hf1 := HB.out.frozen 1; have hf2 := HB.out.frozen 2))
                have s0 : (w3.setCell ⟨w.heap.size, 0, none⟩ (.int .i64 1)).cell? ⟨w.heap.size, 0, none⟩ = some (.int .i64 1) := (HB.out.set 0 _).cell 0
                have s1 : ((w3.setCell ⟨w.heap.size, 0, none⟩ (.int .i64 1)).setCell ⟨w.heap.size, 1, none⟩ (.string ⟨F.toArray⟩)).cell? ⟨w.heap.size, 1, none⟩ = some (.string ⟨F.toArray⟩) := ((HB.out.set 0 _).set 1 _).cell 1
                have s2 : (((w3.setCell ⟨w.heap.size, 0, none⟩ (.int .i64 1)).setCell ⟨w.heap.size, 1, none⟩ (.string ⟨F.toArray⟩)).setCell ⟨w.heap.size, 2, none⟩ (.int .i64 a)).cell? ⟨w.heap.size, 2, none⟩ = some (.int .i64 a) := (((HB.out.set 0 _).set 1 _).set 2 _).cell 2
                exact bodyPost_ret (v := .tuple #[.agg #[.int .i64 1, .string ⟨F.toArray⟩, .int .i64 a], .int .i64 (k), .int .i64 (0)]) (by simp [results, Tryd.results26, go_sem, s0, s1, s2]) rfl ⟨by rw [HE.out, rres_tok a _ _ n _ HEn.out]; rfl, ((((((Ext.refl w).alloc _).trans hx2).trans hx3).setCell (Nat.le_refl _) _).setCell (Nat.le_refl _) _).setCell (Nat.le_refl _) _⟩
            · have HE : Hid (tokL (s.data.toList.drop a) = .tok 2 (L.map upC) n) := by unfold Hid; rw [HT.out, HW.out, hkw, if_pos rfl]
              generalize L.map upC = F at *
              go_wp2_with (first | (go_at_call 46; refine (HLk.out _).mono ?_; rintro e' w1 ⟨rfl, rfl⟩) | (go_at_call 31; refine (HDk.out _).mono ?_; rintro e' w1 ⟨rfl, rfl⟩) | (go_at_call 17; refine (HK.out _).mono ?_; rintro e' w2 ⟨rfl, hx2⟩; rw [hkw]) | (go_at_call 35; refine (HU.out _).mono ?_; rintro e' w3 ⟨rfl, hx3⟩; have HB := hid ((HBk.out.ext hx2).ext hx3); have hc0 := HB.out.cell 0; have hc1 := HB.out.cell 1; have hc2 := HB.out.cell 2; have hf0 := HB.out.frozen 0; have hf1 := HB.out.frozen 1; have hf2 := HB.out.frozen 2))
              have s0 : (w3.setCell ⟨w.heap.size, 0, none⟩ (.int .i64 2)).cell? ⟨w.heap.size, 0, none⟩ = some (.int .i64 2) := (HB.out.set 0 _).cell 0
              have s1 : ((w3.setCell ⟨w.heap.size, 0, none⟩ (.int .i64 2)).setCell ⟨w.heap.size, 1, none⟩ (.string ⟨F.toArray⟩)).cell? ⟨w.heap.size, 1, none⟩ = some (.string ⟨F.toArray⟩) := ((HB.out.set 0 _).set 1 _).cell 1
              have s2 : (((w3.setCell ⟨w.heap.size, 0, none⟩ (.int .i64 2)).setCell ⟨w.heap.size, 1, none⟩ (.string ⟨F.toArray⟩)).setCell ⟨w.heap.size, 2, none⟩ (.int .i64 a)).cell? ⟨w.heap.size, 2, none⟩ = some (.int .i64 a) := (((HB.out.set 0 _).set 1 _).set 2 _).cell 2
              exact bodyPost_ret (v := .tuple #[.agg #[.int .i64 2, .string ⟨F.toArray⟩, .int .i64 a], .int .i64 (k), .int .i64 (0)]) (by simp [results, Tryd.results26, go_sem, s0, s1, s2]) rfl ⟨by rw [HE.out, rres_tok a _ _ n _ HEn.out]; rfl, ((((((Ext.refl w).alloc _).trans hx2).trans hx3).setCell (Nat.le_refl _) _).setCell (Nat.le_refl _) _).setCell (Nat.le_refl _) _⟩
        · rw [h2] at HDk HWP
          have HV : Hid (E = k + 1 + spanN inWord (s.data.toList.drop (k + 1))) := by
            unfold Hid
            rw [HVx.out, HD.out, spanN, if_pos (by rw [HWP.out]; rfl)]
            omega
          clear h1 h2
          go_wp2_with (first | (go_at_call 46; refine (HLk.out _).mono ?_; rintro e' w1 ⟨rfl, rfl⟩) | (go_at_call 31; refine (HDk.out _).mono ?_; rintro e' w1 ⟨rfl, rfl⟩))
          go_round
          case rel => exact ⟨k + 1, by omega, by omega, by go_num, HV.out⟩
          case measure => simp [intOf]; omega
      · rw [h1] at HLk HWP
        have HV : Hid (E = k + 1 + spanN inWord (s.data.toList.drop (k + 1))) := by
          unfold Hid
          rw [HVx.out, HD.out, spanN, if_pos (by rw [HWP.out]; rfl)]
          omega
        clear h1
        go_wp2_with (first | (go_at_call 46; refine (HLk.out _).mono ?_; rintro e' w1 ⟨rfl, rfl⟩))
        go_round
        case rel => exact ⟨k + 1, by omega, by omega, by go_num, HV.out⟩
        case measure => simp [intOf]; omega
    · have HV : Hid (E = k) := by
        unfold Hid
        rw [HVx.out, List.drop_of_length_le (by rw [lst_len]; omega), spanN]
        omega
      obtain rfl : k = E := HV.out.symm
      cases hkw : isKw L
      · by_cases h24 : 24 < k - a
        · have HE : Hid (tokL (s.data.toList.drop a) = .bad 3) := by unfold Hid; rw [HT.out, HW.out, hkw, if_neg (by decide), if_pos (by rw [← HNA.out]; exact h24)]
          go_wp2_with (first | (go_at_call 17; refine (HK.out _).mono ?_; rintro e' w2 ⟨rfl, hx2⟩; rw [hkw]; have HB := hid (HBk.out.ext hx2); have hc0 := HB.out.cell 0; have hc1 := HB.out.cell 1; have hc2 := HB.out.cell 2; have hf0 := HB.out.frozen 0; have hf1 := HB.out.frozen 1; have hf2 := HB.out.frozen 2))
          have s0 : (w2.setCell ⟨w.heap.size, 0, none⟩ (.int .i64 0)).cell? ⟨w.heap.size, 0, none⟩ = some (.int .i64 0) := (HB.out.set 0 _).cell 0
          have s1 : ((w2.setCell ⟨w.heap.size, 0, none⟩ (.int .i64 0)).setCell ⟨w.heap.size, 1, none⟩ (.string ⟨#[]⟩)).cell? ⟨w.heap.size, 1, none⟩ = some (.string ⟨#[]⟩) := ((HB.out.set 0 _).set 1 _).cell 1
          have s2 : (((w2.setCell ⟨w.heap.size, 0, none⟩ (.int .i64 0)).setCell ⟨w.heap.size, 1, none⟩ (.string ⟨#[]⟩)).setCell ⟨w.heap.size, 2, none⟩ (.int .i64 0)).cell? ⟨w.heap.size, 2, none⟩ = some (.int .i64 0) := (((HB.out.set 0 _).set 1 _).set 2 _).cell 2
          exact bodyPost_ret (v := .tuple #[.agg #[.int .i64 0, .string ⟨#[]⟩, .int .i64 0], .int .i64 (0), .int .i64 (3)]) (by simp [results, Tryd.results26, go_sem, s0, s1, s2]) rfl ⟨by rw [HE.out]; rfl, (((((Ext.refl w).alloc _).trans hx2).setCell (Nat.le_refl _) _).setCell (Nat.le_refl _) _).setCell (Nat.le_refl _) _⟩
        · have HE : Hid (tokL (s.data.toList.drop a) = .tok 1 (L.map loC) n) := by unfold Hid; rw [HT.out, HW.out, hkw, if_neg (by decide), if_neg (by rw [← HNA.out]; exact h24)]
          generalize L.map loC = F at *
          go_wp2_with (first | (go_at_call 17; refine (HK.out _).mono ?_; rintro e' w2 ⟨rfl, hx2⟩; rw [hkw]) | (go_at_call 47; refine (HO.out _).mono ?_; rintro e' w3 ⟨rfl, hx3⟩; have HB := hid ((HBk.out.ext hx2).ext hx3); have hc0 := HB.out.cell 0; have hc1 := HB.out.cell 1; have hc2 := HB.out.cell 2; have hf0 := HB.out.frozen 0; have hf1 := HB.out.frozen 1; have hf2 := HB.out.frozen 2))
          have s0 : (w3.setCell ⟨w.heap.size, 0, none⟩ (.int .i64 1)).cell? ⟨w.heap.size, 0, none⟩ = some (.int .i64 1) := (HB.out.set 0 _).cell 0
          have s1 : ((w3.setCell ⟨w.heap.size, 0, none⟩ (.int .i64 1)).setCell ⟨w.heap.size, 1, none⟩ (.string ⟨F.toArray⟩)).cell? ⟨w.heap.size, 1, none⟩ = some (.string ⟨F.toArray⟩) := ((HB.out.set 0 _).set 1 _).cell 1
          have s2 : (((w3.setCell ⟨w.heap.size, 0, none⟩ (.int .i64 1)).setCell ⟨w.heap.size, 1, none⟩ (.string ⟨F.toArray⟩)).setCell ⟨w.heap.size, 2, none⟩ (.int .i64 a)).cell? ⟨w.heap.size, 2, none⟩ = some (.int .i64 a) := (((HB.out.set 0 _).set 1 _).set 2 _).cell 2
          exact bodyPost_ret (v := .tuple #[.agg #[.int .i64 1, .string ⟨F.toArray⟩, .int .i64 a], .int .i64 (k), .int .i64 (0)]) (by simp [results, Tryd.results26, go_sem, s0, s1, s2]) rfl ⟨by rw [HE.out, rres_tok a _ _ n _ HEn.out]; rfl, ((((((Ext.refl w).alloc _).trans hx2).trans hx3).setCell (Nat.le_refl _) _).setCell (Nat.le_refl _) _).setCell (Nat.le_refl _) _⟩
      · have HE : Hid (tokL (s.data.toList.drop a) = .tok 2 (L.map upC) n) := by unfold Hid; rw [HT.out, HW.out, hkw, if_pos rfl]
        generalize L.map upC = F at *
        go_wp2_with (first | (go_at_call 17; refine (HK.out _).mono ?_; rintro e' w2 ⟨rfl, hx2⟩; rw [hkw]) | (go_at_call 35; refine (HU.out _).mono ?_; rintro e' w3 ⟨rfl, hx3⟩; have HB := hid ((HBk.out.ext hx2).ext hx3); have hc0 := HB.out.cell 0; have hc1 := HB.out.cell 1; have hc2 := HB.out.cell 2; have hf0 := HB.out.frozen 0; have hf1 := HB.out.frozen 1; have hf2 := HB.out.frozen 2))
        have s0 : (w3.setCell ⟨w.heap.size, 0, none⟩ (.int .i64 2)).cell? ⟨w.heap.size, 0, none⟩ = some (.int .i64 2) := (HB.out.set 0 _).cell 0
        have s1 : ((w3.setCell ⟨w.heap.size, 0, none⟩ (.int .i64 2)).setCell ⟨w.heap.size, 1, none⟩ (.string ⟨F.toArray⟩)).cell? ⟨w.heap.size, 1, none⟩ = some (.string ⟨F.toArray⟩) := ((HB.out.set 0 _).set 1 _).cell 1
        have s2 : (((w3.setCell ⟨w.heap.size, 0, none⟩ (.int .i64 2)).setCell ⟨w.heap.size, 1, none⟩ (.string ⟨F.toArray⟩)).setCell ⟨w.heap.size, 2, none⟩ (.int .i64 a)).cell? ⟨w.heap.size, 2, none⟩ = some (.int .i64 a) := (((HB.out.set 0 _).set 1 _).set 2 _).cell 2
        exact bodyPost_ret (v := .tuple #[.agg #[.int .i64 2, .string ⟨F.toArray⟩, .int .i64 a], .int .i64 (k), .int .i64 (0)]) (by simp [results, Tryd.results26, go_sem, s0, s1, s2]) rfl ⟨by rw [HE.out, rres_tok a _ _ n _ HEn.out]; rfl, ((((((Ext.refl w).alloc _).trans hx2).trans hx3).setCell (Nat.le_refl _) _).setCell (Nat.le_refl _) _).setCell (Nat.le_refl _) _⟩
end Go.Proofs.YtmnjfhjhbjhmhaaDoor
