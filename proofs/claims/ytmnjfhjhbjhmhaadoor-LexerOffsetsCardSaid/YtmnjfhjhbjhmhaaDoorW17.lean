/-
  Walks over the lexer's reference: one token: numbers, texts, symbols.
-/
import Derived.Test.YtmnjfhjhbjhmhaaDoorW16
namespace Go.Proofs.YtmnjfhjhbjhmhaaDoor
open Go.RowKit
set_option linter.unusedVariables false
set_option maxHeartbeats 4000000
set_option maxRecDepth 100000

theorem next_digit (s : ByteArray) (a : Nat) (w : World) (hs : s.size ≤ 20000) (ha : a < s.size) (hl : isLetter s[a] = false) (hd : isDigit s[a] = true) : Calls Tryd.prog 26 #[.string s, .int .i64 a] w fun e w' => e = .returned (RRes a (tokL (s.data.toList.drop a))) ∧ Ext w w' := by
  have HT : Hid (tokL (s.data.toList.drop a) = numL (s.data.toList.drop a)) := by
    unfold Hid
    rw [drop1 s a ha, tokL, if_neg (by rw [hl]; decide), if_pos hd]
  have HL := hid (fun W => rletter_any s[a] W)
  rw [hl] at HL
  have HD0 := hid (fun W => rdigit_any s[a] W)
  rw [hd] at HD0
  have hle : spanN isDigit (s.data.toList.drop a) ≤ (s.data.toList.drop a).length := span_le isDigit _
  rw [List.length_drop, lst_len] at hle
  have hpos : 1 ≤ spanN isDigit (s.data.toList.drop a) := by rw [drop1 s a ha]; exact span_pos isDigit _ _ hd
  have HDG := hid (span_all isDigit (s.data.toList.drop a))
  have HNH := hid (span_head isDigit (s.data.toList.drop a))
  have HW : Hid (numL (s.data.toList.drop a) = if (1 < spanN isDigit (s.data.toList.drop a) ∧ (s.data.toList.drop a).head? = some 48) ∨ headW ((s.data.toList.drop a).drop (spanN isDigit (s.data.toList.drop a))) = true then .bad 2
      else if 2147483648 < digVal ((s.data.toList.drop a).take (spanN isDigit (s.data.toList.drop a))) then .bad 3
      else .tok 3 ((s.data.toList.drop a).take (spanN isDigit (s.data.toList.drop a))) (spanN isDigit (s.data.toList.drop a))) := rfl
  have HH : Hid ((s.data.toList.drop a).head? = some s[a]) := by unfold Hid; rw [drop1 s a ha]; rfl
  obtain ⟨n, hn⟩ : ∃ n, spanN isDigit (s.data.toList.drop a) = n := ⟨_, rfl⟩
  have HSP := hid hn
  rw [hn] at HW hle HDG HNH hpos
  clear hn
  obtain ⟨E, hE⟩ : ∃ E, a + n = E := ⟨_, rfl⟩
  have HEn := hid hE
  have hEa : a + 1 ≤ E := by omega
  have hEs : E ≤ s.size := by omega
  have hna : E - a = n := by omega
  have HNA := hid hna
  rw [List.drop_drop, hE] at HW HNH
  have HWE := hid (headW_at s E)
  have HPL : Hid ((s.extract a E).data.toList = (s.data.toList.drop a).take n) := by unfold Hid; rw [piece_list, hna]
  have HLN : Hid (((s.data.toList.drop a).take n).length = E - a) := by unfold Hid; rw [List.length_take, List.length_drop, lst_len]; omega
  have HBIG := hid (dv_big _ HDG.out)
  have HTEN := hid (ten_big ((s.data.toList.drop a).take n))
  have HB0 := hid (Blk.of_new w 43 [.int .i64 0, .string ⟨#[]⟩, .int .i64 0])
  have hc0 := HB0.out.cell 0
  have hc1 := HB0.out.cell 1
  have hc2 := HB0.out.cell 2
  have hf0 := HB0.out.frozen 0
  have hf1 := HB0.out.frozen 1
  have hf2 := HB0.out.frozen 2
  clear hle hE hna hl hd
  go_enter Tryd.func26, Tryd.ntmps26
  go_wp2_with (first | (go_at_call 46; refine (HL.out _).mono ?_; rintro e' w1 ⟨rfl, rfl⟩) | (go_at_call 31; refine (HD0.out _).mono ?_; rintro e' w1 ⟨rfl, rfl⟩))
  go_loop [7] (fun i => ∃ k : Nat, a ≤ k ∧ k ≤ s.size ∧ i = .int .i64 k ∧ E = k + spanN isDigit (s.data.toList.drop k)) (fun i => s.size - (intOf i).toNat)
  case atStart => exact ⟨a, Nat.le_refl _, Nat.le_of_lt ha, rfl, by rw [HSP.out]; exact HEn.out.symm⟩
  case round =>
    obtain ⟨k, hak, hk, rfl, hv⟩ := hrel
    have HVx := hid hv
    clear hv
    by_cases hlt : k < s.size
    · have HD := hid (drop1 s k hlt)
      have HLk := hid (fun W => rletter_any s[k] W)
      have HDk := hid (fun W => rdigit_any s[k] W)
      have HWP := hid (word_parts s[k])
      cases h2 : isDigit s[k]
      · rw [h2] at HDk HWP
        have HV : Hid (E = k) := by
          unfold Hid
          rw [HVx.out, HD.out, spanN, if_neg (by rw [h2]; decide)]
          omega
        clear h2
        obtain rfl : k = E := HV.out.symm
        by_cases hz : 1 < k - a ∧ s[a].toNat = 48
        · have HE : Hid (tokL (s.data.toList.drop a) = .bad 2) := by unfold Hid; rw [HT.out, HW.out, if_pos (.inl ⟨by rw [← HNA.out]; exact hz.1, by rw [HH.out, num_ext s[a] 48 hz.2]⟩)]
          have b1 : ((s[a].toNat : Int) == 48) = true := by rw [hz.2]; rfl
          obtain ⟨hz1, _⟩ := hz
          go_wp2_with (first | (go_at_call 31; refine (HDk.out _).mono ?_; rintro e' w1 ⟨rfl, rfl⟩) | (go_at_call 46; refine (HLk.out _).mono ?_; rintro e' w1 ⟨rfl, rfl⟩))
          exact bodyPost_ret (v := .tuple #[.agg #[.int .i64 0, .string ⟨#[]⟩, .int .i64 0], .int .i64 0, .int .i64 (2)]) (by simp [results, Tryd.results26, go_sem, hc0, hc1, hc2]) rfl ⟨by rw [HE.out]; rfl, (Ext.refl w).alloc _⟩
        · have hcase : k - a ≤ 1 ∨ (1 < k - a ∧ ((s[a].toNat : Int) == 48) = false) := by
            rcases Nat.lt_or_ge 1 (k - a) with h | h
            · right; exact ⟨h, by rw [beq_eq_false_iff_ne]; intro e; exact hz ⟨h, by omega⟩⟩
            · left; omega
          have HZ : Hid (¬ (1 < n ∧ (s.data.toList.drop a).head? = some 48)) := by
            unfold Hid
            rw [HH.out, ← HNA.out]
            rintro ⟨h1, h2⟩
            injection h2 with h2
            exact hz ⟨h1, by rw [h2]; rfl⟩
          clear hz
          cases h1 : isLetter s[k]
          · rw [h1] at HLk HWP
            by_cases h3 : s[k].toNat = 95
            · have b3 : ((s[k].toNat : Int) == 95) = true := by rw [h3]; rfl
              have HE : Hid (tokL (s.data.toList.drop a) = .bad 2) := by
                unfold Hid
                rw [HT.out, HW.out, if_pos (.inr (by rw [HWE.out, dif_pos hlt, HWP.out, h3]; rfl))]
              clear h1 h3
              rcases hcase with h1 | ⟨h1, b1⟩
              all_goals
                go_wp2_with (first | (go_at_call 31; refine (HDk.out _).mono ?_; rintro e' w1 ⟨rfl, rfl⟩) | (go_at_call 46; refine (HLk.out _).mono ?_; rintro e' w1 ⟨rfl, rfl⟩))
                exact bodyPost_ret (v := .tuple #[.agg #[.int .i64 0, .string ⟨#[]⟩, .int .i64 0], .int .i64 0, .int .i64 (2)]) (by simp [results, Tryd.results26, go_sem, hc0, hc1, hc2]) rfl ⟨by rw [HE.out]; rfl, (Ext.refl w).alloc _⟩
            · have b3 : ((s[k].toNat : Int) == 95) = false := by rw [beq_eq_false_iff_ne]; omega
              have HF : Hid (headW (s.data.toList.drop k) = false) := by
                unfold Hid
                rw [HWE.out, dif_pos hlt, HWP.out]
                simpa using h3
              clear h1 h3
              have HG : Hid (tokL (s.data.toList.drop a) = if 2147483648 < digVal ((s.data.toList.drop a).take n) then .bad 3 else .tok 3 ((s.data.toList.drop a).take n) n) := by
                unfold Hid
                rw [HT.out, HW.out, if_neg]
                rintro (h | h)
                · exact HZ.out h
                · rw [HF.out] at h; cases h
              have hbig := HBIG.out (by
                intro h1 h2
                refine HZ.out ⟨by rw [HLN.out, HNA.out] at h1; exact h1, ?_⟩
                rw [HH.out]
                rw [drop1 s a ha] at h2
                have : n = (n - 1) + 1 := by omega
                rw [this, List.take_succ_cons, List.head?_cons] at h2
                exact h2)
              rw [HLN.out] at hbig
              have HXT : Hid (s.extract a k = ⟨((s.data.toList.drop a).take n).toArray⟩) := by_list (by rw [HPL.out])
              by_cases h10 : 10 < k - a
              · have HE : Hid (tokL (s.data.toList.drop a) = .bad 3) := by unfold Hid; rw [HG.out, if_pos (hbig.2 (.inl h10))]
                clear hbig
                rcases hcase with h1 | ⟨h1, b1⟩
                · omega
                · go_wp2_with (first | (go_at_call 31; refine (HDk.out _).mono ?_; rintro e' w1 ⟨rfl, rfl⟩) | (go_at_call 46; refine (HLk.out _).mono ?_; rintro e' w1 ⟨rfl, rfl⟩))
                  exact bodyPost_ret (v := .tuple #[.agg #[.int .i64 0, .string ⟨#[]⟩, .int .i64 0], .int .i64 0, .int .i64 (3)]) (by simp [results, Tryd.results26, go_sem, hc0, hc1, hc2]) rfl ⟨by rw [HE.out]; rfl, (Ext.refl w).alloc _⟩
              · by_cases he10 : k - a = 10
                · cases hb : Op.bytesLess big10 ((s.data.toList.drop a).take n)
                  · have HE : Hid (tokL (s.data.toList.drop a) = .tok 3 ((s.data.toList.drop a).take n) n) := by
                      unfold Hid
                      rw [HG.out, if_neg]
                      intro h
                      rcases hbig.1 h with h | ⟨_, h⟩
                      · exact h10 h
                      · rw [hb] at h; cases h
                    have ht := (HTEN.out (by rw [HLN.out]; exact he10)).2 hb
                    have hxl : (s.extract a k).toList = (s.data.toList.drop a).take n := by rw [ByteArray.toList_eq, HPL.out]
                    rw [← hxl] at ht
                    clear hbig hb hxl
                    have b4 : (!(Op.bytesLess (s.extract a k).toList [50, 49, 52, 55, 52, 56, 51, 54, 52, 56] || (s.extract a k).toList == [50, 49, 52, 55, 52, 56, 51, 54, 52, 56])) = false := by
                      rcases ht with h | h
                      · have h' : Op.bytesLess (s.extract a k).toList [50, 49, 52, 55, 52, 56, 51, 54, 52, 56] = true := h
                        rw [h']; rfl
                      · have h' : ((s.extract a k).toList == [50, 49, 52, 55, 52, 56, 51, 54, 52, 56]) = true := h
                        rw [h', Bool.or_true]; rfl
                    have b5 : Op.bytesLess (s.extract a k).toList [50, 49, 52, 55, 52, 56, 51, 54, 52, 56] = false → ((s.extract a k).toList == [50, 49, 52, 55, 52, 56, 51, 54, 52, 56]) = true := by
                      intro h'
                      rcases ht with h | h
                      · rw [show big10 = [50, 49, 52, 55, 52, 56, 51, 54, 52, 56] from rfl, h'] at h; cases h
                      · exact h
                    clear ht
                    have HF5 := hid b5
                    clear b5
                    rcases hcase with h1 | ⟨h1, b1⟩
                    · omega
                    · cases b6 : Op.bytesLess (s.extract a k).toList [50, 49, 52, 55, 52, 56, 51, 54, 52, 56]
                      · have b7 := HF5.out b6
                        clear b4
                        go_wp2_with (first | (go_at_call 31; refine (HDk.out _).mono ?_; rintro e' w1 ⟨rfl, rfl⟩) | (go_at_call 46; refine (HLk.out _).mono ?_; rintro e' w1 ⟨rfl, rfl⟩))
                        have HBn := Blk.of_new w 43 [.int .i64 3, .string (s.extract a k), .int .i64 a]
                        have s0 := HBn.cell 0
                        have s1 := HBn.cell 1
                        have s2 := HBn.cell 2
                        exact bodyPost_ret (v := .tuple #[.agg #[.int .i64 3, .string (s.extract a k), .int .i64 a], .int .i64 (k), .int .i64 (0)]) (by simp [results, Tryd.results26, go_sem, s0, s1, s2]) rfl ⟨by rw [HE.out, rres_tok a _ _ n _ HEn.out, HXT.out]; rfl, (Ext.refl w).alloc _⟩
                      · clear b4
                        go_wp2_with (first | (go_at_call 31; refine (HDk.out _).mono ?_; rintro e' w1 ⟨rfl, rfl⟩) | (go_at_call 46; refine (HLk.out _).mono ?_; rintro e' w1 ⟨rfl, rfl⟩))
                        have HBn := Blk.of_new w 43 [.int .i64 3, .string (s.extract a k), .int .i64 a]
                        have s0 := HBn.cell 0
                        have s1 := HBn.cell 1
                        have s2 := HBn.cell 2
                        exact bodyPost_ret (v := .tuple #[.agg #[.int .i64 3, .string (s.extract a k), .int .i64 a], .int .i64 (k), .int .i64 (0)]) (by simp [results, Tryd.results26, go_sem, s0, s1, s2]) rfl ⟨by rw [HE.out, rres_tok a _ _ n _ HEn.out, HXT.out]; rfl, (Ext.refl w).alloc _⟩
                  · have HE : Hid (tokL (s.data.toList.drop a) = .bad 3) := by unfold Hid; rw [HG.out, if_pos (hbig.2 (.inr ⟨he10, hb⟩))]
                    obtain ⟨ht1, ht2⟩ := (HTEN.out (by rw [HLN.out]; exact he10)).1 hb
                    have hxl : (s.extract a k).toList = (s.data.toList.drop a).take n := by rw [ByteArray.toList_eq, HPL.out]
                    rw [← hxl] at ht1 ht2
                    have b6 : Op.bytesLess (s.extract a k).toList [50, 49, 52, 55, 52, 56, 51, 54, 52, 56] = false := ht1
                    have b7 : ((s.extract a k).toList == [50, 49, 52, 55, 52, 56, 51, 54, 52, 56]) = false := ht2
                    clear hbig hb hxl ht1 ht2
                    rcases hcase with h1 | ⟨h1, b1⟩
                    · omega
                    · go_wp2_with (first | (go_at_call 31; refine (HDk.out _).mono ?_; rintro e' w1 ⟨rfl, rfl⟩) | (go_at_call 46; refine (HLk.out _).mono ?_; rintro e' w1 ⟨rfl, rfl⟩))
                      exact bodyPost_ret (v := .tuple #[.agg #[.int .i64 0, .string ⟨#[]⟩, .int .i64 0], .int .i64 0, .int .i64 (3)]) (by simp [results, Tryd.results26, go_sem, hc0, hc1, hc2]) rfl ⟨by rw [HE.out]; rfl, (Ext.refl w).alloc _⟩
                · have HE : Hid (tokL (s.data.toList.drop a) = .tok 3 ((s.data.toList.drop a).take n) n) := by
                    unfold Hid
                    rw [HG.out, if_neg]
                    intro h
                    rcases hbig.1 h with h | ⟨h, _⟩
                    · exact h10 h
                    · exact he10 h
                  clear hbig
                  rcases hcase with h1 | ⟨h1, b1⟩
                  all_goals
                    go_wp2_with (first | (go_at_call 31; refine (HDk.out _).mono ?_; rintro e' w1 ⟨rfl, rfl⟩) | (go_at_call 46; refine (HLk.out _).mono ?_; rintro e' w1 ⟨rfl, rfl⟩))
                    have HBn := Blk.of_new w 43 [.int .i64 3, .string (s.extract a k), .int .i64 a]
                    have s0 := HBn.cell 0
                    have s1 := HBn.cell 1
                    have s2 := HBn.cell 2
                    exact bodyPost_ret (v := .tuple #[.agg #[.int .i64 3, .string (s.extract a k), .int .i64 a], .int .i64 (k), .int .i64 (0)]) (by simp [results, Tryd.results26, go_sem, s0, s1, s2]) rfl ⟨by rw [HE.out, rres_tok a _ _ n _ HEn.out, HXT.out]; rfl, (Ext.refl w).alloc _⟩
          · rw [h1] at HLk HWP
            have HE : Hid (tokL (s.data.toList.drop a) = .bad 2) := by
              unfold Hid
              rw [HT.out, HW.out, if_pos (.inr (by rw [HWE.out, dif_pos hlt, HWP.out]; rfl))]
            clear h1
            rcases hcase with h1 | ⟨h1, b1⟩
            all_goals
              go_wp2_with (first | (go_at_call 31; refine (HDk.out _).mono ?_; rintro e' w1 ⟨rfl, rfl⟩) | (go_at_call 46; refine (HLk.out _).mono ?_; rintro e' w1 ⟨rfl, rfl⟩))
              exact bodyPost_ret (v := .tuple #[.agg #[.int .i64 0, .string ⟨#[]⟩, .int .i64 0], .int .i64 0, .int .i64 (2)]) (by simp [results, Tryd.results26, go_sem, hc0, hc1, hc2]) rfl ⟨by rw [HE.out]; rfl, (Ext.refl w).alloc _⟩
      · rw [h2] at HDk HWP
        have HV : Hid (E = k + 1 + spanN isDigit (s.data.toList.drop (k + 1))) := by
          unfold Hid
          rw [HVx.out, HD.out, spanN, if_pos h2]
          omega
        clear h2
        go_wp2_with (first | (go_at_call 31; refine (HDk.out _).mono ?_; rintro e' w1 ⟨rfl, rfl⟩) | (go_at_call 46; refine (HLk.out _).mono ?_; rintro e' w1 ⟨rfl, rfl⟩))
        go_round
        case rel => exact ⟨k + 1, by omega, by omega, by go_num, HV.out⟩
        case measure => simp [intOf]; omega
    · have HV : Hid (E = k) := by
        unfold Hid
        rw [HVx.out, List.drop_of_length_le (by rw [lst_len]; omega), spanN]
        omega
      obtain rfl : k = E := HV.out.symm
      by_cases hz : 1 < k - a ∧ s[a].toNat = 48
      · have HE : Hid (tokL (s.data.toList.drop a) = .bad 2) := by unfold Hid; rw [HT.out, HW.out, if_pos (.inl ⟨by rw [← HNA.out]; exact hz.1, by rw [HH.out, num_ext s[a] 48 hz.2]⟩)]
        have b1 : ((s[a].toNat : Int) == 48) = true := by rw [hz.2]; rfl
        obtain ⟨hz1, _⟩ := hz
        go_wp2_with fail
        exact bodyPost_ret (v := .tuple #[.agg #[.int .i64 0, .string ⟨#[]⟩, .int .i64 0], .int .i64 0, .int .i64 (2)]) (by simp [results, Tryd.results26, go_sem, hc0, hc1, hc2]) rfl ⟨by rw [HE.out]; rfl, (Ext.refl w).alloc _⟩
      · have hcase : k - a ≤ 1 ∨ (1 < k - a ∧ ((s[a].toNat : Int) == 48) = false) := by
          rcases Nat.lt_or_ge 1 (k - a) with h | h
          · right; exact ⟨h, by rw [beq_eq_false_iff_ne]; intro e; exact hz ⟨h, by omega⟩⟩
          · left; omega
        have HZ : Hid (¬ (1 < n ∧ (s.data.toList.drop a).head? = some 48)) := by
          unfold Hid
          rw [HH.out, ← HNA.out]
          rintro ⟨h1, h2⟩
          injection h2 with h2
          exact hz ⟨h1, by rw [h2]; rfl⟩
        clear hz
        have HF : Hid (headW (s.data.toList.drop k) = false) := by
          unfold Hid
          rw [HWE.out, dif_neg hlt]
        have HG : Hid (tokL (s.data.toList.drop a) = if 2147483648 < digVal ((s.data.toList.drop a).take n) then .bad 3 else .tok 3 ((s.data.toList.drop a).take n) n) := by
          unfold Hid
          rw [HT.out, HW.out, if_neg]
          rintro (h | h)
          · exact HZ.out h
          · rw [HF.out] at h; cases h
        have hbig := HBIG.out (by
          intro h1 h2
          refine HZ.out ⟨by rw [HLN.out, HNA.out] at h1; exact h1, ?_⟩
          rw [HH.out]
          rw [drop1 s a ha] at h2
          have : n = (n - 1) + 1 := by omega
          rw [this, List.take_succ_cons, List.head?_cons] at h2
          exact h2)
        rw [HLN.out] at hbig
        have HXT : Hid (s.extract a k = ⟨((s.data.toList.drop a).take n).toArray⟩) := by_list (by rw [HPL.out])
        by_cases h10 : 10 < k - a
        · have HE : Hid (tokL (s.data.toList.drop a) = .bad 3) := by unfold Hid; rw [HG.out, if_pos (hbig.2 (.inl h10))]
          clear hbig
          rcases hcase with h1 | ⟨h1, b1⟩
          · omega
          · go_wp2_with fail
            exact bodyPost_ret (v := .tuple #[.agg #[.int .i64 0, .string ⟨#[]⟩, .int .i64 0], .int .i64 0, .int .i64 (3)]) (by simp [results, Tryd.results26, go_sem, hc0, hc1, hc2]) rfl ⟨by rw [HE.out]; rfl, (Ext.refl w).alloc _⟩
        · by_cases he10 : k - a = 10
          · cases hb : Op.bytesLess big10 ((s.data.toList.drop a).take n)
            · have HE : Hid (tokL (s.data.toList.drop a) = .tok 3 ((s.data.toList.drop a).take n) n) := by
                unfold Hid
                rw [HG.out, if_neg]
                intro h
                rcases hbig.1 h with h | ⟨_, h⟩
                · exact h10 h
                · rw [hb] at h; cases h
              have ht := (HTEN.out (by rw [HLN.out]; exact he10)).2 hb
              have hxl : (s.extract a k).toList = (s.data.toList.drop a).take n := by rw [ByteArray.toList_eq, HPL.out]
              rw [← hxl] at ht
              clear hbig hb hxl
              have b4 : (!(Op.bytesLess (s.extract a k).toList [50, 49, 52, 55, 52, 56, 51, 54, 52, 56] || (s.extract a k).toList == [50, 49, 52, 55, 52, 56, 51, 54, 52, 56])) = false := by
                rcases ht with h | h
                · have h' : Op.bytesLess (s.extract a k).toList [50, 49, 52, 55, 52, 56, 51, 54, 52, 56] = true := h
                  rw [h']; rfl
                · have h' : ((s.extract a k).toList == [50, 49, 52, 55, 52, 56, 51, 54, 52, 56]) = true := h
                  rw [h', Bool.or_true]; rfl
              have b5 : Op.bytesLess (s.extract a k).toList [50, 49, 52, 55, 52, 56, 51, 54, 52, 56] = false → ((s.extract a k).toList == [50, 49, 52, 55, 52, 56, 51, 54, 52, 56]) = true := by
                intro h'
                rcases ht with h | h
                · rw [show big10 = [50, 49, 52, 55, 52, 56, 51, 54, 52, 56] from rfl, h'] at h; cases h
                · exact h
              clear ht
              have HF5 := hid b5
              clear b5
              rcases hcase with h1 | ⟨h1, b1⟩
              · omega
              · cases b6 : Op.bytesLess (s.extract a k).toList [50, 49, 52, 55, 52, 56, 51, 54, 52, 56]
                · have b7 := HF5.out b6
                  clear b4
                  go_wp2_with fail
                  have HBn := Blk.of_new w 43 [.int .i64 3, .string (s.extract a k), .int .i64 a]
                  have s0 := HBn.cell 0
                  have s1 := HBn.cell 1
                  have s2 := HBn.cell 2
                  exact bodyPost_ret (v := .tuple #[.agg #[.int .i64 3, .string (s.extract a k), .int .i64 a], .int .i64 (k), .int .i64 (0)]) (by simp [results, Tryd.results26, go_sem, s0, s1, s2]) rfl ⟨by rw [HE.out, rres_tok a _ _ n _ HEn.out, HXT.out]; rfl, (Ext.refl w).alloc _⟩
                · clear b4
                  go_wp2_with fail
                  have HBn := Blk.of_new w 43 [.int .i64 3, .string (s.extract a k), .int .i64 a]
                  have s0 := HBn.cell 0
                  have s1 := HBn.cell 1
                  have s2 := HBn.cell 2
                  exact bodyPost_ret (v := .tuple #[.agg #[.int .i64 3, .string (s.extract a k), .int .i64 a], .int .i64 (k), .int .i64 (0)]) (by simp [results, Tryd.results26, go_sem, s0, s1, s2]) rfl ⟨by rw [HE.out, rres_tok a _ _ n _ HEn.out, HXT.out]; rfl, (Ext.refl w).alloc _⟩
            · have HE : Hid (tokL (s.data.toList.drop a) = .bad 3) := by unfold Hid; rw [HG.out, if_pos (hbig.2 (.inr ⟨he10, hb⟩))]
              obtain ⟨ht1, ht2⟩ := (HTEN.out (by rw [HLN.out]; exact he10)).1 hb
              have hxl : (s.extract a k).toList = (s.data.toList.drop a).take n := by rw [ByteArray.toList_eq, HPL.out]
              rw [← hxl] at ht1 ht2
              have b6 : Op.bytesLess (s.extract a k).toList [50, 49, 52, 55, 52, 56, 51, 54, 52, 56] = false := ht1
              have b7 : ((s.extract a k).toList == [50, 49, 52, 55, 52, 56, 51, 54, 52, 56]) = false := ht2
              clear hbig hb hxl ht1 ht2
              rcases hcase with h1 | ⟨h1, b1⟩
              · omega
              · go_wp2_with fail
                exact bodyPost_ret (v := .tuple #[.agg #[.int .i64 0, .string ⟨#[]⟩, .int .i64 0], .int .i64 0, .int .i64 (3)]) (by simp [results, Tryd.results26, go_sem, hc0, hc1, hc2]) rfl ⟨by rw [HE.out]; rfl, (Ext.refl w).alloc _⟩
          · have HE : Hid (tokL (s.data.toList.drop a) = .tok 3 ((s.data.toList.drop a).take n) n) := by
              unfold Hid
              rw [HG.out, if_neg]
              intro h
              rcases hbig.1 h with h | ⟨h, _⟩
              · exact h10 h
              · exact he10 h
            clear hbig
            rcases hcase with h1 | ⟨h1, b1⟩
            all_goals
              go_wp2_with fail
              have HBn := Blk.of_new w 43 [.int .i64 3, .string (s.extract a k), .int .i64 a]
              have s0 := HBn.cell 0
              have s1 := HBn.cell 1
              have s2 := HBn.cell 2
              exact bodyPost_ret (v := .tuple #[.agg #[.int .i64 3, .string (s.extract a k), .int .i64 a], .int .i64 (k), .int .i64 (0)]) (by simp [results, Tryd.results26, go_sem, s0, s1, s2]) rfl ⟨by rw [HE.out, rres_tok a _ _ n _ HEn.out, HXT.out]; rfl, (Ext.refl w).alloc _⟩
theorem next_any (s : ByteArray) (a : Nat) (w : World) (hs : s.size ≤ 20000) (ha : a < s.size) : Calls Tryd.prog 26 #[.string s, .int .i64 a] w fun e w' => e = .returned (RRes a (tokL (s.data.toList.drop a))) ∧ Ext w w' := by
  cases hl : isLetter s[a]
  · cases hd : isDigit s[a]
    · by_cases hq : s[a].toNat = 39
      · exact next_text s a w hs ha hq
      · exact next_symbol s a w hs ha hl hd hq
    · exact next_digit s a w hs ha hl hd
  · exact next_letter s a w hs ha hl
end Go.Proofs.YtmnjfhjhbjhmhaaDoor
