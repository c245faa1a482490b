/-
  Walks over the lexer: words and numbers.
-/
import Derived.Test.YtmnjfhjhbjhmhaaDoorW11
namespace Go.Proofs.YtmnjfhjhbjhmhaaDoor
open Go.RowKit
set_option linter.unusedVariables false
set_option maxHeartbeats 2000000
set_option maxRecDepth 100000

theorem front_list (s : ByteArray) (k : Nat) : (s.extract 0 k).data.toList = s.data.toList.take k := by
  rw [Lib.extract_data, List.drop_zero, Nat.sub_zero]
theorem piece_size (s : ByteArray) (a k : Nat) : (s.extract a k).size ≤ s.size := by
  rw [ByteArray.size_extract]; omega
theorem word_any (s : ByteArray) (w : World) (hs : s.size ≤ 20000) (hk : KwAt w) : Calls Tryd.prog 42 #[.string s] w fun e w' => e = .returned (TRes (wordL s.data.toList)) ∧ Ext w w' := by
  have hle : spanN inWord s.data.toList ≤ s.size := span_le inWord s.data.toList
  have HS := hid (fun W => span_word s W (by unfold maxLen; omega))
  have HW : Hid (wordL s.data.toList = if isKw (s.data.toList.take (spanN inWord s.data.toList)) = true then .tok 2 ((s.data.toList.take (spanN inWord s.data.toList)).map upC) (spanN inWord s.data.toList)
      else if 24 < spanN inWord s.data.toList then .bad 3
      else .tok 1 ((s.data.toList.take (spanN inWord s.data.toList)).map loC) (spanN inWord s.data.toList)) := rfl
  generalize spanN inWord s.data.toList = n at *
  have hps : (s.extract 0 n).size ≤ 20000 := Nat.le_trans (piece_size s 0 n) hs
  have HU : Hid (∀ W, Calls Tryd.prog 33 #[.string (s.extract 0 n)] W fun e w' => e = .returned (.string ⟨((s.data.toList.take n).map upC).toArray⟩) ∧ Ext W w') := by
    intro W
    have := upper_any (s.extract 0 n) W hps
    rw [front_list] at this
    exact this
  have HO : Hid (∀ W, Calls Tryd.prog 30 #[.string (s.extract 0 n)] W fun e w' => e = .returned (.string ⟨((s.data.toList.take n).map loC).toArray⟩) ∧ Ext W w') := by
    intro W
    have := lower_any (s.extract 0 n) W hps
    rw [front_list] at this
    exact this
  have HK : Hid (∀ W, Ext w W → Calls Tryd.prog 16 #[.string (s.extract 0 n)] W fun e w' => e = .returned (.bool (isKw (s.data.toList.take n))) ∧ Ext W w') := by
    intro W hW
    have := keyword_any (s.extract 0 n) W hps (hk.ext hW)
    rw [front_list] at this
    exact this
  have HB0 := hid (Blk.of_new w 37 [.int .i64 0, .string ⟨#[]⟩, .int .i64 0])
  clear hps
  cases hkw : isKw (s.data.toList.take n)
  · by_cases h24 : 24 < n
    · have HE : Hid (wordL s.data.toList = .bad 3) := by unfold Hid; rw [HW.out, hkw, if_neg (by decide), if_pos h24]
      go_enter Tryd.func42, Tryd.ntmps42
      go_wp2_with (first | (go_at_call 28; refine (HS.out _).mono ?_; rintro e w1 ⟨rfl, rfl⟩) | (go_at_call 16; refine (HK.out _ ((Ext.refl w).alloc _)).mono ?_; rintro e w1 ⟨rfl, hx1⟩; rw [hkw]; have HB := hid (HB0.out.ext hx1); have hc0 := HB.out.cell 0; have hc1 := HB.out.cell 1; have hc2 := HB.out.cell 2; have hf0 := HB.out.frozen 0; have hf1 := HB.out.frozen 1; have hf2 := HB.out.frozen 2))
      have s0 : (w1.setCell ⟨w.heap.size, 0, none⟩ (.int .i64 0)).cell? ⟨w.heap.size, 0, none⟩ = some (.int .i64 0) := (HB.out.set 0 _).cell 0
      have s1 : ((w1.setCell ⟨w.heap.size, 0, none⟩ (.int .i64 0)).setCell ⟨w.heap.size, 1, none⟩ (.string ⟨#[]⟩)).cell? ⟨w.heap.size, 1, none⟩ = some (.string ⟨#[]⟩) := ((HB.out.set 0 _).set 1 _).cell 1
      have s2 : (((w1.setCell ⟨w.heap.size, 0, none⟩ (.int .i64 0)).setCell ⟨w.heap.size, 1, none⟩ (.string ⟨#[]⟩)).setCell ⟨w.heap.size, 2, none⟩ (.int .i64 0)).cell? ⟨w.heap.size, 2, none⟩ = some (.int .i64 0) := (((HB.out.set 0 _).set 1 _).set 2 _).cell 2
      exact bodyPost_ret (v := .tuple #[.agg #[.int .i64 0, .string ⟨#[]⟩, .int .i64 0], .int .i64 (0), .int .i64 (3)]) (by simp [results, Tryd.results42, go_sem, s0, s1, s2]) rfl ⟨by rw [HE.out]; rfl, (((((Ext.refl w).alloc _).trans hx1).setCell (Nat.le_refl _) _).setCell (Nat.le_refl _) _).setCell (Nat.le_refl _) _⟩
    · have HE : Hid (wordL s.data.toList = .tok 1 ((s.data.toList.take n).map loC) n) := by unfold Hid; rw [HW.out, hkw, if_neg (by decide), if_neg h24]
      generalize (s.data.toList.take n).map loC = L at *
      go_enter Tryd.func42, Tryd.ntmps42
      go_wp2_with (first | (go_at_call 28; refine (HS.out _).mono ?_; rintro e w1 ⟨rfl, rfl⟩) | (go_at_call 16; refine (HK.out _ ((Ext.refl w).alloc _)).mono ?_; rintro e w1 ⟨rfl, hx1⟩; rw [hkw]) | (go_at_call 30; refine (HO.out _).mono ?_; rintro e w2 ⟨rfl, hx2⟩; have HB := hid ((HB0.out.ext hx1).ext hx2); have hc0 := HB.out.cell 0; have hc1 := HB.out.cell 1; have hc2 := HB.out.cell 2; have hf0 := HB.out.frozen 0; have hf1 := HB.out.frozen 1; have hf2 := HB.out.frozen 2))
      have s0 : (w2.setCell ⟨w.heap.size, 0, none⟩ (.int .i64 1)).cell? ⟨w.heap.size, 0, none⟩ = some (.int .i64 1) := (HB.out.set 0 _).cell 0
      have s1 : ((w2.setCell ⟨w.heap.size, 0, none⟩ (.int .i64 1)).setCell ⟨w.heap.size, 1, none⟩ (.string ⟨L.toArray⟩)).cell? ⟨w.heap.size, 1, none⟩ = some (.string ⟨L.toArray⟩) := ((HB.out.set 0 _).set 1 _).cell 1
      have s2 : (((w2.setCell ⟨w.heap.size, 0, none⟩ (.int .i64 1)).setCell ⟨w.heap.size, 1, none⟩ (.string ⟨L.toArray⟩)).setCell ⟨w.heap.size, 2, none⟩ (.int .i64 0)).cell? ⟨w.heap.size, 2, none⟩ = some (.int .i64 0) := (((HB.out.set 0 _).set 1 _).set 2 _).cell 2
      exact bodyPost_ret (v := .tuple #[.agg #[.int .i64 1, .string ⟨L.toArray⟩, .int .i64 0], .int .i64 (n), .int .i64 (0)]) (by simp [results, Tryd.results42, go_sem, s0, s1, s2]) rfl ⟨by rw [HE.out]; rfl, ((((((Ext.refl w).alloc _).trans hx1).trans hx2).setCell (Nat.le_refl _) _).setCell (Nat.le_refl _) _).setCell (Nat.le_refl _) _⟩
  · have HE : Hid (wordL s.data.toList = .tok 2 ((s.data.toList.take n).map upC) n) := by unfold Hid; rw [HW.out, hkw, if_pos rfl]
    generalize (s.data.toList.take n).map upC = L at *
    go_enter Tryd.func42, Tryd.ntmps42
    go_wp2_with (first | (go_at_call 28; refine (HS.out _).mono ?_; rintro e w1 ⟨rfl, rfl⟩) | (go_at_call 16; refine (HK.out _ ((Ext.refl w).alloc _)).mono ?_; rintro e w1 ⟨rfl, hx1⟩; rw [hkw]) | (go_at_call 33; refine (HU.out _).mono ?_; rintro e w2 ⟨rfl, hx2⟩; have HB := hid ((HB0.out.ext hx1).ext hx2); have hc0 := HB.out.cell 0; have hc1 := HB.out.cell 1; have hc2 := HB.out.cell 2; have hf0 := HB.out.frozen 0; have hf1 := HB.out.frozen 1; have hf2 := HB.out.frozen 2))
    have s0 : (w2.setCell ⟨w.heap.size, 0, none⟩ (.int .i64 2)).cell? ⟨w.heap.size, 0, none⟩ = some (.int .i64 2) := (HB.out.set 0 _).cell 0
    have s1 : ((w2.setCell ⟨w.heap.size, 0, none⟩ (.int .i64 2)).setCell ⟨w.heap.size, 1, none⟩ (.string ⟨L.toArray⟩)).cell? ⟨w.heap.size, 1, none⟩ = some (.string ⟨L.toArray⟩) := ((HB.out.set 0 _).set 1 _).cell 1
    have s2 : (((w2.setCell ⟨w.heap.size, 0, none⟩ (.int .i64 2)).setCell ⟨w.heap.size, 1, none⟩ (.string ⟨L.toArray⟩)).setCell ⟨w.heap.size, 2, none⟩ (.int .i64 0)).cell? ⟨w.heap.size, 2, none⟩ = some (.int .i64 0) := (((HB.out.set 0 _).set 1 _).set 2 _).cell 2
    exact bodyPost_ret (v := .tuple #[.agg #[.int .i64 2, .string ⟨L.toArray⟩, .int .i64 0], .int .i64 (n), .int .i64 (0)]) (by simp [results, Tryd.results42, go_sem, s0, s1, s2]) rfl ⟨by rw [HE.out]; rfl, ((((((Ext.refl w).alloc _).trans hx1).trans hx2).setCell (Nat.le_refl _) _).setCell (Nat.le_refl _) _).setCell (Nat.le_refl _) _⟩

theorem dv_snoc (l : List UInt8) (c : UInt8) : digVal (l ++ [c]) = 10 * digVal l + (c.toNat - 48) := by
  unfold digVal
  rw [List.foldl_append]
  rfl
theorem dv_mono (a b : List UInt8) : digVal a ≤ digVal (a ++ b) := by
  have : digVal (a ++ b) = digVal a * 10 ^ b.length + digVal b := by
    rw [← dv_from]
    unfold digVal
    rw [List.foldl_append]
  rw [this]
  have h1 : digVal a * 1 ≤ digVal a * 10 ^ b.length := Nat.mul_le_mul_left _ (Nat.pow_pos (by decide))
  omega
theorem dv_take (l : List UInt8) (i j : Nat) (h : i ≤ j) : digVal (l.take i) ≤ digVal (l.take j) := by
  have : l.take j = l.take i ++ (l.take j).drop i := by
    conv => lhs; rw [← List.take_append_drop i (l.take j)]
    rw [List.take_take, Nat.min_eq_left h]
  rw [this]
  exact dv_mono _ _
theorem headW_at (s : ByteArray) (n : Nat) : headW (s.data.toList.drop n) = if h : n < s.size then inWord s[n] else false := by
  split
  · rename_i h
    rw [drop1 s n h]; rfl
  · rw [List.drop_of_length_le (by rw [lst_len]; omega)]; rfl
theorem number_any (s : ByteArray) (w : World) (hs : s.size ≤ 20000) (h0 : 0 < s.size) : Calls Tryd.prog 44 #[.string s] w fun e w' => e = .returned (TRes (numL s.data.toList)) ∧ Ext w w' := by
  have hle : spanN isDigit s.data.toList ≤ s.size := span_le isDigit s.data.toList
  have HS := hid (fun W => span_digit s W (by unfold maxLen; omega))
  have HDG := hid (span_all isDigit s.data.toList)
  have HN : Hid (numL s.data.toList = if (1 < spanN isDigit s.data.toList ∧ s.data.toList.head? = some 48) ∨ headW (s.data.toList.drop (spanN isDigit s.data.toList)) = true then .bad 2
      else if 2147483648 < digVal (s.data.toList.take (spanN isDigit s.data.toList)) then .bad 3
      else .tok 3 (s.data.toList.take (spanN isDigit s.data.toList)) (spanN isDigit s.data.toList)) := rfl
  have HH : Hid (s.data.toList.head? = some s[0]) := by unfold Hid; rw [lst_cons s h0]; rfl
  generalize spanN isDigit s.data.toList = n at *
  have HW := hid (headW_at s n)
  have HB0 := hid (Blk.of_new w 37 [.int .i64 0, .string ⟨#[]⟩, .int .i64 0])
  have hc0 := HB0.out.cell 0
  have hc1 := HB0.out.cell 1
  have hc2 := HB0.out.cell 2
  have hf0 := HB0.out.frozen 0
  have hf1 := HB0.out.frozen 1
  have hf2 := HB0.out.frozen 2
  by_cases hz : 1 < n ∧ s[0].toNat = 48
  · have HE : Hid (numL s.data.toList = .bad 2) := by unfold Hid; rw [HN.out, if_pos (.inl ⟨hz.1, by rw [HH.out, num_ext s[0] 48 hz.2]⟩)]
    have b1 : ((s[0].toNat : Int) == 48) = true := by rw [hz.2]; rfl
    obtain ⟨hz1, _⟩ := hz
    go_enter Tryd.func44, Tryd.ntmps44
    go_wp2_with (go_at_call 28; refine (HS.out _).mono ?_; rintro e w1 ⟨rfl, rfl⟩)
    exact bodyPost_ret (v := .tuple #[.agg #[.int .i64 0, .string ⟨#[]⟩, .int .i64 0], .int .i64 0, .int .i64 2]) (by simp [results, Tryd.results44, go_sem, hc0, hc1, hc2]) rfl ⟨by rw [HE.out]; rfl, (Ext.refl w).alloc _⟩
  · have HZ : Hid (¬ (1 < n ∧ s.data.toList.head? = some 48)) := by
      unfold Hid
      rw [HH.out]
      rintro ⟨h1, h2⟩
      injection h2 with h2
      exact hz ⟨h1, by rw [h2]; rfl⟩
    have hcase : n ≤ 1 ∨ (1 < n ∧ ((s[0].toNat : Int) == 48) = false) := by
      rcases Nat.lt_or_ge 1 n with h | h
      · right; exact ⟨h, by rw [beq_eq_false_iff_ne]; intro e; exact hz ⟨h, by omega⟩⟩
      · left; omega
    clear hz
    by_cases hw : ∃ h : n < s.size, inWord s[n] = true
    · obtain ⟨hn, hw⟩ := hw
      have HE : Hid (numL s.data.toList = .bad 2) := by unfold Hid; rw [HN.out, if_pos (.inr (by rw [HW.out, dif_pos hn]; exact hw))]
      have HI := hid (fun W => inword_any s[n] W)
      rw [hw] at HI
      rcases hcase with h1 | ⟨h1, b1⟩
      all_goals
        go_enter Tryd.func44, Tryd.ntmps44
        go_wp2_with (first | (go_at_call 28; refine (HS.out _).mono ?_; rintro e w1 ⟨rfl, rfl⟩) | (go_at_call 29; refine (HI.out _).mono ?_; rintro e w1 ⟨rfl, rfl⟩))
        exact bodyPost_ret (v := .tuple #[.agg #[.int .i64 0, .string ⟨#[]⟩, .int .i64 0], .int .i64 0, .int .i64 2]) (by simp [results, Tryd.results44, go_sem, hc0, hc1, hc2]) rfl ⟨by rw [HE.out]; rfl, (Ext.refl w).alloc _⟩
    · have HF : Hid (headW (s.data.toList.drop n) = false) := by
        unfold Hid
        rw [HW.out]
        split
        · rename_i h
          cases hx : inWord s[n]
          · rfl
          · exact absurd ⟨h, hx⟩ hw
        · rfl
      have HE : Hid (numL s.data.toList = if 2147483648 < digVal (s.data.toList.take n) then .bad 3 else .tok 3 (s.data.toList.take n) n) := by
        unfold Hid
        rw [HN.out, if_neg]
        rintro (h | h)
        · exact HZ.out h
        · rw [HF.out] at h; cases h
      have hcase2 : (∃ h : n < s.size, ∀ W, Calls Tryd.prog 29 #[.int .u8 s[n].toNat] W fun e w' => e = .returned (.bool false) ∧ w' = W) ∨ ¬ n < s.size := by
        rcases Nat.lt_or_ge n s.size with h | h
        · left
          refine ⟨h, fun W => ?_⟩
          have := inword_any s[n] W
          cases hx : inWord s[n]
          · rw [hx] at this; exact this
          · exact absurd ⟨h, hx⟩ hw
        · right; omega
      clear hw
      have hpl : (s.extract 0 n).size = n := by rw [ByteArray.size_extract]; omega
      have HPL := hid hpl
      obtain ⟨cap, w2, rest, hcv, hx2, hz2, hb2⟩ := conv_blk (P := Tryd.prog) (w.alloc (.cells #[.int .i64 0, .string ⟨#[]⟩, .int .i64 0] 37)) 9 34 5 (s.extract 0 n) Tryd.underlying9 Tryd.underlying34 Tryd.underlying5
      rw [hpl] at hcv
      rw [front_list] at hb2
      have HB := hid (HB0.out.ext hx2)
      have HX := hid (((Ext.refl w).alloc (.cells #[.int .i64 0, .string ⟨#[]⟩, .int .i64 0] 37)).trans hx2)
      have HBM := hid hb2
      simp only [World.size_alloc] at hcv
      have HSZ : Hid ((w.alloc (.cells #[.int .i64 0, .string ⟨#[]⟩, .int .i64 0] 37)).heap.size = w.heap.size + 1) := by unfold Hid; rw [World.size_alloc]
      clear hb2 hz2 hx2 hpl hc0 hc1 hc2 hf0 hf1 hf2
      rcases hcase with h1 | ⟨h1, b1⟩
      all_goals
        rcases hcase2 with ⟨hn, hI⟩ | hn
        all_goals
          go_enter Tryd.func44, Tryd.ntmps44
          go_wp2_with (first | (go_at_call 28; refine (HS.out _).mono ?_; rintro e w1 ⟨rfl, rfl⟩) | (go_at_call 29; refine (hI _).mono ?_; rintro e w1 ⟨rfl, rfl⟩))
          have hc0 := HB.out.cell 0
          have hc1 := HB.out.cell 1
          have hc2 := HB.out.cell 2
          have hf0 := HB.out.frozen 0
          have hf1 := HB.out.frozen 1
          have hf2 := HB.out.frozen 2
          clear hcv
          go_loop [6, 36] (fun v i => ∃ (k V : Nat), k ≤ n ∧ i = .int .i64 k ∧ v = .int .i64 V ∧ V = digVal (s.data.toList.take k) ∧ V ≤ 2147483648) (fun _ i => n - (intOf i).toNat)
          case atStart => exact ⟨0, 0, Nat.zero_le _, rfl, rfl, rfl, Nat.zero_le _⟩
          case round =>
            obtain ⟨k, V, hk, rfl, rfl, hv, hV⟩ := hrel
            have HV := hid hv
            clear hv
            by_cases hlt : k < n
            · have hlt2 : k < s.size := by omega
              have hlt3 : k < (s.data.toList.take n).length := by rw [List.length_take, lst_len]; omega
              have hck := HBM.out.cell (b8_get' _ rest k hlt3)
              rw [List.getElem_take] at hck
              have hge : (s.data.toList[k]'hlt2) = s[k] := rfl
              rw [hge, HSZ.out] at hck
              have hdg : isDigit s[k] = true := HDG.out s[k] (by
                have := List.getElem_mem hlt3
                rw [List.getElem_take] at this
                exact this)
              have hd : 48 ≤ s[k].toNat ∧ s[k].toNat ≤ 57 := by unfold isDigit at hdg; grind
              obtain ⟨hd1, hd2⟩ := hd
              clear hdg hge hlt3
              have HT : Hid (digVal (s.data.toList.take (k + 1)) = 10 * V + (s[k].toNat - 48)) := by
                unfold Hid
                rw [take1 s k hlt2, dv_snoc, ← HV.out]
              by_cases hbig : 2147483648 < 10 * V + (s[k].toNat - 48)
              · have HR : Hid (numL s.data.toList = .bad 3) := by
                  unfold Hid
                  rw [HE.out, if_pos]
                  have := dv_take s.data.toList (k + 1) n (by omega)
                  rw [HT.out] at this
                  omega
                go_wp2_with fail
                have s0 : (w2.setCell ⟨w.heap.size, 0, none⟩ (.int .i64 0)).cell? ⟨w.heap.size, 0, none⟩ = some (.int .i64 0) := (HB.out.set 0 _).cell 0
                have s1 : ((w2.setCell ⟨w.heap.size, 0, none⟩ (.int .i64 0)).setCell ⟨w.heap.size, 1, none⟩ (.string ⟨#[]⟩)).cell? ⟨w.heap.size, 1, none⟩ = some (.string ⟨#[]⟩) := ((HB.out.set 0 _).set 1 _).cell 1
                have s2 : (((w2.setCell ⟨w.heap.size, 0, none⟩ (.int .i64 0)).setCell ⟨w.heap.size, 1, none⟩ (.string ⟨#[]⟩)).setCell ⟨w.heap.size, 2, none⟩ (.int .i64 0)).cell? ⟨w.heap.size, 2, none⟩ = some (.int .i64 0) := (((HB.out.set 0 _).set 1 _).set 2 _).cell 2
                exact bodyPost_ret (v := .tuple #[.agg #[.int .i64 0, .string ⟨#[]⟩, .int .i64 0], .int .i64 (0), .int .i64 (3)]) (by simp [results, Tryd.results44, go_sem, s0, s1, s2]) rfl ⟨by rw [HR.out]; rfl, ((HX.out.setCell (Nat.le_refl _) _).setCell (Nat.le_refl _) _).setCell (Nat.le_refl _) _⟩
              · go_wp2_with fail
                go_round
                case rel => exact ⟨k + 1, 10 * V + (s[k].toNat - 48), by omega, by go_num, by go_num, HT.out.symm, by omega⟩
                case measure => simp [intOf]; omega
            · obtain rfl : k = n := by omega
              have HR : Hid (numL s.data.toList = .tok 3 (s.data.toList.take k) k) := by
                unfold Hid
                rw [HE.out, if_neg]
                rw [← HV.out]
                omega
              have HXT : Hid (s.extract 0 k = ⟨(s.data.toList.take k).toArray⟩) := by_list (by rw [front_list])
              go_wp2_with fail
              have s0 : (w2.setCell ⟨w.heap.size, 0, none⟩ (.int .i64 3)).cell? ⟨w.heap.size, 0, none⟩ = some (.int .i64 3) := (HB.out.set 0 _).cell 0
              have s1 : ((w2.setCell ⟨w.heap.size, 0, none⟩ (.int .i64 3)).setCell ⟨w.heap.size, 1, none⟩ (.string (s.extract 0 k))).cell? ⟨w.heap.size, 1, none⟩ = some (.string (s.extract 0 k)) := ((HB.out.set 0 _).set 1 _).cell 1
              have s2 : (((w2.setCell ⟨w.heap.size, 0, none⟩ (.int .i64 3)).setCell ⟨w.heap.size, 1, none⟩ (.string (s.extract 0 k))).setCell ⟨w.heap.size, 2, none⟩ (.int .i64 0)).cell? ⟨w.heap.size, 2, none⟩ = some (.int .i64 0) := (((HB.out.set 0 _).set 1 _).set 2 _).cell 2
              exact bodyPost_ret (v := .tuple #[.agg #[.int .i64 3, .string (s.extract 0 k), .int .i64 0], .int .i64 (k), .int .i64 (0)]) (by simp [results, Tryd.results44, go_sem, s0, s1, s2]) rfl ⟨by rw [HR.out, HXT.out]; rfl, ((HX.out.setCell (Nat.le_refl _) _).setCell (Nat.le_refl _) _).setCell (Nat.le_refl _) _⟩
end Go.Proofs.YtmnjfhjhbjhmhaaDoor
