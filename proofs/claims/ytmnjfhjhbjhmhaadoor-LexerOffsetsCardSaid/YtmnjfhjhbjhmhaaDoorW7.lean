/-
  Walks over the lexer: text.
-/
import Derived.Test.YtmnjfhjhbjhmhaaDoorW6
namespace Go.Proofs.YtmnjfhjhbjhmhaaDoor
open Go.RowKit
set_option linter.unusedVariables false
set_option maxHeartbeats 4000000
set_option maxRecDepth 100000

/-- a token read, as it is returned -/
def TRes : TR → Value
  | .bad e => .tuple #[.agg #[.int .i64 0, .string ⟨#[]⟩, .int .i64 0], .int .i64 0, .int .i64 e]
  | .tok k x n => .tuple #[.agg #[.int .i64 k, .string ⟨x.toArray⟩, .int .i64 0], .int .i64 n, .int .i64 0]
def textR : Option (List UInt8 × Nat) → TR
  | none => .bad 2
  | some (X, i) => if 16 < X.length then .bad 3 else .tok 4 X i
theorem textL_R (r : List UInt8) : textL r = textR (litF r [] 1) := rfl
theorem u8s_b8 (l : List UInt8) : u8s (l.map UInt8.toNat) = b8 l := by unfold u8s b8; rw [List.map_map]; rfl
theorem S_list (l : List UInt8) : S (l.map UInt8.toNat) = ⟨l.toArray⟩ := by
  unfold S
  rw [List.map_map]
  congr 1
  simp [Function.comp_def]
theorem conv_own8 {P : Program} {w : World} (src dst e B n : Nat) (v : Value) (l : List UInt8) (hs : P.underlying src = some (.slice e)) (he : P.underlying e = some (.int .u8)) (hd : P.underlying dst = some .string)
    (hb : w.ownsRow B e 1 v n (b8 l)) : (convert src dst v).run P w = .ok (.string ⟨l.toArray⟩) w := by
  rw [← u8s_b8] at hb
  rw [conv_own src dst e B n v (l.map UInt8.toNat) hs he hd hb, S_list]
theorem own_shape {w : World} {B e n : Nat} {v : Value} {xs : List Value} (h : w.ownsRow B e 1 v n xs) : ∃ A c, v = .slice A n c := by
  rcases h.2 with ⟨rfl, h0⟩ | ⟨g, cap, cur, rfl, _⟩
  · exact ⟨none, 0, by rw [h0]⟩
  · exact ⟨some ⟨g, 0, none⟩, cap, rfl⟩
theorem info5 : (Tryd.prog.info? 5).map (fun i => (i.zero, i.size, i.bytes)) = some (some (.int .u8 0), 1, 1) := by kernel_rfl
theorem info_parts {t : TypeId} {z : Value} {n b : Nat} (h : (Tryd.prog.info? t).map (fun i => (i.zero, i.size, i.bytes)) = some (some z, n, b)) : ∃ i, Tryd.prog.info? t = some i ∧ i.zero = some z ∧ i.size = n ∧ i.bytes = b := by
  cases hi : Tryd.prog.info? t with
  | none => rw [hi] at h; cases h
  | some i =>
    rw [hi] at h
    simp only [Option.map_some, Option.some.injEq, Prod.mk.injEq] at h
    exact ⟨i, rfl, h.1, h.2.1, h.2.2⟩
theorem b8_snoc (l : List UInt8) (c : UInt8) : b8 (l ++ [c]) = b8 l ++ [.int .u8 (c.toNat : Int)] := by unfold b8; rw [List.map_append]; rfl
theorem text_any (s : ByteArray) (w : World) (hs : s.size ≤ 20000) (h0 : 0 < s.size) : Calls Tryd.prog 38 #[.string s] w fun e w' => e = .returned (TRes (textL (s.data.toList.drop 1))) ∧ Ext w w' := by
  obtain ⟨i0, hi, hz0, hz1, hz2⟩ := info_parts info5
  have HL : Hid (TRes (textL (s.data.toList.drop 1)) = TRes (textR (litF (s.data.toList.drop 1) [] 1))) := rfl
  generalize TRes (textL (s.data.toList.drop 1)) = V at *
  have HB0 := hid (Blk.of_new w 37 [.int .i64 0, .string ⟨#[]⟩, .int .i64 0])
  go_enter Tryd.func38, Tryd.ntmps38
  go_wp2_with fail
  go_loopw [5, 6] (fun v i wr => ∃ (k : Nat) (X : List UInt8), i = .int .i64 k ∧ 1 ≤ k ∧ k ≤ s.size ∧ X.length ≤ k ∧ Ext w wr ∧ Blk wr w.heap.size 37 [.int .i64 0, .string ⟨#[]⟩, .int .i64 0] ∧ wr.ownsRow (w.heap.size + 1) 5 1 v X.length (b8 X) ∧ V = TRes (textR (litF (s.data.toList.drop k) X k))) (fun _ i _ => s.size - (intOf i).toNat)
  case atStart => exact ⟨1, [], rfl, Nat.le_refl _, h0, Nat.zero_le _, (Ext.refl w).alloc _, HB0.out, World.ownsRow_nil _ _ _ _, HL.out⟩
  case round =>
    obtain ⟨k, X, rfl, hk1, hk2, hXs, hxr, hb, hown, hv⟩ := hrel
    obtain ⟨A, c, rfl⟩ := own_shape hown
    have HV := hid hv
    have HB := hid hb
    clear hv
    have hc0 := hb.cell 0
    have hc1 := hb.cell 1
    have hc2 := hb.cell 2
    have hf0 := hb.frozen 0
    have hf1 := hb.frozen 1
    have hf2 := hb.frozen 2
    clear hb
    have hcv := conv_own8 (P := Tryd.prog) 34 9 5 (w.heap.size + 1) X.length _ X Tryd.underlying34 Tryd.underlying5 Tryd.underlying9 hown
    by_cases hlt : k < s.size
    · have HD := hid (drop1 s k hlt)
      by_cases hc : 32 ≤ s[k].toNat ∧ s[k].toNat ≤ 126
      · have HP : Hid (isPrint s[k] = true) := by unfold Hid isPrint; simpa using hc
        have HPn : Hid (¬ isPrint s[k] = false) := by unfold Hid; rw [HP.out]; decide
        obtain ⟨hc1', hc2'⟩ := hc
        by_cases hq : s[k].toNat = 39
        · have b1 : ((s[k].toNat : Int) == 39) = true := by rw [hq]; rfl
          have HQ := hid hq
          clear hq
          by_cases hl : k + 1 < s.size
          · have HD2 := hid (drop1 s (k + 1) hl)
            have b0 : ((k : Int) + 1 == (s.size : Int)) = false := by rw [beq_eq_false_iff_ne]; omega
            by_cases hq2 : s[k + 1].toNat = 39
            · have b2 : ((s[k + 1].toNat : Int) == 39) = true := by rw [hq2]; rfl
              have b3 : ((s[k + 1].toNat : Int) != 39) = false := by rw [hq2]; rfl
              have HQ2 := hid hq2
              clear hq2 hcv
              go_wp2_with (at_builtin; refine wpList_app _ rfl _ _ 34 rfl (w.heap.size + 1) 5 i0 (.int .u8 0) 1 Tryd.underlying34 hi hz0 hz1 hz2 rfl _ _ _ rfl (own_ext hown ((Ext.refl _).alloc _)) ⟨wr.heap.size, 0, none⟩ 1 1 [Value.int .u8 (s[k + 1].toNat : Int)] rfl rfl (news_new _ _ _) (by intro u hu; simp at hu; subst hu; rfl) (by unfold maxLen; omega) (by omega) (by have := HB.out.lt; simp; omega) ?_; intro v' w2 hown' hg' hat' hold' _)
              go_roundw
              case rel =>
                refine ⟨k + 1 + 1, X ++ [s[k + 1]], by go_num, by omega, by omega, by rw [List.length_append]; simp only [List.length_cons, List.length_nil]; omega, Ext.grown (hxr.alloc _) hg' (fun g hg => Nat.le_of_succ_le (own_ge hown hg)), (HB.out.ext ((Ext.refl _).alloc _)).grown hg' (fun e => by have := own_ge hown e.symm; omega), by rw [b8_snoc, List.length_append]; exact hown', ?_⟩
                rw [HV.out, HD.out, lit_cons, if_neg HPn.out, if_pos HQ.out, HD2.out]
                simp only
                rw [if_pos HQ2.out]
              case measure => simp [intOf]; omega
            · have b2 : ((s[k + 1].toNat : Int) == 39) = false := by rw [beq_eq_false_iff_ne]; omega
              have b3 : ((s[k + 1].toNat : Int) != 39) = true := by rw [bne_iff_ne]; omega
              have HQ2 : Hid (¬ s[k + 1].toNat = 39) := hq2
              clear hq2
              have HE : Hid (V = TRes (textR (some (X, k + 1)))) := by
                unfold Hid
                rw [HV.out, HD.out, lit_cons, if_neg HPn.out, if_pos HQ.out, HD2.out]
                simp only
                rw [if_neg HQ2.out]
              by_cases hX : 16 < X.length
              · go_wp2_with fail
                have s0 : (wr.setCell ⟨w.heap.size, 0, none⟩ (.int .i64 0)).cell? ⟨w.heap.size, 0, none⟩ = some (.int .i64 0) := (HB.out.set 0 _).cell 0
                have s1 : ((wr.setCell ⟨w.heap.size, 0, none⟩ (.int .i64 0)).setCell ⟨w.heap.size, 1, none⟩ (.string ⟨#[]⟩)).cell? ⟨w.heap.size, 1, none⟩ = some (.string ⟨#[]⟩) := ((HB.out.set 0 _).set 1 _).cell 1
                have s2 : (((wr.setCell ⟨w.heap.size, 0, none⟩ (.int .i64 0)).setCell ⟨w.heap.size, 1, none⟩ (.string ⟨#[]⟩)).setCell ⟨w.heap.size, 2, none⟩ (.int .i64 0)).cell? ⟨w.heap.size, 2, none⟩ = some (.int .i64 0) := (((HB.out.set 0 _).set 1 _).set 2 _).cell 2
                exact bodyPost_ret (v := .tuple #[.agg #[.int .i64 0, .string ⟨#[]⟩, .int .i64 0], .int .i64 (0), .int .i64 (3)]) (by simp [results, Tryd.results38, go_sem, s0, s1, s2]) rfl ⟨by rw [HE.out]; unfold textR; simp only; rw [if_pos hX]; rfl, ((hxr.setCell (Nat.le_refl _) _).setCell (Nat.le_refl _) _).setCell (Nat.le_refl _) _⟩
              · go_wp2_with fail
                have s0 : (wr.setCell ⟨w.heap.size, 0, none⟩ (.int .i64 4)).cell? ⟨w.heap.size, 0, none⟩ = some (.int .i64 4) := (HB.out.set 0 _).cell 0
                have s1 : ((wr.setCell ⟨w.heap.size, 0, none⟩ (.int .i64 4)).setCell ⟨w.heap.size, 1, none⟩ (.string ⟨X.toArray⟩)).cell? ⟨w.heap.size, 1, none⟩ = some (.string ⟨X.toArray⟩) := ((HB.out.set 0 _).set 1 _).cell 1
                have s2 : (((wr.setCell ⟨w.heap.size, 0, none⟩ (.int .i64 4)).setCell ⟨w.heap.size, 1, none⟩ (.string ⟨X.toArray⟩)).setCell ⟨w.heap.size, 2, none⟩ (.int .i64 0)).cell? ⟨w.heap.size, 2, none⟩ = some (.int .i64 0) := (((HB.out.set 0 _).set 1 _).set 2 _).cell 2
                exact bodyPost_ret (v := .tuple #[.agg #[.int .i64 4, .string ⟨X.toArray⟩, .int .i64 0], .int .i64 ((k : Int) + 1), .int .i64 (0)]) (by simp [results, Tryd.results38, go_sem, s0, s1, s2]) rfl ⟨by rw [HE.out]; unfold textR; simp only; rw [if_neg hX]; rfl, ((hxr.setCell (Nat.le_refl _) _).setCell (Nat.le_refl _) _).setCell (Nat.le_refl _) _⟩
          · have b0 : ((k : Int) + 1 == (s.size : Int)) = true := by rw [beq_iff_eq]; omega
            have HE : Hid (V = TRes (textR (some (X, k + 1)))) := by
              unfold Hid
              rw [HV.out, HD.out, lit_cons, if_neg HPn.out, if_pos HQ.out]
              rw [List.drop_of_length_le (show s.data.toList.length ≤ k + 1 by show s.size ≤ _; omega)]
            by_cases hX : 16 < X.length
            · go_wp2_with fail
              have s0 : (wr.setCell ⟨w.heap.size, 0, none⟩ (.int .i64 0)).cell? ⟨w.heap.size, 0, none⟩ = some (.int .i64 0) := (HB.out.set 0 _).cell 0
              have s1 : ((wr.setCell ⟨w.heap.size, 0, none⟩ (.int .i64 0)).setCell ⟨w.heap.size, 1, none⟩ (.string ⟨#[]⟩)).cell? ⟨w.heap.size, 1, none⟩ = some (.string ⟨#[]⟩) := ((HB.out.set 0 _).set 1 _).cell 1
              have s2 : (((wr.setCell ⟨w.heap.size, 0, none⟩ (.int .i64 0)).setCell ⟨w.heap.size, 1, none⟩ (.string ⟨#[]⟩)).setCell ⟨w.heap.size, 2, none⟩ (.int .i64 0)).cell? ⟨w.heap.size, 2, none⟩ = some (.int .i64 0) := (((HB.out.set 0 _).set 1 _).set 2 _).cell 2
              exact bodyPost_ret (v := .tuple #[.agg #[.int .i64 0, .string ⟨#[]⟩, .int .i64 0], .int .i64 (0), .int .i64 (3)]) (by simp [results, Tryd.results38, go_sem, s0, s1, s2]) rfl ⟨by rw [HE.out]; unfold textR; simp only; rw [if_pos hX]; rfl, ((hxr.setCell (Nat.le_refl _) _).setCell (Nat.le_refl _) _).setCell (Nat.le_refl _) _⟩
            · go_wp2_with fail
              have s0 : (wr.setCell ⟨w.heap.size, 0, none⟩ (.int .i64 4)).cell? ⟨w.heap.size, 0, none⟩ = some (.int .i64 4) := (HB.out.set 0 _).cell 0
              have s1 : ((wr.setCell ⟨w.heap.size, 0, none⟩ (.int .i64 4)).setCell ⟨w.heap.size, 1, none⟩ (.string ⟨X.toArray⟩)).cell? ⟨w.heap.size, 1, none⟩ = some (.string ⟨X.toArray⟩) := ((HB.out.set 0 _).set 1 _).cell 1
              have s2 : (((wr.setCell ⟨w.heap.size, 0, none⟩ (.int .i64 4)).setCell ⟨w.heap.size, 1, none⟩ (.string ⟨X.toArray⟩)).setCell ⟨w.heap.size, 2, none⟩ (.int .i64 0)).cell? ⟨w.heap.size, 2, none⟩ = some (.int .i64 0) := (((HB.out.set 0 _).set 1 _).set 2 _).cell 2
              exact bodyPost_ret (v := .tuple #[.agg #[.int .i64 4, .string ⟨X.toArray⟩, .int .i64 0], .int .i64 ((k : Int) + 1), .int .i64 (0)]) (by simp [results, Tryd.results38, go_sem, s0, s1, s2]) rfl ⟨by rw [HE.out]; unfold textR; simp only; rw [if_neg hX]; rfl, ((hxr.setCell (Nat.le_refl _) _).setCell (Nat.le_refl _) _).setCell (Nat.le_refl _) _⟩
        · have b1 : ((s[k].toNat : Int) == 39) = false := by rw [beq_eq_false_iff_ne]; omega
          have HQ : Hid (¬ s[k].toNat = 39) := hq
          clear hq hcv
          go_wp2_with (at_builtin; refine wpList_app _ rfl _ _ 34 rfl (w.heap.size + 1) 5 i0 (.int .u8 0) 1 Tryd.underlying34 hi hz0 hz1 hz2 rfl _ _ _ rfl (own_ext hown ((Ext.refl _).alloc _)) ⟨wr.heap.size, 0, none⟩ 1 1 [Value.int .u8 (s[k].toNat : Int)] rfl rfl (news_new _ _ _) (by intro u hu; simp at hu; subst hu; rfl) (by unfold maxLen; omega) (by omega) (by have := HB.out.lt; simp; omega) ?_; intro v' w2 hown' hg' hat' hold' _)
          go_roundw
          case rel =>
            refine ⟨k + 1, X ++ [s[k]], by go_num, by omega, by omega, by rw [List.length_append]; simp only [List.length_cons, List.length_nil]; omega, Ext.grown (hxr.alloc _) hg' (fun g hg => Nat.le_of_succ_le (own_ge hown hg)), (HB.out.ext ((Ext.refl _).alloc _)).grown hg' (fun e => by have := own_ge hown e.symm; omega), by rw [b8_snoc, List.length_append]; exact hown', ?_⟩
            rw [HV.out, HD.out, lit_cons, if_neg HPn.out, if_neg HQ.out]
          case measure => simp [intOf]; omega
      · have HP : Hid (isPrint s[k] = false) := by
          unfold Hid isPrint
          rw [Bool.and_eq_false_iff]
          simp only [decide_eq_false_iff_not]
          omega
        clear hcv
        go_wp2_with fail
        all_goals
          have s0 : (wr.setCell ⟨w.heap.size, 0, none⟩ (.int .i64 0)).cell? ⟨w.heap.size, 0, none⟩ = some (.int .i64 0) := (HB.out.set 0 _).cell 0
          have s1 : ((wr.setCell ⟨w.heap.size, 0, none⟩ (.int .i64 0)).setCell ⟨w.heap.size, 1, none⟩ (.string ⟨#[]⟩)).cell? ⟨w.heap.size, 1, none⟩ = some (.string ⟨#[]⟩) := ((HB.out.set 0 _).set 1 _).cell 1
          have s2 : (((wr.setCell ⟨w.heap.size, 0, none⟩ (.int .i64 0)).setCell ⟨w.heap.size, 1, none⟩ (.string ⟨#[]⟩)).setCell ⟨w.heap.size, 2, none⟩ (.int .i64 0)).cell? ⟨w.heap.size, 2, none⟩ = some (.int .i64 0) := (((HB.out.set 0 _).set 1 _).set 2 _).cell 2
          exact bodyPost_ret (v := .tuple #[.agg #[.int .i64 0, .string ⟨#[]⟩, .int .i64 0], .int .i64 (0), .int .i64 (2)]) (by simp [results, Tryd.results38, go_sem, s0, s1, s2]) rfl ⟨by rw [HV.out, HD.out, lit_cons, if_pos HP.out]; rfl, ((hxr.setCell (Nat.le_refl _) _).setCell (Nat.le_refl _) _).setCell (Nat.le_refl _) _⟩
    · clear hcv
      go_wp2_with fail
      have s0 : (wr.setCell ⟨w.heap.size, 0, none⟩ (.int .i64 0)).cell? ⟨w.heap.size, 0, none⟩ = some (.int .i64 0) := (HB.out.set 0 _).cell 0
      have s1 : ((wr.setCell ⟨w.heap.size, 0, none⟩ (.int .i64 0)).setCell ⟨w.heap.size, 1, none⟩ (.string ⟨#[]⟩)).cell? ⟨w.heap.size, 1, none⟩ = some (.string ⟨#[]⟩) := ((HB.out.set 0 _).set 1 _).cell 1
      have s2 : (((wr.setCell ⟨w.heap.size, 0, none⟩ (.int .i64 0)).setCell ⟨w.heap.size, 1, none⟩ (.string ⟨#[]⟩)).setCell ⟨w.heap.size, 2, none⟩ (.int .i64 0)).cell? ⟨w.heap.size, 2, none⟩ = some (.int .i64 0) := (((HB.out.set 0 _).set 1 _).set 2 _).cell 2
      exact bodyPost_ret (v := .tuple #[.agg #[.int .i64 0, .string ⟨#[]⟩, .int .i64 0], .int .i64 (0), .int .i64 (2)]) (by simp [results, Tryd.results38, go_sem, s0, s1, s2]) rfl ⟨by rw [HV.out, List.drop_of_length_le (show s.data.toList.length ≤ k by show s.size ≤ _; omega), litF]; rfl, ((hxr.setCell (Nat.le_refl _) _).setCell (Nat.le_refl _) _).setCell (Nat.le_refl _) _⟩

end Go.Proofs.YtmnjfhjhbjhmhaaDoor
