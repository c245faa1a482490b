/-
  Walks over the lexer's reference: one token: numbers, texts, symbols.
-/
import Derived.Test.YtmnjfhjhbjhmhaaDoorW15
namespace Go.Proofs.YtmnjfhjhbjhmhaaDoor
open Go.RowKit
set_option linter.unusedVariables false
set_option maxHeartbeats 4000000
set_option maxRecDepth 100000

theorem less_same : ∀ (a b : List UInt8), a.length = b.length → Op.bytesLess a b = false → Op.bytesLess b a = false → a = b
  | [], [], _, _, _ => rfl
  | c :: r, d :: q, hl, h1, h2 => by
    rw [Op.bytesLess, Bool.or_eq_false_iff, decide_eq_false_iff_not] at h1 h2
    have e : c = d := by
      apply num_ext
      rw [UInt8.lt_iff_toNat_lt] at h1 h2
      omega
    subst e
    rw [beq_self_eq_true, Bool.true_and] at h1 h2
    rw [less_same r q (by simpa using hl) h1.2 h2.2]
/-- ten digits against the greatest number -/
theorem ten_big (l : List UInt8) (h10 : l.length = 10) : (Op.bytesLess big10 l = true → Op.bytesLess l big10 = false ∧ (l == big10) = false) ∧ (Op.bytesLess big10 l = false → Op.bytesLess l big10 = true ∨ (l == big10) = true) := by
  constructor
  · intro h
    have hne : l ≠ big10 := by
      rintro rfl
      exact absurd h (by decide)
    refine ⟨?_, beq_eq_false_iff_ne.2 hne⟩
    cases hx : Op.bytesLess l big10
    · rfl
    · exfalso
      have : ∀ a b : List UInt8, Op.bytesLess a b = true → Op.bytesLess b a = false := by
        intro a
        induction a with
        | nil => intro b hb; cases b <;> rfl
        | cons c r ih =>
          intro b hb
          cases b with
          | nil => cases hb
          | cons d q =>
            rw [Op.bytesLess, Bool.or_eq_true, decide_eq_true_eq, UInt8.lt_iff_toNat_lt, Bool.and_eq_true, beq_iff_eq] at hb
            rw [Op.bytesLess, Bool.or_eq_false_iff, decide_eq_false_iff_not, UInt8.lt_iff_toNat_lt, Bool.and_eq_false_iff, beq_eq_false_iff_ne]
            rcases hb with hb | ⟨rfl, hb⟩
            · exact ⟨by omega, .inl (fun e => by rw [e] at hb; omega)⟩
            · exact ⟨by omega, .inr (ih q hb)⟩
      rw [this l big10 hx] at h
      cases h
  · intro h
    cases hx : Op.bytesLess l big10
    · right
      rw [beq_iff_eq]
      exact less_same l big10 (by rw [h10]; rfl) hx h
    · left; rfl
theorem next_text (s : ByteArray) (a : Nat) (w : World) (hs : s.size ≤ 20000) (ha : a < s.size) (hq : s[a].toNat = 39) : Calls Tryd.prog 26 #[.string s, .int .i64 a] w fun e w' => e = .returned (RRes a (tokL (s.data.toList.drop a))) ∧ Ext w w' := by
  have hl : isLetter s[a] = false := by unfold isLetter; rw [hq]; rfl
  have hd : isDigit s[a] = false := by unfold isDigit; rw [hq]; rfl
  have HT : Hid (tokL (s.data.toList.drop a) = textL (s.data.toList.drop (a + 1))) := by
    unfold Hid
    rw [drop1 s a ha, tokL, if_neg (by rw [hl]; decide), if_neg (by rw [hd]; decide), if_pos hq]
  have HL := hid (fun W => rletter_any s[a] W)
  rw [hl] at HL
  have HD0 := hid (fun W => rdigit_any s[a] W)
  rw [hd] at HD0
  have b1 : ((s[a].toNat : Int) == 39) = true := by rw [hq]; rfl
  have HC := hid (fun W => literal_any s a W hs ha)
  have hlt : litS s a = litRes ((litF (s.data.toList.drop (a + 1)) [] 1).map fun q => (q.1, q.2 + a)) := by
    unfold litS
    rw [Nat.add_comm a 1, lit_off a]
  rw [hlt] at HC
  have HB0 := hid (Blk.of_new w 43 [.int .i64 0, .string ⟨#[]⟩, .int .i64 0])
  have hc0 := HB0.out.cell 0
  have hc1 := HB0.out.cell 1
  have hc2 := HB0.out.cell 2
  have hf0 := HB0.out.frozen 0
  have hf1 := HB0.out.frozen 1
  have hf2 := HB0.out.frozen 2
  clear hl hd hq hlt
  cases hx : litF (s.data.toList.drop (a + 1)) [] 1 with
  | none =>
    have HE : Hid (tokL (s.data.toList.drop a) = .bad 2) := by unfold Hid; rw [HT.out]; unfold textL; rw [hx]
    rw [hx] at HC
    simp only [Option.map_none, litRes] at HC
    clear hx
    go_enter Tryd.func26, Tryd.ntmps26
    go_wp2_with (first | (go_at_call 46; refine (HL.out _).mono ?_; rintro e' w1 ⟨rfl, rfl⟩) | (go_at_call 31; refine (HD0.out _).mono ?_; rintro e' w1 ⟨rfl, rfl⟩) | (go_at_call 39; refine (HC.out _).mono ?_; rintro e' w1 ⟨rfl, rfl⟩))
    exact bodyPost_ret (v := .tuple #[.agg #[.int .i64 0, .string ⟨#[]⟩, .int .i64 0], .int .i64 0, .int .i64 (2)]) (by simp [results, Tryd.results26, go_sem, hc0, hc1, hc2]) rfl ⟨by rw [HE.out]; rfl, (Ext.refl w).alloc _⟩
  | some q =>
    obtain ⟨X, i⟩ := q
    rw [hx] at HC
    simp only [Option.map_some, litRes] at HC
    have HXS : Hid ((⟨X.toArray⟩ : ByteArray).size = X.length) := rfl
    by_cases hX : 16 < X.length
    · have HE : Hid (tokL (s.data.toList.drop a) = .bad 3) := by unfold Hid; rw [HT.out]; unfold textL; rw [hx]; simp only; rw [if_pos hX]
      have hX2 : 16 < (⟨X.toArray⟩ : ByteArray).size := hX
      clear hx
      generalize (⟨X.toArray⟩ : ByteArray) = F at *
      go_enter Tryd.func26, Tryd.ntmps26
      go_wp2_with (first | (go_at_call 46; refine (HL.out _).mono ?_; rintro e' w1 ⟨rfl, rfl⟩) | (go_at_call 31; refine (HD0.out _).mono ?_; rintro e' w1 ⟨rfl, rfl⟩) | (go_at_call 39; refine (HC.out _).mono ?_; rintro e' w1 ⟨rfl, rfl⟩))
      exact bodyPost_ret (v := .tuple #[.agg #[.int .i64 0, .string ⟨#[]⟩, .int .i64 0], .int .i64 0, .int .i64 (3)]) (by simp [results, Tryd.results26, go_sem, hc0, hc1, hc2]) rfl ⟨by rw [HE.out]; rfl, (Ext.refl w).alloc _⟩
    · have HE : Hid (RRes a (tokL (s.data.toList.drop a)) = .tuple #[.agg #[.int .i64 4, .string ⟨X.toArray⟩, .int .i64 a], .int .i64 ((i + a : Nat) : Int), .int .i64 0]) := by
        unfold Hid
        rw [HT.out]; unfold textL; rw [hx]; simp only; rw [if_neg hX, Nat.add_comm i a]; rfl
      have hX2 : ¬ 16 < (⟨X.toArray⟩ : ByteArray).size := hX
      clear hx
      generalize (⟨X.toArray⟩ : ByteArray) = F at *
      generalize i + a = M at *
      go_enter Tryd.func26, Tryd.ntmps26
      go_wp2_with (first | (go_at_call 46; refine (HL.out _).mono ?_; rintro e' w1 ⟨rfl, rfl⟩) | (go_at_call 31; refine (HD0.out _).mono ?_; rintro e' w1 ⟨rfl, rfl⟩) | (go_at_call 39; refine (HC.out _).mono ?_; rintro e' w1 ⟨rfl, rfl⟩))
      have HBn := Blk.of_new w 43 [.int .i64 4, .string F, .int .i64 a]
      have s0 := HBn.cell 0
      have s1 := HBn.cell 1
      have s2 := HBn.cell 2
      exact bodyPost_ret (v := .tuple #[.agg #[.int .i64 4, .string F, .int .i64 a], .int .i64 (M), .int .i64 (0)]) (by simp [results, Tryd.results26, go_sem, s0, s1, s2]) rfl ⟨by rw [HE.out], (Ext.refl w).alloc _⟩
theorem next_symbol (s : ByteArray) (a : Nat) (w : World) (hs : s.size ≤ 20000) (ha : a < s.size) (hl : isLetter s[a] = false) (hd : isDigit s[a] = false) (hq : ¬ s[a].toNat = 39) : Calls Tryd.prog 26 #[.string s, .int .i64 a] w fun e w' => e = .returned (RRes a (tokL (s.data.toList.drop a))) ∧ Ext w w' := by
  have HT : Hid (tokL (s.data.toList.drop a) = symL (s.data.toList.drop a)) := by
    unfold Hid
    rw [drop1 s a ha, tokL, if_neg (by rw [hl]; decide), if_neg (by rw [hd]; decide), if_neg hq]
  have HL := hid (fun W => rletter_any s[a] W)
  rw [hl] at HL
  have HD0 := hid (fun W => rdigit_any s[a] W)
  rw [hd] at HD0
  have b1 : ((s[a].toNat : Int) == 39) = false := by rw [beq_eq_false_iff_ne]; omega
  have HC := hid (fun W => symbol_any s a W hs ha)
  have hle : symN (s.data.toList.drop a) ≤ (s.data.toList.drop a).length := sym_le _
  rw [List.length_drop, lst_len] at hle
  have HSL : Hid (symL (s.data.toList.drop a) = if symN (s.data.toList.drop a) = 0 then .bad 2 else .tok 5 ((s.data.toList.drop a).take (symN (s.data.toList.drop a))) (symN (s.data.toList.drop a))) := rfl
  generalize symN (s.data.toList.drop a) = n at *
  have HBk := hid (Blk.of_new w 43 [.int .i64 0, .string ⟨#[]⟩, .int .i64 0])
  clear hl hd hq
  by_cases hn : n = 0
  · have HE : Hid (tokL (s.data.toList.drop a) = .bad 2) := by unfold Hid; rw [HT.out, HSL.out, if_pos hn]
    have b2 : ((n : Int) == 0) = true := by rw [hn]; rfl
    clear hn
    go_enter Tryd.func26, Tryd.ntmps26
    go_wp2_with (first | (go_at_call 46; refine (HL.out _).mono ?_; rintro e' w1 ⟨rfl, rfl⟩) | (go_at_call 31; refine (HD0.out _).mono ?_; rintro e' w1 ⟨rfl, rfl⟩) | (go_at_call 48; refine (HC.out _).mono ?_; rintro e' w1 ⟨rfl, hx1⟩; have HB := hid (HBk.out.ext hx1); have hc0 := HB.out.cell 0; have hc1 := HB.out.cell 1; have hc2 := HB.out.cell 2; have hf0 := HB.out.frozen 0; have hf1 := HB.out.frozen 1; have hf2 := HB.out.frozen 2))
    have s0 : (w1.setCell ⟨w.heap.size, 0, none⟩ (.int .i64 0)).cell? ⟨w.heap.size, 0, none⟩ = some (.int .i64 0) := (HB.out.set 0 _).cell 0
    have s1 : ((w1.setCell ⟨w.heap.size, 0, none⟩ (.int .i64 0)).setCell ⟨w.heap.size, 1, none⟩ (.string ⟨#[]⟩)).cell? ⟨w.heap.size, 1, none⟩ = some (.string ⟨#[]⟩) := ((HB.out.set 0 _).set 1 _).cell 1
    have s2 : (((w1.setCell ⟨w.heap.size, 0, none⟩ (.int .i64 0)).setCell ⟨w.heap.size, 1, none⟩ (.string ⟨#[]⟩)).setCell ⟨w.heap.size, 2, none⟩ (.int .i64 0)).cell? ⟨w.heap.size, 2, none⟩ = some (.int .i64 0) := (((HB.out.set 0 _).set 1 _).set 2 _).cell 2
    exact bodyPost_ret (v := .tuple #[.agg #[.int .i64 0, .string ⟨#[]⟩, .int .i64 0], .int .i64 (0), .int .i64 (2)]) (by simp [results, Tryd.results26, go_sem, s0, s1, s2]) rfl ⟨by rw [HE.out]; rfl, (((((Ext.refl w).alloc _).trans hx1).setCell (Nat.le_refl _) _).setCell (Nat.le_refl _) _).setCell (Nat.le_refl _) _⟩
  · have b2 : ((n : Int) == 0) = false := by rw [beq_eq_false_iff_ne]; omega
    have HE : Hid (RRes a (tokL (s.data.toList.drop a)) = .tuple #[.agg #[.int .i64 5, .string (s.extract a (a + n)), .int .i64 a], .int .i64 ((a : Int) + (n : Int)), .int .i64 0]) := by
      unfold Hid
      rw [HT.out, HSL.out, if_neg hn]
      have : s.extract a (a + n) = ⟨((s.data.toList.drop a).take n).toArray⟩ := by_list (by rw [piece_list, Nat.add_sub_cancel_left])
      rw [this]
      rfl
    have hn0 : a + n ≤ s.size := by omega
    go_enter Tryd.func26, Tryd.ntmps26
    go_wp2_with (first | (go_at_call 46; refine (HL.out _).mono ?_; rintro e' w1 ⟨rfl, rfl⟩) | (go_at_call 31; refine (HD0.out _).mono ?_; rintro e' w1 ⟨rfl, rfl⟩) | (go_at_call 48; refine (HC.out _).mono ?_; rintro e' w1 ⟨rfl, hx1⟩; have HB := hid (HBk.out.ext hx1); have hc0 := HB.out.cell 0; have hc1 := HB.out.cell 1; have hc2 := HB.out.cell 2; have hf0 := HB.out.frozen 0; have hf1 := HB.out.frozen 1; have hf2 := HB.out.frozen 2))
    have s0 : (w1.setCell ⟨w.heap.size, 0, none⟩ (.int .i64 5)).cell? ⟨w.heap.size, 0, none⟩ = some (.int .i64 5) := (HB.out.set 0 _).cell 0
    have s1 : ((w1.setCell ⟨w.heap.size, 0, none⟩ (.int .i64 5)).setCell ⟨w.heap.size, 1, none⟩ (.string (s.extract a (a + n)))).cell? ⟨w.heap.size, 1, none⟩ = some (.string (s.extract a (a + n))) := ((HB.out.set 0 _).set 1 _).cell 1
    have s2 : (((w1.setCell ⟨w.heap.size, 0, none⟩ (.int .i64 5)).setCell ⟨w.heap.size, 1, none⟩ (.string (s.extract a (a + n)))).setCell ⟨w.heap.size, 2, none⟩ (.int .i64 a)).cell? ⟨w.heap.size, 2, none⟩ = some (.int .i64 a) := (((HB.out.set 0 _).set 1 _).set 2 _).cell 2
    exact bodyPost_ret (v := .tuple #[.agg #[.int .i64 5, .string (s.extract a (a + n)), .int .i64 a], .int .i64 ((a : Int) + (n : Int)), .int .i64 (0)]) (by simp [results, Tryd.results26, go_sem, s0, s1, s2]) rfl ⟨by rw [HE.out], (((((Ext.refl w).alloc _).trans hx1).setCell (Nat.le_refl _) _).setCell (Nat.le_refl _) _).setCell (Nat.le_refl _) _⟩
end Go.Proofs.YtmnjfhjhbjhmhaaDoor
