/-
  Walks over the lexer: one token.
-/
import Derived.Test.YtmnjfhjhbjhmhaaDoorW13
namespace Go.Proofs.YtmnjfhjhbjhmhaaDoor
open Go.RowKit
set_option linter.unusedVariables false
set_option maxHeartbeats 2000000
set_option maxRecDepth 100000

theorem tres_shape (t : TR) : ∃ (a : Int) (x : ByteArray) (p n e : Int), TRes t = .tuple #[.agg #[.int .i64 a, .string x, .int .i64 p], .int .i64 n, .int .i64 e] := by
  cases t with
  | bad e => exact ⟨0, ⟨#[]⟩, 0, 0, e, rfl⟩
  | tok k x n => exact ⟨k, ⟨x.toArray⟩, 0, n, 0, rfl⟩
theorem token_letter (s : ByteArray) (w : World) (hs : s.size ≤ 20000) (h0 : 0 < s.size) (hk : KwAt w) (hl : isLetter s[0] = true) : Calls Tryd.prog 24 #[.string s] w fun e w' => e = .returned (TRes (tokL s.data.toList)) ∧ Ext w w' := by
  have HE : Hid (tokL s.data.toList = wordL s.data.toList) := by
    unfold Hid
    rw [lst_cons s h0, tokL, if_pos hl]
  have HL := hid (fun W => letter_any s[0] W)
  rw [hl] at HL
  have HC := hid (fun W (h : Ext w W) => word_any s W hs (hk.ext h))
  obtain ⟨a, x, p, n, e, hsh⟩ := tres_shape (wordL s.data.toList)
  rw [hsh] at HC
  have HR : Hid (TRes (tokL s.data.toList) = .tuple #[.agg #[.int .i64 a, .string x, .int .i64 p], .int .i64 n, .int .i64 e]) := by unfold Hid; rw [HE.out, hsh]
  generalize TRes (tokL s.data.toList) = V at *
  have HB0 := hid (Blk.of_new w 37 [.int .i64 0, .string ⟨#[]⟩, .int .i64 0])
  clear HE hsh hl
  go_enter Tryd.func24, Tryd.ntmps24
  go_wp2_with (first | (go_at_call 27; refine (HL.out _).mono ?_; rintro e' w1 ⟨rfl, rfl⟩) | (go_at_call 42; refine (HC.out _ ((Ext.refl w).alloc _)).mono ?_; rintro e' w1 ⟨rfl, hx1⟩; have HB := hid (HB0.out.ext hx1); have hc0 := HB.out.cell 0; have hc1 := HB.out.cell 1; have hc2 := HB.out.cell 2; have hf0 := HB.out.frozen 0; have hf1 := HB.out.frozen 1; have hf2 := HB.out.frozen 2))
  have s0 : (w1.setCell ⟨w.heap.size, 0, none⟩ (.int .i64 a)).cell? ⟨w.heap.size, 0, none⟩ = some (.int .i64 a) := (HB.out.set 0 _).cell 0
  have s1 : ((w1.setCell ⟨w.heap.size, 0, none⟩ (.int .i64 a)).setCell ⟨w.heap.size, 1, none⟩ (.string x)).cell? ⟨w.heap.size, 1, none⟩ = some (.string x) := ((HB.out.set 0 _).set 1 _).cell 1
  have s2 : (((w1.setCell ⟨w.heap.size, 0, none⟩ (.int .i64 a)).setCell ⟨w.heap.size, 1, none⟩ (.string x)).setCell ⟨w.heap.size, 2, none⟩ (.int .i64 p)).cell? ⟨w.heap.size, 2, none⟩ = some (.int .i64 p) := (((HB.out.set 0 _).set 1 _).set 2 _).cell 2
  exact bodyPost_ret (v := .tuple #[.agg #[.int .i64 a, .string x, .int .i64 p], .int .i64 (n), .int .i64 (e)]) (by simp [results, Tryd.results24, go_sem, s0, s1, s2]) rfl ⟨by rw [HR.out], (((((Ext.refl w).alloc _).trans hx1).setCell (Nat.le_refl _) _).setCell (Nat.le_refl _) _).setCell (Nat.le_refl _) _⟩
theorem token_digit (s : ByteArray) (w : World) (hs : s.size ≤ 20000) (h0 : 0 < s.size) (hl : isLetter s[0] = false) (hd : isDigit s[0] = true) : Calls Tryd.prog 24 #[.string s] w fun e w' => e = .returned (TRes (tokL s.data.toList)) ∧ Ext w w' := by
  have HE : Hid (tokL s.data.toList = numL s.data.toList) := by
    unfold Hid
    rw [lst_cons s h0, tokL, if_neg (by rw [hl]; decide), if_pos hd]
  have HL := hid (fun W => letter_any s[0] W)
  rw [hl] at HL
  have HD := hid (fun W => digit_any s[0] W)
  rw [hd] at HD
  have HC := hid (fun W => number_any s W hs h0)
  obtain ⟨a, x, p, n, e, hsh⟩ := tres_shape (numL s.data.toList)
  rw [hsh] at HC
  have HR : Hid (TRes (tokL s.data.toList) = .tuple #[.agg #[.int .i64 a, .string x, .int .i64 p], .int .i64 n, .int .i64 e]) := by unfold Hid; rw [HE.out, hsh]
  generalize TRes (tokL s.data.toList) = V at *
  have HB0 := hid (Blk.of_new w 37 [.int .i64 0, .string ⟨#[]⟩, .int .i64 0])
  clear HE hsh hl hd
  go_enter Tryd.func24, Tryd.ntmps24
  go_wp2_with (first | (go_at_call 27; refine (HL.out _).mono ?_; rintro e' w1 ⟨rfl, rfl⟩) | (go_at_call 43; refine (HD.out _).mono ?_; rintro e' w1 ⟨rfl, rfl⟩) | (go_at_call 44; refine (HC.out _).mono ?_; rintro e' w1 ⟨rfl, hx1⟩; have HB := hid (HB0.out.ext hx1); have hc0 := HB.out.cell 0; have hc1 := HB.out.cell 1; have hc2 := HB.out.cell 2; have hf0 := HB.out.frozen 0; have hf1 := HB.out.frozen 1; have hf2 := HB.out.frozen 2))
  have s0 : (w1.setCell ⟨w.heap.size, 0, none⟩ (.int .i64 a)).cell? ⟨w.heap.size, 0, none⟩ = some (.int .i64 a) := (HB.out.set 0 _).cell 0
  have s1 : ((w1.setCell ⟨w.heap.size, 0, none⟩ (.int .i64 a)).setCell ⟨w.heap.size, 1, none⟩ (.string x)).cell? ⟨w.heap.size, 1, none⟩ = some (.string x) := ((HB.out.set 0 _).set 1 _).cell 1
  have s2 : (((w1.setCell ⟨w.heap.size, 0, none⟩ (.int .i64 a)).setCell ⟨w.heap.size, 1, none⟩ (.string x)).setCell ⟨w.heap.size, 2, none⟩ (.int .i64 p)).cell? ⟨w.heap.size, 2, none⟩ = some (.int .i64 p) := (((HB.out.set 0 _).set 1 _).set 2 _).cell 2
  exact bodyPost_ret (v := .tuple #[.agg #[.int .i64 a, .string x, .int .i64 p], .int .i64 (n), .int .i64 (e)]) (by simp [results, Tryd.results24, go_sem, s0, s1, s2]) rfl ⟨by rw [HR.out], (((((Ext.refl w).alloc _).trans hx1).setCell (Nat.le_refl _) _).setCell (Nat.le_refl _) _).setCell (Nat.le_refl _) _⟩
theorem token_text (s : ByteArray) (w : World) (hs : s.size ≤ 20000) (h0 : 0 < s.size) (hq : s[0].toNat = 39) : Calls Tryd.prog 24 #[.string s] w fun e w' => e = .returned (TRes (tokL s.data.toList)) ∧ Ext w w' := by
  have hl : isLetter s[0] = false := by unfold isLetter; rw [hq]; rfl
  have hd : isDigit s[0] = false := by unfold isDigit; rw [hq]; rfl
  have HE : Hid (tokL s.data.toList = textL (s.data.toList.drop 1)) := by
    unfold Hid
    conv => lhs; rw [lst_cons s h0]
    rw [tokL, if_neg (by rw [hl]; decide), if_neg (by rw [hd]; decide), if_pos hq]
  have HL := hid (fun W => letter_any s[0] W)
  rw [hl] at HL
  have HD := hid (fun W => digit_any s[0] W)
  rw [hd] at HD
  have HC := hid (fun W => text_any s W hs h0)
  have b1 : ((s[0].toNat : Int) == 39) = true := by rw [hq]; rfl
  obtain ⟨a, x, p, n, e, hsh⟩ := tres_shape (textL (s.data.toList.drop 1))
  rw [hsh] at HC
  have HR : Hid (TRes (tokL s.data.toList) = .tuple #[.agg #[.int .i64 a, .string x, .int .i64 p], .int .i64 n, .int .i64 e]) := by unfold Hid; rw [HE.out, hsh]
  generalize TRes (tokL s.data.toList) = V at *
  have HB0 := hid (Blk.of_new w 37 [.int .i64 0, .string ⟨#[]⟩, .int .i64 0])
  clear HE hsh hl hd hq
  go_enter Tryd.func24, Tryd.ntmps24
  go_wp2_with (first | (go_at_call 27; refine (HL.out _).mono ?_; rintro e' w1 ⟨rfl, rfl⟩) | (go_at_call 43; refine (HD.out _).mono ?_; rintro e' w1 ⟨rfl, rfl⟩) | (go_at_call 38; refine (HC.out _).mono ?_; rintro e' w1 ⟨rfl, hx1⟩; have HB := hid (HB0.out.ext hx1); have hc0 := HB.out.cell 0; have hc1 := HB.out.cell 1; have hc2 := HB.out.cell 2; have hf0 := HB.out.frozen 0; have hf1 := HB.out.frozen 1; have hf2 := HB.out.frozen 2))
  have s0 : (w1.setCell ⟨w.heap.size, 0, none⟩ (.int .i64 a)).cell? ⟨w.heap.size, 0, none⟩ = some (.int .i64 a) := (HB.out.set 0 _).cell 0
  have s1 : ((w1.setCell ⟨w.heap.size, 0, none⟩ (.int .i64 a)).setCell ⟨w.heap.size, 1, none⟩ (.string x)).cell? ⟨w.heap.size, 1, none⟩ = some (.string x) := ((HB.out.set 0 _).set 1 _).cell 1
  have s2 : (((w1.setCell ⟨w.heap.size, 0, none⟩ (.int .i64 a)).setCell ⟨w.heap.size, 1, none⟩ (.string x)).setCell ⟨w.heap.size, 2, none⟩ (.int .i64 p)).cell? ⟨w.heap.size, 2, none⟩ = some (.int .i64 p) := (((HB.out.set 0 _).set 1 _).set 2 _).cell 2
  exact bodyPost_ret (v := .tuple #[.agg #[.int .i64 a, .string x, .int .i64 p], .int .i64 (n), .int .i64 (e)]) (by simp [results, Tryd.results24, go_sem, s0, s1, s2]) rfl ⟨by rw [HR.out], (((((Ext.refl w).alloc _).trans hx1).setCell (Nat.le_refl _) _).setCell (Nat.le_refl _) _).setCell (Nat.le_refl _) _⟩

def symT : Nat → List UInt8
  | 0 => [60, 62]
  | 1 => [60, 61]
  | 2 => [62, 61]
  | _ => []
def symS (k : Nat) : ByteArray := ⟨(symT k).toArray⟩
theorem symS_cell (k : Nat) (h : k < 3) : [Value.string ⟨#[60, 62]⟩, Value.string ⟨#[60, 61]⟩, Value.string ⟨#[62, 61]⟩][k]? = some (.string (symS k)) := by
  match k, h with
  | 0, _ => rfl
  | 1, _ => rfl
  | 2, _ => rfl
theorem hp_two (k : Nat) (hk : k < 3) (l : List UInt8) (h : Lib.hasPrefix l (symT k) = true) : symN l = 2 ∧ l.take 2 = symT k := by
  unfold Lib.hasPrefix at h
  obtain ⟨r, rfl⟩ := List.isPrefixOf_iff_prefix.1 h
  match k, hk with
  | 0, _ => exact ⟨sym_two 60 62 r (.inl ⟨rfl, rfl⟩), rfl⟩
  | 1, _ => exact ⟨sym_two 60 61 r (.inr (.inl ⟨rfl, rfl⟩)), rfl⟩
  | 2, _ => exact ⟨sym_two 62 61 r (.inr (.inr ⟨rfl, rfl⟩)), rfl⟩
theorem hp_no (c : UInt8) (r : List UInt8) (h : ∀ k, k < 3 → Lib.hasPrefix (c :: r) (symT k) = false) : symN (c :: r) = if c ∈ syms then 1 else 0 := by
  refine sym_one c r fun d q e => ?_
  subst e
  rintro (⟨rfl, rfl⟩ | ⟨rfl, rfl⟩ | ⟨rfl, rfl⟩)
  · have := h 0 (by decide); simp [Lib.hasPrefix, symT, List.isPrefixOf] at this
  · have := h 1 (by decide); simp [Lib.hasPrefix, symT, List.isPrefixOf] at this
  · have := h 2 (by decide); simp [Lib.hasPrefix, symT, List.isPrefixOf] at this
theorem idx_mem (c : UInt8) : ∀ l : List UInt8, (0 ≤ Lib.indexByte l c) ↔ c ∈ l
  | [] => by simp [Lib.indexByte]
  | b :: l => by
    have ih := idx_mem c l
    have hg := Lib.indexByte_ge l c
    rw [Lib.indexByte]
    by_cases hb : b = c
    · subst hb; simp
    · have e : (b == c) = false := by simpa using hb
      rw [e]
      simp only [Bool.false_eq_true, if_false, List.mem_cons]
      have hcb : ¬ c = b := fun h => hb h.symm
      by_cases hl : Lib.indexByte l c = -1
      · rw [hl] at ih ⊢
        simp only [beq_self_eq_true, if_true, hcb, false_or]
        exact ih
      · have e2 : (Lib.indexByte l c == -1) = false := by simpa using hl
        rw [e2]
        simp only [Bool.false_eq_true, if_false, hcb, false_or]
        rw [← ih]
        omega
theorem first_of (P : Nat → Bool) : ∃ m, m ≤ 3 ∧ (∀ j, j < m → P j = false) ∧ (m < 3 → P m = true) := by
  cases h0 : P 0
  · cases h1 : P 1
    · cases h2 : P 2
      · exact ⟨3, Nat.le_refl _, fun j hj => by rcases (by omega : j = 0 ∨ j = 1 ∨ j = 2) with rfl | rfl | rfl <;> assumption, fun h => absurd h (Nat.lt_irrefl _)⟩
      · exact ⟨2, by decide, fun j hj => by rcases (by omega : j = 0 ∨ j = 1) with rfl | rfl <;> assumption, fun _ => h2⟩
    · exact ⟨1, by decide, fun j hj => by rw [show j = 0 by omega]; exact h0, fun _ => h1⟩
  · exact ⟨0, by decide, fun j hj => absurd hj (Nat.not_lt_zero _), fun _ => h0⟩
theorem token_symbol (s : ByteArray) (w : World) (hs : s.size ≤ 20000) (h0 : 0 < s.size) (hl : isLetter s[0] = false) (hd : isDigit s[0] = false) (hq : ¬ s[0].toNat = 39) : Calls Tryd.prog 24 #[.string s] w fun e w' => e = .returned (TRes (tokL s.data.toList)) ∧ Ext w w' := by
  have HE : Hid (tokL s.data.toList = symL s.data.toList) := by
    unfold Hid
    rw [lst_cons s h0, tokL, if_neg (by rw [hl]; decide), if_neg (by rw [hd]; decide), if_neg hq]
  have HL := hid (fun W => letter_any s[0] W)
  rw [hl] at HL
  have HD := hid (fun W => digit_any s[0] W)
  rw [hd] at HD
  have b1 : ((s[0].toNat : Int) == 39) = false := by rw [beq_eq_false_iff_ne]; omega
  have HP : Hid (∀ k W, Calls Tryd.prog 40 #[.string s, .string (symS k)] W fun e w' => e = .returned (.bool (Lib.hasPrefix s.data.toList (symT k))) ∧ w' = W) := fun k W => Tryd.strings_HasPrefix s (symS k) W
  have HTW := hid (fun k hk => hp_two k hk s.data.toList)
  have HNO : Hid ((∀ k, k < 3 → Lib.hasPrefix s.data.toList (symT k) = false) → symN s.data.toList = if s[0] ∈ syms then 1 else 0) := by
    unfold Hid
    intro h
    rw [lst_cons s h0] at h ⊢
    exact hp_no _ _ h
  generalize hPP : (fun k => Lib.hasPrefix s.data.toList (symT k)) = P at *
  have hP : ∀ k, Lib.hasPrefix s.data.toList (symT k) = P k := fun k => by rw [← hPP]
  simp only [hP] at HP HTW HNO
  clear hP hPP
  obtain ⟨m, hm, hno, hyes⟩ := first_of P
  have HNM := hid hno
  have HB0 := hid (Blk.of_new w 37 [.int .i64 0, .string ⟨#[]⟩, .int .i64 0])
  have HI : Hid (∀ W, Calls Tryd.prog 41 #[.string ⟨#[40, 41, 44, 59, 46, 42, 43, 45, 47, 37, 61, 60, 62]⟩, .int .u8 s[0].toNat] W fun e w' => e = .returned (.int .i64 (Lib.indexByte syms s[0])) ∧ w' = W) := by
    intro W
    have := Tryd.strings_IndexByte ⟨#[40, 41, 44, 59, 46, 42, 43, 45, 47, 37, 61, 60, 62]⟩ (s[0].toNat : Int) W
    rw [Lib.byte_back'] at this
    exact this
  have hmem := idx_mem s[0] syms
  have HSL : Hid (symL s.data.toList = if symN s.data.toList = 0 then .bad 2 else .tok 5 (s.data.toList.take (symN s.data.toList)) (symN s.data.toList)) := rfl
  have HF : Hid (s.extract 0 1 = ⟨(s.data.toList.take 1).toArray⟩) := by_list (by rw [front_list])
  generalize symN s.data.toList = SN at *
  clear hl hd hq
  go_enter Tryd.func24, Tryd.ntmps24
  go_wp2_with (first | (go_at_call 27; refine (HL.out _).mono ?_; rintro e' w1 ⟨rfl, rfl⟩) | (go_at_call 43; refine (HD.out _).mono ?_; rintro e' w1 ⟨rfl, rfl⟩))
  have HB := hid (HB0.out.ext ((Ext.refl _).alloc (.cells #[.string ⟨#[60, 62]⟩, .string ⟨#[60, 61]⟩, .string ⟨#[62, 61]⟩] 9)))
  have HB3 := hid (Blk.of_new (w.alloc (.cells #[.int .i64 0, .string ⟨#[]⟩, .int .i64 0] 37)) 9 [.string ⟨#[60, 62]⟩, .string ⟨#[60, 61]⟩, .string ⟨#[62, 61]⟩])
  have HX : Hid (Ext w ((w.alloc (.cells #[.int .i64 0, .string ⟨#[]⟩, .int .i64 0] 37)).alloc (.cells #[.string ⟨#[60, 62]⟩, .string ⟨#[60, 61]⟩, .string ⟨#[62, 61]⟩] 9))) := ((Ext.refl _).alloc _).alloc _
  have HBs : Hid (Blk ((w.alloc (.cells #[.int .i64 0, .string ⟨#[]⟩, .int .i64 0] 37)).alloc (.cells #[.string ⟨#[60, 62]⟩, .string ⟨#[60, 61]⟩, .string ⟨#[62, 61]⟩] 9)) (w.heap.size + 1) 9 [.string ⟨#[60, 62]⟩, .string ⟨#[60, 61]⟩, .string ⟨#[62, 61]⟩]) := by
    have := HB3.out
    rw [World.size_alloc] at this
    exact this
  clear HB3
  generalize ((w.alloc (.cells #[.int .i64 0, .string ⟨#[]⟩, .int .i64 0] 37)).alloc (.cells #[.string ⟨#[60, 62]⟩, .string ⟨#[60, 61]⟩, .string ⟨#[62, 61]⟩] 9)) = w1 at *
  have hc0 := HB.out.cell 0
  have hc1 := HB.out.cell 1
  have hc2 := HB.out.cell 2
  have hf0 := HB.out.frozen 0
  have hf1 := HB.out.frozen 1
  have hf2 := HB.out.frozen 2
  go_loop [36] (fun i => ∃ k : Nat, k ≤ m ∧ i = .int .i64 k) (fun i => 3 - (intOf i).toNat)
  case atStart => exact ⟨0, Nat.zero_le _, rfl⟩
  case round =>
    obtain ⟨k, hk, rfl⟩ := hrel
    by_cases hlt : k < 3
    · have hcs := HBs.out.cell_some (symS_cell k hlt)
      cases hpk : P k
      · have hkm : k < m := by
          rcases Nat.lt_or_ge k m with h | h
          · exact h
          · exfalso
            obtain rfl : k = m := by omega
            rw [hyes hlt] at hpk
            cases hpk
        have HPK : Hid (P k = false) := hpk
        clear hpk hyes hno
        go_wp2_with (go_at_call 40; refine (HP.out k _).mono ?_; rintro e' w2 ⟨rfl, rfl⟩; rw [HPK.out])
        go_round
        case rel => exact ⟨k + 1, by omega, by go_num⟩
        case measure => simp [intOf]; omega
      · have HPK : Hid (P k = true) := hpk
        obtain ⟨h1, h2⟩ := HTW.out k hlt hpk
        have HR : Hid (tokL s.data.toList = .tok 5 (symT k) 2) := by
          unfold Hid
          rw [HE.out, HSL.out, h1, if_neg (by decide), h2]
        clear hpk hyes hno h1 h2
        go_wp2_with (go_at_call 40; refine (HP.out k _).mono ?_; rintro e' w2 ⟨rfl, rfl⟩; rw [HPK.out])
        have s0 : (w2.setCell ⟨w.heap.size, 0, none⟩ (.int .i64 5)).cell? ⟨w.heap.size, 0, none⟩ = some (.int .i64 5) := (HB.out.set 0 _).cell 0
        have s1 : ((w2.setCell ⟨w.heap.size, 0, none⟩ (.int .i64 5)).setCell ⟨w.heap.size, 1, none⟩ (.string (symS k))).cell? ⟨w.heap.size, 1, none⟩ = some (.string (symS k)) := ((HB.out.set 0 _).set 1 _).cell 1
        have s2 : (((w2.setCell ⟨w.heap.size, 0, none⟩ (.int .i64 5)).setCell ⟨w.heap.size, 1, none⟩ (.string (symS k))).setCell ⟨w.heap.size, 2, none⟩ (.int .i64 0)).cell? ⟨w.heap.size, 2, none⟩ = some (.int .i64 0) := (((HB.out.set 0 _).set 1 _).set 2 _).cell 2
        exact bodyPost_ret (v := .tuple #[.agg #[.int .i64 5, .string (symS k), .int .i64 0], .int .i64 (2), .int .i64 (0)]) (by simp [results, Tryd.results24, go_sem, s0, s1, s2]) rfl ⟨by rw [HR.out]; rfl, ((HX.out.setCell (Nat.le_refl _) _).setCell (Nat.le_refl _) _).setCell (Nat.le_refl _) _⟩
    · obtain rfl : k = 3 := by omega
      obtain rfl : m = 3 := by omega
      have HSN : Hid (SN = if s[0] ∈ syms then 1 else 0) := HNO.out HNM.out
      clear hyes hno
      by_cases hin : s[0] ∈ syms
      · have hge : 0 ≤ Lib.indexByte syms s[0] := hmem.2 hin
        have HR : Hid (tokL s.data.toList = .tok 5 (s.data.toList.take 1) 1) := by
          unfold Hid
          have h1 := HSN.out
          rw [if_pos hin] at h1
          rw [HE.out, HSL.out, h1, if_neg (by decide)]
        clear hin hmem
        generalize Lib.indexByte syms s[0] = I at *
        go_wp2_with (go_at_call 41; refine (HI.out _).mono ?_; rintro e' w2 ⟨rfl, rfl⟩)
        have s0 : (w2.setCell ⟨w.heap.size, 0, none⟩ (.int .i64 5)).cell? ⟨w.heap.size, 0, none⟩ = some (.int .i64 5) := (HB.out.set 0 _).cell 0
        have s1 : ((w2.setCell ⟨w.heap.size, 0, none⟩ (.int .i64 5)).setCell ⟨w.heap.size, 1, none⟩ (.string (s.extract 0 1))).cell? ⟨w.heap.size, 1, none⟩ = some (.string (s.extract 0 1)) := ((HB.out.set 0 _).set 1 _).cell 1
        have s2 : (((w2.setCell ⟨w.heap.size, 0, none⟩ (.int .i64 5)).setCell ⟨w.heap.size, 1, none⟩ (.string (s.extract 0 1))).setCell ⟨w.heap.size, 2, none⟩ (.int .i64 0)).cell? ⟨w.heap.size, 2, none⟩ = some (.int .i64 0) := (((HB.out.set 0 _).set 1 _).set 2 _).cell 2
        exact bodyPost_ret (v := .tuple #[.agg #[.int .i64 5, .string (s.extract 0 1), .int .i64 0], .int .i64 (1), .int .i64 (0)]) (by simp [results, Tryd.results24, go_sem, s0, s1, s2]) rfl ⟨by rw [HR.out, HF.out]; rfl, ((HX.out.setCell (Nat.le_refl _) _).setCell (Nat.le_refl _) _).setCell (Nat.le_refl _) _⟩
      · have hge : ¬ 0 ≤ Lib.indexByte syms s[0] := fun h => hin (hmem.1 h)
        have HR : Hid (tokL s.data.toList = .bad 2) := by
          unfold Hid
          have h1 := HSN.out
          rw [if_neg hin] at h1
          rw [HE.out, HSL.out, h1, if_pos rfl]
        clear hin hmem
        generalize Lib.indexByte syms s[0] = I at *
        go_wp2_with (go_at_call 41; refine (HI.out _).mono ?_; rintro e' w2 ⟨rfl, rfl⟩)
        have s0 : (w2.setCell ⟨w.heap.size, 0, none⟩ (.int .i64 0)).cell? ⟨w.heap.size, 0, none⟩ = some (.int .i64 0) := (HB.out.set 0 _).cell 0
        have s1 : ((w2.setCell ⟨w.heap.size, 0, none⟩ (.int .i64 0)).setCell ⟨w.heap.size, 1, none⟩ (.string ⟨#[]⟩)).cell? ⟨w.heap.size, 1, none⟩ = some (.string ⟨#[]⟩) := ((HB.out.set 0 _).set 1 _).cell 1
        have s2 : (((w2.setCell ⟨w.heap.size, 0, none⟩ (.int .i64 0)).setCell ⟨w.heap.size, 1, none⟩ (.string ⟨#[]⟩)).setCell ⟨w.heap.size, 2, none⟩ (.int .i64 0)).cell? ⟨w.heap.size, 2, none⟩ = some (.int .i64 0) := (((HB.out.set 0 _).set 1 _).set 2 _).cell 2
        exact bodyPost_ret (v := .tuple #[.agg #[.int .i64 0, .string ⟨#[]⟩, .int .i64 0], .int .i64 (0), .int .i64 (2)]) (by simp [results, Tryd.results24, go_sem, s0, s1, s2]) rfl ⟨by rw [HR.out]; rfl, ((HX.out.setCell (Nat.le_refl _) _).setCell (Nat.le_refl _) _).setCell (Nat.le_refl _) _⟩

theorem token_any (s : ByteArray) (w : World) (hs : s.size ≤ 20000) (h0 : 0 < s.size) (hk : KwAt w) : Calls Tryd.prog 24 #[.string s] w fun e w' => e = .returned (TRes (tokL s.data.toList)) ∧ Ext w w' := by
  cases hl : isLetter s[0]
  · cases hd : isDigit s[0]
    · by_cases hq : s[0].toNat = 39
      · exact token_text s w hs h0 hq
      · exact token_symbol s w hs h0 hl hd hq
    · exact token_digit s w hs h0 hl hd
  · exact token_letter s w hs h0 hk hl
end Go.Proofs.YtmnjfhjhbjhmhaaDoor
