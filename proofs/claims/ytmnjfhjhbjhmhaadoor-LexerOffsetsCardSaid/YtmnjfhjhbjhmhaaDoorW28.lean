/-
  Walks over the laws of the lexer: LexerOffsets.
-/
import Derived.Test.YtmnjfhjhbjhmhaaDoorW27
import Derived.Test.YtmnjfhjhbjhmhaaDoorW22
import Derived.BigQuiet
namespace Go.Proofs.YtmnjfhjhbjhmhaaDoor
open Go.RowKit
set_option linter.unusedVariables false
set_option maxHeartbeats 4000000
set_option maxRecDepth 100000

theorem law_offsets (s : ByteArray) (w : World) (hm : s.size ≤ maxLen) (hk : KwAt w) (hsh : Sh w) : Calls Tryd.prog 6 #[.string s] w fun e w' => e = .returned (.bool true) ∧ Ext w w' := by
  have HA := hid (fun W (h : Ext w W) => awake_any W (hk.ext h) (hsh.ext h))
  by_cases hs : s.size ≤ 2000
  · cases hx : tokAll s with
    | bad p e =>
      have b1 := all_bad s p e hx
      have HT := hid (fun W (h : Ext w W) => tokens_any s W (by omega) (hk.ext h))
      rw [hx] at HT
      unfold TokRes at HT
      simp only [lsL, lsP, lsE, List.length_nil] at HT
      clear hx
      go_enter Tryd.func6, Tryd.ntmps6
      go_wp2_with (first
        | (go_at_call 10; refine (HA.out _ (Ext.refl w)).mono ?_; rintro e' w1 ⟨rfl, hx1⟩)
        | (go_at_call 11; refine (HT.out _ hx1).mono ?_; rintro e' w2 ⟨v, rfl, ⟨A, c, rfl, hat⟩, hx2⟩))
      go_ret
      exact ⟨rfl, hx1.trans hx2⟩
    | ok l =>
      have ho := all_offs s l hx
      have hlen := (offs_len s.data.toList l 0 ho).1
      rw [lst_len] at hlen
      obtain ⟨n, hn⟩ : ∃ n, l.length = n := ⟨_, rfl⟩
      have hn0 : 0 < n := by
        cases l with
        | nil => exact absurd ho (by intro h; exact h)
        | cons t u => rw [List.length_cons] at hn; omega
      have HT := hid (toks_ok (w := w) s l n hn hx (by omega) hk)
      have HO := hid ho
      have HN := hid hn
      rw [hn] at hlen
      clear ho hx hn
      go_enter Tryd.func6, Tryd.ntmps6
      go_wp2_with (first
        | (go_at_call 10; refine (HA.out _ (Ext.refl w)).mono ?_; rintro e' w1 ⟨rfl, hx1⟩)
        | (go_at_call 11; refine (HT.out _ hx1).mono ?_; rintro e' w2 ⟨A, c, rfl, hat, hx2⟩))
      go_loopw [6, 30] (fun la i wr => ∃ (k lo : Nat), k ≤ n ∧ i = .int .i64 k ∧ la = .int .i64 ((lo : Int) - 1) ∧ Ext w2 wr ∧ (k < n → Offs s.data.toList lo (l.drop k))) (fun _ i _ => n - (intOf i).toNat)
      case atStart => exact ⟨0, 0, Nat.zero_le _, rfl, rfl, Ext.refl _, fun _ => HO.out⟩
      case round =>
        obtain ⟨k, lo, hk1, rfl, rfl, hxr, hof⟩ := hrel
        by_cases hlt : k < n
        · have hkl : k < l.length := by rw [HN.out]; exact hlt
          obtain ⟨t, ht⟩ : ∃ t, l[k]? = some t := ⟨_, List.getElem?_eq_getElem hkl⟩
          have hd : l.drop k = t :: l.drop (k + 1) := by
            rw [List.drop_eq_getElem_cons hkl]
            rw [List.getElem?_eq_getElem hkl] at ht
            injection ht with ht
            rw [ht]
          have hfs := hof hlt
          rw [hd] at hfs
          unfold Offs at hfs
          obtain ⟨f1, f2, f3, f4, f5, f6⟩ := hfs
          rw [lst_len] at f2 f4
          have hde : l.drop (k + 1) = [] ↔ k + 1 = n := by
            constructor
            · intro h
              have := congrArg List.length h
              rw [List.length_drop, HN.out, List.length_nil] at this
              omega
            · intro h
              exact List.drop_of_length_le (by rw [HN.out]; omega)
          obtain ⟨b, off, rfl, c0, c1, c2⟩ := (hat.ext hxr) k t ht
          obtain ⟨p, hp⟩ : ∃ p, t.pos = p := ⟨_, rfl⟩
          obtain ⟨kd, hkd⟩ : ∃ kd, t.kind = kd := ⟨_, rfl⟩
          rw [hp] at f1 f2 f4 f5 f6 c2
          rw [hkd] at f3 f4 f5 c0
          have HNX : Hid (k + 1 < n → Offs s.data.toList (p + 1) (l.drop (k + 1))) := by
            intro h
            rcases f6 with h6 | h6
            · have := hde.1 h6
              omega
            · exact h6
          have hX : ∃ X : ByteArray, (⟨t.text.toArray⟩ : ByteArray) = X := ⟨_, rfl⟩
          obtain ⟨X, hX⟩ := hX
          rw [hX] at c1
          have hXl : X.data.toList = t.text := by rw [← hX]
          have f5' : (kd = 3 ∨ kd = 5) → 1 ≤ X.size ∧ p + X.size ≤ s.size ∧ ((s.extract p (p + X.size)).toList == X.toList) = true := by
            intro h
            obtain ⟨g1, g2, g3⟩ := f5 h
            rw [← hXl] at g1 g2 g3
            rw [lst_len s] at g2
            have e : X.data.toList.length = X.size := rfl
            rw [e] at g2 g3
            refine ⟨?_, by omega, ?_⟩
            · rcases Nat.eq_zero_or_pos X.size with h0 | h0
              · exact absurd (List.eq_nil_of_length_eq_zero (e.trans h0)) g1
              · exact h0
            · rw [beq_iff_eq, ByteArray.toList_eq, ByteArray.toList_eq, piece_list, Nat.add_sub_cancel_left]
              exact g3
          have b6 : ((k : Int) == (n : Int) - 1) = ((kd : Int) == 0) := by
            rw [Bool.eq_iff_iff, beq_iff_eq, beq_iff_eq]
            constructor
            · intro h
              have : kd = 0 := f3.2 (hde.2 (by omega))
              omega
            · intro h
              have := hde.1 (f3.1 (by omega))
              omega
          clear hd f6 hde hX hXl f5 ht hof hkl
          have HF4 := hid f4
          have HF5 := hid f5'
          clear f4 f5' f3
          by_cases h0 : kd = 0
          · have hps : p = s.size := HF4.out h0
            have a0 : ((kd : Int) == 0) = true := by rw [h0]; rfl
            have a3 : ((kd : Int) == 3) = false := by rw [h0]; rfl
            have a5 : ((kd : Int) == 5) = false := by rw [h0]; rfl
            rw [a0] at b6
            have b7 : ((p : Int) != (s.size : Int)) = false := by rw [hps]; exact bne_self_eq_false _
            clear h0 hps
            go_wp2_with fail
            have HBn := Blk.of_new wr 37 [.int .i64 kd, .string X, .int .i64 p]
            have hxn : Ext wr (wr.alloc (.cells [Value.int .i64 kd, .string X, .int .i64 p].toArray 37)) := (Ext.refl wr).alloc _
            revert HBn hxn
            generalize hW : wr.alloc (.cells #[Value.int .i64 kd, .string X, .int .i64 p] 37) = W0
            intro HBn hxn
            have hb0 := Later.keep (HBn.cell_some (i := 0) rfl)
            have hb1 := Later.keep (HBn.cell_some (i := 1) rfl)
            have hb2 := Later.keep (HBn.cell_some (i := 2) rfl)
            clear c0 c1 c2 hW HBn
            refine wp_region_later (by kernel_rfl) (by kernel_rfl) ?_
            repeat (go_big_quiet_step (fail))
            refine wpQuiet_nil ?_
            intro w' hw'
            have hx := later_out hw'
            clear hw' hb0 hb1 hb2
            go_wp2_with fail
            go_roundw
            case rel => exact ⟨k + 1, p + 1, by omega, by go_num, by go_num, (hxr.trans hxn).trans hx, HNX.out⟩
            case measure => simp [intOf]; omega
          · have a0 : ((kd : Int) == 0) = false := by rw [beq_eq_false_iff_ne]; omega
            rw [a0] at b6
            by_cases h3 : kd = 3
            · have a3 : ((kd : Int) == 3) = true := by rw [h3]; rfl
              obtain ⟨g1, g2, g3⟩ := HF5.out (.inl h3)
              have g4 : ((s.extract p (p + X.size)).toList != X.toList) = false := by rw [bne, g3]; rfl
              have g5 : ((X.size : Int) == 0) = false := by rw [beq_eq_false_iff_ne]; omega
              have g6 : decide ((s.size : Int) - (p : Int) < (X.size : Int)) = false := by rw [decide_eq_false_iff_not]; omega
              clear h0 h3
              go_wp2_with fail
              have HBn := Blk.of_new wr 37 [.int .i64 kd, .string X, .int .i64 p]
              have hxn : Ext wr (wr.alloc (.cells [Value.int .i64 kd, .string X, .int .i64 p].toArray 37)) := (Ext.refl wr).alloc _
              revert HBn hxn
              generalize hW : wr.alloc (.cells #[Value.int .i64 kd, .string X, .int .i64 p] 37) = W0
              intro HBn hxn
              have hb0 := Later.keep (HBn.cell_some (i := 0) rfl)
              have hb1 := Later.keep (HBn.cell_some (i := 1) rfl)
              have hb2 := Later.keep (HBn.cell_some (i := 2) rfl)
              clear c0 c1 c2 hW HBn
              refine wp_region_later (by kernel_rfl) (by kernel_rfl) ?_
              repeat (go_big_quiet_step (fail))
              refine wpQuiet_nil ?_
              intro w' hw'
              have hx := later_out hw'
              clear hw' hb0 hb1 hb2
              go_wp2_with fail
              go_roundw
              case rel => exact ⟨k + 1, p + 1, by omega, by go_num, by go_num, (hxr.trans hxn).trans hx, HNX.out⟩
              case measure => simp [intOf]; omega
            · have a3 : ((kd : Int) == 3) = false := by rw [beq_eq_false_iff_ne]; omega
              by_cases h5 : kd = 5
              · have a5 : ((kd : Int) == 5) = true := by rw [h5]; rfl
                obtain ⟨g1, g2, g3⟩ := HF5.out (.inr h5)
                have g4 : ((s.extract p (p + X.size)).toList != X.toList) = false := by rw [bne, g3]; rfl
                have g5 : ((X.size : Int) == 0) = false := by rw [beq_eq_false_iff_ne]; omega
                have g6 : decide ((s.size : Int) - (p : Int) < (X.size : Int)) = false := by rw [decide_eq_false_iff_not]; omega
                clear h0 h3 h5
                go_wp2_with fail
                have HBn := Blk.of_new wr 37 [.int .i64 kd, .string X, .int .i64 p]
                have hxn : Ext wr (wr.alloc (.cells [Value.int .i64 kd, .string X, .int .i64 p].toArray 37)) := (Ext.refl wr).alloc _
                revert HBn hxn
                generalize hW : wr.alloc (.cells #[Value.int .i64 kd, .string X, .int .i64 p] 37) = W0
                intro HBn hxn
                have hb0 := Later.keep (HBn.cell_some (i := 0) rfl)
                have hb1 := Later.keep (HBn.cell_some (i := 1) rfl)
                have hb2 := Later.keep (HBn.cell_some (i := 2) rfl)
                clear c0 c1 c2 hW HBn
                refine wp_region_later (by kernel_rfl) (by kernel_rfl) ?_
                repeat (go_big_quiet_step (fail))
                refine wpQuiet_nil ?_
                intro w' hw'
                have hx := later_out hw'
                clear hw' hb0 hb1 hb2
                go_wp2_with fail
                go_roundw
                case rel => exact ⟨k + 1, p + 1, by omega, by go_num, by go_num, (hxr.trans hxn).trans hx, HNX.out⟩
                case measure => simp [intOf]; omega
              · have a5 : ((kd : Int) == 5) = false := by rw [beq_eq_false_iff_ne]; omega
                clear h0 h3 h5
                go_wp2_with fail
                have HBn := Blk.of_new wr 37 [.int .i64 kd, .string X, .int .i64 p]
                have hxn : Ext wr (wr.alloc (.cells [Value.int .i64 kd, .string X, .int .i64 p].toArray 37)) := (Ext.refl wr).alloc _
                revert HBn hxn
                generalize hW : wr.alloc (.cells #[Value.int .i64 kd, .string X, .int .i64 p] 37) = W0
                intro HBn hxn
                have hb0 := Later.keep (HBn.cell_some (i := 0) rfl)
                have hb1 := Later.keep (HBn.cell_some (i := 1) rfl)
                have hb2 := Later.keep (HBn.cell_some (i := 2) rfl)
                clear c0 c1 c2 hW HBn
                refine wp_region_later (by kernel_rfl) (by kernel_rfl) ?_
                repeat (go_big_quiet_step (fail))
                refine wpQuiet_nil ?_
                intro w' hw'
                have hx := later_out hw'
                clear hw' hb0 hb1 hb2
                go_wp2_with fail
                go_roundw
                case rel => exact ⟨k + 1, p + 1, by omega, by go_num, by go_num, (hxr.trans hxn).trans hx, HNX.out⟩
                case measure => simp [intOf]; omega
        · obtain rfl : k = n := by omega
          go_wp2_with fail
          go_ret
          exact ⟨ret_bool (by simp <;> omega), (hx1.trans hx2).trans hxr⟩
  · go_enter Tryd.func6, Tryd.ntmps6
    go_wp2_with (first
      | (go_at_call 10; refine (HA.out _ (Ext.refl w)).mono ?_; rintro e' w1 ⟨rfl, hx1⟩)
      | (go_at_call 10; refine (HA.out _ hx1).mono ?_; rintro e' w2 ⟨rfl, hx2⟩))
    go_ret
    exact ⟨rfl, hx1.trans hx2⟩
end Go.Proofs.YtmnjfhjhbjhmhaaDoor
