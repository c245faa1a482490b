/-
  Walks over the laws of the lexer: awake, LexerTokens.
-/
import Derived.Test.YtmnjfhjhbjhmhaaDoorW20
import Derived.Test.YtmnjfhjhbjhmhaaDoorW19
namespace Go.Proofs.YtmnjfhjhbjhmhaaDoor
open Go.RowKit
set_option linter.unusedVariables false
set_option maxHeartbeats 2000000
set_option maxRecDepth 100000

theorem blk_tks {w : World} {g t : Nat} {l : List Tk} (h : Blk w g t (tkc l)) : TksAt w (some ⟨g, 0, none⟩) l := fun i a ha => by
  refine ⟨g, 0, rfl, ?_, ?_, ?_⟩
  · have := h.cell_some (i := i * 3 + 0) (v := .int .i64 a.kind) (by rw [tkc_get l i 0 a ha (by omega)]; rfl)
    rw [Nat.add_zero] at this
    rwa [Nat.zero_add]
  · have := h.cell_some (i := i * 3 + 1) (v := .string ⟨a.text.toArray⟩) (by rw [tkc_get l i 1 a ha (by omega)]; rfl)
    rwa [Nat.zero_add]
  · have := h.cell_some (i := i * 3 + 2) (v := .int .i64 a.pos) (by rw [tkc_get l i 2 a ha (by omega)]; rfl)
    rwa [Nat.zero_add]
theorem sh_zero (l : List Tk) : l = l.map (Tk.sh 0) := by
  conv => lhs; rw [← List.map_id l]
  exact List.map_congr_left fun t _ => rfl
theorem awake_any (w : World) (hk : KwAt w) (hsh : Sh w) : Calls Tryd.prog 10 #[] w fun e w' => e = .returned (.bool true) ∧ Ext w w' := by
  have HT : Hid (∀ W, Ext w W → Calls Tryd.prog 11 #[.string ⟨#[83, 69, 76, 69, 67, 84, 32, 97, 46, 66, 60, 61, 45, 55, 32, 45, 45, 32, 120]⟩] W fun e w' => ∃ A c, e = .returned (.tuple #[.slice A 8 c, .int .i64 0, .int .i64 0]) ∧ TksAt w' A exL ∧ Ext W w') := by
    intro W hW
    refine (tokens_any exS W (by decide) (hk.ext hW)).mono ?_
    rintro e w' ⟨v, rfl, hv, hx⟩
    rw [ex_toks] at hv
    obtain ⟨A, c, rfl, hat⟩ := hv
    exact ⟨A, c, rfl, hat, hx⟩
  have HQ : Hid (∀ W, Ext w W → Calls Tryd.prog 18 #[.string ⟨#[105, 116, 39, 115]⟩] W fun e w' => e = .returned (.string ⟨#[39, 105, 116, 39, 39, 115, 39]⟩) ∧ Ext W w') := by
    intro W hW
    have := quote_any ⟨#[105, 116, 39, 115]⟩ W (by decide) (hsh.ext hW)
    rw [ex_quote] at this
    exact this
  have HS : Hid (∀ (A : Option Addr) (c : Nat) (W : World), TksAt W A exL → Calls Tryd.prog 13 #[.slice A 8 c, .slice (some ⟨W.heap.size, 0, none⟩) 8 8, .int .i64 0] (W.alloc (.cells (tkc exL).toArray 43)) fun e w' => e = .returned (.bool true) ∧ Ext (W.alloc (.cells (tkc exL).toArray 43)) w') := by
    intro A c W hat
    exact same_true A _ 8 8 c 8 0 exL exL _ (hat.ext ((Ext.refl W).alloc _)) (blk_tks (Blk.of_new W 43 (tkc exL))) rfl rfl (sh_zero exL) (by decide) (by decide) (by decide)
  go_enter Tryd.func10, Tryd.ntmps10
  go_wp2_with (first
    | (go_at_call 11; refine (HT.out _ (Ext.refl w)).mono ?_; rintro e' w1 ⟨A, c, rfl, hat, hx1⟩)
    | (go_at_call 13; refine (HS.out A c w1 hat).mono ?_; rintro e' w2 ⟨rfl, hx2⟩)
    | (go_at_call 18; refine (HQ.out _ ((hx1.alloc _).trans hx2)).mono ?_; rintro e' w3 ⟨rfl, hx3⟩))
  go_ret
  exact ⟨rfl, ((hx1.alloc _).trans hx2).trans hx3⟩
theorem offs_len (s : List UInt8) : ∀ (l : List Tk) (lo : Nat), Offs s lo l → l.length + lo ≤ s.length + 1 ∧ ∀ t ∈ l, t.pos ≤ s.length
  | [], lo, h => by cases h
  | t :: u, lo, h => by
    unfold Offs at h
    obtain ⟨h1, h2, _, _, _, h6⟩ := h
    rcases h6 with rfl | h6
    · refine ⟨by simp only [List.length_cons, List.length_nil]; omega, fun x hx => ?_⟩
      rcases List.mem_cons.1 hx with rfl | hx
      · exact h2
      · cases hx
    · obtain ⟨h7, h8⟩ := offs_len s u _ h6
      refine ⟨by rw [List.length_cons]; omega, fun x hx => ?_⟩
      rcases List.mem_cons.1 hx with rfl | hx
      · exact h2
      · exact h8 x hx
theorem all_offs (s : ByteArray) (l : List Tk) (h : tokAll s = .ok l) : Offs s.data.toList 0 l := by
  unfold tokAll at h
  split at h
  · cases h
  · exact T_offs s.data.toList _ s.data.toList 0 l (Nat.le_refl _) rfl (Nat.zero_le _) h
theorem all_len (s : ByteArray) : (lsL (tokAll s)).length ≤ s.size + 1 ∧ ∀ t ∈ lsL (tokAll s), t.pos ≤ s.size := by
  cases h : tokAll s with
  | bad a e => exact ⟨Nat.zero_le _, fun t ht => by cases ht⟩
  | ok l =>
    have := offs_len s.data.toList l 0 (all_offs s l h)
    exact ⟨by have := this.1; rw [lst_len] at this; exact this, this.2⟩
theorem law_tokens (s : ByteArray) (w : World) (hm : s.size ≤ maxLen) (hk : KwAt w) (hsh : Sh w) : Calls Tryd.prog 3 #[.string s] w fun e w' => e = .returned (.bool true) ∧ Ext w w' := by
  have HA := hid (fun W (h : Ext w W) => awake_any W (hk.ext h) (hsh.ext h))
  by_cases hs : s.size ≤ 20000
  · obtain ⟨hl1, hl2⟩ := all_len s
    have HT := hid (fun W (h : Ext w W) => tokens_any s W hs (hk.ext h))
    have HU := hid (fun W => rtokens_any s W hs)
    have HL2 : Hid (∀ t ∈ lsL (tokAll s), t.pos ≤ 100000) := fun t ht => by have := hl2 t ht; omega
    generalize tokAll s = R at *
    unfold TokRes at HT HU
    have HS : Hid (∀ (A B : Option Addr) (c1 c2 : Nat) (W : World), TksAt W A (lsL R) → TksAt W B (lsL R) → Calls Tryd.prog 13 #[.slice A (lsL R).length c1, .slice B (lsL R).length c2, .int .i64 0] W fun e w' => e = .returned (.bool true) ∧ Ext W w') := by
      intro A B c1 c2 W h1 h2
      exact same_true A B _ _ c1 c2 0 (lsL R) (lsL R) W h1 h2 rfl rfl (sh_zero _) (by omega) (by decide) HL2.out
    clear hl1 hl2
    go_enter Tryd.func3, Tryd.ntmps3
    go_wp2_with (first
      | (go_at_call 10; refine (HA.out _ (Ext.refl w)).mono ?_; rintro e' w1 ⟨rfl, hx1⟩)
      | (go_at_call 11; refine (HT.out _ hx1).mono ?_; rintro e' w2 ⟨v, rfl, ⟨A, c, rfl, hat⟩, hx2⟩)
      | (go_at_call 12; refine (HU.out _).mono ?_; rintro e' w3 ⟨v, rfl, ⟨B, c', rfl, hbt⟩, hx3⟩)
      | (go_at_call 13; refine (HS.out A B c c' _ (hat.ext hx3) hbt).mono ?_; rintro e' w4 ⟨rfl, hx4⟩))
    go_ret
    exact ⟨ret_bool (by simp), ((hx1.trans hx2).trans hx3).trans hx4⟩
  · go_enter Tryd.func3, Tryd.ntmps3
    go_wp2_with (first
      | (go_at_call 10; refine (HA.out _ (Ext.refl w)).mono ?_; rintro e' w1 ⟨rfl, hx1⟩)
      | (go_at_call 10; refine (HA.out _ hx1).mono ?_; rintro e' w2 ⟨rfl, hx2⟩))
    go_ret
    exact ⟨rfl, hx1.trans hx2⟩
end Go.Proofs.YtmnjfhjhbjhmhaaDoor
