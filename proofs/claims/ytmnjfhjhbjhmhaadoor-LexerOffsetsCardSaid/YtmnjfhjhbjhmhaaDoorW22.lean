/-
  Walks over the laws of the lexer: LexerUnquote, LexerQuote, LexerNames.
-/
import Derived.Test.YtmnjfhjhbjhmhaaDoorW21
namespace Go.Proofs.YtmnjfhjhbjhmhaaDoor
open Go.RowKit
set_option linter.unusedVariables false
set_option maxHeartbeats 2000000
set_option maxRecDepth 100000

theorem quote_back (s : ByteArray) (x : List UInt8) (h : unq s.data.toList = some x) : quoteP ⟨x.toArray⟩ = s ∧ x.length ≤ 16 := by
  obtain ⟨h1, h2, h3⟩ := unq_inv _ _ h
  refine ⟨?_, h2⟩
  have ht : isText ⟨x.toArray⟩ = true := by
    unfold isText
    rw [Bool.and_eq_true, List.all_eq_true, decide_eq_true_eq]
    exact ⟨fun c hc => h3 c hc, h2⟩
  unfold quoteP
  rw [if_pos ht]
  exact by_list h1
theorem law_unquote (s : ByteArray) (w : World) (hm : s.size ≤ maxLen) (hk : KwAt w) (hsh : Sh w) : Calls Tryd.prog 9 #[.string s] w fun e w' => e = .returned (.bool true) ∧ Ext w w' := by
  have HA := hid (fun W (h : Ext w W) => awake_any W (hk.ext h) (hsh.ext h))
  by_cases hs : s.size ≤ 200
  · have HU := hid (fun W => unquote_any s W (by omega))
    have HV := hid (fun W => runquote_any s W (by omega))
    cases hu : unq s.data.toList with
    | none =>
      rw [hu] at HU HV
      simp only [unqV, unqR] at HU HV
      clear hu
      go_enter Tryd.func9, Tryd.ntmps9
      go_wp2_with (first
        | (go_at_call 10; refine (HA.out _ (Ext.refl w)).mono ?_; rintro e' w1 ⟨rfl, hx1⟩)
        | (go_at_call 20; refine (HU.out _).mono ?_; rintro e' w2 ⟨rfl, hx2⟩)
        | (go_at_call 22; refine (HV.out _).mono ?_; rintro e' w3 ⟨rfl, hx3⟩))
      go_ret
      exact ⟨rfl, (hx1.trans hx2).trans hx3⟩
    | some x =>
      obtain ⟨hq, hl⟩ := quote_back s x hu
      rw [hu] at HU HV
      simp only [unqV, unqR] at HU HV
      have HQ : Hid (∀ W, Ext w W → Calls Tryd.prog 18 #[.string ⟨x.toArray⟩] W fun e w' => e = .returned (.string s) ∧ Ext W w') := by
        intro W hW
        have hsz : (⟨x.toArray⟩ : ByteArray).size ≤ 1000 := Nat.le_trans hl (by decide)
        have := quote_any ⟨x.toArray⟩ W hsz (hsh.ext hW)
        rw [hq] at this
        exact this
      clear hu hq hl
      generalize (⟨x.toArray⟩ : ByteArray) = F at *
      go_enter Tryd.func9, Tryd.ntmps9
      go_wp2_with (first
        | (go_at_call 10; refine (HA.out _ (Ext.refl w)).mono ?_; rintro e' w1 ⟨rfl, hx1⟩)
        | (go_at_call 20; refine (HU.out _).mono ?_; rintro e' w2 ⟨rfl, hx2⟩)
        | (go_at_call 22; refine (HV.out _).mono ?_; rintro e' w3 ⟨rfl, hx3⟩)
        | (go_at_call 18; refine (HQ.out _ ((hx1.trans hx2).trans hx3)).mono ?_; rintro e' w4 ⟨rfl, hx4⟩))
      go_ret
      exact ⟨ret_bool (by simp), ((hx1.trans hx2).trans hx3).trans hx4⟩
  · go_enter Tryd.func9, Tryd.ntmps9
    go_wp2_with (first
      | (go_at_call 10; refine (HA.out _ (Ext.refl w)).mono ?_; rintro e' w1 ⟨rfl, hx1⟩)
      | (go_at_call 10; refine (HA.out _ hx1).mono ?_; rintro e' w2 ⟨rfl, hx2⟩))
    go_ret
    exact ⟨rfl, hx1.trans hx2⟩
theorem toks_ok {w : World} (s : ByteArray) (l : List Tk) (n : Nat) (hn : l.length = n) (h : tokAll s = .ok l) (hs : s.size ≤ 20000) (hk : KwAt w) : ∀ W, Ext w W → Calls Tryd.prog 11 #[.string s] W fun e w' => ∃ A c, e = .returned (.tuple #[.slice A n c, .int .i64 0, .int .i64 0]) ∧ TksAt w' A l ∧ Ext W w' := by
  subst hn
  intro W hW
  refine (tokens_any s W hs (hk.ext hW)).mono ?_
  rintro e w' ⟨v, rfl, hv, hx⟩
  rw [h] at hv
  obtain ⟨A, c, rfl, hat⟩ := hv
  exact ⟨A, c, rfl, hat, hx⟩
theorem tk0 {w : World} {A : Option Addr} {t : Tk} {r : List Tk} (h : TksAt w A (t :: r)) : ∃ b off, A = some ⟨b, off, none⟩ ∧ w.cell? ⟨b, off, none⟩ = some (.int .i64 t.kind) ∧ w.cell? ⟨b, off + 1, none⟩ = some (.string ⟨t.text.toArray⟩) ∧ w.cell? ⟨b, off + 2, none⟩ = some (.int .i64 t.pos) := by
  obtain ⟨b, off, hA, h0, h1, h2⟩ := h 0 t rfl
  rw [Nat.zero_mul, Nat.add_zero] at h0 h1 h2
  exact ⟨b, off, hA, h0, h1, h2⟩
theorem self_list (s : ByteArray) : (⟨s.data.toList.toArray⟩ : ByteArray) = s := by_list rfl
theorem law_quote (s : ByteArray) (w : World) (hm : s.size ≤ maxLen) (hk : KwAt w) (hsh : Sh w) : Calls Tryd.prog 8 #[.string s] w fun e w' => e = .returned (.bool true) ∧ Ext w w' := by
  have HA := hid (fun W (h : Ext w W) => awake_any W (hk.ext h) (hsh.ext h))
  by_cases hs : s.size ≤ 200
  · have HQ := hid (fun W (h : Ext w W) => quote_any s W (by omega) (hsh.ext h))
    have HR := hid (fun W => rquote_any s W (by omega))
    have HX := hid (fun W => rtext_any s W (by unfold maxLen; omega))
    cases ht : isText s
    · have hq : quoteP s = ⟨#[]⟩ := by unfold quoteP; rw [ht]; rfl
      rw [hq] at HQ HR
      rw [ht] at HX
      have HU := hid (fun W => unquote_any ⟨#[]⟩ W (by decide))
      have hu : unqV (unq (⟨#[]⟩ : ByteArray).data.toList) = .tuple #[.string ⟨#[]⟩, .int .i64 2] := rfl
      rw [hu] at HU
      have HT := hid (toks_ok (w := w) ⟨#[]⟩ [⟨0, [], 0⟩] 1 rfl rfl (by decide) hk)
      clear hu hq ht
      go_enter Tryd.func8, Tryd.ntmps8
      go_wp2_with (first
        | (go_at_call 10; refine (HA.out _ (Ext.refl w)).mono ?_; rintro e' w1 ⟨rfl, hx1⟩)
        | (go_at_call 18; refine (HQ.out _ hx1).mono ?_; rintro e' w2 ⟨rfl, hx2⟩)
        | (go_at_call 19; refine (HR.out _).mono ?_; rintro e' w3 ⟨rfl, rfl⟩)
        | (go_at_call 20; refine (HU.out _).mono ?_; rintro e' w4 ⟨rfl, hx4⟩)
        | (go_at_call 11; refine (HT.out _ ((hx1.trans hx2).trans hx4)).mono ?_; rintro e' w5 ⟨A, c, rfl, hat, hx5⟩)
        | (go_at_call 21; refine (HX.out _).mono ?_; rintro e' w6 ⟨rfl, rfl⟩))
      go_ret
      exact ⟨rfl, ((hx1.trans hx2).trans hx4).trans hx5⟩
    · have hq : quoteP s = ⟨(quoL s.data.toList).toArray⟩ := by unfold quoteP; rw [ht]; rfl
      have htx := ht
      unfold isText at htx
      rw [Bool.and_eq_true, List.all_eq_true, decide_eq_true_eq] at htx
      obtain ⟨hp, h16⟩ := htx
      have hp' : ∀ c ∈ s.data.toList, isPrint c = true := fun c hc => hp c hc
      have hqs : (quoteP s).size ≤ 2 * s.size + 2 := by
        have h1 : (quoteP s).size = (quoL s.data.toList).length := by rw [hq]; rfl
        rw [h1]
        unfold quoL
        have h2 := flat_len s.data.toList
        rw [lst_len] at h2
        rw [List.length_cons, List.length_append, List.length_singleton]
        omega
      have HU := hid (fun W => unquote_any (quoteP s) W (by omega))
      have hu : unqV (unq (quoteP s).data.toList) = .tuple #[.string s, .int .i64 0] := by
        have h1 : (quoteP s).data.toList = quoL s.data.toList := by rw [hq]
        rw [h1, unq_quo _ hp' h16]
        show Value.tuple #[.string ⟨s.data.toList.toArray⟩, .int .i64 0] = _
        rw [self_list]
      rw [hu] at HU
      have hta : tokAll (quoteP s) = .ok [⟨4, s.data.toList, 0⟩, ⟨0, [], (quoL s.data.toList).length⟩] := by
        unfold tokAll
        rw [if_neg (by omega)]
        have h1 : (quoteP s).data.toList = quoL s.data.toList := by rw [hq]
        rw [h1]
        exact T_quo _ hp' h16
      have HT := hid (toks_ok (w := w) (quoteP s) _ 2 rfl hta (by omega) hk)
      rw [ht] at HX
      clear hta hu hqs hp hp' ht hq h16
      generalize quoteP s = F at *
      go_enter Tryd.func8, Tryd.ntmps8
      go_wp2_with (first
        | (go_at_call 10; refine (HA.out _ (Ext.refl w)).mono ?_; rintro e' w1 ⟨rfl, hx1⟩)
        | (go_at_call 18; refine (HQ.out _ hx1).mono ?_; rintro e' w2 ⟨rfl, hx2⟩)
        | (go_at_call 19; refine (HR.out _).mono ?_; rintro e' w3 ⟨rfl, rfl⟩)
        | (go_at_call 20; refine (HU.out _).mono ?_; rintro e' w4 ⟨rfl, hx4⟩)
        | (go_at_call 11; refine (HT.out _ ((hx1.trans hx2).trans hx4)).mono ?_; rintro e' w5 ⟨A, c, rfl, hat, hx5⟩; obtain ⟨b, off, rfl, c0, c1, c2⟩ := tk0 hat; simp only [self_list] at c1)
        | (go_at_call 21; refine (HX.out _).mono ?_; rintro e' w6 ⟨rfl, rfl⟩))
      go_ret
      exact ⟨ret_bool (by simp), ((hx1.trans hx2).trans hx4).trans hx5⟩
  · go_enter Tryd.func8, Tryd.ntmps8
    go_wp2_with (first
      | (go_at_call 10; refine (HA.out _ (Ext.refl w)).mono ?_; rintro e' w1 ⟨rfl, hx1⟩)
      | (go_at_call 10; refine (HA.out _ hx1).mono ?_; rintro e' w2 ⟨rfl, hx2⟩))
    go_ret
    exact ⟨rfl, hx1.trans hx2⟩
end Go.Proofs.YtmnjfhjhbjhmhaaDoor
