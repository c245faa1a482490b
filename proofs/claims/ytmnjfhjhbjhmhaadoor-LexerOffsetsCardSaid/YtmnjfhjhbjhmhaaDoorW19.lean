/-
  Walks over the lexer's reference: Tokens.
-/
import Derived.Test.YtmnjfhjhbjhmhaaDoorW18
import Derived.Test.YtmnjfhjhbjhmhaaDoorW17
namespace Go.Proofs.YtmnjfhjhbjhmhaaDoor
open Go.RowKit
set_option linter.unusedVariables false
set_option maxHeartbeats 2000000
set_option maxRecDepth 100000

theorem info43 : (Tryd.prog.info? 43).map (fun i => (i.zero, i.size, i.bytes)) = some (some (.agg #[.int .i64 0, .string ⟨#[]⟩, .int .i64 0]), 3, 32) := by kernel_rfl
theorem rtokens_any (s : ByteArray) (w : World) (hs : s.size ≤ 20000) : Calls Tryd.prog 12 #[.string s] w fun e w' => ∃ v, e = .returned v ∧ TokRes (tokAll s) v w' ∧ Ext w w' := by
  by_cases hbig : 16384 < s.size
  · have HE : Hid (tokAll s = .bad 16384 3) := if_pos hbig
    go_enter Tryd.func12, Tryd.ntmps12
    go_wp2_with fail
    go_ret3
    exact ⟨_, rfl, by rw [HE.out]; exact TokRes.bad _ _ _, Ext.refl _⟩
  have HE : Hid (tokAll s = T s.data.toList 0) := if_neg hbig
  obtain ⟨i0, hi, hz0, hz1, hz2⟩ := info_parts info43
  have hsk : skipN false s.data.toList ≤ s.size := skip_le false s.data.toList
  have HSK := hid (fun W a (ha : a ≤ s.size) => rskip_any s a W hs ha)
  have HSKL : Hid (∀ a, a ≤ s.size → a + skipN false (s.data.toList.drop a) ≤ s.size) := fun a ha => by
    have := skip_le false (s.data.toList.drop a)
    rw [List.length_drop, lst_len] at this
    omega
  go_enter Tryd.func12, Tryd.ntmps12
  go_wp2_with (go_at_call 25; refine (HSK.out _ 0 (Nat.zero_le _)).mono ?_; rintro e' w1 ⟨rfl, hw1⟩; subst w1)
  go_loopw [5, 6] (fun v i wr => ∃ (p : Nat) (out : List Tk), p ≤ s.size ∧ i = .int .i64 ((p + skipN false (s.data.toList.drop p) : Nat) : Int) ∧ wr.ownsRow w.heap.size 43 3 v out.length (tkc out) ∧ out.length ≤ p ∧ Ext w wr ∧ T s.data.toList 0 = (T (s.data.toList.drop p) p).pre out) (fun _ i _ => s.size - (intOf i).toNat)
  case atStart => exact ⟨0, [], Nat.zero_le _, by simp, World.ownsRow_nil _ _ _ _, Nat.zero_le _, Ext.refl w, by rw [List.drop_zero]; cases T s.data.toList 0 <;> rfl⟩
  case round =>
    obtain ⟨p, out, hp, rfl, hown, hop, hxr, hv⟩ := hrel
    have HV := hid hv
    clear hv
    obtain ⟨k, hkk⟩ : ∃ k, p + skipN false (s.data.toList.drop p) = k := ⟨_, rfl⟩
    have hks : k ≤ s.size := hkk ▸ HSKL.out p hp
    rw [hkk]
    by_cases hlt : k < s.size
    · have hd : (s.data.toList.drop p).drop (skipN false (s.data.toList.drop p)) = s[k] :: s.data.toList.drop (k + 1) := by rw [List.drop_drop, hkk, drop1 s k hlt]
      have hC : ∀ W, Calls Tryd.prog 26 #[.string s, .int .i64 k] W fun e w' => e = .returned (RRes k (tokL (s[k] :: s.data.toList.drop (k + 1)))) ∧ Ext W w' := by
        intro W
        have := next_any s k W hs hlt
        rw [drop1 s k hlt] at this
        exact this
      cases ht : tokL (s[k] :: s.data.toList.drop (k + 1)) with
      | bad e =>
        have hR : T s.data.toList 0 = .bad k e := by rw [HV.out, T_bad _ p _ _ e hd ht, hkk]; rfl
        have hb := tok_bad _ _ e ht
        have b1 : ((e : Int) != 0) = true := by rw [bne_iff_ne]; omega
        rw [ht] at hC
        have HC := hid hC
        have HR := hid hR
        clear hC hR hd hb ht hkk
        simp only [RRes] at HC
        go_wp2_with (go_at_call 26; refine (HC.out _).mono ?_; rintro e' w1 ⟨rfl, hx1⟩)
        go_ret3
        exact ⟨_, rfl, by rw [HE.out, HR.out]; exact TokRes.bad _ _ _, (hxr.trans hx1).alloc _⟩
      | tok kd x n =>
        have hR : T s.data.toList 0 = (T (s.data.toList.drop (k + n)) (k + n)).pre (out ++ [⟨kd, x, k⟩]) := by
          rw [HV.out, T_tok _ p _ _ kd x n hd ht, pre_pre, hkk, ← drop1 s k hlt, List.drop_drop]
        have hbd := tok_bound _ _ kd x n ht
        have hb2 : k + n ≤ s.size := by
          have := hbd.2
          rw [List.length_cons, List.length_drop, lst_len] at this
          omega
        have hb1 := hbd.1
        rw [ht] at hC
        have HC := hid hC
        have HR := hid hR
        have HKK := hid hkk
        have hpk : p ≤ k := by omega
        clear hC hR hd hbd ht hkk
        simp only [RRes] at HC
        have HBE : ∀ w1 : World, Ext wr w1 → w.heap.size ≤ w1.heap.size + 1 + 1 := fun w1 h => by have := h.size; have := hxr.size; omega
        go_wp2_with (first
          | (go_at_call 26; refine (HC.out _).mono ?_; rintro e' w1 ⟨rfl, hx1⟩; have HO := hid (ownN_ext hown ((hx1.alloc (.cells #[.int .i64 kd, .string ⟨x.toArray⟩, .int .i64 k] 43)).alloc (.cells #[.int .i64 kd, .string ⟨x.toArray⟩, .int .i64 k] 43))); have hbe := HBE w1 hx1; clear HBE)
          | (at_builtin; refine wpList_append_own _ rfl _ _ 27 rfl w.heap.size 43 i0 (.agg #[.int .i64 0, .string ⟨#[]⟩, .int .i64 0]) 3 32 Tryd.underlying27 hi hz0 hz1 hz2 rfl (by decide) _ _ _ rfl HO.out ⟨_, 0, none⟩ 1 1 (Tk.cells ⟨kd, x, k⟩) rfl rfl (news_at _ _ _ _ (by simp)) (by intro u hu; simp [Tk.cells] at hu; rcases hu with rfl | rfl | rfl <;> rfl) (by unfold maxLen; omega) (by omega) (by simp; omega) ?_; intro v' w2 hown' hgrow _)
          | (go_at_call 25; refine (HSK.out _ (k + n) hb2).mono ?_; rintro e' w3 ⟨rfl, hw3⟩; subst w3))
        go_roundw
        case rel =>
          refine ⟨k + n, out ++ [⟨kd, x, k⟩], hb2, rfl, by rw [tkc_snoc, List.length_append]; exact hown', by rw [List.length_append]; simp only [List.length_cons, List.length_nil]; omega, Ext.grown ((hxr.trans hx1).alloc _ |>.alloc _) hgrow (fun g hg => own_ge hown hg), HR.out⟩
        case measure => simp [intOf]; omega
    · have hd : (s.data.toList.drop p).drop (skipN false (s.data.toList.drop p)) = [] := by rw [List.drop_drop, hkk]; exact List.drop_of_length_le (by rw [lst_len]; omega)
      have hR : T s.data.toList 0 = .ok (out ++ [⟨0, [], s.size⟩]) := by rw [HV.out, T_end _ p hd, hkk, show k = s.size by omega]; rfl
      have HR := hid hR
      have HKK := hid hkk
      have hpk : p ≤ k := by omega
      have HBE : w.heap.size ≤ wr.heap.size + 1 := by have := hxr.size; omega
      have HO := hid (ownN_ext hown ((Ext.refl wr).alloc (.cells #[.int .i64 0, .string ⟨#[]⟩, .int .i64 s.size] 43)))
      clear hd hR hkk
      go_wp2_with (at_builtin; refine wpList_append_own _ rfl _ _ 27 rfl w.heap.size 43 i0 (.agg #[.int .i64 0, .string ⟨#[]⟩, .int .i64 0]) 3 32 Tryd.underlying27 hi hz0 hz1 hz2 rfl (by decide) _ _ _ rfl HO.out ⟨_, 0, none⟩ 1 1 (Tk.cells ⟨0, [], s.size⟩) rfl rfl (news_at _ _ _ _ (by simp)) (by intro u hu; simp [Tk.cells] at hu; rcases hu with rfl | rfl | rfl <;> rfl) (by unfold maxLen; omega) (by omega) (by simp; omega) ?_; intro v' w2 hown' hgrow _)
      have hx2 : Ext w w2 := Ext.grown (hxr.alloc _) hgrow (fun g hg => own_ge hown hg)
      have ho2 : w2.ownsRow w.heap.size 43 3 v' (out ++ [(⟨0, [], s.size⟩ : Tk)]).length (tkc (out ++ [⟨0, [], s.size⟩])) := by rw [tkc_snoc, List.length_append]; exact hown'
      obtain ⟨A, c, rfl, hat, hlen⟩ := own_tks ho2
      go_ret3
      refine ⟨_, rfl, ?_, hx2⟩
      rw [HE.out, HR.out]
      exact ⟨A, c, by rw [hlen]; rfl, hat⟩
end Go.Proofs.YtmnjfhjhbjhmhaaDoor
