/-
  Walk over the reference's search: next.
-/
import Derived.Test.YtbniemkllhhnfaaW21
namespace Go.Proofs.Ytbniemkllhhnfaa
open Go.RowKit
set_option maxHeartbeats 1000000
set_option maxRecDepth 100000

theorem rnext_any (A Al : Option Addr) (ts : List Tst) (n c cl : Nat) (a : List (List Nat)) (ch : Nat) (w : World) (hts : TsAt w A ts) (hl : Rd w 9 Al (strs a)) (hn : ts.length = n) (hlen : n ≤ 1000) (hts16 : ∀ t ∈ ts, t.p.size ≤ 16) (ha : rokL ts a) :
    Calls Try.prog 52 #[.slice A n c, .slice Al n cl, .int .u8 ch] w fun e w' => ∃ v, e = .returned v ∧ w'.ownsRow w.heap.size 9 1 v n (strs (rnxs ts a ch)) ∧ Ext w w' := by
  obtain ⟨i0, hi, hz0, hz1, hz2⟩ := info_parts info9
  have HN := hid hn
  have HO := hid hts16
  have HA := hid ha
  clear hn hts16 ha
  go_enter Try.func52, Try.ntmps52
  go_wp2_with fail
  go_loopw [7, 8] (fun v i wr => ∃ k : Nat, k ≤ n ∧ i = .int .i64 k ∧ wr.ownsRow w.heap.size 9 1 v k (strs ((rnxs ts a ch).take k)) ∧ Ext w wr) (fun _ i _ => n - (intOf i).toNat)
  case atStart => exact ⟨0, Nat.zero_le _, rfl, World.ownsRow_nil _ _ _ _, Ext.refl w⟩
  case round =>
    obtain ⟨k, hk, rfl, hown, hxr⟩ := hrel
    by_cases hlt : k < n
    · have hkl : k < ts.length := by rw [HN.out]; exact hlt
      have hka : k < a.length := by rw [HA.out.1]; exact hkl
      obtain ⟨t, ht⟩ : ∃ t, ts[k]? = some t := ⟨_, List.getElem?_eq_getElem hkl⟩
      obtain ⟨b, off, rfl, hc0, hc1, hc2, hc3⟩ := (hts.ext hxr) k t ht
      obtain ⟨bl, ol, rfl, hcl⟩ := (hl.ext hxr).at_ (strs_get a k hka)
      have hp16 : t.p.size ≤ 16 := HO.out t (List.mem_of_getElem? ht)
      have hrk := hid (HA.out.2 k t ht)
      have hnk : Hid (strs ((rnxs ts a ch).take (k + 1)) = strs ((rnxs ts a ch).take k) ++ [Value.string (S (rnx t.kd (N t.p) (atL a k) ch))]) := by
        have h1 := rnxs_at ts a ch k t HA.out.1 ht
        obtain ⟨h2, h3⟩ := List.getElem?_eq_some_iff.1 h1
        unfold Hid
        rw [List.take_succ_eq_append_getElem h2, h3]
        simp [strs]
      have HOWN := hid hown
      have HXR := hid hxr
      clear ht hkl hka hown hxr
      go_wp2_with fail
      go_region_law ((first
        | (go_simp; go_at_call 37; refine (rstep_any t.v t.kd t.ng t.p (atL a k) ch _ hp16 hrk.out).mono ?_; rintro e w1 ⟨rfl, hx1⟩)
        | (refine step_app _ rfl (.tmp 15) (.tmp 26) 69 rfl w.heap.size 9 i0 (.string ⟨#[]⟩) 16 Try.underlying69 hi hz0 hz1 hz2 rfl _ k (strs ((rnxs ts a ch).take k)) rfl (own_ext HOWN.out ((((Ext.refl wr).drew).trans hx1).alloc _)) ⟨w1.heap.size, 0, none⟩ 1 1 [Value.string (S (rnx t.kd (N t.p) (atL a k) ch))] rfl rfl (news_new _ _ _) (by intro u hu; simp at hu; subst hu; rfl) (by unfold maxLen; omega) (by omega) (by have := HXR.out.size; have := hx1.size; simp at this ⊢; omega) ?_; intro v' w2 hown' hg' hat' hold' _)))
      all_goals
        go_wp2_with fail
        go_roundw
        case rel =>
          refine ⟨k + 1, by omega, by go_num, by rw [hnk.out]; exact hown', ?_⟩
          exact Ext.grown ((HXR.out.drew.trans hx1).alloc _) hg' (fun g hg => own_ge HOWN.out hg)
        case measure => simp [intOf]; omega
    · obtain rfl : k = n := by omega
      go_wp2_with fail
      go_ret
      refine ⟨_, rfl, ?_, hxr⟩
      rw [List.take_of_length_le (by rw [rnxs_len ts a ch HA.out.1, HN.out]; exact Nat.le_refl _)] at hown
      exact hown

end Go.Proofs.Ytbniemkllhhnfaa
