/-
  Walks over the reference's search: finals, same.
-/
import Derived.Test.YtbniemkllhhnfaaW19
import Derived.Test.YtbniemkllhhnfaaW11
import Derived.Test.YtbniemkllhhnfaaPure10
namespace Go.Proofs.Ytbniemkllhhnfaa
open Go.RowKit
set_option maxHeartbeats 1000000
set_option maxRecDepth 100000

theorem strs_get (a : List (List Nat)) (i : Nat) (h : i < a.length) : (strs a)[i]? = some (.string (S (atL a i))) := by
  simp [strs, atL, List.getElem?_map, List.getElem?_eq_getElem h]
theorem strs_len (a : List (List Nat)) : (strs a).length = a.length := by simp [strs]

theorem rfinals_any (A Al : Option Addr) (ts : List Tst) (n c cl : Nat) (a : List (List Nat)) (w : World) (hts : TsAt w A ts) (hl : Rd w 9 Al (strs a)) (hn : ts.length = n) (hlen : n ≤ 1000) (hok : Few ts) (ha : rokL ts a) :
    Calls Try.prog 50 #[.slice A n c, .slice Al n cl] w fun e w' => e = .returned (.bool (rallOk ts a)) ∧ Ext w w' := by
  have HN := hid hn
  have HO := hid hok
  have HA := hid ha
  clear hn hok ha
  go_enter Try.func50, Try.ntmps50
  go_wp2_with fail
  go_loopw [5] (fun i wr => ∃ k : Nat, k ≤ n ∧ i = .int .i64 k ∧ rallOk ts a = rallOk (ts.drop k) (a.drop k) ∧ Ext w wr) (fun i _ => n - (intOf i).toNat)
  case atStart => exact ⟨0, Nat.zero_le _, rfl, rfl, Ext.refl w⟩
  case round =>
    obtain ⟨k, hk, rfl, hall, hxr⟩ := hrel
    have HALL := hid hall
    clear hall
    by_cases hlt : k < n
    · have hkl : k < ts.length := by rw [HN.out]; exact hlt
      have hka : k < a.length := by rw [HA.out.1]; exact hkl
      obtain ⟨t, ht⟩ : ∃ t, ts[k]? = some t := ⟨_, List.getElem?_eq_getElem hkl⟩
      obtain ⟨b, off, rfl, hc0, hc1, hc2, hc3⟩ := (hts.ext hxr) k t ht
      obtain ⟨bl, ol, rfl, hcl⟩ := (hl.ext hxr).at_ (strs_get a k hka)
      have hf := HO.out.2 t (List.mem_of_getElem? ht)
      have hp16 : t.p.size ≤ 16 := by omega
      have hk2 := hid hf.2
      have hrk := hid (HA.out.2 k t ht)
      have hst := hid (HALL.out.trans (rallOk_step ts a k t ht hka))
      have hb0 := Later.keep (w := wr) hc0
      have hb1 := Later.keep (w := wr) hc1
      have hb2 := Later.keep (w := wr) hc2
      have hb3 := Later.keep (w := wr) hc3
      have hbl := Later.keep (w := wr) hcl
      clear HALL ht hkl hka hf
      cases hp : (rfin t.kd (N t.p).length (atL a k) != t.ng)
      · go_wp2_with fail
        refine wp_region_later (by kernel_rfl) (by kernel_rfl) ?_
        repeat (go_big_quiet_step ((go_at_call 38; exact later_of (rfinal_any t.v t.kd t.ng t.p (atL a k) _ hp16 hk2.out hrk.out))))
        refine wpQuiet_nil ?_
        intro w' hw'
        have hx := later_out hw'
        clear hw' hb0 hb1 hb2 hb3 hbl hc0 hc1 hc2 hc3 hcl
        go_wp2_with fail
        go_ret
        refine ⟨ret_bool ?_, hxr.trans hx⟩
        rw [hst.out, hp]; rfl
      · go_wp2_with fail
        refine wp_region_later (by kernel_rfl) (by kernel_rfl) ?_
        repeat (go_big_quiet_step ((go_at_call 38; exact later_of (rfinal_any t.v t.kd t.ng t.p (atL a k) _ hp16 hk2.out hrk.out))))
        refine wpQuiet_nil ?_
        intro w' hw'
        have hx := later_out hw'
        clear hw' hb0 hb1 hb2 hb3 hbl hc0 hc1 hc2 hc3 hcl
        go_wp2_with fail
        go_roundw
        case rel =>
          refine ⟨k + 1, by omega, by go_num, ?_, hxr.trans hx⟩
          rw [hst.out, hp, Bool.true_and]
        case measure => simp [intOf]; omega
    · obtain rfl : k = n := by omega
      go_wp2_with fail
      go_ret
      refine ⟨ret_bool ?_, hxr⟩
      rw [HALL.out, List.drop_eq_nil_of_le (by rw [HN.out]; exact Nat.le_refl _)]
      rfl

theorem rsame_any (Aa Al : Option Addr) (n ca cl : Nat) (a b : List (List Nat)) (w : World) (ha : Rd w 9 Aa (strs a)) (hl : Rd w 9 Al (strs b)) (hna : a.length = n) (hnb : b.length = n) (hlen : n ≤ 1000)
    (h1 : ∀ i, ∀ y ∈ atL a i, y < 256) (h2 : ∀ i, ∀ y ∈ atL b i, y < 256) :
    Calls Try.prog 51 #[.slice Aa n ca, .slice Al n cl] w fun e w' => e = .returned (.bool (a == b)) ∧ Ext w w' := by
  have HA := hid hna
  have HB := hid hnb
  have H1 := hid h1
  have H2 := hid h2
  clear hna hnb h1 h2
  go_enter Try.func51, Try.ntmps51
  go_wp2_with fail
  go_loopw [5] (fun i wr => ∃ k : Nat, k ≤ n ∧ i = .int .i64 k ∧ a.take k = b.take k ∧ Ext w wr) (fun i _ => n - (intOf i).toNat)
  case atStart => exact ⟨0, Nat.zero_le _, rfl, rfl, Ext.refl w⟩
  case round =>
    obtain ⟨k, hk, rfl, hall, hxr⟩ := hrel
    have HALL := hid hall
    clear hall
    by_cases hlt : k < n
    · have hka : k < a.length := by rw [HA.out]; exact hlt
      have hkb : k < b.length := by rw [HB.out]; exact hlt
      obtain ⟨ba, oa, rfl, hca⟩ := (ha.ext hxr).at_ (strs_get a k hka)
      obtain ⟨bl, ol, rfl, hcl⟩ := (hl.ext hxr).at_ (strs_get b k hkb)
      have hba := Later.keep (w := wr) hca
      have hbl := Later.keep (w := wr) hcl
      have hq : ((S (atL a k)).toList == (S (atL b k)).toList) = (atL a k == atL b k) := by
        rw [str_eq, N_S _ (H1.out k), N_S _ (H2.out k)]
      have ea : Hid (a.take (k + 1) = a.take k ++ [atL a k]) := by
        unfold Hid; rw [List.take_succ_eq_append_getElem hka, atL, List.getElem?_eq_getElem hka]; rfl
      have eb : Hid (b.take (k + 1) = b.take k ++ [atL b k]) := by
        unfold Hid; rw [List.take_succ_eq_append_getElem hkb, atL, List.getElem?_eq_getElem hkb]; rfl
      clear hka hkb
      cases hs : (atL a k == atL b k)
      · rw [hs] at hq
        have hne : Hid ((a == b) = false) := by
          unfold Hid
          rw [beq_eq_false_iff_ne]
          rintro rfl
          rw [beq_self_eq_true] at hs; cases hs
        have hq2 : ((S (atL a k)).toList != (S (atL b k)).toList) = true := by rw [bne, hq]; rfl
        go_wp2_with fail
        refine wp_region_later (by kernel_rfl) (by kernel_rfl) ?_
        repeat (go_big_quiet_step (fail))
        refine wpQuiet_nil ?_
        intro w' hw'
        have hx := later_out hw'
        clear hw' hba hbl hca hcl
        go_wp2_with fail
        go_ret
        exact ⟨ret_bool hne.out.symm, hxr.trans hx⟩
      · rw [hs] at hq
        have hq2 : ((S (atL a k)).toList != (S (atL b k)).toList) = false := by rw [bne, hq]; rfl
        go_wp2_with fail
        refine wp_region_later (by kernel_rfl) (by kernel_rfl) ?_
        repeat (go_big_quiet_step (fail))
        refine wpQuiet_nil ?_
        intro w' hw'
        have hx := later_out hw'
        clear hw' hba hbl hca hcl
        go_wp2_with fail
        go_roundw
        case rel =>
          refine ⟨k + 1, by omega, by go_num, ?_, hxr.trans hx⟩
          rw [ea.out, eb.out, HALL.out, eq_of_beq hs]
        case measure => simp [intOf]; omega
    · obtain rfl : k = n := by omega
      go_wp2_with fail
      go_ret
      refine ⟨ret_bool ?_, hxr⟩
      have := HALL.out
      rw [List.take_of_length_le (by rw [HA.out]; exact Nat.le_refl _), List.take_of_length_le (by rw [HB.out]; exact Nat.le_refl _)] at this
      rw [this, beq_self_eq_true]

end Go.Proofs.Ytbniemkllhhnfaa
