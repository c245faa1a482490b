/-
  Walks: Columns.
-/
import Derived.Test.YtcdnodjcnofogaaGreatDoorW33
namespace Go.Proofs.YtcdnodjcnofogaaGreatDoor
open Go.RowKit
set_option linter.unusedVariables false
set_option linter.unusedSimpArgs false
set_option maxHeartbeats 4000000
set_option maxRecDepth 100000

theorem room_of_size : ∀ e : Ex, e.size ≤ 1048576 → e.room := by
  intro e
  induction e using Ex.ind with
  | h d ks ih =>
    intro h
    have hl : ∀ l : List Ex, l.length ≤ sizeL l := by
      intro l
      induction l with
      | nil => simp [sizeL]
      | cons a l ih => rw [sizeL, List.length_cons]; have := size_pos a; omega
    rw [Ex.room, roomL_iff]
    rw [Ex.size] at h
    refine ⟨by have := hl ks; omega, fun k hk => ih k hk ?_⟩
    have := sizeL_mem hk
    omega
theorem own_down {w : World} {B B' e sz n : Nat} {v : Value} {xs : List Value} (h : w.ownsRow B e sz v n xs) (hB : B' ≤ B) : w.ownsRow B' e sz v n xs := by
  obtain ⟨h1, h2⟩ := h
  refine ⟨h1, ?_⟩
  rcases h2 with h2 | ⟨g, cap, cur, rfl, hg, r⟩
  · exact .inl h2
  · exact .inr ⟨g, cap, cur, rfl, by omega, r⟩
theorem cols_step {ks : List Ex} {k : Nat} {e : Ex} (h : ks[k]? = some e) : colsL (ks.take (k + 1)) = colsL (ks.take k) ++ e.cols := by
  rw [take_at h, colsL_app, colsL, colsL, List.append_nil]
theorem cols_le {ks : List Ex} (k : Nat) : (colsL (ks.take k)).length ≤ (colsL ks).length := by
  conv => rhs; rw [← List.take_append_drop k ks, colsL_app]
  rw [List.length_append]
  omega
/-- the columns lie in blocks of the call's own -/
def ColsIn (w w' : World) (L : List Ex) (v : Value) (xs : List Value) : Prop :=
  w'.ownsRow w.heap.size 35 8 v L.length xs ∧ (∀ w2, Same w.heap.size w'.heap.size v.ownBlock w' w2 → LC w2 L xs)
theorem columns_any : ∀ (e : Ex) (A : Option Addr) (m c : Nat) (w : World), ExV w e A m c → e.size ≤ 1048576 →
    Calls Tryz.prog 27 #[e.d.val A m c] w fun r w' => ∃ v xs, r = .returned v ∧ ColsIn w w' e.cols v xs ∧ Ext w w' := by
  intro e
  induction e using Ex.ind with
  | h d ks ih =>
    intro A m c w hv hsz
    obtain ⟨i0, hi, hz0, hz1, hz2⟩ := info_parts info_ex
    have hcl := cols_len (.mk d ks)
    have hroom := room_of_size _ hsz
    have HC := hid (fun W (hW : Ext w W) => copied_any (.mk d ks) A m c W (hv.ext hW) hroom)
    obtain ⟨h1, h2', h3, h4⟩ := hv
    have HL : Hid (ks.length = m) := h1
    have HK : Hid (KidsAt w A ks) := h4
    have HI := hid ih
    have HS : Hid (∀ k ∈ ks, k.size ≤ 1048576) := fun k hk => by have := size_kid (d := d) hk; omega
    have hT : (Ex.mk d ks).cols = (if d.op = 2 then [Ex.mk d ks] else []) ++ colsL ks := by rw [Ex.cols]
    have hct : ((if d.op = 2 then [Ex.mk d ks] else []) ++ colsL ks).length ≤ 1048576 := by rw [← hT]; omega
    clear h1 h4 ih hroom hcl
    generalize (Ex.mk d ks).cols = T at *
    have hdv : (Ex.mk d ks).d = d := rfl
    rw [hdv] at HC ⊢
    have HONE := hid (fun A3 c3 => cells8_one d A3 m c3)
    have HDC := hid (fun A3 c3 => (rfl : (Ex.mk d ks).d.cells A3 m c3 = d.cells A3 m c3))
    unfold Nd.val at HC ⊢
    unfold Nd.cells at HONE HDC
    obtain ⟨op, tb, nm, ix, vk, vi, vt⟩ := d
    simp only at *
    by_cases h2 : op = 2
    · subst h2
      rw [if_pos rfl] at hct hT
      have HT := hid hT
      clear hT
      have hlen1 : ∀ k, ([(Ex.mk ⟨2, tb, nm, ix, vk, vi, vt⟩ ks)] ++ colsL (ks.take k)).length ≤ 1048576 := fun k => by
        have := cols_le (ks := ks) k
        rw [List.length_append] at hct ⊢
        omega
      have HLN := hid hlen1
      clear hlen1 hct
      have HBx := hid (Blk.of_new w 35 [.int .i64 2, .string tb, .string nm, .int .i64 ix, .int .i64 vk, .int .i64 vi, .string vt, .slice A m c])
      have HX := hid ((Ext.refl w).alloc (.cells #[.int .i64 2, .string tb, .string nm, .int .i64 ix, .int .i64 vk, .int .i64 vi, .string vt, .slice A m c] 35))
      go_enter Tryz.func27, Tryz.ntmps27
      go_wp2_with (first | (go_at_call 53; refine (HC.out _ ((Ext.refl w).alloc _)).mono ?_; rintro _ w3 ⟨A3, c3, rfl, hk3, hx3⟩; have HK3 := hid hk3; clear hk3) | (at_builtin; refine wpList_append_any _ rfl (.tmp 9) (.tmp 12) 25 rfl w.heap.size 35 i0 _ 8 104 Tryz.underlying25 hi hz0 hz1 hz2 rfl (by decide) _ 0 [] rfl (World.ownsRow_nil _ _ _ _) _ _ 1 1 [.int .i64 2, .string tb, .string nm, .int .i64 ix, .int .i64 vk, .int .i64 vi, .string vt, .slice A3 m c3] rfl (reads_new w3 [.int .i64 2, .string tb, .string nm, .int .i64 ix, .int .i64 vk, .int .i64 vi, .string vt, .slice A3 m c3] 35 rfl) (HONE.out A3 c3) (by unfold maxLen; omega) (by omega) ((HX.out.trans hx3).alloc _).size ?_; intro v1 w5 hown5 hgr5 hblk5; have HO5 := hid hown5; have HG5 := hid hgr5; have HB5 := hid hblk5; clear hown5 hgr5 hblk5; have c7 := ((HBx.out.ext (hx3.alloc (.cells #[.int .i64 2, .string tb, .string nm, .int .i64 ix, .int .i64 vk, .int .i64 vi, .string vt, .slice A3 m c3] 35))).grown HG5.out (fun h => by cases h)).cell 7; simp only [List.getElem?_cons_succ, List.getElem?_cons_zero] at c7))
      have hin : ColsIn w w5 ([(Ex.mk ⟨2, tb, nm, ix, vk, vi, vt⟩ ks)] ++ colsL (ks.take 0)) v1 [.int .i64 2, .string tb, .string nm, .int .i64 ix, .int .i64 vk, .int .i64 vi, .string vt, .slice A3 m c3] := by
        refine ⟨HO5.out, ?_⟩
        have := lkp_step (W0 := w) (v := .slice none 0 0) (L := []) (xs := []) (e := Ex.mk ⟨2, tb, nm, ix, vk, vi, vt⟩ ks) (A := A3) (m := m) (c := c3) (fun _ _ => LC.nil) HK3.out HX.out.size (Ext.refl _) hx3 ((Ext.refl w3).alloc (.cells #[.int .i64 2, .string tb, .string nm, .int .i64 ix, .int .i64 vk, .int .i64 vi, .string vt, .slice A3 m c3] 35)) (fun q hq => by cases hq) HG5.out HG5.out.size HB5.out
        simpa [colsL, Nd.cells, Ex.d] using this
      have HIN := hid hin
      have HXS := hid (((HX.out.trans hx3).alloc (.cells #[.int .i64 2, .string tb, .string nm, .int .i64 ix, .int .i64 vk, .int .i64 vi, .string vt, .slice A3 m c3] 35)).grown HG5.out fun q hq => by cases hq)
      clear hin hx3 HK3 HO5 HG5 HB5
      generalize [Value.int .i64 2, .string tb, .string nm, .int .i64 ix, .int .i64 vk, .int .i64 vi, .string vt, .slice A3 m c3] = xs0 at *
      generalize [(Ex.mk ⟨2, tb, nm, ix, vk, vi, vt⟩ ks)] = L0 at HT HLN HIN
      go_loopw [3, 17] (fun nv iv wr => ∃ (k : Nat) (xs : List Value), k ≤ m ∧ iv = .int .i64 k ∧ ColsIn w wr (L0 ++ colsL (ks.take k)) nv xs ∧ Ext w wr) (fun _ i _ => m - (intOf i).toNat)
      case atStart => exact ⟨0, _, Nat.zero_le _, rfl, HIN.out, HXS.out⟩
      case round =>
        obtain ⟨k, xs, hk, rfl, hin1, hxr⟩ := hrel
        have HO := hid hin1.1
        have HLC := hid hin1.2
        have HXr := hid hxr
        clear hin1
        by_cases hlt : k < m
        · obtain ⟨e', he⟩ := at_lt HL.out hlt
          obtain ⟨b, off, A', n', c', rfl, q0, q1, q2, q3, q4, q5, q6, q7, hv'⟩ := (HK.out.ext hxr).get he
          have HV := hid hv'
          have HM := hid (mem_at he)
          have HTk : Hid (L0 ++ colsL (ks.take (k + 1)) = (L0 ++ colsL (ks.take k)) ++ e'.cols) := by unfold Hid; rw [cols_step he, List.append_assoc]
          have hb1 : (L0 ++ colsL (ks.take k)).length + e'.cols.length ≤ 1048576 := by
            have := HLN.out (k + 1)
            rw [HTk.out, List.length_append] at this
            omega
          have HIe := hid (fun W (hW : Ext wr W) => HI.out e' HM.out A' n' c' W (HV.out.ext hW) (HS.out e' HM.out))
          clear he hv' hxr
          unfold Nd.val at HIe
          generalize e'.d = d at *
          obtain ⟨op', tb', nm', ix', vk', vi', vt'⟩ := d
          simp only at *
          go_wp2_with (first | (go_at_call 27; refine (HIe.out _ ((Ext.refl wr).alloc _)).mono ?_; rintro _ w3 ⟨v3, xs3, rfl, ⟨ho3, hl3⟩, hx3⟩; obtain ⟨A3, c3, rfl, _, _⟩ := own_kids ho3 (hl3 w3 fun _ _ _ _ => rfl); have HO3 := hid ho3; have HL3 := hid hl3; clear ho3 hl3) | (at_builtin; refine wpList_append_any _ rfl (.tmp 21) (.tmp 23) 25 rfl w.heap.size 35 i0 _ 8 104 Tryz.underlying25 hi hz0 hz1 hz2 rfl (by decide) _ _ xs rfl (ownN_ext HO.out (((Ext.refl wr).alloc _).trans hx3)) _ _ _ _ xs3 rfl (Reads.of_own HO3.out) (HL3.out w3 fun _ _ _ _ => rfl).len.2 (by unfold maxLen; omega) (by omega) (HXr.out.trans (((Ext.refl wr).alloc _).trans hx3)).size ?_; intro v1 w5 hown5 hgr5 hblk5; have HO5 := hid hown5; have HG5 := hid hgr5; have HB5 := hid hblk5; clear hown5 hgr5 hblk5))
          go_roundw
          case rel =>
            refine ⟨k + 1, xs ++ xs3, by omega, by go_num, ?_, (HXr.out.trans (((Ext.refl wr).alloc _).trans hx3)).grown HG5.out fun q hq => (HO.out.lt q hq).1⟩
            rw [HTk.out]
            refine ⟨by rw [List.length_append (bs := e'.cols)]; exact HO5.out, ?_⟩
            exact lkp_cat HLC.out HL3.out HXr.out.size ((Ext.refl wr).alloc _) hx3 (Ext.refl w3) (fun q hq => (HO.out.lt q hq).2) HG5.out HG5.out.size HB5.out
          case measure => simp [intOf]; omega
        · obtain rfl : k = m := by omega
          rw [← HL.out, List.take_length, ← HT.out] at HO HLC
          go_wp2_with fail
          go_ret
          exact ⟨_, xs, rfl, ⟨HO.out, HLC.out⟩, HXr.out⟩
    · rw [if_neg h2] at hct hT
      have HT := hid hT
      clear hT
      have hlen1 : ∀ k, (([] : List Ex) ++ colsL (ks.take k)).length ≤ 1048576 := fun k => by
        have := cols_le (ks := ks) k
        rw [List.length_append] at hct ⊢
        omega
      have HLN := hid hlen1
      clear hlen1 hct
      have H2 : Hid ((op == 2) = false) := by unfold Hid; simpa using h2
      have HX := hid ((Ext.refl w).alloc (.cells #[.int .i64 op, .string tb, .string nm, .int .i64 ix, .int .i64 vk, .int .i64 vi, .string vt, .slice A m c] 35))
      go_enter Tryz.func27, Tryz.ntmps27
      go_wp2_with fail
      rw [H2.out]
      have hin : ColsIn w (w.alloc (.cells #[.int .i64 op, .string tb, .string nm, .int .i64 ix, .int .i64 vk, .int .i64 vi, .string vt, .slice A m c] 35)) ([] ++ colsL (ks.take 0)) (.slice none 0 0) [] := ⟨World.ownsRow_nil _ _ _ _, fun _ _ => by simpa [colsL] using LC.nil⟩
      have HIN := hid hin
      have HXS := hid HX.out
      clear hin
      generalize ([] : List Ex) = L0 at HT HLN HIN
      generalize w.alloc (.cells #[.int .i64 op, .string tb, .string nm, .int .i64 ix, .int .i64 vk, .int .i64 vi, .string vt, .slice A m c] 35) = W1 at *
      go_loopw [3, 17] (fun nv iv wr => ∃ (k : Nat) (xs : List Value), k ≤ m ∧ iv = .int .i64 k ∧ ColsIn w wr (L0 ++ colsL (ks.take k)) nv xs ∧ Ext w wr) (fun _ i _ => m - (intOf i).toNat)
      case atStart => exact ⟨0, _, Nat.zero_le _, rfl, HIN.out, HXS.out⟩
      case round =>
        obtain ⟨k, xs, hk, rfl, hin1, hxr⟩ := hrel
        have HO := hid hin1.1
        have HLC := hid hin1.2
        have HXr := hid hxr
        clear hin1
        by_cases hlt : k < m
        · obtain ⟨e', he⟩ := at_lt HL.out hlt
          obtain ⟨b, off, A', n', c', rfl, q0, q1, q2, q3, q4, q5, q6, q7, hv'⟩ := (HK.out.ext hxr).get he
          have HV := hid hv'
          have HM := hid (mem_at he)
          have HTk : Hid (L0 ++ colsL (ks.take (k + 1)) = (L0 ++ colsL (ks.take k)) ++ e'.cols) := by unfold Hid; rw [cols_step he, List.append_assoc]
          have hb1 : (L0 ++ colsL (ks.take k)).length + e'.cols.length ≤ 1048576 := by
            have := HLN.out (k + 1)
            rw [HTk.out, List.length_append] at this
            omega
          have HIe := hid (fun W (hW : Ext wr W) => HI.out e' HM.out A' n' c' W (HV.out.ext hW) (HS.out e' HM.out))
          clear he hv' hxr
          unfold Nd.val at HIe
          generalize e'.d = d at *
          obtain ⟨op', tb', nm', ix', vk', vi', vt'⟩ := d
          simp only at *
          go_wp2_with (first | (go_at_call 27; refine (HIe.out _ ((Ext.refl wr).alloc _)).mono ?_; rintro _ w3 ⟨v3, xs3, rfl, ⟨ho3, hl3⟩, hx3⟩; obtain ⟨A3, c3, rfl, _, _⟩ := own_kids ho3 (hl3 w3 fun _ _ _ _ => rfl); have HO3 := hid ho3; have HL3 := hid hl3; clear ho3 hl3) | (at_builtin; refine wpList_append_any _ rfl (.tmp 21) (.tmp 23) 25 rfl w.heap.size 35 i0 _ 8 104 Tryz.underlying25 hi hz0 hz1 hz2 rfl (by decide) _ _ xs rfl (ownN_ext HO.out (((Ext.refl wr).alloc _).trans hx3)) _ _ _ _ xs3 rfl (Reads.of_own HO3.out) (HL3.out w3 fun _ _ _ _ => rfl).len.2 (by unfold maxLen; omega) (by omega) (HXr.out.trans (((Ext.refl wr).alloc _).trans hx3)).size ?_; intro v1 w5 hown5 hgr5 hblk5; have HO5 := hid hown5; have HG5 := hid hgr5; have HB5 := hid hblk5; clear hown5 hgr5 hblk5))
          go_roundw
          case rel =>
            refine ⟨k + 1, xs ++ xs3, by omega, by go_num, ?_, (HXr.out.trans (((Ext.refl wr).alloc _).trans hx3)).grown HG5.out fun q hq => (HO.out.lt q hq).1⟩
            rw [HTk.out]
            refine ⟨by rw [List.length_append (bs := e'.cols)]; exact HO5.out, ?_⟩
            exact lkp_cat HLC.out HL3.out HXr.out.size ((Ext.refl wr).alloc _) hx3 (Ext.refl w3) (fun q hq => (HO.out.lt q hq).2) HG5.out HG5.out.size HB5.out
          case measure => simp [intOf]; omega
        · obtain rfl : k = m := by omega
          rw [← HL.out, List.take_length, ← HT.out] at HO HLC
          go_wp2_with fail
          go_ret
          exact ⟨_, xs, rfl, ⟨HO.out, HLC.out⟩, HXr.out⟩
end Go.Proofs.YtcdnodjcnofogaaGreatDoor
