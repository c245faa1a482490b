/-
  Walks: all, the expressions of a statement.
-/
import Derived.Test.YtcdnodjcnofogaaGreatDoorStmt
import Derived.Deep.RegionHeld3
namespace Go.Proofs.YtcdnodjcnofogaaGreatDoor
open Go.RowKit
set_option linter.unusedVariables false
set_option linter.unusedSimpArgs false
set_option maxHeartbeats 4000000
set_option maxRecDepth 100000

theorem ownN_ext {w w' : World} {B e sz n : Nat} {v : Value} {xs : List Value} (h : w.ownsRow B e sz v n xs) (hx : Ext w w') : w'.ownsRow B e sz v n xs := by
  obtain ⟨h1, h2⟩ := h
  refine ⟨h1, ?_⟩
  rcases h2 with h2 | ⟨g, cap, cur, hv, hg, hh, r⟩
  · exact .inl h2
  · exact .inr ⟨g, cap, cur, hv, hg, (Below.block hx g (Array.getElem?_eq_some_iff.1 hh).1).trans hh, r⟩
theorem news_at (w : World) (cs : Array Value) (e : TypeId) (n : Nat) (hn : n = w.heap.size) : ∀ (j : Nat) (u : Value), cs.toList[j]? = some u → (w.alloc (.cells cs e)).cell? ((⟨n, 0, none⟩ : Addr).add j) = some u := by
  subst hn
  exact news_new w cs e
theorem elt_cells {w : World} {e : Ex} {A : Option Addr} {n c : Nat} (h : ExV w e A n c) : ExC w e (e.d.cells A n c) := by
  obtain ⟨d, ks⟩ := e
  rw [ExC]
  have h1 := h.len
  have h1 : ks.length = n := h1
  subst h1
  exact ⟨h.fit, h.le, A, c, rfl, h.kids⟩
theorem map_step {α β : Type} {l : List α} {k : Nat} {x : α} (f : α → β) (h : l[k]? = some x) : (l.take (k + 1)).map f = (l.take k).map f ++ [f x] := by
  obtain ⟨hi, rfl⟩ := List.getElem?_eq_some_iff.1 h
  rw [List.take_succ_eq_append_getElem hi, List.map_append]
  rfl
theorem concat_kids (L : List (List Ex)) (A : Option Addr) (n c : Nat) (w : World) (hl : L.length = n) (hn : n ≤ 9223372036854775807) (hr : RowsAt w A L) (hT : L.flatten.length ≤ 1000000000) :
    Calls Tryz.prog 70 #[.slice A n c] w fun r w' => ∃ A' c', r = .returned (.slice A' L.flatten.length c') ∧ KidsAt w' A' L.flatten ∧ Ext w w' :=
  (concat_any L A n c w hl hn hr hT).mono fun r w' ⟨v, xs, hr, ho, hc, hx⟩ => by
    obtain ⟨A', c', rfl, hk, hn'⟩ := own_kids ho (hc.ext hx)
    exact ⟨A', c', hr, hk, hx⟩
theorem rows3 {w : World} {g t : Nat} {A1 A2 A3 : Option Addr} {n1 n2 n3 c1 c2 c3 : Nat} {l1 l2 l3 : List Ex} (hb : Blk w g t [.slice A1 n1 c1, .slice A2 n2 c2, .slice A3 n3 c3])
    (h1 : l1.length = n1 ∧ KidsAt w A1 l1) (h2 : l2.length = n2 ∧ KidsAt w A2 l2) (h3 : l3.length = n3 ∧ KidsAt w A3 l3) : RowsAt w (some ⟨g, 0, none⟩) [l1, l2, l3] := by
  intro i l hl
  match i with
  | 0 => simp at hl; subst hl; exact ⟨g, 0, A1, n1, c1, rfl, by simpa using hb.cell 0, h1.1, h1.2⟩
  | 1 => simp at hl; subst hl; exact ⟨g, 0, A2, n2, c2, rfl, by simpa using hb.cell 1, h2.1, h2.2⟩
  | 2 => simp at hl; subst hl; exact ⟨g, 0, A3, n3, c3, rfl, by simpa using hb.cell 2, h3.1, h3.2⟩
  | i + 3 => simp at hl

theorem asg_get {w : World} {A : Option Addr} {l : List Asg} (h : AsgsAt w A l) {i : Nat} {x : Asg} (hx : l[i]? = some x) : ∃ b off A' n c, A = some ⟨b, off, none⟩ ∧ w.cell? ⟨b, off + i * 10, none⟩ = some (.string x.cl) ∧ w.cell? ⟨b, off + i * 10 + 1, none⟩ = some (.int .i64 x.ix) ∧
    w.cell? ⟨b, off + i * 10 + 2, none⟩ = some (.int .i64 x.ex.d.op) ∧ w.cell? ⟨b, off + i * 10 + 3, none⟩ = some (.string x.ex.d.tb) ∧ w.cell? ⟨b, off + i * 10 + 4, none⟩ = some (.string x.ex.d.nm) ∧ w.cell? ⟨b, off + i * 10 + 5, none⟩ = some (.int .i64 x.ex.d.ix) ∧
    w.cell? ⟨b, off + i * 10 + 6, none⟩ = some (.int .i64 x.ex.d.vk) ∧ w.cell? ⟨b, off + i * 10 + 7, none⟩ = some (.int .i64 x.ex.d.vi) ∧ w.cell? ⟨b, off + i * 10 + 8, none⟩ = some (.string x.ex.d.vt) ∧ w.cell? ⟨b, off + i * 10 + 9, none⟩ = some (.slice A' n c) ∧ ExV w x.ex A' n c := by
  obtain ⟨_, b, off, A', n, c, hA, h1, h2, h3⟩ := h i x hx
  exact ⟨b, off, A', n, c, hA, h1, h2, h3.c0, h3.c1, h3.c2, h3.c3, h3.c4, h3.c5, h3.c6, h3.c7, h3.val⟩
theorem itm_get {w : World} {A : Option Addr} {l : List Itm} (h : ItmsAt w A l) {i : Nat} {x : Itm} (hx : l[i]? = some x) : ∃ b off A' n c, A = some ⟨b, off, none⟩ ∧ w.cell? ⟨b, off + i * 9, none⟩ = some (.int .i64 x.ag) ∧
    w.cell? ⟨b, off + i * 9 + 1, none⟩ = some (.int .i64 x.ex.d.op) ∧ w.cell? ⟨b, off + i * 9 + 2, none⟩ = some (.string x.ex.d.tb) ∧ w.cell? ⟨b, off + i * 9 + 3, none⟩ = some (.string x.ex.d.nm) ∧ w.cell? ⟨b, off + i * 9 + 4, none⟩ = some (.int .i64 x.ex.d.ix) ∧
    w.cell? ⟨b, off + i * 9 + 5, none⟩ = some (.int .i64 x.ex.d.vk) ∧ w.cell? ⟨b, off + i * 9 + 6, none⟩ = some (.int .i64 x.ex.d.vi) ∧ w.cell? ⟨b, off + i * 9 + 7, none⟩ = some (.string x.ex.d.vt) ∧ w.cell? ⟨b, off + i * 9 + 8, none⟩ = some (.slice A' n c) ∧ ExV w x.ex A' n c := by
  obtain ⟨_, b, off, A', n, c, hA, h1, h3⟩ := h i x hx
  exact ⟨b, off, A', n, c, hA, h1, h3.c0, h3.c1, h3.c2, h3.c3, h3.c4, h3.c5, h3.c6, h3.c7, h3.val⟩
theorem cells8_one (d : Nd) (A : Option Addr) (n c : Nat) : ∀ u ∈ d.cells A n c, u.oneCell' = true := by
  intro u hu
  simp [Nd.cells] at hu
  rcases hu with rfl | rfl | rfl | rfl | rfl | rfl | rfl | rfl <;> rfl
theorem all_any (s : St) (a : SA) (w : World) (hv : StV w s a) (hT : s.all.length ≤ 100000000) :
    Calls Tryz.prog 41 #[s.val a] w fun r w' => ∃ A c, r = .returned (.slice A s.all.length c) ∧ KidsAt w' A s.all ∧ Ext w w' := by
  obtain ⟨i0, hi, hz0, hz1, hz2⟩ := info_parts info_ex
  have HV := hid hv
  have HTl := hid hT
  have HB := hid (Blk.of_new w 38 (s.cells a))
  have HX := hid ((Ext.refl w).alloc (.cells (s.cells a).toArray 38))
  have hsn := hv.sets.2.1
  have hin := hv.itms.2.1
  have hfl : s.vals.flatten.length ≤ 100000000 ∧ (s.chk ++ s.vals.flatten ++ s.grp).length ≤ 100000000 ∧ (s.chk ++ s.vals.flatten ++ s.grp ++ s.sets.map Asg.ex).length ≤ 100000000 ∧ (s.chk ++ s.vals.flatten ++ s.grp ++ s.sets.map Asg.ex ++ s.itms.map Itm.ex).length < 100000000 := by
    unfold St.all at hT
    simp only [List.length_append, List.length_singleton] at *
    omega
  have HFL := hid hfl
  have HC1 := hid (fun W (hW : Ext w W) => concat_kids s.vals a.vals.A a.vals.n a.vals.c W hv.vals.1 hv.vals.2.1 (hv.vals.2.2.ext hW) (by omega))
  have HC2 : Hid (∀ (W : World) (g' : Nat) (A' : Option Addr) (c' : Nat), Ext w W → KidsAt W A' s.vals.flatten → Blk W g' 25 [.slice a.chk.A a.chk.n a.chk.c, .slice A' s.vals.flatten.length c', .slice a.grp.A a.grp.n a.grp.c] →
      Calls Tryz.prog 70 #[.slice (some ⟨g', 0, none⟩) 3 3] W fun r w' => ∃ v xs, r = .returned v ∧ w'.ownsRow W.heap.size 35 8 v (s.chk ++ s.vals.flatten ++ s.grp).length xs ∧ LC W (s.chk ++ s.vals.flatten ++ s.grp) xs ∧ Ext W w') := by
    intro W g' A' c' hW hk hb
    have he : [s.chk, s.vals.flatten, s.grp].flatten = s.chk ++ s.vals.flatten ++ s.grp := by simp
    have := concat_any [s.chk, s.vals.flatten, s.grp] _ 3 3 W rfl (by omega) (rows3 hb ⟨hv.chk.1, hv.chk.2.2.ext hW⟩ ⟨rfl, hk⟩ ⟨hv.grp.1, hv.grp.2.2.ext hW⟩) (by rw [he]; omega)
    rwa [he] at this
  clear hv hT hfl
  unfold St.val
  unfold St.cells at *
  unfold Sl.v at *
  have Hsets := hid HV.out.sets.2.2
  have Hitms := hid HV.out.itms.2.2
  generalize a.sets.A = P1 at *
  generalize a.itms.A = P2 at *
  go_enter Tryz.func41, Tryz.ntmps41
  go_wp2_with fail
  generalize w.alloc (.cells _ 38) = w1 at *
  generalize w.heap.size = g at *
  have c5 := HB.out.cell 5
  have c6 := HB.out.cell 6
  have c18 := HB.out.cell 18
  simp only [List.getElem?_cons_succ, List.getElem?_cons_zero] at c5 c6 c18
  generalize s.vals.flatten.length = nv at *
  go_region_held3 (fun w' => w'.cell? ⟨g, 5, none⟩ = some (.slice a.chk.A a.chk.n a.chk.c) ∧ w'.cell? ⟨g, 6, none⟩ = some (.slice a.vals.A a.vals.n a.vals.c) ∧ w'.cell? ⟨g, 18, none⟩ = some (.slice a.grp.A a.grp.n a.grp.c))
    (first | go_keep | exact ⟨hx1.keep c5, hx1.keep c6, hx1.keep c18⟩ | exact ⟨hx2.keep (((Ext.refl w2).alloc _).keep (hx1.keep c5)), hx2.keep (((Ext.refl w2).alloc _).keep (hx1.keep c6)), hx2.keep (((Ext.refl w2).alloc _).keep (hx1.keep c18))⟩)
    (first
      | (go_at_call 70; (with_reducible refine (HC1.out _ HX.out.drew).mono ?_); rintro _ w2 ⟨A1, c1, rfl, hk1, hx1⟩)
      | (go_at_call 70; (with_reducible refine (HC2.out _ _ A1 c1 ((HX.out.drew.trans hx1).alloc _) (hk1.ext ((Ext.refl w2).alloc _)) (Blk.of_new w2 _ _)).mono ?_); rintro _ w3 ⟨v3, xs3, rfl, hown3, hlc3, hx2⟩))
  have hbx := Blk.of_new w2 25 [.slice a.chk.A a.chk.n a.chk.c, .slice A1 nv c1, .slice a.grp.A a.grp.n a.grp.c]
  have HX0 := hid ((HX.out.drew.trans hx1).alloc (.cells #[.slice a.chk.A a.chk.n a.chk.c, .slice A1 nv c1, .slice a.grp.A a.grp.n a.grp.c] 25))
  have HB0 := hid ((HB.out.ext (((Ext.refl w1).drew.trans hx1).alloc (.cells #[.slice a.chk.A a.chk.n a.chk.c, .slice A1 nv c1, .slice a.grp.A a.grp.n a.grp.c] 25))))
  have HO3 := hid hown3
  have HLC3 := hid hlc3
  rename_i hHeld
  clear hHeld hown3 hlc3 hbx HC1 HC2 c5 c6 c18 hk1
  generalize w2.alloc (.cells #[.slice a.chk.A a.chk.n a.chk.c, .slice A1 nv c1, .slice a.grp.A a.grp.n a.grp.c] 25) = W0 at *
  generalize hL0 : s.chk ++ s.vals.flatten ++ s.grp = L0 at *
  have c7 := (HB0.out.ext hx2).cell 7
  simp only [List.getElem?_cons_succ, List.getElem?_cons_zero] at c7
  have HX2 := hid hx2
  clear hx1 hx2
  go_wp2_with fail
  go_loopw [3, 21] (fun nv iv wr => ∃ (k : Nat) (xs : List Value), k ≤ a.sets.n ∧ iv = .int .i64 k ∧ wr.ownsRow W0.heap.size 35 8 nv (L0 ++ (s.sets.take k).map Asg.ex).length xs ∧ LC W0 (L0 ++ (s.sets.take k).map Asg.ex) xs ∧ Ext W0 wr) (fun _ i _ => a.sets.n - (intOf i).toNat)
  case atStart => exact ⟨0, xs3, Nat.zero_le _, rfl, by simpa using HO3.out, by simpa using HLC3.out, HX2.out⟩
  case round =>
    obtain ⟨k, xs, hk, rfl, hown, hlc, hxr⟩ := hrel
    have HO := hid hown
    have HLC := hid hlc
    have HXr := hid hxr
    clear hown hlc
    by_cases hlt : k < a.sets.n
    · obtain ⟨x, hx⟩ := rat_lt HV.out.sets.1 hlt
      obtain ⟨b, off, A', n', c', rfl, q0, q1, q2, q3, q4, q5, q6, q7, q8, q9, hxv⟩ := asg_get (Hsets.out.ext HX0.out) hx
      replace q0 := hxr.keep q0
      replace q1 := hxr.keep q1
      replace q2 := hxr.keep q2
      replace q3 := hxr.keep q3
      replace q4 := hxr.keep q4
      replace q5 := hxr.keep q5
      replace q6 := hxr.keep q6
      replace q7 := hxr.keep q7
      replace q8 := hxr.keep q8
      replace q9 := hxr.keep q9
      have HEx := hid (elt_cells hxv)
      have HMs := hid (map_step Asg.ex hx)
      have HONE := hid (cells8_one x.ex.d A' n' c')
      obtain ⟨p, hp⟩ : ∃ p, (L0 ++ (s.sets.take k).map Asg.ex).length = p := ⟨_, rfl⟩
      have HP := hid hp
      rw [hp] at HO
      have hpl : p + 1 ≤ 100000000 := by
        have h1 := HFL.out.2.2.1
        have h2 : (s.sets.take (k + 1)).length ≤ s.sets.length := by rw [List.length_take]; omega
        rw [← hp]
        simp only [List.length_append, List.length_map, List.length_take] at *
        have := HV.out.sets.1
        omega
      clear hx hxv hp hxr
      unfold Nd.cells at HEx HONE
      generalize hd : x.ex.d = d at *
      obtain ⟨op, tb, nm, ix, vk, vi, vt⟩ := d
      simp only at *
      clear hd
      go_wp2_with (at_builtin; refine wpList_append_own _ rfl (.tmp 25) (.tmp 28) 25 rfl W0.heap.size 35 i0 _ 8 104 Tryz.underlying25 hi hz0 hz1 hz2 rfl (by decide) _ p xs rfl (ownN_ext HO.out (((Ext.refl wr).alloc _).alloc _)) ⟨_, 0, none⟩ 1 1 [.int .i64 op, .string tb, .string nm, .int .i64 ix, .int .i64 vk, .int .i64 vi, .string vt, .slice A' n' c'] rfl rfl (news_at _ _ _ _ (by simp)) HONE.out (by unfold maxLen; omega) (by omega) (by simp; have := HXr.out.size; omega) ?_; intro v1 w5 hown5 hgr5 _; have HO5 := hid hown5; have HG5 := hid hgr5; clear hown5 hgr5)
      go_roundw
      case rel =>
        refine ⟨k + 1, xs ++ [.int .i64 op, .string tb, .string nm, .int .i64 ix, .int .i64 vk, .int .i64 vi, .string vt, .slice A' n' c'], by omega, by go_num, ?_, ?_, ?_⟩
        · rw [HMs.out, ← List.append_assoc, List.length_append, HP.out]
          exact HO5.out
        · rw [HMs.out, ← List.append_assoc]
          exact HLC.out.app (LC.one HEx.out)
        · refine ((HXr.out.alloc _).alloc _).grown HG5.out fun q hq => (HO.out.lt q hq).1
      case measure => simp [intOf]; omega
    · obtain rfl : k = a.sets.n := by omega
      have HTk : Hid (s.sets.take a.sets.n = s.sets) := List.take_of_length_le (Nat.le_of_eq HV.out.sets.1)
      rw [HTk.out] at HO HLC
      generalize hL1 : L0 ++ s.sets.map Asg.ex = L1 at *
      have c8 := (HB0.out.ext hxr).cell 8
      simp only [List.getElem?_cons_succ, List.getElem?_cons_zero] at c8
      clear hxr
      go_wp2_with fail
      go_loopw [3, 34] (fun nv iv wr => ∃ (k : Nat) (xs : List Value), k ≤ a.itms.n ∧ iv = .int .i64 k ∧ wr.ownsRow W0.heap.size 35 8 nv (L1 ++ (s.itms.take k).map Itm.ex).length xs ∧ LC W0 (L1 ++ (s.itms.take k).map Itm.ex) xs ∧ Ext W0 wr) (fun _ i _ => a.itms.n - (intOf i).toNat)
      case atStart => exact ⟨0, xs, Nat.zero_le _, rfl, by simpa using HO.out, by simpa using HLC.out, HXr.out⟩
      case round =>
        clear HO HLC HXr
        obtain ⟨k, xs, hk, rfl, hown, hlc, hxr⟩ := hrel
        have HO := hid hown
        have HLC := hid hlc
        have HXr := hid hxr
        clear hown hlc
        by_cases hlt : k < a.itms.n
        · obtain ⟨x, hx⟩ := rat_lt HV.out.itms.1 hlt
          obtain ⟨b, off, A', n', c', rfl, q0, q1, q2, q3, q4, q5, q6, q7, q8, hxv⟩ := itm_get (Hitms.out.ext HX0.out) hx
          replace q0 := hxr.keep q0
          replace q1 := hxr.keep q1
          replace q2 := hxr.keep q2
          replace q3 := hxr.keep q3
          replace q4 := hxr.keep q4
          replace q5 := hxr.keep q5
          replace q6 := hxr.keep q6
          replace q7 := hxr.keep q7
          replace q8 := hxr.keep q8
          have HEx := hid (elt_cells hxv)
          have HMs := hid (map_step Itm.ex hx)
          have HONE := hid (cells8_one x.ex.d A' n' c')
          obtain ⟨p, hp⟩ : ∃ p, (L1 ++ (s.itms.take k).map Itm.ex).length = p := ⟨_, rfl⟩
          have HP := hid hp
          rw [hp] at HO
          have hpl : p + 1 ≤ 100000000 := by
            have h1 := HFL.out.2.2.2
            have h2 : (s.itms.take (k + 1)).length ≤ s.itms.length := by rw [List.length_take]; omega
            rw [← hp]
            simp only [List.length_append, List.length_map, List.length_take] at *
            have := HV.out.itms.1
            omega
          clear hx hxv hp hxr
          unfold Nd.cells at HEx HONE
          generalize hd : x.ex.d = d at *
          obtain ⟨op, tb, nm, ix, vk, vi, vt⟩ := d
          simp only at *
          clear hd
          go_wp2_with (at_builtin; refine wpList_append_own _ rfl (.tmp 38) (.tmp 41) 25 rfl W0.heap.size 35 i0 _ 8 104 Tryz.underlying25 hi hz0 hz1 hz2 rfl (by decide) _ p xs rfl (ownN_ext HO.out (((Ext.refl wr).alloc _).alloc _)) ⟨_, 0, none⟩ 1 1 [.int .i64 op, .string tb, .string nm, .int .i64 ix, .int .i64 vk, .int .i64 vi, .string vt, .slice A' n' c'] rfl rfl (news_at _ _ _ _ (by simp)) HONE.out (by unfold maxLen; omega) (by omega) (by simp; have := HXr.out.size; omega) ?_; intro v1 w5 hown5 hgr5 _; have HO5 := hid hown5; have HG5 := hid hgr5; clear hown5 hgr5)
          go_roundw
          case rel =>
            refine ⟨k + 1, xs ++ [.int .i64 op, .string tb, .string nm, .int .i64 ix, .int .i64 vk, .int .i64 vi, .string vt, .slice A' n' c'], by omega, by go_num, ?_, ?_, ?_⟩
            · rw [HMs.out, ← List.append_assoc, List.length_append, HP.out]
              exact HO5.out
            · rw [HMs.out, ← List.append_assoc]
              exact HLC.out.app (LC.one HEx.out)
            · refine ((HXr.out.alloc _).alloc _).grown HG5.out fun q hq => (HO.out.lt q hq).1
          case measure => simp [intOf]; omega
        · obtain rfl : k = a.itms.n := by omega
          have HTi : Hid (s.itms.take a.itms.n = s.itms) := List.take_of_length_le (Nat.le_of_eq HV.out.itms.1)
          rw [HTi.out] at HO HLC
          have hb := HB0.out.ext hxr
          have d10 := hb.cell 10
          have d11 := hb.cell 11
          have d12 := hb.cell 12
          have d13 := hb.cell 13
          have d14 := hb.cell 14
          have d15 := hb.cell 15
          have d16 := hb.cell 16
          have d17 := hb.cell 17
          simp only [List.getElem?_cons_succ, List.getElem?_cons_zero] at d10 d11 d12 d13 d14 d15 d16 d17
          have HEx := hid (elt_cells (HV.out.whr.ext HX0.out))
          have HONE := hid (cells8_one s.whr.d a.whr.A a.whr.n a.whr.c)
          obtain ⟨p, hp⟩ : ∃ p, (L1 ++ s.itms.map Itm.ex).length = p := ⟨_, rfl⟩
          have HP := hid hp
          rw [hp] at HO
          have hpl : p + 1 ≤ 100000000 := by
            have h1 := HFL.out.2.2.2
            omega
          have HALL : Hid (s.all = L1 ++ s.itms.map Itm.ex ++ [s.whr]) := by unfold Hid St.all; rw [hL0, hL1]
          clear hb hxr hp hL0 hL1
          unfold Nd.cells at HEx HONE
          generalize hd : s.whr.d = d at *
          obtain ⟨op, tb, nm, ix, vk, vi, vt⟩ := d
          simp only at *
          clear hd
          go_wp2_with (at_builtin; refine wpList_append_own _ rfl (.tmp 44) (.tmp 47) 25 rfl W0.heap.size 35 i0 _ 8 104 Tryz.underlying25 hi hz0 hz1 hz2 rfl (by decide) _ p xs rfl (ownN_ext HO.out ((Ext.refl wr).alloc _)) ⟨_, 0, none⟩ 1 1 [.int .i64 op, .string tb, .string nm, .int .i64 ix, .int .i64 vk, .int .i64 vi, .string vt, .slice a.whr.A a.whr.n a.whr.c] rfl rfl (news_at _ _ _ _ (by simp)) HONE.out (by unfold maxLen; omega) (by omega) (by simp; have := HXr.out.size; omega) ?_; intro v1 w5 hown5 hgr5 _; have HO5 := hid hown5; have HG5 := hid hgr5; clear hown5 hgr5)
          go_ret
          have hx5 : Ext W0 w5 := (HXr.out.alloc _).grown HG5.out fun q hq => (HO.out.lt q hq).1
          have hlc5 : LC W0 s.all (xs ++ [.int .i64 op, .string tb, .string nm, .int .i64 ix, .int .i64 vk, .int .i64 vi, .string vt, .slice a.whr.A a.whr.n a.whr.c]) := by rw [HALL.out]; exact HLC.out.app (LC.one HEx.out)
          obtain ⟨A5, c5, rfl, hk5, hn5⟩ := own_kids HO5.out (hlc5.ext hx5)
          rw [hn5]
          exact ⟨A5, c5, rfl, hk5, HX0.out.trans hx5⟩
end Go.Proofs.YtcdnodjcnofogaaGreatDoor
