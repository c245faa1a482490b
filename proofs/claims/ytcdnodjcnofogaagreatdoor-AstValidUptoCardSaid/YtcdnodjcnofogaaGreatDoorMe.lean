/-
  Walks: the reference's texts of queries. · Walks: the reference's text of a statement. · The reference's test of a statement is the program's; no program in sight. · Walks: the reference's well-formed queries.
-/
import Derived.Test.YtcdnodjcnofogaaGreatDoorMd
import Derived.Deep.RegionHeldLaw
import Derived.Test.YtcdnodjcnofogaaGreatDoorMc
namespace Go.Proofs.YtcdnodjcnofogaaGreatDoor
open Go.RowKit
set_option linter.unusedVariables false
set_option linter.unusedSimpArgs false
set_option maxHeartbeats 4000000
set_option maxRecDepth 100000

/-- two rows of the call's own, apart -/
structure Two (w : World) (B : Nat) (v : Value) (n : Nat) (l : List ByteArray) (u : Value) (m : Nat) (l' : List ByteArray) : Prop where
  one : w.ownsRow B 9 1 v n (strV l)
  two : w.ownsRow B 9 1 u m (strV l')
  apart : ∀ q, v.ownBlock = some q → u.ownBlock ≠ some q
theorem Two.ext {w w' : World} {B n m : Nat} {v u : Value} {l l' : List ByteArray} (h : Two w B v n l u m l') (hx : Ext w w') : Two w' B v n l u m l' := ⟨ownN_ext h.one hx, ownN_ext h.two hx, h.apart⟩
theorem Two.symm {w : World} {B n m : Nat} {v u : Value} {l l' : List ByteArray} (h : Two w B v n l u m l') : Two w B u m l' v n l := ⟨h.two, h.one, fun q h1 h2 => h.apart q h2 h1⟩
theorem Two.step {w4 w5 : World} {B n m : Nat} {v u v5 : Value} {l l' : List ByteArray} {x : ByteArray} (h : Two w4 B v n l u m l') (hg : w4.grownBy w5 v.ownBlock) (hb : v5.ownBlock = v.ownBlock ∨ v5.ownBlock = some w4.heap.size)
    (ho : w5.ownsRow B 9 1 v5 (n + 1) (strV l ++ [.string x])) : Two w5 B v5 (n + 1) (l ++ [x]) u m l' := by
  refine ⟨by rw [strV_app]; exact ho, h.two.kept hg ?_, fun q h1 h2 => ?_⟩
  · cases hu : u.ownBlock with
    | none => exact .inl rfl
    | some q => exact .inr fun he => h.apart q he.symm hu
  · rcases hb with hb | hb
    · exact h.apart q (hb.symm.trans h1) h2
    · rw [hb] at h1
      have := Option.some.inj h1
      have := (h.two.lt q h2).2
      omega
theorem src_assoc {x : Src} (h : ¬ x.al.size = 0) : x.tx = x.tb ++ (⟨#[32, 65, 83, 32]⟩ ++ x.al) := by
  unfold Src.tx
  rw [if_neg h, ByteArray.append_assoc]
theorem rsel_any (s : St) (a : SA) (w : World) (hv : StV w s a) (hq : s.qOk = true) (hw : s.whr.absent = true ∨ s.whr.formed = true) (hF : s.Fits) (hb : s.bulk ≤ 1048576) :
    Calls Tryz.prog 99 #[s.val a] w fun r w' => r = .returned (.string s.sel) ∧ Ext w w' := by
  obtain ⟨i0, hi, hz0, hz1, hz2⟩ := info_parts info_str
  obtain ⟨hq1, hq2, hq3, hq4, hq5, hq6⟩ := q_parts hq
  have hsb := sum_bulk s hb
  have hlb := lens_bulk s hb
  have hn2 : a.frm.n ≤ 1048576 := by have := hv.frm.1; omega
  have hn3 : a.ord.n ≤ 1048576 := by have := hv.ord.1; omega
  have H1 := hid (fun W (hW : Ext w W) => ritems_any s.itms a.itms.A a.itms.n a.itms.c W hv.itms.1 (by have := hv.itms.1; omega) (hv.itms.2.2.ext hW) hq1 hF.itms (Nat.le_trans (sumS_map Itm.tx bkI 100 s.itms fun x hx => itm_size (List.all_eq_true.1 hq1 x hx)) (by omega)))
  have H3 := hid (fun W (hW : Ext w W) => rwhere_any s a W (hv.whr.ext hW) hw hF.whr)
  have H4 := hid (fun W (hW : Ext w W) => rexprs_any s.grp a.grp.A a.grp.n a.grp.c W hv.grp.1 (hv.grp.2.2.ext hW) hq3 hF.grp)
  have H6 := hid (fun W => rnum_any s.lim W (by omega) (by omega))
  have HZ2 : Hid (sumS (s.frm.map Src.tx) ≤ 1000000000) := Nat.le_trans (sumS_map Src.tx bkF 100 s.frm fun x hx => src_size x) (by omega)
  have HZ5 : Hid (sumS (s.ord.map Ord'.tx) ≤ 1000000000) := Nat.le_trans (sumS_map Ord'.tx bkO 100 s.ord fun x hx => ord_size (List.all_eq_true.1 hq4 x hx)) (by omega)
  have HQ2 := hid hq2
  have HQ4 := hid hq4
  have HFr := hid hv.frm
  have HOr := hid hv.ord
  have z1 := itT_size s hq1 hsb.2.2.2.2.2.1
  have z2 : (cma (s.frm.map Src.tx)).size ≤ 104857600 := Nat.le_trans (cma_size _) (Nat.le_trans (sumS_map Src.tx bkF 100 s.frm fun x hx => src_size x) (by omega))
  have z3 := whT_size s hw hF.whr
  have z4 : (exsT s.grp).size ≤ 100000 := Nat.le_trans (cma_size _) (Nat.le_trans (exs_size hq3) (by have := hF.grp; omega))
  have z5 : (cma (s.ord.map Ord'.tx)).size ≤ 104857600 := Nat.le_trans (cma_size _) (Nat.le_trans (sumS_map Ord'.tx bkO 100 s.ord fun x hx => ord_size (List.all_eq_true.1 hq4 x hx)) (by omega))
  have z6 := Nat.le_trans (itoB_size s.lim (by omega) (by omega)) (show 21 ≤ 1000 by omega)
  have D0 : Hid (s.sel0 = ⟨#[83, 69, 76, 69, 67, 84, 32]⟩ ++ s.itT ++ ⟨#[32, 70, 82, 79, 77, 32]⟩ ++ cma (s.frm.map Src.tx) ++ s.whT) := rfl
  have D1 : Hid (s.sel1 = if s.grp.length = 0 then s.sel0 else s.sel0 ++ (⟨#[32, 71, 82, 79, 85, 80, 32, 66, 89, 32]⟩ ++ exsT s.grp)) := rfl
  have D2 : Hid (s.sel2 = if s.ord.length = 0 then s.sel1 else s.sel1 ++ (⟨#[32, 79, 82, 68, 69, 82, 32, 66, 89, 32]⟩ ++ cma (s.ord.map Ord'.tx))) := rfl
  have D3 : Hid (s.sel = if 0 < s.lim then s.sel2 ++ (⟨#[32, 76, 73, 77, 73, 84, 32]⟩ ++ itoB s.lim) else s.sel2) := rfl
  have DI : Hid (s.itT = if s.itms.length = 0 then ⟨#[42]⟩ else cma (s.itms.map Itm.tx)) := rfl
  rw [← DI.out] at H1
  rw [hv.grp.1] at D1
  rw [hv.ord.1] at D2
  have y0 : s.sel0.size ≤ 300000000 := by
    rw [D0.out]; simp only [ByteArray.size_append]; show 7 + _ + 6 + _ + _ ≤ _; omega
  have y1 : s.sel1.size ≤ 300100100 := by
    rw [D1.out]; refine ite_size _ _ _ _ (by omega) ?_; simp only [ByteArray.size_append]; show _ + (10 + _) ≤ _; omega
  have y2 : s.sel2.size ≤ 500000000 := by
    rw [D2.out]; refine ite_size _ _ _ _ (by omega) ?_; simp only [ByteArray.size_append]; show _ + (10 + _) ≤ _; omega
  have HB := hid (Blk.of_new w 38 (s.cells a))
  have HX := hid ((Ext.refl w).alloc (.cells (s.cells a).toArray 38))
  clear hv hq hw hF hb hq1 hq2 hq3 hq4 hq5 hq6 hsb hlb DI
  unfold St.val at *
  unfold St.cells Sl.v at *
  generalize s.sel = O3 at *
  generalize s.sel2 = O2 at *
  generalize s.sel1 = O1 at *
  generalize s.sel0 = O0 at *
  generalize s.itT = TI at *
  generalize s.whT = TW at *
  generalize exsT s.grp = TG at *
  generalize itoB s.lim = TL at *
  go_enter Tryz.func99, Tryz.ntmps99
  go_upto_region 1 with fail
  generalize w.alloc (.cells _ 38) = w1 at *
  generalize w.heap.size = g at *
  go_wp2_with fail
  have HO1 := hid ((own_room w1 9 1 0 0 0 w1.heap.size #[] (Nat.le_refl _) rfl (by decide)).alloc (.cells #[] 9))
  have ho2 := own_room (w1.alloc (.cells #[] 9)) 9 1 0 0 0 w1.heap.size #[] (by simp) rfl (by decide)
  rw [show (w1.alloc (.cells #[] 9)).heap.size = w1.heap.size + 1 by simp] at ho2
  have HTW : Hid (Two ((w1.alloc (.cells #[] 9)).alloc (.cells #[] 9)) w1.heap.size (.slice (some ⟨w1.heap.size, 0, none⟩) 0 0) 0 [] (.slice (some ⟨w1.heap.size + 1, 0, none⟩) 0 0) 0 []) := ⟨HO1.out, ho2, fun q h1 h2 => by
    have h1 : some w1.heap.size = some q := h1
    have h2 : some (w1.heap.size + 1) = some q := h2
    have := h1.trans h2.symm
    have := Option.some.inj this
    omega⟩
  have HXW := hid (((Ext.refl w1).alloc (.cells #[] 9)).alloc (.cells #[] 9))
  have HB0 : Hid (w1.heap.size ≤ w1.heap.size) := Nat.le_refl _
  clear HO1 ho2
  generalize (w1.alloc (.cells #[] 9)).alloc (.cells #[] 9) = W2 at *
  obtain ⟨B0, hB0⟩ : ∃ B0, w1.heap.size = B0 := ⟨_, rfl⟩
  have HB00 := hid hB0
  rw [hB0] at HTW HB0 ⊢
  replace HB0 : Hid (w1.heap.size ≤ B0) := by unfold Hid; omega
  have HBS := HB0
  clear hB0
  go_loopw [3, 5] (fun nv iv wr => ∃ (k : Nat), k ≤ a.frm.n ∧ iv = .int .i64 k ∧ Two wr B0 nv k ((s.frm.take k).map Src.tx) (.slice (some ⟨B0 + 1, 0, none⟩) 0 0) 0 [] ∧ Ext w1 wr) (fun _ i _ => a.frm.n - (intOf i).toNat)
  case atStart => exact ⟨0, Nat.zero_le _, rfl, HTW.out, HXW.out⟩
  case round =>
    obtain ⟨k, hkn, rfl, htw, hxr⟩ := hrel
    have HTw := hid htw
    have HXr := hid hxr
    clear htw
    have cb := (HB.out.ext hxr).cell 9
    simp only [List.getElem?_cons_succ, List.getElem?_cons_zero] at cb
    by_cases hlt : k < a.frm.n
    · obtain ⟨x, hx⟩ := rat_lt HFr.out.1 hlt
      obtain ⟨hc, b, off, hA, q0, q1⟩ := (HFr.out.2.2.ext (HX.out.trans hxr)) k x hx
      rw [hA] at cb
      have hnm := src_nm (List.all_eq_true.1 HQ2.out x (List.mem_of_getElem? hx))
      have HT : Hid ((s.frm.take (k + 1)).map Src.tx = (s.frm.take k).map Src.tx ++ [x.tx]) := by unfold Hid; rw [takeA hx, List.map_append]; rfl
      clear hx hxr hA hc
      obtain ⟨n1, n2⟩ := hnm
      by_cases h0 : x.al.size = 0
      · have hT : x.tx = x.tb := by unfold Src.tx; rw [if_pos h0]
        rw [hT] at HT
        have hal := empty_yes h0
        rw [hal] at q1
        clear hT h0 hal n2
        generalize x.tb = tb at *
        go_wp2_with (at_builtin; refine wpList_append_any _ rfl (.tmp 41) (.tmp 43) 65 rfl B0 9 i0 _ 1 16 Tryz.underlying65 hi hz0 hz1 hz2 rfl (by decide) _ k _ rfl (HTw.out.one.alloc _) _ _ 1 1 [.string tb] rfl (reads_new1 wr _ _) (by simp [Value.oneCell']) (by unfold maxLen; omega) (by omega) (Nat.le_trans (Nat.le_of_eq HB00.out.symm) (Nat.le_trans (HXr.out).size (by simp))) ?_; intro v1 w5 hown5 hgr5 hblk5; have HO5 := hid hown5; have HG5 := hid hgr5; have HK5 := hid hblk5; clear hown5 hgr5 hblk5)
        go_roundw
        case rel =>
          have hge := own_atN HTw.out.one
          refine ⟨k + 1, by omega, by go_num, ?_, (HXr.out.alloc _).grown HG5.out fun q hq => Nat.le_trans HB0.out (hge q hq)⟩
          rw [HT.out]
          exact Two.step (HTw.out.ext ((Ext.refl _).alloc _)) HG5.out HK5.out HO5.out
        case measure => simp [intOf]; omega
      · have hT := src_assoc h0
        rw [hT] at HT
        have v1 := empty_no h0
        have v2 := empty_no2 h0
        clear hT h0
        generalize x.tb = tb at *
        generalize x.al = al at *
        go_wp2_with (at_builtin; generalize tb ++ (⟨#[32, 65, 83, 32]⟩ ++ al) = TB at *; refine wpList_append_any _ rfl (.tmp 41) (.tmp 43) 65 rfl B0 9 i0 _ 1 16 Tryz.underlying65 hi hz0 hz1 hz2 rfl (by decide) _ k _ rfl (HTw.out.one.alloc _) _ _ 1 1 [.string TB] rfl (reads_new1 wr _ _) (by simp [Value.oneCell']) (by unfold maxLen; omega) (by omega) (Nat.le_trans (Nat.le_of_eq HB00.out.symm) (Nat.le_trans (HXr.out).size (by simp))) ?_; intro v1 w5 hown5 hgr5 hblk5; have HO5 := hid hown5; have HG5 := hid hgr5; have HK5 := hid hblk5; clear hown5 hgr5 hblk5)
        go_roundw
        case rel =>
          have hge := own_atN HTw.out.one
          refine ⟨k + 1, by omega, by go_num, ?_, (HXr.out.alloc _).grown HG5.out fun q hq => Nat.le_trans HB0.out (hge q hq)⟩
          rw [HT.out]
          exact Two.step (HTw.out.ext ((Ext.refl _).alloc _)) HG5.out HK5.out HO5.out
        case measure => simp [intOf]; omega
    · obtain rfl : k = a.frm.n := by omega
      rw [List.take_of_length_le (Nat.le_of_eq HFr.out.1)] at HTw
      go_wp2_with fail
      have HTp := hid HTw.out.symm
      have HXp := HXr
      clear cb hxr HTw HXr HTW HXW
      go_loopw [4, 7] (fun nv iv wr => ∃ (k : Nat), k ≤ a.ord.n ∧ iv = .int .i64 k ∧ Two wr B0 nv k ((s.ord.take k).map Ord'.tx) u3 a.frm.n (s.frm.map Src.tx) ∧ Ext w1 wr) (fun _ i _ => a.ord.n - (intOf i).toNat)
      case atStart => exact ⟨0, Nat.zero_le _, rfl, HTp.out, HXp.out⟩
      case round =>
        obtain ⟨k, hkn, rfl, htw, hxr⟩ := hrel
        have HTw := hid htw
        have HXr := hid hxr
        clear htw
        have cb := (HB.out.ext hxr).cell 19
        simp only [List.getElem?_cons_succ, List.getElem?_cons_zero] at cb
        by_cases hlt : k < a.ord.n
        · obtain ⟨x, hx⟩ := rat_lt HOr.out.1 hlt
          obtain ⟨hc, b, off, hA, q0, q1⟩ := (HOr.out.2.2.ext (HX.out.trans hxr)) k x hx
          rw [hA] at cb
          have hok := List.all_eq_true.1 HQ4.out x (List.mem_of_getElem? hx)
          unfold Ord'.ok at hok
          rw [inB_iff] at hok
          have HT : Hid ((s.ord.take (k + 1)).map Ord'.tx = (s.ord.take k).map Ord'.tx ++ [x.tx]) := by unfold Hid; rw [takeA hx, List.map_append]; rfl
          have HN := hid (rnum_any x.it wr (by omega) (by omega))
          have hzn := Nat.le_trans (itoB_size x.it (by omega) (by omega)) (show 21 ≤ 1000 by omega)
          have HTx : Hid (x.tx = if x.ds = true then itoB x.it ++ ⟨#[32, 68, 69, 83, 67]⟩ else itoB x.it) := rfl
          have HQ : Hid (∀ W, Ext wr W → W.cell? ⟨g, 19, none⟩ = some (.slice (some ⟨b, off, none⟩) a.ord.n a.ord.c) ∧ W.cell? ⟨b, off + k * 2 + 1, none⟩ = some (.bool x.ds)) := fun W hW => ⟨hW.keep cb, hW.keep q1⟩
          clear hx hxr hA hc hok q1
          generalize Ord'.tx x = TX at *
          generalize itoB x.it = TN at *
          obtain ⟨it, ds⟩ := x
          simp only at *
          cases ds
          · have hT := HTx.out
            simp only [Bool.false_eq_true, if_false] at hT
            rw [hT] at HT
            clear hT HTx
            go_wp2_with (first | (go_at_call 108; (with_reducible refine HN.out.mono ?_); rintro _ w2 ⟨rfl, hx2⟩; obtain ⟨e0, e1⟩ := HQ.out _ hx2) | (at_builtin; refine wpList_append_any _ rfl (.tmp 67) (.tmp 69) 65 rfl B0 9 i0 _ 1 16 Tryz.underlying65 hi hz0 hz1 hz2 rfl (by decide) _ k _ rfl ((ownN_ext HTw.out.one hx2).alloc _) _ _ 1 1 [.string TN] rfl (reads_new1 w2 _ _) (by simp [Value.oneCell']) (by unfold maxLen; omega) (by omega) (Nat.le_trans (Nat.le_of_eq HB00.out.symm) (Nat.le_trans (HXr.out.trans hx2).size (by simp))) ?_; intro v1 w5 hown5 hgr5 hblk5; have HO5 := hid hown5; have HG5 := hid hgr5; have HK5 := hid hblk5; clear hown5 hgr5 hblk5))
            go_roundw
            case rel =>
              have hge := own_atN HTw.out.one
              refine ⟨k + 1, by omega, by go_num, ?_, ((HXr.out.trans hx2).alloc _).grown HG5.out fun q hq => Nat.le_trans HB0.out (hge q hq)⟩
              rw [HT.out]
              exact Two.step (HTw.out.ext (hx2.alloc _)) HG5.out HK5.out HO5.out
            case measure => simp [intOf]; omega
          · have hT := HTx.out
            simp only [if_true] at hT
            rw [hT] at HT
            clear hT HTx
            go_wp2_with (first | (go_at_call 108; (with_reducible refine HN.out.mono ?_); rintro _ w2 ⟨rfl, hx2⟩; obtain ⟨e0, e1⟩ := HQ.out _ hx2) | (at_builtin; generalize TN ++ ⟨#[32, 68, 69, 83, 67]⟩ = TB at *; refine wpList_append_any _ rfl (.tmp 67) (.tmp 69) 65 rfl B0 9 i0 _ 1 16 Tryz.underlying65 hi hz0 hz1 hz2 rfl (by decide) _ k _ rfl ((ownN_ext HTw.out.one hx2).alloc _) _ _ 1 1 [.string TB] rfl (reads_new1 w2 _ _) (by simp [Value.oneCell']) (by unfold maxLen; omega) (by omega) (Nat.le_trans (Nat.le_of_eq HB00.out.symm) (Nat.le_trans (HXr.out.trans hx2).size (by simp))) ?_; intro v1 w5 hown5 hgr5 hblk5; have HO5 := hid hown5; have HG5 := hid hgr5; have HK5 := hid hblk5; clear hown5 hgr5 hblk5))
            go_roundw
            case rel =>
              have hge := own_atN HTw.out.one
              refine ⟨k + 1, by omega, by go_num, ?_, ((HXr.out.trans hx2).alloc _).grown HG5.out fun q hq => Nat.le_trans HB0.out (hge q hq)⟩
              rw [HT.out]
              exact Two.step (HTw.out.ext (hx2.alloc _)) HG5.out HK5.out HO5.out
            case measure => simp [intOf]; omega
        · obtain rfl : k = a.ord.n := by omega
          rw [List.take_of_length_le (Nat.le_of_eq HOr.out.1)] at HTw
          clear HFr HOr HQ2 HQ4 HTp HXp
          obtain ⟨oA, oc, hov, _, _⟩ := own_strs HTw.out.one fun x hx => by have := sumS_mem hx; have := HZ5.out; omega
          subst hov
          go_upto_region 16 with fail
          replace HB := hid (HB.out.ext HXr.out)
          have HXa := hid (HX.out.trans HXr.out)
          have HC2 := hid (fun W (hW : Ext wr W) => rcomma_own _ _ _ _ W (ownN_ext HTw.out.two hW) HZ2.out)
          have HC5 := hid (fun W (hW : Ext wr W) => rcomma_own _ _ _ _ W (ownN_ext HTw.out.one hW) HZ5.out)
          clear cb hxr HXr HTw HZ2 HZ5
          generalize cma (s.frm.map Src.tx) = TS at *
          generalize cma (s.ord.map Ord'.tx) = TO at *
          have K1 : Hid (∀ z : Later wr, Calls Tryz.prog 150 _ z.now _) := fun z => H1.out z.now (HXa.out.trans z.ext)
          have K2 : Hid (∀ z : Later wr, Calls Tryz.prog 97 _ z.now _) := fun z => HC2.out z.now z.ext
          have K3 : Hid (∀ z : Later wr, Calls Tryz.prog 98 _ z.now _) := fun z => H3.out z.now (HXa.out.trans z.ext)
          have l8 := Later.keep (HB.out.cell_some (i := 8) rfl)
          refine wp_region_later (by kernel_rfl) (by kernel_rfl) ?_
          repeat (first | (refine quiet_load_blk rfl 38 (.tmp 1) rfl g rfl 38 _ _ (later_blk HB.out) Tryz.underlying38 rfl (by kernel_rfl) ?_; go_simp) | go_big_quiet_step (first | (go_at_call 150; with_reducible exact later_of (K1.out _)) | (go_at_call 97; with_reducible exact later_of (K2.out _)) | (go_at_call 98; with_reducible exact later_of (K3.out _))))
          refine wpQuiet_nil ?_
          first | (intro wb hw9; have hx9 := later_out hw9; clear hw9) | (intro xb; have hx9 := xb.ext; generalize xb.now = wb at *; clear xb)
          have hD0 := D0.out
          generalize ⟨#[83, 69, 76, 69, 67, 84, 32]⟩ ++ TI ++ ⟨#[32, 70, 82, 79, 77, 32]⟩ ++ TS ++ TW = TX at *
          subst hD0
          replace HB := hid (HB.out.ext hx9)
          have HXb := hid (HXa.out.trans hx9)
          have HXq := hid hx9
          clear hx9 K2 K3 K1 H1 H3 HC2 l8 D0
          have p18 := (HB.out).cell 18
          simp only [List.getElem?_cons_succ, List.getElem?_cons_zero] at p18
          go_upto_if 85 with fail
          go_cut [9] from 82 to 91 (fun ov wx => ov = .string O1 ∧ Ext wb wx)
          case first =>
            by_cases hn : 0 < a.grp.n
            · have hT := D1.out
              rw [if_neg (by omega)] at hT
              go_wp2_with (go_at_call 96; (with_reducible refine (H4.out _ HXb.out).mono ?_); rintro _ w2 ⟨rfl, hx2⟩)
              go_meet
              exact ⟨by rw [hT], hx2⟩
            · have hT := D1.out
              rw [if_pos (by omega)] at hT
              subst hT
              go_wp2_with fail
              go_meet
              exact ⟨rfl, Ext.refl _⟩
          case rest =>
            obtain ⟨rfl, hxN⟩ := hcut
            generalize wc = wd at *
            have HXd := hid (HXb.out.trans hxN)
            replace HXq := hid (HXq.out.trans hxN)
            replace HB := hid (HB.out.ext hxN)
            clear hxN H4 D1 p18 y0
            go_upto_if 94 with fail
            go_cut [9] from 92 to 99 (fun ov wx => ov = .string O2 ∧ Ext wd wx)
            case first =>
              by_cases hn : 0 < a.ord.n
              · have hT := D2.out
                rw [if_neg (by omega)] at hT
                go_wp2_with (go_at_call 97; (with_reducible refine (HC5.out _ HXq.out).mono ?_); rintro _ w2 ⟨rfl, hx2⟩)
                go_meet
                exact ⟨by rw [hT], hx2⟩
              · have hT := D2.out
                rw [if_pos (by omega)] at hT
                subst hT
                go_wp2_with fail
                go_meet
                exact ⟨rfl, Ext.refl _⟩
            case rest =>
              obtain ⟨rfl, hxN⟩ := hcut
              generalize wc = we at *
              have HXe := hid (HXd.out.trans hxN)
              replace HB := hid (HB.out.ext hxN)
              clear hxN HC5 D2 y1 HXq
              have p20 := (HB.out).cell 20
              simp only [List.getElem?_cons_succ, List.getElem?_cons_zero] at p20
              have hT := D3.out
              by_cases hn : 0 < s.lim
              · rw [if_pos hn] at hT
                have hd : decide (0 < s.lim) = true := by simpa using hn
                clear hn
                go_wp2_with (go_at_call 108; (with_reducible refine (H6.out _).mono ?_); rintro _ w2 ⟨rfl, hx2⟩)
                go_ret
                exact ⟨ret_str hT.symm, HXe.out.trans hx2⟩
              · rw [if_neg hn] at hT
                have hd : decide (0 < s.lim) = false := by simpa using hn
                clear hn
                subst hT
                go_wp2_with fail
                go_ret
                exact ⟨rfl, HXe.out⟩
end Go.Proofs.YtcdnodjcnofogaaGreatDoor
namespace Go.Proofs.YtcdnodjcnofogaaGreatDoor
open Go.RowKit
set_option linter.unusedVariables false
set_option linter.unusedSimpArgs false
set_option maxHeartbeats 4000000
set_option maxRecDepth 100000

theorem rbody_any (s : St) (a : SA) (w : World) (hv : StV w s a) (hf : s.formed = true) (hF : s.Fits) (hb : s.bulk ≤ 1048576) :
    Calls Tryz.prog 46 #[s.val a] w fun r w' => r = .returned (.string s.body) ∧ Ext w w' := by
  obtain ⟨i0, hi, hz0, hz1, hz2⟩ := info_parts info_str
  have hkk := formed_kind hf
  have hsb := sum_bulk s hb
  have hlb := lens_bulk s hb
  have HB := hid (Blk.of_new w 38 (s.cells a))
  have HX := hid ((Ext.refl w).alloc (.cells (s.cells a).toArray 38))
  have z1 : s.tb.size ≤ 1048576 := hsb.1
  have z2 : s.nm.size ≤ 1048576 := hsb.2.1
  have z3 := whT_size s (whr_of hf) hF.whr
  have HW := hid (fun W (hW : Ext w W) => rwhere_any s a W (hv.whr.ext hW) (whr_of hf) hF.whr)
  have hkd : s.kd = 1 ∨ s.kd = 2 ∨ s.kd = 3 ∨ s.kd = 4 ∨ s.kd = 5 ∨ s.kd = 6 ∨ s.kd = 7 ∨ s.kd = 8 ∨ s.kd = 9 ∨ s.kd = 10 ∨ s.kd = 11 := by have := hkk.1; omega
  have hkd2 := hkd
  rcases hkd2 with hk | hk | hk | hk | hk | hk | hk | hk | hk | hk | hk
  · have hT : s.body = ⟨#[67, 82, 69, 65, 84, 69, 32, 84, 65, 66, 76, 69, 32]⟩ ++ s.tb ++ ⟨#[32, 40]⟩ ++ cma s.elts ++ ⟨#[41]⟩ := by unfold St.body; simp [hk]
    rw [hT]
    have hd := hkk.2.1 hk
    have hes := Nat.le_trans (elts_size hd) (show _ ≤ 104857600 by omega)
    have z4 : (cma s.elts).size ≤ 104857600 := Nat.le_trans (cma_size _) hes
    have HE := hid (fun W (hW : Ext w W) => relements_any s a W (hv.ext hW) hd hlb.1 (by omega) hF.chk)
    clear hd hes HW
    generalize cma s.elts = TE at *
    have e1 : (s.kd == 1) = true := by simp [hk]
    have e2 : (s.kd == 2) = false := by simp [hk]
    have e3 : (s.kd == 3) = false := by simp [hk]
    have e4 : (s.kd == 4) = false := by simp [hk]
    have e5 : (s.kd == 5) = false := by simp [hk]
    have e6 : (s.kd == 6) = false := by simp [hk]
    have e7 : (s.kd == 7) = false := by simp [hk]
    have e8 : (s.kd == 8) = false := by simp [hk]
    have e9 : (s.kd == 9) = false := by simp [hk]
    have e10 : (s.kd == 10) = false := by simp [hk]
    clear hv hk hf hF hb hkk hsb hlb hT hkd
    unfold St.val at *
    unfold St.cells Sl.v at *
    go_enter Tryz.func46, Tryz.ntmps46
    go_upto_region 1 with fail
    generalize w.alloc (.cells _ 38) = w0 at *
    generalize w.heap.size = g at *
    have HO0 := hid (own_room w0 9 1 0 0 0 w0.heap.size #[] (Nat.le_refl _) rfl (by decide))
    replace HB := hid (HB.out.ext ((Ext.refl w0).alloc (.cells #[] 9)))
    have HX1 := hid ((Ext.refl w0).alloc (.cells #[] 9))
    replace HX := hid (HX.out.trans HX1.out)
    go_upto_region 2 with fail
    obtain ⟨B0, hB0⟩ : ∃ B0, w0.heap.size = B0 := ⟨_, rfl⟩
    rw [hB0] at HO0 ⊢
    have HBS : Hid (B0 ≤ (w0.alloc (.cells #[] 9)).heap.size) := by unfold Hid; rw [← hB0]; simp
    clear hB0 HX1
    generalize w0.alloc (.cells #[] 9) = w1 at *
    have p0 := (HB.out).cell 0
    have p21 := (HB.out).cell 21
    simp only [List.getElem?_cons_succ, List.getElem?_cons_zero] at p0 p21
    go_wp2_with fail
    have K1 : Hid (∀ z : Later w1, Calls Tryz.prog 95 _ z.now _) := fun z => HE.out z.now (HX.out.trans z.ext)
    have l1 := Later.keep (HB.out.cell_some (i := 1) rfl)
    have l2 := Later.keep (HB.out.cell_some (i := 2) rfl)
    have l3 := Later.keep (HB.out.cell_some (i := 3) rfl)
    have l4 := Later.keep (HB.out.cell_some (i := 4) rfl)
    have l5 := Later.keep (HB.out.cell_some (i := 5) rfl)
    refine wp_region_later (by kernel_rfl) (by kernel_rfl) ?_
    repeat (first | (refine quiet_load_blk rfl 38 (.tmp 1) rfl g rfl 38 _ _ (later_blk HB.out) Tryz.underlying38 rfl (by kernel_rfl) ?_; go_simp) | go_big_quiet_step (first | (go_at_call 95; with_reducible exact later_of (K1.out _))))
    refine wpQuiet_nil ?_
    first | (intro wb hw9; have hx9 := later_out hw9; clear hw9) | (intro xb; have hx9 := xb.ext; generalize xb.now = wb at *; clear xb)
    go_wp2_with fail
    go_ret
    exact ⟨rfl, HX.out.trans hx9⟩
  · have hT : s.body = ⟨#[73, 78, 83, 69, 82, 84, 32, 73, 78, 84, 79, 32]⟩ ++ s.tb ++ ⟨#[32, 86, 65, 76, 85, 69, 83, 32]⟩ ++ cma (s.vals.map rowT) := by unfold St.body; simp [hk]
    rw [hT]
    have hv2 := hkk.2.2.2.1 hk
    have hrs : ∀ x ∈ s.vals, x.all Ex.formed = true := fun x hx => by have := List.all_eq_true.1 hv2 x hx; unfold rowOk at this; simp only [Bool.and_eq_true] at this; exact this.2
    have hes := Nat.le_trans (sumS_map rowT bkR 100 s.vals fun x hx => row_size (hrs x hx)) (show _ ≤ 104857600 by omega)
    have z4 : (cma (s.vals.map rowT)).size ≤ 104857600 := Nat.le_trans (cma_size _) hes
    have HV := hid hv.vals
    have HRs := hid hrs
    have HFv := hid hF.vals
    have hnv : a.vals.n ≤ 1048576 := by have := hv.vals.1; omega
    have HZ : Hid (sumS (s.vals.map rowT) ≤ 1000000000) := by unfold Hid; omega
    clear hv2 hrs hes HW
    obtain ⟨TE, hTE⟩ : ∃ TE, cma (s.vals.map rowT) = TE := ⟨_, rfl⟩
    rw [hTE] at z4 ⊢
    have HTE := hid hTE
    clear hTE
    have e1 : (s.kd == 1) = false := by simp [hk]
    have e2 : (s.kd == 2) = true := by simp [hk]
    have e3 : (s.kd == 3) = false := by simp [hk]
    have e4 : (s.kd == 4) = false := by simp [hk]
    have e5 : (s.kd == 5) = false := by simp [hk]
    have e6 : (s.kd == 6) = false := by simp [hk]
    have e7 : (s.kd == 7) = false := by simp [hk]
    have e8 : (s.kd == 8) = false := by simp [hk]
    have e9 : (s.kd == 9) = false := by simp [hk]
    have e10 : (s.kd == 10) = false := by simp [hk]
    clear hv hk hf hF hb hkk hsb hlb hT hkd
    unfold St.val at *
    unfold St.cells Sl.v at *
    go_enter Tryz.func46, Tryz.ntmps46
    go_upto_region 1 with fail
    generalize w.alloc (.cells _ 38) = w0 at *
    generalize w.heap.size = g at *
    have HO0 := hid (own_room w0 9 1 0 0 0 w0.heap.size #[] (Nat.le_refl _) rfl (by decide))
    have HX0 := hid ((Ext.refl w0).alloc (.cells #[] 9))
    go_upto_region 2 with fail
    obtain ⟨B0, hB0⟩ : ∃ B0, w0.heap.size = B0 := ⟨_, rfl⟩
    rw [hB0] at HO0 ⊢
    have HBS : Hid (B0 ≤ w0.heap.size) := by unfold Hid; omega
    have HB1 : Hid (w0.heap.size ≤ B0) := by unfold Hid; omega
    clear hB0
    generalize w0.alloc (.cells #[] 9) = w1 at *
    have p0 := (HB.out.ext HX0.out).cell 0
    simp only [List.getElem?_cons_succ, List.getElem?_cons_zero] at p0
    go_wp2_with fail
    clear p0
    go_loopw [3, 4] (fun nv iv wr => ∃ (k : Nat), k ≤ a.vals.n ∧ iv = .int .i64 k ∧ wr.ownsRow B0 9 1 nv k (strV ((s.vals.take k).map rowT)) ∧ Ext w0 wr) (fun _ i _ => a.vals.n - (intOf i).toNat)
    case atStart => exact ⟨0, Nat.zero_le _, rfl, HO0.out, HX0.out⟩
    case round =>
      obtain ⟨k, hkn, rfl, hown, hxr⟩ := hrel
      have HO := hid hown
      have HXr := hid hxr
      clear hown
      have cb := ((HB.out).ext hxr).cell 6
      simp only [List.getElem?_cons_succ, List.getElem?_cons_zero] at cb
      by_cases hlt : k < a.vals.n
      · obtain ⟨x, hx⟩ := rat_lt HV.out.1 hlt
        obtain ⟨b, off, Ai, ni, ci, hA, q0, h1, h2⟩ := (HV.out.2.2.ext (HX.out.trans hxr)) k x hx
        rw [hA] at cb
        have HT : Hid ((s.vals.take (k + 1)).map rowT = (s.vals.take k).map rowT ++ [rowT x]) := by unfold Hid; rw [takeA hx, List.map_append]; rfl
        have hfx := HRs.out x (List.mem_of_getElem? hx)
        have hsx := HFv.out x (List.mem_of_getElem? hx)
        have HE := hid (rexprs_any x Ai ni ci wr h1 h2 hfx hsx)
        have hzx : (exsT x).size ≤ 100000 := Nat.le_trans (cma_size _) (Nat.le_trans (exs_size hfx) (by omega))
        have hTx : rowT x = ⟨#[40]⟩ ++ exsT x ++ ⟨#[41]⟩ := rfl
        rw [hTx] at HT
        clear hx hxr hA h1 h2 hfx hsx hTx
        generalize exsT x = T1 at *
        go_wp2_with (first | (go_at_call 96; (with_reducible refine HE.out.mono ?_); rintro _ w2 ⟨rfl, hx2⟩) | (at_builtin; generalize ⟨#[40]⟩ ++ T1 ++ ⟨#[41]⟩ = TB at *; refine wpList_append_any _ rfl (.tmp 29) (.tmp 38) 65 rfl B0 9 i0 _ 1 16 Tryz.underlying65 hi hz0 hz1 hz2 rfl (by decide) _ k _ rfl ((ownN_ext HO.out hx2).alloc _) _ _ 1 1 [.string TB] rfl (reads_new1 w2 _ _) (by simp [Value.oneCell']) (by unfold maxLen; omega) (by omega) (Nat.le_trans HBS.out (Nat.le_trans (HXr.out.trans hx2).size (by simp))) ?_; intro v1 w5 hown5 hgr5 hblk5; have HO5 := hid hown5; have HG5 := hid hgr5; clear hown5 hgr5 hblk5))
        go_roundw
        case rel =>
          have hge := own_atN HO.out
          refine ⟨k + 1, by omega, by go_num, ?_, ((HXr.out.trans hx2).alloc _).grown HG5.out fun q hq => Nat.le_trans HB1.out (hge q hq)⟩
          rw [HT.out, strV_app]
          exact HO5.out
        case measure => simp [intOf]; omega
      · obtain rfl : k = a.vals.n := by omega
        rw [List.take_of_length_le (Nat.le_of_eq HV.out.1)] at HO
        go_wp2_with fail
        replace HB := hid (HB.out.ext HXr.out)
        have HC := hid (fun W (hW : Ext wr W) => rcomma_own _ _ _ _ W (ownN_ext HO.out hW) HZ.out)
        clear cb hxr HV HRs HFv HZ HO
        rw [HTE.out] at HC
        have K1 : Hid (∀ z : Later wr, Calls Tryz.prog 97 _ z.now _) := fun z => HC.out z.now z.ext
        have l1 := Later.keep (HB.out.cell_some (i := 1) rfl)
        refine wp_region_later (by kernel_rfl) (by kernel_rfl) ?_
        repeat (first | (refine quiet_load_blk rfl 38 (.tmp 1) rfl g rfl 38 _ _ (later_blk HB.out) Tryz.underlying38 rfl (by kernel_rfl) ?_; go_simp) | go_big_quiet_step (first | (go_at_call 97; with_reducible exact later_of (K1.out _))))
        refine wpQuiet_nil ?_
        first | (intro wb hw9; have hx9 := later_out hw9; clear hw9) | (intro xb; have hx9 := xb.ext; generalize xb.now = wb at *; clear xb)
        go_wp2_with fail
        go_ret
        exact ⟨rfl, HX.out.trans (HXr.out.trans hx9)⟩
  · have hT : s.body = ⟨#[85, 80, 68, 65, 84, 69, 32]⟩ ++ s.tb ++ ⟨#[32, 83, 69, 84, 32]⟩ ++ cma (s.sets.map Asg.tx) ++ s.whT := by unfold St.body; simp [hk]
    rw [hT]
    have hv2 := hkk.2.2.2.2.2.1 hk
    have hes := Nat.le_trans (sumS_map Asg.tx bkA 100 s.sets fun x hx => asg_size (List.all_eq_true.1 hv2 x hx)) (show _ ≤ 104857600 by omega)
    have z4 : (cma (s.sets.map Asg.tx)).size ≤ 104857600 := Nat.le_trans (cma_size _) hes
    have HV := hid hv.sets
    have HRs := hid hv2
    have HFv := hid hF.sets
    have hnv : a.sets.n ≤ 1048576 := by have := hv.sets.1; omega
    have HZ : Hid (sumS (s.sets.map Asg.tx) ≤ 1000000000) := by unfold Hid; omega
    clear hv2 hes
    generalize s.whT = TW at *
    obtain ⟨TE, hTE⟩ : ∃ TE, cma (s.sets.map Asg.tx) = TE := ⟨_, rfl⟩
    rw [hTE] at z4 ⊢
    have HTE := hid hTE
    clear hTE
    have e1 : (s.kd == 1) = false := by simp [hk]
    have e2 : (s.kd == 2) = false := by simp [hk]
    have e3 : (s.kd == 3) = true := by simp [hk]
    have e4 : (s.kd == 4) = false := by simp [hk]
    have e5 : (s.kd == 5) = false := by simp [hk]
    have e6 : (s.kd == 6) = false := by simp [hk]
    have e7 : (s.kd == 7) = false := by simp [hk]
    have e8 : (s.kd == 8) = false := by simp [hk]
    have e9 : (s.kd == 9) = false := by simp [hk]
    have e10 : (s.kd == 10) = false := by simp [hk]
    clear hv hk hf hF hb hkk hsb hlb hT hkd
    unfold St.val at *
    unfold St.cells Sl.v at *
    go_enter Tryz.func46, Tryz.ntmps46
    go_upto_region 1 with fail
    generalize w.alloc (.cells _ 38) = w0 at *
    generalize w.heap.size = g at *
    have HO0 := hid (own_room w0 9 1 0 0 0 w0.heap.size #[] (Nat.le_refl _) rfl (by decide))
    have HX0 := hid ((Ext.refl w0).alloc (.cells #[] 9))
    go_upto_region 2 with fail
    obtain ⟨B0, hB0⟩ : ∃ B0, w0.heap.size = B0 := ⟨_, rfl⟩
    rw [hB0] at HO0 ⊢
    have HBS : Hid (B0 ≤ w0.heap.size) := by unfold Hid; omega
    have HB1 : Hid (w0.heap.size ≤ B0) := by unfold Hid; omega
    clear hB0
    generalize w0.alloc (.cells #[] 9) = w1 at *
    have p0 := (HB.out.ext HX0.out).cell 0
    simp only [List.getElem?_cons_succ, List.getElem?_cons_zero] at p0
    go_wp2_with fail
    clear p0
    go_loopw [3, 5] (fun nv iv wr => ∃ (k : Nat), k ≤ a.sets.n ∧ iv = .int .i64 k ∧ wr.ownsRow B0 9 1 nv k (strV ((s.sets.take k).map Asg.tx)) ∧ Ext w0 wr) (fun _ i _ => a.sets.n - (intOf i).toNat)
    case atStart => exact ⟨0, Nat.zero_le _, rfl, HO0.out, HX0.out⟩
    case round =>
      obtain ⟨k, hkn, rfl, hown, hxr⟩ := hrel
      have HO := hid hown
      have HXr := hid hxr
      clear hown
      have cb := ((HB.out).ext hxr).cell 7
      simp only [List.getElem?_cons_succ, List.getElem?_cons_zero] at cb
      by_cases hlt : k < a.sets.n
      · obtain ⟨x, hx⟩ := rat_lt HV.out.1 hlt
        have hk2 := HV.out.2.2.ext HX.out
        have cb0 := HB.out.cell 7
        simp only [List.getElem?_cons_succ, List.getElem?_cons_zero] at cb0
        obtain ⟨b, off, Ai, ni, ci, hA, q0, q1, q2, q3, q4, q5, q6, q7, q8, q9, h1⟩ := asg_get hk2 hx
        rw [hA] at cb cb0
        have HT : Hid ((s.sets.take (k + 1)).map Asg.tx = (s.sets.take k).map Asg.tx ++ [x.tx]) := by unfold Hid; rw [takeA hx, List.map_append]; rfl
        have hnm := asg_nm (List.all_eq_true.1 HRs.out x (List.mem_of_getElem? hx))
        have HE := hid (fun W (hW : Ext w0 W) => rprint_any x.ex 1 Ai ni ci W (h1.ext hW) hnm.2 (HFv.out x (List.mem_of_getElem? hx)))
        have hzx : (x.ex.tx 1).size ≤ 100000 := by have := tx_size x.ex 1 hnm.2; have := HFv.out x (List.mem_of_getElem? hx); omega
        have hTx : x.tx = x.cl ++ ⟨#[32, 61, 32]⟩ ++ x.ex.tx 1 := rfl
        rw [hTx] at HT
        have hcl := hnm.1
        clear hx hA h1 hnm hTx hk2 q1
        unfold Nd.val at HE
        generalize x.ex.tx 1 = T1 at *
        generalize x.ex.d = d at *
        generalize x.cl = cl at *
        obtain ⟨op, tb, nm, ix, vk, vi, vt⟩ := d
        simp only at *
        have i0' : (0 : Int) ≤ (k : Int) := by omega
        have i1' : (k : Int) < (a.sets.n : Int) := by omega
        have HS0 : Hid (∀ W, Ext w0 W → W.cell? ⟨g, 7, none⟩ = some (.slice (some ⟨b, off, none⟩) a.sets.n a.sets.c) ∧ W.cell? ⟨b, off + k * 10, none⟩ = some (.string cl) ∧ W.cell? ⟨b, off + k * 10 + 2, none⟩ = some (.int .i64 op) ∧ W.cell? ⟨b, off + k * 10 + 3, none⟩ = some (.string tb) ∧ W.cell? ⟨b, off + k * 10 + 4, none⟩ = some (.string nm) ∧ W.cell? ⟨b, off + k * 10 + 5, none⟩ = some (.int .i64 ix) ∧ W.cell? ⟨b, off + k * 10 + 6, none⟩ = some (.int .i64 vk) ∧ W.cell? ⟨b, off + k * 10 + 7, none⟩ = some (.int .i64 vi) ∧ W.cell? ⟨b, off + k * 10 + 8, none⟩ = some (.string vt) ∧ W.cell? ⟨b, off + k * 10 + 9, none⟩ = some (.slice Ai ni ci)) := fun W hW => ⟨hW.keep cb0, hW.keep q0, hW.keep q2, hW.keep q3, hW.keep q4, hW.keep q5, hW.keep q6, hW.keep q7, hW.keep q8, hW.keep q9⟩
        obtain ⟨d7, d0, d2, d3, d4, d5, d6, d7b, d8, d9⟩ := HS0.out _ hxr
        clear hxr q0 q2 q3 q4 q5 q6 q7 q8 q9 cb0
        go_wp2_with fail
        go_region_held_law (fun w' => w'.cell? ⟨g, 7, none⟩ = some (.slice (some ⟨b, off, none⟩) a.sets.n a.sets.c) ∧ w'.cell? ⟨b, off + k * 10, none⟩ = some (.string cl) ∧ w'.cell? ⟨b, off + k * 10 + 2, none⟩ = some (.int .i64 op) ∧ w'.cell? ⟨b, off + k * 10 + 3, none⟩ = some (.string tb) ∧ w'.cell? ⟨b, off + k * 10 + 4, none⟩ = some (.string nm) ∧ w'.cell? ⟨b, off + k * 10 + 5, none⟩ = some (.int .i64 ix) ∧ w'.cell? ⟨b, off + k * 10 + 6, none⟩ = some (.int .i64 vk) ∧ w'.cell? ⟨b, off + k * 10 + 7, none⟩ = some (.int .i64 vi) ∧ w'.cell? ⟨b, off + k * 10 + 8, none⟩ = some (.string vt) ∧ w'.cell? ⟨b, off + k * 10 + 9, none⟩ = some (.slice Ai ni ci))
          (first | go_keep | exact HS0.out _ HXr.out.drew | exact HS0.out _ HXr.out | exact HS0.out _ (HXr.out.trans hx2) | exact HS0.out _ ((HXr.out.trans hx2).alloc _) | exact HS0.out _ (((HXr.out.trans hx2).alloc _).grown hgr5 fun q hq => Nat.le_trans HB1.out (own_atN HO.out q hq)))
          (first
            | (go_at_call 50; (with_reducible refine (HE.out _ HXr.out.drew).mono ?_); rintro _ w2 ⟨rfl, hx2⟩; replace hx2 : Ext wr w2 := (Ext.refl wr).drew.trans hx2)
            | (generalize cl ++ ⟨#[32, 61, 32]⟩ ++ T1 = TB at *; refine step_append_any _ rfl (.tmp 56) (.tmp 72) 65 rfl B0 9 i0 _ 1 16 Tryz.underlying65 hi hz0 hz1 hz2 rfl (by decide) _ k _ rfl ((ownN_ext HO.out hx2).alloc _) _ _ 1 1 [.string TB] rfl (reads_new1 w2 _ _) (by simp [Value.oneCell']) (by unfold maxLen; omega) (by omega) (Nat.le_trans HBS.out (Nat.le_trans (HXr.out.trans hx2).size (by simp))) ?_; intro v1 w5 hown5 hgr5 hblk5))
        all_goals
          have HO5 := hid hown5
          have HG5 := hid hgr5
          rename_i hHeld
          clear hHeld hown5 hgr5 hblk5 d7 d0 d2 d3 d4 d5 d6 d7b d8 d9
          go_wp2_with fail
          go_roundw
          case rel =>
            have hge := own_atN HO.out
            refine ⟨k + 1, by omega, by go_num, ?_, ((HXr.out.trans hx2).alloc _).grown HG5.out fun q hq => Nat.le_trans HB1.out (hge q hq)⟩
            rw [HT.out, strV_app]
            exact HO5.out
          case measure => simp [intOf]; omega
      · obtain rfl : k = a.sets.n := by omega
        rw [List.take_of_length_le (Nat.le_of_eq HV.out.1)] at HO
        go_wp2_with fail
        replace HB := hid (HB.out.ext HXr.out)
        have HC := hid (fun W (hW : Ext wr W) => rcomma_own _ _ _ _ W (ownN_ext HO.out hW) HZ.out)
        clear cb hxr HV HRs HFv HZ HO
        rw [HTE.out] at HC
        have K1 : Hid (∀ z : Later wr, Calls Tryz.prog 97 _ z.now _) := fun z => HC.out z.now z.ext
        have K2 : Hid (∀ z : Later wr, Calls Tryz.prog 98 _ z.now _) := fun z => HW.out z.now (HX.out.trans (HXr.out.trans z.ext))
        have l1 := Later.keep (HB.out.cell_some (i := 1) rfl)
        refine wp_region_later (by kernel_rfl) (by kernel_rfl) ?_
        repeat (first | (refine quiet_load_blk rfl 38 (.tmp 1) rfl g rfl 38 _ _ (later_blk HB.out) Tryz.underlying38 rfl (by kernel_rfl) ?_; go_simp) | go_big_quiet_step (first | (go_at_call 97; with_reducible exact later_of (K1.out _)) | (go_at_call 98; with_reducible exact later_of (K2.out _))))
        refine wpQuiet_nil ?_
        first | (intro wb hw9; have hx9 := later_out hw9; clear hw9) | (intro xb; have hx9 := xb.ext; generalize xb.now = wb at *; clear xb)
        go_wp2_with fail
        go_ret
        exact ⟨rfl, HX.out.trans (HXr.out.trans hx9)⟩
  · have hT : s.body = sDelete ++ s.tb ++ s.whT := by unfold St.body; simp [hk]
    rw [hT]
    generalize s.whT = TW at *
    unfold sDelete
    have e1 : (s.kd == 1) = false := by simp [hk]
    have e2 : (s.kd == 2) = false := by simp [hk]
    have e3 : (s.kd == 3) = false := by simp [hk]
    have e4 : (s.kd == 4) = true := by simp [hk]
    have e5 : (s.kd == 5) = false := by simp [hk]
    have e6 : (s.kd == 6) = false := by simp [hk]
    have e7 : (s.kd == 7) = false := by simp [hk]
    have e8 : (s.kd == 8) = false := by simp [hk]
    have e9 : (s.kd == 9) = false := by simp [hk]
    have e10 : (s.kd == 10) = false := by simp [hk]
    clear hv hk hf hF hb hkk hsb hlb hT hkd
    unfold St.val at *
    unfold St.cells Sl.v at *
    go_enter Tryz.func46, Tryz.ntmps46
    go_upto_region 1 with fail
    generalize w.alloc (.cells _ 38) = w0 at *
    generalize w.heap.size = g at *
    have HO0 := hid (own_room w0 9 1 0 0 0 w0.heap.size #[] (Nat.le_refl _) rfl (by decide))
    replace HB := hid (HB.out.ext ((Ext.refl w0).alloc (.cells #[] 9)))
    have HX1 := hid ((Ext.refl w0).alloc (.cells #[] 9))
    replace HX := hid (HX.out.trans HX1.out)
    go_upto_region 2 with fail
    obtain ⟨B0, hB0⟩ : ∃ B0, w0.heap.size = B0 := ⟨_, rfl⟩
    rw [hB0] at HO0 ⊢
    have HBS : Hid (B0 ≤ (w0.alloc (.cells #[] 9)).heap.size) := by unfold Hid; rw [← hB0]; simp
    clear hB0 HX1
    generalize w0.alloc (.cells #[] 9) = w1 at *
    have p0 := (HB.out).cell 0
    have p21 := (HB.out).cell 21
    simp only [List.getElem?_cons_succ, List.getElem?_cons_zero] at p0 p21
    go_wp2_with fail
    have K2 : Hid (∀ z : Later w1, Calls Tryz.prog 98 _ z.now _) := fun z => HW.out z.now (HX.out.trans z.ext)
    have l1 := Later.keep (HB.out.cell_some (i := 1) rfl)
    refine wp_region_later (by kernel_rfl) (by kernel_rfl) ?_
    repeat (first | (refine quiet_load_blk rfl 38 (.tmp 1) rfl g rfl 38 _ _ (later_blk HB.out) Tryz.underlying38 rfl (by kernel_rfl) ?_; go_simp) | go_big_quiet_step (first | (go_at_call 98; with_reducible exact later_of (K2.out _))))
    refine wpQuiet_nil ?_
    first | (intro wb hw9; have hx9 := later_out hw9; clear hw9) | (intro xb; have hx9 := xb.ext; generalize xb.now = wb at *; clear xb)
    go_wp2_with fail
    go_ret
    exact ⟨rfl, HX.out.trans hx9⟩
  · have hT : s.body = s.sel := by unfold St.body; simp [hk]
    rw [hT]
    have HE := hid (fun W (hW : Ext w W) => rsel_any s a W (hv.ext hW) (hkk.2.2.2.2.2.2.2.1 hk) (whr_of hf) hF hb)
    clear HW z3
    generalize s.sel = TE at *
    have e1 : (s.kd == 1) = false := by simp [hk]
    have e2 : (s.kd == 2) = false := by simp [hk]
    have e3 : (s.kd == 3) = false := by simp [hk]
    have e4 : (s.kd == 4) = false := by simp [hk]
    have e5 : (s.kd == 5) = true := by simp [hk]
    have e6 : (s.kd == 6) = false := by simp [hk]
    have e7 : (s.kd == 7) = false := by simp [hk]
    have e8 : (s.kd == 8) = false := by simp [hk]
    have e9 : (s.kd == 9) = false := by simp [hk]
    have e10 : (s.kd == 10) = false := by simp [hk]
    clear hv hk hf hF hb hkk hsb hlb hT hkd
    unfold St.val at *
    unfold St.cells Sl.v at *
    go_enter Tryz.func46, Tryz.ntmps46
    go_upto_region 1 with fail
    generalize w.alloc (.cells _ 38) = w0 at *
    generalize w.heap.size = g at *
    have HO0 := hid (own_room w0 9 1 0 0 0 w0.heap.size #[] (Nat.le_refl _) rfl (by decide))
    replace HB := hid (HB.out.ext ((Ext.refl w0).alloc (.cells #[] 9)))
    have HX1 := hid ((Ext.refl w0).alloc (.cells #[] 9))
    replace HX := hid (HX.out.trans HX1.out)
    go_upto_region 2 with fail
    obtain ⟨B0, hB0⟩ : ∃ B0, w0.heap.size = B0 := ⟨_, rfl⟩
    rw [hB0] at HO0 ⊢
    have HBS : Hid (B0 ≤ (w0.alloc (.cells #[] 9)).heap.size) := by unfold Hid; rw [← hB0]; simp
    clear hB0 HX1
    generalize w0.alloc (.cells #[] 9) = w1 at *
    have p0 := (HB.out).cell 0
    have p21 := (HB.out).cell 21
    simp only [List.getElem?_cons_succ, List.getElem?_cons_zero] at p0 p21
    go_wp2_with (first | (refine wpList_load_blk rfl 38 (.tmp 1) rfl g rfl 38 _ _ HB.out Tryz.underlying38 rfl (by kernel_rfl) ?_) | (go_at_call 99; (with_reducible refine (HE.out _ HX.out).mono ?_); rintro _ w5 ⟨rfl, hx5⟩))
    go_ret
    exact ⟨rfl, HX.out.trans hx5⟩
  · have hT : s.body = ⟨#[66, 69, 71, 73, 78]⟩ := by unfold St.body; simp [hk]
    rw [hT]
    clear HW z3
    have e1 : (s.kd == 1) = false := by simp [hk]
    have e2 : (s.kd == 2) = false := by simp [hk]
    have e3 : (s.kd == 3) = false := by simp [hk]
    have e4 : (s.kd == 4) = false := by simp [hk]
    have e5 : (s.kd == 5) = false := by simp [hk]
    have e6 : (s.kd == 6) = true := by simp [hk]
    have e7 : (s.kd == 7) = false := by simp [hk]
    have e8 : (s.kd == 8) = false := by simp [hk]
    have e9 : (s.kd == 9) = false := by simp [hk]
    have e10 : (s.kd == 10) = false := by simp [hk]
    clear hv hk hf hF hb hkk hsb hlb hT hkd
    unfold St.val at *
    unfold St.cells Sl.v at *
    go_enter Tryz.func46, Tryz.ntmps46
    go_upto_region 1 with fail
    generalize w.alloc (.cells _ 38) = w0 at *
    generalize w.heap.size = g at *
    have HO0 := hid (own_room w0 9 1 0 0 0 w0.heap.size #[] (Nat.le_refl _) rfl (by decide))
    replace HB := hid (HB.out.ext ((Ext.refl w0).alloc (.cells #[] 9)))
    have HX1 := hid ((Ext.refl w0).alloc (.cells #[] 9))
    replace HX := hid (HX.out.trans HX1.out)
    go_upto_region 2 with fail
    obtain ⟨B0, hB0⟩ : ∃ B0, w0.heap.size = B0 := ⟨_, rfl⟩
    rw [hB0] at HO0 ⊢
    have HBS : Hid (B0 ≤ (w0.alloc (.cells #[] 9)).heap.size) := by unfold Hid; rw [← hB0]; simp
    clear hB0 HX1
    generalize w0.alloc (.cells #[] 9) = w1 at *
    have p0 := (HB.out).cell 0
    have p21 := (HB.out).cell 21
    simp only [List.getElem?_cons_succ, List.getElem?_cons_zero] at p0 p21
    go_wp2_with fail
    go_ret
    exact ⟨rfl, HX.out⟩
  · have hT : s.body = ⟨#[67, 79, 77, 77, 73, 84]⟩ := by unfold St.body; simp [hk]
    rw [hT]
    clear HW z3
    have e1 : (s.kd == 1) = false := by simp [hk]
    have e2 : (s.kd == 2) = false := by simp [hk]
    have e3 : (s.kd == 3) = false := by simp [hk]
    have e4 : (s.kd == 4) = false := by simp [hk]
    have e5 : (s.kd == 5) = false := by simp [hk]
    have e6 : (s.kd == 6) = false := by simp [hk]
    have e7 : (s.kd == 7) = true := by simp [hk]
    have e8 : (s.kd == 8) = false := by simp [hk]
    have e9 : (s.kd == 9) = false := by simp [hk]
    have e10 : (s.kd == 10) = false := by simp [hk]
    clear hv hk hf hF hb hkk hsb hlb hT hkd
    unfold St.val at *
    unfold St.cells Sl.v at *
    go_enter Tryz.func46, Tryz.ntmps46
    go_upto_region 1 with fail
    generalize w.alloc (.cells _ 38) = w0 at *
    generalize w.heap.size = g at *
    have HO0 := hid (own_room w0 9 1 0 0 0 w0.heap.size #[] (Nat.le_refl _) rfl (by decide))
    replace HB := hid (HB.out.ext ((Ext.refl w0).alloc (.cells #[] 9)))
    have HX1 := hid ((Ext.refl w0).alloc (.cells #[] 9))
    replace HX := hid (HX.out.trans HX1.out)
    go_upto_region 2 with fail
    obtain ⟨B0, hB0⟩ : ∃ B0, w0.heap.size = B0 := ⟨_, rfl⟩
    rw [hB0] at HO0 ⊢
    have HBS : Hid (B0 ≤ (w0.alloc (.cells #[] 9)).heap.size) := by unfold Hid; rw [← hB0]; simp
    clear hB0 HX1
    generalize w0.alloc (.cells #[] 9) = w1 at *
    have p0 := (HB.out).cell 0
    have p21 := (HB.out).cell 21
    simp only [List.getElem?_cons_succ, List.getElem?_cons_zero] at p0 p21
    go_wp2_with fail
    go_ret
    exact ⟨rfl, HX.out⟩
  · have hT : s.body = ⟨#[82, 79, 76, 76, 66, 65, 67, 75]⟩ := by unfold St.body; simp [hk]
    rw [hT]
    clear HW z3
    have e1 : (s.kd == 1) = false := by simp [hk]
    have e2 : (s.kd == 2) = false := by simp [hk]
    have e3 : (s.kd == 3) = false := by simp [hk]
    have e4 : (s.kd == 4) = false := by simp [hk]
    have e5 : (s.kd == 5) = false := by simp [hk]
    have e6 : (s.kd == 6) = false := by simp [hk]
    have e7 : (s.kd == 7) = false := by simp [hk]
    have e8 : (s.kd == 8) = true := by simp [hk]
    have e9 : (s.kd == 9) = false := by simp [hk]
    have e10 : (s.kd == 10) = false := by simp [hk]
    clear hv hk hf hF hb hkk hsb hlb hT hkd
    unfold St.val at *
    unfold St.cells Sl.v at *
    go_enter Tryz.func46, Tryz.ntmps46
    go_upto_region 1 with fail
    generalize w.alloc (.cells _ 38) = w0 at *
    generalize w.heap.size = g at *
    have HO0 := hid (own_room w0 9 1 0 0 0 w0.heap.size #[] (Nat.le_refl _) rfl (by decide))
    replace HB := hid (HB.out.ext ((Ext.refl w0).alloc (.cells #[] 9)))
    have HX1 := hid ((Ext.refl w0).alloc (.cells #[] 9))
    replace HX := hid (HX.out.trans HX1.out)
    go_upto_region 2 with fail
    obtain ⟨B0, hB0⟩ : ∃ B0, w0.heap.size = B0 := ⟨_, rfl⟩
    rw [hB0] at HO0 ⊢
    have HBS : Hid (B0 ≤ (w0.alloc (.cells #[] 9)).heap.size) := by unfold Hid; rw [← hB0]; simp
    clear hB0 HX1
    generalize w0.alloc (.cells #[] 9) = w1 at *
    have p0 := (HB.out).cell 0
    have p21 := (HB.out).cell 21
    simp only [List.getElem?_cons_succ, List.getElem?_cons_zero] at p0 p21
    go_wp2_with fail
    go_ret
    exact ⟨rfl, HX.out⟩
  · have hT : s.body = ⟨#[83, 65, 86, 69, 80, 79, 73, 78, 84, 32]⟩ ++ s.nm := by unfold St.body; simp [hk]
    rw [hT]
    clear HW z3
    have e1 : (s.kd == 1) = false := by simp [hk]
    have e2 : (s.kd == 2) = false := by simp [hk]
    have e3 : (s.kd == 3) = false := by simp [hk]
    have e4 : (s.kd == 4) = false := by simp [hk]
    have e5 : (s.kd == 5) = false := by simp [hk]
    have e6 : (s.kd == 6) = false := by simp [hk]
    have e7 : (s.kd == 7) = false := by simp [hk]
    have e8 : (s.kd == 8) = false := by simp [hk]
    have e9 : (s.kd == 9) = true := by simp [hk]
    have e10 : (s.kd == 10) = false := by simp [hk]
    clear hv hk hf hF hb hkk hsb hlb hT hkd
    unfold St.val at *
    unfold St.cells Sl.v at *
    go_enter Tryz.func46, Tryz.ntmps46
    go_upto_region 1 with fail
    generalize w.alloc (.cells _ 38) = w0 at *
    generalize w.heap.size = g at *
    have HO0 := hid (own_room w0 9 1 0 0 0 w0.heap.size #[] (Nat.le_refl _) rfl (by decide))
    replace HB := hid (HB.out.ext ((Ext.refl w0).alloc (.cells #[] 9)))
    have HX1 := hid ((Ext.refl w0).alloc (.cells #[] 9))
    replace HX := hid (HX.out.trans HX1.out)
    go_upto_region 2 with fail
    obtain ⟨B0, hB0⟩ : ∃ B0, w0.heap.size = B0 := ⟨_, rfl⟩
    rw [hB0] at HO0 ⊢
    have HBS : Hid (B0 ≤ (w0.alloc (.cells #[] 9)).heap.size) := by unfold Hid; rw [← hB0]; simp
    clear hB0 HX1
    generalize w0.alloc (.cells #[] 9) = w1 at *
    have p0 := (HB.out).cell 0
    have p21 := (HB.out).cell 21
    simp only [List.getElem?_cons_succ, List.getElem?_cons_zero] at p0 p21
    go_wp2_with fail
    go_ret
    exact ⟨rfl, HX.out⟩
  · have hT : s.body = ⟨#[82, 79, 76, 76, 66, 65, 67, 75, 32, 84, 79, 32]⟩ ++ s.nm := by unfold St.body; simp [hk]
    rw [hT]
    clear HW z3
    have e1 : (s.kd == 1) = false := by simp [hk]
    have e2 : (s.kd == 2) = false := by simp [hk]
    have e3 : (s.kd == 3) = false := by simp [hk]
    have e4 : (s.kd == 4) = false := by simp [hk]
    have e5 : (s.kd == 5) = false := by simp [hk]
    have e6 : (s.kd == 6) = false := by simp [hk]
    have e7 : (s.kd == 7) = false := by simp [hk]
    have e8 : (s.kd == 8) = false := by simp [hk]
    have e9 : (s.kd == 9) = false := by simp [hk]
    have e10 : (s.kd == 10) = true := by simp [hk]
    clear hv hk hf hF hb hkk hsb hlb hT hkd
    unfold St.val at *
    unfold St.cells Sl.v at *
    go_enter Tryz.func46, Tryz.ntmps46
    go_upto_region 1 with fail
    generalize w.alloc (.cells _ 38) = w0 at *
    generalize w.heap.size = g at *
    have HO0 := hid (own_room w0 9 1 0 0 0 w0.heap.size #[] (Nat.le_refl _) rfl (by decide))
    replace HB := hid (HB.out.ext ((Ext.refl w0).alloc (.cells #[] 9)))
    have HX1 := hid ((Ext.refl w0).alloc (.cells #[] 9))
    replace HX := hid (HX.out.trans HX1.out)
    go_upto_region 2 with fail
    obtain ⟨B0, hB0⟩ : ∃ B0, w0.heap.size = B0 := ⟨_, rfl⟩
    rw [hB0] at HO0 ⊢
    have HBS : Hid (B0 ≤ (w0.alloc (.cells #[] 9)).heap.size) := by unfold Hid; rw [← hB0]; simp
    clear hB0 HX1
    generalize w0.alloc (.cells #[] 9) = w1 at *
    have p0 := (HB.out).cell 0
    have p21 := (HB.out).cell 21
    simp only [List.getElem?_cons_succ, List.getElem?_cons_zero] at p0 p21
    go_wp2_with fail
    go_ret
    exact ⟨rfl, HX.out⟩
  · have hT : s.body = ⟨#[82, 69, 76, 69, 65, 83, 69, 32]⟩ ++ s.nm := by unfold St.body; simp [hk]
    rw [hT]
    clear HW z3
    have e1 : (s.kd == 1) = false := by simp [hk]
    have e2 : (s.kd == 2) = false := by simp [hk]
    have e3 : (s.kd == 3) = false := by simp [hk]
    have e4 : (s.kd == 4) = false := by simp [hk]
    have e5 : (s.kd == 5) = false := by simp [hk]
    have e6 : (s.kd == 6) = false := by simp [hk]
    have e7 : (s.kd == 7) = false := by simp [hk]
    have e8 : (s.kd == 8) = false := by simp [hk]
    have e9 : (s.kd == 9) = false := by simp [hk]
    have e10 : (s.kd == 10) = false := by simp [hk]
    clear hv hk hf hF hb hkk hsb hlb hT hkd
    unfold St.val at *
    unfold St.cells Sl.v at *
    go_enter Tryz.func46, Tryz.ntmps46
    go_upto_region 1 with fail
    generalize w.alloc (.cells _ 38) = w0 at *
    generalize w.heap.size = g at *
    have HO0 := hid (own_room w0 9 1 0 0 0 w0.heap.size #[] (Nat.le_refl _) rfl (by decide))
    replace HB := hid (HB.out.ext ((Ext.refl w0).alloc (.cells #[] 9)))
    have HX1 := hid ((Ext.refl w0).alloc (.cells #[] 9))
    replace HX := hid (HX.out.trans HX1.out)
    go_upto_region 2 with fail
    obtain ⟨B0, hB0⟩ : ∃ B0, w0.heap.size = B0 := ⟨_, rfl⟩
    rw [hB0] at HO0 ⊢
    have HBS : Hid (B0 ≤ (w0.alloc (.cells #[] 9)).heap.size) := by unfold Hid; rw [← hB0]; simp
    clear hB0 HX1
    generalize w0.alloc (.cells #[] 9) = w1 at *
    have p0 := (HB.out).cell 0
    have p21 := (HB.out).cell 21
    simp only [List.getElem?_cons_succ, List.getElem?_cons_zero] at p0 p21
    go_wp2_with fail
    go_ret
    exact ⟨rfl, HX.out⟩
end Go.Proofs.YtcdnodjcnofogaaGreatDoor
namespace Go.Proofs.YtcdnodjcnofogaaGreatDoor
open Go.RowKit
set_option linter.unusedVariables false
set_option linter.unusedSimpArgs false
set_option maxHeartbeats 4000000
set_option maxRecDepth 100000

/-- as the reference says it -/
def St.rformed (s : St) : Bool :=
  let tabled := decide (1 ≤ s.kd) && decide (s.kd ≤ 4)
  let named := decide (9 ≤ s.kd) && decide (s.kd ≤ 11)
  !((s.kd != 1 && !s.noDef) || (s.kd != 2 && decide (0 < s.vals.length)) || (s.kd != 3 && decide (0 < s.sets.length))) &&
    !(s.kd != 5 && (decide (0 < s.itms.length + s.frm.length + s.grp.length + s.ord.length) || s.lim != 0)) &&
    !((tabled && !nameB s.tb) || (!tabled && !s.tb.toList.isEmpty) || (named && !nameB s.nm) || (!named && !s.nm.toList.isEmpty)) &&
    !(!s.whr.absent && ((decide (s.kd < 3) || decide (5 < s.kd)) || !s.whr.formed)) &&
    (if s.kd = 1 then s.defOk else if s.kd = 2 then decide (0 < s.vals.length) && s.vals.all rowOk else if s.kd = 3 then decide (0 < s.sets.length) && s.sets.all Asg.ok else if s.kd = 5 then s.qOk else s.kd == 4 || decide (6 ≤ s.kd) && decide (s.kd ≤ 11))
theorem name_ne {s : ByteArray} (h : nameB s = true) : s.toList.isEmpty = false := by
  rw [← str0_b]
  cases hz : (s.size == 0)
  · rfl
  · rw [name_len0 (by simpa using hz)] at h; cases h
theorem def_ne {s : St} (h : s.defOk = true) : s.noDef = false := by
  unfold St.defOk at h
  simp only [Bool.and_eq_true] at h
  simpa using h.1.1.1.1
theorem q_ne {s : St} (h : s.qOk = true) : decide (0 < s.frm.length) = true := by
  unfold St.qOk at h
  simp only [Bool.and_eq_true] at h
  exact h.1.1.1.1.2
theorem rformed_eq (s : St) : s.rformed = s.formed := by
  have hn1 := @name_ne s.tb
  have hn2 := @name_ne s.nm
  have hd := @def_ne s
  have hq := @q_ne s
  have hfl : ∀ b : Bool, decide (0 < s.itms.length + s.frm.length + s.grp.length + s.ord.length) = (decide (0 < s.frm.length) || !decide (s.itms.length + s.grp.length + s.ord.length = 0)) := fun _ => by
    rw [Bool.eq_iff_iff, Bool.or_eq_true, Bool.not_eq_true', decide_eq_true_eq, decide_eq_true_eq, decide_eq_false_iff_not]; omega
  unfold St.rformed St.formed
  dsimp only
  rw [hfl true]
  generalize s.defOk = q1 at *
  generalize s.noDef = e0 at *
  generalize s.qOk = q5 at *
  generalize nameB s.tb = bn at *
  generalize nameB s.nm = bm at *
  generalize s.tb.toList.isEmpty = te at *
  generalize s.nm.toList.isEmpty = ne at *
  generalize s.whr.absent = ba at *
  generalize s.whr.formed = bf at *
  generalize s.vals.all rowOk = q2 at *
  generalize s.sets.all Asg.ok = q3 at *
  generalize decide (0 < s.frm.length) = f0 at *
  generalize decide (0 < s.vals.length) = v0 at *
  generalize decide (0 < s.sets.length) = s0 at *
  generalize decide (s.itms.length + s.grp.length + s.ord.length = 0) = z0 at *
  have hl : (s.lim != 0) = !(s.lim == 0) := rfl
  rw [hl]
  generalize (s.lim == 0) = l0 at *
  have hk : s.kd < 1 ∨ s.kd = 1 ∨ s.kd = 2 ∨ s.kd = 3 ∨ s.kd = 4 ∨ s.kd = 5 ∨ s.kd = 6 ∨ s.kd = 7 ∨ s.kd = 8 ∨ s.kd = 9 ∨ s.kd = 10 ∨ s.kd = 11 ∨ 11 < s.kd := by omega
  generalize s.kd = K at *
  clear hl hfl
  rcases hk with h | h | h | h | h | h | h | h | h | h | h | h | h
  · have a1 : ¬ K = 1 := by omega
    have a2 : ¬ K = 2 := by omega
    have a3 : ¬ K = 3 := by omega
    have a4 : ¬ K = 4 := by omega
    have a5 : ¬ K = 5 := by omega
    have b1 : ¬ 1 ≤ K := by omega
    have b6 : ¬ 6 ≤ K := by omega
    simp [a1, a2, a3, a4, a5, b1, b6]
  · subst h
    clear hq
    simp only [Int.reduceEq, ↓reduceIte]
    clear q2 q3 q5
    revert hn1 hn2 hd
    revert q1 e0 bn bm te ne ba bf f0 v0 s0 z0 l0
    decide +kernel
  · subst h
    clear hd hq
    simp only [Int.reduceEq, ↓reduceIte]
    clear q1 q3 q5
    revert hn1 hn2
    revert q2 e0 bn bm te ne ba bf f0 v0 s0 z0 l0
    decide +kernel
  · subst h
    clear hd hq
    simp only [Int.reduceEq, ↓reduceIte]
    clear q1 q2 q5
    revert hn1 hn2
    revert q3 e0 bn bm te ne ba bf f0 v0 s0 z0 l0
    decide +kernel
  · subst h
    clear hd hq
    simp only [Int.reduceEq, ↓reduceIte]
    clear q1 q2 q3 q5
    revert hn1 hn2
    revert  e0 bn bm te ne ba bf f0 v0 s0 z0 l0
    decide +kernel
  · subst h
    clear hd
    simp only [Int.reduceEq, ↓reduceIte]
    clear q1 q2 q3
    revert hn1 hn2 hq
    revert q5 e0 bn bm te ne ba bf f0 v0 s0 z0 l0
    decide +kernel
  · subst h
    clear hd hq
    simp only [Int.reduceEq, ↓reduceIte]
    clear q1 q2 q3 q5
    revert hn1 hn2
    revert  e0 bn bm te ne ba bf f0 v0 s0 z0 l0
    decide +kernel
  · subst h
    clear hd hq
    simp only [Int.reduceEq, ↓reduceIte]
    clear q1 q2 q3 q5
    revert hn1 hn2
    revert  e0 bn bm te ne ba bf f0 v0 s0 z0 l0
    decide +kernel
  · subst h
    clear hd hq
    simp only [Int.reduceEq, ↓reduceIte]
    clear q1 q2 q3 q5
    revert hn1 hn2
    revert  e0 bn bm te ne ba bf f0 v0 s0 z0 l0
    decide +kernel
  · subst h
    clear hd hq
    simp only [Int.reduceEq, ↓reduceIte]
    clear q1 q2 q3 q5
    revert hn1 hn2
    revert  e0 bn bm te ne ba bf f0 v0 s0 z0 l0
    decide +kernel
  · subst h
    clear hd hq
    simp only [Int.reduceEq, ↓reduceIte]
    clear q1 q2 q3 q5
    revert hn1 hn2
    revert  e0 bn bm te ne ba bf f0 v0 s0 z0 l0
    decide +kernel
  · subst h
    clear hd hq
    simp only [Int.reduceEq, ↓reduceIte]
    clear q1 q2 q3 q5
    revert hn1 hn2
    revert  e0 bn bm te ne ba bf f0 v0 s0 z0 l0
    decide +kernel
  · have a1 : ¬ K = 1 := by omega
    have a2 : ¬ K = 2 := by omega
    have a3 : ¬ K = 3 := by omega
    have a4 : ¬ K = 4 := by omega
    have a5 : ¬ K = 5 := by omega
    have b1 : ¬ K ≤ 11 := by omega
    simp [a1, a2, a3, a4, a5, b1]
end Go.Proofs.YtcdnodjcnofogaaGreatDoor
namespace Go.Proofs.YtcdnodjcnofogaaGreatDoor
open Go.RowKit
set_option linter.unusedVariables false
set_option linter.unusedSimpArgs false
set_option maxHeartbeats 4000000
set_option maxRecDepth 100000

theorem rquery_any (s : St) (a : SA) (w : World) (hv : StV w s a) :
    Calls Tryz.prog 94 #[s.val a] w fun r w' => r = .returned (.bool s.qOk) ∧ Ext w w' := by
  have HS := hid hv
  have hn1 := hv.itms.2.1
  have hn2 := hv.frm.2.1
  have hn3 := hv.grp.2.1
  have hn4 := hv.ord.2.1
  obtain ⟨R, hR⟩ : ∃ R, s.qOk = R := ⟨_, rfl⟩
  rw [hR]
  have HR0 := hid hR
  have HR : Hid (s.qOk = R) := hR
  clear hv hR
  have HRb : Hid (s.qOk = (s.itms.all Itm.ok && decide (0 < s.frm.length) && s.frm.all Src.ok && s.grp.all colX && s.ord.all Ord'.ok && inB 0 2147483648 s.lim)) := rfl
  replace HR : Hid ((s.itms.all Itm.ok && decide (0 < s.frm.length) && s.frm.all Src.ok && s.grp.all colX && s.ord.all Ord'.ok && inB 0 2147483648 s.lim) = R) := HRb.out.symm.trans HR.out
  have HB := hid (Blk.of_new w 38 (s.cells a))
  have HX := hid ((Ext.refl w).alloc (.cells (s.cells a).toArray 38))
  unfold St.val
  unfold St.cells Sl.v at *
  go_enter Tryz.func94, Tryz.ntmps94
  go_wp2_with fail
  generalize w.alloc (.cells _ 38) = w1 at *
  go_loopw [3] (fun iv wr => ∃ (k : Nat), k ≤ a.itms.n ∧ iv = .int .i64 k ∧ (s.itms.take k).all Itm.ok = true ∧ Ext w1 wr) (fun i _ => a.itms.n - (intOf i).toNat)
  case atStart => exact ⟨0, Nat.zero_le _, rfl, rfl, Ext.refl _⟩
  case round =>
    obtain ⟨k, hkn, rfl, hr, hxr⟩ := hrel
    have HXr := hid hxr
    have HRr := hid hr
    have cb := (HB.out.ext hxr).cell 8
    simp only [List.getElem?_cons_succ, List.getElem?_cons_zero] at cb
    by_cases hlt : k < a.itms.n
    · obtain ⟨x, hx⟩ := rat_lt HS.out.itms.1 hlt
      have hk2 := HS.out.itms.2.2.ext (HX.out.trans hxr)
      obtain ⟨b, off, Ai, ni, ci, hA, q0, q1, q2, q3, q4, q5, q6, q7, q8, h1⟩ := itm_get hk2 hx
      rw [hA] at cb
      have HAb := hid (fun W (hW : Ext wr W) => rabsent_any x.ex Ai ni ci W (h1.ext hW))
      have HF := hid (fun W (hW : Ext wr W) => rformed_any x.ex Ai ni ci W (h1.ext hW))
      have HE := hid hx
      have HRow : Hid (Itm.ok x = if (x.ag == 1) = true then x.ex.absent else !decide (x.ag < 0) && !decide (5 < x.ag) && x.ex.formed) := by
        unfold Hid Itm.ok
        have d1 : decide (0 ≤ x.ag) = !decide (x.ag < 0) := by rw [Bool.eq_iff_iff]; simp
        have d2 : decide (x.ag ≤ 5) = !decide (5 < x.ag) := by rw [Bool.eq_iff_iff]; simp
        rw [d1, d2]
      have HNE : Hid ((x.ag != 1) = !(x.ag == 1)) := rfl
      have I1 : Hid (x.ag < 0 → (x.ag == 1) = false) := fun h => by simp; omega
      have I2 : Hid (5 < x.ag → (x.ag == 1) = false) := fun h => by simp; omega
      unfold Nd.val at HF HAb
      clear hx hxr hr h1 hk2 hA
      cases hlt0 : decide (x.ag < 0)
      · cases hgt : decide (5 < x.ag)
        · cases ht1 : (x.ag == 1)
          · have d3 : (x.ag != 1) = true := by rw [HNE.out, ht1]; rfl
            cases hp : x.ex.formed
            · have HPx : Hid (s.itms.all Itm.ok = false) := allA_no HE.out (by rw [HRow.out, ht1, hp]; simp)
              rw [hp] at HF
              clear hp
              go_wp2_with (go_at_call 48; (with_reducible refine (HF.out _ ((Ext.refl wr).alloc _)).mono ?_); rintro _ w2 ⟨rfl, hx2⟩)
              go_ret
              exact ⟨ret_bool (by rw [← HR.out, HPx.out]; simp), HX.out.trans (HXr.out.trans (((Ext.refl wr).alloc _).trans hx2))⟩
            · have HPx : Hid ((s.itms.take (k + 1)).all Itm.ok = true) := allA_step HE.out HRr.out (by rw [HRow.out, ht1, hp, hlt0, hgt]; simp)
              rw [hp] at HF
              clear hp
              go_wp2_with (go_at_call 48; (with_reducible refine (HF.out _ ((Ext.refl wr).alloc _)).mono ?_); rintro _ w2 ⟨rfl, hx2⟩)
              go_roundw
              case rel => exact ⟨k + 1, by omega, by go_num, HPx.out, HXr.out.trans (((Ext.refl wr).alloc _).trans hx2)⟩
              case measure => simp [intOf]; omega
          · have d3 : (x.ag != 1) = false := by rw [HNE.out, ht1]; rfl
            cases hp : x.ex.absent
            · have HPx : Hid (s.itms.all Itm.ok = false) := allA_no HE.out (by rw [HRow.out, ht1, hp]; simp)
              rw [hp] at HAb
              clear hp
              go_wp2_with (go_at_call 90; (with_reducible refine (HAb.out _ ((Ext.refl wr).alloc _)).mono ?_); rintro _ w2 ⟨rfl, hx2⟩)
              go_ret
              exact ⟨ret_bool (by rw [← HR.out, HPx.out]; simp), HX.out.trans (HXr.out.trans (((Ext.refl wr).alloc _).trans hx2))⟩
            · have HPx : Hid ((s.itms.take (k + 1)).all Itm.ok = true) := allA_step HE.out HRr.out (by rw [HRow.out, ht1, hp]; simp)
              rw [hp] at HAb
              clear hp
              have HB2 := hid (Blk.of_new wr 81 [.int .i64 x.ag, .int .i64 x.ex.d.op, .string x.ex.d.tb, .string x.ex.d.nm, .int .i64 x.ex.d.ix, .int .i64 x.ex.d.vk, .int .i64 x.ex.d.vi, .string x.ex.d.vt, .slice Ai ni ci])
              go_wp2_with (go_at_call 90; (with_reducible refine (HAb.out _ ((Ext.refl wr).alloc _)).mono ?_); rintro _ w2 ⟨rfl, hx2⟩; have e0 := (HB2.out.ext hx2).cell 0; simp only [List.getElem?_cons_zero] at e0)
              go_roundw
              case rel => exact ⟨k + 1, by omega, by go_num, HPx.out, HXr.out.trans (((Ext.refl wr).alloc _).trans hx2)⟩
              case measure => simp [intOf]; omega
        · have ht1 := I2.out (by simpa using hgt)
          have HPx : Hid (s.itms.all Itm.ok = false) := allA_no HE.out (by rw [HRow.out, ht1, hgt]; simp)
          go_wp2_with fail
          go_ret
          exact ⟨ret_bool (by rw [← HR.out, HPx.out]; simp), HX.out.trans (HXr.out.trans ((Ext.refl wr).alloc _))⟩
      · have ht1 := I1.out (by simpa using hlt0)
        have HPx : Hid (s.itms.all Itm.ok = false) := allA_no HE.out (by rw [HRow.out, ht1, hlt0]; simp)
        go_wp2_with fail
        go_ret
        exact ⟨ret_bool (by rw [← HR.out, HPx.out]; simp), HX.out.trans (HXr.out.trans ((Ext.refl wr).alloc _))⟩
    · obtain rfl : k = a.itms.n := by omega
      have HP : Hid (s.itms.all Itm.ok = true) := allA_end HS.out.itms.1 HRr.out
      clear hr
      have HPi := HP
      go_wp2_with fail
      clear HP cb hxr HRr
      go_loopw [5] (fun iv wr => ∃ (k : Nat), k ≤ a.frm.n ∧ iv = .int .i64 k ∧ (s.frm.take k).all Src.ok = true ∧ Ext w1 wr) (fun i _ => a.frm.n - (intOf i).toNat)
      case atStart => exact ⟨0, Nat.zero_le _, rfl, rfl, HXr.out⟩
      case round =>
        obtain ⟨k, hkn, rfl, hr, hxr⟩ := hrel
        have HXr := hid hxr
        have HRr := hid hr
        have cb := (HB.out.ext hxr).cell 9
        simp only [List.getElem?_cons_succ, List.getElem?_cons_zero] at cb
        by_cases hlt : k < a.frm.n
        · obtain ⟨x, hx⟩ := rat_lt HS.out.frm.1 hlt
          obtain ⟨hc, b, off, hA, q0, q1⟩ := (HS.out.frm.2.2.ext (HX.out.trans hxr)) k x hx
          rw [hA] at cb
          have HN1 := hid (fun W => rname_any x.tb W hc.1)
          have HN2 := hid (fun W => rname_any x.al W hc.2)
          have HE := hid hx
          have HQ : Hid (∀ W, Ext wr W → W.cell? ⟨w.heap.size, 9, none⟩ = some (.slice (some ⟨b, off, none⟩) a.frm.n a.frm.c) ∧ W.cell? ⟨b, off + k * 2 + 1, none⟩ = some (.string x.al)) := fun W hW => ⟨hW.keep cb, hW.keep q1⟩
          have HRow : Hid (Src.ok x = (nameB x.tb && (x.al.toList.isEmpty || nameB x.al))) := rfl
          clear hx hxr hr hA hc q1
          cases hp : nameB x.tb
          · have HPx : Hid (s.frm.all Src.ok = false) := allA_no HE.out (by rw [HRow.out, hp]; rfl)
            rw [hp] at HN1
            clear hp
            go_wp2_with (go_at_call 89; (with_reducible refine (HN1.out _).mono ?_); rintro _ w2 ⟨rfl, hx2⟩)
            go_ret
            exact ⟨ret_bool (by rw [← HR.out, HPx.out]; simp), HX.out.trans (HXr.out.trans hx2)⟩
          · rw [hp] at HN1
            by_cases he : x.al.size = 0
            · have hem : x.al.toList.isEmpty = true := by rw [← str0_b]; simpa using he
              have HPx : Hid ((s.frm.take (k + 1)).all Src.ok = true) := allA_step HE.out HRr.out (by rw [HRow.out, hp, hem]; rfl)
              have hal := empty_yes he
              rw [hal] at HQ
              clear hp he hem hal
              go_wp2_with (go_at_call 89; (with_reducible refine (HN1.out _).mono ?_); rintro _ w2 ⟨rfl, hx2⟩; obtain ⟨e0, e1⟩ := HQ.out _ hx2)
              go_roundw
              case rel => exact ⟨k + 1, by omega, by go_num, HPx.out, HXr.out.trans hx2⟩
              case measure => simp [intOf]; omega
            · have v1 := empty_no he
              have v2 := empty_no2 he
              cases hq : nameB x.al
              · have HPx : Hid (s.frm.all Src.ok = false) := allA_no HE.out (by rw [HRow.out, hq, v2]; simp)
                rw [hq] at HN2
                clear hp he hq
                go_wp2_with (first | (go_at_call 89; (with_reducible refine (HN2.out _).mono ?_); rintro _ w3 ⟨rfl, hx3⟩; have hgo := hx2) | (go_at_call 89; (with_reducible refine (HN1.out _).mono ?_); rintro _ w2 ⟨rfl, hx2⟩; obtain ⟨e0, e1⟩ := HQ.out _ hx2))
                go_ret
                exact ⟨ret_bool (by rw [← HR.out, HPx.out]; simp), HX.out.trans (HXr.out.trans (hx2.trans hx3))⟩
              · have HPx : Hid ((s.frm.take (k + 1)).all Src.ok = true) := allA_step HE.out HRr.out (by rw [HRow.out, hp, hq]; simp)
                rw [hq] at HN2
                clear hp he hq
                go_wp2_with (first | (go_at_call 89; (with_reducible refine (HN2.out _).mono ?_); rintro _ w3 ⟨rfl, hx3⟩; have hgo := hx2) | (go_at_call 89; (with_reducible refine (HN1.out _).mono ?_); rintro _ w2 ⟨rfl, hx2⟩; obtain ⟨e0, e1⟩ := HQ.out _ hx2))
                go_roundw
                case rel => exact ⟨k + 1, by omega, by go_num, HPx.out, HXr.out.trans (hx2.trans hx3)⟩
                case measure => simp [intOf]; omega
        · obtain rfl : k = a.frm.n := by omega
          have HP : Hid (s.frm.all Src.ok = true) := allA_end HS.out.frm.1 HRr.out
          clear hr
          have HPf := HP
          go_wp2_with fail
          clear HP cb hxr HRr
          go_loopw [6] (fun iv wr => ∃ (k : Nat), k ≤ a.grp.n ∧ iv = .int .i64 k ∧ (s.grp.take k).all colX = true ∧ Ext w1 wr) (fun i _ => a.grp.n - (intOf i).toNat)
          case atStart => exact ⟨0, Nat.zero_le _, rfl, rfl, HXr.out⟩
          case round =>
            obtain ⟨k, hkn, rfl, hr, hxr⟩ := hrel
            have HXr := hid hxr
            have HRr := hid hr
            have cb := (HB.out.ext hxr).cell 18
            simp only [List.getElem?_cons_succ, List.getElem?_cons_zero] at cb
            by_cases hlt : k < a.grp.n
            · obtain ⟨x, hx⟩ := rat_lt HS.out.grp.1 hlt
              obtain ⟨b, off, Ai, ni, ci, hA, q0, q1, q2, q3, q4, q5, q6, q7, h1⟩ := (HS.out.grp.2.2.ext (HX.out.trans hxr)).get hx
              rw [hA] at cb
              have HF := hid (rformed_any x Ai ni ci wr h1)
              have HE := hid hx
              have HRow : Hid (colX x = (x.d.op == 2 && x.formed)) := rfl
              have HNE : Hid ((x.d.op != 2) = !(x.d.op == 2)) := rfl
              unfold Nd.val at HF
              clear hx hxr hr h1 hA
              cases ho : (x.d.op == 2)
              · have HPx : Hid (s.grp.all colX = false) := allA_no HE.out (by rw [HRow.out, ho]; rfl)
                have d3 : (x.d.op != 2) = true := by rw [HNE.out, ho]; rfl
                go_wp2_with fail
                go_ret
                exact ⟨ret_bool (by rw [← HR.out, HPx.out]; simp), HX.out.trans (HXr.out.trans (Ext.refl wr))⟩
              · have d3 : (x.d.op != 2) = false := by rw [HNE.out, ho]; rfl
                cases hp : x.formed
                · have HPx : Hid (s.grp.all colX = false) := allA_no HE.out (by rw [HRow.out, hp]; simp)
                  rw [hp] at HF
                  clear hp
                  go_wp2_with (go_at_call 48; (with_reducible refine HF.out.mono ?_); rintro _ w2 ⟨rfl, hx2⟩)
                  go_ret
                  exact ⟨ret_bool (by rw [← HR.out, HPx.out]; simp), HX.out.trans (HXr.out.trans hx2)⟩
                · have HPx : Hid ((s.grp.take (k + 1)).all colX = true) := allA_step HE.out HRr.out (by rw [HRow.out, ho, hp]; rfl)
                  rw [hp] at HF
                  clear hp
                  go_wp2_with (go_at_call 48; (with_reducible refine HF.out.mono ?_); rintro _ w2 ⟨rfl, hx2⟩)
                  go_roundw
                  case rel => exact ⟨k + 1, by omega, by go_num, HPx.out, HXr.out.trans hx2⟩
                  case measure => simp [intOf]; omega
            · obtain rfl : k = a.grp.n := by omega
              have HP : Hid (s.grp.all colX = true) := allA_end HS.out.grp.1 HRr.out
              clear hr
              have HPg := HP
              go_wp2_with fail
              clear HP cb hxr HRr
              go_loopw [7] (fun iv wr => ∃ (k : Nat), k ≤ a.ord.n ∧ iv = .int .i64 k ∧ (s.ord.take k).all Ord'.ok = true ∧ Ext w1 wr) (fun i _ => a.ord.n - (intOf i).toNat)
              case atStart => exact ⟨0, Nat.zero_le _, rfl, rfl, HXr.out⟩
              case round =>
                obtain ⟨k, hkn, rfl, hr, hxr⟩ := hrel
                have HXr := hid hxr
                have HRr := hid hr
                have cb := (HB.out.ext hxr).cell 19
                simp only [List.getElem?_cons_succ, List.getElem?_cons_zero] at cb
                by_cases hlt : k < a.ord.n
                · obtain ⟨x, hx⟩ := rat_lt HS.out.ord.1 hlt
                  obtain ⟨hc, b, off, hA, q0, q1⟩ := (HS.out.ord.2.2.ext (HX.out.trans hxr)) k x hx
                  rw [hA] at cb
                  have HU := hid (fun W => rnumber_any x.it W)
                  have HE := hid hx
                  have HRow : Hid (Ord'.ok x = (!decide (x.it < 1) && (decide (0 ≤ x.it) && decide (x.it ≤ 2147483648)))) := by
                    unfold Hid Ord'.ok inB
                    rw [Bool.eq_iff_iff]
                    simp
                    omega
                  clear hx hxr hr hA hc
                  cases h1 : decide (x.it < 1)
                  · cases hu : (decide (0 ≤ x.it) && decide (x.it ≤ 2147483648))
                    · have HPx : Hid (s.ord.all Ord'.ok = false) := allA_no HE.out (by rw [HRow.out, hu]; simp)
                      rw [hu] at HU
                      clear hu
                      go_wp2_with (go_at_call 149; (with_reducible refine (HU.out _).mono ?_); rintro _ _ ⟨rfl, rfl⟩)
                      go_ret
                      exact ⟨ret_bool (by rw [← HR.out, HPx.out]; simp), HX.out.trans (HXr.out.trans (Ext.refl wr))⟩
                    · have HPx : Hid ((s.ord.take (k + 1)).all Ord'.ok = true) := allA_step HE.out HRr.out (by rw [HRow.out, hu, h1]; rfl)
                      rw [hu] at HU
                      clear hu
                      go_wp2_with (go_at_call 149; (with_reducible refine (HU.out _).mono ?_); rintro _ _ ⟨rfl, rfl⟩)
                      go_roundw
                      case rel => exact ⟨k + 1, by omega, by go_num, HPx.out, HXr.out.trans (Ext.refl wr)⟩
                      case measure => simp [intOf]; omega
                  · have HPx : Hid (s.ord.all Ord'.ok = false) := allA_no HE.out (by rw [HRow.out, h1]; rfl)
                    go_wp2_with fail
                    go_ret
                    exact ⟨ret_bool (by rw [← HR.out, HPx.out]; simp), HX.out.trans (HXr.out.trans (Ext.refl wr))⟩
                · obtain rfl : k = a.ord.n := by omega
                  have HP : Hid (s.ord.all Ord'.ok = true) := allA_end HS.out.ord.1 HRr.out
                  clear hr
                  have cb9 := (HB.out.ext hxr).cell 9
                  have cb20 := (HB.out.ext hxr).cell 20
                  simp only [List.getElem?_cons_succ, List.getElem?_cons_zero] at cb9 cb20
                  clear hxr
                  have HU := hid (fun W => rnumber_any s.lim W)
                  have HQ : Hid (s.qOk = (decide ((0 : Int) < (a.frm.n : Int)) && (decide (0 ≤ s.lim) && decide (s.lim ≤ 2147483648)))) := by
                    unfold Hid St.qOk inB
                    rw [HPi.out, HPf.out, HPg.out, HP.out, HS.out.frm.1]
                    simp
                  generalize (decide (0 ≤ s.lim) && decide (s.lim ≤ 2147483648)) = u at *
                  by_cases hf : 0 < a.frm.n
                  · have hd : decide ((0 : Int) < (a.frm.n : Int)) = true := by simpa using hf
                    rw [hd] at HQ
                    cases u
                    all_goals
                      go_wp2_with (go_at_call 149; (with_reducible refine (HU.out _).mono ?_); rintro _ _ ⟨rfl, rfl⟩)
                      go_ret
                      exact ⟨ret_bool (by rw [← HR0.out, HQ.out]; rfl), HX.out.trans HXr.out⟩
                  · have hd : decide ((0 : Int) < (a.frm.n : Int)) = false := by simpa using hf
                    rw [hd] at HQ
                    go_wp2_with (go_at_call 149; (with_reducible refine (HU.out _).mono ?_); rintro _ _ ⟨rfl, rfl⟩)
                    go_ret
                    exact ⟨ret_bool (by rw [← HR0.out, HQ.out]; rfl), HX.out.trans HXr.out⟩
end Go.Proofs.YtcdnodjcnofogaaGreatDoor
