/-
  Walks over history: Explain.
-/
import Derived.Test.YtdjdhkbomhendaaGreatDoorHW45z
import Derived.Test.YtdjdhkbomhendaaGreatDoorHW13z
namespace Go.Proofs.YtdjdhkbomhendaaGreatDoor
open Go.RowKit
set_option linter.unusedVariables false
set_option linter.unusedSimpArgs false
set_option maxHeartbeats 4000000
set_option maxRecDepth 100000

theorem exp_cells {w : World} {g3 g7 : Nat} {t1 t2 : TypeId} {a0 a1 a2 a3 a4 a5 a6 a7 b0 b1 b2 : Value} (h : Blk w g3 t1 [a0, a1, a2, a3, a4, a5, a6, a7]) (k : Blk w g7 t2 [b0, b1, b2]) : w.cell? ⟨g3, 2, none⟩ = some a2 ∧ w.cell? ⟨g7, 0, none⟩ = some b0 := ⟨h.cell_some rfl, k.cell_some rfl⟩
theorem strs_take {S : List Tb} {tx : Int} {l : List Wt} {k : Nat} {x : Wt} (h : l[k]? = some x) : strs ((l.take (k + 1)).map (expW S tx)) = strs ((l.take k).map (expW S tx)) ++ [.string (expW S tx x)] := by
  rw [take_step h, List.map_append]
  unfold strs
  rw [List.map_append]
  rfl
theorem named_neg {S : List Tb} {x : Wt} (h : ¬ 0 ≤ x.tb) : namedW S x = false := by
  unfold namedW
  cases S[x.tb.toNat]? with
  | none => rfl
  | some t => simp [h]
theorem named_big {S : List Tb} {x : Wt} (h : 0 ≤ x.tb) (h2 : ¬ x.tb < (S.length : Int)) : namedW S x = false := by
  unfold namedW
  rw [List.getElem?_eq_none (by omega)]
theorem named_val {S : List Tb} {x : Wt} {t : Tb} {j : Nat} (h : x.tb = (j : Int)) (h2 : S[j]? = some t) : namedW S x = (t.cols.length == x.row.length) := by
  unfold namedW
  rw [h, Int.toNat_natCast, h2]
  simp
theorem explain_any (S : List Tb) (A0 : Option Addr) (nS cS : Nat) (e : Ev) (vr vw : Value) (w : World) (hS : TbsAt w A0 S) (hn : S.length = nS) (hsm : smS S) (hw : WsAt w vw e.wts) (hvr : ∃ A n c, vr = .slice A n c) (he : e.sm) (hSh : Sh w) (hT : Tab w) :
    Calls Tryz.prog 19 #[.slice A0 nS cS, evV e vr vw] w fun r w' => StrsR w.heap.size (expP S e) r w' ∧ Ext w w' := by
  obtain ⟨i0, hi, hz0, hz1, hz2⟩ := info_parts info_strs
  obtain ⟨Ar, nr0, cr, rfl⟩ := hvr
  obtain ⟨Bw, dw, rfl, hws⟩ := hw
  have HSA := hid hS
  have HNS := hid hn
  have HSm := hid hsm
  have HWs := hid hws
  have HEs := hid he
  have HSh := hid hSh
  have HT := hid hT
  have HTx : Hid (i64 e.tx) := he.1.2.2.1
  obtain ⟨m, hm⟩ : ∃ m, e.wts.length = m := ⟨_, rfl⟩
  have HM := hid hm
  have hm4 : m ≤ 4000 := by rw [← hm]; exact he.2.2.1
  have HM4 := hid hm4
  have HR1 : Hid (¬ e.kd = 2 → expP S e = []) := fun h => if_neg h
  have HR2 : Hid (e.kd = 2 → expP S e = e.wts.map (expW S e.tx)) := fun h => if_pos h
  unfold evV
  rw [hm]
  have HEx : Hid (e = e) := rfl
  obtain ⟨tx, htx⟩ : ∃ a, e.tx = a := ⟨_, rfl⟩
  obtain ⟨kd, hkd⟩ : ∃ a, e.kd = a := ⟨_, rfl⟩
  have Htx := hid htx
  have Hkd := hid hkd
  rw [htx] at HTx
  rw [hkd] at HR1 HR2
  rw [htx, hkd]
  clear hS hn hsm hws he hSh hT hm hm4 htx hkd HEx
  generalize e.ss = ss at *
  generalize e.st = st at *
  generalize e.er = er at *
  generalize e.ct = ct at *
  have HBe0 := hid (Blk.of_new w 36 [.int .i64 kd, .int .i64 ss, .int .i64 tx, .int .i64 st, .int .i64 er, .int .i64 ct, .slice Ar nr0 cr, .slice Bw m dw])
  have HX0 := hid ((Ext.refl w).alloc (.cells #[.int .i64 kd, .int .i64 ss, .int .i64 tx, .int .i64 st, .int .i64 er, .int .i64 ct, .slice Ar nr0 cr, .slice Bw m dw] 36))
  go_enter Tryz.func19, Tryz.ntmps19
  go_upto_region 1 with fail
  generalize w.alloc (.cells #[.int .i64 kd, .int .i64 ss, .int .i64 tx, .int .i64 st, .int .i64 er, .int .i64 ct, .slice Ar nr0 cr, .slice Bw m dw] 36) = W1 at *
  generalize w.heap.size = g3 at *
  obtain ⟨q1, hq1⟩ : ∃ q, W1.heap.size = q := ⟨_, rfl⟩
  have HQ1 := hid hq1
  clear hq1
  obtain ⟨x0, x1, x2, x3, x4, x5, x6, x7⟩ := blk8 HBe0.out
  by_cases hk2 : kd = 2
  · subst hk2
    have HR := hid (HR2.out rfl)
    go_wp2_with fail
    clear x0 x1 x2 x3 x4 x5 x6 x7
    go_loopw [5, 20] (fun sv iv wr => ∃ k : Nat, k ≤ m ∧ iv = .int .i64 k ∧ wr.ownsRow q1 9 1 sv k (strs ((e.wts.take k).map (expW S e.tx))) ∧ Ext W1 wr) (fun _ i _ => m - (intOf i).toNat)
    case atStart => exact ⟨0, Nat.zero_le _, rfl, World.ownsRow_nil _ _ _ _, Ext.refl W1⟩
    case round =>
      obtain ⟨k, hk, rfl, hown, hxr⟩ := hrel
      have HO := hid hown
      have HXr := hid hxr
      clear hown hxr
      generalize wr = W2 at *
      obtain ⟨As, cs, hvs⟩ := own_slice HO.out
      subst hvs
      have hk9 : k ≤ 4000 := by have := HM4.out; omega
      by_cases hlt : k < m
      · obtain ⟨x, hx⟩ : ∃ x, e.wts[k]? = some x := ⟨_, List.getElem?_eq_getElem (by rw [HM.out]; exact hlt)⟩
        obtain ⟨bw, ow, vx, rfl, c0, c1, c2, Ax, cx, rfl, hva⟩ := (HWs.out.ext (HX0.out.trans HXr.out)) k x hx
        have hxs := HEs.out.2.2.2.2 x (List.mem_of_getElem? hx)
        have HXs : Hid (i64 x.tx ∧ i64 x.tb ∧ x.row.length ≤ 4000 ∧ (∀ v ∈ x.row, i64 v.n) ∧ ∀ v ∈ x.row, v.t.size ≤ 4000000) := ⟨hxs.1, hxs.2.1, hxs.2.2.1, hxs.2.2.2.1, hxs.2.2.2.2⟩
        have HTk := hid (strs_take (S := S) (tx := e.tx) hx)
        clear hxs hx
        obtain ⟨nr, hnr⟩ : ∃ a, x.row.length = a := ⟨_, rfl⟩
        have HNr := hid hnr
        obtain ⟨xtx, hxtx⟩ : ∃ a, x.tx = a := ⟨_, rfl⟩
        have Htx2 := hid hxtx.symm
        obtain ⟨tb, htb⟩ : ∃ a, x.tb = a := ⟨_, rfl⟩
        have Htb := hid htb.symm
        rw [hnr] at c2
        rw [hxtx] at c0
        rw [htb] at c1
        clear hnr hxtx htb
        have hxa := (Ext.refl W2).alloc (.cells #[.int .i64 xtx, .int .i64 tb, .slice Ax nr cx] 62)
        have HX3 := hid hxa
        have HB7 := hid (Blk.of_new W2 62 [.int .i64 xtx, .int .i64 tb, .slice Ax nr cx])
        have HVa := hid (hva.ext hxa)
        have HBe3 := hid (HBe0.out.ext (HXr.out.trans hxa))
        have HXo3' := hid (HX0.out.trans (HXr.out.trans hxa))
        have HO2 := hid HO.out
        clear hva hxa
        go_upto_region 7 with fail
        clear c0 c1 c2
        generalize W2.alloc (.cells #[.int .i64 xtx, .int .i64 tb, .slice Ax nr cx] 62) = W2a at *
        obtain ⟨g7, hg7⟩ : ∃ g7, W2.heap.size = g7 := ⟨_, rfl⟩
        have HG7 := hid hg7
        rw [hg7] at HB7 ⊢
        clear hg7
        obtain ⟨nm, hnm⟩ : ∃ nm, namedW S x = nm := ⟨_, rfl⟩
        have HNm := hid hnm
        clear hnm
        have d0 := Later.keep (HB7.out.cell_some (i := 0) rfl)
        have d1 := Later.keep (HB7.out.cell_some (i := 1) rfl)
        have d2 := Later.keep (HB7.out.cell_some (i := 2) rfl)
        go_cut [8] from 24 to 46 (fun v wx => v = .bool nm ∧ Ext W2a wx)
        case first =>
          by_cases h0 : 0 ≤ tb
          · by_cases h1 : tb < (nS : Int)
            · obtain ⟨j, hj⟩ : ∃ j : Nat, tb = (j : Int) := ⟨tb.toNat, (Int.toNat_of_nonneg h0).symm⟩
              subst hj
              have hjl : j < S.length := by rw [HNS.out]; omega
              obtain ⟨t, ht⟩ : ∃ t, S[j]? = some t := ⟨_, List.getElem?_eq_getElem hjl⟩
              obtain ⟨bs, os, vs, rfl, n0, n1, A2, c2, rfl, n3⟩ := (HSA.out.ext HXo3'.out) j t ht
              have n1' := Later.keep n1
              have hv := named_val Htb.out.symm ht
              rw [HNm.out] at hv
              have h0' : decide ((0 : Int) ≤ (j : Int)) = true := decide_eq_true h0
              have h1' : decide ((j : Int) < (nS : Int)) = true := decide_eq_true h1
              have hj2 : (((t.cols.length : Int) == (nr : Int))) = nm := by
                rw [hv, ibeq, ← HNr.out]
              clear ht n3 hv n0 n1 h0 hjl HSA
              generalize t.cols.length = tc at *
              go_wp2_with fail
              refine wp_region_later (by kernel_rfl) (by kernel_rfl) ?_
              repeat (go_big_quiet_step (fail))
              refine wpQuiet_nil ?_
              first | (intro w9 hw9; have hx9 := later_out hw9; clear hw9) | (rintro w9; have hx9 := later_out ⟨w9, rfl⟩)
              go_wp2_with fail
              go_meet
              exact ⟨rfl, hx9⟩
            · obtain rfl : nm = false := HNm.out.symm.trans (named_big (by rw [← Htb.out]; exact h0) (by rw [← Htb.out, HNS.out]; exact h1))
              have h0' : decide ((0 : Int) ≤ tb) = true := decide_eq_true h0
              have h1' : decide (tb < (nS : Int)) = false := decide_eq_false h1
              clear h0 h1
              go_wp2_with fail
              refine wp_region_later (by kernel_rfl) (by kernel_rfl) ?_
              repeat (go_big_quiet_step (fail))
              refine wpQuiet_nil ?_
              first | (intro w9 hw9; have hx9 := later_out hw9; clear hw9) | (rintro w9; have hx9 := later_out ⟨w9, rfl⟩)
              go_wp2_with fail
              go_meet
              exact ⟨rfl, hx9⟩
          · obtain rfl : nm = false := HNm.out.symm.trans (named_neg (by rw [← Htb.out]; exact h0))
            have h0' : decide ((0 : Int) ≤ tb) = false := decide_eq_false h0
            clear h0
            go_wp2_with fail
            refine wp_region_later (by kernel_rfl) (by kernel_rfl) ?_
            repeat (go_big_quiet_step (fail))
            refine wpQuiet_nil ?_
            first | (intro w9 hw9; have hx9 := later_out hw9; clear hw9) | (rintro w9; have hx9 := later_out ⟨w9, rfl⟩)
            go_wp2_with fail
            go_meet
            exact ⟨rfl, hx9⟩
        case rest =>
          obtain ⟨rfl, hxc⟩ := hcut
          generalize wc = W3 at *
          have HB7b := hid (HB7.out.ext hxc)
          have HBe4 := hid (HBe3.out.ext hxc)
          have HVb := hid (HVa.out.ext hxc)
          have HXo3 := hid (HXo3'.out.trans hxc)
          have HX3b := hid (HX3.out.trans hxc)
          clear hxc HB7 HBe3 HVa HXo3' HX3 d0 d1 d2
          have HXr3 := hid (HXr.out.trans HX3b.out)
          have HK9 : Hid (k ≤ 4000) := by have := HM4.out; unfold Hid; omega
          have HNq : Hid (nm = true → ∃ (j b off : Nat) (Ac : Option Addr) (cc : Nat), tb = (j : Int) ∧ j < nS ∧ A0 = some ⟨b, off, none⟩ ∧ W3.cell? ⟨b, off + j * 5, none⟩ = some (.string (tbOf S x).nm) ∧ W3.cell? ⟨b, off + j * 5 + 1, none⟩ = some (.slice Ac nr cc) ∧ (tbOf S x).nm.size ≤ 1000 ∧
              ∀ (i : Nat), i < nr → ∃ b2 off2, Ac = some ⟨b2, off2, none⟩ ∧ W3.cell? ⟨b2, off2 + i * 6, none⟩ = some (.string (((tbOf S x).cols[i]?).getD ⟨#[]⟩)) ∧ (((tbOf S x).cols[i]?).getD ⟨#[]⟩).size ≤ 1000) := fun h => by
            subst h
            rcases named_at (x := x) (HSA.out.ext HXo3.out) with h | ⟨j, bs, os, Ac, cc, _, hj, hjl, hA, n0, n1, n2⟩
            · rw [HNm.out] at h
              cases h
            · rw [HNS.out] at hjl
              rw [HNr.out] at n1 n2
              exact ⟨j, bs, os, Ac, cc, Htb.out.trans hj, hjl, hA, n0, n1, (tb_sm HSm.out x).1, fun i hi => by
                obtain ⟨b2, o2, h1, h2⟩ := n2 i hi
                exact ⟨b2, o2, h1, h2, getD_sz (tb_sm HSm.out x).2 i⟩⟩
          have d2 := HB7b.out.cell_some (i := 2) rfl
          go_wp2_with fail
          clear d2
          go_loopw [9, 50] (fun sv iv wr => ∃ k2 : Nat, k2 ≤ nr ∧ iv = .int .i64 k2 ∧ wr.ownsRow W3.heap.size 9 1 sv k2 (strs (pcsW S x k2)) ∧ Ext W3 wr) (fun _ i _ => nr - (intOf i).toNat)
          case atStart => exact ⟨0, Nat.zero_le _, rfl, World.ownsRow_nil _ _ _ _, Ext.refl W3⟩
          case round =>
            obtain ⟨k2, hk2, rfl, hown, hxr3⟩ := hrel
            have HOl := hid hown
            have HX4 := hid hxr3
            clear hown hxr3
            generalize wr = W4 at *
            obtain ⟨Al, cl, hvl⟩ := own_slice HOl.out
            subst hvl
            have HB7a := hid (HB7b.out.ext HX4.out)
            have HBe := hid (HBe4.out.ext HX4.out)
            have hk29 : k2 ≤ 4000 := by have := HXs.out.2.2.1; have := HNr.out; omega
            by_cases hlt2 : k2 < nr
            · obtain ⟨v, hv⟩ : ∃ v, x.row[k2]? = some v := ⟨_, List.getElem?_eq_getElem (by rw [HNr.out]; exact hlt2)⟩
              obtain ⟨bv, ov, rfl, v0, v1, v2⟩ := (HVb.out.ext HX4.out) k2 v hv
              have HPs := hid (pcs_step (S := S) hv)
              have hvm := List.mem_of_getElem? hv
              have HVn := hid (HXs.out.2.2.2.1 v hvm)
              have HVt := hid (HXs.out.2.2.2.2 v hvm)
              have HPz : Hid ((pcW S x k2 v).size ≤ 1043) := pc_sz HSm.out HVn.out k2
              have HFv := hid (fun W (hW : Ext W4 W) => format_any v.k v.n v.t W HVt.out (HSh.out.ext ((HXo3.out.trans HX4.out).trans hW)) (.inr ⟨HT.out.ext ((HXo3.out.trans HX4.out).trans hW), HVn.out⟩))
              have hfz := fmtV_sz HVn.out
              have HPv : Hid (pcW S x k2 v = if namedW S x = true then ((tbOf S x).cols[k2]?).getD ⟨#[]⟩ ++ ⟨#[32, 61, 32]⟩ ++ fmtV v else fmtV v) := rfl
              have hfe : fmtV ⟨v.k, v.n, v.t⟩ = fmtV v := rfl
              rw [hfe] at HFv
              clear hfe hvm hv
              generalize fmtV v = FV at *
              obtain ⟨vk, hvk⟩ : ∃ a, v.k = a := ⟨_, rfl⟩
              obtain ⟨vn, hvn⟩ : ∃ a, v.n = a := ⟨_, rfl⟩
              obtain ⟨vt, hvt⟩ : ∃ a, v.t = a := ⟨_, rfl⟩
              rw [hvk, hvn, hvt] at HFv
              rw [hvk] at v0
              rw [hvn] at v1
              rw [hvt] at v2
              clear hvk hvn hvt HVn HVt
              have hxa := (Ext.refl W4).alloc (.cells #[.int .i64 vk, .int .i64 vn, .string vt] 88)
              have HXa := hid hxa
              have HBv := hid (Blk.of_new W4 88 [.int .i64 vk, .int .i64 vn, .string vt])
              go_upto_region 12 with fail
              generalize W4.alloc (.cells #[.int .i64 vk, .int .i64 vn, .string vt] 88) = W5 at *
              generalize W4.heap.size = gv at *
              obtain ⟨t0, t1, t2⟩ := blk3 HBv.out
              go_upto_region 13 with (go_at_call 48; (with_reducible refine (HFv.out _ HXa.out).mono ?_); rintro _ w6 ⟨rfl, hx6⟩)
              have HX6 := hid (HXa.out.trans hx6)
              clear hx6 t0 t1 t2 HBv HXa v0 v1 v2 hxa
              have HArm : Hid (∀ (P : ByteArray) (v9 : Value) (w9 : World), pcW S x k2 v = P → w9.ownsRow W3.heap.size 9 1 v9 (k2 + 1) (strs (pcsW S x k2) ++ [.string P]) → (w6.alloc (.cells #[.string P] 9)).grownBy w9 (Value.slice Al k2 cl).ownBlock → w9.ownsRow W3.heap.size 9 1 v9 (k2 + 1) (strs (pcsW S x (k2 + 1))) ∧ Ext W3 w9) := fun P v9 w9 hP hown hgr => by
                subst hP
                refine ⟨?_, Ext.grown ((HX4.out.trans HX6.out).alloc _) hgr fun q hq => own_ge HOl.out hq⟩
                rw [HPs.out]
                unfold strs at hown ⊢
                rw [List.map_append]
                exact hown
              obtain ⟨PV, hPV⟩ : ∃ PV, pcW S x k2 v = PV := ⟨_, rfl⟩
              have HPV := hid hPV
              clear hPV
              have HSi2 : Hid (W3.heap.size ≤ w6.heap.size) := by have := HX4.out.size; have := HX6.out.size; unfold Hid; omega
              have HK29 : Hid (k2 ≤ 4000) := by have := HXs.out.2.2.1; have := HNr.out; unfold Hid; omega
              have HOl6 := hid (ownN_ext HOl.out HX6.out)
              go_upto_if 57 with fail
              go_cut [12] from 58 to 70 (fun sv wx => sv = .string PV ∧ wx = w6)
              case first =>
                cases nm
                · have hp : FV = PV := by rw [← HPV.out, HPv.out, if_neg (by rw [HNm.out]; simp)]
                  subst hp
                  go_wp2_with fail
                  go_meet
                  exact ⟨rfl, rfl⟩
                · obtain ⟨j, bs, os, Ac, cc, rfl, hjl, rfl, n0, n1, _, n2⟩ := HNq.out rfl
                  obtain ⟨b2, off2, rfl, cn, hczz⟩ := n2 k2 hlt2
                  have cnm := (HX4.out.trans HX6.out).keep cn
                  have csl := (HX4.out.trans HX6.out).keep n1
                  have hp := HPv.out
                  rw [if_pos HNm.out, HPV.out] at hp
                  generalize ((tbOf S x).cols[k2]?).getD ⟨#[]⟩ = CN at *
                  have HB76 := hid (HB7a.out.ext HX6.out)
                  have c71 : w6.cell? ⟨g7, 1, none⟩ = some (.int .i64 (j : Int)) := HB76.out.cell_some rfl
                  have i0' : (0 : Int) ≤ (j : Int) := by omega
                  have i1' : (j : Int) < (nS : Int) := by omega
                  have i2' : (0 : Int) ≤ (k2 : Int) := by omega
                  have i3' : (k2 : Int) < (nr : Int) := by omega
                  have HP := hid hp
                  clear hp n0 n1 n2 cn
                  go_wp2_with fail
                  go_meet
                  exact ⟨congrArg Value.string HP.out.symm, rfl⟩
              case rest =>
              obtain ⟨rfl, rfl⟩ := hcut
              generalize wc = w6 at *
              go_wp2_with (at_builtin; refine wpList_append_any _ rfl (.tmp 71) (.tmp 73) 39 rfl W3.heap.size 9 i0 _ 1 16 Tryz.underlying39 hi hz0 hz1 hz2 rfl (by decide) _ k2 _ rfl (HOl6.out.alloc _) _ _ 1 1 [.string PV] rfl (reads_new1 _ _ _) (by simp [Value.oneCell']) (by have := HK29.out; unfold maxLen; omega) (by have := HK29.out; omega) (by have := HSi2.out; simp; omega) ?_; intro v9 w9 hown9 hgr9 hblk9; obtain ⟨ho9, hx9⟩ := HArm.out _ _ _ HPV.out hown9 hgr9)
              have HO9 := hid ho9
              have HX9 := hid hx9
              clear ho9 hx9 hown9 hgr9 hblk9
              go_roundw
              case rel => exact ⟨k2 + 1, by omega, by go_num, HO9.out, HX9.out⟩
              case measure => simp [intOf]; omega
            · have hkn : nr = k2 := by omega
              subst hkn
              have HJs : Hid ((joinB (pcsW S x nr)).size ≤ 4200000) := pcs_join HSm.out HXs.out.2.2.1 HXs.out.2.2.2.1 nr (Nat.le_of_eq HNr.out.symm)
              have hpl : (pcsW S x nr).length = nr := pcs_len (Nat.le_of_eq HNr.out.symm)
              have HJc : Hid (∀ W, Ext W4 W → Calls Tryz.prog 51 #[.slice Al nr cl, .string ⟨#[44, 32]⟩] W fun e w' => e = .returned (.string (joinB (pcsW S x nr))) ∧ Ext W w') := fun W hW => join_own W3.heap.size (.slice Al nr cl) (pcsW S x nr) W (by rw [hpl]; exact ownN_ext HOl.out hW) (by rw [hpl]; have := HXs.out.2.2.1; have := HNr.out; omega) (by have := HJs.out; omega)
              have hj : joinB (pcsW S x x.row.length) = joinB (pcsW S x nr) := by rw [HNr.out]
              obtain ⟨J, hJ⟩ : ∃ J, joinB (pcsW S x nr) = J := ⟨_, rfl⟩
              rw [hJ] at HJs HJc hj
              have HJ : Hid (J = joinB (pcsW S x x.row.length)) := hj.symm
              have s3 : J.size ≤ 4200000 := HJs.out
              clear hJ hj hpl
              have HXo4 := hid (HXo3.out.trans HX4.out)
              have HF1 := hid (fun W (hW : Ext W4 W) => fmtint_any tx W (.inr ⟨HT.out.ext (HXo4.out.trans hW), HTx.out⟩))
              have HF2 := hid (fun W (hW : Ext W4 W) => fmtint_any xtx W (.inr ⟨HT.out.ext (HXo4.out.trans hW), by rw [Htx2.out]; exact HXs.out.1⟩))
              have i1s : (itoB tx).size ≤ 21 := itoB_sz HTx.out
              obtain ⟨I1, hI1⟩ : ∃ I1, itoB tx = I1 := ⟨_, rfl⟩
              have HI1 := hid hI1.symm
              rw [hI1] at HF1 i1s
              have i2s : (itoB xtx).size ≤ 21 := itoB_sz (by rw [Htx2.out]; exact HXs.out.1)
              obtain ⟨I2, hI2⟩ : ∃ I2, itoB xtx = I2 := ⟨_, rfl⟩
              have HI2 := hid hI2.symm
              rw [hI2] at HF2 i2s
              clear hI1 hI2
              have HF3 := hid (fun W (hW : Ext W4 W) => itoa_any tb W (.inr ⟨HT.out.ext (HXo4.out.trans hW), by rw [Htb.out]; exact HXs.out.2.1⟩))
              have i3s : (itoB tb).size ≤ 21 := itoB_sz (by rw [Htb.out]; exact HXs.out.2.1)
              obtain ⟨I3, hI3⟩ : ∃ I3, itoB tb = I3 := ⟨_, rfl⟩
              have HI3 := hid hI3.symm
              rw [hI3] at HF3 i3s
              clear hI3
              have c71 := HB7a.out.cell_some (i := 1) rfl
              go_upto_if 80 with (go_at_call 49; (with_reducible refine (HF3.out _ (Ext.refl W4)).mono ?_); rintro _ w5 ⟨rfl, hx5⟩)
              have HXw := hid hx5
              have c71 := (HB7a.out.ext hx5).cell_some (i := 1) rfl
              clear hx5
              generalize w5 = W5 at *
              have hes := end_sz HSm.out HXs.out.2.1
              have hee : endW S x = if namedW S x = true then ⟨#[32, 111, 102, 32]⟩ ++ (tbOf S x).nm else ⟨#[32, 111, 102, 32, 116, 97, 98, 108, 101, 32]⟩ ++ itoB x.tb := rfl
              obtain ⟨EN, hen⟩ : ∃ EN, endW S x = EN := ⟨_, rfl⟩
              have HEn : Hid (EN = endW S x) := hen.symm
              have HEe : Hid (EN = if namedW S x = true then ⟨#[32, 111, 102, 32]⟩ ++ (tbOf S x).nm else ⟨#[32, 111, 102, 32, 116, 97, 98, 108, 101, 32]⟩ ++ itoB x.tb) := hen.symm.trans hee
              rw [hen] at hes
              clear hee hen
              go_cut [13] from 81 to 87 (fun sv wx => sv = .string EN ∧ wx = W5)
              case first =>
                cases nm
                · have hp := HEe.out
                  rw [if_neg (by rw [HNm.out]; simp), ← Htb.out, ← HI3.out] at hp
                  have HP := hid hp
                  clear hp
                  go_wp2_with fail
                  go_meet
                  exact ⟨congrArg Value.string HP.out.symm, rfl⟩
                · obtain ⟨j, bs, os, Ac, cc, rfl, hjl, rfl, n0, n1, hnz, n2⟩ := HNq.out rfl
                  have hp := HEe.out
                  rw [if_pos HNm.out] at hp
                  have cn0 := (HX4.out.trans HXw.out).keep n0
                  generalize (tbOf S x).nm = NM at *
                  have i0' : (0 : Int) ≤ (j : Int) := by omega
                  have i1' : (j : Int) < (nS : Int) := by omega
                  have HP := hid hp
                  clear hp n0 n1 n2
                  go_wp2_with fail
                  go_meet
                  exact ⟨congrArg Value.string HP.out.symm, rfl⟩
              case rest =>
              obtain ⟨rfl, rfl⟩ := hcut
              generalize wc = W5 at *
              clear c71
              go_upto_region 20 with fail
              have HCt : Hid ((⟨#[116, 114, 97, 110, 115, 97, 99, 116, 105, 111, 110, 32]⟩ ++ I1 ++ ⟨#[32, 119, 97, 105, 116, 115, 32, 102, 111, 114, 32, 116, 114, 97, 110, 115, 97, 99, 116, 105, 111, 110, 32]⟩ ++ I2 ++ ⟨#[58, 32, 114, 111, 119, 32, 40]⟩ ++ J ++ ⟨#[41]⟩ ++ EN : ByteArray) = expW S e.tx x) := by
                unfold Hid expW headW trW wfW rwW
                rw [HI1.out, HI2.out, HJ.out, HEn.out, ← Htx.out, Htx2.out]

              have HXf := hid (HX3b.out.trans (HX4.out.trans HXw.out))
              have HOs := hid (ownN_ext HO2.out HXf.out)
              have HBs := hid (HB7a.out.ext HXw.out)
              have HBt := hid (HBe.out.ext HXw.out)
              have HXo := hid (HXr.out.trans HXf.out)
              have HSi : Hid (q1 ≤ W5.heap.size) := by have := HXo.out.size; have := HQ1.out; unfold Hid; omega
              obtain ⟨y0, y1, y2⟩ := blk3 HBs.out
              obtain ⟨z0, z1, z2, z3, z4, z5, z6, z7⟩ := blk8 HBt.out
              clear y1 y2 z0 z1 z3 z4 z5 z6 z7
              have HNe : Hid (some g3 ≠ (Value.slice As k cs).ownBlock ∧ some g7 ≠ (Value.slice As k cs).ownBlock) := by
                refine ⟨fun h => ?_, fun h => ?_⟩
                · have h1 := own_ge HO2.out h.symm
                  have h2 := HBe0.out.lt
                  have h3 := HQ1.out
                  omega
                · have h1 := own_lt HO.out h.symm
                  have h2 := HG7.out
                  omega
              have HGe : Hid (∀ q, (Value.slice As k cs).ownBlock = some q → W1.heap.size ≤ q) := fun q hq => by
                have h1 := own_ge HO2.out hq
                have h3 := HQ1.out
                omega
              go_region_held_law (fun w' => w'.cell? ⟨g3, 2, none⟩ = some (.int .i64 tx) ∧ w'.cell? ⟨g7, 0, none⟩ = some (.int .i64 xtx))
                (first | go_keep | exact exp_cells (HBt.out.ext hx5) (HBs.out.ext hx5) | exact exp_cells ((HBt.out.ext hx5).ext hx6) ((HBs.out.ext hx5).ext hx6) | exact exp_cells (((HBt.out.ext hx5).ext hx6).ext hx7) (((HBs.out.ext hx5).ext hx6).ext hx7) | exact exp_cells ((((HBt.out.ext hx5).ext hx6).ext hx7).ext ((Ext.refl _).alloc _)) ((((HBs.out.ext hx5).ext hx6).ext hx7).ext ((Ext.refl _).alloc _)) | exact exp_cells (((((HBt.out.ext hx5).ext hx6).ext hx7).ext ((Ext.refl _).alloc _)).grown hgr9 (by intro h; exact HNe.out.1 h)) (((((HBs.out.ext hx5).ext hx6).ext hx7).ext ((Ext.refl _).alloc _)).grown hgr9 (by intro h; exact HNe.out.2 h)))
                (first
                  | (have hh := hx7; refine step_append_any _ rfl (.tmp 88) (.tmp 105) 39 rfl q1 9 i0 _ 1 16 Tryz.underlying39 hi hz0 hz1 hz2 rfl (by decide) _ k _ rfl ((ownN_ext HOs.out ((hx5.trans hx6).trans hx7)).alloc _) _ _ 1 1 [.string (expW S e.tx x)] rfl (by rw [HCt.out]; exact reads_new1 _ _ _) (by simp [Value.oneCell']) (by have := HK9.out; unfold maxLen; omega) (by have := HK9.out; omega) (by have := HSi.out; have := ((hx5.trans hx6).trans hx7).size; simp; omega) ?_; intro v9 w9 hown9 hgr9 hblk9; dsimp only [List.getElem_toArray, List.getElem_cons_succ, List.getElem_cons_zero])
                  | (go_at_call 51; have hh := hx6; (with_reducible refine (HJc.out _ (HXw.out.trans (hx5.trans hx6))).mono ?_); rintro _ w7 ⟨rfl, hx7⟩)
                  | (go_at_call 50; have hh := hx5; (with_reducible refine (HF2.out _ (HXw.out.trans hx5)).mono ?_); rintro _ w6 ⟨rfl, hx6⟩)
                  | (go_at_call 50; (with_reducible refine (HF1.out _ HXw.out.drew).mono ?_); rintro _ w5 ⟨rfl, hx5⟩; replace hx5 : Ext W5 w5 := (Ext.refl W5).drew.trans hx5))
              all_goals
                have HX9 : Hid (Ext W1 w9) := by
                  first
                    | exact Ext.grown ((HXo.out.trans ((hx5.trans hx6).trans hx7)).alloc _) hgr9 HGe.out
                    | exact Ext.grown ((HXo.out.trans ((hx5.trans hx6).trans hx7)).drew.alloc _) hgr9 HGe.out
                    | exact Ext.grown ((HXo.out.trans ((hx5.trans hx6).trans hx7)).alloc _).drew hgr9 HGe.out
                have HO9 := hid hown9
                clear hown9 hgr9 hblk9 hx5 hx6 hx7
                go_wp2_with fail
                go_roundw
                case rel => exact ⟨k + 1, by omega, by go_num, by rw [HTk.out]; exact HO9.out, HX9.out⟩
                case measure => simp [intOf]; omega
      · have hkm : m = k := by omega
        subst hkm
        have ho := HO.out
        rw [List.take_of_length_le (Nat.le_of_eq HM.out)] at ho
        have HOf := hid ho
        clear ho
        go_wp2_with fail
        go_ret
        refine ⟨⟨_, rfl, ?_⟩, HX0.out.trans HXr.out⟩
        rw [HR.out, List.length_map, HM.out]
        exact own_base HOf.out (by have := HX0.out.size; have := HQ1.out; omega)
  · have HR := hid (HR1.out hk2)
    have e2 : (kd != 2) = true := bne_iff_ne.2 hk2
    go_wp2_with fail
    go_ret
    exact ⟨⟨_, rfl, by rw [HR.out]; exact World.ownsRow_nil _ _ _ _⟩, HX0.out⟩
end Go.Proofs.YtdjdhkbomhendaaGreatDoor
