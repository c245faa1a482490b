/-
  Walks over history: the reference's Explain.
-/
import Derived.Test.YtdjdhkbomhendaaGreatDoorHW46z
import Derived.Test.YtdjdhkbomhendaaGreatDoorHW14z
import Derived.Test.YtdjdhkbomhendaaGreatDoorGq
import Derived.Test.YtdjdhkbomhendaaGreatDoorGc
namespace Go.Proofs.YtdjdhkbomhendaaGreatDoor
open Go.RowKit
set_option linter.unusedVariables false
set_option linter.unusedSimpArgs false
set_option maxHeartbeats 4000000
set_option maxRecDepth 100000

theorem rexplain_any (S : List Tb) (A0 : Option Addr) (nS cS : Nat) (e : Ev) (vr vw : Value) (w : World) (hS : TbsAt w A0 S) (hn : S.length = nS) (hsm : smS S) (hw : WsAt w vw e.wts) (hvr : ∃ A n c, vr = .slice A n c) (he : e.sm) (hT : Tab w) :
    Calls Tryz.prog 20 #[.slice A0 nS cS, evV e vr vw] w fun r w' => StrsR w.heap.size (expP S e) r w' ∧ Ext w w' := by
  obtain ⟨i0, hi, hz0, hz1, hz2⟩ := info_parts info_strs
  obtain ⟨Ar, nr0, cr, rfl⟩ := hvr
  obtain ⟨Bw, dw, rfl, hws⟩ := hw
  have HSA := hid hS
  have HNS := hid hn
  have HSm := hid hsm
  have HWs := hid hws
  have HEs := hid he
  have HT := hid hT
  have HTx : Hid (i64 e.tx) := he.1.2.2.1
  obtain ⟨m, hm⟩ : ∃ m, e.wts.length = m := ⟨_, rfl⟩
  have HM := hid hm
  have hm4 : m ≤ 4000 := by rw [← hm]; exact he.2.2.1
  have HM4 := hid hm4
  have HR1 : Hid (¬ e.kd = 2 → expP S e = []) := fun h => if_neg h
  have HR2 : Hid (e.kd = 2 → expP S e = e.wts.map (expW S e.tx)) := fun h => if_pos h
  unfold evV
  rw [hm]
  have HEx : Hid (e = e) := rfl
  obtain ⟨tx, htx⟩ : ∃ a, e.tx = a := ⟨_, rfl⟩
  obtain ⟨kd, hkd⟩ : ∃ a, e.kd = a := ⟨_, rfl⟩
  have Htx := hid htx
  have Hkd := hid hkd
  rw [htx] at HTx
  rw [hkd] at HR1 HR2
  rw [htx, hkd]
  clear hS hn hsm hws he hT hm hm4 htx hkd HEx
  generalize e.ss = ss at *
  generalize e.st = st at *
  generalize e.er = er at *
  generalize e.ct = ct at *
  have HBe0 := hid (Blk.of_new w 36 [.int .i64 kd, .int .i64 ss, .int .i64 tx, .int .i64 st, .int .i64 er, .int .i64 ct, .slice Ar nr0 cr, .slice Bw m dw])
  have HX0 := hid ((Ext.refl w).alloc (.cells #[.int .i64 kd, .int .i64 ss, .int .i64 tx, .int .i64 st, .int .i64 er, .int .i64 ct, .slice Ar nr0 cr, .slice Bw m dw] 36))
  go_enter Tryz.func20, Tryz.ntmps20
  go_upto_region 1 with fail
  generalize w.alloc (.cells #[.int .i64 kd, .int .i64 ss, .int .i64 tx, .int .i64 st, .int .i64 er, .int .i64 ct, .slice Ar nr0 cr, .slice Bw m dw] 36) = W1 at *
  generalize w.heap.size = g3 at *
  obtain ⟨q1, hq1⟩ : ∃ q, W1.heap.size = q := ⟨_, rfl⟩
  have HQ1 := hid hq1
  clear hq1
  have HBe1 := hid (HBe0.out.ext ((Ext.refl W1).alloc (.cells #[] 9)))
  have HE1 := hid (own_empty W1 q1 9 1 (Nat.le_of_eq HQ1.out.symm))
  have HXe1 := hid ((Ext.refl W1).alloc (.cells #[] 9))
  go_upto_region 2 with fail
  generalize W1.alloc (.cells #[] 9) = W1b at *
  have hq1' : W1.heap.size = q1 := HQ1.out
  rw [hq1'] at HE1 ⊢
  clear hq1'
  obtain ⟨x0, x1, x2, x3, x4, x5, x6, x7⟩ := blk8 HBe1.out
  by_cases hk2 : kd = 2
  · subst hk2
    have HR := hid (HR2.out rfl)
    go_wp2_with fail
    clear x0 x1 x2 x3 x4 x5 x6 x7
    go_loopw [5, 6] (fun sv iv wr => ∃ k : Nat, k ≤ m ∧ iv = .int .i64 k ∧ wr.ownsRow q1 9 1 sv k (strs ((e.wts.take k).map (expW S e.tx))) ∧ Ext W1 wr) (fun _ i _ => m - (intOf i).toNat)
    case atStart => exact ⟨0, Nat.zero_le _, rfl, HE1.out, HXe1.out⟩
    case round =>
      obtain ⟨k, hk, rfl, hown, hxr⟩ := hrel
      have HO := hid hown
      have HXr := hid hxr
      clear hown hxr
      generalize wr = W2 at *
      obtain ⟨As, cs, hvs⟩ := own_slice HO.out
      subst hvs
      have hk9 : k ≤ 4000 := by have := HM4.out; omega
      have x7 := (HBe0.out.ext HXr.out).cell_some (i := 7) rfl
      by_cases hlt : k < m
      · obtain ⟨x, hx⟩ : ∃ x, e.wts[k]? = some x := ⟨_, List.getElem?_eq_getElem (by rw [HM.out]; exact hlt)⟩
        obtain ⟨bw, ow, vx, rfl, c0, c1, c2, Ax, cx, rfl, hva⟩ := (HWs.out.ext (HX0.out.trans HXr.out)) k x hx
        have hxs := HEs.out.2.2.2.2 x (List.mem_of_getElem? hx)
        have HXs : Hid (i64 x.tx ∧ i64 x.tb ∧ x.row.length ≤ 4000 ∧ (∀ v ∈ x.row, i64 v.n) ∧ ∀ v ∈ x.row, v.t.size ≤ 4000000) := ⟨hxs.1, hxs.2.1, hxs.2.2.1, hxs.2.2.2.1, hxs.2.2.2.2⟩
        have HTk := hid (strs_take (S := S) (tx := e.tx) hx)
        clear hxs hx
        obtain ⟨nr, hnr⟩ : ∃ a, x.row.length = a := ⟨_, rfl⟩
        have HNr := hid hnr
        obtain ⟨xtx, hxtx⟩ : ∃ a, x.tx = a := ⟨_, rfl⟩
        have Htx2 := hid hxtx.symm
        obtain ⟨tb, htb⟩ : ∃ a, x.tb = a := ⟨_, rfl⟩
        have Htb := hid htb.symm
        rw [hnr] at c2
        rw [hxtx] at c0
        rw [htb] at c1
        clear hnr hxtx htb
        have hxa := (Ext.refl W2).alloc (.cells #[.int .i64 xtx, .int .i64 tb, .slice Ax nr cx] 62)
        have HX3 := hid hxa
        have HB7 := hid (Blk.of_new W2 62 [.int .i64 xtx, .int .i64 tb, .slice Ax nr cx])
        have HVa := hid (hva.ext hxa)
        have HBe3 := hid (HBe0.out.ext (HXr.out.trans hxa))
        have HXo3' := hid (HX0.out.trans (HXr.out.trans hxa))
        have HO2 := hid HO.out
        clear hva hxa
        go_upto_region 8 with fail
        clear c0 c1 c2 x7
        generalize W2.alloc (.cells #[.int .i64 xtx, .int .i64 tb, .slice Ax nr cx] 62) = W2a at *
        obtain ⟨g7, hg7⟩ : ∃ g7, W2.heap.size = g7 := ⟨_, rfl⟩
        have HG7 := hid hg7
        rw [hg7] at HB7 ⊢
        clear hg7
        obtain ⟨nm, hnm⟩ : ∃ nm, namedW S x = nm := ⟨_, rfl⟩
        have HNm := hid hnm
        clear hnm
        have d0 := Later.keep (HB7.out.cell_some (i := 0) rfl)
        have d1 := Later.keep (HB7.out.cell_some (i := 1) rfl)
        have d2 := Later.keep (HB7.out.cell_some (i := 2) rfl)
        go_cut [8] from 28 to 50 (fun v wx => v = .bool nm ∧ Ext W2a wx)
        case first =>
          by_cases h0 : 0 ≤ tb
          · by_cases h1 : tb < (nS : Int)
            · obtain ⟨j, hj⟩ : ∃ j : Nat, tb = (j : Int) := ⟨tb.toNat, (Int.toNat_of_nonneg h0).symm⟩
              subst hj
              have hjl : j < S.length := by rw [HNS.out]; omega
              obtain ⟨t, ht⟩ : ∃ t, S[j]? = some t := ⟨_, List.getElem?_eq_getElem hjl⟩
              obtain ⟨bs, os, vs, rfl, n0, n1, A2, c2, rfl, n3⟩ := (HSA.out.ext HXo3'.out) j t ht
              have n1' := Later.keep n1
              have hv := named_val Htb.out.symm ht
              rw [HNm.out] at hv
              have h0' : decide ((0 : Int) ≤ (j : Int)) = true := decide_eq_true h0
              have h1' : decide ((j : Int) < (nS : Int)) = true := decide_eq_true h1
              have hj2 : (((t.cols.length : Int) == (nr : Int))) = nm := by
                rw [hv, ibeq, ← HNr.out]
              clear ht n3 hv n0 n1 h0 hjl HSA
              generalize t.cols.length = tc at *
              go_wp2_with fail
              refine wp_region_later (by kernel_rfl) (by kernel_rfl) ?_
              repeat (go_big_quiet_step (fail))
              refine wpQuiet_nil ?_
              first | (intro w9 hw9; have hx9 := later_out hw9; clear hw9) | (rintro w9; have hx9 := later_out ⟨w9, rfl⟩)
              go_wp2_with fail
              go_meet
              exact ⟨rfl, hx9⟩
            · obtain rfl : nm = false := HNm.out.symm.trans (named_big (by rw [← Htb.out]; exact h0) (by rw [← Htb.out, HNS.out]; exact h1))
              have h0' : decide ((0 : Int) ≤ tb) = true := decide_eq_true h0
              have h1' : decide (tb < (nS : Int)) = false := decide_eq_false h1
              clear h0 h1
              go_wp2_with fail
              refine wp_region_later (by kernel_rfl) (by kernel_rfl) ?_
              repeat (go_big_quiet_step (fail))
              refine wpQuiet_nil ?_
              first | (intro w9 hw9; have hx9 := later_out hw9; clear hw9) | (rintro w9; have hx9 := later_out ⟨w9, rfl⟩)
              go_wp2_with fail
              go_meet
              exact ⟨rfl, hx9⟩
          · obtain rfl : nm = false := HNm.out.symm.trans (named_neg (by rw [← Htb.out]; exact h0))
            have h0' : decide ((0 : Int) ≤ tb) = false := decide_eq_false h0
            clear h0
            go_wp2_with fail
            refine wp_region_later (by kernel_rfl) (by kernel_rfl) ?_
            repeat (go_big_quiet_step (fail))
            refine wpQuiet_nil ?_
            first | (intro w9 hw9; have hx9 := later_out hw9; clear hw9) | (rintro w9; have hx9 := later_out ⟨w9, rfl⟩)
            go_wp2_with fail
            go_meet
            exact ⟨rfl, hx9⟩
        case rest =>
          obtain ⟨rfl, hxc⟩ := hcut
          generalize wc = W3 at *
          have HB7b := hid (HB7.out.ext hxc)
          have HBe4 := hid (HBe3.out.ext hxc)
          have HVb := hid (HVa.out.ext hxc)
          have HXo3 := hid (HXo3'.out.trans hxc)
          have HX3b := hid (HX3.out.trans hxc)
          clear hxc HB7 HBe3 HVa HXo3' HX3 d0 d1 d2
          have HXr3 := hid (HXr.out.trans HX3b.out)
          have HK9 : Hid (k ≤ 4000) := by have := HM4.out; unfold Hid; omega
          have HNq : Hid (nm = true → ∃ (j b off : Nat) (Ac : Option Addr) (cc : Nat), tb = (j : Int) ∧ j < nS ∧ A0 = some ⟨b, off, none⟩ ∧ W3.cell? ⟨b, off + j * 5, none⟩ = some (.string (tbOf S x).nm) ∧ W3.cell? ⟨b, off + j * 5 + 1, none⟩ = some (.slice Ac nr cc) ∧ (tbOf S x).nm.size ≤ 1000 ∧
              ∀ (i : Nat), i < nr → ∃ b2 off2, Ac = some ⟨b2, off2, none⟩ ∧ W3.cell? ⟨b2, off2 + i * 6, none⟩ = some (.string (((tbOf S x).cols[i]?).getD ⟨#[]⟩)) ∧ (((tbOf S x).cols[i]?).getD ⟨#[]⟩).size ≤ 1000) := fun h => by
            subst h
            rcases named_at (x := x) (HSA.out.ext HXo3.out) with h | ⟨j, bs, os, Ac, cc, _, hj, hjl, hA, n0, n1, n2⟩
            · rw [HNm.out] at h
              cases h
            · rw [HNS.out] at hjl
              rw [HNr.out] at n1 n2
              exact ⟨j, bs, os, Ac, cc, Htb.out.trans hj, hjl, hA, n0, n1, (tb_sm HSm.out x).1, fun i hi => by
                obtain ⟨b2, o2, h1, h2⟩ := n2 i hi
                exact ⟨b2, o2, h1, h2, getD_sz (tb_sm HSm.out x).2 i⟩⟩
          have HBe := hid HBe4.out
          obtain ⟨y0, y1, y2⟩ := blk3 HB7b.out
          obtain ⟨z0, z1, z2, z3, z4, z5, z6, z7⟩ := blk8 HBe.out
          clear y1 y2 z0 z1 z3 z4 z5 z6 z7
          have i1s : (itoB tx).size ≤ 21 := itoB_sz HTx.out
          have i2s : (itoB xtx).size ≤ 21 := itoB_sz (by rw [Htx2.out]; exact HXs.out.1)
          have HF1 := hid (fun W => rnum_any tx W HTx.out)
          have HF2 := hid (fun W => rnum_any xtx W (by rw [Htx2.out]; exact HXs.out.1))
          obtain ⟨H0, hH0⟩ : ∃ H0, headW e.tx x = H0 := ⟨_, rfl⟩
          have HH0 := hid hH0
          have hz0' : H0.size ≤ 100 := by rw [← hH0]; exact headW_sz (by rw [Htx.out]; exact HTx.out) HXs.out.1
          have HHz := hid hz0'
          have HCat : Hid ((⟨#[116, 114, 97, 110, 115, 97, 99, 116, 105, 111, 110, 32]⟩ ++ itoB tx ++ ⟨#[32, 119, 97, 105, 116, 115, 32, 102, 111, 114, 32, 116, 114, 97, 110, 115, 97, 99, 116, 105, 111, 110, 32]⟩ ++ itoB xtx ++ ⟨#[58, 32, 114, 111, 119, 32, 40]⟩ : ByteArray) = H0) := by
            unfold Hid
            rw [← hH0]
            unfold headW trW wfW rwW
            rw [← Htx.out, Htx2.out]
          clear hH0 hz0'
          generalize itoB tx = I1 at *
          generalize itoB xtx = I2 at *
          go_upto_region 9 with fail
          go_cut [9] from 51 to 60 (fun sv wx => sv = .string H0 ∧ Ext W3 wx)
          case first =>
            go_region_held_law (fun w' => w'.cell? ⟨g3, 2, none⟩ = some (.int .i64 tx) ∧ w'.cell? ⟨g7, 0, none⟩ = some (.int .i64 xtx))
              (first | go_keep | exact exp_cells (HBe.out.ext hx5) (HB7b.out.ext hx5) | exact exp_cells ((HBe.out.ext hx5).ext hx6) ((HB7b.out.ext hx5).ext hx6))
              (first
                | (go_at_call 52; have hh := hx5; (with_reducible refine (HF2.out _).mono ?_); rintro _ w6 ⟨rfl, hx6⟩)
                | (go_at_call 52; (with_reducible refine (HF1.out _).mono ?_); rintro _ w5 ⟨rfl, hx5⟩; replace hx5 : Ext W3 w5 := (Ext.refl W3).drew.trans hx5))
            all_goals
              go_wp2_with fail
              go_meet
              exact ⟨congrArg Value.string HCat.out, hx5.trans hx6⟩
          case rest =>
          obtain ⟨rfl, hxc⟩ := hcut
          generalize wc = W5 at *
          have HXw := hid hxc
          have HB7c := hid (HB7b.out.ext hxc)
          have HBf := hid (HBe.out.ext hxc)
          have HVc := hid (HVb.out.ext hxc)
          clear hxc HB7b HBe HBe4 HVb HF1 HF2 HCat y0 z2
          go_wp2_with fail
          go_loopw [9, 10] (fun sv iv wr => ∃ (k2 : Nat) (T : ByteArray), k2 ≤ nr ∧ iv = .int .i64 k2 ∧ sv = .string T ∧ T.data.toList = H0.data.toList ++ (joinB (pcsW S x k2)).data.toList ∧ Ext W5 wr) (fun _ i _ => nr - (intOf i).toNat)
          case atStart => exact ⟨0, H0, Nat.zero_le _, rfl, rfl, by rw [show joinB (pcsW S x 0) = ⟨#[]⟩ from rfl]; simp, Ext.refl W5⟩
          case round =>
            obtain ⟨k2, T, hk2, rfl, rfl, hT, hxr3⟩ := hrel
            have HTq := hid hT
            have HX4 := hid hxr3
            clear hT hxr3
            generalize wr = W4 at *
            have HB7a := hid (HB7c.out.ext HX4.out)
            have hk29 : k2 ≤ 4000 := by have := HXs.out.2.2.1; have := HNr.out; omega
            have HTz : Hid (T.size ≤ 4200200) := by
              have h1 := pcs_join HSm.out HXs.out.2.2.1 HXs.out.2.2.2.1 k2 (by have := HNr.out; omega)
              have h2 := congrArg List.length HTq.out
              rw [List.length_append, size_list, size_list, size_list] at h2
              have h3 := HHz.out
              unfold Hid
              omega
            have htz := HTz.out
            have c72 := HB7a.out.cell_some (i := 2) rfl
            by_cases hlt2 : k2 < nr
            · obtain ⟨v, hv⟩ : ∃ v, x.row[k2]? = some v := ⟨_, List.getElem?_eq_getElem (by rw [HNr.out]; exact hlt2)⟩
              have HPs := hid (pcs_step (S := S) hv)
              have hvm := List.mem_of_getElem? hv
              have HV := hid hv
              have HVn := hid (HXs.out.2.2.2.1 v hvm)
              have HVt := hid (HXs.out.2.2.2.2 v hvm)
              have hfz := fmtV_sz HVn.out
              have HPv : Hid (pcW S x k2 v = if namedW S x = true then ((tbOf S x).cols[k2]?).getD ⟨#[]⟩ ++ ⟨#[32, 61, 32]⟩ ++ fmtV v else fmtV v) := rfl
              have HFv := hid (fun W => lit_any v.k v.n v.t W HVt.out HVn.out)
              have hfe : fmtV ⟨v.k, v.n, v.t⟩ = fmtV v := rfl
              rw [hfe] at HFv
              clear hfe hvm hv
              generalize fmtV v = FV at *
              obtain ⟨T1, hT1⟩ : ∃ T1, (if k2 = 0 then T else T ++ ⟨#[44, 32]⟩ : ByteArray) = T1 := ⟨_, rfl⟩
              have HT1 := hid hT1
              have ht1z : T1.size ≤ 4200202 := by
                rw [← hT1]
                split
                · omega
                · rw [sz1]
                  have h3 : (⟨#[44, 32]⟩ : ByteArray).size = 2 := rfl
                  omega
              clear hT1
              go_upto_if 69 with fail
              go_cut [9] from 70 to 71 (fun sv wx => sv = .string T1 ∧ wx = W4)
              case first =>
                by_cases h0 : k2 = 0
                · subst h0
                  have hp : T = T1 := HT1.out
                  subst hp
                  go_wp2_with fail
                  go_meet
                  exact ⟨rfl, rfl⟩
                · have hp := HT1.out
                  rw [if_neg h0] at hp
                  have h0' : (0 : Int) < (k2 : Int) := by omega
                  have HP := hid hp
                  clear hp h0
                  go_wp2_with fail
                  go_meet
                  exact ⟨congrArg Value.string HP.out, rfl⟩
              case rest =>
              obtain ⟨rfl, rfl⟩ := hcut
              generalize wc = W4 at *
              obtain ⟨T2, hT2⟩ : ∃ T2, (if nm = true then T1 ++ (((tbOf S x).cols[k2]?).getD ⟨#[]⟩ ++ ⟨#[32, 61, 32]⟩) else T1 : ByteArray) = T2 := ⟨_, rfl⟩
              have HT2 := hid hT2
              have ht2z : T2.size ≤ 4201300 := by
                rw [← hT2]
                split
                · rename_i h
                  obtain ⟨j, bs, os, Ac, cc, _, _, _, _, _, _, n2⟩ := HNq.out h
                  obtain ⟨_, _, _, _, h4⟩ := n2 k2 hlt2
                  rw [sz1, sz1]
                  have h3 : (⟨#[32, 61, 32]⟩ : ByteArray).size = 3 := rfl
                  omega
                · omega
              clear hT2
              go_upto_if 72 with fail
              go_cut [9] from 73 to 85 (fun sv wx => sv = .string T2 ∧ wx = W4)
              case first =>
                cases nm
                · have hp : T1 = T2 := HT2.out
                  subst hp
                  go_wp2_with fail
                  go_meet
                  exact ⟨rfl, rfl⟩
                · obtain ⟨j, bs, os, Ac, cc, rfl, hjl, rfl, n0, n1, _, n2⟩ := HNq.out rfl
                  obtain ⟨b2, off2, rfl, cn, hczz⟩ := n2 k2 hlt2
                  have cnm := (HXw.out.trans HX4.out).keep cn
                  have csl := (HXw.out.trans HX4.out).keep n1
                  have hp := HT2.out
                  rw [if_pos rfl] at hp
                  generalize ((tbOf S x).cols[k2]?).getD ⟨#[]⟩ = CN at *
                  have c71 : W4.cell? ⟨g7, 1, none⟩ = some (.int .i64 (j : Int)) := HB7a.out.cell_some rfl
                  have i0' : (0 : Int) ≤ (j : Int) := by omega
                  have i1' : (j : Int) < (nS : Int) := by omega
                  have i2' : (0 : Int) ≤ (k2 : Int) := by omega
                  have i3' : (k2 : Int) < (nr : Int) := by omega
                  have HP := hid hp
                  clear hp n0 n1 n2 cn
                  go_wp2_with fail
                  go_meet
                  exact ⟨congrArg Value.string HP.out, rfl⟩
              case rest =>
              obtain ⟨rfl, rfl⟩ := hcut
              generalize wc = W4 at *
              obtain ⟨bv, ov, rfl, v0, v1, v2⟩ := (HVc.out.ext HX4.out) k2 v HV.out
              have HTn : Hid ((T2 ++ FV).data.toList = H0.data.toList ++ (joinB (pcsW S x (k2 + 1))).data.toList) := by
                have hj : (joinB (pcsW S x (k2 + 1))).data.toList = (joinB (pcsW S x k2)).data.toList ++ (if k2 = 0 then [] else [44, 32]) ++ (pcW S x k2 v).data.toList := by
                  rw [HPs.out]
                  show Lib.join ((pcsW S x k2 ++ [pcW S x k2 v]).map (·.data.toList)) [44, 32] = _
                  rw [List.map_append, List.map_singleton, join_snocB]
                  have hl := pcs_len (S := S) (x := x) (k := k2) (by have := HNr.out; omega)
                  have hz : ((pcsW S x k2).map (·.data.toList) = []) ↔ k2 = 0 := by
                    rw [List.map_eq_nil_iff]
                    constructor
                    · intro h; rw [h] at hl; simpa using hl.symm
                    · intro h; exact List.eq_nil_of_length_eq_zero (by omega)
                  by_cases h0 : k2 = 0
                  · rw [if_pos (hz.2 h0), if_pos h0]
                    rfl
                  · rw [if_neg (fun h => h0 (hz.1 h)), if_neg h0]
                    rfl
                unfold Hid
                have hT := HTq.out
                have hnm := HNm.out
                cases nm
                · have hpv : pcW S x k2 v = FV := HPv.out.trans (if_neg (by rw [hnm]; simp))
                  have ht2 : T1 = T2 := (if_neg (by simp)).symm.trans HT2.out
                  rw [hj, hpv, ByteArray.data_append, Array.toList_append, ← ht2, ← HT1.out]
                  by_cases h0 : k2 = 0
                  · rw [if_pos h0, if_pos h0, hT]
                    simp
                  · rw [if_neg h0, if_neg h0, ByteArray.data_append, Array.toList_append, hT]
                    simp
                · have hpv := HPv.out.trans (if_pos hnm)
                  have ht2 := (if_pos rfl).symm.trans HT2.out
                  rw [hj, hpv, ByteArray.data_append, Array.toList_append, ← ht2, ← HT1.out]
                  by_cases h0 : k2 = 0
                  · rw [if_pos h0, if_pos h0]
                    simp only [ByteArray.data_append, Array.toList_append, hT]
                    simp
                  · rw [if_neg h0, if_neg h0]
                    simp only [ByteArray.data_append, Array.toList_append, hT]
                    simp
              obtain ⟨vk, hvk⟩ : ∃ a, v.k = a := ⟨_, rfl⟩
              obtain ⟨vn, hvn⟩ : ∃ a, v.n = a := ⟨_, rfl⟩
              obtain ⟨vt, hvt⟩ : ∃ a, v.t = a := ⟨_, rfl⟩
              rw [hvk, hvn, hvt] at HFv
              rw [hvk] at v0
              rw [hvn] at v1
              rw [hvt] at v2
              clear hvk hvn hvt HVn HVt HT1 HT2
              go_wp2_with (go_at_call 53; (with_reducible refine (HFv.out _).mono ?_); rintro _ w6 ⟨rfl, hx6⟩)
              have HX6 := hid (HX4.out.trans hx6)
              clear hx6
              go_roundw
              case rel => exact ⟨k2 + 1, T2 ++ FV, by omega, by go_num, rfl, HTn.out, HX6.out⟩
              case measure => simp [intOf]; omega
            · have hkn : nr = k2 := by omega
              subst hkn
              have HXo4 := hid (HXw.out.trans HX4.out)
              have HF3 := hid (fun W => rnum_any tb W (by rw [Htb.out]; exact HXs.out.2.1))
              have i3s : (itoB tb).size ≤ 21 := itoB_sz (by rw [Htb.out]; exact HXs.out.2.1)
              obtain ⟨EX, hEX⟩ : ∃ EX, expW S e.tx x = EX := ⟨_, rfl⟩
              have HEX := hid hEX
              clear hEX
              have HFn : Hid (∀ Q : ByteArray, Q.data.toList = [41] ++ (endW S x).data.toList → T ++ Q = EX) := fun Q hQ => by
                rw [← HEX.out]
                apply t_inj
                rw [ByteArray.data_append, Array.toList_append, HTq.out, hQ]
                unfold expW
                rw [HH0.out, HNr.out]
                simp only [ByteArray.data_append, Array.toList_append]
                simp
              have HEe : Hid (endW S x = if namedW S x = true then ⟨#[32, 111, 102, 32]⟩ ++ (tbOf S x).nm else ⟨#[32, 111, 102, 32, 116, 97, 98, 108, 101, 32]⟩ ++ itoB x.tb) := rfl
              go_upto_if 94 with fail
              go_cut [9] from 95 to 109 (fun sv wx => sv = .string EX ∧ Ext W4 wx)
              case first =>
                have c71 := HB7a.out.cell_some (i := 1) rfl
                cases nm
                · have HP : Hid (T ++ (⟨#[41, 32, 111, 102, 32, 116, 97, 98, 108, 101, 32]⟩ ++ itoB tb) = EX) := HFn.out _ (by
                    rw [HEe.out, if_neg (by rw [HNm.out]; simp), ← Htb.out]
                    simp only [ByteArray.data_append, Array.toList_append]
                    rfl)
                  generalize itoB tb = I3 at *
                  go_wp2_with (go_at_call 52; (with_reducible refine (HF3.out _).mono ?_); rintro _ w6 ⟨rfl, hx6⟩)
                  go_meet
                  exact ⟨congrArg Value.string HP.out, hx6⟩
                · obtain ⟨j, bs, os, Ac, cc, rfl, hjl, rfl, n0, n1, hnz, n2⟩ := HNq.out rfl
                  have HP : Hid (T ++ (⟨#[41, 32, 111, 102, 32]⟩ ++ (tbOf S x).nm) = EX) := HFn.out _ (by
                    rw [HEe.out, if_pos HNm.out]
                    simp only [ByteArray.data_append, Array.toList_append]
                    rfl)
                  have cn0 := HXo4.out.keep n0
                  generalize (tbOf S x).nm = NM at *
                  have i0' : (0 : Int) ≤ (j : Int) := by omega
                  have i1' : (j : Int) < (nS : Int) := by omega
                  clear n0 n1 n2
                  go_wp2_with fail
                  go_meet
                  exact ⟨congrArg Value.string HP.out, Ext.refl _⟩
              case rest =>
              obtain ⟨rfl, hxc⟩ := hcut
              generalize wc = W6 at *
              have HXf := hid (HX3b.out.trans (HXo4.out.trans hxc))
              clear hxc c72
              have HOs := hid (ownN_ext HO2.out HXf.out)
              have HXo := hid (HXr.out.trans HXf.out)
              have HSi : Hid (q1 ≤ W6.heap.size) := by have := HXo.out.size; have := HQ1.out; unfold Hid; omega
              have HGe : Hid (∀ q, (Value.slice As k cs).ownBlock = some q → W1.heap.size ≤ q) := fun q hq => by
                have h1 := own_ge HO2.out hq
                have h3 := HQ1.out
                omega
              go_wp2_with (at_builtin; refine wpList_append_any _ rfl (.tmp 110) (.tmp 112) 39 rfl q1 9 i0 _ 1 16 Tryz.underlying39 hi hz0 hz1 hz2 rfl (by decide) _ k _ rfl (HOs.out.alloc _) _ _ 1 1 [.string EX] rfl (reads_new1 _ _ _) (by simp [Value.oneCell']) (by have := HK9.out; unfold maxLen; omega) (by have := HK9.out; omega) (by have := HSi.out; simp; omega) ?_; intro v9 w9 hown9 hgr9 hblk9)
              have HX9 : Hid (Ext W1 w9) := Ext.grown (HXo.out.alloc _) hgr9 HGe.out
              have HO9 := hid hown9
              clear hown9 hgr9 hblk9
              go_roundw
              case rel => exact ⟨k + 1, by omega, by go_num, by rw [HTk.out, HEX.out]; exact HO9.out, HX9.out⟩
              case measure => simp [intOf]; omega
      · have hkm : m = k := by omega
        subst hkm
        have ho := HO.out
        rw [List.take_of_length_le (Nat.le_of_eq HM.out)] at ho
        have HOf := hid ho
        clear ho
        go_wp2_with fail
        go_ret
        refine ⟨⟨_, rfl, ?_⟩, HX0.out.trans HXr.out⟩
        rw [HR.out, List.length_map, HM.out]
        exact own_base HOf.out (by have := HX0.out.size; have := HQ1.out; omega)
  · have HR := hid (HR1.out hk2)
    have e2 : (kd != 2) = true := bne_iff_ne.2 hk2
    go_wp2_with fail
    go_ret
    exact ⟨⟨_, rfl, by rw [HR.out]; exact own_base HE1.out (by have := HX0.out.size; have := HQ1.out; omega)⟩, HX0.out.trans HXe1.out⟩
end Go.Proofs.YtdjdhkbomhendaaGreatDoor
