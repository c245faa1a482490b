/-
  Walks over history: the lines of an event (the program's).
-/
import Derived.Test.YtdjdhkbomhendaaGreatDoorGm
import Derived.Test.YtdjdhkbomhendaaGreatDoorGm
import Derived.Test.YtdjdhkbomhendaaGreatDoorGm
import Derived.Test.YtdjdhkbomhendaaGreatDoorGl
import Derived.Deep.RegionHeldLaw
namespace Go.Proofs.YtdjdhkbomhendaaGreatDoor
open Go.RowKit
set_option linter.unusedVariables false
set_option linter.unusedSimpArgs false
set_option maxHeartbeats 4000000
set_option maxRecDepth 100000

theorem i64_wrap {x : Int} (h0 : -9223372036854775808 ≤ x) (h1 : x ≤ 9223372036854775807) : IntKind.i64.wrap x = x := by
  exact IntWalk.i64_in _ (by omega)
theorem emp_app (K : ByteArray) : (⟨#[]⟩ : ByteArray) ++ K = K := t_inj (by simp [ByteArray.data_append])
theorem itoa_any (n : Int) (w : World) (h : Can w n) : Calls Tryz.prog 49 #[.int .i64 n] w fun e w' => e = .returned (.string (itoB n)) ∧ Ext w w' := by
  rcases h with ⟨h0, h1⟩ | ⟨ht, h0, h1⟩
  · obtain ⟨i, rfl⟩ : ∃ i : Nat, n = (i : Int) := ⟨n.toNat, by omega⟩
    refine (Tryz.strconv_Itoa_small i (by omega) w).mono ?_
    rintro e w' ⟨rfl, rfl⟩
    refine ⟨ret_str ?_, Ext.refl _⟩
    unfold itoB Lib.itoa
    rw [if_neg (by omega)]
    rfl
  · refine (Tryz.strconv_Itoa n h0 h1 w ht.1).mono ?_
    rintro e w' ⟨rfl, k, os, rfl⟩
    exact ⟨rfl, ext_grow w k os⟩
theorem numbers_nat {k : Int} (h0 : 1 ≤ k) (h1 : k ≤ 13) (w : World) : Calls Tryz.prog 55 #[.int .i64 k] w fun e w' => e = .returned (.int .i64 ((numK k : Nat) : Int)) ∧ w' = w := by
  have h := numbers_any k w
  have e : (if 11 ≤ k ∧ k ≤ 13 then (0 : Int) else if k = 5 ∨ k = 7 ∨ k = 10 then 4 else 3) = ((numK k : Nat) : Int) := by
    unfold numK
    by_cases h11 : 11 ≤ k
    · rw [if_pos ⟨h11, h1⟩, if_pos h11]; rfl
    · rw [if_neg (by omega), if_neg h11]
      split <;> rfl
  rw [e] at h
  exact h
theorem numK_le (k : Int) : numK k ≤ 4 := by
  unfold numK
  split
  · omega
  · split <;> omega
theorem blk1 {w : World} {g : Nat} {t : TypeId} {a : Value} {r : List Value} (h : Blk w g t (a :: r)) : w.cell? ⟨g, 0, none⟩ = some a := h.cell_some rfl
theorem blk6 {w : World} {g : Nat} {t : TypeId} {a0 a1 a2 a3 a4 a5 : Value} {r : List Value} (h : Blk w g t (a0 :: a1 :: a2 :: a3 :: a4 :: a5 :: r)) :
    w.cell? ⟨g, 0, none⟩ = some a0 ∧ w.cell? ⟨g, 1, none⟩ = some a1 ∧ w.cell? ⟨g, 2, none⟩ = some a2 ∧ w.cell? ⟨g, 3, none⟩ = some a3 ∧ w.cell? ⟨g, 4, none⟩ = some a4 ∧ w.cell? ⟨g, 5, none⟩ = some a5 :=
  ⟨h.cell_some rfl, h.cell_some rfl, h.cell_some rfl, h.cell_some rfl, h.cell_some rfl, h.cell_some rfl⟩
theorem blk3 {w : World} {g : Nat} {t : TypeId} {a0 a1 a2 : Value} {r : List Value} (h : Blk w g t (a0 :: a1 :: a2 :: r)) :
    w.cell? ⟨g, 0, none⟩ = some a0 ∧ w.cell? ⟨g, 1, none⟩ = some a1 ∧ w.cell? ⟨g, 2, none⟩ = some a2 := ⟨h.cell_some rfl, h.cell_some rfl, h.cell_some rfl⟩
theorem format_any' (kd ss tx st er ct : Int) (A1 B1 : Option Addr) (n m c1 d1 : Nat) (rows : List (List Val)) (wts : List Wt) (H : ByteArray) (w : World)
    (h0 : 1 ≤ kd) (h1 : kd ≤ 13) (hl1 : rows.length = n) (hl2 : wts.length = m) (hn : n ≤ 4000) (hm : m ≤ 4000) (hr : RowsAt w A1 rows) (hw : WtsAt w B1 wts)
    (hs1 : ∀ r ∈ rows, smR r) (hs2 : ∀ x ∈ wts, Wt.sm x) (hn4 : ∀ x ∈ [ss, tx, st, ct + er], i64 x)
    (hH : H = numsB (kwB kd) ([ss, tx, st, ct + er].take (numK kd)) ++ nlB) (hS : Sh w) (hT : Tab w) :
    Calls Tryz.prog 29 #[.agg #[.int .i64 kd, .int .i64 ss, .int .i64 tx, .int .i64 st, .int .i64 er, .int .i64 ct, .slice A1 n c1, .slice B1 m d1]] w fun r w' => r = .returned (.string (rowsB (wtsB H wts) rows)) ∧ Ext w w' := by
  have HL1 := hid hl1
  have HL2 := hid hl2
  have HR := hid hr
  have HW := hid hw
  have HS1 := hid hs1
  have HS2 := hid hs2
  have HN4 := hid hn4
  have HSh := hid hS
  have HT := hid hT
  have i0 : 0 ≤ kd := by omega
  have i1 : kd < 14 := by omega
  have wrp : IntKind.i64.wrap (ct + er) = ct + er := by
    have := hn4 (ct + er) (by simp)
    unfold i64 at this
    exact i64_wrap this.1 this.2
  have HNK := hid (fun W => numbers_nat h0 h1 W)
  have hnk := numK_le kd
  have HK : Hid ((kwB kd).size ≤ 10) := kwB_sz kd
  have HWK : Hid (∀ W b, WordsAt W b → W.cell? ⟨b, kd.toNat, none⟩ = some (.string (kwB kd))) := fun W b hb => hb.at i0 i1
  have HHN := hid hH
  have HKs := HK
  clear hl1 hl2 hr hw hs1 hs2 hn4 hS hT h0 h1 hH
  generalize hnk0 : numK kd = nk at *
  clear hnk0
  generalize kwB kd = K at *
  have HB := hid (Blk.of_new w 36 [.int .i64 kd, .int .i64 ss, .int .i64 tx, .int .i64 st, .int .i64 er, .int .i64 ct, .slice A1 n c1, .slice B1 m d1])
  have HX := hid ((Ext.refl w).alloc (.cells #[.int .i64 kd, .int .i64 ss, .int .i64 tx, .int .i64 st, .int .i64 er, .int .i64 ct, .slice A1 n c1, .slice B1 m d1] 36))
  go_enter Tryz.func29, Tryz.ntmps29
  go_upto_region 1 with fail
  have HG : Hid (w.heap.size + 1 = (w.alloc (.cells #[.int .i64 kd, .int .i64 ss, .int .i64 tx, .int .i64 st, .int .i64 er, .int .i64 ct, .slice A1 n c1, .slice B1 m d1] 36)).heap.size) := by unfold Hid; simp
  generalize w.alloc (.cells #[.int .i64 kd, .int .i64 ss, .int .i64 tx, .int .i64 st, .int .i64 er, .int .i64 ct, .slice A1 n c1, .slice B1 m d1] 36) = W1 at *
  obtain ⟨g, hg⟩ : ∃ g, w.heap.size = g := ⟨_, rfl⟩
  rw [hg] at HB HG ⊢
  clear hg
  have HBl := hid (bld_new W1.heap.size W1 (Nat.le_refl _))
  have HXb := hid ((Ext.refl W1).alloc (.cells #[.pointer none, .slice none 0 0] 66))
  have HB0 := hid (HB.out.ext HXb.out)
  go_upto_region 2 with fail
  generalize W1.alloc (.cells #[.pointer none, .slice none 0 0] 66) = W2 at *
  obtain ⟨b, hb⟩ : ∃ b, W1.heap.size = b := ⟨_, rfl⟩
  have HBW : Hid (∀ W, Ext W1 W → b ≤ W.heap.size) := fun W hW => by rw [← hb]; exact hW.size
  have HXB : Hid (∀ W W', Ext W1 W → Below b W W' → Ext W1 W') := fun W W' hW hx => Below.trans hW (by rw [hb]; exact hx)
  rw [hb] at HBl HG ⊢
  clear hb
  have HNE : Hid (g ≠ b) := by unfold Hid; have := HG.out; omega
  have z0 := blk1 HB0.out
  go_cut [] from 10 to 15 (fun wx => BldIs b b K wx ∧ Blk wx g 36 [.int .i64 kd, .int .i64 ss, .int .i64 tx, .int .i64 st, .int .i64 er, .int .i64 ct, .slice A1 n c1, .slice B1 m d1] ∧ Ext W1 wx)
  case first =>
    go_region_with (first
      | (go_at_call 28; (with_reducible refine (write_any b b ⟨#[]⟩ K _ (HBl.out.ext hx3) (by have := HK.out; have e0 : (⟨#[]⟩ : ByteArray).size = 0 := rfl; omega) (HBW.out _ (HXb.out.trans hx3))).mono ?_); rintro _ w4 ⟨rfl, hb4, hx4, hk4⟩)
      | (go_at_call 63; (with_reducible refine (words_any _).mono ?_); rintro _ w3 ⟨bw, rfl, hwa, _, hx3⟩; replace hx3 : Ext W2 w3 := (Ext.refl W2).drew.trans hx3; have wk := HWK.out _ _ hwa; have z3 := blk1 (HB0.out.ext hx3)))
    all_goals
      go_wp2_with fail
      go_meet
      exact ⟨emp_app K ▸ hb4, hk4 _ _ _ (HB0.out.ext hx3) (by decide) HNE.out, HXB.out _ _ (HXb.out.trans hx3) hx4⟩
  case rest =>
    obtain ⟨hb2, hbk2, hx2⟩ := hcut
    have HB2 := hid hb2
    have HBk2 := hid hbk2
    have HX2 := hid hx2
    clear hb2 hbk2 hx2 z0 HBl HB HB0 HXb HK HWK
    have e6 := blk6 HBk2.out
    obtain ⟨y0, y1, y2, y3, y4, y5⟩ := e6
    go_upto_region 3 with fail
    go_cut [31, 32, 33] from 16 to 33 (fun a l i wx => ∃ q, a = .slice (some ⟨q, 0, none⟩) nk 4 ∧ l = .int .i64 nk ∧ i = .int .i64 0 ∧ Blk wx q 2 [.int .i64 ss, .int .i64 tx, .int .i64 st, .int .i64 (ct + er)] ∧ q ≠ b ∧ BldIs b b K wx ∧ Blk wx g 36 [.int .i64 kd, .int .i64 ss, .int .i64 tx, .int .i64 st, .int .i64 er, .int .i64 ct, .slice A1 n c1, .slice B1 m d1] ∧ Ext W1 wx)
    case first =>
      go_region_held_law (fun w' => w'.cell? ⟨g, 0, none⟩ = some (.int .i64 kd) ∧ w'.cell? ⟨g, 1, none⟩ = some (.int .i64 ss) ∧ w'.cell? ⟨g, 2, none⟩ = some (.int .i64 tx) ∧ w'.cell? ⟨g, 3, none⟩ = some (.int .i64 st) ∧ w'.cell? ⟨g, 4, none⟩ = some (.int .i64 er) ∧ w'.cell? ⟨g, 5, none⟩ = some (.int .i64 ct))
        (first | go_keep | exact blk6 (HBk2.out.ext ((Ext.refl _).alloc _)) | exact blk6 (HBk2.out.ext (((Ext.refl _).drew).alloc _)))
        (first | (go_at_call 55; (with_reducible refine (HNK.out _).mono ?_); rintro _ w3 ⟨rfl, rfl⟩))
      all_goals
        go_wp2_with fail
        go_meet
        refine ⟨_, rfl, rfl, rfl, Blk.of_new _ _ _, ?_, HB2.out.ext ?_, HBk2.out.ext ?_, HX2.out.trans ?_⟩
        · have := HB2.out.lt
          simp
          omega
        all_goals first | exact (Ext.refl _).alloc _ | exact ((Ext.refl _).drew).alloc _
    case rest =>
      obtain ⟨q, rfl, rfl, rfl, hq, hqb, hb3, hbk3, hx3⟩ := hcut
      have HQ := hid hq
      have HQB := hid hqb
      have HB3 := hid hb3
      have HBk3 := hid hbk3
      have HX3 := hid hx3
      clear hq hqb hb3 hbk3 hx3 y0 y1 y2 y3 y4 y5 HB2 HBk2 HX2
      generalize wc = W3 at *
      go_wp2_with fail
      go_loopw [33] (fun iv wr => ∃ k : Nat, k ≤ nk ∧ iv = .int .i64 k ∧ BldIs b b (numsB K ([ss, tx, st, ct + er].take k)) wr ∧ Blk wr q 2 [.int .i64 ss, .int .i64 tx, .int .i64 st, .int .i64 (ct + er)] ∧ Blk wr g 36 [.int .i64 kd, .int .i64 ss, .int .i64 tx, .int .i64 st, .int .i64 er, .int .i64 ct, .slice A1 n c1, .slice B1 m d1] ∧ Ext W1 wr) (fun i _ => nk - (intOf i).toNat)
      case atStart => exact ⟨0, Nat.zero_le _, rfl, HB3.out, HQ.out, HBk3.out, HX3.out⟩
      case round =>
        obtain ⟨k, hk, rfl, hb, hq, hbk, hxr⟩ := hrel
        have HBr := hid hb
        have HQr := hid hq
        have HBkr := hid hbk
        have HXr := hid hxr
        clear hb hq hbk hxr
        by_cases hlt : k < nk
        · obtain ⟨x, hx⟩ : ∃ x, [ss, tx, st, ct + er][k]? = some x := ⟨_, List.getElem?_eq_getElem (by show k < 4; omega)⟩
          have hc : ([.int .i64 ss, .int .i64 tx, .int .i64 st, .int .i64 (ct + er)] : List Value)[k]? = some (.int .i64 x) := by
            have : ([.int .i64 ss, .int .i64 tx, .int .i64 st, .int .i64 (ct + er)] : List Value) = [ss, tx, st, ct + er].map (Value.int .i64) := rfl
            rw [this, List.getElem?_map, hx]
            rfl
          have y0 := HQr.out.cell_some hc
          have HI := hid (HN4.out x (List.mem_of_getElem? hx))
          have HTk := hid (numsB_take K hx)
          have HSz : Hid ((numsB K ([ss, tx, st, ct + er].take k)).size ≤ 110) := by
            have h1 := numsB_sz (b := K) (l := [ss, tx, st, ct + er].take k) fun y hy => HN4.out y (List.mem_of_mem_take hy)
            have h2 : ([ss, tx, st, ct + er].take k).length ≤ 4 := List.length_take_le' _ _
            have := HKs.out
            unfold Hid
            omega
          have HFM := hid (fun W (hW : Ext w W) => fmtint_any x W (.inr ⟨HT.out.ext hW, HI.out⟩))
          have hsz := itoB_sz HI.out
          have HHs : Hid ((itoB x).size ≤ 21) := hsz
          clear hx hc
          have HSP : Hid (spN x = ⟨#[32]⟩ ++ itoB x) := rfl
          generalize itoB x = X at *
          generalize numsB K ([ss, tx, st, ct + er].take k) = T0 at *
          go_wp2_with (first | (go_at_call 28; have HWr := hid (write_any b b T0 (⟨#[32]⟩ ++ X) w4 (HBr.out.ext hx4) (by have h1 := HSz.out; have h2 := HHs.out; have h3 : (⟨#[32]⟩ : ByteArray).size = 1 := rfl; rw [sz1, h3]; omega) (HBW.out _ (HXr.out.trans hx4))); (with_reducible refine HWr.out.mono ?_); rintro _ w5 ⟨rfl, hb5, hx5, hk5⟩) | (go_at_call 50; (with_reducible refine (HFM.out _ (HX.out.trans HXr.out)).mono ?_); rintro _ w4 ⟨rfl, hx4⟩))
          go_roundw
          case rel =>
            refine ⟨k + 1, by omega, by go_num, ?_, hk5 _ _ _ (HQr.out.ext hx4) (by decide) HQB.out, hk5 _ _ _ (HBkr.out.ext hx4) (by decide) HNE.out, HXB.out _ _ (HXr.out.trans hx4) hx5⟩
            rw [HTk.out, HSP.out]
            exact hb5
          case measure => simp [intOf]; omega
        · obtain rfl : k = nk := by omega
          have HSz : Hid ((numsB K ([ss, tx, st, ct + er].take k)).size ≤ 110) := by
            have h1 := numsB_sz (b := K) (l := [ss, tx, st, ct + er].take k) fun y hy => HN4.out y (List.mem_of_mem_take hy)
            have h2 : ([ss, tx, st, ct + er].take k).length ≤ 4 := List.length_take_le' _ _
            have := HKs.out
            unfold Hid
            omega
          have HHs : Hid (H.size ≤ 111) := by
            have h1 := HSz.out
            unfold Hid
            rw [HHN.out, sz1]
            show _ + 1 ≤ 111
            omega
          generalize numsB K ([ss, tx, st, ct + er].take k) = T0 at *
          go_wp2_with (go_at_call 28; have HWr := hid (write_any b b T0 ⟨#[10]⟩ _ HBr.out (by have h1 := HSz.out; have h3 : (⟨#[10]⟩ : ByteArray).size = 1 := rfl; rw [h3]; omega) (HBW.out _ HXr.out)); (with_reducible refine HWr.out.mono ?_); rintro _ W5 ⟨rfl, hb5, hx5, hk5⟩; have HBk5 := hid (hk5 _ _ _ HBkr.out (by decide) HNE.out); have e7 := HBk5.out.cell 7; simp only [List.getElem?_cons_succ, List.getElem?_cons_zero] at e7)
          have HB5 : Hid (BldIs b b H W5) := by
            unfold Hid
            rw [HHN.out]
            exact hb5
          have HX5 := hid (HXB.out _ _ HXr.out hx5)
          clear hb5 hx5 hk5 HHN HBr HQr HBkr HXr HQB
          go_loopw [46] (fun iv wr => ∃ k : Nat, k ≤ m ∧ iv = .int .i64 k ∧ BldIs b b (wtsB H (wts.take k)) wr ∧ Blk wr g 36 [.int .i64 kd, .int .i64 ss, .int .i64 tx, .int .i64 st, .int .i64 er, .int .i64 ct, .slice A1 n c1, .slice B1 m d1] ∧ Ext W1 wr) (fun i _ => m - (intOf i).toNat)
          case atStart => exact ⟨0, Nat.zero_le _, rfl, by rw [List.take_zero]; exact HB5.out, HBk5.out, HX5.out⟩
          case round =>
            obtain ⟨k, hk, rfl, hb, hbk, hxr⟩ := hrel
            have HBr := hid hb
            have HBkr := hid hbk
            have HXr := hid hxr
            clear hb hbk hxr
            by_cases hlt : k < m
            · obtain ⟨x, hx⟩ := rat_lt HL2.out hlt
              obtain ⟨bq, off, v, rfl, q0, q1, q2, q3⟩ := (HW.out.ext (HX.out.trans HXr.out)) k x hx
              obtain ⟨Ax, cx, rfl, hvv⟩ := q3
              have hsm := HS2.out x (List.mem_of_getElem? hx)
              have HF1 := hid (fun W (hW : Ext w W) => fmtint_any x.tx W (.inr ⟨HT.out.ext hW, hsm.1⟩))
              have HF2 := hid (fun W (hW : Ext w W) => itoa_any x.tb W (.inr ⟨HT.out.ext hW, hsm.2.1⟩))
              have HF3 := hid (fun W (hW : Ext wr W) => formatrow_any Ax x.row x.row.length cx W (hvv.ext hW) rfl (by have := hsm.2.2.1; omega) hsm.2.2.2.2 (HSh.out.ext ((HX.out.trans HXr.out).trans hW)) fun a ha => .inr ⟨HT.out.ext ((HX.out.trans HXr.out).trans hW), hsm.2.2.2.1 a ha⟩)
              have g1 := itoB_sz hsm.1
              have g2s := itoB_sz hsm.2.1
              have g3 := smR_fmt hsm.2.2
              have G1 := hid g1
              have G2 := hid g2s
              have G3 := hid g3
              have HTk := hid (wtsB_take H hx)
              have HSz : Hid ((wtsB H (wts.take k)).size ≤ 700000000) := by
                have h1 := wtsB_sz (b := H) (l := wts.take k) (fun y hy => HS2.out y (List.mem_of_mem_take hy)) (by have := List.length_take_le' k wts; have := HL2.out; omega)
                have := HHs.out
                unfold Hid
                omega
              have HLn : Hid (x.line = ⟨#[102, 111, 114, 32]⟩ ++ itoB x.tx ++ ⟨#[32]⟩ ++ itoB x.tb ++ ⟨#[32]⟩ ++ fmtRow x.row ++ ⟨#[10]⟩) := rfl
              clear hx hsm hvv
              generalize x.row.length = nr at *
              generalize itoB x.tx = X1 at *
              generalize itoB x.tb = X2 at *
              generalize fmtRow x.row = X3 at *
              generalize x.tx = xtx at *
              generalize x.tb = xtb at *
              have HC2 := hid (Blk.of_new wr 62 [.int .i64 xtx, .int .i64 xtb, .slice Ax nr cx])
              have HX2 := hid ((Ext.refl wr).alloc (.cells #[.int .i64 xtx, .int .i64 xtb, .slice Ax nr cx] 62))
              have HNq : Hid (wr.heap.size ≠ b) := by
                have := HBr.out.lt
                unfold Hid
                omega
              go_wp2_with fail
              generalize wr.alloc (.cells _ 62) = w2 at *
              generalize wr.heap.size = g2 at *
              obtain ⟨e0, e1, e2⟩ := blk3 HC2.out
              go_region_held_law (fun w' => w'.cell? ⟨g2, 0, none⟩ = some (.int .i64 xtx) ∧ w'.cell? ⟨g2, 1, none⟩ = some (.int .i64 xtb) ∧ w'.cell? ⟨g2, 2, none⟩ = some (.slice Ax nr cx))
                (first | go_keep | exact blk3 (HC2.out.ext hx3) | exact blk3 ((HC2.out.ext hx3).ext hx4) | exact blk3 (((HC2.out.ext hx3).ext hx4).ext hx5) | exact blk3 (hk6 _ _ _ (((HC2.out.ext hx3).ext hx4).ext hx5) (by decide) HNq.out))
                (first
                  | (go_at_call 28; have HWr := hid (write_any b b (wtsB H (wts.take k)) (⟨#[102, 111, 114, 32]⟩ ++ X1 ++ ⟨#[32]⟩ ++ X2 ++ ⟨#[32]⟩ ++ X3 ++ ⟨#[10]⟩) w5 (HBr.out.ext (((HX2.out.trans hx3).trans hx4).trans hx5)) (by have h1 := HSz.out; have k1 := G1.out; have k2 := G2.out; have k3 := G3.out; rw [sz1, sz1, sz1, sz1, sz1, sz1]; simp only [show (⟨#[102, 111, 114, 32]⟩ : ByteArray).size = 4 from rfl, show (⟨#[32]⟩ : ByteArray).size = 1 from rfl, show (⟨#[10]⟩ : ByteArray).size = 1 from rfl]; omega) (HBW.out _ (HXr.out.trans (((HX2.out.trans hx3).trans hx4).trans hx5)))); (with_reducible refine HWr.out.mono ?_); rintro _ w6 ⟨rfl, hb6, hx6, hk6⟩)
                  | (go_at_call 64; (with_reducible refine (HF3.out _ ((HX2.out.trans hx3).trans hx4)).mono ?_); rintro _ w5 ⟨rfl, hx5⟩)
                  | (go_at_call 49; (with_reducible refine (HF2.out _ ((HX.out.trans HXr.out).trans (HX2.out.trans hx3))).mono ?_); rintro _ w4 ⟨rfl, hx4⟩)
                  | (go_at_call 50; (with_reducible refine (HF1.out _ ((HX.out.trans HXr.out).trans HX2.out.drew)).mono ?_); rintro _ w3 ⟨rfl, hx3⟩; replace hx3 : Ext w2 w3 := (Ext.refl w2).drew.trans hx3))
              all_goals
                have HBk6 := hid (hk6 _ _ _ (HBkr.out.ext (((HX2.out.trans hx3).trans hx4).trans hx5)) (by decide) HNE.out)
                have HB6 := hid hb6
                have HX6 := hid (HXB.out _ _ (HXr.out.trans (((HX2.out.trans hx3).trans hx4).trans hx5)) hx6)
                rename_i hHeld
                clear hHeld hb6 hx6 hk6 e0 e1 e2 hx3 hx4 hx5
                go_wp2_with fail
                go_roundw
                case rel =>
                  refine ⟨k + 1, by omega, by go_num, ?_, HBk6.out, HX6.out⟩
                  rw [HTk.out, HLn.out]
                  exact HB6.out
                case measure => simp [intOf]; omega
            · obtain rfl : k = m := by omega
              have HB7 := HBr
              rw [List.take_of_length_le (Nat.le_of_eq HL2.out)] at HB7
              have e6 := HBkr.out.cell 6
              simp only [List.getElem?_cons_succ, List.getElem?_cons_zero] at e6
              have HH7 : Hid ((wtsB H wts).size ≤ 700000000) := by
                have h1 := wtsB_sz (b := H) (l := wts) (fun y hy => HS2.out y hy) (by have := HL2.out; omega)
                have := HHs.out
                unfold Hid
                omega
              clear HBr
              generalize hH2 : wtsB H wts = H2 at *
              have HH2 := hid hH2
              clear hH2
              have HBk7 := HBkr
              have HX7 := HXr
              clear HBkr HXr
              go_wp2_with fail
              go_loopw [70] (fun iv wr => ∃ k : Nat, k ≤ n ∧ iv = .int .i64 k ∧ BldIs b b (rowsB H2 (rows.take k)) wr ∧ Ext W1 wr) (fun i _ => n - (intOf i).toNat)
              case atStart => exact ⟨0, Nat.zero_le _, rfl, by rw [List.take_zero]; exact HB7.out, HX7.out⟩
              case round =>
                obtain ⟨k, hk, rfl, hb, hxr⟩ := hrel
                have HBr := hid hb
                have HXr := hid hxr
                clear hb hxr
                by_cases hlt : k < n
                · obtain ⟨x, hx⟩ := rat_lt HL1.out hlt
                  obtain ⟨bq, off, v, rfl, q0, q1⟩ := (HR.out.ext (HX.out.trans HXr.out)) k x hx
                  obtain ⟨Ax, cx, rfl, hvv⟩ := q1
                  have hsm := HS1.out x (List.mem_of_getElem? hx)
                  have HF3 := hid (fun W (hW : Ext wr W) => formatrow_any Ax x x.length cx W (hvv.ext hW) rfl (by have := hsm.1; omega) hsm.2.2 (HSh.out.ext ((HX.out.trans HXr.out).trans hW)) fun a ha => .inr ⟨HT.out.ext ((HX.out.trans HXr.out).trans hW), hsm.2.1 a ha⟩)
                  have g3 := smR_fmt hsm
                  have G3 := hid g3
                  have HTk := hid (rowsB_take H2 hx)
                  have HSz : Hid ((rowsB H2 (rows.take k)).size ≤ 1400000000) := by
                    have h1 := rowsB_sz (b := H2) (l := rows.take k) (fun y hy => HS1.out y (List.mem_of_mem_take hy)) (by have := List.length_take_le' k rows; have := HL1.out; omega)
                    have := HH7.out
                    unfold Hid
                    omega
                  have HLn : Hid (rowLn x = ⟨#[114, 111, 119, 32]⟩ ++ fmtRow x ++ ⟨#[10]⟩) := rfl
                  clear hx hsm hvv
                  generalize x.length = nr at *
                  generalize fmtRow x = X3 at *
                  go_wp2_with (first
                    | (go_at_call 28; have HWr := hid (write_any b b (rowsB H2 (rows.take k)) (⟨#[114, 111, 119, 32]⟩ ++ X3 ++ ⟨#[10]⟩) w5 (HBr.out.ext hx5) (by have h1 := HSz.out; have k3 := G3.out; rw [sz1, sz1]; simp only [show (⟨#[114, 111, 119, 32]⟩ : ByteArray).size = 4 from rfl, show (⟨#[10]⟩ : ByteArray).size = 1 from rfl]; omega) (HBW.out _ (HXr.out.trans hx5))); (with_reducible refine HWr.out.mono ?_); rintro _ w6 ⟨rfl, hb6, hx6, hk6⟩)
                    | (go_at_call 64; (with_reducible refine (HF3.out _ (Ext.refl _)).mono ?_); rintro _ w5 ⟨rfl, hx5⟩))
                  go_roundw
                  case rel =>
                    refine ⟨k + 1, by omega, by go_num, ?_, HXB.out _ _ (HXr.out.trans hx5) hx6⟩
                    rw [HTk.out, HLn.out]
                    exact hb6
                  case measure => simp [intOf]; omega
                · obtain rfl : k = n := by omega
                  have HB8 := HBr
                  rw [List.take_of_length_le (Nat.le_of_eq HL1.out)] at HB8
                  clear HBr
                  go_wp2_with (go_at_call 30; have HWr := hid (bstring_any b b _ _ HB8.out (HBW.out _ HXr.out)); (with_reducible refine HWr.out.mono ?_); rintro _ w6 ⟨rfl, hx6⟩)
                  go_ret
                  exact ⟨ret_str (by rw [HH2.out]), HX.out.trans (HXB.out _ _ HXr.out hx6)⟩
theorem hformat_any (e : Ev) (vr vw : Value) (w : World) (hr : RsAt w vr e.rows) (hw : WsAt w vw e.wts) (hok : e.ok = true) (hsm : e.sm) (hS : Sh w) (hT : Tab w) :
    Calls Tryz.prog 29 #[evV e vr vw] w fun r w' => r = .returned (.string e.lines) ∧ Ext w w' := by
  obtain ⟨A1, c1, rfl, hr1⟩ := hr
  obtain ⟨B1, d1, rfl, hw1⟩ := hw
  have hkd := ok_kd hok
  rw [lines_eq]
  exact format_any' _ _ _ _ _ _ _ _ _ _ _ _ _ _ _ w hkd.1 hkd.2 rfl rfl hsm.2.1 hsm.2.2.1 hr1 hw1 hsm.2.2.2.1 hsm.2.2.2.2 (nums4_in hsm hok) (by rw [head_nums4 hok]; rfl) hS hT
end Go.Proofs.YtdjdhkbomhendaaGreatDoor
