/-
  Walks over history: the lines of an event (the reference's).
-/
import Derived.Test.YtdjdhkbomhendaaGreatDoorHW13z
namespace Go.Proofs.YtdjdhkbomhendaaGreatDoor
open Go.RowKit
set_option linter.unusedVariables false
set_option linter.unusedSimpArgs false
set_option maxHeartbeats 4000000
set_option maxRecDepth 100000

theorem rnum_any (x : Int) (w : World) (h : i64 x) : Calls Tryz.prog 52 #[.int .i64 x] w fun r w' => r = .returned (.string (itoB x)) ∧ Ext w w' := by
  have HC := hid (fun W => num_any x W h.1 h.2)
  clear h
  generalize itoB x = X at *
  go_enter Tryz.func52, Tryz.ntmps52
  go_wp2_with fail
  refine (HC.out _).mono ?_
  rintro _ w2 ⟨rfl, hx2⟩
  go_wp2_with fail
  go_ret
  exact ⟨rfl, hx2⟩
theorem blk13 {w : World} {g : Nat} {t : TypeId} {a0 a1 a2 a3 : Value} {r : List Value} (h : Blk w g t (a0 :: a1 :: a2 :: a3 :: r)) :
    w.cell? ⟨g, 1, none⟩ = some a1 ∧ w.cell? ⟨g, 2, none⟩ = some a2 ∧ w.cell? ⟨g, 3, none⟩ = some a3 := ⟨h.cell_some rfl, h.cell_some rfl, h.cell_some rfl⟩
theorem rlines_any' (kd ss tx st er ct : Int) (A1 B1 : Option Addr) (n m c1 d1 : Nat) (rows : List (List Val)) (wts : List Wt) (H : ByteArray) (w : World)
    (hl1 : rows.length = n) (hl2 : wts.length = m) (hn : n ≤ 4000) (hm : m ≤ 4000) (hr : RowsAt w A1 rows) (hw : WtsAt w B1 wts)
    (hs1 : ∀ r ∈ rows, smR r) (hs2 : ∀ x ∈ wts, Wt.sm x) (hn4 : i64 ss ∧ i64 tx ∧ i64 st ∧ i64 ct ∧ i64 er)
    (hH : H = (let a := if kd < 11 then kwB kd ++ spN ss ++ spN tx ++ spN st else kwB kd
      let b := if kd = 5 then a ++ spN ct else a
      if er = 0 then b else b ++ spN er) ++ nlB) (hT : Tab w) :
    Calls Tryz.prog 32 #[.agg #[.int .i64 kd, .int .i64 ss, .int .i64 tx, .int .i64 st, .int .i64 er, .int .i64 ct, .slice A1 n c1, .slice B1 m d1]] w fun r w' => r = .returned (.string (rowsB (wtsB H wts) rows)) ∧ Ext w w' := by
  have HL1 := hid hl1
  have HL2 := hid hl2
  have HR := hid hr
  have HW := hid hw
  have HS1 := hid hs1
  have HS2 := hid hs2
  have HN4 := hid hn4
  have HT := hid hT
  have HK : Hid ((kwB kd).size ≤ 10) := kwB_sz kd
  have HNM := hid (fun W => name_any kd W)
  have HHN := hid hH
  clear hl1 hl2 hr hw hs1 hs2 hn4 hT hH
  generalize kwB kd = K at *
  have HB := hid (Blk.of_new w 36 [.int .i64 kd, .int .i64 ss, .int .i64 tx, .int .i64 st, .int .i64 er, .int .i64 ct, .slice A1 n c1, .slice B1 m d1])
  have HX := hid ((Ext.refl w).alloc (.cells #[.int .i64 kd, .int .i64 ss, .int .i64 tx, .int .i64 st, .int .i64 er, .int .i64 ct, .slice A1 n c1, .slice B1 m d1] 36))
  go_enter Tryz.func32, Tryz.ntmps32
  go_upto_region 1 with fail
  generalize w.alloc (.cells #[.int .i64 kd, .int .i64 ss, .int .i64 tx, .int .i64 st, .int .i64 er, .int .i64 ct, .slice A1 n c1, .slice B1 m d1] 36) = W1 at *
  generalize w.heap.size = g at *
  obtain ⟨y0, y1, y2, y3, y4, y5⟩ := blk6 HB.out
  have HHs : Hid (H.size ≤ 200) := by
    have h := HN4.out
    have e1 := itoB_sz h.1
    have e2 := itoB_sz h.2.1
    have e3 := itoB_sz h.2.2.1
    have e4 := itoB_sz h.2.2.2.1
    have e5 := itoB_sz h.2.2.2.2
    have e6 := HK.out
    have sp : ∀ n, (spN n).size = 1 + (itoB n).size := fun n => by unfold spN; rw [sz1]; rfl
    unfold Hid
    rw [HHN.out, sz1, show nlB.size = 1 from rfl]
    dsimp only
    split <;> split <;> split <;> first | (simp only [sz1, sp]; omega) | omega
  have h := HN4.out
  have HN1 := hid (fun W => rnum_any ss W h.1)
  have HN2 := hid (fun W => rnum_any tx W h.2.1)
  have HN3 := hid (fun W => rnum_any st W h.2.2.1)
  have HNc := hid (fun W => rnum_any ct W h.2.2.2.1)
  have HNe := hid (fun W => rnum_any er W h.2.2.2.2)
  have s1 := itoB_sz h.1
  have s2 := itoB_sz h.2.1
  have s3 := itoB_sz h.2.2.1
  have s4 := itoB_sz h.2.2.2.1
  have s5 := itoB_sz h.2.2.2.2
  have s6 := HK.out
  unfold spN nlB at HHN
  clear h
  generalize itoB ss = X1 at *
  generalize itoB tx = X2 at *
  generalize itoB st = X3 at *
  generalize itoB ct = X4 at *
  generalize itoB er = X5 at *
  go_upto_if 12 with ((go_at_call 65; (with_reducible refine (HNM.out _).mono ?_); rintro _ w2 ⟨rfl, hx2⟩; have HB2 := hid (HB.out.ext hx2); obtain ⟨z0, z1, z2, z3, z4, z5⟩ := blk6 HB2.out; have HX2 := hid hx2; clear hx2))
  obtain ⟨T1, hT1⟩ : ∃ T1, T1 = if kd < 11 then K ++ (⟨#[32]⟩ ++ X1) ++ (⟨#[32]⟩ ++ X2) ++ (⟨#[32]⟩ ++ X3) else K := ⟨_, rfl⟩
  go_cut [3] from 10 to 28 (fun s wx => s = .string T1 ∧ Ext w2 wx)
  case first =>
    by_cases h11 : kd < 11
    · rw [if_pos h11] at hT1
      have HT1 := hid hT1
      clear hT1
      go_wp2_with fail
      go_region_held_law (fun w' => w'.cell? ⟨g, 1, none⟩ = some (.int .i64 ss) ∧ w'.cell? ⟨g, 2, none⟩ = some (.int .i64 tx) ∧ w'.cell? ⟨g, 3, none⟩ = some (.int .i64 st))
        (first | go_keep | exact blk13 (HB2.out.ext hx3) | exact blk13 ((HB2.out.ext hx3).ext hx4) | exact blk13 (((HB2.out.ext hx3).ext hx4).ext hx5))
        (first
          | (go_at_call 52; have hh := hx4; (with_reducible refine (HN3.out _).mono ?_); rintro _ w5 ⟨rfl, hx5⟩)
          | (go_at_call 52; have hh := hx3; (with_reducible refine (HN2.out _).mono ?_); rintro _ w4 ⟨rfl, hx4⟩)
          | (go_at_call 52; (with_reducible refine (HN1.out _).mono ?_); rintro _ w3 ⟨rfl, hx3⟩; replace hx3 : Ext w2 w3 := (Ext.refl w2).drew.trans hx3))
      all_goals
        go_wp2_with fail
        go_meet
        exact ⟨congrArg Value.string (by rw [HT1.out]; exact t_inj (by simp [ByteArray.data_append])), (hx3.trans hx4).trans hx5⟩
    · rw [if_neg h11] at hT1
      subst hT1
      go_wp2_with fail
      go_meet
      exact ⟨rfl, Ext.refl _⟩
  case rest =>
  obtain ⟨rfl, hx3⟩ := hcut
  generalize wc = w3 at *
  have HB3 := hid (HB2.out.ext hx3)
  have HX3 := hid (HX2.out.trans hx3)
  clear hx3 z0 z1 z2 z3 z4 z5 HB2 HX2 HN1 HN2 HN3
  obtain ⟨z0, z1, z2, z3, z4, z5⟩ := blk6 HB3.out
  have s7 : T1.size ≤ 80 := by
    have e1 : (⟨#[32]⟩ : ByteArray).size = 1 := rfl
    rw [hT1]
    split <;> first | (simp only [sz1, e1]; omega) | omega
  rw [← hT1] at HHN
  clear hT1
  go_upto_if 31 with fail
  obtain ⟨T2, hT2⟩ : ∃ T2, T2 = if kd = 5 then T1 ++ (⟨#[32]⟩ ++ X4) else T1 := ⟨_, rfl⟩
  go_cut [3] from 29 to 37 (fun s wx => s = .string T2 ∧ Ext w3 wx)
  case first =>
    by_cases h5 : kd = 5
    · rw [if_pos h5] at hT2
      have b5 : (kd == 5) = true := by simpa using h5
      have HT2 := hid hT2
      clear hT2 h5
      go_wp2_with (go_at_call 52; (with_reducible refine (HNc.out _).mono ?_); rintro _ w6 ⟨rfl, hx6⟩)
      go_meet
      exact ⟨congrArg Value.string HT2.out.symm, hx6⟩
    · have b5 : (kd == 5) = false := by simpa using h5
      rw [if_neg h5] at hT2
      subst hT2
      clear h5
      go_wp2_with fail
      go_meet
      exact ⟨rfl, Ext.refl _⟩
  case rest =>
  obtain ⟨rfl, hx4⟩ := hcut
  generalize wc = w4 at *
  have HB4 := hid (HB3.out.ext hx4)
  have HX4 := hid (HX3.out.trans hx4)
  clear hx4 z0 z1 z2 z3 z4 z5 HB3 HX3 HNc
  obtain ⟨z0, z1, z2, z3, z4, z5⟩ := blk6 HB4.out
  have s8 : T2.size ≤ 110 := by
    have e1 : (⟨#[32]⟩ : ByteArray).size = 1 := rfl
    rw [hT2]
    split <;> first | (simp only [sz1, e1]; omega) | omega
  rw [← hT2] at HHN
  clear hT2
  go_upto_if 40 with fail
  obtain ⟨T3, hT3⟩ : ∃ T3, T3 = if er = 0 then T2 else T2 ++ (⟨#[32]⟩ ++ X5) := ⟨_, rfl⟩
  go_cut [3] from 38 to 46 (fun s wx => s = .string T3 ∧ Ext w4 wx)
  case first =>
    by_cases h5 : er = 0
    · rw [if_pos h5] at hT3
      have b5 : (er == 0) = true := by simpa using h5
      subst hT3
      go_wp2_with fail
      go_meet
      exact ⟨rfl, Ext.refl _⟩
    · have b5 : (er == 0) = false := by simpa using h5
      rw [if_neg h5] at hT3
      have HT3 := hid hT3
      clear hT3
      go_wp2_with (go_at_call 52; (with_reducible refine (HNe.out _).mono ?_); rintro _ w6 ⟨rfl, hx6⟩)
      go_meet
      exact ⟨congrArg Value.string HT3.out.symm, hx6⟩
  case rest =>
    obtain ⟨rfl, hx5⟩ := hcut
    generalize wc = W5 at *
    rw [← hT3] at HHN
    have HX5 := hid (HX4.out.trans hx5)
    have HBk5 := hid (HB4.out.ext hx5)
    have s9 : T3.size ≤ 140 := by
      have e1 : (⟨#[32]⟩ : ByteArray).size = 1 := rfl
      rw [hT3]
      split <;> first | (simp only [sz1, e1]; omega) | omega
    clear hx5 z0 z1 z2 z3 z4 z5 HB4 HX4 HNe hT3 y0 y1 y2 y3 y4 y5
    have e7 := HBk5.out.cell 7
    simp only [List.getElem?_cons_succ, List.getElem?_cons_zero] at e7
    go_wp2_with fail
    have hHe := HHN.out
    go_loopw [3, 4] (fun s iv wr => ∃ k : Nat, k ≤ m ∧ iv = .int .i64 k ∧ s = .string (wtsB H (wts.take k)) ∧ Ext W5 wr) (fun _ i _ => m - (intOf i).toNat)
    case atStart => exact ⟨0, Nat.zero_le _, rfl, by rw [List.take_zero]; exact congrArg Value.string hHe.symm, Ext.refl W5⟩
    case round =>
      obtain ⟨k, hk, rfl, rfl, hxr⟩ := hrel
      have HXW := hid hxr
      have HXr := hid (HX5.out.trans hxr)
      have HBkr := hid (HBk5.out.ext hxr)
      clear hxr
      have z7 := HBkr.out.cell 7
      have z6 := HBkr.out.cell 6
      simp only [List.getElem?_cons_succ, List.getElem?_cons_zero] at z7 z6
      have HSz : Hid ((wtsB H (wts.take k)).size ≤ 700000000) := by
        have h1 := wtsB_sz (b := H) (l := wts.take k) (fun y hy => HS2.out y (List.mem_of_mem_take hy)) (by have := List.length_take_le' k wts; have := HL2.out; omega)
        have := HHs.out
        unfold Hid
        omega
      by_cases hlt : k < m
      · obtain ⟨x, hx⟩ := rat_lt HL2.out hlt
        obtain ⟨bq, off, v, rfl, q0, q1, q2, q3⟩ := (HW.out.ext (HX.out.trans HXr.out)) k x hx
        obtain ⟨Ax, cx, rfl, hvv⟩ := q3
        have hsm := HS2.out x (List.mem_of_getElem? hx)
        have HF1 := hid (fun W => rnum_any x.tx W hsm.1)
        have HF2 := hid (fun W => rnum_any x.tb W hsm.2.1)
        have HF3 := hid (fun W (hW : Ext wr W) => rtext_any Ax x.row x.row.length cx W (hvv.ext hW) rfl (by have := hsm.2.2.1; omega) hsm.2.2.2.2 fun a ha => .inr ⟨HT.out.ext ((HX.out.trans HXr.out).trans hW), hsm.2.2.2.1 a ha⟩)
        have g1 := itoB_sz hsm.1
        have g2s := itoB_sz hsm.2.1
        have g3 := smR_fmt hsm.2.2
        have HTk := hid (wtsB_take H hx)
        have HLn : Hid (x.line = ⟨#[102, 111, 114, 32]⟩ ++ itoB x.tx ++ ⟨#[32]⟩ ++ itoB x.tb ++ ⟨#[32]⟩ ++ fmtRow x.row ++ ⟨#[10]⟩) := rfl
        have hsz := HSz.out
        clear hx hsm hvv HSz
        generalize wtsB H (wts.take k) = T0 at *
        generalize x.row.length = nr at *
        generalize itoB x.tx = X1 at *
        generalize itoB x.tb = X2 at *
        generalize fmtRow x.row = X3 at *
        generalize x.tx = xtx at *
        generalize x.tb = xtb at *
        have HC2 := hid (Blk.of_new wr 62 [.int .i64 xtx, .int .i64 xtb, .slice Ax nr cx])
        have HX2 := hid ((Ext.refl wr).alloc (.cells #[.int .i64 xtx, .int .i64 xtb, .slice Ax nr cx] 62))
        go_upto_region 13 with fail
        generalize wr.alloc (.cells _ 62) = w2 at *
        generalize wr.heap.size = g2 at *
        obtain ⟨e0, e1, e2⟩ := blk3 HC2.out
        go_region_held_law (fun w' => w'.cell? ⟨g2, 0, none⟩ = some (.int .i64 xtx) ∧ w'.cell? ⟨g2, 1, none⟩ = some (.int .i64 xtb) ∧ w'.cell? ⟨g2, 2, none⟩ = some (.slice Ax nr cx))
          (first | go_keep | exact blk3 (HC2.out.ext hx3) | exact blk3 ((HC2.out.ext hx3).ext hx4) | exact blk3 (((HC2.out.ext hx3).ext hx4).ext hx5))
          (first
            | (go_at_call 67; (with_reducible refine (HF3.out _ ((HX2.out.trans hx3).trans hx4)).mono ?_); rintro _ w5 ⟨rfl, hx5⟩)
            | (go_at_call 52; have hh := hx3; (with_reducible refine (HF2.out _).mono ?_); rintro _ w4 ⟨rfl, hx4⟩)
            | (go_at_call 52; (with_reducible refine (HF1.out _).mono ?_); rintro _ w3 ⟨rfl, hx3⟩; replace hx3 : Ext w2 w3 := (Ext.refl w2).drew.trans hx3))
        all_goals
          have HX6 := hid (((HX2.out.trans hx3).trans hx4).trans hx5)
          rename_i hHeld
          clear hHeld e0 e1 e2 hx3 hx4 hx5
          go_wp2_with fail
          go_roundw
          case rel =>
            refine ⟨k + 1, by omega, by go_num, ?_, HXW.out.trans HX6.out⟩
            rw [HTk.out, HLn.out]
          case measure => simp [intOf]; omega
      · obtain rfl : k = m := by omega
        rw [List.take_of_length_le (Nat.le_of_eq HL2.out)] at HSz ⊢
        generalize hH2 : wtsB H wts = H2 at *
        have HH2 := hid hH2
        clear hH2
        generalize wr = W7 at *
        go_wp2_with fail
        go_loopw [3, 6] (fun s iv wr => ∃ k : Nat, k ≤ n ∧ iv = .int .i64 k ∧ s = .string (rowsB H2 (rows.take k)) ∧ Ext W7 wr) (fun _ i _ => n - (intOf i).toNat)
        case atStart => exact ⟨0, Nat.zero_le _, rfl, by rw [List.take_zero]; rfl, Ext.refl W7⟩
        case round =>
          obtain ⟨k, hk, rfl, rfl, hxq⟩ := hrel
          have HXq := hid hxq
          have HBq := hid (HBkr.out.ext hxq)
          clear hxq z6
          have z6 := HBq.out.cell 6
          simp only [List.getElem?_cons_succ, List.getElem?_cons_zero] at z6
          have HS2z : Hid ((rowsB H2 (rows.take k)).size ≤ 1400000000) := by
            have h1 := rowsB_sz (b := H2) (l := rows.take k) (fun y hy => HS1.out y (List.mem_of_mem_take hy)) (by have := List.length_take_le' k rows; have := HL1.out; omega)
            have := HSz.out
            unfold Hid
            omega
          by_cases hlt : k < n
          · obtain ⟨x, hx⟩ := rat_lt HL1.out hlt
            obtain ⟨bq, off, v, rfl, q0, q1⟩ := (HR.out.ext ((HX.out.trans HXr.out).trans HXq.out)) k x hx
            obtain ⟨Ax, cx, rfl, hvv⟩ := q1
            have hsm := HS1.out x (List.mem_of_getElem? hx)
            have HF3 := hid (fun W (hW : Ext wr W) => rtext_any Ax x x.length cx W (hvv.ext hW) rfl (by have := hsm.1; omega) hsm.2.2 fun a ha => .inr ⟨HT.out.ext (((HX.out.trans HXr.out).trans HXq.out).trans hW), hsm.2.1 a ha⟩)
            have g3 := smR_fmt hsm
            have HTk := hid (rowsB_take H2 hx)
            have HLn : Hid (rowLn x = ⟨#[114, 111, 119, 32]⟩ ++ fmtRow x ++ ⟨#[10]⟩) := rfl
            have hsz := HS2z.out
            clear hx hsm hvv HS2z
            generalize rowsB H2 (rows.take k) = T0 at *
            generalize x.length = nr at *
            generalize fmtRow x = X3 at *
            go_wp2_with (first
              | (go_at_call 67; (with_reducible refine (HF3.out _ (Ext.refl _)).mono ?_); rintro _ w5 ⟨rfl, hx5⟩))
            go_roundw
            case rel =>
              refine ⟨k + 1, by omega, by go_num, ?_, HXq.out.trans hx5⟩
              rw [HTk.out, HLn.out]
            case measure => simp [intOf]; omega
          · obtain rfl : k = n := by omega
            rw [List.take_of_length_le (Nat.le_of_eq HL1.out)]
            go_wp2_with fail
            go_ret
            exact ⟨ret_str (by rw [HH2.out]), (HX.out.trans HXr.out).trans HXq.out⟩
theorem rlines_any (e : Ev) (vr vw : Value) (w : World) (hr : RsAt w vr e.rows) (hw : WsAt w vw e.wts) (hsm : e.sm) (hT : Tab w) :
    Calls Tryz.prog 32 #[evV e vr vw] w fun r w' => r = .returned (.string e.lines) ∧ Ext w w' := by
  obtain ⟨A1, c1, rfl, hr1⟩ := hr
  obtain ⟨B1, d1, rfl, hw1⟩ := hw
  rw [lines_eq]
  exact rlines_any' _ _ _ _ _ _ _ _ _ _ _ _ _ _ _ w rfl rfl hsm.2.1 hsm.2.2.1 hr1 hw1 hsm.2.2.2.1 hsm.2.2.2.2 ⟨hsm.1.2.1, hsm.1.2.2.1, hsm.1.2.2.2.1, hsm.1.2.2.2.2.2, hsm.1.2.2.2.2.1⟩ rfl hT
end Go.Proofs.YtdjdhkbomhendaaGreatDoor
