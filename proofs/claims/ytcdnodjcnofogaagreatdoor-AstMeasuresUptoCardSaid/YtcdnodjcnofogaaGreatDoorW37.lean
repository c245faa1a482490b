/-
  Walks: the law of Nodes, Depth and Columns.
-/
import Derived.Test.YtcdnodjcnofogaaGreatDoorW28
import Derived.Test.YtcdnodjcnofogaaGreatDoorW36
namespace Go.Proofs.YtcdnodjcnofogaaGreatDoor
open Go.RowKit
set_option linter.unusedVariables false
set_option linter.unusedSimpArgs false
set_option maxHeartbeats 4000000
set_option maxRecDepth 100000

theorem nodes_le : ∀ e : Ex, e.nodes ≤ e.size := by
  intro e
  induction e using Ex.ind with
  | h d ks ih =>
    have : nodesL ks ≤ sizeL ks := by
      clear d
      induction ks with
      | nil => simp [nodesL, sizeL]
      | cons a ks ih2 =>
        rw [nodesL, sizeL]
        have h1 := ih a (by simp)
        have h2 := ih2 fun e he => ih e (by simp [he])
        omega
    rw [Ex.nodes, Ex.size]
    split <;> omega
theorem ex_cells {w : World} {g t : Nat} {a0 a1 a2 a3 a4 a5 a6 a7 : Value} (h : Blk w g t [a0, a1, a2, a3, a4, a5, a6, a7]) :
    w.cell? ⟨g, 0, none⟩ = some a0 ∧ w.cell? ⟨g, 1, none⟩ = some a1 ∧ w.cell? ⟨g, 2, none⟩ = some a2 ∧ w.cell? ⟨g, 3, none⟩ = some a3 ∧ w.cell? ⟨g, 4, none⟩ = some a4 ∧ w.cell? ⟨g, 5, none⟩ = some a5 ∧ w.cell? ⟨g, 6, none⟩ = some a6 ∧ w.cell? ⟨g, 7, none⟩ = some a7 :=
  ⟨h.cell_some (i := 0) rfl, h.cell_some (i := 1) rfl, h.cell_some (i := 2) rfl, h.cell_some (i := 3) rfl, h.cell_some (i := 4) rfl, h.cell_some (i := 5) rfl, h.cell_some (i := 6) rfl, h.cell_some (i := 7) rfl⟩
theorem law_measures (e : Ex) (aA : Option Addr) (an ac : Nat) (w : World) (hv : ExV w e aA an ac) (hsz : e.size ≤ 1048576) (hg : Gd w) :
    Calls Tryz.prog 10 #[e.d.val aA an ac] w fun r w' => r = .returned (.bool true) ∧ Ext w w' := by
  have hnd := nodes_le e
  have hcl := cols_len e
  have hcb : e.cols.length ≤ 1048576 := by omega
  clear hcl
  have HA := hid (fun W (hW : Ext w W) => awake_any W (hg.ext hW))
  have HS := hid (fun W (hW : Ext w W) => smallx_any e aA an ac W (hv.ext hW))
  have HC1 := hid (fun W (hW : Ext w W) => columns_any e aA an ac W (hv.ext hW) hsz)
  have HC2 := hid (fun W (hW : Ext w W) => rcolumns_any e aA an ac w W hv hW hsz)
  have HN1 := hid (fun W (hW : Ext w W) => nodes_any e aA an ac W (hv.ext hW))
  have HN2 := hid (fun W (hW : Ext w W) => rnodes_any e aA an ac W (hv.ext hW))
  have HD1 := hid (fun W (hW : Ext w W) => depth_any e aA an ac W (hv.ext hW) (by omega))
  have HD2 := hid (fun W (hW : Ext w W) => rdepth_any e aA an ac W (hv.ext hW) (by omega))
  have HB := hid (Blk.of_new w 35 (e.d.cells aA an ac))
  have HX := hid ((Ext.refl w).alloc (.cells (e.d.cells aA an ac).toArray 35))
  clear hv hg hsz hnd
  generalize wrap64 (e.nodes : Int) = NN at *
  generalize (e.depth : Int) = DD at *
  generalize e.small = b at *
  generalize e.cols = L at *
  unfold Nd.val at *
  unfold Nd.cells at *
  generalize e.d = d at *
  obtain ⟨aop, atb, anm, aix, avk, avi, avt⟩ := d
  simp only at *
  cases b
  · go_enter Tryz.func10, Tryz.ntmps10
    go_upto_region 1 with fail
    generalize w.alloc (.cells #[.int .i64 aop, .string atb, .string anm, .int .i64 aix, .int .i64 avk, .int .i64 avi, .string avt, .slice aA an ac] 35) = w1 at *
    generalize w.heap.size = g at *
    go_wp2_with (first | (go_at_call 12; (with_reducible refine (HA.out _ ((HX.out.trans hw2).trans hw3)).mono ?_); rintro _ w4 ⟨rfl, hw4⟩) | (go_at_call 12; (with_reducible refine (HA.out _ HX.out).mono ?_); rintro _ w2 ⟨rfl, hw2⟩; have fp := HB.out.ext hw2; have p0 := fp.cell 0; have p1 := fp.cell 1; have p2 := fp.cell 2; have p3 := fp.cell 3; have p4 := fp.cell 4; have p5 := fp.cell 5; have p6 := fp.cell 6; have p7 := fp.cell 7; simp only [List.getElem?_cons_succ, List.getElem?_cons_zero] at p0 p1 p2 p3 p4 p5 p6 p7; clear fp) | (go_at_call 16; (with_reducible refine (HS.out _ (HX.out.trans hw2)).mono ?_); rintro _ w3 ⟨rfl, hw3⟩; have fq := (HB.out.ext hw2).ext hw3; have q0 := fq.cell 0; have q1 := fq.cell 1; have q2 := fq.cell 2; have q3 := fq.cell 3; have q4 := fq.cell 4; have q5 := fq.cell 5; have q6 := fq.cell 6; have q7 := fq.cell 7; simp only [List.getElem?_cons_succ, List.getElem?_cons_zero] at q0 q1 q2 q3 q4 q5 q6 q7; clear fq))
    go_ret
    exact ⟨rfl, ((HX.out.trans hw2).trans hw3).trans hw4⟩
  · go_enter Tryz.func10, Tryz.ntmps10
    go_upto_region 1 with fail
    generalize w.alloc (.cells #[.int .i64 aop, .string atb, .string anm, .int .i64 aix, .int .i64 avk, .int .i64 avi, .string avt, .slice aA an ac] 35) = w1 at *
    generalize w.heap.size = g at *
    go_wp2_with (first | (go_at_call 12; (with_reducible refine (HA.out _ HX.out).mono ?_); rintro _ w2 ⟨rfl, hw2⟩; have fp := HB.out.ext hw2; have p0 := fp.cell 0; have p1 := fp.cell 1; have p2 := fp.cell 2; have p3 := fp.cell 3; have p4 := fp.cell 4; have p5 := fp.cell 5; have p6 := fp.cell 6; have p7 := fp.cell 7; simp only [List.getElem?_cons_succ, List.getElem?_cons_zero] at p0 p1 p2 p3 p4 p5 p6 p7; clear fp) | (go_at_call 16; (with_reducible refine (HS.out _ (HX.out.trans hw2)).mono ?_); rintro _ w3 ⟨rfl, hw3⟩; have fq := (HB.out.ext hw2).ext hw3; have q0 := fq.cell 0; have q1 := fq.cell 1; have q2 := fq.cell 2; have q3 := fq.cell 3; have q4 := fq.cell 4; have q5 := fq.cell 5; have q6 := fq.cell 6; have q7 := fq.cell 7; simp only [List.getElem?_cons_succ, List.getElem?_cons_zero] at q0 q1 q2 q3 q4 q5 q6 q7; clear fq))
    have HX3 := hid ((HX.out.trans hw2).trans hw3)
    have HB3 := hid ((HB.out.ext hw2).ext hw3)
    have hS := ex_cells HB3.out
    clear hw2 hw3 p0 p1 p2 p3 p4 p5 p6 p7 q0 q1 q2 q3 q4 q5 q6 q7
    go_region_held3 (fun w' => w'.cell? ⟨g, 0, none⟩ = some (.int .i64 aop) ∧ w'.cell? ⟨g, 1, none⟩ = some (.string atb) ∧ w'.cell? ⟨g, 2, none⟩ = some (.string anm) ∧ w'.cell? ⟨g, 3, none⟩ = some (.int .i64 aix) ∧ w'.cell? ⟨g, 4, none⟩ = some (.int .i64 avk) ∧ w'.cell? ⟨g, 5, none⟩ = some (.int .i64 avi) ∧ w'.cell? ⟨g, 6, none⟩ = some (.string avt) ∧ w'.cell? ⟨g, 7, none⟩ = some (.slice aA an ac))
      (first | go_keep | exact ex_cells (HB3.out.ext z5) | exact ex_cells (HB3.out.ext z4) | exact ex_cells (HB3.out.ext ((Ext.refl _).drew)))
      (first | (go_at_call 28; refine (HC2.out _ (HX3.out.trans z4)).mono ?_; rintro _ w5 ⟨v2, xs2, rfl, ho2, hl2, qx5⟩; have z5 := z4.trans qx5; obtain ⟨A2, c2, rfl, hk2, hn2⟩ := own_kids ho2 (hl2.ext (HX3.out.trans z5))) | (go_at_call 27; refine (HC1.out _ (HX3.out.trans ((Ext.refl _).drew))).mono ?_; rintro _ w4 ⟨v1, xs1, rfl, hin1, qx4⟩; have z4 := ((Ext.refl _).drew).trans qx4; obtain ⟨A1, c1, rfl, hk1, hn1⟩ := own_kids hin1.1 (hin1.2 w4 fun _ _ _ _ => rfl)))
    have HX5 := hid (HX3.out.trans z5)
    have HB5 := hid (HB3.out.ext z5)
    have HK1 := hid (hk1.ext qx5)
    have HK2 := hid hk2
    clear z4 z5 qx4 hin1 ho2 hl2 hk1 hk2 hS qx5
    rename_i hh
    clear hh
    obtain ⟨n, hn⟩ : ∃ n, L.length = n := ⟨_, rfl⟩
    have HLn := hid hn
    rw [hn] at hcb ⊢
    clear hn hn1 hn2
    have bN : (NN != NN) = false := by simp
    have bD : (DD != DD) = false := by simp
    have bP : ((n : Int) != (n : Int)) = false := by simp
    have H1 : Hid (∀ z : Later w5, Calls Tryz.prog 26 _ z.now _) := fun z => HN1.out z.now (HX5.out.trans z.ext)
    have H2 : Hid (∀ z : Later w5, Calls Tryz.prog 29 _ z.now _) := fun z => HN2.out z.now (HX5.out.trans z.ext)
    have H3 : Hid (∀ z : Later w5, Calls Tryz.prog 30 _ z.now _) := fun z => HD1.out z.now (HX5.out.trans z.ext)
    have H4 : Hid (∀ z : Later w5, Calls Tryz.prog 31 _ z.now _) := fun z => HD2.out z.now (HX5.out.trans z.ext)
    have p0 := Later.keep (HB5.out.cell_some (i := 0) rfl)
    have p1 := Later.keep (HB5.out.cell_some (i := 1) rfl)
    have p2 := Later.keep (HB5.out.cell_some (i := 2) rfl)
    have p3 := Later.keep (HB5.out.cell_some (i := 3) rfl)
    have p4 := Later.keep (HB5.out.cell_some (i := 4) rfl)
    have p5 := Later.keep (HB5.out.cell_some (i := 5) rfl)
    have p6 := Later.keep (HB5.out.cell_some (i := 6) rfl)
    have p7 := Later.keep (HB5.out.cell_some (i := 7) rfl)
    go_wp2_with fail
    refine wp_region_later (by kernel_rfl) (by kernel_rfl) ?_
    repeat (go_big_quiet_step (first | (go_at_call 26; with_reducible exact later_of (H1.out _)) | (go_at_call 29; with_reducible exact later_of (H2.out _)) | (go_at_call 30; with_reducible exact later_of (H3.out _)) | (go_at_call 31; with_reducible exact later_of (H4.out _))))
    refine wpQuiet_nil ?_
    intro w6 hw6
    have hx6 := later_out hw6
    clear hw6 p0 p1 p2 p3 p4 p5 p6 p7
    have HX6 := hid hx6
    clear hx6
    go_wp2_with fail
    go_loopw [39] (fun iv wr => ∃ (k : Nat), k ≤ n ∧ iv = .int .i64 k ∧ Ext w5 wr) (fun i _ => n - (intOf i).toNat)
    case atStart => exact ⟨0, Nat.zero_le _, rfl, HX6.out⟩
    case round =>
      obtain ⟨k, hk, rfl, hxr⟩ := hrel
      have HXr := hid hxr
      by_cases hlt : k < n
      · obtain ⟨x, hx⟩ := at_lt HLn.out hlt
        obtain ⟨b, off, A', n', c', rfl, q0, q1, q2, q3, q4, q5, q6, q7, hv1⟩ := (HK1.out.ext hxr).get hx
        obtain ⟨b2, off2, A3, n3, c3, rfl, s0, s1, s2, s3, s4, s5, s6, s7, hv2⟩ := (HK2.out.ext hxr).get hx
        have i0 : (0 : Int) ≤ (k : Int) := by omega
        have i1 : (k : Int) < (n : Int) := by omega
        have HC : Hid (∀ z : Later wr, Calls Tryz.prog 24 #[x.d.val A' n' c', x.d.val A3 n3 c3] z.now fun r W' => r = .returned (.bool true) ∧ Ext z.now W') := by
          intro z
          have := rsame_any x x A' A3 n' n3 c' c3 z.now (hv1.ext z.ext) (hv2.ext z.ext)
          rwa [same_refl] at this
        clear hx hv1 hv2 hxr
        unfold Nd.val at HC
        generalize x.d = d at *
        obtain ⟨op', tb', nm', ix', vk', vi', vt'⟩ := d
        simp only at *
        have bI : (ix' != ix') = false := by simp
        replace q0 := Later.keep q0
        replace s0 := Later.keep s0
        replace q1 := Later.keep q1
        replace s1 := Later.keep s1
        replace q2 := Later.keep q2
        replace s2 := Later.keep s2
        replace q3 := Later.keep q3
        replace s3 := Later.keep s3
        replace q4 := Later.keep q4
        replace s4 := Later.keep s4
        replace q5 := Later.keep q5
        replace s5 := Later.keep s5
        replace q6 := Later.keep q6
        replace s6 := Later.keep s6
        replace q7 := Later.keep q7
        replace s7 := Later.keep s7
        go_wp2_with fail
        refine wp_region_later (by kernel_rfl) (by kernel_rfl) ?_
        repeat (go_big_quiet_step ((go_at_call 24; exact later_of (HC.out _))))
        refine wpQuiet_nil ?_
        intro w7 hw7
        have hx7 := later_out hw7
        clear hw7
        go_wp2_with fail
        go_roundw
        case rel => exact ⟨k + 1, by omega, by go_num, HXr.out.trans hx7⟩
        case measure => simp [intOf]; omega
      · obtain rfl : k = n := by omega
        go_wp2_with fail
        go_ret
        exact ⟨rfl, HX5.out.trans HXr.out⟩
end Go.Proofs.YtcdnodjcnofogaaGreatDoor
