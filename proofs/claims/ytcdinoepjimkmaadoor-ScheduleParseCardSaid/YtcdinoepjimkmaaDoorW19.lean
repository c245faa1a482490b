/-
  Walks over the schedule package: parseLine, a line of one word.
-/
import Derived.Test.YtcdinoepjimkmaaDoorW15
import Derived.Test.YtcdinoepjimkmaaDoorW4
import Derived.RegionTactic
import Derived.Deep.CutRange
import Derived.Deep.CutBlock
namespace Go.Proofs.YtcdinoepjimkmaaDoor
open Go.RowKit
set_option linter.unusedVariables false
set_option maxHeartbeats 8000000
set_option maxRecDepth 100000

theorem parseline_zero (s t0 : ByteArray) (w : World) (hs : s.size ≤ 20000) (htab : Tab w) (HWS : Hid (wordsL s.data.toList = [t0.data.toList]))
    (HSP2 : Hid (∀ W, Ext w W → Calls Tryd.prog 39 #[.string s, .string ⟨#[32]⟩] W fun e w' => e = .returned (.slice (some ⟨W.heap.size, 0, none⟩) 1 1) ∧ Ext W w' ∧ Blk w' W.heap.size 9 [.string t0])) :
    Calls Tryd.prog 33 #[.string s] w fun e w' => ∃ v, e = .returned v ∧ LineRes s v ∧ Ext w w' := by
  have HBS0 := hid (Blk.of_new w 29 [.int .i64 0, .int .i64 0, .int .i64 0, .int .i64 0])
  have hxa : Ext w (w.alloc (.cells #[.int .i64 0, .int .i64 0, .int .i64 0, .int .i64 0] 29)) := (Ext.refl w).alloc _
  have HLP := hid (lineP_of _ _ _ [] HWS.out rfl)
  have HLN := hid (fun (a : Act) W (hr : rightB a 8 = true) (h : Ext w W) => line_any a.k a.s a.wr a.b W (right_can hr (htab.ext h)))
  go_enter Tryd.func33, Tryd.ntmps33
  go_wp2_with (go_at_call 39; refine (HSP2.out _ hxa).mono ?_; rintro e wr ⟨rfl, hx1, hbw⟩)
  have HXw := hid (hxa.trans hx1)
  have HBSr := hid (HBS0.out.ext hx1)
  rw [World.size_alloc] at hbw
  have hcw := hbw.cell_some (i := 0) (v := .string t0) rfl
  clear hbw hxa hx1
  go_loop [5, 16] (fun v i => v = .slice none 0 0 ∧ i = .int .i64 0) (fun _ _ => 0)
  case atStart => exact ⟨rfl, rfl⟩
  case round =>
    obtain ⟨rfl, rfl⟩ := hrel
    have hcwz : (wr.alloc (.cells #[.int .i64 0, .int .i64 0, .int .i64 0, .int .i64 0] 29)).cell? ⟨w.heap.size + 1, 0, none⟩ = some (.string t0) := ((Ext.refl wr).alloc _).keep hcw
    clear HSP2
    go_upto_block 2 with fail
    go_cut [] from 33 to 75 (fun wx => Blk wx wr.heap.size 29 [.int .i64 (candA t0.data.toList []).k, .int .i64 (candA t0.data.toList []).s, .int .i64 (candA t0.data.toList []).wr, .int .i64 (candA t0.data.toList []).b] ∧ Blk wx w.heap.size 29 [.int .i64 0, .int .i64 0, .int .i64 0, .int .i64 0] ∧ Ext w wx)
    case first =>
      by_cases h1 : t0.data.toList = checkW
      · have b0 : (t0.toList == [115, 116, 101, 112]) = false := by rw [seq_list, h1]; rfl
        have b1 : (t0.toList == [99, 104, 101, 99, 107, 112, 111, 105, 110, 116]) = true := by rw [seq_list, h1]; rfl
        have HCA : Hid (candA t0.data.toList [] = ⟨2, 0, 0, 0⟩) := by rw [h1]; rfl
        clear h1
        go_wp2_with fail
        go_meet
        rw [HCA.out]
        exact ⟨Blk.of_new wr 29 _, HBSr.out.ext ((Ext.refl wr).alloc _), HXw.out.trans ((Ext.refl wr).alloc _)⟩
      · have b1 : (t0.toList == [99, 104, 101, 99, 107, 112, 111, 105, 110, 116]) = false := by rw [seq_list]; exact decide_eq_false h1
        by_cases h2 : t0.data.toList = recoW
        · have b0 : (t0.toList == [115, 116, 101, 112]) = false := by rw [seq_list, h2]; rfl
          have b2 : (t0.toList == [114, 101, 99, 111, 118, 101, 114]) = true := by rw [seq_list, h2]; rfl
          have HCA : Hid (candA t0.data.toList [] = ⟨4, 0, 0, 0⟩) := by rw [h2]; rfl
          clear h1 h2
          go_wp2_with fail
          go_meet
          rw [HCA.out]
          exact ⟨Blk.of_new wr 29 _, HBSr.out.ext ((Ext.refl wr).alloc _), HXw.out.trans ((Ext.refl wr).alloc _)⟩
        · have b2 : (t0.toList == [114, 101, 99, 111, 118, 101, 114]) = false := by rw [seq_list]; exact decide_eq_false h2
          by_cases h3 : t0.data.toList = crashW
          · have b0 : (t0.toList == [115, 116, 101, 112]) = false := by rw [seq_list, h3]; rfl
            have b3 : (t0.toList == [99, 114, 97, 115, 104]) = true := by rw [seq_list, h3]; rfl
            have HCA : Hid (candA t0.data.toList [] = ⟨3, 0, 0, 0⟩) := by rw [h3]; rfl
            clear h1 h2 h3
            go_wp2_with fail
            go_meet
            rw [HCA.out]
            exact ⟨Blk.of_new wr 29 _, HBSr.out.ext ((Ext.refl wr).alloc _), HXw.out.trans ((Ext.refl wr).alloc _)⟩
          · have b3 : (t0.toList == [99, 114, 97, 115, 104]) = false := by rw [seq_list]; exact decide_eq_false h3
            have HCA : Hid (candA t0.data.toList [] = ⟨0, 0, 0, 0⟩) := by unfold Hid candA; rw [if_neg (fun h => absurd h.2 (by decide)), if_neg h1, if_neg h2, if_neg h3]
            clear h1 h2 h3
            cases b0 : (t0.toList == [115, 116, 101, 112])
            all_goals
              go_wp2_with fail
              go_meet
              rw [HCA.out]
              exact ⟨Blk.of_new wr 29 _, HBSr.out.ext ((Ext.refl wr).alloc _), HXw.out.trans ((Ext.refl wr).alloc _)⟩
    case rest =>
      obtain ⟨hba, hbz, hxa⟩ := hcut
      have HBa := hid hba
      have HBz0 := hid hbz
      have HXa := hid hxa
      clear hba hbz hxa hcwz hcw HBSr HXw
      revert HLP HBa
      generalize candA t0.data.toList [] = act
      intro HLP HBa
      obtain ⟨ck, cs, cw, cb⟩ := act
      simp only at HBa
      cases hr : rightB ⟨ck, cs, cw, cb⟩ 8
      · go_wp2_with fail
        have ac0 := HBa.out.cell 0
        have ac1 := HBa.out.cell 1
        have ac2 := HBa.out.cell 2
        have ac3 := HBa.out.cell 3
        have HVA : Hid (∀ W, Calls Tryd.prog 25 #[.agg #[.int .i64 ck, .int .i64 cs, .int .i64 cw, .int .i64 cb], .int .i64 8] W fun e w' => e = .returned (.bool false) ∧ Ext W w') := fun W => by
          have := va_any ((⟨ck, cs, cw, cb⟩ : Act)).k ((⟨ck, cs, cw, cb⟩ : Act)).s ((⟨ck, cs, cw, cb⟩ : Act)).wr ((⟨ck, cs, cw, cb⟩ : Act)).b 8 W
          rw [show rightB ⟨((⟨ck, cs, cw, cb⟩ : Act)).k, ((⟨ck, cs, cw, cb⟩ : Act)).s, ((⟨ck, cs, cw, cb⟩ : Act)).wr, ((⟨ck, cs, cw, cb⟩ : Act)).b⟩ 8 = false from hr] at this
          exact this
        have HRES : Hid (lineP s.data.toList = none) := by
          unfold Hid
          rw [HLP.out, if_neg (fun h => by rw [hr] at h; exact absurd h.1 (by decide))]
        clear hr HLN HLP
        first | go_region_with (go_at_call 25; refine (HVA.out _).mono ?_; rintro e w5 ⟨rfl, hx5⟩; have HB5 := hid ((HBa.out.drew).ext hx5); have HZ5 := hid ((HBz0.out.drew).ext hx5); have HX5 := hid ((HXa.out.drew).trans hx5); have pc0 := HB5.out.cell 0; have pf0 := HB5.out.frozen 0; have pc1 := HB5.out.cell 1; have pf1 := HB5.out.frozen 1; have pc2 := HB5.out.cell 2; have pf2 := HB5.out.frozen 2; have pc3 := HB5.out.cell 3; have pf3 := HB5.out.frozen 3; have qc0 := HZ5.out.cell 0; have qf0 := HZ5.out.frozen 0; have qc1 := HZ5.out.cell 1; have qf1 := HZ5.out.frozen 1; have qc2 := HZ5.out.cell 2; have qf2 := HZ5.out.frozen 2; have qc3 := HZ5.out.cell 3; have qf3 := HZ5.out.frozen 3) | fail
        all_goals
          go_wp2_with fail
          have z4 := (((HZ5.out.set 0 (.int .i64 ck)).set 1 (.int .i64 cs)).set 2 (.int .i64 cw)).set 3 (.int .i64 cb)
          have z0 := z4.cell 0
          have z1 := z4.cell 1
          have z2 := z4.cell 2
          have z3 := z4.cell 3
          exact bodyPost_ret (v := .tuple #[.agg #[.int .i64 ck, .int .i64 cs, .int .i64 cw, .int .i64 cb], .bool false]) (by simp [results, Tryd.results33, go_sem, z0, z1, z2, z3]) rfl ⟨_, rfl, ⟨(⟨ck, cs, cw, cb⟩ : Act), false, rfl, HRES.out⟩, (((HX5.out.setCell (Nat.le_refl _) _).setCell (Nat.le_refl _) _).setCell (Nat.le_refl _) _).setCell (Nat.le_refl _) _⟩
      · go_wp2_with fail
        have ac0 := HBa.out.cell 0
        have ac1 := HBa.out.cell 1
        have ac2 := HBa.out.cell 2
        have ac3 := HBa.out.cell 3
        have HVA : Hid (∀ W, Calls Tryd.prog 25 #[.agg #[.int .i64 ck, .int .i64 cs, .int .i64 cw, .int .i64 cb], .int .i64 8] W fun e w' => e = .returned (.bool true) ∧ Ext W w') := fun W => by
          have := va_any ((⟨ck, cs, cw, cb⟩ : Act)).k ((⟨ck, cs, cw, cb⟩ : Act)).s ((⟨ck, cs, cw, cb⟩ : Act)).wr ((⟨ck, cs, cw, cb⟩ : Act)).b 8 W
          rw [show rightB ⟨((⟨ck, cs, cw, cb⟩ : Act)).k, ((⟨ck, cs, cw, cb⟩ : Act)).s, ((⟨ck, cs, cw, cb⟩ : Act)).wr, ((⟨ck, cs, cw, cb⟩ : Act)).b⟩ 8 = true from hr] at this
          exact this
        have HLI : Hid (∀ W, Ext w W → Calls Tryd.prog 30 #[.agg #[.int .i64 ck, .int .i64 cs, .int .i64 cw, .int .i64 cb]] W fun e w' => e = .returned (.string (lineB (⟨ck, cs, cw, cb⟩ : Act))) ∧ Ext W w') := fun W h => HLN.out (⟨ck, cs, cw, cb⟩ : Act) W hr h
        have HRES : Hid (lineP s.data.toList = if ((lineB (⟨ck, cs, cw, cb⟩ : Act)).toList == s.toList) = true then some (⟨ck, cs, cw, cb⟩ : Act) else none) := by
          unfold Hid
          rw [HLP.out]
          by_cases heq : (lineB (⟨ck, cs, cw, cb⟩ : Act)).data.toList = s.data.toList
          · rw [if_pos ⟨hr, heq⟩, if_pos (by rw [seq_list, ByteArray.toList_eq]; exact decide_eq_true heq)]
          · rw [if_neg (fun h => heq h.2), if_neg (by rw [seq_list, ByteArray.toList_eq, decide_eq_false heq]; decide)]
        clear hr HLN HLP
        generalize lineB (⟨ck, cs, cw, cb⟩ : Act) = L at *
        first | go_region_with (first
          | (go_at_call 25; refine (HVA.out _).mono ?_; rintro e w5 ⟨rfl, hx5⟩; have HB5 := hid ((HBa.out.drew).ext hx5); have HZ5 := hid ((HBz0.out.drew).ext hx5); have HX5 := hid ((HXa.out.drew).trans hx5); have pc0 := HB5.out.cell 0; have pf0 := HB5.out.frozen 0; have pc1 := HB5.out.cell 1; have pf1 := HB5.out.frozen 1; have pc2 := HB5.out.cell 2; have pf2 := HB5.out.frozen 2; have pc3 := HB5.out.cell 3; have pf3 := HB5.out.frozen 3; have qc0 := HZ5.out.cell 0; have qf0 := HZ5.out.frozen 0; have qc1 := HZ5.out.cell 1; have qf1 := HZ5.out.frozen 1; have qc2 := HZ5.out.cell 2; have qf2 := HZ5.out.frozen 2; have qc3 := HZ5.out.cell 3; have qf3 := HZ5.out.frozen 3)
          | (go_at_call 30; refine (HLI.out _ ?_).mono ?_; exact HX5.out; rintro e w6 ⟨rfl, hx6⟩; have HB6 := hid (HB5.out.ext hx6); have HZ6 := hid (HZ5.out.ext hx6); have HX6 := hid (HX5.out.trans hx6); have rc0 := HB6.out.cell 0; have rf0 := HB6.out.frozen 0; have rc1 := HB6.out.cell 1; have rf1 := HB6.out.frozen 1; have rc2 := HB6.out.cell 2; have rf2 := HB6.out.frozen 2; have rc3 := HB6.out.cell 3; have rf3 := HB6.out.frozen 3; have tc0 := HZ6.out.cell 0; have tf0 := HZ6.out.frozen 0; have tc1 := HZ6.out.cell 1; have tf1 := HZ6.out.frozen 1; have tc2 := HZ6.out.cell 2; have tf2 := HZ6.out.frozen 2; have tc3 := HZ6.out.cell 3; have tf3 := HZ6.out.frozen 3)) | fail
        all_goals
          go_wp2_with fail
          have z4 := (((HZ6.out.set 0 (.int .i64 ck)).set 1 (.int .i64 cs)).set 2 (.int .i64 cw)).set 3 (.int .i64 cb)
          have z0 := z4.cell 0
          have z1 := z4.cell 1
          have z2 := z4.cell 2
          have z3 := z4.cell 3
          exact bodyPost_ret (v := .tuple #[.agg #[.int .i64 ck, .int .i64 cs, .int .i64 cw, .int .i64 cb], .bool (L.toList == s.toList)]) (by simp [results, Tryd.results33, go_sem, z0, z1, z2, z3]) rfl ⟨_, rfl, ⟨(⟨ck, cs, cw, cb⟩ : Act), (L.toList == s.toList), rfl, HRES.out⟩, (((HX6.out.setCell (Nat.le_refl _) _).setCell (Nat.le_refl _) _).setCell (Nat.le_refl _) _).setCell (Nat.le_refl _) _⟩
end Go.Proofs.YtcdinoepjimkmaaDoor
