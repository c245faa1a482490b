/-
  Walks over the schedule package: parseLine, a line of more words.
-/
import Derived.Test.YtcdinoepjimkmaaDoorW15
import Derived.Test.YtcdinoepjimkmaaDoorW4
import Derived.RegionTactic
import Derived.Deep.CutRange
import Derived.Deep.CutBlock
namespace Go.Proofs.YtcdinoepjimkmaaDoor
open Go.RowKit
set_option linter.unusedVariables false
set_option maxHeartbeats 8000000
set_option maxRecDepth 100000

theorem own_ints {w : World} {B n : Nat} {v : Value} {l : List Int} (h : w.ownsRow B 3 1 v n (ints l)) (h0 : 0 < n) : ∃ g c, v = .slice (some ⟨g, 0, none⟩) n c ∧ ∀ j x, l[j]? = some x → w.cell? ⟨g, j, none⟩ = some (.int .i64 x) := by
  have hc := fun g (hg : v.ownBlock = some g) => h.cells hg
  rcases h.2 with ⟨rfl, h1⟩ | ⟨g, cap, cur, rfl, _⟩
  · omega
  · refine ⟨g, cap, rfl, fun j x hj => ?_⟩
    have := hc g rfl j (.int .i64 x) (by unfold ints; rw [List.getElem?_map, hj]; rfl)
    have hadd : (⟨g, 0, none⟩ : Addr).add j = ⟨g, 0 + j, none⟩ := by unfold Addr.add; split <;> simp_all
    rw [hadd, Nat.zero_add] at this
    exact this
theorem parseline_more (s t0 : ByteArray) (tr : List ByteArray) (m : Nat) (w : World) (hs : s.size ≤ 20000) (htab : Tab w) (her : Er w) (HM : Hid (tr.length = m)) (hmp : 0 < m) (hw1 : m + 1 ≤ 20002) (HWS : Hid (wordsL s.data.toList = t0.data.toList :: tr.map (fun t => t.data.toList)))
    (HWZ : Hid (∀ t ∈ t0 :: tr, t.size ≤ 20000))
    (HSP2 : Hid (∀ W, Ext w W → Calls Tryd.prog 39 #[.string s, .string ⟨#[32]⟩] W fun e w' => e = .returned (.slice (some ⟨W.heap.size, 0, none⟩) (m + 1) (m + 1)) ∧ Ext W w' ∧ Blk w' W.heap.size 9 ((t0 :: tr).map Value.string))) :
    Calls Tryd.prog 33 #[.string s] w fun e w' => ∃ v, e = .returned v ∧ LineRes s v ∧ Ext w w' := by
  obtain ⟨i0, hi, hz0, hz1, hz2⟩ := info_parts info3
  have HBS0 := hid (Blk.of_new w 29 [.int .i64 0, .int .i64 0, .int .i64 0, .int .i64 0])
  have hxa : Ext w (w.alloc (.cells #[.int .i64 0, .int .i64 0, .int .i64 0, .int .i64 0] 29)) := (Ext.refl w).alloc _
  have HLN := hid (fun (a : Act) W (hr : rightB a 8 = true) (h : Ext w W) => line_any a.k a.s a.wr a.b W (right_can hr (htab.ext h)))
  have hm0 : ¬ m = 0 := by omega
  go_enter Tryd.func33, Tryd.ntmps33
  go_wp2_with (go_at_call 39; refine (HSP2.out _ hxa).mono ?_; rintro e w1 ⟨rfl, hx1, hbw⟩; have HX1 := hid (hxa.trans hx1); have HBS1 := hid (HBS0.out.ext hx1); rw [World.size_alloc] at hbw; have HBW := hid hbw; clear hbw hxa)
  go_loopw [5, 16] (fun v i wr => ∃ (k : Nat) (ns : List Int), k ≤ m ∧ i = .int .i64 k ∧ wr.ownsRow w1.heap.size 3 1 v ns.length (ints ns) ∧ ns.length = k ∧ Ext w1 wr ∧ atois (tr.map (fun t => t.data.toList)) = (atois ((tr.drop k).map (fun t => t.data.toList))).map (ns ++ ·)) (fun _ i _ => m - (intOf i).toNat)
  case atStart => exact ⟨0, [], Nat.zero_le _, rfl, World.ownsRow_nil _ _ _ _, rfl, Ext.refl _, by rw [List.drop_zero]; cases atois _ <;> rfl⟩
  case round =>
    obtain ⟨k, ns, hk, rfl, hown, hnl, hxr, hat⟩ := hrel
    rw [hnl] at hown
    obtain ⟨A, c, rfl⟩ := own_shape hown
    have HAT := hid hat
    have HNL := hid hnl
    have HBWr := hid (HBW.out.ext hxr)
    have HBSr := hid (HBS1.out.ext hxr)
    clear hat
    by_cases hlt : k < m
    · have hkt : k < tr.length := by rw [HM.out]; exact hlt
      obtain ⟨t, ht⟩ : ∃ t, tr[k]? = some t := ⟨_, List.getElem?_eq_getElem hkt⟩
      have hcw := HBWr.out.cell_some (i := k + 1) (v := .string t) (by rw [List.map_cons, List.getElem?_cons_succ, List.getElem?_map, ht]; rfl)
      have hcw' : wr.cell? ⟨w.heap.size + 1, 1 + k, none⟩ = some (.string t) := by rw [Nat.add_comm 1 k]; exact hcw
      have hdr : tr.drop k = t :: tr.drop (k + 1) := by
        rw [List.drop_eq_getElem_cons hkt]
        rw [List.getElem?_eq_getElem hkt] at ht
        injection ht with ht
        rw [ht]
      have htz : t.size ≤ 20000 := HWZ.out t (List.mem_cons_of_mem _ (List.mem_of_getElem? ht))
      have HA := hid (fun W (h : Ext w W) => atoi_any t (by omega) W (her.ext h))
      have HXw := hid (HX1.out.trans hxr)
      have HD := hid hdr
      clear ht hdr hkt
      cases hv : atoiO t.data.toList with
      | none =>
        have HLN : Hid (lineP s.data.toList = none) := by
          unfold Hid lineP
          rw [HWS.out]
          simp only
          rw [HAT.out, HD.out, List.map_cons, atois_none _ _ hv]
          rfl
        have HB : Hid (∀ W, Ext w W → Calls Tryd.prog 40 #[.string t] W fun e w' => ∃ n tp p, e = .returned (.tuple #[.int .i64 n, .iface tp p]) ∧ Ext W w') := by
          intro W hW
          refine (HA.out W hW).mono ?_
          rintro e w' ⟨(⟨v, h1, rfl⟩ | ⟨h1, n, tp, p, rfl⟩), hx⟩
          · unfold atoiO at hv
            rw [h1] at hv
            cases hv
          · exact ⟨n, tp, p, rfl, hx⟩
        clear hv HA
        go_wp2_with (go_at_call 40; refine (HB.out _ HXw.out).mono ?_; rintro e w2 ⟨n, tp, p, rfl, hx2⟩; have HBz := hid (HBSr.out.ext hx2); have hc0 := HBz.out.cell 0; have hc1 := HBz.out.cell 1; have hc2 := HBz.out.cell 2; have hc3 := HBz.out.cell 3; have hf0 := HBz.out.frozen 0; have hf1 := HBz.out.frozen 1; have hf2 := HBz.out.frozen 2; have hf3 := HBz.out.frozen 3)
        have s0 := (((HBz.out.set 0 (.int .i64 0)).set 1 (.int .i64 0)).set 2 (.int .i64 0)).set 3 (.int .i64 0)
        have q0 := s0.cell 0
        have q1 := s0.cell 1
        have q2 := s0.cell 2
        have q3 := s0.cell 3
        exact bodyPost_ret (v := .tuple #[.agg #[.int .i64 0, .int .i64 0, .int .i64 0, .int .i64 0], .bool false]) (by simp [results, Tryd.results33, go_sem, q0, q1, q2, q3]) rfl ⟨_, rfl, ⟨⟨0, 0, 0, 0⟩, false, rfl, HLN.out⟩, ((((HXw.out.trans hx2).setCell (Nat.le_refl _) _).setCell (Nat.le_refl _) _).setCell (Nat.le_refl _) _).setCell (Nat.le_refl _) _⟩
      | some v =>
        have HN2 : Hid (atois (tr.map (fun t => t.data.toList)) = (atois ((tr.drop (k + 1)).map (fun t => t.data.toList))).map ((ns ++ [v]) ++ ·)) := by
          unfold Hid
          rw [HAT.out, HD.out, List.map_cons, atois_some _ _ v hv, Option.map_map]
          congr 1
          funext x
          simp
        have HB : Hid (∀ W, Ext w W → Calls Tryd.prog 40 #[.string t] W fun e w' => e = .returned (.tuple #[.int .i64 v, .nilIface]) ∧ Ext W w') := by
          intro W hW
          refine (HA.out W hW).mono ?_
          rintro e w' ⟨(⟨v', h1, rfl⟩ | ⟨h1, n, tp, p, rfl⟩), hx⟩
          · unfold atoiO at hv
            rw [h1] at hv
            injection hv with hv
            subst hv
            exact ⟨rfl, hx⟩
          · unfold atoiO at hv
            cases hq : Lib.atoiAll t.data.toList with
            | ok u => exact absurd hq (h1 u)
            | _ => rw [hq] at hv; cases hv
        clear hv HA
        go_wp2_with (first
          | (go_at_call 40; refine (HB.out _ HXw.out).mono ?_; rintro e w2 ⟨rfl, hx2⟩)
          | (at_builtin; refine wpList_app _ rfl _ _ 76 rfl w1.heap.size 3 i0 (.int .i64 0) 8 Tryd.underlying76 hi hz0 hz1 hz2 rfl _ _ _ rfl (own_ext hown (hx2.alloc _)) ⟨_, 0, none⟩ 1 1 [Value.int .i64 v] rfl rfl (news_at _ _ _ _ (by simp)) (by intro u hu; simp at hu; subst hu; rfl) (by unfold maxLen; omega) (by omega) (by have := hxr.size; have := hx2.size; simp; omega) ?_; intro v' w3 hown' hg' hat' hold' _))
        go_roundw
        case rel =>
          refine ⟨k + 1, ns ++ [v], by omega, by go_num, by rw [ints_snoc, List.length_append, HNL.out]; exact hown', by rw [List.length_append, HNL.out]; rfl, Ext.grown (hxr.trans (hx2.alloc _)) hg' (fun g hg => ?_), HN2.out⟩
          have := own_ge hown hg
          omega
        case measure => simp [intOf]; omega
    · obtain rfl : k = m := by omega
      have hns : atois (tr.map (fun t => t.data.toList)) = some ns := by
        rw [HAT.out, List.drop_of_length_le (by rw [HM.out]; exact Nat.le_refl _)]
        show some (ns ++ []) = some ns
        rw [List.append_nil]
      have HLP := hid (lineP_of _ _ _ ns HWS.out hns)
      have HXw := hid (HX1.out.trans hxr)
      have hcw := HBWr.out.cell_some (i := 0) (v := .string t0) rfl
      have hcwz : (wr.alloc (.cells #[.int .i64 0, .int .i64 0, .int .i64 0, .int .i64 0] 29)).cell? ⟨w.heap.size + 1, 0, none⟩ = some (.string t0) := ((Ext.refl wr).alloc _).keep hcw
      clear hns HAT HBWr HBW HBS1 HBS0 HX1 HWS HWZ HSP2 hx1 hcw HNL
      subst hnl
      go_upto_block 2 with fail
      go_cut [] from 33 to 75 (fun wx => Blk wx wr.heap.size 29 [.int .i64 (candA t0.data.toList ns).k, .int .i64 (candA t0.data.toList ns).s, .int .i64 (candA t0.data.toList ns).wr, .int .i64 (candA t0.data.toList ns).b] ∧ Blk wx w.heap.size 29 [.int .i64 0, .int .i64 0, .int .i64 0, .int .i64 0] ∧ Ext w wx)
      case first =>
        by_cases hA : t0.data.toList = stepW ∧ ns.length = 1
        · obtain ⟨x, rfl⟩ : ∃ x, ns = [x] := by
            have h1 := hA.2
            cases ns with
            | nil => simp at h1
            | cons x r =>
              cases r with
              | nil => exact ⟨x, rfl⟩
              | cons y q => simp at h1
          have b0 : (t0.toList == [115, 116, 101, 112]) = true := by rw [seq_list]; exact decide_eq_true hA.1
          have HCA : Hid (candA t0.data.toList [x] = ⟨1, x, 0, 0⟩) := by unfold Hid candA; rw [if_pos ⟨hA.1, rfl⟩]; rfl
          obtain ⟨g, c2, hA2, hgc⟩ := own_ints hown (by simp)
          simp only [Value.slice.injEq] at hA2
          obtain ⟨rfl, _, rfl⟩ := hA2
          have hx0 := hgc 0 x rfl
          have hx0z : (wr.alloc (.cells #[.int .i64 0, .int .i64 0, .int .i64 0, .int .i64 0] 29)).cell? ⟨g, 0, none⟩ = some (.int .i64 x) := ((Ext.refl wr).alloc _).keep hx0
          simp only [List.length_singleton] at *
          clear hA hgc hown
          go_wp2_with fail
          go_meet
          rw [HCA.out]
          exact ⟨Blk.of_new wr 29 _, HBSr.out.ext ((Ext.refl wr).alloc _), HXw.out.trans ((Ext.refl wr).alloc _)⟩
        · have bn1 : (((ns.length : Nat) : Int) == 1) = decide (ns.length = 1) := by rw [Bool.eq_iff_iff, beq_iff_eq, decide_eq_true_eq]; omega
          have bn2 : (((ns.length : Nat) : Int) == 2) = decide (ns.length = 2) := by rw [Bool.eq_iff_iff, beq_iff_eq, decide_eq_true_eq]; omega
          by_cases h1 : t0.data.toList = checkW
          · have b0 : (t0.toList == [115, 116, 101, 112]) = false := by rw [seq_list, h1]; rfl
            have b1 : (t0.toList == [99, 104, 101, 99, 107, 112, 111, 105, 110, 116]) = true := by rw [seq_list, h1]; rfl
            have HCA : Hid (candA t0.data.toList ns = ⟨2, 0, 0, 0⟩) := by unfold Hid; rw [h1]; unfold candA; rw [if_neg (by intro h; exact absurd h.1 (by decide)), if_pos rfl]
            clear h1 hA hown bn1 bn2
            go_wp2_with fail
            go_meet
            rw [HCA.out]
            exact ⟨Blk.of_new wr 29 _, HBSr.out.ext ((Ext.refl wr).alloc _), HXw.out.trans ((Ext.refl wr).alloc _)⟩
          · have b1 : (t0.toList == [99, 104, 101, 99, 107, 112, 111, 105, 110, 116]) = false := by rw [seq_list]; exact decide_eq_false h1
            by_cases h2 : t0.data.toList = recoW
            · have b0 : (t0.toList == [115, 116, 101, 112]) = false := by rw [seq_list, h2]; rfl
              have b2 : (t0.toList == [114, 101, 99, 111, 118, 101, 114]) = true := by rw [seq_list, h2]; rfl
              have HCA : Hid (candA t0.data.toList ns = ⟨4, 0, 0, 0⟩) := by unfold Hid; rw [h2]; unfold candA; rw [if_neg (by intro h; exact absurd h.1 (by decide)), if_neg (by decide), if_pos rfl]
              clear h1 h2 hA hown bn1 bn2
              go_wp2_with fail
              go_meet
              rw [HCA.out]
              exact ⟨Blk.of_new wr 29 _, HBSr.out.ext ((Ext.refl wr).alloc _), HXw.out.trans ((Ext.refl wr).alloc _)⟩
            · have b2 : (t0.toList == [114, 101, 99, 111, 118, 101, 114]) = false := by rw [seq_list]; exact decide_eq_false h2
              by_cases h3 : t0.data.toList = crashW
              · have b0 : (t0.toList == [115, 116, 101, 112]) = false := by rw [seq_list, h3]; rfl
                have b3 : (t0.toList == [99, 114, 97, 115, 104]) = true := by rw [seq_list, h3]; rfl
                by_cases hn2 : ns.length = 2
                · obtain ⟨x, y, rfl⟩ : ∃ x y, ns = [x, y] := by
                    cases ns with
                    | nil => simp at hn2
                    | cons x r =>
                      cases r with
                      | nil => simp at hn2
                      | cons y q =>
                        cases q with
                        | nil => exact ⟨x, y, rfl⟩
                        | cons u q => simp at hn2
                  have HCA : Hid (candA t0.data.toList [x, y] = ⟨3, 0, x, y⟩) := by
                    unfold Hid
                    rw [h3]
                    unfold candA
                    rw [if_neg (by intro h; exact absurd h.1 (by decide)), if_neg (by decide), if_neg (by decide), if_pos rfl]
                    rfl
                  obtain ⟨g, c2, hA2, hgc⟩ := own_ints hown (by simp)
                  simp only [Value.slice.injEq] at hA2
                  obtain ⟨rfl, _, rfl⟩ := hA2
                  have hx0z : (wr.alloc (.cells #[.int .i64 3, .int .i64 0, .int .i64 0, .int .i64 0] 29)).cell? ⟨g, 0, none⟩ = some (.int .i64 x) := ((Ext.refl wr).alloc _).keep (hgc 0 x rfl)
                  have hx1z : (wr.alloc (.cells #[.int .i64 3, .int .i64 0, .int .i64 0, .int .i64 0] 29)).cell? ⟨g, 1, none⟩ = some (.int .i64 y) := ((Ext.refl wr).alloc _).keep (hgc 1 y rfl)
                  have hx0y : (wr.alloc (.cells #[.int .i64 3, .int .i64 0, .int .i64 x, .int .i64 0] 29)).cell? ⟨g, 0, none⟩ = some (.int .i64 x) := ((Ext.refl wr).alloc _).keep (hgc 0 x rfl)
                  have hx1y : (wr.alloc (.cells #[.int .i64 3, .int .i64 0, .int .i64 x, .int .i64 0] 29)).cell? ⟨g, 1, none⟩ = some (.int .i64 y) := ((Ext.refl wr).alloc _).keep (hgc 1 y rfl)
                  have hx0v : (wr.alloc (.cells #[.int .i64 3, .int .i64 0, .int .i64 0, .int .i64 y] 29)).cell? ⟨g, 0, none⟩ = some (.int .i64 x) := ((Ext.refl wr).alloc _).keep (hgc 0 x rfl)
                  have hx1v : (wr.alloc (.cells #[.int .i64 3, .int .i64 0, .int .i64 0, .int .i64 y] 29)).cell? ⟨g, 1, none⟩ = some (.int .i64 y) := ((Ext.refl wr).alloc _).keep (hgc 1 y rfl)
                  simp only [List.length_cons, List.length_nil] at *
                  clear hgc hown h1 h2 h3 hA bn1 bn2
                  go_wp2_with fail
                  go_region
                  all_goals
                    go_wp2_with fail
                    go_meet
                    rw [HCA.out]
                    first
                      | exact ⟨Blk.of_new wr 29 _, HBSr.out.ext ((Ext.refl wr).alloc _), HXw.out.trans ((Ext.refl wr).alloc _)⟩
                      | exact ⟨(Blk.of_new wr 29 _).drew, (HBSr.out.ext ((Ext.refl wr).alloc _)).drew, (HXw.out.trans ((Ext.refl wr).alloc _)).drew⟩
                      | exact ⟨((Blk.of_new wr 29 _).drew.set 2 (.int .i64 x)).set 3 (.int .i64 y), (((HBSr.out.ext ((Ext.refl wr).alloc _)).drew.far (by have := HBSr.out.lt; show w.heap.size ≠ wr.heap.size; omega) _).far (by have := HBSr.out.lt; show w.heap.size ≠ wr.heap.size; omega) _), (((HXw.out.trans ((Ext.refl wr).alloc _)).drew).setCell (HXw.out.size) _).setCell (HXw.out.size) _⟩
                · have b4 : (((ns.length : Nat) : Int) == 2) = false := by rw [bn2]; exact decide_eq_false hn2
                  have HCA : Hid (candA t0.data.toList ns = ⟨3, 0, 0, 0⟩) := by unfold Hid; rw [h3]; unfold candA; rw [if_neg (by intro h; exact absurd h.1 (by decide)), if_neg (by decide), if_neg (by decide), if_pos rfl, if_neg hn2]
                  clear h1 h2 h3 hA hown bn1 bn2 hn2
                  go_wp2_with fail
                  go_meet
                  rw [HCA.out]
                  exact ⟨Blk.of_new wr 29 _, HBSr.out.ext ((Ext.refl wr).alloc _), HXw.out.trans ((Ext.refl wr).alloc _)⟩
              · have b3 : (t0.toList == [99, 114, 97, 115, 104]) = false := by rw [seq_list]; exact decide_eq_false h3
                have HCA : Hid (candA t0.data.toList ns = ⟨0, 0, 0, 0⟩) := by unfold Hid candA; rw [if_neg hA, if_neg h1, if_neg h2, if_neg h3]
                cases b0 : (t0.toList == [115, 116, 101, 112])
                · clear h1 h2 h3 hA hown bn1 bn2
                  go_wp2_with fail
                  go_meet
                  rw [HCA.out]
                  exact ⟨Blk.of_new wr 29 _, HBSr.out.ext ((Ext.refl wr).alloc _), HXw.out.trans ((Ext.refl wr).alloc _)⟩
                · have hn1 : ¬ ns.length = 1 := fun h => hA ⟨by rw [seq_list] at b0; exact of_decide_eq_true b0, h⟩
                  have b4 : (((ns.length : Nat) : Int) == 1) = false := by rw [bn1]; exact decide_eq_false hn1
                  clear h1 h2 h3 hA hown bn1 bn2 hn1
                  go_wp2_with fail
                  go_meet
                  rw [HCA.out]
                  exact ⟨Blk.of_new wr 29 _, HBSr.out.ext ((Ext.refl wr).alloc _), HXw.out.trans ((Ext.refl wr).alloc _)⟩
      case rest =>
        obtain ⟨hba, hbz, hxa⟩ := hcut
        have HBa := hid hba
        have HBz0 := hid hbz
        have HXa := hid hxa
        clear hba hbz hxa hcwz hown HBSr HXw
        revert HLP HBa
        generalize candA t0.data.toList ns = act
        intro HLP HBa
        obtain ⟨ck, cs, cw, cb⟩ := act
        simp only at HBa
        cases hr : rightB ⟨ck, cs, cw, cb⟩ 8
        · go_wp2_with fail
          have ac0 := HBa.out.cell 0
          have ac1 := HBa.out.cell 1
          have ac2 := HBa.out.cell 2
          have ac3 := HBa.out.cell 3
          have HVA : Hid (∀ W, Calls Tryd.prog 25 #[.agg #[.int .i64 ck, .int .i64 cs, .int .i64 cw, .int .i64 cb], .int .i64 8] W fun e w' => e = .returned (.bool false) ∧ Ext W w') := fun W => by
            have := va_any ((⟨ck, cs, cw, cb⟩ : Act)).k ((⟨ck, cs, cw, cb⟩ : Act)).s ((⟨ck, cs, cw, cb⟩ : Act)).wr ((⟨ck, cs, cw, cb⟩ : Act)).b 8 W
            rw [show rightB ⟨((⟨ck, cs, cw, cb⟩ : Act)).k, ((⟨ck, cs, cw, cb⟩ : Act)).s, ((⟨ck, cs, cw, cb⟩ : Act)).wr, ((⟨ck, cs, cw, cb⟩ : Act)).b⟩ 8 = false from hr] at this
            exact this
          have HRES : Hid (lineP s.data.toList = none) := by
            unfold Hid
            rw [HLP.out, if_neg (fun h => by rw [hr] at h; exact absurd h.1 (by decide))]
          clear hr HLN HLP
          first | go_region_with (go_at_call 25; refine (HVA.out _).mono ?_; rintro e w5 ⟨rfl, hx5⟩; have HB5 := hid ((HBa.out.drew).ext hx5); have HZ5 := hid ((HBz0.out.drew).ext hx5); have HX5 := hid ((HXa.out.drew).trans hx5); have pc0 := HB5.out.cell 0; have pf0 := HB5.out.frozen 0; have pc1 := HB5.out.cell 1; have pf1 := HB5.out.frozen 1; have pc2 := HB5.out.cell 2; have pf2 := HB5.out.frozen 2; have pc3 := HB5.out.cell 3; have pf3 := HB5.out.frozen 3; have qc0 := HZ5.out.cell 0; have qf0 := HZ5.out.frozen 0; have qc1 := HZ5.out.cell 1; have qf1 := HZ5.out.frozen 1; have qc2 := HZ5.out.cell 2; have qf2 := HZ5.out.frozen 2; have qc3 := HZ5.out.cell 3; have qf3 := HZ5.out.frozen 3) | fail
          all_goals
            go_wp2_with fail
            have z4 := (((HZ5.out.set 0 (.int .i64 ck)).set 1 (.int .i64 cs)).set 2 (.int .i64 cw)).set 3 (.int .i64 cb)
            have z0 := z4.cell 0
            have z1 := z4.cell 1
            have z2 := z4.cell 2
            have z3 := z4.cell 3
            exact bodyPost_ret (v := .tuple #[.agg #[.int .i64 ck, .int .i64 cs, .int .i64 cw, .int .i64 cb], .bool false]) (by simp [results, Tryd.results33, go_sem, z0, z1, z2, z3]) rfl ⟨_, rfl, ⟨(⟨ck, cs, cw, cb⟩ : Act), false, rfl, HRES.out⟩, (((HX5.out.setCell (Nat.le_refl _) _).setCell (Nat.le_refl _) _).setCell (Nat.le_refl _) _).setCell (Nat.le_refl _) _⟩
        · go_wp2_with fail
          have ac0 := HBa.out.cell 0
          have ac1 := HBa.out.cell 1
          have ac2 := HBa.out.cell 2
          have ac3 := HBa.out.cell 3
          have HVA : Hid (∀ W, Calls Tryd.prog 25 #[.agg #[.int .i64 ck, .int .i64 cs, .int .i64 cw, .int .i64 cb], .int .i64 8] W fun e w' => e = .returned (.bool true) ∧ Ext W w') := fun W => by
            have := va_any ((⟨ck, cs, cw, cb⟩ : Act)).k ((⟨ck, cs, cw, cb⟩ : Act)).s ((⟨ck, cs, cw, cb⟩ : Act)).wr ((⟨ck, cs, cw, cb⟩ : Act)).b 8 W
            rw [show rightB ⟨((⟨ck, cs, cw, cb⟩ : Act)).k, ((⟨ck, cs, cw, cb⟩ : Act)).s, ((⟨ck, cs, cw, cb⟩ : Act)).wr, ((⟨ck, cs, cw, cb⟩ : Act)).b⟩ 8 = true from hr] at this
            exact this
          have HLI : Hid (∀ W, Ext w W → Calls Tryd.prog 30 #[.agg #[.int .i64 ck, .int .i64 cs, .int .i64 cw, .int .i64 cb]] W fun e w' => e = .returned (.string (lineB (⟨ck, cs, cw, cb⟩ : Act))) ∧ Ext W w') := fun W h => HLN.out (⟨ck, cs, cw, cb⟩ : Act) W hr h
          have HRES : Hid (lineP s.data.toList = if ((lineB (⟨ck, cs, cw, cb⟩ : Act)).toList == s.toList) = true then some (⟨ck, cs, cw, cb⟩ : Act) else none) := by
            unfold Hid
            rw [HLP.out]
            by_cases heq : (lineB (⟨ck, cs, cw, cb⟩ : Act)).data.toList = s.data.toList
            · rw [if_pos ⟨hr, heq⟩, if_pos (by rw [seq_list, ByteArray.toList_eq]; exact decide_eq_true heq)]
            · rw [if_neg (fun h => heq h.2), if_neg (by rw [seq_list, ByteArray.toList_eq, decide_eq_false heq]; decide)]
          clear hr HLN HLP
          generalize lineB (⟨ck, cs, cw, cb⟩ : Act) = L at *
          first | go_region_with (first
            | (go_at_call 25; refine (HVA.out _).mono ?_; rintro e w5 ⟨rfl, hx5⟩; have HB5 := hid ((HBa.out.drew).ext hx5); have HZ5 := hid ((HBz0.out.drew).ext hx5); have HX5 := hid ((HXa.out.drew).trans hx5); have pc0 := HB5.out.cell 0; have pf0 := HB5.out.frozen 0; have pc1 := HB5.out.cell 1; have pf1 := HB5.out.frozen 1; have pc2 := HB5.out.cell 2; have pf2 := HB5.out.frozen 2; have pc3 := HB5.out.cell 3; have pf3 := HB5.out.frozen 3; have qc0 := HZ5.out.cell 0; have qf0 := HZ5.out.frozen 0; have qc1 := HZ5.out.cell 1; have qf1 := HZ5.out.frozen 1; have qc2 := HZ5.out.cell 2; have qf2 := HZ5.out.frozen 2; have qc3 := HZ5.out.cell 3; have qf3 := HZ5.out.frozen 3)
            | (go_at_call 30; refine (HLI.out _ ?_).mono ?_; exact HX5.out; rintro e w6 ⟨rfl, hx6⟩; have HB6 := hid (HB5.out.ext hx6); have HZ6 := hid (HZ5.out.ext hx6); have HX6 := hid (HX5.out.trans hx6); have rc0 := HB6.out.cell 0; have rf0 := HB6.out.frozen 0; have rc1 := HB6.out.cell 1; have rf1 := HB6.out.frozen 1; have rc2 := HB6.out.cell 2; have rf2 := HB6.out.frozen 2; have rc3 := HB6.out.cell 3; have rf3 := HB6.out.frozen 3; have tc0 := HZ6.out.cell 0; have tf0 := HZ6.out.frozen 0; have tc1 := HZ6.out.cell 1; have tf1 := HZ6.out.frozen 1; have tc2 := HZ6.out.cell 2; have tf2 := HZ6.out.frozen 2; have tc3 := HZ6.out.cell 3; have tf3 := HZ6.out.frozen 3)) | fail
          all_goals
            go_wp2_with fail
            have z4 := (((HZ6.out.set 0 (.int .i64 ck)).set 1 (.int .i64 cs)).set 2 (.int .i64 cw)).set 3 (.int .i64 cb)
            have z0 := z4.cell 0
            have z1 := z4.cell 1
            have z2 := z4.cell 2
            have z3 := z4.cell 3
            exact bodyPost_ret (v := .tuple #[.agg #[.int .i64 ck, .int .i64 cs, .int .i64 cw, .int .i64 cb], .bool (L.toList == s.toList)]) (by simp [results, Tryd.results33, go_sem, z0, z1, z2, z3]) rfl ⟨_, rfl, ⟨(⟨ck, cs, cw, cb⟩ : Act), (L.toList == s.toList), rfl, HRES.out⟩, (((HX6.out.setCell (Nat.le_refl _) _).setCell (Nat.le_refl _) _).setCell (Nat.le_refl _) _).setCell (Nat.le_refl _) _⟩
end Go.Proofs.YtcdinoepjimkmaaDoor
