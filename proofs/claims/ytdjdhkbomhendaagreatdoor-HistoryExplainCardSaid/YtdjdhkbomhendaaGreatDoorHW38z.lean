/-
  Walks over history: Parse.
-/
import Derived.Test.YtdjdhkbomhendaaGreatDoorGq
import Derived.Test.YtdjdhkbomhendaaGreatDoorHW31z
import Derived.Test.YtdjdhkbomhendaaGreatDoorGq
namespace Go.Proofs.YtdjdhkbomhendaaGreatDoor
open Go.RowKit
set_option linter.unusedVariables false
set_option linter.unusedSimpArgs false
set_option maxHeartbeats 4000000
set_option maxRecDepth 100000

theorem info_wait : (Tryz.prog.info? 62).map (fun i => (i.zero, i.size, i.bytes)) = some (some (.agg #[.int .i64 0, .int .i64 0, .slice none 0 0]), 3, 40) := by kernel_rfl
theorem info_row : (Tryz.prog.info? 60).map (fun i => (i.zero, i.size, i.bytes)) = some (some (.slice none 0 0), 1, 24) := by kernel_rfl
theorem info_evt : (Tryz.prog.info? 36).map (fun i => (i.zero, i.size, i.bytes)) = some (some (.agg #[.int .i64 0, .int .i64 0, .int .i64 0, .int .i64 0, .int .i64 0, .int .i64 0, .slice none 0 0, .slice none 0 0]), 8, 96) := by kernel_rfl
/-- the result of Parse -/
def PrsR (r : List Ev × Int × Int) (e : Ending) (w' : World) : Prop := ∃ A c, e = .returned (.tuple #[.slice A r.1.length c, .int .i64 r.2.1, .int .i64 r.2.2]) ∧ EvsAt w' A r.1
theorem PrsR.bad {n : Int} {r : List Ev × Int × Int} {w : World} (h : r = ([], n, 2)) : PrsR r (.returned (.tuple #[.slice none 0 0, .int .i64 n, .int .i64 2])) w := ⟨none, 0, by rw [h]; rfl, fun i e he => by rw [h] at he; simp at he⟩
theorem PrsR.good {l : List Ev} {r : List Ev × Int × Int} {w : World} {A : Option Addr} {n c : Nat} (h : r = (l, 0, 0)) (hn : l.length = n) (hl : EvsAt w A l) : PrsR r (.returned (.tuple #[.slice A n c, .int .i64 0, .int .i64 0])) w := ⟨A, c, by rw [h, ← hn], by rw [h]; exact hl⟩
theorem Parse_any (s : ByteArray) (w : World) (hs : s.size ≤ 999980) (hw : Sh w) (ht : Tab w) (he : Er w) :
    Calls Tryz.prog 15 #[.string s] w fun e w' => PrsR (prsH s) e w' ∧ Ext w w' := by
  obtain ⟨iw, hiw, hw0, hw1, hw2⟩ := info_parts info_wait
  obtain ⟨ir, hir, hr0, hr1, hr2⟩ := info_parts info_row
  obtain ⟨ie, hie, he0, he1, he2⟩ := info_parts info_evt
  have HSh := hid hw
  have HT := hid ht
  have HE := hid he
  have HS := hid hs
  clear hw ht he hs
  go_enter Tryz.func15, Tryz.ntmps15
  go_wp2_with fail
  go_loopw [0, 5, 6, 7] (fun sv ov nv bv wr => ∃ (T : ByteArray) (n : Nat) (out : List Ev), sv = .string T ∧ nv = .int .i64 n ∧ bv = .bool (opnL out) ∧ EvsO w.heap.size wr ov out ∧ BdN n out ∧ Todo s T n out ∧ n + T.size ≤ s.size ∧ Ext w wr) (fun sv _ _ _ _ => strMs sv)
  case atStart => exact ⟨s, 0, [], rfl, rfl, rfl, .inl ⟨rfl, World.ownsRow_nil _ _ _ _⟩, ⟨Nat.le_refl _, by simp⟩, Todo.start s, by omega, Ext.refl w⟩
  case round =>
    obtain ⟨T, n, out, rfl, rfl, rfl, ho, hb, htd, hsz, hxr⟩ := hrel
    have HO := hid ho
    have HB := hid hb
    have HTd := hid htd
    have HSz := hid hsz
    have HXr := hid hxr
    have hn9 : n ≤ 1000000 := by have := HS.out; omega
    have HN9 := hid hn9
    obtain ⟨A0, c0, hov, hev⟩ := ho.at_
    subst hov
    have HEv := hid hev
    clear ho hb htd hsz hxr hev
    obtain ⟨ob, hob⟩ : ∃ ob, opnL out = ob := ⟨_, rfl⟩
    have HOb := hid hob
    rw [hob]
    clear hob
    cases hT : T.data.toList.isEmpty
    · have HTe := hid hT
      clear hT
      have HCut := hid (fun W (hW : Ext w W) => cutl_any T W (by have := HS.out; have := HSz.out; omega) (HSh.out.ext hW))
      have HNc : Hid ((cutW 10 T.data.toList).2.2 = false → prsH s = ([], (n : Int) + 1, 2)) := fun h => HTd.out.nocut HTe.out h
      have HBd : Hid ((cutW 10 T.data.toList).2.2 = true → stepH out (BA (cutW 10 T.data.toList).1).data.toList = none → prsH s = ([], (n : Int) + 1, 2)) := fun h h2 => HTd.out.bad HTe.out h h2
      have HSt : Hid ((cutW 10 T.data.toList).2.2 = true → ∀ o, stepH out (BA (cutW 10 T.data.toList).1).data.toList = some o → Todo s (BA (cutW 10 T.data.toList).2.1) (n + 1) o) := fun h o h2 => HTd.out.step HTe.out h h2
      have HLs : Hid ((cutW 10 T.data.toList).2.2 = true → (BA (cutW 10 T.data.toList).1).size + (BA (cutW 10 T.data.toList).2.1).size + 1 = T.size) := fun h => by
        rw [BA_size, BA_size, cutW_rest h, size_list]
      generalize (cutW 10 T.data.toList).2.2 = cb at *
      generalize BA (cutW 10 T.data.toList).1 = L at *
      generalize BA (cutW 10 T.data.toList).2.1 = R at *
      have e0 : (T.toList == []) = false := by
        rw [ByteArray.toList_eq]
        have := HTe.out
        cases h : T.data.toList with
        | nil => rw [h] at this; cases this
        | cons x l => rfl
      go_upto_region 7 with (go_at_call 33; (with_reducible refine (HCut.out _ HXr.out).mono ?_); rintro _ w2 ⟨rfl, hx2⟩)
      have HX2 := hid (HXr.out.trans hx2)
      have HO2 := hid (HO.out.ext hx2)
      clear hx2 HXr HO HCut HEv e0
      cases cb
      · have HF := hid (HNc.out rfl)
        go_wp2_with fail
        go_ret3
        exact ⟨PrsR.bad HF.out, HX2.out⟩
      · have HBd2 := hid (HBd.out rfl)
        have HSt2 := hid (HSt.out rfl)
        have HLs2 := hid (HLs.out rfl)
        clear HNc HBd HSt HLs
        have HL9 : Hid (L.size ≤ 999980) := by
          have := HLs2.out
          have := HSz.out
          have := HS.out
          unfold Hid
          omega
        have HPR := hid (fun W (hW : Ext w W) => parsereason_any L W (by have := HL9.out; omega) (HSh.out.ext hW) (HT.out.ext hW) (HE.out.ext hW))
        obtain ⟨m, hm⟩ : ∃ m, out.length = m := ⟨_, rfl⟩
        have HM := hid hm
        rw [hm] at HO2 ⊢
        have hm9 : m ≤ 1000000 := by have := HB.out.1; omega
        clear hm
        obtain ⟨li, hli⟩ : ∃ li : Int, (m : Int) - 1 = li := ⟨_, rfl⟩
        have HLi := hid hli
        go_upto_region 12 with (go_at_call 34; (with_reducible refine (HPR.out _ HX2.out).mono ?_); rintro _ w3 ⟨⟨tx, tb, v, rb, row, rfl, hr, hown, hrl⟩, hx3⟩; obtain ⟨Av, cv, hvv⟩ := own_slice hown; subst hvv)
        have hrs : (rsnP L.data.toList).isSome = rb := by
          rw [hr]
          cases rb <;> rfl
        have HR := hid hr
        have HRs := hid hrs
        have HOw := hid hown
        have HRl := hid hrl
        have hxa := (Ext.refl w3).alloc (.cells #[.int .i64 tx, .int .i64 tb, .slice Av row.length cv] 62)
        have HBq := hid (Blk.of_new w3 62 [.int .i64 tx, .int .i64 tb, .slice Av row.length cv])
        have HX4 := hid (hx3.trans hxa)
        have HOw4 := hid (ownN_ext hown hxa)
        clear hr hrs hown hrl hx3 hxa
        generalize w3.alloc (.cells #[.int .i64 tx, .int .i64 tb, .slice Av row.length cv] 62) = W4 at *
        generalize w3.heap.size = q at *
        try rw [hli]
        clear hli
        obtain ⟨l2, hl2⟩ : ∃ l2, lastK 2 out = l2 := ⟨_, rfl⟩
        have HL2 := hid hl2
        clear hl2
        go_cut [52] from 40 to 52 (fun cv wx => cv = .bool (rb && l2) ∧ wx = W4)
        case first =>
          rcases HO2.out with ⟨h0, _⟩ | ⟨ps, e, vr, vw, rs, qs, h0, hE⟩
          · have h1 := HL2.out
            have h2 := HM.out
            have h3 := HLi.out
            rw [h0] at h1 h2
            obtain rfl : m = 0 := h2.symm
            obtain rfl : li = -1 := by omega
            obtain rfl : l2 = false := h1.symm
            clear h0 h1 h2 h3
            cases rb
            all_goals
              go_wp2_with fail
              go_meet
              exact ⟨rfl, rfl⟩
          · have h1 := HL2.out
            have h2 := HM.out
            have h3 := HLi.out
            rw [h0] at h1 h2
            rw [lastK_snoc] at h1
            rw [List.length_append, List.length_map, List.length_singleton] at h2
            obtain ⟨g, c, hv, _, _⟩ := hE.last
            simp only [Value.slice.injEq] at hv
            obtain ⟨rfl, hmm, hcc⟩ := hv
            subst c0
            subst hmm
            have hE2 := hE
            obtain ⟨k0, _⟩ := hE2.cell7 HX4.out (⟨rfl, rfl, rfl, Nat.le_refl _, fun _ _ _ => rfl⟩ : W4.grownBy W4 none) (by simp) (j := 0) rfl
            obtain rfl : li = (ps.length : Int) := by omega
            obtain ⟨kd, hkd⟩ : ∃ kd, e.kd = kd := ⟨_, rfl⟩
            rw [hkd] at h1
            have k1 : W4.cell? ⟨g, ps.length * 8, none⟩ = some (.int .i64 kd) := by rw [← hkd]; exact k0
            clear k0 h0 h2 h3 hE2 hE hkd
            cases rb
            · go_wp2_with fail
              go_meet
              exact ⟨rfl, rfl⟩
            · by_cases hk : kd = 2
              · subst hk
                obtain rfl : l2 = true := h1.symm
                go_wp2_with fail
                go_meet
                exact ⟨rfl, rfl⟩
              · have hk2 : (kd == 2) = false := by simpa using hk
                obtain rfl : l2 = false := h1.symm.trans hk2
                go_wp2_with fail
                go_meet
                exact ⟨rfl, rfl⟩
        case rest =>
          obtain ⟨rfl, rfl⟩ := hcut
          generalize wc = W4 at *
          cases hc1 : (rb && l2)
          · have hb1 : ((rsnP L.data.toList).isSome && lastK 2 out) = false := by rw [HRs.out, HL2.out]; exact hc1
            have HB1 := hid hb1
            have HO5 := hid (HO2.out.ext HX4.out)
            have HX5 := hid (HX2.out.trans HX4.out)
            clear hb1 hc1 HO2 HX4 HOw HOw4 HBq HRs HL2 HR HRl
            have hcp : ∀ W : World, Calls Tryz.prog 35 #[.string L, .string ⟨#[114, 111, 119, 32]⟩] W fun e w' => e = .returned (.tuple #[.string (BA (cutP rowPf L.data.toList).1), .bool (cutP rowPf L.data.toList).2]) ∧ w' = W := fun W => cutp_any L ⟨#[114, 111, 119, 32]⟩ W
            obtain ⟨pb, hpb⟩ : ∃ pb, (cutP rowPf L.data.toList).2 = pb := ⟨_, rfl⟩
            obtain ⟨P, hP⟩ : ∃ P, BA (cutP rowPf L.data.toList).1 = P := ⟨_, rfl⟩
            have hP9 : P.size ≤ 999980 := by
              have := cutP_len rowPf L.data.toList
              rw [← hP, BA_size]
              have h9 := HL9.out
              rw [← size_list] at h9
              omega
            rw [hpb, hP] at hcp
            have HCP := hid hcp
            have HPb := hid hpb
            have HPP := hid hP
            have HP9 := hid hP9
            clear hcp hpb hP hP9
            obtain ⟨l4, hl4⟩ : ∃ l4, lastK 4 out = l4 := ⟨_, rfl⟩
            have HL4 := hid hl4
            clear hl4
            go_upto_region 16 with (go_at_call 35; (with_reducible refine (HCP.out _).mono ?_); rintro _ w6 ⟨rfl, hw6⟩; subst w6)
            clear HCP
            go_cut [82] from 70 to 82 (fun cv wx => cv = .bool (pb && l4) ∧ wx = W4)
            case first =>
              rcases HO5.out with ⟨h0, _⟩ | ⟨ps, e, vr, vw, rs, qs, h0, hE⟩
              · have h1 := HL4.out
                have h2 := HM.out
                have h3 := HLi.out
                rw [h0] at h1 h2
                obtain rfl : m = 0 := h2.symm
                obtain rfl : li = -1 := by omega
                obtain rfl : l4 = false := h1.symm
                clear h0 h1 h2 h3
                cases pb
                all_goals
                  go_wp2_with fail
                  go_meet
                  exact ⟨rfl, rfl⟩
              · have h1 := HL4.out
                have h2 := HM.out
                have h3 := HLi.out
                rw [h0] at h1 h2
                rw [lastK_snoc] at h1
                rw [List.length_append, List.length_map, List.length_singleton] at h2
                obtain ⟨g, c, hv, hce, _⟩ := hE.last
                simp only [Value.slice.injEq] at hv
                obtain ⟨rfl, hmm, hcc⟩ := hv
                subst c0
                subst hmm
                have k0 := hce 0 _ rfl
                obtain rfl : li = (ps.length : Int) := by omega
                obtain ⟨kd, hkd⟩ : ∃ kd, e.kd = kd := ⟨_, rfl⟩
                rw [hkd] at h1
                have k1 : W4.cell? ⟨g, ps.length * 8, none⟩ = some (.int .i64 kd) := by rw [← hkd]; exact k0
                clear k0 h0 h2 h3 hE hce hkd
                cases pb
                · go_wp2_with fail
                  go_meet
                  exact ⟨rfl, rfl⟩
                · by_cases hk : kd = 4
                  · subst hk
                    obtain rfl : l4 = true := h1.symm
                    go_wp2_with fail
                    go_meet
                    exact ⟨rfl, rfl⟩
                  · have hk2 : (kd == 4) = false := by simpa using hk
                    obtain rfl : l4 = false := h1.symm.trans hk2
                    go_wp2_with fail
                    go_meet
                    exact ⟨rfl, rfl⟩
            case rest =>
              obtain ⟨rfl, rfl⟩ := hcut
              generalize wc = W4 at *
              cases hc2 : (pb && l4)
              · have hb2 : ((cutP rowPf L.data.toList).2 && lastK 4 out) = false := by rw [HPb.out, HL4.out]; exact hc2
                have HB2 := hid hb2
                clear hb2 hc2 HPb HPP HP9 HL4
                have HHd := hid (fun W (hW : Ext w W) => header_any L W (by have := HL9.out; omega) (HSh.out.ext hW) (HT.out.ext hW) (HE.out.ext hW))
                go_upto_region 22 with (go_at_call 37; (with_reducible refine (HHd.out _ HX5.out).mono ?_); rintro _ w7 ⟨⟨kd, ss, tx2, st, er, ct, hb, rfl, hh⟩, hx7⟩)
                have HHh := hid hh
                have hxa := (Ext.refl w7).alloc (.cells #[.int .i64 kd, .int .i64 ss, .int .i64 tx2, .int .i64 st, .int .i64 er, .int .i64 ct, .slice none 0 0, .slice none 0 0] 36)
                have HBq := hid (Blk.of_new w7 36 [.int .i64 kd, .int .i64 ss, .int .i64 tx2, .int .i64 st, .int .i64 er, .int .i64 ct, .slice none 0 0, .slice none 0 0])
                have HX8 := hid (HX5.out.trans (hx7.trans hxa))
                have HO8 := hid (HO5.out.ext (hx7.trans hxa))
                have HNE : Hid (some w7.heap.size ≠ (Value.slice A0 m c0).ownBlock) := by
                  intro hh
                  obtain ⟨ps, _, ho, _⟩ := HO5.out.open
                  have h1 := own_lt ho hh.symm
                  have h2 := hx7.size
                  omega
                clear hh hx7 hxa HHd HO5 HX5
                generalize w7.alloc (.cells #[.int .i64 kd, .int .i64 ss, .int .i64 tx2, .int .i64 st, .int .i64 er, .int .i64 ct, .slice none 0 0, .slice none 0 0] 36) = W8 at *
                generalize w7.heap.size = q2 at *
                cases hb
                · have HF := hid (HBd2.out (step_bad HB1.out HB2.out (.inl (by rw [HHh.out]; rfl))))
                  go_wp2_with fail
                  go_ret3
                  exact ⟨PrsR.bad HF.out, HX8.out⟩
                · cases ob
                  · have hnew : stepH out L.data.toList = some (out ++ [⟨kd, ss, tx2, st, er, ct, [], []⟩]) := step_new HB1.out HB2.out (by rw [HHh.out]; rfl) HOb.out
                    have HTd2 := hid (HSt2.out _ hnew)
                    have hBn : BdN (n + 1) (out ++ [⟨kd, ss, tx2, st, er, ct, [], []⟩]) := HB.out.new rfl rfl
                    have HBn := hid hBn
                    have HOp : Hid (opnL (out ++ [⟨kd, ss, tx2, st, er, ct, [], []⟩]) = (kd == 2)) := by
                      unfold Hid
                      rw [opnL_snoc, opn_new rfl]
                    obtain ⟨ps, _, ho, _⟩ := HO8.out.open
                    rw [HM.out] at ho
                    generalize ps.flatMap evC = xs at *
                    have HOw5 := hid ho
                    have HArm : Hid (∀ (W0 : World) (v5 : Value) (w5 : World), Ext W8 W0 → w5.ownsRow w.heap.size 36 8 v5 (m + 1) (xs ++ [.int .i64 kd, .int .i64 ss, .int .i64 tx2, .int .i64 st, .int .i64 er, .int .i64 ct, .slice none 0 0, .slice none 0 0]) → W0.grownBy w5 (Value.slice A0 m c0).ownBlock → (v5.ownBlock = (Value.slice A0 m c0).ownBlock ∨ v5.ownBlock = some W0.heap.size) →
                        ∃ A5 c5, v5 = .slice A5 (m + 1) c5 ∧ w5.cell? ⟨q2, 0, none⟩ = some (.int .i64 kd) ∧ EvsO w.heap.size w5 (.slice A5 (m + 1) c5) (out ++ [⟨kd, ss, tx2, st, er, ct, [], []⟩]) ∧ Ext w w5) := fun W0 v5 w5 hx hown hgr hbk => by
                      obtain ⟨A5, c5, rfl⟩ := own_slice hown
                      refine ⟨A5, c5, rfl, ((HBq.out.ext hx).grown hgr HNE.out).cell_some rfl, ?_, Ext.grown (HX8.out.trans hx) hgr fun k hk => own_ge ho hk⟩
                      exact EvsO.push (HO8.out.ext hx) rfl rfl (by rw [HM.out]; exact ownN_ext ho hx) (by rw [HM.out]; exact hown) hgr hbk
                    have HSi : Hid (w.heap.size ≤ W8.heap.size) := HX8.out.size
                    obtain ⟨p0, p1, p2, p3, p4, p5, p6, p7⟩ := blk8 HBq.out
                    obtain ⟨a0, a1, a2, a3, a4, a5, a6, a7⟩ := blk8 (HBq.out.ext ((Ext.refl W8).alloc (.cells #[.int .i64 kd, .int .i64 ss, .int .i64 tx2, .int .i64 st, .int .i64 er, .int .i64 ct, .slice none 0 0, .slice none 0 0] 36)))
                    obtain ⟨d0, d1, d2, d3, d4, d5, d6, d7⟩ := blk8 (HBq.out.ext ((Ext.refl W8).drew.alloc (.cells #[.int .i64 kd, .int .i64 ss, .int .i64 tx2, .int .i64 st, .int .i64 er, .int .i64 ct, .slice none 0 0, .slice none 0 0] 36)))
                    have HM9 := hid hm9
                    clear hnew hBn ho HO8 HB1 HB2 HBd2 HSt2 HB HHh HLi
                    go_wp2_with fail
                    go_region_law (first | (refine step_append_any _ rfl (.tmp 114) (.tmp 116) 22 rfl w.heap.size 36 ie _ 8 96 Tryz.underlying22 hie he0 he1 he2 rfl (by decide) _ m _ rfl (HOw5.out.alloc _) _ _ 1 1 [.int .i64 kd, .int .i64 ss, .int .i64 tx2, .int .i64 st, .int .i64 er, .int .i64 ct, .slice none 0 0, .slice none 0 0] rfl (reads_new8 _ [.int .i64 kd, .int .i64 ss, .int .i64 tx2, .int .i64 st, .int .i64 er, .int .i64 ct, .slice none 0 0, .slice none 0 0] _ rfl) (by simp [Value.oneCell']) (by have := HM9.out; unfold maxLen; omega) (by have := HM9.out; omega) (by have := HSi.out; simp; omega) ?_; intro v5 w5 hown5 hgr5 hblk5; dsimp only [List.getElem_toArray, List.getElem_cons_succ, List.getElem_cons_zero]; obtain ⟨A5, c5, hv5, y7, ho5, hx5⟩ := HArm.out _ _ _ (by first | exact (Ext.refl W8).alloc _ | exact ((Ext.refl W8).drew).alloc _) hown5 hgr5 hblk5; subst hv5))
                    all_goals
                      have HO6 := hid ho5
                      have HX6 := hid hx5
                      clear ho5 hx5 hown5 hgr5 hblk5
                      try dsimp only [List.getElem_toArray, List.getElem_cons_succ, List.getElem_cons_zero]
                      try simp only [Act.put, List.setIfInBounds_toArray, List.set_cons_succ, List.set_cons_zero]
                      go_wp2_with fail
                      go_roundw
                      case rel => exact ⟨R, n + 1, _, rfl, by go_num, by rw [HOp.out], HO6.out, HBn.out, HTd2.out, by have := HLs2.out; have := HSz.out; omega, HX6.out⟩
                      case measure => have := HLs2.out; simp [strMs]; omega
                  · have HF := hid (HBd2.out (step_bad HB1.out HB2.out (.inr HOb.out)))
                    go_wp2_with fail
                    go_ret3
                    exact ⟨PrsR.bad HF.out, HX8.out⟩
              · rw [Bool.and_eq_true] at hc2
                obtain ⟨rfl, rfl⟩ := hc2
                rcases HO5.out with ⟨h0, _⟩ | ⟨ps, e, vr, vw, rs, qs, h0, hE⟩
                · have h1 := HL4.out
                  rw [h0] at h1
                  cases h1
                · have h1 := HL4.out
                  have h2 := HM.out
                  have h3 := HLi.out
                  rw [h0] at h1 h2
                  rw [lastK_snoc] at h1
                  rw [List.length_append, List.length_map, List.length_singleton] at h2
                  have hk : e.kd = 4 := by simpa using h1
                  obtain ⟨g, c, hv, _, _⟩ := hE.last
                  simp only [Value.slice.injEq] at hv
                  obtain ⟨rfl, hmm, hcc⟩ := hv
                  subst c0
                  subst hmm
                  obtain rfl : li = (ps.length : Int) := by omega
                  obtain ⟨Ar, cr, hvr⟩ := own_slice hE.ownR
                  subst hvr
                  have HPr := hid (fun W (hW : Ext w W) => parserow_any P W (by have := HP9.out; omega) (HSh.out.ext hW) (HT.out.ext hW) (HE.out.ext hW))
                  have HEL := hid hE
                  have H0 := hid h0
                  have HK := hid hk
                  clear h0 h1 h2 h3 hk hE HO5
                  go_upto_region 18 with (go_at_call 36; (with_reducible refine (HPr.out _ HX5.out).mono ?_); rintro _ w7 ⟨⟨v2, rb2, acc, rfl, hro, hown, hal⟩, hx7⟩; obtain ⟨Av2, cv2, hvv⟩ := own_slice hown; subst hvv)
                  cases rb2
                  · have HX7 := hid (HX5.out.trans hx7)
                    have HF := hid (HBd2.out (by rw [H0.out]; exact step_row_no HK.out HPb.out (by rw [HPP.out, hro]; rfl)))
                    go_wp2_with fail
                    go_ret3
                    exact ⟨PrsR.bad HF.out, HX7.out⟩
                  · have hstep : stepH out L.data.toList = some (ps.map Prod.fst ++ [{ e with rows := e.rows ++ [acc] }]) := by
                      rw [H0.out]
                      exact step_row HK.out (by rw [rowL_yes HPb.out, HPP.out, hro]; rfl)
                    have HTd2 := hid (HSt2.out _ hstep)
                    have hB2 : BdN (n + 1) (ps.map Prod.fst ++ [{ e with rows := e.rows ++ [acc] }]) := by
                      have := HB.out
                      rw [H0.out] at this
                      exact this.row _
                    have HB2 := hid hB2
                    have HQ9 : Hid (rs.length ≤ 1000000) := by
                      have h5 := HB.out
                      rw [H0.out] at h5
                      have h6 := (h5.2 e (by simp)).2
                      rw [← HEL.out.eR, List.length_map] at h6
                      have := HN9.out
                      unfold Hid
                      omega
                    have HOp : Hid (opnL (ps.map Prod.fst ++ [{ e with rows := e.rows ++ [acc] }]) = ob) := by
                      have h1 := HOb.out
                      rw [H0.out, opnL_snoc] at h1
                      unfold Hid
                      rw [opnL_snoc, opn_row]
                      exact h1
                    have HX7 := hid (HX5.out.trans hx7)
                    have HArm : Hid (∀ (W0 : World) (v5 : Value) (w5 : World), Ext w7 W0 → w5.ownsRow w.heap.size 60 1 v5 (rs.length + 1) (rs.flatMap rwC ++ [.slice Av2 acc.length cv2]) → W0.grownBy w5 (Value.slice Ar rs.length cr).ownBlock → (v5.ownBlock = (Value.slice Ar rs.length cr).ownBlock ∨ v5.ownBlock = some W0.heap.size) →
                        ∃ A5 c5, v5 = .slice A5 (rs.length + 1) c5 ∧ w5.cell? ⟨g, ps.length * 8 + 6, none⟩ = some (.slice Ar rs.length cr) ∧ w5.frozen? ⟨g, ps.length * 8 + 6, none⟩ = false ∧
                          EvsO w.heap.size (w5.setCell ⟨g, ps.length * 8 + 6, none⟩ (.slice A5 (rs.length + 1) c5)) (.slice (some ⟨g, 0, none⟩) (ps.length + 1) c) (ps.map Prod.fst ++ [{ e with rows := e.rows ++ [acc] }]) ∧ Ext w (w5.setCell ⟨g, ps.length * 8 + 6, none⟩ (.slice A5 (rs.length + 1) c5))) := fun W0 v5 w5 hx hown5 hgr hbk => by
                      obtain ⟨A5, c5, rfl⟩ := own_slice hown5
                      obtain ⟨z1, z2⟩ := HEL.out.cell7 (hx7.trans hx) hgr (fun e => (HEL.out.d1 g rfl).1 e) (j := 6) rfl
                      refine ⟨A5, c5, rfl, z1, z2, .inr ⟨ps, _, _, vw, rs ++ [(acc, .slice Av2 acc.length cv2)], qs, rfl, HEL.out.pushR (x := acc) (rv := .slice Av2 acc.length cv2) rfl (hx7.trans hx) (ownN_ext hown hx) (Nat.le_refl _) hown5 hgr hbk⟩, ?_⟩
                      exact Ext.setCell (Ext.grown (HX7.out.trans hx) hgr fun k hk => own_ge HEL.out.ownR hk) (p := ⟨g, ps.length * 8 + 6, none⟩) (own_ge HEL.out.own rfl) _
                    have HOw5 := hid (ownN_ext HEL.out.ownR hx7)
                    obtain ⟨z6, _⟩ := HEL.out.cell7 hx7 (⟨rfl, rfl, rfl, Nat.le_refl _, fun _ _ _ => rfl⟩ : w7.grownBy w7 none) (by simp) (j := 6) rfl
                    have HSi : Hid (w.heap.size ≤ w7.heap.size) := HX7.out.size
                    clear hstep hB2 hro hown hal hx7 HEL H0 HK HB HBd2 HSt2 HM HLi HL4 HPP HPb HP9 HPr HOb
                    go_wp2_with (at_builtin; refine wpList_append_any _ rfl (.tmp 97) (.tmp 99) 33 rfl w.heap.size 60 ir _ 1 24 Tryz.underlying33 hir hr0 hr1 hr2 rfl (by decide) _ rs.length _ rfl (HOw5.out.alloc _) _ _ 1 1 [.slice Av2 acc.length cv2] rfl (reads_new1 _ _ _) (by simp [Value.oneCell']) (by have := HQ9.out; unfold maxLen; omega) (by have := HQ9.out; omega) (by have := HSi.out; simp; omega) ?_; intro v5 w5 hown5 hgr5 hblk5; obtain ⟨A5, c5, hv5, y7, f7, ho5, hx5⟩ := HArm.out _ _ _ ((Ext.refl w7).alloc _) hown5 hgr5 hblk5; subst hv5)
                    have HO6 := hid ho5
                    have HX6 := hid hx5
                    clear ho5 hx5 hown5 hgr5 hblk5
                    go_roundw
                    case rel => exact ⟨R, n + 1, _, rfl, by go_num, by rw [HOp.out], HO6.out, HB2.out, HTd2.out, by have := HLs2.out; have := HSz.out; omega, HX6.out⟩
                    case measure => have := HLs2.out; simp [strMs]; omega
          · rw [Bool.and_eq_true] at hc1
            obtain ⟨rfl, rfl⟩ := hc1
            rcases HO2.out with ⟨h0, _⟩ | ⟨ps, e, vr, vw, rs, qs, h0, hE⟩
            · have h1 := HL2.out
              rw [h0] at h1
              cases h1
            · have h1 := HL2.out
              have h2 := HM.out
              have h3 := HLi.out
              rw [h0] at h1 h2
              rw [lastK_snoc] at h1
              rw [List.length_append, List.length_map, List.length_singleton] at h2
              have hk : e.kd = 2 := by simpa using h1
              obtain ⟨g, c, hv, _, _⟩ := hE.last
              simp only [Value.slice.injEq] at hv
              obtain ⟨rfl, hmm, hcc⟩ := hv
              subst c0
              subst hmm
              obtain rfl : li = (ps.length : Int) := by omega
              obtain ⟨Aw, cw, hvw⟩ := own_slice hE.ownW
              subst hvw
              have hstep : stepH out L.data.toList = some (ps.map Prod.fst ++ [{ e with wts := e.wts ++ [⟨tx, tb, row⟩] }]) := by
                rw [h0]
                exact step_wait hk HR.out
              have HTd2 := hid (HSt2.out _ hstep)
              have hB2 : BdN (n + 1) (ps.map Prod.fst ++ [{ e with wts := e.wts ++ [⟨tx, tb, row⟩] }]) := by
                have := HB.out
                rw [h0] at this
                exact this.wait _
              have HB2 := hid hB2
              have HQ9 : Hid (qs.length ≤ 1000000) := by
                have h5 := HB.out
                rw [h0] at h5
                have h6 := (h5.2 e (by simp)).1
                rw [← hE.eW, List.length_map] at h6
                unfold Hid
                omega
              have HX5 := hid (HX2.out.trans HX4.out)
              have HArm : Hid (∀ (W0 : World) (v5 : Value) (w5 : World), Ext W4 W0 → w5.ownsRow w.heap.size 62 3 v5 (qs.length + 1) (qs.flatMap wtC ++ [.int .i64 tx, .int .i64 tb, .slice Av row.length cv]) → W0.grownBy w5 (Value.slice Aw qs.length cw).ownBlock → (v5.ownBlock = (Value.slice Aw qs.length cw).ownBlock ∨ v5.ownBlock = some W0.heap.size) →
                  ∃ A5 c5, v5 = .slice A5 (qs.length + 1) c5 ∧ w5.cell? ⟨g, ps.length * 8 + 7, none⟩ = some (.slice Aw qs.length cw) ∧ w5.frozen? ⟨g, ps.length * 8 + 7, none⟩ = false ∧
                    EvsO w.heap.size (w5.setCell ⟨g, ps.length * 8 + 7, none⟩ (.slice A5 (qs.length + 1) c5)) (.slice (some ⟨g, 0, none⟩) (ps.length + 1) c) (ps.map Prod.fst ++ [{ e with wts := e.wts ++ [⟨tx, tb, row⟩] }]) ∧ Ext w (w5.setCell ⟨g, ps.length * 8 + 7, none⟩ (.slice A5 (qs.length + 1) c5))) := fun W0 v5 w5 hx hown hgr hbk => by
                obtain ⟨A5, c5, rfl⟩ := own_slice hown
                obtain ⟨z1, z2⟩ := hE.cell7 (HX4.out.trans hx) hgr (fun e => (hE.d1 g rfl).2 e) (j := 7) rfl
                refine ⟨A5, c5, rfl, z1, z2, .inr ⟨ps, _, vr, _, rs, qs ++ [(⟨tx, tb, row⟩, .slice Av row.length cv)], rfl, hE.pushW (x := ⟨tx, tb, row⟩) (rv := .slice Av row.length cv) rfl (HX4.out.trans hx) (ownN_ext HOw4.out hx) (Nat.le_refl _) hown hgr hbk⟩, ?_⟩
                exact Ext.setCell (Ext.grown (HX5.out.trans hx) hgr fun k hk => own_ge hE.ownW hk) (p := ⟨g, ps.length * 8 + 7, none⟩) (own_ge hE.own rfl) _
              have HOw5 := hid (ownN_ext hE.ownW HX4.out)
              obtain ⟨z7, _⟩ := hE.cell7 HX4.out (⟨rfl, rfl, rfl, Nat.le_refl _, fun _ _ _ => rfl⟩ : W4.grownBy W4 none) (by simp) (j := 7) rfl
              have z7a : (W4.alloc (.cells #[.int .i64 tx, .int .i64 tb, .slice Av row.length cv] 62)).cell? ⟨g, ps.length * 8 + 7, none⟩ = some (.slice Aw qs.length cw) := ((Ext.refl W4).alloc _).keep z7
              have z7b : (W4.drew.alloc (.cells #[.int .i64 tx, .int .i64 tb, .slice Av row.length cv] 62)).cell? ⟨g, ps.length * 8 + 7, none⟩ = some (.slice Aw qs.length cw) := ((Ext.refl W4).drew.alloc _).keep z7
              have ib1 : (ps.length : Int) < (ps.length : Int) + 1 := by omega
              obtain ⟨p0, p1, p2⟩ := blk3c HBq.out
              obtain ⟨p0a, p1a, p2a⟩ := blk3c (HBq.out.ext ((Ext.refl W4).alloc (.cells #[.int .i64 tx, .int .i64 tb, .slice Av row.length cv] 62)))
              obtain ⟨p0b, p1b, p2b⟩ := blk3c (HBq.out.ext ((Ext.refl W4).drew.alloc (.cells #[.int .i64 tx, .int .i64 tb, .slice Av row.length cv] 62)))
              clear h0 h1 h2 h3 hk hE hstep hB2 HO2 HM HLi HL2 HR HRs HOw HOw4 HB HBd2 HSt2
              have HSi : Hid (w.heap.size ≤ W4.heap.size) := HX5.out.size
              go_wp2_with fail
              go_region_law (first | (refine step_append_any _ rfl (.tmp 59) (.tmp 61) 34 rfl w.heap.size 62 iw _ 3 40 Tryz.underlying34 hiw hw0 hw1 hw2 rfl (by decide) _ qs.length _ rfl (HOw5.out.alloc _) _ _ 1 1 [.int .i64 tx, .int .i64 tb, .slice Av row.length cv] rfl (reads_new3 _ _ _ _ _) (by simp [Value.oneCell']) (by have := HQ9.out; unfold maxLen; omega) (by have := HQ9.out; omega) (by have := HSi.out; simp; omega) ?_; intro v5 w5 hown5 hgr5 hblk5; dsimp only [List.getElem_toArray, List.getElem_cons_succ, List.getElem_cons_zero]; obtain ⟨A5, c5, hv5, y7, f7, ho5, hx5⟩ := HArm.out _ _ _ (by first | exact (Ext.refl W4).alloc _ | exact ((Ext.refl W4).drew).alloc _) hown5 hgr5 hblk5; subst hv5))
              all_goals
                have HO6 := hid ho5
                have HX6 := hid hx5
                clear ho5 hx5 hown5 hgr5 hblk5
                try dsimp only [List.getElem_toArray, List.getElem_cons_succ, List.getElem_cons_zero]
                try simp only [Act.put, List.setIfInBounds_toArray, List.set_cons_succ, List.set_cons_zero]
                go_wp2_with fail
                go_roundw
                case rel => exact ⟨R, n + 1, _, rfl, by go_num, by rw [opnL_snoc, opn_wait], HO6.out, HB2.out, HTd2.out, by have := HLs2.out; have := HSz.out; omega, HX6.out⟩
                case measure => have := HLs2.out; simp [strMs]; omega
    · have HF := hid (HTd.out.fin hT)
      rw [HOb.out] at HF
      have e0 : (T.toList == []) = true := by
        rw [ByteArray.toList_eq, List.isEmpty_iff.1 hT]
        rfl
      clear hT
      cases ob
      · rw [if_neg (by simp)] at HF
        go_wp2_with fail
        go_ret3
        exact ⟨PrsR.good HF.out rfl HEv.out, HXr.out⟩
      · rw [if_pos rfl] at HF
        go_wp2_with fail
        go_ret3
        exact ⟨PrsR.bad HF.out, HXr.out⟩
end Go.Proofs.YtdjdhkbomhendaaGreatDoor
