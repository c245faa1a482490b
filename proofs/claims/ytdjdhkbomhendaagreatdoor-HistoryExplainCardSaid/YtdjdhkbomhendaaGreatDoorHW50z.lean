/-
  Walks over history: the laws (Equal, Concatenation, Outcomes).
-/
import Derived.Test.YtdjdhkbomhendaaGreatDoorHW49z
namespace Go.Proofs.YtdjdhkbomhendaaGreatDoor
open Go.RowKit
set_option linter.unusedVariables false
set_option linter.unusedSimpArgs false
set_option maxHeartbeats 4000000
set_option maxRecDepth 100000

theorem eq_text {a b : List Ev} (ha : ∀ e ∈ a, e.bnd) (hb : ∀ e ∈ b, e.bnd) (h1 : okH a = true) (h2 : okH b = true) : ((textH a).toList == (textH b).toList) = eqH a b := by
  cases h : eqH a b
  · rw [beq_eq_false_iff_ne, ByteArray.toList_eq, ByteArray.toList_eq]
    intro he
    have := textH_inj h1 h2 (fun e he => bnd_bd (ha e he)) (fun e he => bnd_bd (hb e he)) (t_inj he)
    rw [this, eqH_refl] at h
    cases h
  · rw [eqH_iff.1 h]
    exact str_refl _
theorem law_equal (A B : Option Addr) (n c p d : Nat) (l k : List Ev) (w : World) (ha : EvArg w A n l) (hb : EvArg w B p k) (hg : GdH w) :
    Calls Tryz.prog 9 #[.slice A n c, .slice B p d] w fun r w' => r = .returned (.bool true) ∧ Ext w w' := by
  have HA := hid (fun W (hW : Ext w W) => awake_any W (hg.1.ext hW) (hg.2.1.ext hW) (hg.2.2.ext hW))
  have HFw := hid (fun W (hW : Ext w W) => Few_any A l n c W (ha.1.ext hW) ha.2.1 ha.2.2.1 ha.2.2.2.1)
  have HFv := hid (fun W (hW : Ext w W) => Few_any B k p d W (hb.1.ext hW) hb.2.1 hb.2.2.1 hb.2.2.2.1)
  have HArg := hid ha
  have HBrg := hid hb
  have HGd := hid hg
  clear ha hb hg
  obtain ⟨fw, hfw⟩ : ∃ b, fewH l = b := ⟨_, rfl⟩
  have HFb := hid hfw
  rw [hfw] at HFw
  obtain ⟨fv, hfv⟩ : ∃ b, fewH k = b := ⟨_, rfl⟩
  have HFc := hid hfv
  rw [hfv] at HFv
  clear hfw hfv
  go_enter Tryz.func9, Tryz.ntmps9
  go_upto_region 1 with fail
  go_cut [21] from 10 to 21 (fun cv wx => cv = .bool (!fw || !fv) ∧ Ext w wx)
  case first =>
    cases fw
    · go_wp2_with (first | (go_at_call 12; (with_reducible refine (HFw.out _ hw2).mono ?_); rintro _ w3 ⟨rfl, hw3⟩) | (go_at_call 11; (with_reducible refine (HA.out _ (Ext.refl w)).mono ?_); rintro _ w2 ⟨rfl, hw2⟩))
      go_meet
      exact ⟨rfl, hw2.trans hw3⟩
    · go_wp2_with (first | (go_at_call 12; have hh := hw3; (with_reducible refine (HFv.out _ (hw2.trans hw3)).mono ?_); rintro _ w4 ⟨rfl, hw4⟩) | (go_at_call 12; (with_reducible refine (HFw.out _ hw2).mono ?_); rintro _ w3 ⟨rfl, hw3⟩) | (go_at_call 11; (with_reducible refine (HA.out _ (Ext.refl w)).mono ?_); rintro _ w2 ⟨rfl, hw2⟩))
      go_meet
      exact ⟨rfl, (hw2.trans hw3).trans hw4⟩
  case rest =>
    obtain ⟨rfl, hxN⟩ := hcut
    generalize wc = w1 at *
    have HX := hid hxN
    clear hxN HFw HFv
    by_cases hff : fw = true ∧ fv = true
    · obtain ⟨rfl, rfl⟩ := hff
      have hfw := HFb.out
      have hfv := HFc.out
      have ha := HArg.out
      have hb := HBrg.out
      have hsm := few_sm hfw ha.2.2.2.2
      have hl4 := (few_parts hfw).1
      have hsn := few_sm hfv hb.2.2.2.2
      have hl5 := (few_parts hfv).1
      have HF := hid (fun W (hW : Ext w W) => Format_any A l n c W (ha.1.ext hW) ha.2.1 (by have := ha.2.1; omega) hsm (HGd.out.1.ext hW) (HGd.out.2.1.ext hW))
      have HG := hid (fun W (hW : Ext w W) => Format_any B k p d W (hb.1.ext hW) hb.2.1 (by have := hb.2.1; omega) hsn (HGd.out.1.ext hW) (HGd.out.2.1.ext hW))
      have HS := hid (fun W (h1 : Ext w W) => Same_any l k A B n p c d W ha.2.1 hb.2.1 ha.2.2.1 hb.2.2.1 (ha.1.ext h1) (hb.1.ext h1) ha.2.2.2.1 hb.2.2.2.1)
      have HE := hid (fun W (h1 : Ext w W) => hequal_any l k A B n p c d W ha.2.1 hb.2.1 ha.2.2.1 hb.2.2.1 (ha.1.ext h1) (hb.1.ext h1) ha.2.2.2.1 hb.2.2.2.1)
      have HR := hid (fun W (h1 : Ext w W) => hequal_any l l A A n n c c W ha.2.1 ha.2.1 ha.2.2.1 ha.2.2.1 (ha.1.ext h1) (ha.1.ext h1) ha.2.2.2.1 ha.2.2.2.1)
      rw [eqH_refl] at HR
      have hfa : fmtH l = if okH l = true then (textH l, 0) else (⟨#[]⟩, 1) := rfl
      have hfb : fmtH k = if okH k = true then (textH k, 0) else (⟨#[]⟩, 1) := rfl
      have htx := eq_text ha.2.2.2.2 hb.2.2.2.2
      have hbb : ∀ b : Bool, (b == b) = true := fun b => by cases b <;> rfl
      clear hfw hfv ha hb hsm hsn hl4 hl5
      generalize eqH l k = q at *
      cases h1 : okH l
      all_goals
        rw [h1] at hfa htx
        first | rw [if_pos rfl] at hfa | rw [if_neg (by simp)] at hfa
        rw [hfa] at HF
        cases h2 : okH k
        all_goals
          rw [h2] at hfb htx
          first | rw [if_pos rfl] at hfb | rw [if_neg (by simp)] at hfb
          rw [hfb] at HG
          first | (have htx' := htx rfl rfl; clear htx) | clear htx
          clear hfa hfb h1 h2
          generalize textH l = T1 at *
          generalize textH k = T2 at *
          have hqq := hbb q
          go_wp2_with (first
            | (go_at_call 18; have hh := hx5; (with_reducible refine (HR.out _ (HX.out.trans ((hx2.trans hx3).trans (hx4.trans hx5)))).mono ?_); rintro _ w6 ⟨rfl, hx6⟩)
            | (go_at_call 17; (with_reducible refine (HS.out _ (HX.out.trans ((hx2.trans hx3).trans hx4))).mono ?_); rintro _ w5 ⟨rfl, hx5⟩)
            | (go_at_call 13; have hh := hx3; (with_reducible refine (HG.out _ (HX.out.trans (hx2.trans hx3))).mono ?_); rintro _ w4 ⟨rfl, hx4⟩)
            | (go_at_call 13; have hh := hx2; (with_reducible refine (HF.out _ (HX.out.trans hx2)).mono ?_); rintro _ w3 ⟨rfl, hx3⟩)
            | (go_at_call 18; (with_reducible refine (HE.out _ HX.out).mono ?_); rintro _ w2 ⟨rfl, hx2⟩))
          go_ret
          exact ⟨by simp_all, HX.out.trans (((hx2.trans hx3).trans (hx4.trans hx5)).trans hx6)⟩
    · have hff2 : (!fw || !fv) = true := by
        cases fw
        · rfl
        · cases fv
          · rfl
          · exact absurd ⟨rfl, rfl⟩ hff
      rw [hff2]
      go_wp2_with (go_at_call 11; (with_reducible refine (HA.out _ HX.out).mono ?_); rintro _ w2 ⟨rfl, hw2⟩)
      go_ret
      exact ⟨rfl, HX.out.trans hw2⟩
theorem add_at (b off j : Nat) : (⟨b, off, none⟩ : Addr).add j = ⟨b, off + j, none⟩ := by unfold Addr.add; split <;> simp_all
/-- events in memory, with the values of their lists -/
theorem evs_pairs {w : World} {A : Option Addr} {l : List Ev} (h : EvsAt w A l) : ∀ k, k ≤ l.length → ∃ ps : List (Ev × Value × Value), ps.map Prod.fst = l.take k ∧
    ∀ (i : Nat) (p : Ev × Value × Value), ps[i]? = some p → (∃ b off, A = some ⟨b, off, none⟩ ∧ ∀ j u, (evC p)[j]? = some u → w.cell? ⟨b, off + (i * 8 + j), none⟩ = some u) ∧ RsAt w p.2.1 p.1.rows ∧ WsAt w p.2.2 p.1.wts
  | 0, _ => ⟨[], by simp, fun i p h => by simp at h⟩
  | k + 1, hk => by
    obtain ⟨ps, h1, h2⟩ := evs_pairs h k (by omega)
    obtain ⟨e, he⟩ : ∃ e, l[k]? = some e := ⟨_, List.getElem?_eq_getElem (by omega)⟩
    obtain ⟨b, off, vr, vw, hA, c0, c1, c2, c3, c4, c5, c6, c7, r1, r2⟩ := h k e he
    have hl : ps.length = k := by
      have := congrArg List.length h1
      rw [List.length_map, List.length_take] at this
      omega
    refine ⟨ps ++ [(e, vr, vw)], by rw [List.map_append, h1, take_step he]; rfl, fun i p hp => ?_⟩
    by_cases hi : i < ps.length
    · rw [List.getElem?_append_left hi] at hp
      exact h2 i p hp
    · have hi2 := (List.getElem?_eq_some_iff.1 hp).1
      rw [List.length_append, List.length_singleton] at hi2
      obtain rfl : i = k := by omega
      rw [List.getElem?_append_right (by omega), hl, Nat.sub_self] at hp
      obtain rfl := Option.some.inj hp
      refine ⟨⟨b, off, hA, fun j u hu => ?_⟩, r1, r2⟩
      have hj : j < 8 := (List.getElem?_eq_some_iff.1 hu).1
      rcases j with _ | _ | _ | _ | _ | _ | _ | _ | j
      · obtain rfl := Option.some.inj hu; exact c0
      · obtain rfl := Option.some.inj hu; exact c1
      · obtain rfl := Option.some.inj hu; exact c2
      · obtain rfl := Option.some.inj hu; exact c3
      · obtain rfl := Option.some.inj hu; exact c4
      · obtain rfl := Option.some.inj hu; exact c5
      · obtain rfl := Option.some.inj hu; exact c6
      · obtain rfl := Option.some.inj hu; exact c7
      · omega
theorem evs_reads {w : World} {A : Option Addr} {l : List Ev} {n : Nat} (h : EvsAt w A l) (hn : l.length = n) : ∃ ps : List (Ev × Value × Value), ps.map Prod.fst = l ∧ ps.length = n ∧ Reads w w.heap.size 8 A n (ps.flatMap evC) ∧
    (∀ p ∈ ps, RsAt w p.2.1 p.1.rows ∧ WsAt w p.2.2 p.1.wts) ∧ ∀ u ∈ ps.flatMap evC, u.oneCell' = true := by
  obtain ⟨ps, h1, h2⟩ := evs_pairs h l.length (Nat.le_refl _)
  rw [List.take_length] at h1
  have hl : ps.length = n := by
    have := congrArg List.length h1
    rw [List.length_map] at this
    omega
  refine ⟨ps, h1, hl, ⟨by rw [flat_len evC 8 (fun _ => rfl), hl], fun hn0 => ?_⟩, fun p hp => ?_, fun u hu => ?_⟩
  · obtain ⟨p0, hp0⟩ : ∃ p, ps[0]? = some p := ⟨_, List.getElem?_eq_getElem (by omega)⟩
    obtain ⟨⟨b, off, rfl, hc⟩, _⟩ := h2 0 p0 hp0
    refine ⟨⟨b, off, none⟩, rfl, cell_lt (hc 0 _ rfl), fun j u hu => ?_⟩
    rw [add_at]
    have hj := (List.getElem?_eq_some_iff.1 hu).1
    rw [flat_len evC 8 (fun _ => rfl)] at hj
    obtain ⟨p, hp⟩ : ∃ p, ps[j / 8]? = some p := ⟨_, List.getElem?_eq_getElem (by omega)⟩
    obtain ⟨⟨b2, off2, hA, hc2⟩, _⟩ := h2 (j / 8) p hp
    injection hA with hA
    injection hA with hb ho
    subst hb ho
    have hg := flat_get evC 8 (fun _ => rfl) ps (j / 8) (j % 8) p hp (Nat.mod_lt _ (by decide))
    rw [show j / 8 * 8 + j % 8 = j by omega] at hg
    have := hc2 (j % 8) u (by rw [← hg]; exact hu)
    rw [show j / 8 * 8 + j % 8 = j by omega] at this
    exact this
  · obtain ⟨i, hi, rfl⟩ := List.getElem_of_mem hp
    exact (h2 i _ (List.getElem?_eq_getElem hi)).2
  · obtain ⟨p, hp, hu⟩ := List.mem_flatMap.1 hu
    obtain ⟨i, hi, rfl⟩ := List.getElem_of_mem hp
    obtain ⟨_, ⟨A1, c1, e1, _⟩, ⟨A2, c2, e2, _⟩⟩ := h2 i _ (List.getElem?_eq_getElem hi)
    simp only [evC, List.mem_cons, List.not_mem_nil, or_false] at hu
    rcases hu with rfl | rfl | rfl | rfl | rfl | rfl | rfl | rfl
    · rfl
    · rfl
    · rfl
    · rfl
    · rfl
    · rfl
    · rw [e1]; rfl
    · rw [e2]; rfl
theorem fmt_app (a b : List Ev) : fmtH (a ++ b) = if okH a = true ∧ okH b = true then (textH a ++ textH b, 0) else (⟨#[]⟩, 1) := by
  unfold fmtH
  rw [okH_app, textH_app2]
  cases okH a <;> cases okH b <;> rfl
theorem law_concat (A B : Option Addr) (n c p d : Nat) (l k : List Ev) (w : World) (ha : EvArg w A n l) (hb : EvArg w B p k) (hg : GdH w) :
    Calls Tryz.prog 7 #[.slice A n c, .slice B p d] w fun r w' => r = .returned (.bool true) ∧ Ext w w' := by
  have HA := hid (fun W (hW : Ext w W) => awake_any W (hg.1.ext hW) (hg.2.1.ext hW) (hg.2.2.ext hW))
  have HFw := hid (fun W (hW : Ext w W) => Few_any A l n c W (ha.1.ext hW) ha.2.1 ha.2.2.1 ha.2.2.2.1)
  have HFv := hid (fun W (hW : Ext w W) => Few_any B k p d W (hb.1.ext hW) hb.2.1 hb.2.2.1 hb.2.2.2.1)
  have HArg := hid ha
  have HBrg := hid hb
  have HGd := hid hg
  clear ha hb hg
  obtain ⟨fw, hfw⟩ : ∃ b, fewH l = b := ⟨_, rfl⟩
  have HFb := hid hfw
  rw [hfw] at HFw
  obtain ⟨fv, hfv⟩ : ∃ b, fewH k = b := ⟨_, rfl⟩
  have HFc := hid hfv
  rw [hfv] at HFv
  clear hfw hfv
  go_enter Tryz.func7, Tryz.ntmps7
  go_upto_region 1 with fail
  go_cut [22] from 11 to 22 (fun cv wx => cv = .bool (!fw || !fv) ∧ Ext w wx)
  case first =>
    cases fw
    · go_wp2_with (first | (go_at_call 12; (with_reducible refine (HFw.out _ hw2).mono ?_); rintro _ w3 ⟨rfl, hw3⟩) | (go_at_call 11; (with_reducible refine (HA.out _ (Ext.refl w)).mono ?_); rintro _ w2 ⟨rfl, hw2⟩))
      go_meet
      exact ⟨rfl, hw2.trans hw3⟩
    · go_wp2_with (first | (go_at_call 12; have hh := hw3; (with_reducible refine (HFv.out _ (hw2.trans hw3)).mono ?_); rintro _ w4 ⟨rfl, hw4⟩) | (go_at_call 12; (with_reducible refine (HFw.out _ hw2).mono ?_); rintro _ w3 ⟨rfl, hw3⟩) | (go_at_call 11; (with_reducible refine (HA.out _ (Ext.refl w)).mono ?_); rintro _ w2 ⟨rfl, hw2⟩))
      go_meet
      exact ⟨rfl, (hw2.trans hw3).trans hw4⟩
  case rest =>
    obtain ⟨rfl, hxN⟩ := hcut
    generalize wc = w1 at *
    have HX := hid hxN
    clear hxN HFw HFv
    by_cases hff : fw = true ∧ fv = true
    · obtain ⟨rfl, rfl⟩ := hff
      have hfw := HFb.out
      have hfv := HFc.out
      have ha := HArg.out
      have hb := HBrg.out
      have hsm := few_sm hfw ha.2.2.2.2
      have hl4 := (few_parts hfw).1
      have hsn := few_sm hfv hb.2.2.2.2
      have hl5 := (few_parts hfv).1
      obtain ⟨ie, hie, he0, he1, he2⟩ := info_parts info_evt
      have HF := hid (fun W (hW : Ext w W) => Format_any A l n c W (ha.1.ext hW) ha.2.1 (by have := ha.2.1; omega) hsm (HGd.out.1.ext hW) (HGd.out.2.1.ext hW))
      have HG := hid (fun W (hW : Ext w W) => Format_any B k p d W (hb.1.ext hW) hb.2.1 (by have := hb.2.1; omega) hsn (HGd.out.1.ext hW) (HGd.out.2.1.ext hW))
      have HZ1 := few_text hfw ha.2.2.2.2
      have HZ2 := few_text hfv hb.2.2.2.2
      obtain ⟨ps, q1, q2, q3, q4, q5⟩ := evs_reads ha.1 ha.2.1
      obtain ⟨qs, r1, r2, r3, r4, r5⟩ := evs_reads hb.1 hb.2.1
      have HN : Hid (n ≤ 40 ∧ p ≤ 40) := by have := ha.2.1; have := hb.2.1; unfold Hid; omega
      have HQ3 := hid q3
      have HQ5 := hid q5
      have HR3 := hid r3
      have HR5 := hid r5
      have HAt : Hid (∀ (v : Value) (W : World), Ext w W → ∀ B0, W.ownsRow B0 36 8 v (n + p) (ps.flatMap evC ++ qs.flatMap evC) → ∃ A9 c9, v = .slice A9 (n + p) c9 ∧ EvsAt W A9 (l ++ k)) := fun v W hW B0 ho => by
        have hlen : (ps ++ qs).length = n + p := by rw [List.length_append, q2, r2]
        have h := evs_at (ps := ps ++ qs) (B := B0) (by rw [hlen, List.flatMap_append]; exact ho) (fun x hx => by
          rcases List.mem_append.1 hx with hx | hx
          · exact ⟨(q4 x hx).1.ext hW, (q4 x hx).2.ext hW⟩
          · exact ⟨(r4 x hx).1.ext hW, (r4 x hx).2.ext hW⟩)
        rw [hlen, List.map_append, q1, r1] at h
        exact h
      have HC := hid (fun W A9 c9 (hW : Ext w W) (h : EvsAt W A9 (l ++ k)) => Format_any A9 (l ++ k) (n + p) c9 W h (by rw [List.length_append, ha.2.1, hb.2.1]) (by have := HN.out; omega) (fun e he => by rcases List.mem_append.1 he with he | he; exact hsm e he; exact hsn e he) (HGd.out.1.ext hW) (HGd.out.2.1.ext hW))
      rw [fmt_app] at HC
      have hfa : fmtH l = if okH l = true then (textH l, 0) else (⟨#[]⟩, 1) := rfl
      have hfb : fmtH k = if okH k = true then (textH k, 0) else (⟨#[]⟩, 1) := rfl
      have HBs : Hid (w.heap.size ≤ w1.heap.size) := HX.out.size
      clear hfw hfv ha hb hsm hsn hl4 hl5 q1 q2 q3 q4 q5 r1 r2 r3 r4 r5
      generalize ps.flatMap evC = xs at *
      generalize qs.flatMap evC = ys at *
      cases h1 : okH l
      all_goals
        rw [h1] at hfa HC
        first | rw [if_pos rfl] at hfa | rw [if_neg (by simp)] at hfa
        rw [hfa] at HF
        cases h2 : okH k
        all_goals
          rw [h2] at hfb HC
          first | rw [if_pos rfl] at hfb | rw [if_neg (by simp)] at hfb
          rw [hfb] at HG
          first | rw [if_pos ⟨rfl, rfl⟩] at HC | rw [if_neg (by simp)] at HC
          clear hfa hfb h1 h2
          have hq := str_refl (textH l ++ textH k)
          generalize textH l = T1 at *
          generalize textH k = T2 at *
          go_upto_region 5 with (first
            | (go_at_call 13; have hh := hx2; (with_reducible refine (HG.out _ (HX.out.trans hx2)).mono ?_); rintro _ w3 ⟨rfl, hx3⟩)
            | (go_at_call 13; (with_reducible refine (HF.out _ HX.out).mono ?_); rintro _ w2 ⟨rfl, hx2⟩))
          have HX3 := hid (HX.out.trans (hx2.trans hx3))
          clear hx2 hx3
          go_wp2_with (first
            | (go_at_call 13; (with_reducible refine (HC.out _ _ _ hx7 hev7).mono ?_); rintro _ w8 ⟨rfl, hx8⟩)
            | (at_builtin; first
              | (refine wpList_append_any _ rfl (.tmp 37) (.tmp 38) 22 rfl w.heap.size 36 ie _ 8 96 Tryz.underlying22 hie he0 he1 he2 rfl (by decide) _ n xs rfl ho5 w.heap.size B p d ys rfl (HR3.out.below hx5) HR5.out (by have := HN.out; unfold maxLen; omega) (by have := HN.out; omega) (by have := hx5.size; omega) ?_; intro v6 w6 hown6 hgr6 hblk6; have hgr6' : w5.grownBy w6 (Value.slice A8 n c8).ownBlock := hgr6; have hx7 : Ext w w6 := Ext.grown hx5 hgr6' (fun q hq => own_ge ho5 hq); obtain ⟨A9, c9, hv9, hev7⟩ := HAt.out _ _ hx7 _ hown6; subst hv9)
              | (refine wpList_append_any _ rfl (.tmp 35) (.tmp 36) 22 rfl w.heap.size 36 ie _ 8 96 Tryz.underlying22 hie he0 he1 he2 rfl (by decide) _ 0 [] rfl (own_empty _ w.heap.size _ 8 HX3.out.size) w.heap.size A n c xs rfl (HQ3.out.below (HX3.out.alloc _)) HQ5.out (by have := HN.out; unfold maxLen; omega) (by have := HN.out; omega) (by have := HX3.out.size; simp; omega) ?_; intro v5 w5 hown5 hgr5 hblk5; rw [Nat.zero_add, List.nil_append] at hown5; obtain ⟨A8, c8, hv8⟩ := own_slice hown5; subst hv8; have ho5 := hown5; have hgr5' : (w3.alloc (.cells #[] 36)).grownBy w5 (Value.slice (some ⟨w3.heap.size, 0, none⟩) 0 0).ownBlock := hgr5; have hx5 : Ext w w5 := Ext.grown (HX3.out.alloc _) hgr5' (fun q hq => by have := HX3.out.size; simp [Value.ownBlock] at hq; omega))))
          go_ret
          exact ⟨by simp_all, hx7.trans hx8⟩
    · have hff2 : (!fw || !fv) = true := by
        cases fw
        · rfl
        · cases fv
          · rfl
          · exact absurd ⟨rfl, rfl⟩ hff
      rw [hff2]
      go_wp2_with (go_at_call 11; (with_reducible refine (HA.out _ HX.out).mono ?_); rintro _ w2 ⟨rfl, hw2⟩)
      go_ret
      exact ⟨rfl, HX.out.trans hw2⟩
theorem nums_ownT {B : Nat} {W : World} {T : TypeId} {v : Value} {ns : List Int} (h : W.ownsRow B T 1 v ns.length (i64s ns)) : ∃ A c, v = .slice A ns.length c ∧ (∀ j, j < ns.length → ∃ g, A = some ⟨g, 0, none⟩ ∧ W.cell? ⟨g, j, none⟩ = some (.int .i64 (ns.getD j 0))) := by
  obtain ⟨A, c, rfl⟩ := own_slice h
  refine ⟨A, c, rfl, fun j hj => ?_⟩
  have hg : (i64s ns)[j]? = some (.int .i64 (ns.getD j 0)) := by
    unfold i64s
    rw [List.getElem?_map, List.getElem?_eq_getElem hj, List.getD_eq_getElem?_getD, List.getElem?_eq_getElem hj]
    rfl
  obtain ⟨g, c', e0, h0⟩ := own_cell h hg
  injection e0 with e0 _ _
  exact ⟨g, e0, h0⟩
theorem outS_len (t : Int) (s : Bool × List Int) (p : Ev × Nat) : (outS t s p).2.length ≤ s.2.length + 1 := by
  unfold outS
  repeat' split
  all_goals simp
theorem out_fold (t : Int) : ∀ (l : List (Ev × Nat)) (s : Bool × List Int), (l.foldl (outS t) s).2.length ≤ s.2.length + l.length
  | [], s => by simp
  | p :: l, s => by
    rw [List.foldl_cons, List.length_cons]
    have h1 := out_fold t l (outS t s p)
    have h2 := outS_len t s p
    omega
theorem out_len40 (l : List Ev) (t : Int) (h : l.length ≤ 40) : (outP l t).2.length ≤ 1000000 := by
  have h1 := out_fold t l.zipIdx (false, [])
  rw [List.length_zipIdx] at h1
  unfold outP
  have h2 : ((false, []) : Bool × List Int).2.length = 0 := rfl
  omega
theorem comm_len2 (l : List Ev) : (commP l).length ≤ l.length := by
  unfold commP
  rw [List.length_map]
  exact List.length_filter_le _ _
theorem law_outcomes (A : Option Addr) (n c : Nat) (l : List Ev) (t : Int) (w : World) (ha : EvArg w A n l) (hg : GdH w) :
    Calls Tryz.prog 10 #[.slice A n c, .int .i64 t] w fun r w' => r = .returned (.bool true) ∧ Ext w w' := by
  have HA := hid (fun W (hW : Ext w W) => awake_any W (hg.1.ext hW) (hg.2.1.ext hW) (hg.2.2.ext hW))
  have HFw := hid (fun W (hW : Ext w W) => Few_any A l n c W (ha.1.ext hW) ha.2.1 ha.2.2.1 ha.2.2.2.1)
  have HArg := hid ha
  have HGd := hid hg
  clear ha hg
  obtain ⟨fw, hfw⟩ : ∃ b, fewH l = b := ⟨_, rfl⟩
  have HFb := hid hfw
  rw [hfw] at HFw
  clear hfw
  go_enter Tryz.func10, Tryz.ntmps10
  go_upto_region 1 with fail
  go_cut [17] from 11 to 17 (fun cv wx => cv = .bool (!fw) ∧ Ext w wx)
  case first =>
    go_wp2_with (first | (go_at_call 11; (with_reducible refine (HA.out _ (Ext.refl w)).mono ?_); rintro _ w2 ⟨rfl, hw2⟩) | (go_at_call 12; (with_reducible refine (HFw.out _ hw2).mono ?_); rintro _ w3 ⟨rfl, hw3⟩))
    go_meet
    exact ⟨rfl, hw2.trans hw3⟩
  case rest =>
    obtain ⟨rfl, hxN⟩ := hcut
    generalize wc = w1 at *
    have HX := hid hxN
    clear hxN HFw
    cases fw
    · go_wp2_with (go_at_call 11; (with_reducible refine (HA.out _ HX.out).mono ?_); rintro _ w2 ⟨rfl, hw2⟩)
      go_ret
      exact ⟨rfl, HX.out.trans hw2⟩
    · have hfw := HFb.out
      have ha := HArg.out
      have hsm := few_sm hfw ha.2.2.2.2
      have hl4 := (few_parts hfw).1
      have hn40 : n ≤ 1000000 := by have := ha.2.1; omega
      have HC := hid (fun W (hW : Ext w W) => Committed_any A l n c W (ha.1.ext hW) ha.2.1 hn40)
      have HD := hid (fun W (hW : Ext w W) => rCommitted_any A l n c W (ha.1.ext hW) ha.2.1 hn40)
      have HO := hid (fun W (hW : Ext w W) => Outcomes_any A l n c t W (ha.1.ext hW) ha.2.1 hn40)
      have HP := hid (fun W (hW : Ext w W) => rOutcomes_any A l n c t W (ha.1.ext hW) ha.2.1 hn40)
      have hm1 : (commP l).length ≤ 40 := Nat.le_trans (comm_len2 l) hl4
      have hm2 : (outP l t).2.length ≤ 1000000 := out_len40 l t (by omega)
      clear hfw ha hsm hl4 hn40
      generalize commP l = L1 at *
      generalize (outP l t).2 = L2 at *
      unfold NumsR at HC HD HO HP
      go_upto_region 5 with (first
        | (go_at_call 24; (with_reducible refine (HP.out _ (HX.out.trans ((hx2.trans hx3).trans hx4))).mono ?_); rintro _ w5 ⟨⟨v5, rfl, ho5⟩, hx5⟩)
        | (go_at_call 23; (with_reducible refine (HO.out _ (HX.out.trans (hx2.trans hx3))).mono ?_); rintro _ w4 ⟨⟨v4, rfl, ho4⟩, hx4⟩)
        | (go_at_call 22; (with_reducible refine (HD.out _ (HX.out.trans hx2)).mono ?_); rintro _ w3 ⟨⟨v3, rfl, ho3⟩, hx3⟩)
        | (go_at_call 21; (with_reducible refine (HC.out _ HX.out).mono ?_); rintro _ w2 ⟨⟨v2, rfl, ho2⟩, hx2⟩))
      obtain ⟨A2, c2, rfl, e2⟩ := nums_ownT (ownN_ext ho2 ((hx3.trans hx4).trans hx5))
      obtain ⟨A3, c3, rfl, e3⟩ := nums_ownT (ownN_ext ho3 (hx4.trans hx5))
      obtain ⟨A4, c4, rfl, e4⟩ := nums_ownT (ownN_ext ho4 hx5)
      obtain ⟨A5, c5, rfl, e5⟩ := nums_ownT ho5
      have HXall := hid (HX.out.trans ((hx2.trans hx3).trans (hx4.trans hx5)))
      clear ho2 ho3 ho4 ho5 hx2 hx3 hx4 hx5 HC HD HO HP
      obtain ⟨m1, hq1⟩ : ∃ m, L1.length = m := ⟨_, rfl⟩
      obtain ⟨m2, hq2⟩ : ∃ m, L2.length = m := ⟨_, rfl⟩
      rw [hq1] at e2 e3 hm1 ⊢
      rw [hq2] at e4 e5 hm2 ⊢
      have HC1 := hid e2
      have HC2 := hid e3
      have HD1 := hid e4
      have HD2 := hid e5
      have HC9 : Hid (m1 ≤ 1000000) := by unfold Hid; omega
      have HD9 : Hid (m2 ≤ 1000000) := hm2
      clear e2 e3 e4 e5 hm1 hm2 hq1 hq2
      go_wp2_with fail
      go_loopw [43] (fun iv wr => ∃ k : Nat, k ≤ m1 ∧ iv = .int .i64 k ∧ Ext w5 wr) (fun i _ => m1 - (intOf i).toNat)
      case atStart => exact ⟨0, Nat.zero_le _, rfl, Ext.refl _⟩
      case round =>
        obtain ⟨k, hk, rfl, hxr⟩ := hrel
        have HXr := hid hxr
        clear hxr
        have hk9 : k ≤ 1000000 := by have := HC9.out; omega
        by_cases hlt : k < m1
        · obtain ⟨g1, rfl, c1⟩ := HC1.out k hlt
          obtain ⟨g2, rfl, c2⟩ := HC2.out k hlt
          have d1 := Later.keep (HXr.out.keep c1)
          have d2 := Later.keep (HXr.out.keep c2)
          have i0 : (0 : Int) ≤ (k : Int) := by omega
          have i1 : (k : Int) < (m1 : Int) := by omega
          obtain ⟨xx, hxx⟩ : ∃ xx, L1.getD k 0 = xx := ⟨_, rfl⟩
          rw [hxx] at d1 d2
          have hb : (xx != xx) = false := by simp
          clear c1 c2 hxx
          go_upto_region 10 with fail
          refine wp_region_later (by kernel_rfl) (by kernel_rfl) ?_
          repeat (go_big_quiet_step (fail))
          refine wpQuiet_nil ?_
          first | (intro w9 hw9; have hx9 := later_out hw9; clear hw9) | (rintro w9; have hx9 := later_out ⟨w9, rfl⟩)
          go_wp2_with fail
          go_roundw
          case rel => exact ⟨k + 1, by omega, by go_num, HXr.out.trans hx9⟩
          case measure => simp [intOf]; omega
        · have hkm : m1 = k := by omega
          subst hkm
          have HXl := hid HXr.out
          generalize wr = w6 at *
          replace HD1 := hid (fun j hj => by obtain ⟨g, h1, h2⟩ := HD1.out j hj; exact (⟨g, h1, HXl.out.keep h2⟩ : ∃ g, _ = some (⟨g, 0, none⟩ : Addr) ∧ w6.cell? ⟨g, j, none⟩ = some (.int .i64 (L2.getD j 0))))
          replace HD2 := hid (fun j hj => by obtain ⟨g, h1, h2⟩ := HD2.out j hj; exact (⟨g, h1, HXl.out.keep h2⟩ : ∃ g, _ = some (⟨g, 0, none⟩ : Addr) ∧ w6.cell? ⟨g, j, none⟩ = some (.int .i64 (L2.getD j 0))))
          go_wp2_with fail
          go_loopw [58] (fun iv wr => ∃ k : Nat, k ≤ m2 ∧ iv = .int .i64 k ∧ Ext w6 wr) (fun i _ => m2 - (intOf i).toNat)
          case atStart => exact ⟨0, Nat.zero_le _, rfl, Ext.refl _⟩
          case round =>
            obtain ⟨k, hk, rfl, hxr⟩ := hrel
            have HXr := hid hxr
            clear hxr
            have hk9 : k ≤ 1000000 := by have := HD9.out; omega
            by_cases hlt : k < m2
            · obtain ⟨g1, rfl, c1⟩ := HD1.out k hlt
              obtain ⟨g2, rfl, c2⟩ := HD2.out k hlt
              have d1 := Later.keep (HXr.out.keep c1)
              have d2 := Later.keep (HXr.out.keep c2)
              have i0 : (0 : Int) ≤ (k : Int) := by omega
              have i1 : (k : Int) < (m2 : Int) := by omega
              obtain ⟨xx, hxx⟩ : ∃ xx, L2.getD k 0 = xx := ⟨_, rfl⟩
              rw [hxx] at d1 d2
              have hb : (xx != xx) = false := by simp
              clear c1 c2 hxx
              go_upto_region 16 with fail
              refine wp_region_later (by kernel_rfl) (by kernel_rfl) ?_
              repeat (go_big_quiet_step (fail))
              refine wpQuiet_nil ?_
              first | (intro w9 hw9; have hx9 := later_out hw9; clear hw9) | (rintro w9; have hx9 := later_out ⟨w9, rfl⟩)
              go_wp2_with fail
              go_roundw
              case rel => exact ⟨k + 1, by omega, by go_num, HXr.out.trans hx9⟩
              case measure => simp [intOf]; omega
            · have hkm : m2 = k := by omega
              subst hkm
              go_wp2_with fail
              go_ret
              exact ⟨rfl, (HXall.out.trans HXl.out).trans HXr.out⟩
theorem law_equal2 (A : Option Addr) (n c : Nat) (l : List Ev) (B : Option Addr) (p d : Nat) (k : List Ev) (w : World) (ha : EvArg w A n l) (hb : EvArg w B p k) (hg : GdH w) :
    Calls Tryz.prog 9 #[.slice A n c, .slice B p d] w fun r w' => r = .returned (.bool true) ∧ Ext w w' := law_equal A B n c p d l k w ha hb hg
theorem law_concat2 (A : Option Addr) (n c : Nat) (l : List Ev) (B : Option Addr) (p d : Nat) (k : List Ev) (w : World) (ha : EvArg w A n l) (hb : EvArg w B p k) (hg : GdH w) :
    Calls Tryz.prog 7 #[.slice A n c, .slice B p d] w fun r w' => r = .returned (.bool true) ∧ Ext w w' := law_concat A B n c p d l k w ha hb hg
end Go.Proofs.YtdjdhkbomhendaaGreatDoor
