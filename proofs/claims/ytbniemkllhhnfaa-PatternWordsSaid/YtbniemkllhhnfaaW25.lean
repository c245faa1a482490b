/-
  Walks over the reference's search: the known dead; the loop over the characters.
-/
import Derived.Test.YtbniemkllhhnfaaW24
import Derived.Deep.RegionWith
namespace Go.Proofs.Ytbniemkllhhnfaa
open Go.RowKit
set_option maxHeartbeats 2000000
set_option maxRecDepth 100000

theorem info69 : (Try.prog.info? 69).map (fun i => (i.zero, i.size, i.bytes)) = some (some (.slice none 0 0), 1, 24) := by kernel_rfl
theorem info3 : (Try.prog.info? 3).map (fun i => (i.zero, i.size, i.bytes)) = some (some (.int .i64 0), 1, 8) := by kernel_rfl
theorem rokL_lt {ts : List Tst} {a : List (List Nat)} (h : rokL ts a) (hts : ∀ t ∈ ts, t.p.size ≤ 16) : ∀ i, ∀ y ∈ atL a i, y < 256 := by
  intro i y hy
  by_cases hi : i < ts.length
  · exact rok_lt _ _ _ (by rw [N_len]; exact hts _ (List.getElem_mem hi)) (h.2 i ts[i] (List.getElem?_eq_getElem hi)) y hy
  · rw [atL, List.getElem?_eq_none (by rw [h.1]; omega)] at hy
    cases hy
theorem any_step {α : Type} (f : α → Bool) (l : List α) (k : Nat) (a : α) (ha : l[k]? = some a) (h : (l.take k).any f = false) (hf : f a = false) : (l.take (k + 1)).any f = false := by
  obtain ⟨hk, rfl⟩ := List.getElem?_eq_some_iff.1 ha
  rw [List.take_succ_eq_append_getElem hk, List.any_append, h, List.any_cons, hf]; rfl
theorem any_yes {α : Type} (f : α → Bool) (l : List α) (k : Nat) (a : α) (ha : l[k]? = some a) (hf : f a = true) : l.any f = true := by
  rw [List.any_eq_true]
  exact ⟨a, List.mem_of_getElem? ha, hf⟩

theorem news_set (w : World) (p : Addr) (v : Value) (cs : Array Value) (e : TypeId) : ∀ (j : Nat) (u : Value), cs.toList[j]? = some u → ((w.setCell p v).alloc (.cells cs e)).cell? ((⟨w.heap.size, 0, none⟩ : Addr).add j) = some u := fun j u hu => by
  have := news_new (w.setCell p v) cs e j u hu
  have hs : (w.setCell p v).heap.size = w.heap.size := by simp [World.setCell]
  rwa [hs] at this

theorem search_succ (m : Nat) (ih : SearchSaid m) : SearchSaid (m + 1) := by
  intro B D A Al ts n c cl most z w st vals nv lv ov text a sx hz hleft hsx htx hm hna hn hok hgood hlen hfew hout hdead
  obtain ⟨i0, hi, hz0, hz1, hz2⟩ := info_parts info69
  obtain ⟨j0, hj, hj0, hj1, hj2⟩ := info_parts info3
  have hz1' : (z == 0) = false := by simp; omega
  have hnodes := hm.nodes
  have hlefts := hm.left
  rw [List.length_map] at hnodes hlefts
  obtain ⟨an, cn, rfl, hrdn⟩ := Rd_of_own hnodes
  obtain ⟨alf, clf, rfl, hrdl⟩ := Rd_of_own hlefts
  obtain ⟨ao, co, rfl⟩ := own_slice hm.out
  obtain ⟨Al', cl', e, hrd⟩ := hna.rd
  simp only [Value.slice.injEq] at e
  obtain ⟨rfl, hal, rfl⟩ := e
  have HAL := hid hal
  have HRD := hid hrd
  have HZ := hid hz
  have HN := hid hn
  have HM := hid hm
  have HK := hid hok
  have HF := hid hfew
  have HG := hid hgood
  have HO := hid hout
  have HD := hid hdead
  have HNA := hid hna
  have HSX := hid hsx
  have hat := hid (rokL_lt hok hfew.le16)
  have hdl : st.dead.length < 4000000000000 := Nat.lt_of_le_of_lt (rsr_mono ts most (m + 1) a text st).2 hdead
  clear hn hm hok hfew hgood hout hdead hna hsx hnodes hlefts hal hrd hz
  obtain rfl : z = ((m + 1 : Nat) : Int) := HZ.out
  go_enter Try.func41, Try.ntmps41
  go_wp2_with fail
  go_loopw [15] (fun i wr => ∃ k : Nat, k ≤ st.dead.length ∧ i = .int .i64 k ∧ (st.dead.take k).any (fun d => d.2 == m + 1 && d.1 == a) = false ∧ Ext w wr) (fun i _ => st.dead.length - (intOf i).toNat)
  case atStart => exact ⟨0, Nat.zero_le _, rfl, rfl, Ext.refl w⟩
  case round =>
    obtain ⟨k, hk, rfl, hno, hxr⟩ := hrel
    have HNO := hid hno
    have hD0 := (HM.out.blk.ext hxr).cell_some (i := 0) (v := .slice an st.dead.length cn) rfl
    have hD1 := (HM.out.blk.ext hxr).cell_some (i := 1) (v := .slice alf st.dead.length clf) rfl
    clear hno
    by_cases hlt : k < st.dead.length
    · obtain ⟨d, hd⟩ : ∃ d, st.dead[k]? = some d := ⟨_, List.getElem?_eq_getElem hlt⟩
      obtain ⟨v, hv, hnv⟩ := HM.out.each k d.1 (by rw [List.getElem?_map, hd]; rfl)
      obtain ⟨Ak, ck, rfl, hrk⟩ := hnv.rd
      obtain ⟨bn, on, rfl, hcn⟩ := (hrdn.ext hxr).at_ hv
      obtain ⟨bl, ol, rfl, hcl⟩ := (hrdl.ext hxr).at_ (i := k) (v := .int .i64 (d.2 : Int)) (by rw [List.getElem?_map, List.getElem?_map, hd]; rfl)
      have hgd := HG.out d (List.mem_of_getElem? hd)
      have hlk : d.1.length = n := hgd.1.trans HN.out
      rw [hlk] at hcn
      have HRK := hid (hrk.ext hxr)
      have HDD := hid hd
      have HLK := hid hlk
      have hatd := hid (rokL_lt hgd HF.out.le16)
      clear hd hgd hv hnv hrk hlk
      have hib := ibeq d.2 (m + 1)
      cases hq : (d.2 == m + 1)
      · rw [hq] at hib
        have hib2 : ((d.2 : Int) == (m : Int) + 1) = false := hib
        have hno2 := hid (any_step (fun d => d.2 == m + 1 && d.1 == a) st.dead k d HDD.out HNO.out (by simp only [hq, Bool.false_and]))
        go_wp2_with fail
        go_roundw
        case rel => exact ⟨k + 1, by omega, by go_num, hno2.out, hxr⟩
        case measure => simp [intOf]; omega
      · rw [hq] at hib
        have hib2 : ((d.2 : Int) == (m : Int) + 1) = true := hib
        go_wp2_with fail
        refine (rsame_any Ak Al n ck cl d.1 a wr HRK.out (HRD.out.ext hxr) HLK.out HAL.out.symm hlen hatd.out hat.out).mono ?_
        rintro e w1 ⟨rfl, hx1⟩
        cases hs : (d.1 == a)
        · have hno2 := hid (any_step (fun d => d.2 == m + 1 && d.1 == a) st.dead k d HDD.out HNO.out (by simp only [hq, hs, Bool.and_false]))
          go_wp2_with fail
          go_roundw
          case rel => exact ⟨k + 1, by omega, by go_num, hno2.out, hxr.trans hx1⟩
          case measure => simp [intOf]; omega
        · have er : rsr ts most (m + 1) a text st = st := by
            unfold rsr
            rw [if_pos (any_yes _ _ k d HDD.out (by simp only [hq, hs, Bool.and_true]))]
          go_wp2_with fail
          go_ret
          rw [er]
          exact ⟨vals, _, _, _, rfl, HM.out.ext (hxr.trans hx1), Gr.of_ext (hxr.trans hx1) _⟩
    · obtain rfl : k = st.dead.length := by omega
      go_wp2_with fail
      have hany : st.dead.any (fun d => d.2 == m + 1 && d.1 == a) = false := by
        have := HNO.out
        rwa [List.take_of_length_le (Nat.le_refl _)] at this
      have hR : rsr ts most (m + 1) a text st = (let r := rLoop most (fun c s => rsr ts most m (rnxs ts a c) (text ++ [c]) s) (cfrom 32) st
          if r.out.length = st.out.length ∧ (st.out.length : Int) < most then { r with dead := r.dead ++ [(a, m + 1)] } else r) := by
        conv => lhs; unfold rsr
        rw [if_neg (by rw [hany]; simp)]; rfl
      have hFr : (rLoop most (fun c s => rsr ts most m (rnxs ts a c) (text ++ [c]) s) (cfrom 32) st).out.length < 1000000 ∧ (rLoop most (fun c s => rsr ts most m (rnxs ts a c) (text ++ [c]) s) (cfrom 32) st).dead.length < 4000000000000 := by
        have h1 := HO.out
        have h2 := HD.out
        rw [hR] at h1 h2
        revert h1 h2
        generalize rLoop most (fun c s => rsr ts most m (rnxs ts a c) (text ++ [c]) s) (cfrom 32) st = r
        dsimp only
        split
        · intro h1 h2; simp at h1 h2; exact ⟨h1, by omega⟩
        · exact fun h1 h2 => ⟨h1, h2⟩
      have HR := hid hR
      have HFR := hid hFr
      have HXW := hid hxr
      have HMW := hid (HM.out.ext hxr)
      have HNAW := hid (HNA.out.keep (Gr.of_ext (B := B) hxr _))
      clear hany hR hFr HNO hD0 hD1 hk hlt hrdn hrdl HM HNA hxr
      obtain ⟨wo, rfl⟩ : ∃ wo : World, wo = wr := ⟨_, rfl⟩
      go_loopw [6, 17] (fun ovx cv wr => ∃ (ch : Nat) (st1 : Rst) (vals1 : List Value) (nv1 lv1 : Value), 32 ≤ ch ∧ ch ≤ 127 ∧ cv = .int .u8 ch ∧ Gm B D A ts wr st1.out (st1.dead.map (·.1)) (st1.dead.map (·.2)) vals1 nv1 lv1 ovx ∧
          Gr B wo wr (.slice ao st.out.length co) ovx ∧ (∀ d ∈ st1.dead, rokL ts d.1) ∧
          rLoop most (fun c s => rsr ts most m (rnxs ts a c) (text ++ [c]) s) (cfrom ch) st1 = rLoop most (fun c s => rsr ts most m (rnxs ts a c) (text ++ [c]) s) (cfrom 32) st)
        (fun _ cv _ => 127 - (intOf cv).toNat)
      case atStart => exact ⟨32, st, vals, _, _, by omega, by omega, rfl, HMW.out, Gr.refl _ _ _, HG.out, rfl⟩
      case round =>
        obtain ⟨ch, st1, vals1, nv1, lv1, hc32, hc127, rfl, hm1, hr1, hg1, hlp⟩ := hrel
        obtain ⟨ao1, co1, rfl⟩ := own_slice hm1.out
        have HM1 := hid hm1
        have HR1 := hid hr1
        have HG1 := hid hg1
        have HLP := hid hlp
        have HN1 := hid (HNAW.out.keep hr1)
        clear hm1 hr1 hg1 hlp
        by_cases hgo : ch < 127 ∧ (st1.out.length : Int) < most
        · obtain ⟨hc, hmo⟩ := hgo
          have hcd : decide ((ch : Int) < 127) = true := by simp; omega
          have hmd : decide ((st1.out.length : Int) < most) = true := by simpa using hmo
          obtain ⟨Aq, cq, hq, hrq⟩ := HN1.out.rd
          simp only [Value.slice.injEq] at hq
          obtain ⟨rfl, -, rfl⟩ := hq
          have HRQ := hid hrq
          have hcv := conv_one (P := Try.prog) 57 9 5 ch Try.underlying57 Try.underlying5 Try.underlying9
          have hcvd : ∀ W : World, (convert 57 9 (.slice (some ⟨W.heap.size, 0, none⟩) 1 1)).run Try.prog (W.alloc (.cells #[.int .u8 (ch : Int)] 5)).drew = .ok (.string (S [ch])) (W.alloc (.cells #[.int .u8 (ch : Int)] 5)).drew := fun W =>
            conv_string 57 9 5 W.heap.size 1 1 [ch] Try.underlying57 Try.underlying5 Try.underlying9 ((Blk.of_new W 5 (u8s [ch])).drew) rfl
          have hwm : IntKind.i64.wrap ((m : Int) + 1 - 1) = (m : Int) := by rw [show (m : Int) + 1 - 1 = (m : Int) by omega]; exact IntWalk.i64_in _ (by omega)
          have hs1 : (S [ch]).size = 1 := S_size _
          obtain ⟨yc, hyc⟩ : ∃ yc, yc = S [ch] := ⟨_, rfl⟩
          rw [← hyc] at hs1
          simp only [← hyc] at hcv hcvd
          have HYC := hid hyc
          clear hyc
          have hs0 : sx.size ≤ 1000 := by rw [HSX.out, S_size]; omega
          have hlp2 := HLP.out
          rw [cfrom_cons ch hc, rLoop, if_pos hmo] at hlp2
          have hmono := rLoop_mono most (fun c s => rsr ts most m (rnxs ts a c) (text ++ [c]) s) (fun c s => rsr_mono ts most m _ _ _) (cfrom (ch + 1)) (rsr ts most m (rnxs ts a ch) (text ++ [ch]) st1)
          rw [hlp2] at hmono
          have HLP2 := hid hlp2
          have HMO := hid hmono
          clear hlp2 hmono hrq
          go_wp2_with fail
          go_region_with (first
            | (go_at_call 52
               refine (rnext_any A Al ts n c cl a ch _ ?_ ?_ HN.out hlen HF.out.le16 HK.out).mono ?_
               · exact HM1.out.tests.ext (by first | exact (Ext.refl _).drew | exact ((Ext.refl _).alloc _).drew)
               · exact HRQ.out.ext (by first | exact (Ext.refl _).drew | exact ((Ext.refl _).alloc _).drew)
               rintro e w3 ⟨v3, rfl, ho3, hx3⟩
               obtain ⟨Al3, cl3, rfl⟩ := own_slice ho3
               have hxw : Ext wr w3 := by first | exact ((Ext.refl wr).drew).trans hx3 | exact (((Ext.refl wr).alloc _).drew).trans hx3
               have hnx := NodeAt.of_own (ov := .slice ao1 st1.out.length co1) ho3 (by rw [rnxs_len ts a ch HK.out.1]; exact HN.out) (fun g hg => Nat.lt_of_lt_of_le (own_lt HM1.out.out hg) (by first | exact ((Ext.refl wr).drew).size | exact (((Ext.refl wr).alloc _).drew).size))
               try have hcv3 := conv_string (P := Try.prog) 57 9 5 wr.heap.size 1 1 [ch] Try.underlying57 Try.underlying5 Try.underlying9 (((Blk.of_new wr 5 (u8s [ch])).drew).ext hx3) rfl
               try rw [← HYC.out] at hcv3)
            | (go_at_call 41
               refine (ih B D A Al3 ts n c cl3 most _ _ st1 vals1 nv1 lv1 (.slice ao1 st1.out.length co1) (text ++ [ch]) (rnxs ts a ch) _ ?_ ?_ ?_ ?_ ?_ ?_ HN.out (rnxs_ok ts a ch HK.out) HG1.out hlen HF.out ?_ ?_).mono ?_
               · first | rfl | omega
               · omega
               · rw [HSX.out, HYC.out]; apply ByteArray.ext; simp [S]
               · simp; omega
               · first | exact HM1.out.ext hxw | exact HM1.out.ext (hxw.alloc _) | exact HM1.out.ext (hxw.alloc _).drew
               · first | exact hnx | exact hnx.keep (Gr.of_ext (B := B) ((Ext.refl _).alloc _) _) | exact hnx.keep (Gr.of_ext (B := B) ((Ext.refl _).alloc _).drew _)
               · exact Nat.lt_of_le_of_lt HMO.out.1 HFR.out.1
               · exact Nat.lt_of_le_of_lt HMO.out.2 HFR.out.2
               rintro e w5 ⟨vals2, nv2, lv2, ov2, rfl, hm5, hr5⟩
               have hg5 : Gr B wr w5 (.slice ao1 st1.out.length co1) ov2 := by first | exact (Gr.of_ext hxw _).trans hr5 | exact (Gr.of_ext (hxw.alloc _) _).trans hr5 | exact (Gr.of_ext (hxw.alloc _).drew _).trans hr5))
          all_goals
            go_wp2_with fail
            go_roundw
            case rel => exact ⟨ch + 1, _, vals2, nv2, lv2, by omega, by omega, by go_num, hm5, HR1.out.trans hg5, rsr_good ts most m _ _ _ (rnxs_ok ts a ch HK.out) HG1.out, HLP2.out⟩
            case measure => simp [intOf]; omega
        · have hfin : rLoop most (fun c s => rsr ts most m (rnxs ts a c) (text ++ [c]) s) (cfrom 32) st = st1 := by
            rw [← HLP.out]
            by_cases hc : ch < 127
            · rw [cfrom_cons ch hc, rLoop, if_neg (fun h => hgo ⟨hc, h⟩)]
            · rw [cfrom_nil ch (by omega), rLoop]
          have hbd : st1.dead.length + 1 < 5000000000000 := by have := HFR.out.2; rw [hfin] at this; omega
          have hres := HR.out
          rw [hfin] at hres
          dsimp only at hres
          have HRES := hid hres
          have HND := HM1.out.nodes
          have HLV := HM1.out.left
          rw [List.length_map] at HND HLV
          obtain ⟨an1, cn1, rfl⟩ := own_slice HND
          obtain ⟨al1, cl1, rfl⟩ := own_slice HLV
          have HND1 := hid HND
          have HLV1 := hid HLV
          clear hfin hres HND HLV HLP HR
          by_cases heq : st1.out.length = st.out.length ∧ (st.out.length : Int) < most
          · have hcd : decide ((ch : Int) < 127) = false := by
              simp only [decide_eq_false_iff_not]
              exact fun h => hgo ⟨by omega, by omega⟩
            have hb1 : ((st1.out.length : Int) == (st.out.length : Int)) = true := by simp; omega
            have hb2 : decide ((st.out.length : Int) < most) = true := by simpa using heq.2
            have hD0 := HM1.out.blk.cell_some (i := 0) (v := .slice an1 st1.dead.length cn1) rfl
            have hD1 := HM1.out.blk.cell_some (i := 1) (v := .slice al1 st1.dead.length cl1) rfl
            have HEQ := hid heq
            clear heq hgo
            go_wp2_with (first
              | (at_builtin; refine wpList_app _ rfl _ _ 72 rfl B 69 i0 (.slice none 0 0) 24 Try.underlying72 hi hz0 hz1 hz2 rfl _ _ _ rfl (own_ext HND1.out ((Ext.refl wr).alloc _)) ⟨wr.heap.size, 0, none⟩ 1 1 [.slice Al n cl] rfl rfl (news_new _ _ _) (by intro u hu; simp at hu; subst hu; rfl) (by unfold maxLen; omega) (by omega) (by have := HM1.out.hBw; simp; omega) ?_
                 intro v6 w6 ho6 hg6 ha6 _ _
                 obtain ⟨g6, c6, rfl⟩ := own_form ho6 (by omega)
                 have hm6 := HM1.out.ext ((Ext.refl wr).alloc (.cells #[.slice Al n cl] 69))
                 have hb6 := hm6.blk.grown hg6 (fun e => own_neB hm6.nodes hm6.blk (by decide) e.symm)
                 have hc60 := hb6.cell_some (i := 0) (v := .slice an1 st1.dead.length cn1) rfl
                 have hc61 := hb6.cell_some (i := 1) (v := .slice al1 st1.dead.length cl1) rfl
                 have hf60 := hb6.frozen 0
                 obtain ⟨r6, f6⟩ := hm6.node a (.slice Al n cl) (HN1.out.keep (Gr.of_ext (B := B) ((Ext.refl wr).alloc _) _)) (by have := HND1.out.1; rw [List.length_map]; omega) hg6 (by rw [List.length_map]; exact ho6)
                 have HR6 := hid r6
                 have HF6 := hid f6
                 have ho61 := r6.left
                 rw [List.length_map] at ho61
                 have HO61 := hid ho61
                 clear r6 f6 ho61 ho6 hm6 hb6)
              | (at_builtin; refine wpList_app _ rfl _ _ 73 rfl B 3 j0 (.int .i64 0) 8 Try.underlying73 hj hj0 hj1 hj2 rfl _ _ _ rfl (own_ext HO61.out ((Ext.refl _).alloc _)) ⟨_, 0, none⟩ 1 1 [.int .i64 ((m : Int) + 1)] rfl rfl (news_set _ _ _ _ _) (by intro u hu; simp at hu; subst hu; rfl) (by unfold maxLen; omega) (by omega) (by have := HR6.out.hBw; simp at this ⊢; omega) ?_
                 intro v7 w7 ho7 hg7 ha7 _ _
                 obtain ⟨g7, c7, rfl⟩ := own_form ho7 (by omega)
                 have hm7 := HR6.out.ext ((Ext.refl _).alloc (.cells #[.int .i64 ((m : Int) + 1)] 3))
                 have hb7 := hm7.blk.grown hg7 (fun e => own_neB hm7.left hm7.blk (by decide) e.symm)
                 have hc70 := hb7.cell_some (i := 0) rfl
                 have hc71 := hb7.cell_some (i := 1) (v := .slice al1 st1.dead.length cl1) rfl
                 have hf70 := hb7.frozen 1
                 obtain ⟨r7, f7⟩ := hm7.len (m + 1) hg7 (by rw [List.length_map]; exact ho7)
                 have HR7 := hid r7
                 have HF7 := hid f7
                 clear r7 f7 ho7 hm7 hb7))
            go_ret
            rw [HRES.out, if_pos HEQ.out]
            simp only [List.map_append, List.map_cons, List.map_nil]
            exact ⟨_, _, _, _, rfl, HR7.out, ((Gr.of_ext HXW.out _).trans (HR1.out.trans ((Gr.of_ext ((Ext.refl wr).alloc _) _).trans HF6.out))).trans ((Gr.of_ext ((Ext.refl _).alloc _) _).trans HF7.out)⟩
          · have hcase : (decide ((ch : Int) < 127) = false ∨ decide ((ch : Int) < 127) = true ∧ decide ((st1.out.length : Int) < most) = false) := by
              by_cases hc : ch < 127
              · right
                refine ⟨by simp; omega, ?_⟩
                simp only [decide_eq_false_iff_not]
                exact fun h => hgo ⟨hc, h⟩
              · left; simp; omega
            have hcase2 : (((st1.out.length : Int) == (st.out.length : Int)) = false ∨ ((st1.out.length : Int) == (st.out.length : Int)) = true ∧ decide ((st.out.length : Int) < most) = false) := by
              by_cases hc : st1.out.length = st.out.length
              · right
                refine ⟨by simp; omega, ?_⟩
                simp only [decide_eq_false_iff_not]
                exact fun h => heq ⟨hc, h⟩
              · left; rw [beq_eq_false_iff_ne]; omega
            have HEQ := hid heq
            clear hgo heq
            rcases hcase with hcd | ⟨hcd, hmd⟩ <;> rcases hcase2 with hb1 | ⟨hb1, hb2⟩
            all_goals
              go_wp2_with fail
              go_ret
              rw [HRES.out, if_neg HEQ.out]
              exact ⟨_, _, _, _, rfl, HM1.out, (Gr.of_ext HXW.out _).trans HR1.out⟩

end Go.Proofs.Ytbniemkllhhnfaa
