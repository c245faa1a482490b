/-
  The walk over the program's automaton.
-/
import Derived.Test.YtbniemkllhhnfaaPAS
import Derived.Deep.CutRange
namespace Go.Proofs.Ytbniemkllhhnfaa
open Go.RowKit
set_option linter.unusedVariables false
set_option linter.unusedSimpArgs false
set_option maxHeartbeats 4000000
set_option maxRecDepth 100000

theorem info_st : (Try.prog.info? 55).map (fun i => (i.zero, i.size, i.bytes)) = some (some (.int .u32 0), 1, 4) := by kernel_rfl
theorem info_bl : (Try.prog.info? 4).map (fun i => (i.zero, i.size, i.bytes)) = some (some (.bool false), 1, 1) := by kernel_rfl
theorem info_pe : (Try.prog.info? 79).map (fun i => (i.zero, i.size, i.bytes)) = some (some (.agg #[.int .u8 0, .int .u8 0, .int .i64 0]), 3, 16) := by kernel_rfl
theorem info_pes : (Try.prog.info? 77).map (fun i => (i.zero, i.size, i.bytes)) = some (some (.slice none 0 0), 1, 24) := by kernel_rfl
/-- what Automaton answers -/
def AutRes (kd : Int) (ng : Bool) (pl : List Nat) (e : Ending) (w' : World) : Prop :=
  (∃ (A B : Option Addr) (n cA cB : Nat) (sts : List Nat) (Es : List (List Ed)), e = .returned (.tuple #[.agg #[.slice A n cA, .slice B n cB], .int .i64 0]) ∧ 1 ≤ n ∧ n ≤ 4096 ∧ sts.length = n ∧ Aut kd pl sts Es ∧ AccAt w' A (sts.map fun s => okOf kd pl.length s != ng) ∧ EdsAt w' B Es) ∨
    ∃ (sts : List Nat), e = .returned (.tuple #[.agg #[.slice none 0 0, .slice none 0 0], .int .i64 3]) ∧ sts.Nodup ∧ (∀ s ∈ sts, Reach kd pl s) ∧ 100 < sts.length
theorem AutRes.ok {kd : Int} {ng : Bool} {pl : List Nat} {w' : World} {A B : Option Addr} {n cA cB : Nat} {sts : List Nat} {Es : List (List Ed)} (h1 : 1 ≤ n) (h2 : n ≤ 4096) (h3 : sts.length = n) (h4 : Aut kd pl sts Es) (h5 : AccAt w' A (sts.map fun s => okOf kd pl.length s != ng)) (h6 : EdsAt w' B Es) : AutRes kd ng pl (.returned (.tuple #[.agg #[.slice A n cA, .slice B n cB], .int .i64 0])) w' :=
  .inl ⟨A, B, n, cA, cB, sts, Es, rfl, h1, h2, h3, h4, h5, h6⟩
theorem AutRes.no {kd : Int} {ng : Bool} {pl : List Nat} {w' : World} {sts : List Nat} (h1 : sts.Nodup) (h2 : ∀ s ∈ sts, Reach kd pl s) (h3 : 100 < sts.length) : AutRes kd ng pl (.returned (.tuple #[.agg #[.slice none 0 0, .slice none 0 0], .int .i64 3])) w' :=
  .inr ⟨sts, rfl, h1, h2, h3⟩
theorem automaton_any (v kd : Int) (ng : Bool) (p : ByteArray) (w : World) (hp : p.size ≤ 16) :
    Calls Try.prog 23 #[.agg #[.int .i64 v, .int .i64 kd, .bool ng, .string p]] w fun e w' => AutRes kd ng (N p) e w' ∧ Ext w w' := by
  obtain ⟨iu, hiu, hu0, hu1, hu2⟩ := ninfo_parts info_st
  obtain ⟨ib, hib, hl0, hl1, hl2'⟩ := ninfo_parts info_bl
  obtain ⟨ie, hie, he0, he1, he2⟩ := ninfo_parts info_pe
  obtain ⟨ip, hip, hp0, hp1, hp2⟩ := ninfo_parts info_pes
  go_enter Try.func23, Try.ntmps23
  go_upto_region 1 with fail
  have hx0 : Ext w ((w.alloc (.cells #[.int .i64 v, .int .i64 kd, .bool ng, .string p] 23)).alloc (.cells #[.slice none 0 0, .slice none 0 0] 41)) := ((Ext.refl w).alloc _).alloc _
  have HX0 := hid hx0
  have HB0 : Hid (Blk ((w.alloc (.cells #[.int .i64 v, .int .i64 kd, .bool ng, .string p] 23)).alloc (.cells #[.slice none 0 0, .slice none 0 0] 41)) w.heap.size 23 [.int .i64 v, .int .i64 kd, .bool ng, .string p]) := (Blk.of_new w 23 [.int .i64 v, .int .i64 kd, .bool ng, .string p]).ext ((Ext.refl _).alloc _)
  have HZ0 : Hid (Blk ((w.alloc (.cells #[.int .i64 v, .int .i64 kd, .bool ng, .string p] 23)).alloc (.cells #[.slice none 0 0, .slice none 0 0] 41)) (w.heap.size + 1) 41 [.slice none 0 0, .slice none 0 0]) := by
    unfold Hid
    have := Blk.of_new (w.alloc (.cells #[.int .i64 v, .int .i64 kd, .bool ng, .string p] 23)) 41 [.slice none 0 0, .slice none 0 0]
    simpa using this
  clear hx0
  generalize (w.alloc (.cells #[.int .i64 v, .int .i64 kd, .bool ng, .string p] 23)).alloc (.cells #[.slice none 0 0, .slice none 0 0] 41) = W1 at *
  obtain ⟨g, hg⟩ : ∃ g, w.heap.size = g := ⟨_, rfl⟩
  have HG := hid hg
  rw [hg] at HB0 HZ0 ⊢
  clear hg
  obtain ⟨b0, b1, b2, b3⟩ : W1.cell? ⟨g, 0, none⟩ = some (.int .i64 v) ∧ W1.cell? ⟨g, 1, none⟩ = some (.int .i64 kd) ∧ W1.cell? ⟨g, 2, none⟩ = some (.bool ng) ∧ W1.cell? ⟨g, 3, none⟩ = some (.string p) := ⟨HB0.out.cell_some rfl, HB0.out.cell_some rfl, HB0.out.cell_some rfl, HB0.out.cell_some rfl⟩
  have HBg := hid (fun W => begin_any v kd ng p W hp)
  go_upto_region 2 with (go_at_call 33; (with_reducible refine (HBg.out _).mono ?_); rintro _ w2 ⟨rfl, hx2⟩)
  have hle2 : g + 2 ≤ w2.heap.size := (HZ0.out.ext hx2).lt
  have hx3 := hx2.alloc (.cells #[.int .u32 (beg kd (N p) : Nat)] 55)
  have HX2 := hid (HX0.out.trans hx3)
  have HB2 := hid (HB0.out.ext hx3)
  have HZ2 := hid (HZ0.out.ext hx3)
  have HL2 : Hid ((w2.alloc (.cells #[.int .u32 (beg kd (N p) : Nat)] 55)).ownsRow (g + 2) 55 1 (.slice (some ⟨w2.heap.size, 0, none⟩) 1 1) 1 (natV [beg kd (N p)])) := own_lit w2 _ _ _ hle2 (by simp [maxLen])
  have hm2 : (w2.alloc (.cells #[.int .u32 (beg kd (N p) : Nat)] 55)).heap.size = w2.heap.size + 1 := by simp
  have c0 : (w2.alloc (.cells #[.int .u32 (beg kd (N p) : Nat)] 55)).cell? ⟨w2.heap.size, 0, none⟩ = some (.int .u32 (beg kd (N p) : Nat)) := by simp [World.cell?_alloc_new]
  have hb32 : beg kd (N p) < 4294967296 := by
    have := beg_ok kd (N p) (by rw [N_len]; exact hp)
    have := okSt_lt kd (N p).length _ (by rw [N_len]; exact hp) this
    omega
  clear hx2 hx3 b0 b1 b2 b3 HX0 HB0 HZ0
  generalize w2.alloc (.cells #[.int .u32 (beg kd (N p) : Nat)] 55) = W2 at *
  generalize hq0 : w2.heap.size = q0 at *
  have hmade := NumMap.made W2 Try.prog 55 3
  rw [hm2] at hmade
  have HMd := hid hmade
  have c0' := ((Ext.refl W2).alloc (.map #[] 0)).keep c0
  have hmm := @run_makeMap Try.prog
  go_upto_region 3 with (refine wpList_nins (M := q0 + 1) (n := 0) (sts := []) rfl _ _ _ _ rfl Try.underlying55 Try.underlying76 Try.underlying3 rfl HMd.out (by decide) (beg kd (N p)) hb32 (by decide) (by simp) rfl rfl ?_; intro w3 hm3 hg3)
  have hs3 := hg3.size
  have hs2 : (W2.alloc (.map #[] 0)).heap.size = q0 + 2 := by simp [hm2]
  have HAM : Hid (AM g (q0 + 1) w3.heap.size [.int .i64 v, .int .i64 kd, .bool ng, .string p] (w3.alloc (.cells #[.slice none 0 0, .slice none 0 0] 41)) (.slice (some ⟨q0, 0, none⟩) 1 1) (.slice none 0 0) (.slice none 0 0) (.slice none 0 0) 1 [beg kd (N p)] [beg kd (N p)] [] [] []) := by
    have hxa := (Ext.refl W2).alloc (.map #[] 0)
    have hxb := (Ext.refl w3).alloc (.cells #[.slice none 0 0, .slice none 0 0] 41)
    have hn : ∀ q, (Value.slice none 0 0).ownBlock ≠ some q := fun q => by simp [Value.ownBlock]
    refine ⟨⟨by omega, by omega⟩, ((HB2.out.ext hxa).grown hg3 (by simp; omega)).ext hxb, ((HZ2.out.ext hxa).grown hg3 (by simp; omega)).ext hxb, Blk.of_new w3 _ _, hm3.ext hxb, nOwn_ext (nOwn_grown (nOwn_ext HL2.out hxa) hg3 (fun q hq e => by simp [Value.ownBlock] at hq; have := Option.some.inj e; omega)) hxb, World.ownsRow_nil _ _ _ _, ⟨[], World.ownsRow_nil _ _ _ _, by simp⟩, World.ownsRow_nil _ _ _ _, ⟨by simp [Value.ownBlock], by simp [Value.ownBlock]; omega⟩, fun q _ => ⟨hn q, hn q, hn q⟩, fun q hq => absurd hq (hn q), fun q hq => absurd hq (hn q)⟩
  have HX4 : Hid (Ext w (w3.alloc (.cells #[.slice none 0 0, .slice none 0 0] 41))) := (Ext.grown (HX2.out.alloc (.map #[] 0)) hg3 (fun q hq => by have := HG.out; have := Option.some.inj hq; omega)).alloc _
  clear hm3 hg3 hmade HMd c0 c0' HB2 HZ2 HL2 HX2
  go_upto_region 5 with fail
  generalize w3.alloc (.cells #[.slice none 0 0, .slice none 0 0] 41) = W3 at *
  generalize w3.heap.size = gd at *
  obtain ⟨pl, hpl⟩ : ∃ pl, N p = pl := ⟨_, rfl⟩
  have hpl16 : pl.length ≤ 16 := by rw [← hpl, N_len]; exact hp
  rw [hpl] at HAM ⊢
  have HPl := hid hpl
  clear hpl
  go_loopw [3, 4, 7] (fun er sv iv wr => ∃ (i : Nat) (va ve : Value) (sts : List Nat) (acc : List Bool) (Es : List (List Ed)), iv = .int .i64 i ∧ er = .int .i64 0 ∧ sts.length ≤ 4096 ∧ AM g (q0 + 1) gd [.int .i64 v, .int .i64 kd, .bool ng, .string p] wr sv (.slice none 0 0) va ve sts.length sts sts acc Es [] ∧ AI kd ng pl sts acc Es i ∧ Ext w wr) (fun _ _ i _ => 5000 - (intOf i).toNat)
  case atStart => exact ⟨0, _, _, [beg kd pl], [], [], rfl, rfl, by simp, HAM.out, AI.start kd ng pl, HX4.out⟩
  case round =>
    obtain ⟨i, va, ve, sts, acc, Es, rfl, rfl, hl, ham, hai, hxr⟩ := hrel
    have HM := hid ham
    have HI := hid hai
    have HX := hid hxr
    obtain ⟨A4, c4, rfl⟩ := nOwn_slice ham.st
    have hil := hai.le
    clear ham hai hxr HAM HX4
    obtain ⟨m, hm⟩ : ∃ m, sts.length = m := ⟨_, rfl⟩
    have HMl := hid hm
    rw [hm] at hil hl HM ⊢
    clear hm
    by_cases hlt : i < m
    · obtain ⟨si, hsi⟩ : ∃ s, sts[i]? = some s := ⟨_, List.getElem?_eq_getElem (by rw [HMl.out]; exact hlt)⟩
      have HSi := hid hsi
      clear hsi
      go_upto_region 9 with fail
      go_loopw [3, 4, 8, 9] (fun er sv ev cv wr => ∃ (c : Nat) (st : List Nat) (E : List Ed), 32 ≤ c ∧ c ≤ 127 ∧ er = .int .i64 0 ∧ cv = .int .i32 c ∧ st.length ≤ 4096 ∧ E.length + 32 ≤ c ∧ AM g (q0 + 1) gd [.int .i64 v, .int .i64 kd, .bool ng, .string p] wr sv ev va ve st.length st st acc Es E ∧ AI kd ng pl st acc Es i ∧ st[i]? = some si ∧ Cov st (nx kd pl si) E c ∧ Ext w wr) (fun _ _ _ c _ => 1000 - (intOf c).toNat)
      case atStart => exact ⟨32, sts, [], by decide, by decide, rfl, rfl, by rw [HMl.out]; exact hl, by simp, by rw [HMl.out]; exact HM.out, HI.out, HSi.out, Cov.nil _ _, HX.out⟩
      case round =>
        obtain ⟨c, st, E, hc1, hc2, rfl, rfl, hl2, hel, ham, hai, hsi2, hcov, hxr⟩ := hrel
        have HM2 := hid ham
        have HI2 := hid hai
        have HX2 := hid hxr
        have HSi2 := hid hsi2
        have HCv := hid hcov
        obtain ⟨A4, c4, rfl⟩ := nOwn_slice ham.st
        clear ham hai hxr hsi2 hcov HM HI HX HMl HSi
        obtain ⟨m, hm⟩ : ∃ m, st.length = m := ⟨_, rfl⟩
        have HMl := hid hm
        rw [hm] at hl2 HM2 ⊢
        clear hm
        by_cases hdc : c < 127
        · obtain ⟨b0, b1, b2, b3⟩ : wr.cell? ⟨g, 0, none⟩ = some (.int .i64 v) ∧ wr.cell? ⟨g, 1, none⟩ = some (.int .i64 kd) ∧ wr.cell? ⟨g, 2, none⟩ = some (.bool ng) ∧ wr.cell? ⟨g, 3, none⟩ = some (.string p) := ⟨HM2.out.test.cell_some rfl, HM2.out.test.cell_some rfl, HM2.out.test.cell_some rfl, HM2.out.test.cell_some rfl⟩
          obtain ⟨ga, ca, e0, hcc⟩ := nOwn_cell HM2.out.st (natV_get HSi2.out)
          injection e0 with e0 e2 e1
          subst e0 e1
          clear e2
          have i0 : (0 : Int) ≤ (i : Int) := by omega
          have i1 : (i : Int) < (m : Int) := by
            have := (List.getElem?_eq_some_iff.1 HSi2.out).1
            rw [HMl.out] at this
            omega
          have hok := (HI2.out.reach si (List.mem_of_getElem? HSi2.out)).ok hpl16
          have HNc := hid (fun W => next_any v kd ng p si c W hp (by rw [HPl.out]; exact hok))
          rw [HPl.out] at HNc
          go_upto_region 11 with fail
          have hwc : IntKind.u8.wrap (c : Int) = (c : Int) := by rw [show IntKind.u8.wrap (c : Int) = (c : Int) % 256 from rfl]; omega
          go_cut [10] from 28 to 90 (fun s wx => s = .int .u32 (nx kd pl si c : Nat) ∧ Ext wr wx)
          case first =>
            first | go_region_with (go_at_call 34; (with_reducible refine (HNc.out _).mono ?_); rintro _ w4 ⟨rfl, hx4⟩) | fail
            all_goals
              have HX4 : Hid (Ext wr w4) := (Ext.refl wr).drew.trans hx4
              clear hx4 b0 b1 b2 b3 hcc
              go_wp2_with fail
              go_meet
              exact ⟨rfl, HX4.out⟩
          case rest =>
            obtain ⟨rfl, hxc⟩ := hcut
            have HM3 := hid (HM2.out.ext hxc)
            have HX3 := hid (HX2.out.trans hxc)
            clear hxc HM2 HX2 HNc b0 b1 b2 b3 hcc
            obtain ⟨s, hs⟩ : ∃ s, nx kd pl si c = s := ⟨_, rfl⟩
            have HR : Hid (Reach kd pl s) := by
              rw [← hs]
              exact .next si c (HI2.out.reach si (List.mem_of_getElem? HSi2.out)) hc1 (by omega)
            have HS := hid hs
            rw [hs]
            clear hs
            have hs32 : s < 4294967296 := by
              have := okSt_lt kd pl.length s hpl16 (HR.out.ok hpl16)
              omega
            go_upto_region 13 with (at_lookup; refine wpList_nlook (M := q0 + 1) (n := m) (sts := st) rfl _ _ _ rfl Try.underlying55 Try.underlying76 Try.underlying3 rfl rfl HM3.out.mp s hs32 rfl ?_; intro j hj)
            have hlm : 0 < m + 1 := by omega
            go_upto_if 47 with fail
            go_cut [3, 4, 11, 12] from 28 to 90 (fun er sv jv dv wx => ∃ (st2 : List Nat) (k : Nat), er = .int .i64 0 ∧ jv = .int .i64 k ∧ st2[k]? = some s ∧ st2.length ≤ 4096 ∧ AM g (q0 + 1) gd [.int .i64 v, .int .i64 kd, .bool ng, .string p] wx sv u8 va ve st2.length st2 st2 acc Es E ∧ AI kd ng pl st2 acc Es i ∧ st2[i]? = some si ∧ Cov st2 (nx kd pl si) E c ∧ Ext w wx)
            case first =>
              by_cases hin : s ∈ st
              · obtain ⟨k, hk⟩ := List.mem_iff_getElem?.1 hin
                obtain rfl := hj k hk
                have hdin : decide (s ∈ st) = true := decide_eq_true hin
                have HK := hid hk
                clear hk hj
                rw [hdin]
                clear hin hdin
                go_wp2_with fail
                go_meet
                exact ⟨st, k, rfl, rfl, HK.out, by rw [HMl.out]; exact hl2, by rw [HMl.out]; exact HM3.out, HI2.out, HSi2.out, HCv.out, HX3.out⟩
              · have hdin : decide (s ∈ st) = false := decide_eq_false hin
                have HIn := hid hin
                clear hj
                rw [hdin]
                clear hin hdin
                by_cases hfull : m = 4096
                · subst hfull
                  have z0 := HM3.out.res.cell_some (i := 0) rfl
                  have z1 := HM3.out.res.cell_some (i := 1) rfl
                  have f0 := HM3.out.res.frozen 0
                  have f1 := HM3.out.res.frozen 1
                  have HZ := hid ((HM3.out.res.set 0 (.slice none 0 0)).set 1 (.slice none 0 0))
                  have HXe : Hid (Ext w ((wc.setCell ⟨g + 1, 0, none⟩ (.slice none 0 0)).setCell ⟨g + 1, 1, none⟩ (.slice none 0 0))) := (HX3.out.setCell (by have := HG.out; show w.heap.size ≤ g + 1; omega) _).setCell (by have := HG.out; show w.heap.size ≤ g + 1; omega) _
                  go_wp2_with fail
                  have q0' := HZ.out.cell_some (i := 0) rfl
                  have q1' := HZ.out.cell_some (i := 1) rfl
                  exact bodyPost_ret (v := .tuple #[.agg #[.slice none 0 0, .slice none 0 0], .int .i64 3]) (by simp [results, Try.results23, go_sem, q0', q1']) rfl ⟨by rw [HPl.out]; exact AutRes.no HI2.out.nodup HI2.out.reach (by rw [HMl.out]; decide), HXe.out⟩
                · have hml : m < 4096 := by omega
                  go_upto_region 18 with (at_mapUpdate; refine wpList_nput (M := q0 + 1) (n := m) (sts := st) rfl _ _ _ _ rfl Try.underlying55 Try.underlying76 Try.underlying3 rfl HM3.out.mp (by unfold maxLen; omega) s hs32 (by rw [HMl.out]; omega) HIn.out rfl (by rw [HMl.out]; rfl) ?_; intro w4 hm4 hg4)
                  have HM4 := hid (HM3.out.map hg4 hm4)
                  have HX4 : Hid (Ext w w4) := Ext.grown HX3.out hg4 (fun q hq => by have := HG.out; have := Option.some.inj hq; omega)
                  clear hm4 hg4
                  have HM5 := hid (HM4.out.ext ((Ext.refl w4).alloc (.cells #[.int .u32 (s : Nat)] 55)))
                  have HS5 : Hid (g + 2 ≤ (w4.alloc (.cells #[.int .u32 (s : Nat)] 55)).heap.size) := HM5.out.res.lt
                  go_wp2_with (at_builtin; refine wpList_append_any _ rfl (.tmp 57) (.tmp 59) 67 rfl (g + 2) 55 iu _ 1 4 Try.underlying67 hiu hu0 hu1 hu2 rfl (by decide) _ m _ rfl (by have := HM5.out.st; rw [HMl.out] at this; exact this) _ _ 1 1 [.int .u32 (s : Nat)] rfl (nReads1 _ _ _ _ rfl) (by simp [Value.oneCell']) (by unfold maxLen; omega) (by omega) HS5.out ?_; intro v7 w7 hown7 hgr7 hblk7; obtain ⟨A8, c8, rfl⟩ := nOwn_slice hown7)
                  go_meet
                  have hlen : (st ++ [s]).length = m + 1 := by rw [List.length_append, HMl.out]; rfl
                  have hki : (st ++ [s])[m]? = some s := by rw [List.getElem?_append_right (by rw [HMl.out]; exact Nat.le_refl _), HMl.out, Nat.sub_self]; rfl
                  have hsi3 : (st ++ [s])[i]? = some si := by rw [List.getElem?_append_left (List.getElem?_eq_some_iff.1 HSi2.out).1]; exact HSi2.out
                  have ham := HM5.out.grow4 hgr7 hblk7 (by rw [HMl.out]; exact hown7)
                  exact ⟨st ++ [s], m, rfl, rfl, hki, by rw [hlen]; omega, by rw [hlen]; exact ham, HI2.out.push HIn.out HR.out, hsi3, HCv.out.grow [s], Ext.grown (HX4.out.alloc _) hgr7 (fun q hq => by have := own_ge HM5.out.st hq; have := HG.out; omega)⟩
            case rest =>
              obtain ⟨st2, k, rfl, rfl, hk, hl4, ham, hai, hsi4, hcv, hxc⟩ := hcut
              have HM6 := hid ham
              have HI6 := hid hai
              have HSi6 := hid hsi4
              have HC6 := hid hcv
              have HX6 := hid hxc
              have HK6 : Hid (st2[k]? = some (nx kd pl si c)) := by
                unfold Hid
                rw [HS.out]
                exact hk
              have hkl : k < 4096 := by
                have := (List.getElem?_eq_some_iff.1 hk).1
                omega
              clear ham hai hsi4 hcv hxc hk HM3 HX3 HI2 HSi2 HMl HCv hj
              obtain ⟨m2, hm2'⟩ : ∃ m, st2.length = m := ⟨_, rfl⟩
              have HMm := hid hm2'
              rw [hm2'] at hl4 HM6
              clear hm2'
              obtain ⟨A8, c8, rfl⟩ := nOwn_slice HM6.out.cur
              have hsz6 : Hid (gd < wc.heap.size) := HM6.out.dfa.lt
              have hE9 : E.length < 100 := by omega
              have hbk : ∀ (v9 : Value) (w9 : World), w9.ownsRow (gd + 1) 79 3 v9 (E.length + 1) (E.flatMap edC ++ [.int .u8 (c : Nat), .int .u8 (c : Nat), .int .i64 (k : Nat)]) → w9.ownsRow (gd + 1) 79 3 v9 (E ++ [(⟨c, c, k⟩ : Ed)]).length ((E ++ [(⟨c, c, k⟩ : Ed)]).flatMap edC) := fun v9 w9 h9 => by
                rw [List.length_append, List.length_singleton, ← edC_put]
                exact h9
              have HBk := hid hbk
              clear hbk
              have HMe := hid (HM6.out.ext ((Ext.refl wc).alloc (.cells #[.int .u8 (c : Nat), .int .u8 (c : Nat), .int .i64 (k : Nat)] 79)))
              rcases List.eq_nil_or_concat E with rfl | ⟨E0, e, rfl⟩
              · rw [show ([] : List Ed).length = 0 from rfl] at HM6 HMe HBk ⊢
                have hown6 := HMe.out.cur
                go_wp2_with (at_builtin; refine wpList_append_any _ rfl (.tmp 82) (.tmp 89) 77 rfl (gd + 1) 79 ie _ 3 16 Try.underlying77 hie he0 he1 he2 rfl (by decide) _ 0 _ rfl hown6 _ _ 1 1 [.int .u8 (c : Nat), .int .u8 (c : Nat), .int .i64 (k : Nat)] rfl (nReads3 _ _ _ _ _ _ (by simp)) (by simp [Value.oneCell']) (by unfold maxLen; omega) (by omega) (by have := hsz6.out; simp; omega) ?_; intro v7 w7 hown7 hgr7 hblk7; obtain ⟨A9, c9, rfl⟩ := nOwn_slice hown7)
                have ham := HMe.out.grow8 hgr7 hblk7 (HBk.out _ _ hown7)
                exact ⟨⟨c + 1, st2, [] ++ [(⟨c, c, k⟩ : Ed)], by omega, by omega, rfl, by go_num, by rw [HMm.out]; exact hl4, by simp; omega, by rw [HMm.out]; exact ham, HI6.out, HSi6.out, HC6.out.put HK6.out, Ext.grown (HX6.out.alloc _) hgr7 (fun q hq => by have := own_ge HMe.out.cur hq; have := HG.out; have := HM6.out.lt; omega)⟩, by simp [intOf]; omega⟩
              · rw [List.concat_eq_append] at *
                have hle : (E0 ++ [e]).length = E0.length + 1 := by rw [List.length_append]; rfl
                have HLe := hid hle
                rw [hle] at HM6 HMe HBk hel hE9 ⊢
                clear hle
                obtain ⟨g8, c9, e0, hto⟩ := nOwn_cell HM6.out.cur (edC_to E0 e)
                injection e0 with e0 e2 e1
                subst e0 e1
                clear e2
                have hcur : wc.ownsRow (gd + 1) 79 3 (.slice (some ⟨g8, 0, none⟩) (E0.length + 1) c8) (E0.length + 1) ((E0 ++ [e]).flatMap edC) := by
                  have := HM6.out.cur
                  rw [HLe.out] at this
                  exact this
                have HCur := hid hcur
                by_cases htk : e.to = k
                · have hft := nOwn_frozen hcur (E0.length * 3 + 1)
                  obtain ⟨g9, c9, e0, hth⟩ := nOwn_cell hcur (edC_hi E0 e)
                  injection e0 with e0 e2 e1
                  simp only [Option.some.injEq, Addr.mk.injEq, and_true] at e0
                  subst e0 e1
                  clear e2 hcur
                  have htd : decide ((e.to : Int) = (k : Int)) = true := decide_eq_true (by omega)
                  have hw8 : (wc.setCell ⟨g8, E0.length * 3 + 1, none⟩ (.int .u8 (c : Nat))).ownsRow (gd + 1) 79 3 (.slice (some ⟨g8, 0, none⟩) (E0.length + 1) c8) (E0 ++ [(⟨e.lo, c, e.to⟩ : Ed)]).length ((E0 ++ [(⟨e.lo, c, e.to⟩ : Ed)]).flatMap edC) := by
                    have := nOwn_set HCur.out (j := E0.length * 3 + 1) (by rw [edC_len, HLe.out]; omega) (.int .u8 (c : Nat))
                    rw [edC_wide] at this
                    rw [List.length_append]
                    exact this
                  have HM8 := hid (HM6.out.grow8 (grown_set wc ⟨g8, E0.length * 3 + 1, none⟩ (.int .u8 (c : Nat))) (.inl rfl) hw8)
                  have HX8 : Hid (Ext w (wc.setCell ⟨g8, E0.length * 3 + 1, none⟩ (.int .u8 (c : Nat)))) := HX6.out.setCell (by have := HCur.out.lt g8 rfl; have := HG.out; have := HM6.out.lt; show w.heap.size ≤ g8; omega) _
                  have HC8 := hid (HC6.out.wide (by rw [htk]; exact HK6.out))
                  clear hw8
                  go_wp2_with fail
                  exact ⟨⟨c + 1, st2, E0 ++ [(⟨e.lo, c, e.to⟩ : Ed)], by omega, by omega, rfl, by go_num, by rw [HMm.out]; exact hl4, by rw [List.length_append, List.length_singleton]; omega, by rw [HMm.out]; exact HM8.out, HI6.out, HSi6.out, HC8.out, HX8.out⟩, by simp [intOf]; omega⟩
                · have htd : decide ((e.to : Int) = (k : Int)) = false := decide_eq_false (by omega)
                  have hown6 := nOwn_ext hcur ((Ext.refl wc).alloc (.cells #[.int .u8 (c : Nat), .int .u8 (c : Nat), .int .i64 (k : Nat)] 79))
                  clear hcur
                  go_wp2_with (at_builtin; refine wpList_append_any _ rfl (.tmp 82) (.tmp 89) 77 rfl (gd + 1) 79 ie _ 3 16 Try.underlying77 hie he0 he1 he2 rfl (by decide) _ (E0.length + 1) _ rfl hown6 _ _ 1 1 [.int .u8 (c : Nat), .int .u8 (c : Nat), .int .i64 (k : Nat)] rfl (nReads3 _ _ _ _ _ _ (by simp)) (by simp [Value.oneCell']) (by unfold maxLen; omega) (by omega) (by have := hsz6.out; simp; omega) ?_; intro v7 w7 hown7 hgr7 hblk7; obtain ⟨A9, c9, rfl⟩ := nOwn_slice hown7)
                  have ham := HMe.out.grow8 hgr7 hblk7 (HBk.out _ _ hown7)
                  exact ⟨⟨c + 1, st2, (E0 ++ [e]) ++ [(⟨c, c, k⟩ : Ed)], by omega, by omega, rfl, by go_num, by rw [HMm.out]; exact hl4, by rw [List.length_append, List.length_singleton, HLe.out]; omega, by rw [HMm.out]; exact ham, HI6.out, HSi6.out, HC6.out.put HK6.out, Ext.grown (HX6.out.alloc _) hgr7 (fun q hq => by have := own_ge HMe.out.cur hq; have := HG.out; have := HM6.out.lt; omega)⟩, by simp [intOf]; omega⟩
        · obtain rfl : c = 127 := by omega
          have hok := (HI2.out.reach si (List.mem_of_getElem? HSi2.out)).ok hpl16
          have hlt9 := okSt_lt kd pl.length si hpl16 hok
          have HPs : Hid (∀ W, Calls Try.prog 35 #[.agg #[.int .i64 v, .int .i64 kd, .bool ng, .string p], .int .u32 (si : Nat)] W fun e w' => e = .returned (.bool (okOf kd pl.length si != ng)) ∧ Ext W w') := by
            intro W
            have := passed_any v kd ng p si W hp (by omega)
            rwa [← N_len p, HPl.out] at this
          obtain ⟨Aa, cA, rfl⟩ := nOwn_slice HM2.out.ac
          obtain ⟨Ae, ce, hve, hEd⟩ := HM2.out.ed.at_
          subst hve
          obtain ⟨A8, c8, rfl⟩ := nOwn_slice HM2.out.cur
          obtain ⟨b0, b1, b2, b3⟩ : wr.cell? ⟨g, 0, none⟩ = some (.int .i64 v) ∧ wr.cell? ⟨g, 1, none⟩ = some (.int .i64 kd) ∧ wr.cell? ⟨g, 2, none⟩ = some (.bool ng) ∧ wr.cell? ⟨g, 3, none⟩ = some (.string p) := ⟨HM2.out.test.cell_some rfl, HM2.out.test.cell_some rfl, HM2.out.test.cell_some rfl, HM2.out.test.cell_some rfl⟩
          obtain ⟨ga, ca, e0, hcc⟩ := nOwn_cell HM2.out.st (natV_get HSi2.out)
          injection e0 with e0 e2 e1
          subst e0 e1
          clear e2 hEd
          have i0 : (0 : Int) ≤ (i : Int) := by omega
          have i1n : i < m := by
            have := (List.getElem?_eq_some_iff.1 HSi2.out).1
            rw [HMl.out] at this
            omega
          have i1 : (i : Int) < (m : Int) := by omega
          have hal : acc.length = i := by
            rw [HI2.out.accs, List.length_map, List.length_take, HMl.out]
            omega
          have hel2 : Es.length = i := HI2.out.len
          have HEs := hid hel2
          have HAl := hid hal
          rw [hal, hel2] at HM2
          rw [hal, hel2]
          clear hal hel2
          have d0 : wr.cell? ⟨gd, 0, none⟩ = some (.slice Aa i cA) := HM2.out.dfa.cell_some rfl
          have HNx := hid (fun (E' : Unit) => HI2.out.next HSi2.out HCv.out)
          obtain ⟨bb, hbb⟩ : ∃ bb, (okOf kd pl.length si != ng) = bb := ⟨_, rfl⟩
          rw [hbb] at HPs HNx
          clear hbb
          go_upto_region 23 with fail
          go_cut [7] from 22 to 107 (fun iv wx => ∃ (A' : Option Addr) (c' : Nat), iv = .int .i64 i ∧ AM g (q0 + 1) gd [.int .i64 v, .int .i64 kd, .bool ng, .string p] wx (.slice (some ⟨ga, 0, none⟩) m c4) (.slice A8 E.length c8) (.slice A' (i + 1) c') (.slice Ae i ce) m st st (acc ++ [bb]) Es E ∧ Ext w wx)
          case first =>
            go_region_law (first
              | (refine step_append_any _ rfl (.tmp 92) (.tmp 99) 38 rfl (gd + 1) 4 ib _ 1 1 Try.underlying38 hib hl0 hl1 hl2' rfl (by decide) _ i _ rfl HA6 _ _ 1 1 [.bool bb] rfl (nReads1 _ _ _ _ rfl) (by simp [Value.oneCell']) (by unfold maxLen; omega) (by omega) HS6 ?_; intro v7 w7 hown7 hgr7 hblk7; obtain ⟨A9, c9, rfl⟩ := nOwn_slice hown7; have HM7 := HM6.growA hgr7 hblk7 (by rw [HAl.out]; exact hown7); have HB7 := HM6.dfa.grown hgr7 (fun e => by have := own_ge HA6 e.symm; omega); have x0 := HB7.cell_some (i := 0) rfl; have f0 := HB7.frozen 0)
              | (go_simp; go_at_call 35; (with_reducible refine (HPs.out _).mono ?_); rintro _ w4 ⟨rfl, hx4⟩; replace hx4 : Ext wr w4 := (Ext.refl wr).drew.trans hx4; have HM6 := HM2.out.ext (hx4.alloc (.cells #[.bool bb] 4)); have d1 := hx4.keep d0; have d2 := (hx4.alloc (.cells #[.bool bb] 4)).keep d0; have HA6 : (w4.alloc (.cells #[.bool bb] 4)).ownsRow (gd + 1) 4 1 (.slice Aa i cA) i (booV acc) := (by have := HM6.ac; rw [HAl.out] at this; exact this); have HS6 : gd + 1 ≤ (w4.alloc (.cells #[.bool bb] 4)).heap.size := HM6.dfa.lt))
            all_goals
              go_wp2_with fail
              go_meet
              exact ⟨A9, c9, rfl, HM7, (Ext.grown ((HX2.out.trans hx4).alloc _) hgr7 (fun q hq => by have := own_ge HA6 hq; have := HG.out; have := HM6.lt; omega)).setCell (by have := HG.out; have := HM6.lt; show w.heap.size ≤ gd; omega) _⟩
          case rest =>
            obtain ⟨A9, c9, rfl, ham, hxc⟩ := hcut
            have HM3 := hid ham
            have HX3 := hid hxc
            clear ham hxc HM2 HX2 b0 b1 b2 b3 d0
            have hm6 := HM3.out.ext ((Ext.refl wc).alloc (.cells #[.slice A8 E.length c8] 77))
            obtain ⟨vs, hv1, hv2⟩ := hm6.ed
            have HM6 := hid hm6
            have HV1 := hid hv1
            have HV2 := hid hv2
            have HS6 : Hid (gd + 1 ≤ (wc.alloc (.cells #[.slice A8 E.length c8] 77)).heap.size) := hm6.dfa.lt
            have d1 : wc.cell? ⟨gd, 1, none⟩ = some (.slice Ae i ce) := HM3.out.dfa.cell_some rfl
            clear hm6 hv1 hv2
            go_wp2_with (at_builtin; refine wpList_append_any _ rfl (.tmp 103) (.tmp 105) 39 rfl (gd + 1) 77 ip _ 1 24 Try.underlying39 hip hp0 hp1 hp2 rfl (by decide) _ i _ rfl (by have := HV1.out; rw [HEs.out] at this; exact this) _ _ 1 1 [.slice A8 E.length c8] rfl (nReads1 _ _ _ _ rfl) (by simp [Value.oneCell']) (by unfold maxLen; omega) (by omega) HS6.out ?_; intro v7 w7 hown7 hgr7 hblk7; obtain ⟨Aq, cq, rfl⟩ := nOwn_slice hown7; have HM7 := hid (HM6.out.growE HV1.out HV2.out hgr7 hblk7 (by rw [HEs.out]; exact hown7)); have HB7 := HM6.out.dfa.grown hgr7 (fun e => by have := own_ge HV1.out e.symm; omega); have x1 := HB7.cell_some (i := 1) rfl; have f1 := HB7.frozen 1)
            exact ⟨⟨i + 1, _, _, st, acc ++ [bb], Es ++ [E], by go_num, rfl, by rw [HMl.out]; exact hl2, by rw [HMl.out]; exact HM7.out, HNx.out (), (Ext.grown (HX3.out.alloc _) hgr7 (fun q hq => by have := own_ge HV1.out hq; have := HG.out; have := HM6.out.lt; omega)).setCell (by have := HG.out; have := HM6.out.lt; show w.heap.size ≤ gd; omega) _⟩, by simp [intOf]; omega⟩
    · obtain rfl : i = m := by omega
      obtain ⟨Aa, ca, hva⟩ := nOwn_slice HM.out.ac
      obtain ⟨Ae, ce, hve, hEd⟩ := HM.out.ed.at_
      have hdn := HI.out.done HMl.out.symm
      subst hva hve
      have HAc := hid (booV_at HM.out.ac)
      have hdl := HM.out.lt
      have hal : acc.length = i := by rw [hdn.2, List.length_map, HMl.out]
      have hel : Es.length = i := by rw [hdn.1.len, HMl.out]
      rw [hal, hel] at HM
      have HB := hid HM.out.dfa
      have hi1 : 1 ≤ i := by
        have := (List.getElem?_eq_some_iff.1 hdn.1.first).1
        rw [HMl.out] at this
        omega
      have HD := hid hdn
      clear hdn hEd
      have b0 := HB.out.cell_some (i := 0) rfl
      have b1 := HB.out.cell_some (i := 1) rfl
      have z0 := HM.out.res.cell_some (i := 0) rfl
      have z1 := HM.out.res.cell_some (i := 1) rfl
      have f0 := HM.out.res.frozen 0
      have f1 := HM.out.res.frozen 1
      have HZ := hid ((HM.out.res.set 0 (.slice Aa i ca)).set 1 (.slice Ae i ce))
      have hsa := grown_set wr ⟨g + 1, 0, none⟩ (.slice Aa i ca)
      have hsb := grown_set (wr.setCell ⟨g + 1, 0, none⟩ (.slice Aa i ca)) ⟨g + 1, 1, none⟩ (.slice Ae i ce)
      have HXe : Hid (Ext w ((wr.setCell ⟨g + 1, 0, none⟩ (.slice Aa i ca)).setCell ⟨g + 1, 1, none⟩ (.slice Ae i ce))) := (HX.out.setCell (by have := HG.out; show w.heap.size ≤ g + 1; omega) _).setCell (by have := HG.out; show w.heap.size ≤ g + 1; omega) _
      have HEe : Hid (EdsAt ((wr.setCell ⟨g + 1, 0, none⟩ (.slice Aa i ca)).setCell ⟨g + 1, 1, none⟩ (.slice Ae i ce)) Ae Es) := by
        have ho : ∀ q, (Value.slice Ae i ce).ownBlock = some q → gd + 1 ≤ q := fun q hq => by
          obtain ⟨vs, h1, _⟩ := HM.out.ed
          exact own_ge h1 hq
        obtain ⟨A9, c9, e9, h9⟩ := ((HM.out.ed.grown hsa (fun q hq e => by have := ho q hq; simp at e; omega) (fun q hq e => by have := hq.1; simp at e; omega) (fun _ _ h => h)).grown hsb (fun q hq e => by have := ho q hq; simp at e; omega) (fun q hq e => by have := hq.1; simp at e; omega) (fun _ _ h => h)).at_
        injection e9 with e9 _ _
        subst e9
        exact h9
      have HAe : Hid (AccAt ((wr.setCell ⟨g + 1, 0, none⟩ (.slice Aa i ca)).setCell ⟨g + 1, 1, none⟩ (.slice Ae i ce)) Aa acc) := by
        have ho : ∀ q, (Value.slice Aa i ca).ownBlock = some q → gd + 1 ≤ q := fun q hq => own_ge HM.out.ac hq
        have h1 := nOwn_grown (nOwn_grown HM.out.ac hsa (fun q hq e => by have := ho q hq; simp at e; omega)) hsb (fun q hq e => by have := ho q hq; simp at e; omega)
        rw [hal] at h1
        exact booV_at h1
      go_wp2_with fail
      have q0' := HZ.out.cell_some (i := 0) rfl
      have q1' := HZ.out.cell_some (i := 1) rfl
      have hR := HD.out.2
      rw [hR] at HAe
      exact bodyPost_ret (v := .tuple #[.agg #[.slice Aa i ca, .slice Ae i ce], .int .i64 0]) (by simp [results, Try.results23, go_sem, q0', q1']) rfl ⟨by rw [HPl.out]; exact AutRes.ok hi1 hl HMl.out HD.out.1 HAe.out HEe.out, HXe.out⟩
end Go.Proofs.Ytbniemkllhhnfaa
