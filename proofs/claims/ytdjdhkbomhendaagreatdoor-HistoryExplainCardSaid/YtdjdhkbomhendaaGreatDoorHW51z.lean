/-
  Walks over history: the law of Explain.
-/
import Derived.Test.YtdjdhkbomhendaaGreatDoorHW50z
namespace Go.Proofs.YtdjdhkbomhendaaGreatDoor
open Go.RowKit
set_option linter.unusedVariables false
set_option linter.unusedSimpArgs false
set_option maxHeartbeats 4000000
set_option maxRecDepth 100000

/-- names in memory -/
def NmsAt (w : World) (A : Option Addr) (S : List Tb) : Prop := ∀ (i : Nat) (t : Tb), S[i]? = some t → ∃ b off Ac cc, A = some ⟨b, off, none⟩ ∧ w.cell? ⟨b, off + i * 2, none⟩ = some (.string t.nm) ∧ w.cell? ⟨b, off + i * 2 + 1, none⟩ = some (.slice Ac t.cols.length cc) ∧
  ∀ (j : Nat) (c : ByteArray), t.cols[j]? = some c → ∃ b2 off2, Ac = some ⟨b2, off2, none⟩ ∧ w.cell? ⟨b2, off2 + j, none⟩ = some (.string c)
theorem NmsAt.ext {w w' : World} {A : Option Addr} {S : List Tb} (h : NmsAt w A S) (hx : Ext w w') : NmsAt w' A S := fun i t ht => by
  obtain ⟨b, off, Ac, cc, h1, h2, h3, h4⟩ := h i t ht
  exact ⟨b, off, Ac, cc, h1, hx.keep h2, hx.keep h3, fun j c hc => by
    obtain ⟨b2, off2, h5, h6⟩ := h4 j c hc
    exact ⟨b2, off2, h5, hx.keep h6⟩⟩
def colC (c : ByteArray) : List Value := [.string c, .int .i64 1, .int .i64 0, .int .i64 0, .int .i64 0, .bool false]
def tbC (p : Tb × Value) : List Value := [.string p.1.nm, p.2, .slice none 0 0, .slice none 0 0, .slice none 0 0]
theorem info_col : (Tryz.prog.info? 44).map (fun i => (i.zero, i.size, i.bytes)) = some (some (.agg #[.string ⟨#[]⟩, .int .i64 0, .int .i64 0, .int .i64 0, .int .i64 0, .bool false]), 6, 56) := by kernel_rfl
theorem info_tbl : (Tryz.prog.info? 49).map (fun i => (i.zero, i.size, i.bytes)) = some (some (.agg #[.string ⟨#[]⟩, .slice none 0 0, .slice none 0 0, .slice none 0 0, .slice none 0 0]), 5, 112) := by kernel_rfl
theorem cols_at {w : World} {B : Nat} {v : Value} {l : List ByteArray} (h : w.ownsRow B 44 6 v l.length (l.flatMap colC)) : ColsAt w v l := by
  obtain ⟨A, c, rfl⟩ := own_slice h
  refine ⟨A, c, rfl, fun j n hn => ?_⟩
  have hg := flat_get colC 6 (fun _ => rfl) l j 0 n hn (by omega)
  obtain ⟨g, c', e0, h0⟩ := own_cell h (hg.trans (show (colC n)[0]? = some (.string n) from rfl))
  injection e0 with e0 _ _
  exact ⟨g, 0, e0, by simpa using h0⟩
theorem tbs_at {w : World} {B : Nat} {v : Value} {ps : List (Tb × Value)} (h : w.ownsRow B 49 5 v ps.length (ps.flatMap tbC)) (hk : ∀ p ∈ ps, ColsAt w p.2 p.1.cols) : ∃ A c, v = .slice A ps.length c ∧ TbsAt w A (ps.map Prod.fst) := by
  obtain ⟨A, c, rfl⟩ := own_slice h
  refine ⟨A, c, rfl, fun i t ht => ?_⟩
  rw [List.getElem?_map] at ht
  obtain ⟨p, hp, rfl⟩ := Option.map_eq_some_iff.1 ht
  have get : ∀ j, j < 5 → (ps.flatMap tbC)[i * 5 + j]? = (tbC p)[j]? := fun j hj => flat_get tbC 5 (fun _ => rfl) ps i j p hp hj
  obtain ⟨g, c0, e0, h0⟩ := own_cell h ((get 0 (by omega)).trans (show (tbC p)[0]? = some (.string p.1.nm) from rfl))
  obtain ⟨g1, c1, e1, h1⟩ := own_cell h ((get 1 (by omega)).trans (show (tbC p)[1]? = some p.2 from rfl))
  injection e0 with e0 _ _
  injection e1 with e1 _ _
  subst e0
  simp only [Option.some.injEq, Addr.mk.injEq, and_true] at e1
  subst e1
  exact ⟨g, 0, p.2, rfl, by simpa using h0, by simpa using h1, hk p (List.mem_of_getElem? hp)⟩
/-- tables under way -/
def TbsO (B : Nat) (w : World) (v : Value) (l : List Tb) : Prop := ∃ ps : List (Tb × Value), ps.map Prod.fst = l ∧ w.ownsRow B 49 5 v l.length (ps.flatMap tbC) ∧ ∀ p ∈ ps, Kp (UpBut B v) w fun w2 => ColsAt w2 p.2 p.1.cols
theorem TbsO.ext {B : Nat} {w w' : World} {v : Value} {l : List Tb} (h : TbsO B w v l) (hx : Ext w w') : TbsO B w' v l := by
  obtain ⟨ps, h1, h2, h3⟩ := h
  exact ⟨ps, h1, ownN_ext h2 hx, fun p hp => (h3 p hp).ext hx⟩
theorem TbsO.at_ {B : Nat} {w : World} {v : Value} {l : List Tb} (h : TbsO B w v l) : ∃ A c, v = .slice A l.length c ∧ TbsAt w A l := by
  obtain ⟨ps, rfl, h2, h3⟩ := h
  rw [List.length_map] at h2
  obtain ⟨A, c, h4, h5⟩ := tbs_at h2 fun p hp => (h3 p hp).here
  exact ⟨A, c, by rw [List.length_map]; exact h4, h5⟩
theorem own_cells_eq {w : World} {B T sz n : Nat} {v : Value} {xs ys : List Value} (h1 : w.ownsRow B T sz v n xs) (h2 : w.ownsRow B T sz v n ys) : xs = ys := by
  rcases h1.2 with ⟨rfl, h0⟩ | ⟨g, cap, cur, rfl, _, hh, _, _, _, ht⟩
  · have e1 := h1.1
    have e2 := h2.1
    rw [h0, Nat.zero_mul] at e1 e2
    rw [List.eq_nil_of_length_eq_zero e1, List.eq_nil_of_length_eq_zero e2]
  · rcases h2.2 with ⟨h0, _⟩ | ⟨g2, cap2, cur2, hv2, _, hh2, _, _, _, ht2⟩
    · cases h0
    · simp only [Value.slice.injEq, Option.some.injEq, Addr.mk.injEq, and_true, true_and] at hv2
      obtain ⟨rfl, rfl⟩ := hv2
      rw [hh] at hh2
      simp only [Option.some.injEq, Obj.cells.injEq, and_true] at hh2
      subst hh2
      exact ht.symm.trans ht2
theorem TbsO.push {B : Nat} {w W0 w' : World} {v v' cv : Value} {l : List Tb} {t : Tb} {xs : List Value} {B1 : Nat} (h : TbsO B w v l) (hxs : w.ownsRow B 49 5 v l.length xs)
    (hc : w.ownsRow B1 44 6 cv t.cols.length (t.cols.flatMap colC)) (hB1 : B ≤ B1) (hcb : ∀ k, cv.ownBlock = some k → v.ownBlock ≠ some k) (hx : Ext w W0)
    (hown : w'.ownsRow B 49 5 v' (l.length + 1) (xs ++ tbC (t, cv))) (hg : W0.grownBy w' v.ownBlock) (hb : v'.ownBlock = v.ownBlock ∨ v'.ownBlock = some W0.heap.size) : TbsO B w' v' (l ++ [t]) := by
  obtain ⟨ps, h1, h2, h3⟩ := h
  have hxs' := own_cells_eq hxs h2
  subst hxs'
  have hs := hx.size
  have hgs := hg.size
  have hne : ∀ k, k < w.heap.size → v.ownBlock ≠ some k → v'.ownBlock ≠ some k := fun k hk hv h => by
    rcases hb with hb | hb
    · exact hv (hb.symm.trans h)
    · rw [hb] at h
      have := Option.some.inj h
      omega
  have hkeep : ∀ k, k < w.heap.size → v.ownBlock ≠ some k → w'.heap[k]? = w.heap[k]? := fun k hk hv => (hg.block k (by omega) (fun e => hv e.symm)).trans (Below.block hx k hk)
  refine ⟨ps ++ [(t, cv)], by rw [List.map_append, h1]; rfl, ?_, fun p hp => ?_⟩
  · rw [List.length_append, List.length_singleton, List.flatMap_append]
    simpa using hown
  · rcases List.mem_append.1 hp with hp | hp
    · exact (h3 p hp).mono (by omega) (fun k hk h => ⟨h.1, fun e => hne k hk (fun e => h.2 e.symm) e.symm⟩) fun k hk h => hkeep k hk fun e => h.2 e.symm
    · obtain rfl := List.mem_singleton.1 hp
      have hcw : w'.ownsRow B1 44 6 cv t.cols.length (t.cols.flatMap colC) := own_same hc fun g hgc => hkeep g (hc.lt g hgc).2 (hcb g hgc)
      intro w2 h2'
      refine cols_at (own_same hcw fun g hgc => h2' g (hcw.lt g hgc).2 ⟨by have := (hc.lt g hgc).1; omega, fun e => ?_⟩)
      exact hne g (hc.lt g hgc).2 (hcb g hgc) e.symm
theorem strs_owns {B : Nat} {W : World} {v : Value} {l : List ByteArray} (h : W.ownsRow B 9 1 v l.length (strs l)) : ∃ A c, v = .slice A l.length c ∧ ∀ j, j < l.length → ∃ g s, A = some ⟨g, 0, none⟩ ∧ l[j]? = some s ∧ W.cell? ⟨g, j, none⟩ = some (.string s) := by
  obtain ⟨A, c, rfl⟩ := own_slice h
  refine ⟨A, c, rfl, fun j hj => ?_⟩
  have hs := List.getElem?_eq_getElem hj
  obtain ⟨g, c', e0, h0⟩ := own_cell h (j := j) (u := .string l[j]) (by unfold strs; rw [List.getElem?_map, hs]; rfl)
  injection e0 with e0 _ _
  exact ⟨g, l[j], e0, hs, h0⟩
theorem reads_newN (w : World) (cs : List Value) (e : TypeId) (k : Nat) (hl : cs.length = k) : Reads (w.alloc (.cells cs.toArray e)) (w.heap.size + 1) k (some ⟨w.heap.size, 0, none⟩) 1 cs :=
  ⟨by simp [hl], fun _ => ⟨_, rfl, Nat.lt_succ_self _, news_at w cs.toArray e w.heap.size rfl⟩⟩
theorem few_one {e : Ev} (hb : e.bnd) (h : fewH [e] = true) : e.sm := few_sm h (fun x hx => by obtain rfl := List.mem_singleton.1 hx; exact hb) e (List.mem_singleton_self _)
theorem one_at {w : World} {g : Nat} {T : TypeId} {e : Ev} {vr vw : Value} (h : Blk w g T [.int .i64 e.kd, .int .i64 e.ss, .int .i64 e.tx, .int .i64 e.st, .int .i64 e.er, .int .i64 e.ct, vr, vw]) (hr : RsAt w vr e.rows) (hw : WsAt w vw e.wts) : EvsAt w (some ⟨g, 0, none⟩) [e] := fun i x hx => by
  have hi := (List.getElem?_eq_some_iff.1 hx).1
  obtain rfl : i = 0 := by simpa using hi
  obtain rfl := Option.some.inj hx
  exact ⟨g, 0, vr, vw, rfl, h.cell_some rfl, h.cell_some rfl, h.cell_some rfl, h.cell_some rfl, h.cell_some rfl, h.cell_some rfl, h.cell_some rfl, h.cell_some rfl, hr, hw⟩
theorem law_explain (A : Option Addr) (n c : Nat) (S : List Tb) (e : Ev) (vr vw : Value) (w : World) (hN : NmsAt w A S) (hn : S.length = n) (hm : n ≤ 9223372036854775807) (hr : RsAt w vr e.rows) (hw : WsAt w vw e.wts) (hf : e.fit) (hb : e.bnd) (hz : ∀ t ∈ S, t.nm.size ≤ 9223372036854775807 ∧ t.cols.length ≤ 9223372036854775807) (hg : GdH w) :
    Calls Tryz.prog 8 #[.slice A n c, evV e vr vw] w fun r w' => r = .returned (.bool true) ∧ Ext w w' := by
  obtain ⟨ic, hic, hc0, hc1, hc2⟩ := info_parts info_col
  obtain ⟨it, hit, ht0, ht1, ht2⟩ := info_parts info_tbl
  have HA := hid (fun W (hW : Ext w W) => awake_any W (hg.1.ext hW) (hg.2.1.ext hW) (hg.2.2.ext hW))
  have HFw := hid (fun W A' c' (h : EvsAt W A' [e]) => Few_any A' [e] 1 c' W h rfl (by decide) (fun x hx => by obtain rfl := List.mem_singleton.1 hx; exact hf))
  obtain ⟨Ar, cr, rfl, hra⟩ := id hr
  obtain ⟨Aw, cw, rfl, hwa⟩ := id hw
  have HGd := hid hg
  have HNm := hid hN
  have HNn := hid hn
  have HR := hid hr
  have HW := hid hw
  have HBn := hid hb
  have HZ := hid hz
  obtain ⟨fw, hfw⟩ : ∃ b, fewH [e] = b := ⟨_, rfl⟩
  have HFb := hid hfw
  rw [hfw] at HFw
  have hxa := (Ext.refl w).alloc (.cells #[.int .i64 e.kd, .int .i64 e.ss, .int .i64 e.tx, .int .i64 e.st, .int .i64 e.er, .int .i64 e.ct, .slice Ar e.rows.length cr, .slice Aw e.wts.length cw] 36)
  have HB0 := hid (Blk.of_new w 36 [.int .i64 e.kd, .int .i64 e.ss, .int .i64 e.tx, .int .i64 e.st, .int .i64 e.er, .int .i64 e.ct, .slice Ar e.rows.length cr, .slice Aw e.wts.length cw])
  have HX0 := hid hxa
  clear hN hn hr hw hra hwa hf hb hg hfw hxa hz
  unfold evV
  go_enter Tryz.func8, Tryz.ntmps8
  go_upto_region 1 with fail
  generalize w.alloc (.cells #[.int .i64 e.kd, .int .i64 e.ss, .int .i64 e.tx, .int .i64 e.st, .int .i64 e.er, .int .i64 e.ct, .slice Ar e.rows.length cr, .slice Aw e.wts.length cw] 36) = W1 at *
  obtain ⟨g3, hg3⟩ : ∃ g, w.heap.size = g := ⟨_, rfl⟩
  have HG3 := hid hg3
  rw [hg3] at HB0 ⊢
  clear hg3
  obtain ⟨bb, hbb⟩ : ∃ b, (!fw || decide (10 < n)) = b := ⟨_, rfl⟩
  have HBB := hid hbb
  go_cut [26] from 14 to 26 (fun cv wx => cv = .bool bb ∧ Ext W1 wx)
  case first =>
    cases fw
    · obtain rfl : bb = true := hbb.symm
      go_wp2_with (first
        | (go_at_call 12; (with_reducible refine (HFw.out _ _ _ hev2).mono ?_); rintro _ w3 ⟨rfl, hw3⟩)
        | (go_at_call 11; (with_reducible refine (HA.out _ HX0.out).mono ?_); rintro _ w2 ⟨rfl, hw2⟩; have HB2 := HB0.out.ext hw2; obtain ⟨x0, x1, x2, x3, x4, x5, x6, x7⟩ := blk8 HB2; have hev2 := one_at (Blk.of_new w2 36 [.int .i64 e.kd, .int .i64 e.ss, .int .i64 e.tx, .int .i64 e.st, .int .i64 e.er, .int .i64 e.ct, .slice Ar e.rows.length cr, .slice Aw e.wts.length cw]) (HR.out.ext ((HX0.out.trans hw2).alloc _)) (HW.out.ext ((HX0.out.trans hw2).alloc _))))
      go_meet
      exact ⟨rfl, (hw2.alloc _).trans hw3⟩
    · have hb2 : decide (10 < n) = bb := by rw [← hbb]; rfl
      by_cases h10 : 10 < n
      · obtain rfl : bb = true := by rw [← hb2]; exact decide_eq_true h10
        have h10' : (10 : Int) < (n : Int) := by omega
        have h10b : decide ((10 : Int) < (n : Int)) = true := decide_eq_true h10'
        clear hbb hb2
        go_wp2_with (first
          | (go_at_call 12; (with_reducible refine (HFw.out _ _ _ hev2).mono ?_); rintro _ w3 ⟨rfl, hw3⟩)
          | (go_at_call 11; (with_reducible refine (HA.out _ HX0.out).mono ?_); rintro _ w2 ⟨rfl, hw2⟩; have HB2 := HB0.out.ext hw2; obtain ⟨x0, x1, x2, x3, x4, x5, x6, x7⟩ := blk8 HB2; have hev2 := one_at (Blk.of_new w2 36 [.int .i64 e.kd, .int .i64 e.ss, .int .i64 e.tx, .int .i64 e.st, .int .i64 e.er, .int .i64 e.ct, .slice Ar e.rows.length cr, .slice Aw e.wts.length cw]) (HR.out.ext ((HX0.out.trans hw2).alloc _)) (HW.out.ext ((HX0.out.trans hw2).alloc _))))
        go_meet
        exact ⟨rfl, (hw2.alloc _).trans hw3⟩
      · obtain rfl : bb = false := by rw [← hb2]; exact decide_eq_false h10
        have h10' : ¬ (10 : Int) < (n : Int) := by omega
        have h10b : decide ((10 : Int) < (n : Int)) = false := decide_eq_false h10'
        clear hbb hb2
        go_wp2_with (first
          | (go_at_call 12; (with_reducible refine (HFw.out _ _ _ hev2).mono ?_); rintro _ w3 ⟨rfl, hw3⟩)
          | (go_at_call 11; (with_reducible refine (HA.out _ HX0.out).mono ?_); rintro _ w2 ⟨rfl, hw2⟩; have HB2 := HB0.out.ext hw2; obtain ⟨x0, x1, x2, x3, x4, x5, x6, x7⟩ := blk8 HB2; have hev2 := one_at (Blk.of_new w2 36 [.int .i64 e.kd, .int .i64 e.ss, .int .i64 e.tx, .int .i64 e.st, .int .i64 e.er, .int .i64 e.ct, .slice Ar e.rows.length cr, .slice Aw e.wts.length cw]) (HR.out.ext ((HX0.out.trans hw2).alloc _)) (HW.out.ext ((HX0.out.trans hw2).alloc _))))
        go_meet
        exact ⟨rfl, (hw2.alloc _).trans hw3⟩
  case rest =>
  obtain ⟨rfl, hxN⟩ := hcut
  generalize wc = W2 at *
  have HX2 := hid (HX0.out.trans hxN)
  have HB2 := hid (HB0.out.ext hxN)
  clear hxN HFw HB0
  cases bb
  · have hff : fw = true ∧ ¬ 10 < n := by
      have h := HBB.out
      cases fw
      · cases h
      · exact ⟨rfl, by simpa using h⟩
    obtain ⟨rfl, h10⟩ := hff
    have H10 := hid h10
    have HEs := hid (few_one HBn.out HFb.out)
    clear hbb h10
    obtain ⟨q1, hq1⟩ : ∃ q, W2.heap.size = q := ⟨_, rfl⟩
    have HQ1 := hid hq1
    clear hq1
    go_wp2_with fail
    go_loopw [5, 30] (fun sv iv wr => ∃ k : Nat, k ≤ n ∧ iv = .int .i64 k ∧ TbsO q1 wr sv (S.take k) ∧ (∀ t ∈ S.take k, tbSm t) ∧ Ext W2 wr) (fun _ i _ => n - (intOf i).toNat)
    case atStart => exact ⟨0, Nat.zero_le _, rfl, ⟨[], rfl, World.ownsRow_nil _ _ _ _, fun p hp => by simp at hp⟩, fun t ht => by simp at ht, Ext.refl W2⟩
    case round =>
      obtain ⟨k, hk, rfl, htb, hsm, hxr⟩ := hrel
      have HTb := hid htb
      have HSm := hid hsm
      have HXr := hid hxr
      clear htb hsm hxr
      generalize wr = W3 at *
      have hk9 : k ≤ 10 := by have := H10.out; omega
      by_cases hlt : k < n
      · obtain ⟨t, ht⟩ : ∃ t, S[k]? = some t := ⟨_, List.getElem?_eq_getElem (by rw [HNn.out]; exact hlt)⟩
        have htz := HZ.out t (List.mem_of_getElem? ht)
        have HTk := hid (take_step ht)
        obtain ⟨bt, ot, Ac, cc, rfl, n0, n1, ncs⟩ := (HNm.out.ext (HX2.out.trans HXr.out)) k t ht
        obtain ⟨m, hmm⟩ : ∃ m, t.cols.length = m := ⟨_, rfl⟩
        have HM := hid hmm
        rw [hmm] at n1 htz
        obtain ⟨nm, hnm⟩ : ∃ nm, t.nm = nm := ⟨_, rfl⟩
        have HNM := hid hnm
        rw [hnm] at n0 htz
        have hxa := (Ext.refl W3).alloc (.cells #[.string nm, .slice Ac m cc] 41)
        have HX4 := hid hxa
        have HB7 := hid (Blk.of_new W3 41 [.string nm, .slice Ac m cc])
        have HCs : Hid (∀ (j : Nat) (c : ByteArray), t.cols[j]? = some c → ∃ b2 off2, Ac = some ⟨b2, off2, none⟩ ∧ W3.cell? ⟨b2, off2 + j, none⟩ = some (.string c)) := ncs
        clear ht hmm hnm ncs hxa
        go_upto_region 7 with fail
        clear n0 n1
        generalize W3.alloc (.cells #[.string nm, .slice Ac m cc] 41) = W4 at *
        generalize W3.heap.size = g7 at *
        have y0 := HB7.out.cell_some (i := 0) rfl
        have y1 := HB7.out.cell_some (i := 1) rfl
        by_cases hs40 : 40 < nm.size
        · have b1 : (40 : Int) < (nm.size : Int) := by omega
          clear hs40
          go_wp2_with fail
          go_ret
          exact ⟨rfl, HX2.out.trans (HXr.out.trans HX4.out)⟩
        · have b1 : ¬ (40 : Int) < (nm.size : Int) := by omega
          by_cases hm10 : 10 < m
          · have b2 : (10 : Int) < (m : Int) := by omega
            clear hm10
            go_wp2_with fail
            go_ret
            exact ⟨rfl, HX2.out.trans (HXr.out.trans HX4.out)⟩
          · have b2 : ¬ (10 : Int) < (m : Int) := by omega
            have HS40 := hid hs40
            have HM10 := hid hm10
            clear hs40 hm10
            go_wp2_with fail
            clear b1 b2 y0 y1
            go_loopw [8, 47] (fun sv iv wr => ∃ j : Nat, j ≤ m ∧ iv = .int .i64 j ∧ wr.ownsRow W4.heap.size 44 6 sv j ((t.cols.take j).flatMap colC) ∧ (∀ c ∈ t.cols.take j, c.size ≤ 40) ∧ Ext W4 wr) (fun _ i _ => m - (intOf i).toNat)
            case atStart => exact ⟨0, Nat.zero_le _, rfl, World.ownsRow_nil _ _ _ _, fun c hc => by simp at hc, Ext.refl W4⟩
            case round =>
              obtain ⟨j, hj, rfl, hown, hcz, hxr2⟩ := hrel
              have HOc := hid hown
              have HCz := hid hcz
              have HX5 := hid hxr2
              clear hown hcz hxr2
              generalize wr = W5 at *
              obtain ⟨Al, cl, hvl⟩ := own_slice HOc.out
              subst hvl
              have hj9 : j ≤ 10 := by have := HM10.out; omega
              by_cases hlt2 : j < m
              · obtain ⟨cn, hcn⟩ : ∃ cn, t.cols[j]? = some cn := ⟨_, List.getElem?_eq_getElem (by rw [HM.out]; exact hlt2)⟩
                obtain ⟨b2, o2, rfl, d0⟩ := HCs.out j cn hcn
                have d0' := (HX4.out.trans HX5.out).keep d0
                have HTj := hid (take_step hcn)
                clear hcn d0
                by_cases hc40 : 40 < cn.size
                · have b1 : (40 : Int) < (cn.size : Int) := by omega
                  clear hc40
                  go_wp2_with fail
                  go_ret
                  exact ⟨rfl, HX2.out.trans (HXr.out.trans (HX4.out.trans HX5.out))⟩
                · have b1 : ¬ (40 : Int) < (cn.size : Int) := by omega
                  have HC40 := hid hc40
                  have HSi : Hid (W4.heap.size ≤ W5.heap.size) := HX5.out.size
                  clear hc40
                  go_wp2_with (at_builtin; refine wpList_append_any _ rfl (.tmp 54) (.tmp 57) 42 rfl W4.heap.size 44 ic _ 6 56 Tryz.underlying42 hic hc0 hc1 hc2 rfl (by decide) _ j _ rfl (HOc.out.alloc _) _ _ 1 1 [.string cn, .int .i64 1, .int .i64 0, .int .i64 0, .int .i64 0, .bool false] rfl (reads_newN W5 [.string cn, .int .i64 1, .int .i64 0, .int .i64 0, .int .i64 0, .bool false] _ 6 rfl) (by simp [Value.oneCell']) (by unfold maxLen; omega) (by omega) (by have := HSi.out; simp; omega) ?_; intro v9 w9 hown9 hgr9 hblk9)
                  have HO9 := hid hown9
                  have HX9 : Hid (Ext W4 w9) := Ext.grown (HX5.out.alloc _) hgr9 fun q hq => own_ge HOc.out hq
                  clear hown9 hgr9 hblk9 b1 d0'
                  go_roundw
                  case rel =>
                    refine ⟨j + 1, by omega, by go_num, ?_, fun c hc => ?_, HX9.out⟩
                    · rw [HTj.out, List.flatMap_append]
                      simpa [colC] using HO9.out
                    · rw [HTj.out] at hc
                      rcases List.mem_append.1 hc with hc | hc
                      · exact HCz.out c hc
                      · obtain rfl := List.mem_singleton.1 hc
                        have := HC40.out
                        omega
                  case measure => simp [intOf]; omega
              · have hjm : m = j := by omega
                subst hjm
                have hcols : t.cols.take m = t.cols := List.take_of_length_le (Nat.le_of_eq HM.out)
                have ho := HOc.out
                rw [hcols] at ho
                have HOd := hid ho
                have HCz2 : Hid (∀ c ∈ t.cols, c.size ≤ 40) := by have := HCz.out; rwa [hcols] at this
                clear ho hcols HOc HCz
                obtain ⟨A9, c9, hv9, _⟩ := HTb.out.at_
                have hkl : (S.take k).length = k := by rw [List.length_take, HNn.out]; omega
                rw [hkl] at hv9
                subst hv9
                have HKl := hid hkl
                have HTb5 := hid (HTb.out.ext (HX4.out.trans HX5.out))
                obtain ⟨ps, hp1, hp2, _⟩ := HTb5.out
                obtain ⟨xs, hxs⟩ : ∃ xs, ps.flatMap tbC = xs := ⟨_, rfl⟩
                rw [hxs] at hp2
                have HOx := hid hp2
                rw [hkl] at hp2
                have HOy := hid hp2
                have y0 := (HB7.out.ext HX5.out).cell_some (i := 0) rfl
                have HArm : Hid (∀ (v9 : Value) (w9 : World), w9.ownsRow q1 49 5 v9 (k + 1) (xs ++ [.string nm, .slice Al m cl, .slice none 0 0, .slice none 0 0, .slice none 0 0]) → (W5.alloc (.cells #[.string nm, .slice Al m cl, .slice none 0 0, .slice none 0 0, .slice none 0 0] 49)).grownBy w9 (Value.slice A9 k c9).ownBlock →
                    (v9.ownBlock = (Value.slice A9 k c9).ownBlock ∨ v9.ownBlock = some (W5.alloc (.cells #[.string nm, .slice Al m cl, .slice none 0 0, .slice none 0 0, .slice none 0 0] 49)).heap.size) → TbsO q1 w9 v9 (S.take (k + 1)) ∧ Ext W2 w9) := fun v9 w9 hown hgr hbk => by
                  have hx := (Ext.refl W5).alloc (.cells #[.string nm, .slice Al m cl, .slice none 0 0, .slice none 0 0, .slice none 0 0] 49)
                  have hq := HQ1.out
                  have hs4 := (HXr.out.trans HX4.out).size
                  refine ⟨?_, Ext.grown ((HXr.out.trans (HX4.out.trans HX5.out)).trans hx) hgr fun q hq2 => by have := own_ge HOx.out hq2; omega⟩
                  rw [HTk.out]
                  have htc : tbC (t, Value.slice Al m cl) = [.string nm, .slice Al m cl, .slice none 0 0, .slice none 0 0, .slice none 0 0] := by unfold tbC; rw [HNM.out]
                  refine TbsO.push (B1 := W4.heap.size) (cv := .slice Al m cl) HTb5.out HOx.out (by rw [HM.out]; exact HOd.out) (by omega) (fun q hq2 h => ?_) hx (by rw [HKl.out, htc]; exact hown) hgr hbk
                  have h1 := own_ge HOd.out hq2
                  have h2 := own_lt (ownN_ext HOx.out (Ext.refl W5)) h
                  obtain ⟨ps3, _, h3, _⟩ := HTb.out
                  have h4 := own_lt h3 h
                  have h5 := HX4.out.size
                  omega
                have HSi : Hid (q1 ≤ W5.heap.size) := by have := (HXr.out.trans (HX4.out.trans HX5.out)).size; have := HQ1.out; unfold Hid; omega
                have HTsm : Hid (tbSm t) := ⟨by have := HS40.out; rw [HNM.out]; omega, fun c hc => by have := HCz2.out c hc; omega⟩
                clear hp1 hp2 hxs hkl
                go_wp2_with (at_builtin; refine wpList_append_any _ rfl (.tmp 60) (.tmp 65) 38 rfl q1 49 it _ 5 112 Tryz.underlying38 hit ht0 ht1 ht2 rfl (by decide) _ k xs rfl (HOy.out.alloc _) _ _ 1 1 [.string nm, .slice Al m cl, .slice none 0 0, .slice none 0 0, .slice none 0 0] rfl (reads_newN W5 [.string nm, .slice Al m cl, .slice none 0 0, .slice none 0 0, .slice none 0 0] _ 5 rfl) (by simp [Value.oneCell']) (by unfold maxLen; omega) (by omega) (by have := HSi.out; simp; omega) ?_; intro v9 w9 hown9 hgr9 hblk9; obtain ⟨ho9, hx9⟩ := HArm.out _ _ hown9 hgr9 hblk9)
                have HO9 := hid ho9
                have HX9 := hid hx9
                clear ho9 hx9 hown9 hgr9 hblk9
                go_roundw
                case rel =>
                  refine ⟨k + 1, by omega, by go_num, HO9.out, fun x hx => ?_, HX9.out⟩
                  rw [HTk.out] at hx
                  rcases List.mem_append.1 hx with hx | hx
                  · exact HSm.out x hx
                  · obtain rfl := List.mem_singleton.1 hx
                    exact HTsm.out
                case measure => simp [intOf]; omega
      · have hkn : n = k := by omega
        subst hkn
        have hS : S.take n = S := List.take_of_length_le (Nat.le_of_eq HNn.out)
        obtain ⟨A9, c9, hv9, hat⟩ := HTb.out.at_
        rw [hS] at hat hv9
        rw [HNn.out] at hv9
        subst hv9
        have hsm := HSm.out
        rw [hS] at hsm
        have HAt := hid hat
        have hss : smS S := ⟨by rw [HNn.out]; omega, hsm⟩
        have HXx := hid (HX2.out.trans HXr.out)
        have HB3 := hid (HB2.out.ext HXr.out)
        have HE1 := hid (fun W (hW : Ext W3 W) => explain_any S A9 n c9 e (.slice Ar e.rows.length cr) (.slice Aw e.wts.length cw) W (HAt.out.ext hW) HNn.out hss (HW.out.ext (HXx.out.trans hW)) ⟨_, _, _, rfl⟩ HEs.out (HGd.out.1.ext (HXx.out.trans hW)) (HGd.out.2.1.ext (HXx.out.trans hW)))
        have HE2 := hid (fun W (hW : Ext W3 W) => rexplain_any S A9 n c9 e (.slice Ar e.rows.length cr) (.slice Aw e.wts.length cw) W (HAt.out.ext hW) HNn.out hss (HW.out.ext (HXx.out.trans hW)) ⟨_, _, _, rfl⟩ HEs.out (HGd.out.2.1.ext (HXx.out.trans hW)))
        unfold evV StrsR at HE1 HE2
        clear hat hsm hss hS HTb HSm HA HNm
        have hL4 : (expP S e).length ≤ 4000 := by
          unfold expP
          split
          · rw [List.length_map]
            exact HEs.out.2.2.1
          · exact Nat.zero_le _
        have HL4 := hid hL4
        clear hL4
        generalize expP S e = L at *
        obtain ⟨m, hmm⟩ : ∃ m, L.length = m := ⟨_, rfl⟩
        have HM := hid hmm
        rw [hmm] at HE1 HE2
        clear hmm
        obtain ⟨x0, x1, x2, x3, x4, x5, x6, x7⟩ := blk8 HB3.out
        go_upto_region 19 with fail
        go_cut [11, 12] from 68 to 73 (fun u v wx => ∃ A1 c1 A2 c2, u = .slice A1 m c1 ∧ v = .slice A2 m c2 ∧ Ext W3 wx ∧ (∀ j, j < m → ∃ g s, A1 = some ⟨g, 0, none⟩ ∧ L[j]? = some s ∧ wx.cell? ⟨g, j, none⟩ = some (.string s)) ∧ (∀ j, j < m → ∃ g s, A2 = some ⟨g, 0, none⟩ ∧ L[j]? = some s ∧ wx.cell? ⟨g, j, none⟩ = some (.string s)))
        case first =>
          go_region_held_law (fun w' => w'.cell? ⟨g3, 0, none⟩ = some (.int .i64 e.kd) ∧ w'.cell? ⟨g3, 1, none⟩ = some (.int .i64 e.ss) ∧ w'.cell? ⟨g3, 2, none⟩ = some (.int .i64 e.tx) ∧ w'.cell? ⟨g3, 3, none⟩ = some (.int .i64 e.st) ∧ w'.cell? ⟨g3, 4, none⟩ = some (.int .i64 e.er) ∧ w'.cell? ⟨g3, 5, none⟩ = some (.int .i64 e.ct) ∧ w'.cell? ⟨g3, 6, none⟩ = some (.slice Ar e.rows.length cr) ∧ w'.cell? ⟨g3, 7, none⟩ = some (.slice Aw e.wts.length cw))
            (first | go_keep | exact blk8 (HB3.out.ext hx6) | exact blk8 (HB3.out.ext (hx6.trans hx7)))
            (first
              | (go_at_call 20; have hh := hx6; (with_reducible refine (HE2.out _ hx6).mono ?_); rintro _ w7 ⟨⟨v7, rfl, ho7⟩, hx7⟩)
              | (go_at_call 19; (with_reducible refine (HE1.out _ (Ext.refl W3).drew).mono ?_); rintro _ w6 ⟨⟨v6, rfl, ho6⟩, hx6⟩; replace hx6 : Ext W3 w6 := (Ext.refl W3).drew.trans hx6))
          all_goals
            obtain ⟨A1, c1, rfl, k1⟩ := strs_owns (by rw [HM.out]; exact ownN_ext ho6 hx7)
            obtain ⟨A2, c2, rfl, k2⟩ := strs_owns (by rw [HM.out]; exact ho7)
            rw [HM.out] at k1 k2
            go_wp2_with fail
            go_meet
            exact ⟨A1, c1, A2, c2, by rw [HM.out], by rw [HM.out], hx6.trans hx7, k1, k2⟩
        case rest =>
        obtain ⟨A1, c1, A2, c2, rfl, rfl, hxc, k1, k2⟩ := hcut
        generalize wc = W6 at *
        have HX6 := hid (HXx.out.trans hxc)
        have HK1 := hid k1
        have HK2 := hid k2
        have hm9 : m ≤ 4000 := by have h1 := HL4.out; have h2 := HM.out; omega
        clear hxc k1 k2 HE1 HE2 x0 x1 x2 x3 x4 x5 x6 x7
        go_wp2_with fail
        go_loopw [81] (fun iv wr => ∃ k : Nat, k ≤ m ∧ iv = .int .i64 k ∧ Ext W6 wr) (fun i _ => m - (intOf i).toNat)
        case atStart => exact ⟨0, Nat.zero_le _, rfl, Ext.refl _⟩
        case round =>
          obtain ⟨k, hk, rfl, hxr⟩ := hrel
          have HXl := hid hxr
          clear hxr
          have hk9 : k ≤ 4000 := by omega
          by_cases hlt : k < m
          · obtain ⟨g1, s1, rfl, hs1, d1⟩ := HK1.out k hlt
            obtain ⟨g2, s2, rfl, hs2, d2⟩ := HK2.out k hlt
            obtain rfl : s1 = s2 := Option.some.inj (hs1.symm.trans hs2)
            have d1' := Later.keep (HXl.out.keep d1)
            have d2' := Later.keep (HXl.out.keep d2)
            have i0 : (0 : Int) ≤ (k : Int) := by omega
            have i1 : (k : Int) < (m : Int) := by omega
            have hq := str_refl s1
            have hq2 : (s1.toList != s1.toList) = false := by simp
            clear hs1 hs2 d1 d2
            go_upto_region 25 with fail
            refine wp_region_later (by kernel_rfl) (by kernel_rfl) ?_
            repeat (go_big_quiet_step (fail))
            refine wpQuiet_nil ?_
            first | (intro w9 hw9; have hx9 := later_out hw9; clear hw9) | (rintro w9; have hx9 := later_out ⟨w9, rfl⟩)
            go_wp2_with fail
            go_roundw
            case rel => exact ⟨k + 1, by omega, by go_num, HXl.out.trans hx9⟩
            case measure => simp [intOf]; omega
          · have hkm : m = k := by omega
            subst hkm
            go_wp2_with fail
            go_ret
            exact ⟨rfl, HX6.out.trans HXl.out⟩
  · go_wp2_with (go_at_call 11; (with_reducible refine (HA.out _ HX2.out).mono ?_); rintro _ w2 ⟨rfl, hw2⟩)
    go_ret
    exact ⟨rfl, HX2.out.trans hw2⟩
end Go.Proofs.YtdjdhkbomhendaaGreatDoor
