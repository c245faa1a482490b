/-
  Walks over the pattern package: the finder's find.
-/
import Derived.Test.YtbniemkllhhnfaaW11
namespace Go.Proofs.Ytbniemkllhhnfaa
open Go.RowKit
set_option maxHeartbeats 1000000
set_option maxRecDepth 100000

theorem find_leaf_no (B F M : Nat) (A Al : Option Addr) (ts : List Tst) (n c cl : Nat) (most : Int) (w : World) (st : Fst) (ov tv : Value) (text l : List Nat)
    (hm : Fm B F M A ts n c most w st ov tv text) (hl : Rd w 55 Al (u32s l)) (hn : ts.length = n) (hln : l.length = n) (hlen : n ≤ 1000) (hok : ∀ t ∈ ts, t.p.size ≤ 16) (hls : ∀ s ∈ l, s < 131072)
    (hall : allOk ts l = false) :
    Calls Try.prog 39 #[.pointer (some ⟨F, 0, none⟩), .slice Al n cl, tv, .int .i64 0] w fun e w' => e = .returned (.bool false) ∧ Ext w w' := by
  have HN := hid hn
  have HL := hid hln
  have HO := hid hok
  have HLS := hid hls
  have HM := hid hm
  have hf0 := hm.blk.cell_some (i := 0) (v := .slice A n c) rfl
  have hall' : Hid (allOk (ts.drop 0) (l.drop 0) = false) := hall
  clear hn hln hok hls hall hm
  go_enter Try.func39, Try.ntmps39
  go_wp2_with fail
  go_loopw [24] (fun i wr => ∃ k : Nat, k ≤ n ∧ i = .int .i64 k ∧ allOk (ts.drop k) (l.drop k) = false ∧ Ext w wr) (fun i _ => n - (intOf i).toNat)
  case atStart => exact ⟨0, Nat.zero_le _, rfl, hall'.out, Ext.refl w⟩
  case round =>
    obtain ⟨k, hk, rfl, hak, hxr⟩ := hrel
    have HA := hid hak
    clear hak
    by_cases hlt : k < n
    · have hkl : k < ts.length := by rw [HN.out]; exact hlt
      have hkl2 : k < l.length := by rw [HL.out]; exact hlt
      obtain ⟨t, ht⟩ : ∃ t, ts[k]? = some t := ⟨_, List.getElem?_eq_getElem hkl⟩
      obtain ⟨b, off, rfl, hc0, hc1, hc2, hc3⟩ := (HM.out.tests.ext hxr) k t ht
      obtain ⟨bl, ol, rfl, hcl⟩ := (hl.ext hxr).at_ (u32s_get l k hkl2)
      have hs17 : at0 l k < 131072 := by
        have := HLS.out l[k] (List.getElem_mem hkl2)
        simpa [at0, List.getElem?_eq_getElem hkl2] using this
      have hp16 : t.p.size ≤ 16 := HO.out t (List.mem_of_getElem? ht)
      have hst := hid (allOk_step ts l k t ht hkl2)
      clear ht hkl hkl2
      obtain ⟨hb0, hb1, hb2, hb3⟩ := boxL wr (.int .i64 t.v) (.int .i64 t.kd) (.bool t.ng) (.string t.p) 23
      have hcl' := fun o => Later.keep (w := wr.alloc o) (((Ext.refl wr).alloc o).keep hcl)
      cases hr : (okOf t.kd t.p.size (at0 l k) != t.ng)
      all_goals
        go_wp2_with fail
        refine wp_region_later (by kernel_rfl) (by kernel_rfl) ?_
        repeat (go_big_quiet_step ((go_at_call 35; exact later_of (passed_any t.v t.kd t.ng t.p (at0 l k) _ hp16 hs17))))
        refine wpQuiet_nil ?_
        intro w' hw'
        have hx := later_out hw'
        clear hw' hb0 hb1 hb2 hb3 hcl' hc0 hc1 hc2 hc3 hcl
        go_wp2_with fail
      · go_ret
        exact ⟨rfl, hxr.trans (((Ext.refl wr).alloc _).trans hx)⟩
      · go_roundw
        case rel => exact ⟨k + 1, by omega, by go_num, by have := hst.out; rw [HA.out, hr, Bool.true_and] at this; exact this.symm, hxr.trans (((Ext.refl wr).alloc _).trans hx)⟩
        case measure => simp [intOf]; omega
    · exfalso
      obtain rfl : k = n := by omega
      have := HA.out
      rw [List.drop_eq_nil_of_le (by rw [HN.out]; exact Nat.le_refl _)] at this
      simp [allOk] at this

theorem zero4 (w : World) : (zeroValue 4).run Try.prog w = .ok (.bool false) w := by kernel_rfl

theorem memD_S (dead : List (List Nat)) (kl : List Nat) (h : ∀ x ∈ kl, x < 256) : memD dead (S kl).data.toList = dead.contains kl := by
  have : (S kl).data.toList.map UInt8.toNat = kl := N_S kl h
  unfold memD
  rw [this]

theorem memD_cons (dead : List (List Nat)) (kl : List Nat) (h : ∀ x ∈ kl, x < 256) : (fun x => x == (S kl).data.toList || memD dead x) = memD (kl :: dead) := by
  funext x
  unfold memD
  have e : (x == (S kl).data.toList) = (x.map UInt8.toNat == kl) := by
    rw [Bool.eq_iff_iff, beq_iff_eq, beq_iff_eq]
    have hk : (S kl).data.toList.map UInt8.toNat = kl := N_S kl h
    constructor
    · intro h1; rw [h1, hk]
    · intro h1
      rw [← hk] at h1
      exact (List.map_inj_right (f := UInt8.toNat) fun a b h => UInt8.toNat_inj.1 h).1 h1
  rw [e, List.contains_cons]
/-- one more state from which nothing is found -/
theorem Fm.add {B F M : Nat} {A : Option Addr} {ts : List Tst} {n c : Nat} {most : Int} {w w6 : World} {st : Fst} {ov tv : Value} {text : List Nat} (h : Fm B F M A ts n c most w st ov tv text) (kl : List Nat) (hkl : ∀ x ∈ kl, x < 256)
    (hs : SetMap w6 Try.prog 9 4 M (st.dead.length + 1) (fun x => x == (S kl).data.toList || memD st.dead x)) (hg : w.grownBy w6 (some M)) :
    Fm B F M A ts n c most w6 { st with dead := kl :: st.dead } ov tv text ∧ Fr w w6 F M ov ov tv := by
  rw [memD_cons st.dead kl hkl] at hs
  have hB1 : ∀ g, g < B → w6.heap[g]? = w.heap[g]? := fun g hl => hg.block g (Nat.lt_of_lt_of_le hl h.hBw) (fun e => by injection e with e; have := h.hBM; omega)
  refine ⟨⟨h.hBF, h.hBM, Nat.le_trans h.hBw hg.size, h.blk.grown hg (fun e => by injection e with e; exact h.neFM e), h.tests.block h.old hB1, h.old,
    own_block h.out fun g hl => hg.block g (own_lt h.out hl) (fun e => h.neM (by rw [hl, e])), hs, own_block h.txt fun g hl => hg.block g (own_lt h.txt hl) (fun e => h.txM (by rw [hl, e]))⟩, ?_⟩
  exact ⟨hg.os, hg.tape, hg.output, hg.size, fun g hl _ hM _ _ => hg.block g hl (fun e => by injection e with e; exact hM e), .inl rfl⟩

def FindSaid (left : Nat) : Prop := ∀ (B F M : Nat) (A Al : Option Addr) (ts : List Tst) (n c cl : Nat) (most : Int) (z : Int) (w : World) (st : Fst) (ov tv : Value) (text l : List Nat),
    z = left → left ≤ 200 → text.length + left ≤ 1000 → Fm B F M A ts n c most w st ov tv text → Rd w 55 Al (u32s l) → ts.length = n → okL ts l → n ≤ 1000 → (∀ t ∈ ts, t.p.size ≤ 16) →
    (fnd ts most left l text st).2.out.length < 1000000 → (fnd ts most left l text st).2.dead.length < 4611686018427387904 →
    Calls Try.prog 39 #[.pointer (some ⟨F, 0, none⟩), .slice Al n cl, tv, .int .i64 z] w fun e w' =>
      ∃ ov', e = .returned (.bool (fnd ts most left l text st).1) ∧ Fm B F M A ts n c most w' (fnd ts most left l text st).2 ov' tv text ∧ Fr w w' F M ov ov' tv

theorem find_zero : FindSaid 0 := by
  intro B F M A Al ts n c cl most z w st ov tv text l hz _ _ hm hl hn hok hlen hts hout _
  subst hz
  have hls := okL_lt ts l hts hok
  cases ha : allOk ts l
  · have e : fnd ts most 0 l text st = (false, st) := by unfold fnd; simp [ha]
    rw [e]
    refine (find_leaf_no B F M A Al ts n c cl most w st ov tv text l hm hl hn (hok.1.trans hn) hlen hts hls ha).mono ?_
    rintro e w' ⟨rfl, hx⟩
    exact ⟨ov, rfl, hm.ext hx, Fr.of_ext hx F M ov tv⟩
  · have e : fnd ts most 0 l text st = (true, { st with out := st.out ++ [text] }) := by unfold fnd; simp [ha]
    rw [e] at hout ⊢
    exact find_leaf B F M A Al ts n c cl most w st ov tv text l hm hl hn (hok.1.trans hn) hlen hts hls (by simp at hout; omega) ha

theorem info55' : (Try.prog.info? 55).map (fun i => (i.zero, i.size, i.bytes)) = some (some (.int .u32 0), 1, 4) := info55

theorem find_succ (m : Nat) (ih : FindSaid m) : FindSaid (m + 1) := by
  intro B F M A Al ts n c cl most z w st ov tv text l hz hleft htx hm hl hn hok hlen hts hout hdead
  obtain ⟨i0, hi, hz0, hz1, hz2⟩ := info_parts info55
  obtain ⟨j0, hj, hj0, hj1, hj2⟩ := info_parts info5
  have hz1' : (z == 0) = false := by simp; omega
  have HZ := hid hz
  have HN := hid hn
  have HM := hid hm
  have HK := hid hok
  have HT := hid hts
  have HO := hid hout
  have HD := hid hdead
  have hls := okL_lt ts l hts hok
  have HLS := hid hls
  have hln := hid (hok.1.trans hn)
  clear hn hm hok hts hout hdead hls
  by_cases hde : st.dead.contains (keyL l (m + 1)) = true
  · have hf3 := HM.out.blk.cell_some (i := 3) (v := .map (some M)) rfl
    have e : Hid (fnd ts most (m + 1) l text st = (false, st)) := by unfold Hid fnd; rw [if_pos hde]
    have HDE := hid hde
    clear hde
    have hkl := hid (keyL_lt l (m + 1))
    have hksz : Hid ((S (keyL l (m + 1))).size ≤ maxLen) := by unfold Hid; rw [S_size, keyL_len, hln.out]; unfold maxLen; omega
    clear hz
    obtain rfl : z = ((m + 1 : Nat) : Int) := HZ.out
    go_enter Try.func39, Try.ntmps39
    go_wp2_with fail
    refine (key_any Al l n cl (m + 1) w hl hln.out hlen HLS.out (by omega)).mono ?_
    rintro e1 w1 ⟨rfl, hx1⟩
    have hf3' := hx1.keep hf3
    have hlook := (HM.out.dead.ext hx1).look (t := 63) Try.underlying9 Try.underlying63 Try.underlying4 (zero4 w1) (S (keyL l (m + 1))) hksz.out
    rw [memD_S _ _ hkl.out, HDE.out] at hlook
    go_wp2_with fail
    go_ret
    rw [e.out]
    exact ⟨ov, rfl, HM.out.ext hx1, Fr.of_ext hx1 F M ov tv⟩
  · have hf3 := HM.out.blk.cell_some (i := 3) (v := .map (some M)) rfl
    have hde2 : st.dead.contains (keyL l (m + 1)) = false := by simpa using hde
    have HDE := hid hde2
    have hF : fnd ts most (m + 1) l text st = (let r := fndLoop most (fun c s => fnd ts most m (nxs ts l c) (text ++ [c]) s) (cfrom 32) false st
      if r.1 then (true, r.2) else (false, { r.2 with dead := keyL l (m + 1) :: r.2.dead })) := by
      conv => lhs; unfold fnd
      rw [if_neg hde]; rfl
    clear hde hde2
    have hFr : (fndLoop most (fun c s => fnd ts most m (nxs ts l c) (text ++ [c]) s) (cfrom 32) false st).2.out.length < 1000000 ∧ (fndLoop most (fun c s => fnd ts most m (nxs ts l c) (text ++ [c]) s) (cfrom 32) false st).2.dead.length < 4611686018427387904 := by
      have h1 := HO.out
      have h2 := HD.out
      rw [hF] at h1 h2
      revert h1 h2
      generalize fndLoop most (fun c s => fnd ts most m (nxs ts l c) (text ++ [c]) s) (cfrom 32) false st = r
      dsimp only
      split
      · exact fun h1 h2 => ⟨h1, h2⟩
      · intro h1 h2; simp at h1 h2; exact ⟨h1, by omega⟩
    have HF := hid hF
    have HFR := hid hFr
    have hkl := hid (keyL_lt l (m + 1))
    have hksz : Hid ((S (keyL l (m + 1))).size ≤ maxLen) := by unfold Hid; rw [S_size, keyL_len, hln.out]; unfold maxLen; omega
    clear hz hF hFr HO HD
    obtain rfl : z = ((m + 1 : Nat) : Int) := HZ.out
    have hnl : Hid (n ≤ 9223372036854775807) := by unfold Hid; omega
    go_enter Try.func39, Try.ntmps39
    go_wp2_with fail
    refine (key_any Al l n cl (m + 1) w hl hln.out hlen HLS.out (by omega)).mono ?_
    rintro e1 w1 ⟨rfl, hx1⟩
    have hf3' := hx1.keep hf3
    have hlook := (HM.out.dead.ext hx1).look (t := 63) Try.underlying9 Try.underlying63 Try.underlying4 (zero4 w1) (S (keyL l (m + 1))) hksz.out
    rw [memD_S _ _ hkl.out, HDE.out] at hlook
    have HM1 := hid (HM.out.ext hx1)
    have hl1 := hl.ext hx1
    go_wp2_with fail
    clear hlook hf3 hf3'
    go_loopw [12, 13] (fun fv cv wr => ∃ (ch : Nat) (fb : Bool) (st1 : Fst) (ov1 : Value), 32 ≤ ch ∧ ch ≤ 127 ∧ cv = .int .i32 ch ∧ fv = .bool fb ∧ Fm B F M A ts n c most wr st1 ov1 tv text ∧ Fr w1 wr F M ov ov1 tv ∧
        fndLoop most (fun c s => fnd ts most m (nxs ts l c) (text ++ [c]) s) (cfrom ch) fb st1 = fndLoop most (fun c s => fnd ts most m (nxs ts l c) (text ++ [c]) s) (cfrom 32) false st)
      (fun _ cv _ => 127 - (intOf cv).toNat)
    case atStart => exact ⟨32, false, st, ov, by omega, by omega, rfl, rfl, HM1.out, Fr.refl _ _ _ _ _, rfl⟩
    case round =>
      obtain ⟨ch, fb, st1, ov1, hc32, hc127, rfl, rfl, hm1, hfr1, hlp⟩ := hrel
      have HM2 := hid hm1
      have HR1 := hid hfr1
      have HLP := hid hlp
      have hlr := hfr1.rd HM1.out hl1
      have hb0 := Later.keep (hm1.blk.cell_some (i := 0) (v := .slice A n c) rfl)
      have hb1 := Later.keep (hm1.blk.cell_some (i := 1) (v := .int .i64 most) rfl)
      have hb2 := Later.keep (hm1.blk.cell_some (i := 2) (v := ov1) rfl)
      obtain ⟨ao, co, hov⟩ : ∃ ao co, ov1 = .slice ao st1.out.length co := by
        rcases hm1.out.2 with ⟨h1, h2⟩ | ⟨g, cap, cur, h1, _⟩
        · exact ⟨none, 0, by rw [h1, h2]⟩
        · exact ⟨_, _, h1⟩
      subst hov
      clear hm1 hfr1 hlp
      by_cases hgo : ch < 127 ∧ (st1.out.length : Int) < most
      · obtain ⟨hc, hmo⟩ := hgo
        have hwc : IntKind.u8.wrap (ch : Int) = (ch : Int) := by rw [IntKind.wrap_u8']; omega
        have hcd : decide ((ch : Int) ≤ 126) = true := by simp; omega
        have hmd : decide ((st1.out.length : Int) < most) = true := by simpa using hmo
        go_wp2_with fail
        refine wp_region_later (by kernel_rfl) (by kernel_rfl) ?_
        repeat (go_big_quiet_step (fail))
        refine wpQuiet_nil ?_
        intro wa hwa
        have hxa := later_out hwa
        clear hwa hb0 hb1 hb2
        have hlra := hlr.ext hxa
        have hma := HM2.out.ext hxa
        have hta := hma.tests
        have HMA := hid hma
        have hba := hma.blk.cell_some (i := 0) (v := .slice A n c) rfl
        have HXA := hid hxa
        have HLA := hid hlra
        clear hma hxa hlr
        go_wp2_with (at_make; refine wpList_mk rfl _ _ 67 rfl 55 i0 (.int .u32 0) Try.underlying67 hi hz0 hz1 rfl _ _ _ _ n rfl rfl (by omega) (by omega) (by rw [hz2]; omega) hnl.out ?_; intro w2 hx2 hsz2 hb2; have hba2 := hx2.keep hba; have HB2 := hid hb2; have HS2 := hid hsz2; clear hb2 hsz2)
        have hl2 := hlra.ext hx2
        have ht2 := hta.ext hx2
        have HX2 := hid hx2
        obtain ⟨gm, hgm⟩ : ∃ gm, gm = wa.heap.size := ⟨_, rfl⟩
        rw [← hgm] at HB2 HS2 ⊢
        have HG := hid hgm
        clear hgm hx2 hlra hta hba
        obtain ⟨wo, rfl⟩ : ∃ wo : World, wo = wr := ⟨_, rfl⟩
        go_loopw [81] (fun iv wi => ∃ k : Nat, k ≤ n ∧ iv = .int .i64 k ∧ Blk wi gm 55 (u32s (nxk ts l ch k)) ∧ Onl gm w2 wi) (fun iv _ => n - (intOf iv).toNat)
        case atStart =>
          refine ⟨0, Nat.zero_le _, rfl, ?_, Onl.refl _ _⟩
          rw [nxk_zero, HN.out]
          have e : u32s (List.replicate n 0) = List.replicate n (Value.int .u32 0) := by simp [u32s]
          rw [e]; exact HB2.out
        case round =>
          obtain ⟨k, hk, rfl, hbk, hok⟩ := hrel
          by_cases hlt : k < n
          · obtain ⟨t, ht⟩ : ∃ t, ts[k]? = some t := ⟨_, List.getElem?_eq_getElem (by rw [HN.out]; exact hlt)⟩
            have hkl : k < l.length := by rw [hln.out]; exact hlt
            have hgx : Ext wa wr := hok.ext HX2.out (by rw [HG.out]; exact Nat.le_refl _)
            obtain ⟨b, off, rfl, hc0, hc1, hc2, hc3⟩ := (HMA.out.tests.ext hgx) k t ht
            obtain ⟨bl, ol, rfl, hcl⟩ := (HLA.out.ext hgx).at_ (u32s_get l k hkl)
            have hp16 : t.p.size ≤ 16 := HT.out t (List.mem_of_getElem? ht)
            have hst := HK.out.2 k t ht
            rw [← N_len] at hst
            have hblen : k < (nxk ts l ch k).length := by rw [nxk_len ts l ch k HK.out.1 (by rw [HN.out]; exact hk), HN.out]; exact hlt
            have hgk := hbk.cell_some (u32s_get _ k hblen)
            have HTT := hid ht
            have HBK := hid hbk
            clear ht hkl hblen hbk
            have hblgm : bl ≠ gm := by
              have h1 := (HLA.out.at_ (u32s_get l k (by rw [hln.out]; exact hlt)))
              obtain ⟨b1, o1, e1, h1⟩ := h1
              injection e1 with e1
              injection e1 with e1 e2
              have := cell_lt h1
              have := HG.out
              intro e3
              simp only at *
              omega
            have hgmw : gm < wr.heap.size := HBK.out.lt
            have hk0 : (0 : Int) ≤ (k : Int) := by omega
            have hkn : (k : Int) < (n : Int) := by omega
            go_wp2_with fail
            go_region_held3 (fun w' => w'.cell? ⟨wr.heap.size, 0, none⟩ = some (.int .i64 t.v) ∧ w'.cell? ⟨wr.heap.size, 1, none⟩ = some (.int .i64 t.kd) ∧ w'.cell? ⟨wr.heap.size, 2, none⟩ = some (.bool t.ng) ∧ w'.cell? ⟨wr.heap.size, 3, none⟩ = some (.string t.p) ∧ w'.cell? ⟨bl, ol + k, none⟩ = some (.int .u32 ((at0 l k : Nat) : Int)))
              (first | (refine ⟨?_, ?_, ?_, ?_, ?_⟩ <;> (refine hx3.keep ?_; (simp [*]; done))) | (refine ⟨?_, ?_, ?_, ?_, ?_⟩ <;> (rw [cell_set_far _ _ _ _ (by simp; omega)]; (simp [*]; done))) | go_keep)
              (first | (go_at_call 34; refine (next_any t.v t.kd t.ng t.p (at0 l k) ch _ hp16 hst).mono ?_; rintro e w3 ⟨rfl, hx3⟩; have hbk3 := (HBK.out.ext ((((Ext.refl wr).alloc _).drew).trans hx3)); have hfk3 := hbk3.frozen k; have hck3 := (((Ext.refl wr).alloc _).drew.trans hx3).keep hgk))
            go_wp2_with fail
            go_roundw
            case rel =>
              refine ⟨k + 1, by omega, by go_num, ?_, (hok.trans (Onl.of_ext ((((Ext.refl wr).alloc _).drew).trans hx3) gm)).setCell k _⟩
              have hs := hbk3.set k (.int .u32 ((nx t.kd (N t.p) (at0 l k) ch : Nat) : Int))
              rw [← u32s_set, nxk_step ts l ch k t HK.out.1 HTT.out] at hs
              exact hs
            case measure => simp [intOf]; omega
          · obtain rfl : k = n := by omega
            have hgx : Ext wa wr := hok.ext HX2.out (by rw [HG.out]; exact Nat.le_refl _)
            have hnk : Hid (nxk ts l ch k = nxs ts l ch) := by rw [← HN.out]; exact nxk_all ts l ch HK.out.1
            have HB3 : Hid (Blk wr gm 55 (u32s (nxs ts l ch))) := by rw [← hnk.out]; exact hbk
            have HG3 := hid hgx
            have hown3 := (HMA.out.ext hgx).txt
            clear hbk hok
            go_wp2_with (at_builtin; refine wpList_app _ rfl (.tmp 100) (.tmp 103) 57 rfl B 5 j0 (.int .u8 0) 1 Try.underlying57 hj hj0 hj1 hj2 rfl tv text.length (u8s text) rfl (own_ext hown3 ((Ext.refl _).alloc _)) ⟨wr.heap.size, 0, none⟩ 1 1 [Value.int .u8 (ch : Int)] rfl rfl (news_new _ _ _) (by intro u hu; simp at hu; subst hu; rfl) (by unfold maxLen; omega) (by omega) (by have := HMA.out.hBw; have := HG3.out.size; simp; omega) ?_; intro v4 w4 ho4 hg4 ha4 hold4 hpre4; have HO4 := hid ho4; have HG4 := hid hg4; have HA4 := hid ha4; have HOLD := hid hold4; have HPRE := hid hpre4; clear ho4 hg4 ha4 hold4 hpre4)
            have hlp2 := HLP.out
            rw [cfrom_cons ch hc, fndLoop, if_pos hmo] at hlp2
            dsimp only at hlp2
            generalize hrr : fnd ts most m (nxs ts l ch) (text ++ [ch]) st1 = r at hlp2
            have hmono := fndLoop_mono most (fun c s => fnd ts most m (nxs ts l c) (text ++ [c]) s) (fun c s => fnd_mono ts most m _ _ _) (cfrom (ch + 1)) (fb || r.1) r.2
            rw [hlp2] at hmono
            have e8 : u8s (text ++ [ch]) = u8s text ++ [Value.int .u8 (ch : Int)] := by rw [u8s_app]; rfl
            have hm3 := (HMA.out.ext hgx).ext ((Ext.refl wr).alloc (.cells #[Value.int .u8 (ch : Int)] 5))
            have hm4 := hm3.append (x := text ++ [ch]) HG4.out (by rw [e8, List.length_append]; exact HO4.out)
            have hgt : some gm ≠ tv.ownBlock := fun e => by
              obtain ⟨cur, hh⟩ := own_type hm3.txt e.symm
              have := HB3.out.ext ((Ext.refl wr).alloc (.cells #[Value.int .u8 (ch : Int)] 5))
              unfold Blk at this
              rw [hh] at this
              injection this with this
              injection this with _ this
              exact absurd this (by decide)
            have hb4 := (HB3.out.ext ((Ext.refl wr).alloc (.cells #[Value.int .u8 (ch : Int)] 5))).grown HG4.out hgt
            refine (ih B F M A _ ts k c k most _ w4 st1 (.slice ao st1.out.length co) v4 (text ++ [ch]) (nxs ts l ch) (by omega) (by omega) (by simp; omega) hm4 ?_ HN.out (nxs_ok ts l ch HT.out HK.out) hlen HT.out ?_ ?_).mono ?_
            · exact .inr ⟨gm, 0, _, _, rfl, hb4, fun i v h => by simpa using h⟩
            · rw [hrr]; exact Nat.lt_of_le_of_lt hmono.1 HFR.out.1
            · rw [hrr]; exact Nat.lt_of_le_of_lt hmono.2 HFR.out.2
            rintro e5 w5 ⟨ov2, rfl, h5, hf5⟩
            rw [hrr] at h5 ⊢
            obtain ⟨b5, f5⟩ := Fm.back hm3 HG4.out HA4.out HOLD.out (x := text ++ [ch]) (fun e w2 h => HPRE.out e w2 (by rw [e8, List.length_append] at h; exact h)) h5 hf5
            have HB5 := hid b5
            have HF5 := hid f5
            have HLP2 := hid hlp2
            obtain ⟨rb, rs⟩ := r
            clear hm3 hm4 h5 hf5 hlp2 hmono hrr b5 f5 hown3 hb4 hgt
            cases rb
            all_goals
              go_wp2_with fail
              go_roundw
              case measure => simp [intOf]; omega
              case rel =>
                refine ⟨ch + 1, _, rs, ov2, by omega, by omega, by go_num, rfl, HB5.out, ?_, ?_⟩
                · exact (HR1.out.trans (Fr.of_ext (HXA.out.trans (HG3.out.trans ((Ext.refl wr).alloc (.cells #[Value.int .u8 (ch : Int)] 5)))) F M _ tv)).trans HF5.out
                · have := HLP2.out
                  first | (rw [Bool.or_false] at this; exact this) | (rw [Bool.or_true] at this; exact this)
      · have hfin : Hid (fndLoop most (fun c s => fnd ts most m (nxs ts l c) (text ++ [c]) s) (cfrom 32) false st = (fb, st1)) := by
          rw [← HLP.out]
          by_cases hc : ch < 127
          · rw [cfrom_cons ch hc, fndLoop, if_neg (fun h => hgo ⟨hc, h⟩)]; exact rfl
          · rw [cfrom_nil ch (by omega), fndLoop]; exact rfl
        have hres : Hid (fnd ts most (m + 1) l text st = if fb then (true, st1) else (false, { st1 with dead := keyL l (m + 1) :: st1.dead })) := by
          rw [HF.out, hfin.out]; exact rfl
        have hbd : Hid (st1.dead.length < 4611686018427387904) := by have := HFR.out.2; rw [hfin.out] at this; exact this
        have hcase : (decide ((ch : Int) ≤ 126) = false ∨ decide ((ch : Int) ≤ 126) = true ∧ decide ((st1.out.length : Int) < most) = false) := by
          by_cases hc : ch < 127
          · right
            refine ⟨by simp; omega, ?_⟩
            simp only [decide_eq_false_iff_not]
            exact fun h => hgo ⟨hc, h⟩
          · left; simp; omega
        clear hgo
        rcases hcase with hcd | ⟨hcd, hmd⟩
        all_goals
          go_wp2_with fail
          refine wp_region_later (by kernel_rfl) (by kernel_rfl) ?_
          repeat (go_big_quiet_step (fail))
          refine wpQuiet_nil ?_
          intro wa hwa
          have hxa := later_out hwa
          clear hwa hb0 hb1 hb2
          have hma := HM2.out.ext hxa
          have HFA : Hid (Fr w1 wa F M ov (Value.slice ao st1.out.length co) tv) := HR1.out.trans (Fr.of_ext hxa F M _ tv)
          have hba3 := hma.blk.cell_some (i := 3) (v := .map (some M)) rfl
          have HMA := hid hma
          clear hma hxa
          cases fb
          · go_wp2_with (at_mapUpdate; refine wpList_add rfl _ _ _ 63 rfl Try.underlying9 Try.underlying63 Try.underlying4 rfl HMA.out.dead (by have := hbd.out; unfold maxLen; omega) (S (keyL l (m + 1))) hksz.out rfl rfl ?_; intro w6 hs6 hg6; have HS6 := hid hs6; have HG6 := hid hg6; clear hs6 hg6)
            go_ret
            have hr := hres.out
            simp only [Bool.false_eq_true, if_false] at hr
            rw [hr]
            obtain ⟨r1, r2⟩ := HMA.out.add (keyL l (m + 1)) hkl.out HS6.out HG6.out
            exact ⟨_, rfl, r1, ((Fr.of_ext hx1 F M ov tv).trans HFA.out).trans r2⟩
          · go_wp2_with fail
            go_ret
            have hr := hres.out
            simp only [if_true] at hr
            rw [hr]
            first
            | exact ⟨_, rfl, HMA.out, (Fr.of_ext hx1 F M ov tv).trans HFA.out⟩
            | exact ⟨rfl, _, HMA.out, (Fr.of_ext hx1 F M ov tv).trans HFA.out⟩

theorem find_any (left : Nat) : FindSaid left := by
  induction left with
  | zero => exact find_zero
  | succ m ih => exact find_succ m ih

end Go.Proofs.Ytbniemkllhhnfaa
