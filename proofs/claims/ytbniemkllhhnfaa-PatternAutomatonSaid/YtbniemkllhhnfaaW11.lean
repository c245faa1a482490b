/-
  Walks over the pattern package: the finder's find, its memory; the case of no characters left.
-/
import Derived.Test.YtbniemkllhhnfaaW10
import Derived.Deep.RegionLaw
namespace Go.Proofs.Ytbniemkllhhnfaa
open Go.RowKit
set_option maxHeartbeats 1000000
set_option maxRecDepth 100000

theorem info9 : (Try.prog.info? 9).map (fun i => (i.zero, i.size, i.bytes)) = some (some (.string ⟨#[]⟩), 1, 16) := by kernel_rfl

theorem own_form {w : World} {B e n : Nat} {v : Value} {xs : List Value} (h : w.ownsRow B e 1 v n xs) (hn : 0 < n) : ∃ g cap, v = .slice (some ⟨g, 0, none⟩) n cap := by
  rcases h.2 with ⟨_, h0⟩ | ⟨g, cap, cur, hv, _⟩
  · omega
  · exact ⟨g, cap, hv⟩
def strs (l : List (List Nat)) : List Value := l.map fun t => .string (S t)
/-- keys as a map sees them -/
def memD (dead : List (List Nat)) : List UInt8 → Bool := fun x => dead.contains (x.map UInt8.toNat)

/-- What the finder's memory is, in the course of a search: its block F, its map M, what has been found (ov), the text so far (tv). -/
structure Fm (B F M : Nat) (A : Option Addr) (ts : List Tst) (n c : Nat) (most : Int) (w : World) (st : Fst) (ov tv : Value) (text : List Nat) : Prop where
  hBF : B ≤ F
  hBM : B ≤ M
  hBw : B ≤ w.heap.size
  blk : Blk w F 65 [.slice A n c, .int .i64 most, ov, .map (some M)]
  tests : TsAt w A ts
  old : ts ≠ [] → ∀ b, A = some b → b.block < B
  out : w.ownsRow B 9 1 ov st.out.length (strs st.out)
  dead : SetMap w Try.prog 9 4 M st.dead.length (memD st.dead)
  txt : w.ownsRow B 5 1 tv text.length (u8s text)

/-- What a step of the search leaves as it was. -/
structure Fr (w w' : World) (F M : Nat) (ov ov' tv : Value) : Prop where
  os : w'.os = w.os
  tape : w'.tape = w.tape
  output : w'.output = w.output
  size : w.heap.size ≤ w'.heap.size
  block : ∀ g, g < w.heap.size → g ≠ F → g ≠ M → ov.ownBlock ≠ some g → tv.ownBlock ≠ some g → w'.heap[g]? = w.heap[g]?
  row : ov'.ownBlock = ov.ownBlock ∨ ∃ k, w.heap.size ≤ k ∧ ov'.ownBlock = some k

theorem Fr.refl (w : World) (F M : Nat) (ov tv : Value) : Fr w w F M ov ov tv :=
  ⟨rfl, rfl, rfl, Nat.le_refl _, fun _ _ _ _ _ _ => rfl, .inl rfl⟩
theorem Fr.trans {a b c : World} {F M : Nat} {ov o2 o3 tv : Value} (h : Fr a b F M ov o2 tv) (k : Fr b c F M o2 o3 tv) : Fr a c F M ov o3 tv where
  os := k.os.trans h.os
  tape := k.tape.trans h.tape
  output := k.output.trans h.output
  size := Nat.le_trans h.size k.size
  block g hg h1 h2 h3 h4 := by
    refine (k.block g (Nat.lt_of_lt_of_le hg h.size) h1 h2 ?_ h4).trans (h.block g hg h1 h2 h3 h4)
    rcases h.row with e | ⟨j, hj, e⟩
    · rw [e]; exact h3
    · rw [e]; intro e2; injection e2 with e2; omega
  row := by
    rcases k.row with e | ⟨j, hj, e⟩
    · rw [e]; exact h.row
    · exact .inr ⟨j, Nat.le_trans h.size hj, e⟩
theorem Fr.of_ext {w w' : World} (h : Ext w w') (F M : Nat) (ov tv : Value) : Fr w w' F M ov ov tv :=
  ⟨Below.os h, Below.tape h, Below.output h, Below.size h, fun g hg _ _ _ _ => Below.block h g hg, .inl rfl⟩
theorem Fm.ext {B F M : Nat} {A : Option Addr} {ts : List Tst} {n c : Nat} {most : Int} {w w' : World} {st : Fst} {ov tv : Value} {text : List Nat} (h : Fm B F M A ts n c most w st ov tv text) (hx : Ext w w') : Fm B F M A ts n c most w' st ov tv text :=
  ⟨h.hBF, h.hBM, Nat.le_trans h.hBw hx.size, h.blk.ext hx, h.tests.ext hx, h.old, own_ext h.out hx, h.dead.ext hx, own_ext h.txt hx⟩

theorem allOk_step (ts : List Tst) (l : List Nat) (k : Nat) (t : Tst) (ht : ts[k]? = some t) (hl : k < l.length) : allOk (ts.drop k) (l.drop k) = ((okOf t.kd t.p.size (at0 l k) != t.ng) && allOk (ts.drop (k + 1)) (l.drop (k + 1))) := by
  obtain ⟨hk, rfl⟩ := List.getElem?_eq_some_iff.1 ht
  rw [List.drop_eq_getElem_cons hk, List.drop_eq_getElem_cons hl, allOk]
  simp [at0, List.getElem?_eq_getElem hl]

theorem own_block {w w' : World} {B e n : Nat} {v : Value} {xs : List Value} (h : w.ownsRow B e 1 v n xs) (hk : ∀ g, v.ownBlock = some g → w'.heap[g]? = w.heap[g]?) : w'.ownsRow B e 1 v n xs := by
  obtain ⟨h1, h2⟩ := h
  refine ⟨h1, ?_⟩
  rcases h2 with h2 | ⟨g, cap, cur, rfl, hg, hh, r⟩
  · exact .inl h2
  · exact .inr ⟨g, cap, cur, rfl, hg, (hk g rfl).trans hh, r⟩
theorem TsAt.block {w w' : World} {A : Option Addr} {ts : List Tst} {B : Nat} (h : TsAt w A ts) (old : ts ≠ [] → ∀ b, A = some b → b.block < B) (hk : ∀ g, g < B → w'.heap[g]? = w.heap[g]?) : TsAt w' A ts := fun i t ht => by
  obtain ⟨b, off, hA, h0, h1, h2, h3⟩ := h i t ht
  have hb := hk b (old (by rintro rfl; simp at ht) _ hA)
  exact ⟨b, off, hA, (World.cell?_of_block (w := w) hb).trans h0, (World.cell?_of_block (w := w) hb).trans h1, (World.cell?_of_block (w := w) hb).trans h2, (World.cell?_of_block (w := w) hb).trans h3⟩
section
variable {B F M : Nat} {A : Option Addr} {ts : List Tst} {n c : Nat} {most : Int} {w w' : World} {st : Fst} {ov tv : Value} {text : List Nat}
theorem Fm.neF (h : Fm B F M A ts n c most w st ov tv text) : ov.ownBlock ≠ some F := fun e => by
  obtain ⟨cur, hh⟩ := own_type h.out e
  have := h.blk
  unfold Blk at this
  rw [hh] at this
  injection this with this
  injection this with _ this
  exact absurd this (by decide)
theorem Fm.map_at (h : Fm B F M A ts n c most w st ov tv text) : ∃ es cl, w.heap[M]? = some (.map es cl) := by
  obtain ⟨D, ⟨es, cl, hb, _⟩, _⟩ := h.dead
  exact ⟨es, cl, hb⟩
theorem Fm.neM (h : Fm B F M A ts n c most w st ov tv text) : ov.ownBlock ≠ some M := fun e => by
  obtain ⟨cur, hh⟩ := own_type h.out e
  obtain ⟨es, cl, hb⟩ := h.map_at
  rw [hh] at hb
  cases hb
theorem Fm.neFM (h : Fm B F M A ts n c most w st ov tv text) : F ≠ M := fun e => by
  obtain ⟨es, cl, hb⟩ := h.map_at
  have := h.blk
  unfold Blk at this
  rw [e, hb] at this
  cases this
theorem Fm.txF (h : Fm B F M A ts n c most w st ov tv text) : tv.ownBlock ≠ some F := fun e => by
  obtain ⟨cur, hh⟩ := own_type h.txt e
  have := h.blk
  unfold Blk at this
  rw [hh] at this
  injection this with this
  injection this with _ this
  exact absurd this (by decide)
theorem Fm.txM (h : Fm B F M A ts n c most w st ov tv text) : tv.ownBlock ≠ some M := fun e => by
  obtain ⟨cur, hh⟩ := own_type h.txt e
  obtain ⟨es, cl, hb⟩ := h.map_at
  rw [hh] at hb
  cases hb
theorem Fm.txO (h : Fm B F M A ts n c most w st ov tv text) {g : Nat} (e : tv.ownBlock = some g) : ov.ownBlock ≠ some g := fun e2 => by
  obtain ⟨cur, hh⟩ := own_type h.txt e
  obtain ⟨cur2, hh2⟩ := own_type h.out e2
  rw [hh] at hh2
  injection hh2 with this
  injection this with _ this
  exact absurd this (by decide)
theorem Fm.leaf (h : Fm B F M A ts n c most w st ov tv text) (o : Obj) {w2 : World} {v' : Value} (hg2 : (w.alloc o).drew.grownBy w2 ov.ownBlock)
    (ho2 : w2.ownsRow B 9 1 v' (st.out.length + 1) (strs st.out ++ [.string (S text)])) (ha2 : v'.ownBlock = ov.ownBlock ∨ v'.ownBlock = some (w.alloc o).drew.heap.size) :
    Fm B F M A ts n c most (w2.setCell ⟨F, 2, none⟩ v') { st with out := st.out ++ [text] } v' tv text ∧ Fr w (w2.setCell ⟨F, 2, none⟩ v') F M ov v' tv := by
  have hx : Ext w (w.alloc o).drew := ((Ext.refl w).alloc o).drew
  have h1 := h.ext hx
  have blk2 : ∀ g, g < w.heap.size → g ≠ F → ov.ownBlock ≠ some g → (w2.setCell ⟨F, 2, none⟩ v').heap[g]? = w.heap[g]? := fun g hg hF ho => by
    rw [Below.heap_setCell _ _ _ _ (show g ≠ (⟨F, 2, none⟩ : Addr).block from hF), hg2.block g (Nat.lt_of_lt_of_le hg hx.size) (fun e => ho e.symm)]
    exact Below.block hx g hg
  have hMlt := h.dead.lt
  have hB1 : ∀ g, g < B → (w2.setCell ⟨F, 2, none⟩ v').heap[g]? = w.heap[g]? := fun g hg =>
    blk2 g (Nat.lt_of_lt_of_le hg h.hBw) (by have := h.hBF; omega) (fun e => by have := own_ge h.out e; omega)
  have hF2 := (h1.blk.grown hg2 (Ne.symm h1.neF)).set 2 v'
  have hvF : v'.ownBlock ≠ some F := fun e => by
    obtain ⟨cur, hh⟩ := own_type ho2 e
    have := h1.blk.grown hg2 (Ne.symm h1.neF)
    unfold Blk at this
    rw [hh] at this
    injection this with this
    injection this with _ this
    exact absurd this (by decide)
  have hsz : w.heap.size ≤ w2.heap.size := Nat.le_trans hx.size hg2.size
  refine ⟨⟨h.hBF, h.hBM, ?_, hF2, h.tests.block h.old hB1, h.old, ?_, ?_, ?_⟩, ?_⟩
  · have := h.hBw; simp [World.setCell]; omega
  · have e : strs (st.out ++ [text]) = strs st.out ++ [.string (S text)] := by simp [strs]
    simp only [e, List.length_append, List.length_singleton]
    refine own_block ho2 fun g hg => Below.heap_setCell _ _ _ _ ?_
    intro e; subst e; exact hvF hg
  · refine (h1.dead.kept hg2 (Ne.symm h1.neM)).far ?_ _
    exact fun e => h.neFM e.symm
  · refine own_block h.txt fun g hg => blk2 g (own_lt h.txt hg) ?_ (h.txO hg)
    intro e; subst e; exact h.txF hg
  · refine ⟨?_, ?_, ?_, by simp [World.setCell]; omega, fun g hg hF hM ho ht => blk2 g hg hF ho, ?_⟩
    · show w2.os = w.os
      rw [hg2.os]; exact Below.os hx
    · show w2.tape = w.tape
      rw [hg2.tape]; exact Below.tape hx
    · show w2.output = w.output
      rw [hg2.output]; exact Below.output hx
    · rcases ha2 with e | e
      · exact .inl e
      · exact .inr ⟨_, hx.size, e⟩
/-- one character more in the text -/
theorem Fm.append (h : Fm B F M A ts n c most w st ov tv text) {w4 : World} {v' : Value} {x : List Nat} (hg4 : w.grownBy w4 tv.ownBlock) (ho4 : w4.ownsRow B 5 1 v' x.length (u8s x)) : Fm B F M A ts n c most w4 st ov v' x := by
  have hB1 : ∀ g, g < B → w4.heap[g]? = w.heap[g]? := fun g hg => hg4.block g (Nat.lt_of_lt_of_le hg h.hBw) (fun e => by have := own_ge h.txt e.symm; omega)
  exact ⟨h.hBF, h.hBM, Nat.le_trans h.hBw hg4.size, h.blk.grown hg4 (Ne.symm h.txF), h.tests.block h.old hB1, h.old,
    own_block h.out fun g hg => hg4.block g (own_lt h.out hg) (fun e => h.txO e.symm hg), h.dead.kept hg4 (Ne.symm h.txM), ho4⟩
/-- .. and back -/
theorem Fm.back (h : Fm B F M A ts n c most w st ov tv text) {w4 w5 : World} {v' ov2 : Value} {x : List Nat} {st2 : Fst} (hg4 : w.grownBy w4 tv.ownBlock) (hat : v'.ownBlock = tv.ownBlock ∨ v'.ownBlock = some w.heap.size)
    (hold : w4.ownsRow B 5 1 tv text.length (u8s text)) (hpre : v'.ownBlock = tv.ownBlock → ∀ w2 : World, w2.ownsRow B 5 1 v' x.length (u8s x) → w2.ownsRow B 5 1 tv text.length (u8s text))
    (h5 : Fm B F M A ts n c most w5 st2 ov2 v' x) (hf : Fr w4 w5 F M ov ov2 v') : Fm B F M A ts n c most w5 st2 ov2 tv text ∧ Fr w w5 F M ov ov2 tv := by
  refine ⟨⟨h5.hBF, h5.hBM, h5.hBw, h5.blk, h5.tests, h5.old, h5.out, h5.dead, ?_⟩, ?_⟩
  · by_cases e : v'.ownBlock = tv.ownBlock
    · exact hpre e w5 h5.txt
    · have e2 : v'.ownBlock = some w.heap.size := by
        rcases hat with h | h
        · exact absurd h e
        · exact h
      refine own_block hold fun g hg => ?_
      have hlt := own_lt h.txt hg
      refine hf.block g (Nat.lt_of_lt_of_le hlt hg4.size) (fun e => h.txF (by rw [hg, e])) (fun e => h.txM (by rw [hg, e])) (h.txO hg) ?_
      rw [e2]; intro e3; injection e3 with e3; omega
  · refine ⟨hf.os.trans hg4.os, hf.tape.trans hg4.tape, hf.output.trans hg4.output, Nat.le_trans hg4.size hf.size, fun g hg hF hM ho ht => ?_, ?_⟩
    · rw [hf.block g (Nat.lt_of_lt_of_le hg hg4.size) hF hM ho ?_, hg4.block g hg (Ne.symm ht)]
      rcases hat with e | e
      · rw [e]; exact ht
      · rw [e]; intro e3; injection e3 with e3; omega
    · rcases hf.row with e | ⟨k, hk, e⟩
      · exact .inl e
      · exact .inr ⟨k, Nat.le_trans hg4.size hk, e⟩
/-- slices of states are left alone -/
theorem Fr.rd (h : Fm B F M A ts n c most w st ov tv text) {ov' : Value} (hf : Fr w w' F M ov ov' tv) {Al : Option Addr} {xs : List Value} (hl : Rd w 55 Al xs) : Rd w' 55 Al xs := by
  rcases hl with rfl | ⟨b, off, cs, fr, hA, hb, hc⟩
  · exact .inl rfl
  · refine .inr ⟨b, off, cs, fr, hA, ?_, hc⟩
    rw [hf.block b (Array.getElem?_eq_some_iff.1 hb).1 ?_ ?_ ?_ ?_]
    · exact hb
    · intro e; subst e
      have := h.blk
      unfold Blk at this
      rw [hb] at this
      injection this with this
      injection this with _ this
      exact absurd this (by decide)
    · intro e; subst e
      obtain ⟨es, cl, hb2⟩ := h.map_at
      rw [hb] at hb2
      cases hb2
    · intro e
      obtain ⟨cur, hh⟩ := own_type h.out e
      rw [hb] at hh
      injection hh with this
      injection this with _ this
      exact absurd this (by decide)
    · intro e
      obtain ⟨cur, hh⟩ := own_type h.txt e
      rw [hb] at hh
      injection hh with this
      injection this with _ this
      exact absurd this (by decide)
theorem Fr.below (h : Fm B F M A ts n c most w st ov tv text) {ov' : Value} (hf : Fr w w' F M ov ov' tv) : Below B w w' :=
  ⟨hf.os, hf.tape, hf.output, hf.size, fun g hg => hf.block g (Nat.lt_of_lt_of_le hg h.hBw) (by have := h.hBF; omega) (by have := h.hBM; omega) (fun e => by have := own_ge h.out e; omega) (fun e => by have := own_ge h.txt e; omega)⟩
end
theorem find_leaf (B F M : Nat) (A Al : Option Addr) (ts : List Tst) (n c cl : Nat) (most : Int) (w : World) (st : Fst) (ov tv : Value) (text l : List Nat)
    (hm : Fm B F M A ts n c most w st ov tv text) (hl : Rd w 55 Al (u32s l)) (hn : ts.length = n) (hln : l.length = n) (hlen : n ≤ 1000) (hok : ∀ t ∈ ts, t.p.size ≤ 16) (hls : ∀ s ∈ l, s < 131072)
    (hout : st.out.length < 1000000) (hall : allOk ts l = true) :
    Calls Try.prog 39 #[.pointer (some ⟨F, 0, none⟩), .slice Al n cl, tv, .int .i64 0] w fun e w' =>
      ∃ ov', e = .returned (.bool true) ∧ Fm B F M A ts n c most w' { st with out := st.out ++ [text] } ov' tv text ∧ Fr w w' F M ov ov' tv := by
  obtain ⟨i0, hi, hz0, hz1, hz2⟩ := info_parts info9
  have HN := hid hn
  have HL := hid hln
  have HO := hid hok
  have HLS := hid hls
  have HM := hid hm
  have hf0 := hm.blk.cell_some (i := 0) (v := .slice A n c) rfl
  have hall' : Hid (allOk (ts.drop 0) (l.drop 0) = true) := hall
  clear hn hln hok hls hall hm
  go_enter Try.func39, Try.ntmps39
  go_wp2_with fail
  go_loopw [24] (fun i wr => ∃ k : Nat, k ≤ n ∧ i = .int .i64 k ∧ allOk (ts.drop k) (l.drop k) = true ∧ Ext w wr) (fun i _ => n - (intOf i).toNat)
  case atStart => exact ⟨0, Nat.zero_le _, rfl, hall'.out, Ext.refl w⟩
  case round =>
    obtain ⟨k, hk, rfl, hak, hxr⟩ := hrel
    have HA := hid hak
    clear hak
    by_cases hlt : k < n
    · have hkl : k < ts.length := by rw [HN.out]; exact hlt
      have hkl2 : k < l.length := by rw [HL.out]; exact hlt
      obtain ⟨t, ht⟩ : ∃ t, ts[k]? = some t := ⟨_, List.getElem?_eq_getElem hkl⟩
      obtain ⟨b, off, rfl, hc0, hc1, hc2, hc3⟩ := (HM.out.tests.ext hxr) k t ht
      obtain ⟨bl, ol, rfl, hcl⟩ := (hl.ext hxr).at_ (u32s_get l k hkl2)
      have hs17 : at0 l k < 131072 := by
        have := HLS.out l[k] (List.getElem_mem hkl2)
        simpa [at0, List.getElem?_eq_getElem hkl2] using this
      have hp16 : t.p.size ≤ 16 := HO.out t (List.mem_of_getElem? ht)
      have hst := allOk_step ts l k t ht hkl2
      rw [HA.out] at hst
      have hst2 := hst.symm
      simp only [Bool.and_eq_true] at hst2
      have h1 := hst2.1
      have H2 := hid hst2.2
      clear hst hst2 HA ht hkl hkl2
      obtain ⟨hb0, hb1, hb2, hb3⟩ := boxL wr (.int .i64 t.v) (.int .i64 t.kd) (.bool t.ng) (.string t.p) 23
      have hcl' := fun o => Later.keep (w := wr.alloc o) (((Ext.refl wr).alloc o).keep hcl)
      go_wp2_with fail
      refine wp_region_later (by kernel_rfl) (by kernel_rfl) ?_
      repeat (go_big_quiet_step ((go_at_call 35; exact later_of (passed_any t.v t.kd t.ng t.p (at0 l k) _ hp16 hs17))))
      refine wpQuiet_nil ?_
      intro w' hw'
      have hx := later_out hw'
      clear hw' hb0 hb1 hb2 hb3 hcl' hc0 hc1 hc2 hc3 hcl
      go_wp2_with fail
      go_roundw
      case rel => exact ⟨k + 1, by omega, by go_num, H2.out, hxr.trans (((Ext.refl wr).alloc _).trans hx)⟩
      case measure => simp [intOf]; omega
    · obtain rfl : k = n := by omega
      have hm2 := HM.out.ext hxr
      have hcv := conv_own (P := Try.prog) (w := wr.drew) 57 9 5 _ _ _ _ Try.underlying57 Try.underlying5 Try.underlying9 (hm2.txt.drew)
      have hc2 := hm2.blk.cell_some (i := 2) (v := ov) rfl
      have hfr2 := hm2.blk.frozen 2
      have hca := fun o => ((Ext.refl wr).alloc o).keep hc2
      have hneF := hm2.neF
      have HM2 := hid hm2
      clear hm2
      go_wp2_with fail
      go_region_law ((refine step_app _ rfl (.tmp 41) (.tmp 44) 31 rfl B 9 i0 (.string ⟨#[]⟩) 16 Try.underlying31 hi hz0 hz1 hz2 rfl ov st.out.length (strs st.out) (by simp [Act.eval]) (own_ext HM2.out.out (((Ext.refl _).alloc _).drew)) ⟨wr.heap.size, 0, none⟩ 1 1 [.string (S text)] (by simp [Act.eval]) rfl (news_new _ _ _) (by intro u hu; simp at hu; subst hu; rfl) (by unfold maxLen; omega) (by omega) (by have := HM2.out.hBw; simp; omega) ?_; intro v' w2 ho2 hg2 ha2 _ _; obtain ⟨gg, cc, rfl⟩ := own_form ho2 (by omega); have hb2 := (HM2.out.blk.ext (((Ext.refl _).alloc _).drew)).grown hg2 (Ne.symm hneF); have hc2' := hb2.cell_some (i := 2) (v := ov) rfl; have hf2' := hb2.frozen 2))
      all_goals
        go_wp2_with fail
        go_ret
        obtain ⟨r1, r2⟩ := HM2.out.leaf _ hg2 ho2 ha2
        exact ⟨_, rfl, r1, (Fr.of_ext hxr F M ov tv).trans r2⟩

end Go.Proofs.Ytbniemkllhhnfaa
