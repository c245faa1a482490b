/-
  A walk over the law's conversion of an automaton.
-/
import Derived.Test.YtbniemkllhhnfaaPA4
namespace Go.Proofs.Ytbniemkllhhnfaa
open Go.RowKit
set_option linter.unusedVariables false
set_option linter.unusedSimpArgs false
set_option maxHeartbeats 4000000
set_option maxRecDepth 100000

theorem info_edge : (Try.prog.info? 81).map (fun i => (i.zero, i.size, i.bytes)) = some (some (.agg #[.int .u8 0, .int .u8 0, .int .i64 0]), 3, 16) := by kernel_rfl
theorem info_edges : (Try.prog.info? 80).map (fun i => (i.zero, i.size, i.bytes)) = some (some (.slice none 0 0), 1, 24) := by kernel_rfl
theorem nReads3 (w : World) (a b c : Value) (e : TypeId) (g : Nat) (hg : g = w.heap.size) : Reads (w.alloc (.cells #[a, b, c] e)) (g + 1) 3 (some ⟨g, 0, none⟩) 1 [a, b, c] := by
  subst hg
  exact nReads_new w [a, b, c] e 3 rfl
theorem nReads1 (w : World) (a : Value) (e : TypeId) (g : Nat) (hg : g = w.heap.size) : Reads (w.alloc (.cells #[a] e)) (g + 1) 1 (some ⟨g, 0, none⟩) 1 [a] := by
  subst hg
  exact nReads_new w [a] e 1 rfl
theorem back_any (A B : Option Addr) (n cA cB : Nat) (Es : List (List Ed)) (w : World) (hE : EdsAt w B Es) (hn : Es.length = n) (hl : ∀ E ∈ Es, E.length ≤ 95) (hn4 : n ≤ 4096) :
    Calls Try.prog 25 #[.agg #[.slice A n cA, .slice B n cB]] w fun e w' => (∃ B' c', e = .returned (.agg #[.slice A n cA, .slice B' n c']) ∧ EdsAt w' B' Es) ∧ Ext w w' := by
  obtain ⟨ie, hie, he0, he1, he2⟩ := ninfo_parts info_edge
  obtain ⟨is, his, hs0, hs1, hs2⟩ := ninfo_parts info_edges
  have HE := hid hE
  have HN := hid hn
  have HL := hid hl
  clear hE hn hl
  go_enter Try.func25, Try.ntmps25
  go_upto_region 3 with fail
  have HX0 : Hid (Ext w (((w.alloc (.cells #[.slice A n cA, .slice B n cB] 41)).alloc (.cells #[.slice none 0 0, .slice none 0 0] 48)).alloc (.cells #[.slice A n cA, .slice none 0 0] 48))) := (((Ext.refl w).alloc _).alloc _).alloc _
  have HB0 : Hid (Blk (((w.alloc (.cells #[.slice A n cA, .slice B n cB] 41)).alloc (.cells #[.slice none 0 0, .slice none 0 0] 48)).alloc (.cells #[.slice A n cA, .slice none 0 0] 48)) (w.heap.size + 1 + 1) 48 [.slice A n cA, .slice none 0 0]) := by
    unfold Hid
    have := Blk.of_new ((w.alloc (.cells #[.slice A n cA, .slice B n cB] 41)).alloc (.cells #[.slice none 0 0, .slice none 0 0] 48)) 48 [.slice A n cA, .slice none 0 0]
    simpa using this
  have HZ0 : Hid (Blk (((w.alloc (.cells #[.slice A n cA, .slice B n cB] 41)).alloc (.cells #[.slice none 0 0, .slice none 0 0] 48)).alloc (.cells #[.slice A n cA, .slice none 0 0] 48)) (w.heap.size + 1) 48 [.slice none 0 0, .slice none 0 0]) := by
    unfold Hid
    have := (Blk.of_new (w.alloc (.cells #[.slice A n cA, .slice B n cB] 41)) 48 [.slice none 0 0, .slice none 0 0]).ext ((Ext.refl _).alloc (.cells #[.slice A n cA, .slice none 0 0] 48))
    simpa using this
  generalize ((w.alloc (.cells #[.slice A n cA, .slice B n cB] 41)).alloc (.cells #[.slice none 0 0, .slice none 0 0] 48)).alloc (.cells #[.slice A n cA, .slice none 0 0] 48) = W1 at *
  obtain ⟨g, hg⟩ : ∃ g, w.heap.size = g := ⟨_, rfl⟩
  have HG := hid hg
  rw [hg] at HB0 HZ0 ⊢
  clear hg
  go_loopw [15] (fun iv wr => ∃ (i : Nat) (v : Value), i ≤ n ∧ iv = .int .i64 i ∧ Blk wr (g + 1 + 1) 48 [.slice A n cA, v] ∧ Blk wr (g + 1) 48 [.slice none 0 0, .slice none 0 0] ∧ EdsO (g + 1 + 1 + 1) 80 wr v (Es.take i) ∧ Ext w wr) (fun i _ => n - (intOf i).toNat)
  case atStart => exact ⟨0, _, Nat.zero_le _, rfl, HB0.out, HZ0.out, EdsO.nil _ _ _, HX0.out⟩
  case round =>
    obtain ⟨i, v, hi, rfl, hb, hz, ho, hxr⟩ := hrel
    have HB := hid hb
    have HZ := hid hz
    have HO := hid ho
    have HX := hid hxr
    clear hb hz ho hxr HB0 HZ0 HX0
    generalize wr = W2 at *
    by_cases hlt : i < n
    · obtain ⟨E, hEi⟩ : ∃ E, Es[i]? = some E := ⟨_, List.getElem?_eq_getElem (by rw [HN.out]; exact hlt)⟩
      have hEl := HL.out E (List.mem_of_getElem? hEi)
      obtain ⟨gB, oB, vE, rfl, h2, h3⟩ := (HE.out.ext HX.out) i E hEi
      obtain ⟨Ae, ce, rfl, h4⟩ := h3
      have HEe := hid h4
      have HEi := hid hEi
      clear h4 hEi
      have i0 : (0 : Int) ≤ (i : Int) := by omega
      have i1 : (i : Int) < (n : Int) := by omega
      obtain ⟨m, hm⟩ : ∃ m, E.length = m := ⟨_, rfl⟩
      have HM := hid hm
      rw [hm] at hEl h2
      clear hm
      go_upto_region 7 with fail
      go_loopw [6, 21] (fun vv kv wr => ∃ (k c : Nat) (A6 : Option Addr), k ≤ m ∧ kv = .int .i64 k ∧ vv = .slice A6 k c ∧ wr.ownsRow W2.heap.size 81 3 (.slice A6 k c) k ((E.take k).flatMap edC) ∧ Ext W2 wr) (fun _ i _ => m - (intOf i).toNat)
      case atStart => exact ⟨0, 0, none, Nat.zero_le _, rfl, rfl, World.ownsRow_nil _ _ _ _, Ext.refl W2⟩
      case round =>
        obtain ⟨k, c6, A6, hk, rfl, rfl, hown, hxr⟩ := hrel
        have HOw := hid hown
        have HXr := hid hxr
        clear hown hxr
        by_cases hlk : k < m
        · obtain ⟨e, he⟩ : ∃ e, E[k]? = some e := ⟨_, List.getElem?_eq_getElem (by rw [HM.out]; exact hlk)⟩
          obtain ⟨ge, oe, rfl, k1, k2, k3⟩ := HEe.out k e he
          replace k1 := HXr.out.keep k1
          replace k2 := HXr.out.keep k2
          replace k3 := HXr.out.keep k3
          have ht : (E.take k).flatMap edC ++ edC e = (E.take (k + 1)).flatMap edC := by
            obtain ⟨hi, rfl⟩ := List.getElem?_eq_some_iff.1 he
            rw [List.take_succ_eq_append_getElem hi, List.flatMap_append]
            simp
          have HT := hid ht
          unfold edC at ht
          obtain ⟨lo, hlo⟩ : ∃ a, e.lo = a := ⟨_, rfl⟩
          obtain ⟨hi, hhi⟩ : ∃ a, e.hi = a := ⟨_, rfl⟩
          obtain ⟨tn, hto⟩ : ∃ a, e.to = a := ⟨_, rfl⟩
          have HCs : Hid (edC e = [.int .u8 lo, .int .u8 hi, .int .i64 tn]) := by unfold Hid edC; rw [hlo, hhi, hto]
          rw [hlo] at k1
          rw [hhi] at k2
          rw [hto] at k3
          clear he hlo hhi hto ht
          have i2 : (0 : Int) ≤ (k : Int) := by omega
          have i3 : (k : Int) < (m : Int) := by omega
          have HS : Hid (W2.heap.size ≤ wr.heap.size) := HXr.out.size
          go_wp2_with (at_builtin; refine wpList_append_any _ rfl (.tmp 25) (.tmp 33) 80 rfl W2.heap.size 81 ie _ 3 16 Try.underlying80 hie he0 he1 he2 rfl (by decide) _ k _ rfl (nOwn_ext (HOw.out) (((Ext.refl wr).alloc _).alloc _)) _ _ 1 1 [.int .u8 lo, .int .u8 hi, .int .i64 tn] rfl (nReads3 _ _ _ _ _ _ (by simp)) (by simp [Value.oneCell']) (by unfold maxLen; omega) (by omega) (by have := HS.out; simp; omega) ?_; intro v5 w5 hown5 hgr5 hblk5)
          replace hgr5 : World.grownBy _ w5 (Value.slice A6 k c6).ownBlock := hgr5
          clear hblk5
          obtain ⟨A7, c7, rfl⟩ := nOwn_slice hown5
          exact ⟨⟨k + 1, c7, A7, by omega, by go_num, rfl, by rw [← HT.out, HCs.out]; exact hown5, Ext.grown ((HXr.out.alloc _).alloc _) hgr5 (fun q hq => own_ge HOw.out hq)⟩, by simp [intOf]; omega⟩
        · obtain rfl : k = m := by omega
          have hE2 : E.take k = E := List.take_of_length_le (by rw [HM.out]; exact Nat.le_refl _)
          rw [hE2] at HOw
          clear hE2
          obtain ⟨vs, hvs1, hvs2⟩ := HO.out.ext HXr.out
          have htl : (Es.take i).length = i := by rw [List.length_take, HN.out]; omega
          rw [htl] at hvs1
          have HV1 := hid hvs1
          have HV2 := hid hvs2
          clear hvs1 hvs2
          have HEd : Hid (EdgB (fun q => W2.heap.size ≤ q ∧ (Value.slice A6 k c6).ownBlock = some q) wr (.slice A6 k c6) E) := by
            have h := HOw.out
            rw [← HM.out] at h ⊢
            exact edg_own h
          have HW : Hid (∀ q, v.ownBlock = some q → q < W2.heap.size) := by
            obtain ⟨vs2, h1, _⟩ := HO.out
            exact fun q hq => (h1.lt q hq).2
          have HBr := hid (HB.out.ext HXr.out)
          have HZr := hid (HZ.out.ext HXr.out)
          have HXX := hid (HX.out.trans HXr.out)
          have b0 := HBr.out.cell_some (i := 0) rfl
          have b1 := HBr.out.cell_some (i := 1) rfl
          have HSz : Hid (g + 1 + 1 < wr.heap.size) := HBr.out.lt
          obtain ⟨Av, cv, rfl⟩ := nOwn_slice HV1.out
          go_wp2_with (at_builtin; refine wpList_append_any _ rfl (.tmp 37) (.tmp 39) 46 rfl (g + 1 + 1 + 1) 80 is _ 1 24 Try.underlying46 his hs0 hs1 hs2 rfl (by decide) _ i _ rfl (nOwn_ext (HV1.out) ((Ext.refl wr).alloc _)) _ _ 1 1 [.slice A6 k c6] rfl (nReads1 _ _ _ _ rfl) (by simp [Value.oneCell']) (by unfold maxLen; omega) (by omega) (by have := HSz.out; simp; omega) ?_; intro v7 w7 hown7 hgr7 hblk7; obtain ⟨A8, c8, rfl⟩ := nOwn_slice hown7; have HB7 := hid ((HBr.out.ext ((Ext.refl wr).alloc _)).grown hgr7 (fun e => by have := own_ge HV1.out e.symm; omega)); have x1 := HB7.out.cell_some (i := 1) rfl; have f1 := HB7.out.frozen 1)
          replace hgr7 : World.grownBy _ w7 (Value.slice Av i cv).ownBlock := hgr7
          replace hblk7 : (Value.slice A8 (i + 1) c8).ownBlock = (Value.slice Av i cv).ownBlock ∨ _ := hblk7
          have hlt2 : g + 1 + 1 < W2.heap.size := HB.out.lt
          have hpush := EdsO.push (E := E) (u := .slice A6 k c6) HV2.out (by have := HV1.out.1; omega) (HEd.out.mono (Nat.le_refl _) (fun _ _ _ => rfl) (fun q hq hp => ⟨by have h1 := hp.1; omega, fun e => by have h1 := hp.1; have := HW.out q e; omega⟩)) ((Ext.refl wr).alloc _) (by rw [htl]; exact hown7) hgr7 hblk7
          have hEs : Es.take (i + 1) = Es.take i ++ [E] := by
            obtain ⟨hh, rfl⟩ := List.getElem?_eq_some_iff.1 HEi.out
            exact List.take_succ_eq_append_getElem hh
          have hZ7 := (HZr.out.ext ((Ext.refl wr).alloc (.cells #[.slice A6 k c6] 80))).grown hgr7 (fun e => by have := own_ge HV1.out e.symm; omega)
          have hX7 : Ext w w7 := Ext.grown (HXX.out.alloc _) hgr7 (fun q hq => by have := own_ge HV1.out hq; have := HG.out; omega)
          exact ⟨⟨i + 1, .slice A8 (i + 1) c8, by omega, by go_num, HB7.out.set 1 _, hZ7.far (by show g + 1 ≠ g + 1 + 1; omega) _, by rw [hEs]; exact hpush.set (by show g + 1 + 1 < g + 1 + 1 + 1; omega) _, hX7.setCell (by have := HG.out; show w.heap.size ≤ g + 1 + 1; omega) _⟩, by simp [intOf]; omega⟩
    · obtain rfl : i = n := by omega
      have hE2 : Es.take i = Es := List.take_of_length_le (by rw [HN.out]; exact Nat.le_refl _)
      rw [hE2] at HO
      clear hE2
      obtain ⟨Av, cv, rfl, hat⟩ := HO.out.at_
      rw [HN.out] at HB HO
      have HAt := hid hat
      clear hat
      have b0 := HB.out.cell_some (i := 0) rfl
      have b1 := HB.out.cell_some (i := 1) rfl
      have z0 := HZ.out.cell_some (i := 0) rfl
      have z1 := HZ.out.cell_some (i := 1) rfl
      have f0 := HZ.out.frozen 0
      have f1 := HZ.out.frozen 1
      have HZ2 := hid ((HZ.out.set 0 (.slice A i cA)).set 1 (.slice Av i cv))
      have HX2 : Hid (Ext w ((W2.setCell ⟨g + 1, 0, none⟩ (.slice A i cA)).setCell ⟨g + 1, 1, none⟩ (.slice Av i cv))) := (HX.out.setCell (by have := HG.out; show w.heap.size ≤ g + 1; omega) _).setCell (by have := HG.out; show w.heap.size ≤ g + 1; omega) _
      have HAt2 : Hid (EdsAt ((W2.setCell ⟨g + 1, 0, none⟩ (.slice A i cA)).setCell ⟨g + 1, 1, none⟩ (.slice Av i cv)) Av Es) := by
        have hO := (HO.out.set (p := ⟨g + 1, 0, none⟩) (by show g + 1 < g + 1 + 1 + 1; omega) (.slice A i cA)).set (p := ⟨g + 1, 1, none⟩) (by show g + 1 < g + 1 + 1 + 1; omega) (.slice Av i cv)
        obtain ⟨A9, c9, e9, h9⟩ := hO.at_
        injection e9 with e9 _ _
        subst e9
        exact h9
      go_wp2_with fail
      have q0 := HZ2.out.cell_some (i := 0) rfl
      have q1 := HZ2.out.cell_some (i := 1) rfl
      exact bodyPost_ret (v := .agg #[.slice A i cA, .slice Av i cv]) (by simp [results, Try.results25, go_sem, q0, q1]) rfl ⟨⟨Av, cv, rfl, HAt2.out⟩, HX2.out⟩
end Go.Proofs.Ytbniemkllhhnfaa
