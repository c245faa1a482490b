/-
  Walks: numbered.
-/
import Derived.Test.YtcdnodjcnofogaaGreatDoorW26
import Derived.Test.YtcdnodjcnofogaaGreatDoorOpen2
namespace Go.Proofs.YtcdnodjcnofogaaGreatDoor
open Go.RowKit
set_option linter.unusedVariables false
set_option linter.unusedSimpArgs false
set_option maxHeartbeats 4000000
set_option maxRecDepth 100000

mutual
/-- every Index is n -/
def Ex.num (n : Int) : Ex → Ex
  | .mk d ks => .mk { d with ix := n } (numL n ks)
def numL (n : Int) : List Ex → List Ex
  | [] => []
  | e :: es => e.num n :: numL n es
end
theorem numL_map (n : Int) (l : List Ex) : numL n l = l.map (Ex.num n) := by
  induction l with
  | nil => rfl
  | cons e l ih => rw [numL, ih]; rfl
theorem num_d (n : Int) (e : Ex) : (e.num n).d = { e.d with ix := n } := by cases e; rfl
theorem num_ks (n : Int) (e : Ex) : (e.num n).ks = e.ks.map (Ex.num n) := by cases e; rw [Ex.num, numL_map]; rfl
/-- two worlds agree on the blocks from lo to hi, one excepted -/
def Same (lo hi : Nat) (skip : Option Nat) (w w2 : World) : Prop := ∀ b, lo ≤ b → b < hi → some b ≠ skip → w2.heap[b]? = w.heap[b]?
theorem lkp_step {W0 wr w1 w3 w4 w5 : World} {v v5 : Value} {L : List Ex} {xs : List Value} {e : Ex} {A : Option Addr} {m c : Nat}
    (hold : ∀ w2, Same W0.heap.size wr.heap.size v.ownBlock wr w2 → LC w2 L xs) (hkid : ∀ w2, Same w1.heap.size w3.heap.size none w3 w2 → ExV w2 e A m c)
    (h01 : W0.heap.size ≤ wr.heap.size) (hr1 : Ext wr w1) (h13 : Ext w1 w3) (h34 : Ext w3 w4) (hown : ∀ g, v.ownBlock = some g → g < wr.heap.size)
    (hg : w4.grownBy w5 v.ownBlock) (hs : w4.heap.size ≤ w5.heap.size) (hb : v5.ownBlock = v.ownBlock ∨ v5.ownBlock = some w4.heap.size) :
    ∀ w2, Same W0.heap.size w5.heap.size v5.ownBlock w5 w2 → LC w2 (L ++ [e]) (xs ++ e.d.cells A m c) := by
  intro w2 h2
  have s1 := hr1.size
  have s3 := h13.size
  have s4 := h34.size
  refine (hold w2 fun b hb1 hb2 hb3 => ?_).app (LC.one (elt_cells (hkid w2 fun b hb1 hb2 _ => ?_)))
  · have hne : some b ≠ v5.ownBlock := by
      rcases hb with hb | hb
      · rw [hb]; exact hb3
      · rw [hb]; intro he; have := Option.some.inj he; omega
    rw [h2 b hb1 (by omega) hne, hg.block b (by omega) hb3, Below.block h34 b (by omega), Below.block h13 b (by omega), Below.block hr1 b (by omega)]
  · have hn : some b ≠ v.ownBlock := by
      intro he
      have := hown b he.symm
      omega
    have hne : some b ≠ v5.ownBlock := by
      rcases hb with hb | hb
      · rw [hb]; exact hn
      · rw [hb]; intro he; have := Option.some.inj he; omega
    rw [h2 b (by omega) (by omega) hne, hg.block b (by omega) hn, Below.block h34 b (by omega)]
theorem own_same {w w2 : World} {B e sz n : Nat} {v : Value} {xs : List Value} (h : w.ownsRow B e sz v n xs) (hb : ∀ g, v.ownBlock = some g → w2.heap[g]? = w.heap[g]?) : w2.ownsRow B e sz v n xs := by
  obtain ⟨h1, h2⟩ := h
  refine ⟨h1, ?_⟩
  rcases h2 with h2 | ⟨g, cap, cur, rfl, hg, hh, r⟩
  · exact .inl h2
  · exact .inr ⟨g, cap, cur, rfl, hg, (hb g rfl).trans hh, r⟩
theorem own_kids2 {w w' : World} {W0 : World} {B e n : Nat} {v : Value} {l : List Ex} {xs : List Value} (h : w.ownsRow W0.heap.size e 8 v n xs) (hl : ∀ w2, Same W0.heap.size w.heap.size v.ownBlock w w2 → LC w2 l xs)
    (hw : ∀ b, W0.heap.size ≤ b → b < w.heap.size → w'.heap[b]? = w.heap[b]?) (hB : B ≤ W0.heap.size) (hs : w.heap.size ≤ w'.heap.size) :
    ∃ A c, v = .slice A n c ∧ l.length = n ∧ ∀ w2, Same B w'.heap.size none w' w2 → KidsAt w2 A l := by
  have h0 : LC w l xs := hl w fun _ _ _ _ => rfl
  obtain ⟨A, c, rfl, _, hn⟩ := own_kids h h0
  refine ⟨A, c, rfl, hn, fun w2 h2 => ?_⟩
  have h2' : ∀ b, W0.heap.size ≤ b → b < w.heap.size → w2.heap[b]? = w.heap[b]? := fun b h1 h3 => (h2 b (by omega) (by omega) (by simp)).trans (hw b h1 h3)
  have ho := own_same (w2 := w2) h fun g hg => by
    have h3 := (h.lt g hg)
    exact h2' g h3.1 h3.2
  obtain ⟨A', c', he, hk, _⟩ := own_kids ho (hl w2 fun b h1 h3 _ => h2' b h1 h3)
  injection he with e1 e2 e3
  subst e1
  exact hk
theorem reads_new (w : World) (cs : List Value) (e : TypeId) (hl : cs.length = 8) : Reads (w.alloc (.cells cs.toArray e)) (w.heap.size + 1) 8 (some ⟨w.heap.size, 0, none⟩) 1 cs :=
  ⟨by omega, fun _ => ⟨_, rfl, Nat.lt_succ_self _, news_at w cs.toArray e w.heap.size rfl⟩⟩
theorem numbered_any (n : Int) (hn : I64 n) : ∀ (e : Ex) (A : Option Addr) (m c : Nat) (w : World), ExV w e A m c → e.room →
    Calls Tryz.prog 25 #[e.d.val A m c, .int .i64 n] w fun r w' => ∃ A' c', r = .returned ((e.num n).d.val A' m c') ∧ (∀ w2, Same w.heap.size w'.heap.size none w' w2 → ExV w2 (e.num n) A' m c') ∧ Ext w w' := by
  intro e
  induction e using Ex.ind with
  | h d ks ih =>
    intro A m c w hv hroom
    obtain ⟨i0, hi, hz0, hz1, hz2⟩ := info_parts info_ex
    obtain ⟨h1, h2', h3, h4⟩ := hv
    have HL : Hid (ks.length = m) := h1
    have HK : Hid (KidsAt w A ks) := h4
    have HF : Hid ((({ d with ix := n } : Nd)).fit) := ⟨h3.op, hn, h3.vk, h3.vi, h3.tb, h3.nm, h3.vt⟩
    have HI := hid ih
    have HN : Hid ((Ex.mk d ks).num n = .mk { d with ix := n } (ks.map (Ex.num n))) := by unfold Hid; rw [Ex.num, numL_map]
    rw [Ex.room, roomL_iff] at hroom
    have HRm := hid hroom.2
    have hmb : m * 104 ≤ 140737488351232 := by have := hroom.1; have := HL.out; subst this; omega
    clear h1 h4 ih h3 hroom
    rw [HN.out]
    unfold Nd.val
    simp only [Ex.d]
    obtain ⟨op, tb, nm, ix, vk, vi, vt⟩ := d
    simp only at *
    go_enter Tryz.func25, Tryz.ntmps25
    go_wp2_with fail
    have HB := hid ((Blk.of_new w 35 [.int .i64 op, .string tb, .string nm, .int .i64 n, .int .i64 vk, .int .i64 vi, .string vt, .slice A m c]).ext ((Ext.refl _).alloc (.cells #[.int .i64 0, .string ⟨#[]⟩, .string ⟨#[]⟩, .int .i64 0, .int .i64 0, .int .i64 0, .string ⟨#[]⟩, .slice none 0 0] 35)))
    have hb2 := Blk.of_new (w.alloc (.cells #[.int .i64 op, .string tb, .string nm, .int .i64 n, .int .i64 vk, .int .i64 vi, .string vt, .slice A m c] 35)) 35 [.int .i64 0, .string ⟨#[]⟩, .string ⟨#[]⟩, .int .i64 0, .int .i64 0, .int .i64 0, .string ⟨#[]⟩, .slice none 0 0]
    rw [show (w.alloc (.cells #[.int .i64 op, .string tb, .string nm, .int .i64 n, .int .i64 vk, .int .i64 vi, .string vt, .slice A m c] 35)).heap.size = w.heap.size + 1 by simp] at hb2
    have HB2 := hid hb2
    have HX := hid (((Ext.refl w).alloc (.cells #[.int .i64 op, .string tb, .string nm, .int .i64 n, .int .i64 vk, .int .i64 vi, .string vt, .slice A m c] 35)).alloc (.cells #[.int .i64 0, .string ⟨#[]⟩, .string ⟨#[]⟩, .int .i64 0, .int .i64 0, .int .i64 0, .string ⟨#[]⟩, .slice none 0 0] 35))
    have HSz : Hid (((w.alloc (.cells #[.int .i64 op, .string tb, .string nm, .int .i64 n, .int .i64 vk, .int .i64 vi, .string vt, .slice A m c] 35)).alloc (.cells #[.int .i64 0, .string ⟨#[]⟩, .string ⟨#[]⟩, .int .i64 0, .int .i64 0, .int .i64 0, .string ⟨#[]⟩, .slice none 0 0] 35)).heap.size = w.heap.size + 2) := by unfold Hid; simp
    clear hb2
    generalize (w.alloc (.cells #[.int .i64 op, .string tb, .string nm, .int .i64 n, .int .i64 vk, .int .i64 vi, .string vt, .slice A m c] 35)).alloc (.cells #[.int .i64 0, .string ⟨#[]⟩, .string ⟨#[]⟩, .int .i64 0, .int .i64 0, .int .i64 0, .string ⟨#[]⟩, .slice none 0 0] 35) = W0 at *
    obtain ⟨g, hg⟩ : ∃ g, w.heap.size = g := ⟨_, rfl⟩
    have HG := hid hg
    rw [hg] at HB HB2 HSz ⊢
    clear hg
    go_loopw [5, 13] (fun nv iv wr => ∃ (k : Nat) (xs : List Value), k ≤ m ∧ iv = .int .i64 k ∧ wr.ownsRow W0.heap.size 35 8 nv k xs ∧ (∀ w2, Same W0.heap.size wr.heap.size nv.ownBlock wr w2 → LC w2 ((ks.take k).map (Ex.num n)) xs) ∧ Ext W0 wr) (fun _ i _ => m - (intOf i).toNat)
    case atStart => exact ⟨0, [], Nat.zero_le _, rfl, World.ownsRow_nil _ _ _ _, fun _ _ => by simpa using LC.nil, Ext.refl W0⟩
    case round =>
      obtain ⟨k, xs, hk, rfl, hown, hlc, hxr⟩ := hrel
      have HO := hid hown
      have HLC := hid hlc
      have HXr := hid hxr
      clear hown hlc
      by_cases hlt : k < m
      · obtain ⟨e', he⟩ := at_lt HL.out hlt
        obtain ⟨b, off, A', n', c', rfl, q0, q1, q2, q3, q4, q5, q6, q7, hv'⟩ := ((HK.out.ext HX.out).ext hxr).get he
        have HV := hid hv'
        have HM := hid (mem_at he)
        have HTk : Hid ((ks.take (k + 1)).map (Ex.num n) = (ks.take k).map (Ex.num n) ++ [e'.num n]) := map_step (Ex.num n) he
        have HND := hid (num_d n e')
        clear he hv' hxr
        have HIe := hid (fun W (hW : Ext wr W) => HI.out e' HM.out A' n' c' W (HV.out.ext hW) (HRm.out e' HM.out))
        rw [HND.out] at HIe
        unfold Nd.val at HIe
        generalize hd : e'.d = d at *
        obtain ⟨op', tb', nm', ix', vk', vi', vt'⟩ := d
        simp only at *
        clear hd
        have hk1 : (k + 1) * 104 ≤ 140737488355328 := by omega
        go_wp2_with (first | (go_at_call 25; refine (HIe.out _ ((Ext.refl wr).alloc _)).mono ?_; rintro _ w3 ⟨A3, c3, rfl, hk3, hx3⟩; have HONE := hid (cells8_one ⟨op', tb', nm', n, vk', vi', vt'⟩ A3 n' c3); unfold Nd.cells at HONE; have HK3 := hid hk3; clear hk3) | (at_builtin; refine wpList_append_any _ rfl (.tmp 17) (.tmp 21) 25 rfl W0.heap.size 35 i0 _ 8 104 Tryz.underlying25 hi hz0 hz1 hz2 rfl (by decide) _ k xs rfl (ownN_ext HO.out ((((Ext.refl wr).alloc _).trans hx3).alloc _)) _ _ 1 1 [.int .i64 op', .string tb', .string nm', .int .i64 n, .int .i64 vk', .int .i64 vi', .string vt', .slice A3 n' c3] rfl (reads_new w3 [.int .i64 op', .string tb', .string nm', .int .i64 n, .int .i64 vk', .int .i64 vi', .string vt', .slice A3 n' c3] 35 rfl) HONE.out (by unfold maxLen; omega) hk1 (HXr.out.trans ((((Ext.refl wr).alloc _).trans hx3).alloc _)).size ?_; intro v1 w5 hown5 hgr5 hblk5; have HO5 := hid hown5; have HG5 := hid hgr5; have HB5 := hid hblk5; clear hown5 hgr5 hblk5))
        go_roundw
        case rel =>
          have hx5 : Ext wr (w3.alloc (.cells #[.int .i64 op', .string tb', .string nm', .int .i64 n, .int .i64 vk', .int .i64 vi', .string vt', .slice A3 n' c3] 35)) := (((Ext.refl wr).alloc _).trans hx3).alloc _
          refine ⟨k + 1, xs ++ [.int .i64 op', .string tb', .string nm', .int .i64 n, .int .i64 vk', .int .i64 vi', .string vt', .slice A3 n' c3], by omega, by go_num, HO5.out, ?_, (HXr.out.trans hx5).grown HG5.out fun q hq => (HO.out.lt q hq).1⟩
          rw [HTk.out]
          have := lkp_step (e := e'.num n) (A := A3) (m := n') (c := c3) HLC.out HK3.out HXr.out.size ((Ext.refl wr).alloc _) hx3 ((Ext.refl w3).alloc (.cells #[.int .i64 op', .string tb', .string nm', .int .i64 n, .int .i64 vk', .int .i64 vi', .string vt', .slice A3 n' c3] 35)) (fun q hq => (HO.out.lt q hq).2) HG5.out HG5.out.size HB5.out
          rw [HND.out] at this
          exact this
        case measure => simp [intOf]; omega
      · obtain rfl : k = m := by omega
        rw [← HL.out, List.take_length] at HLC
        obtain ⟨A9, c9, rfl, _, hn9⟩ := own_kids HO.out (HLC.out wr fun _ _ _ _ => rfl)
        have HBr := HB.out.ext hxr
        have HCr := HB2.out.ext hxr
        have c0 := HBr.cell 0
        have c1 := HBr.cell 1
        have c2 := HBr.cell 2
        have c3 := HBr.cell 3
        have c4 := HBr.cell 4
        have c5 := HBr.cell 5
        have c6 := HBr.cell 6
        have c7 := HBr.cell 7
        have d0 := HCr.cell 0
        have d1 := HCr.cell 1
        have d2 := HCr.cell 2
        have d3 := HCr.cell 3
        have d4 := HCr.cell 4
        have d5 := HCr.cell 5
        have d6 := HCr.cell 6
        have d7 := HCr.cell 7
        have f0 := HBr.frozen 0
        have f1 := HBr.frozen 1
        have f2 := HBr.frozen 2
        have f3 := HBr.frozen 3
        have f4 := HBr.frozen 4
        have f5 := HBr.frozen 5
        have f6 := HBr.frozen 6
        have f7 := HBr.frozen 7
        have h0 := HCr.frozen 0
        have h1 := HCr.frozen 1
        have h2 := HCr.frozen 2
        have h3 := HCr.frozen 3
        have h4 := HCr.frozen 4
        have h5 := HCr.frozen 5
        have h6 := HCr.frozen 6
        have h7 := HCr.frozen 7
        simp only [List.getElem?_cons_succ, List.getElem?_cons_zero] at c0 d0 c1 d1 c2 d2 c3 d3 c4 d4 c5 d5 c6 d6 c7 d7
        go_wp2_with fail
        have hbf := (((((((((HCr.far (p := ⟨g, 7, none⟩) (Nat.succ_ne_self g) (.slice A9 k c9)).set 0 (.int .i64 op)).set 1 (.string tb)).set 2 (.string nm)).set 3 (.int .i64 n)).set 4 (.int .i64 vk)).set 5 (.int .i64 vi)).set 6 (.string vt)).set 7 (.slice A9 k c9))
        have hxf : Ext w (((((((((wr.setCell ⟨g, 7, none⟩ (.slice A9 k c9)).setCell ⟨g + 1, 0, none⟩ (.int .i64 op)).setCell ⟨g + 1, 1, none⟩ (.string tb)).setCell ⟨g + 1, 2, none⟩ (.string nm)).setCell ⟨g + 1, 3, none⟩ (.int .i64 n)).setCell ⟨g + 1, 4, none⟩ (.int .i64 vk)).setCell ⟨g + 1, 5, none⟩ (.int .i64 vi)).setCell ⟨g + 1, 6, none⟩ (.string vt)).setCell ⟨g + 1, 7, none⟩ (.slice A9 k c9)) := ((((((((((HX.out.trans hxr).setCell (p := ⟨g, 7, none⟩) (Nat.le_of_eq HG.out) (.slice A9 k c9)).setCell (p := ⟨g + 1, 0, none⟩) (by show w.heap.size ≤ g + 1; have := HG.out; omega) (.int .i64 op)).setCell (p := ⟨g + 1, 1, none⟩) (by show w.heap.size ≤ g + 1; have := HG.out; omega) (.string tb)).setCell (p := ⟨g + 1, 2, none⟩) (by show w.heap.size ≤ g + 1; have := HG.out; omega) (.string nm)).setCell (p := ⟨g + 1, 3, none⟩) (by show w.heap.size ≤ g + 1; have := HG.out; omega) (.int .i64 n)).setCell (p := ⟨g + 1, 4, none⟩) (by show w.heap.size ≤ g + 1; have := HG.out; omega) (.int .i64 vk)).setCell (p := ⟨g + 1, 5, none⟩) (by show w.heap.size ≤ g + 1; have := HG.out; omega) (.int .i64 vi)).setCell (p := ⟨g + 1, 6, none⟩) (by show w.heap.size ≤ g + 1; have := HG.out; omega) (.string vt)).setCell (p := ⟨g + 1, 7, none⟩) (by show w.heap.size ≤ g + 1; have := HG.out; omega) (.slice A9 k c9))
        have hhp : ∀ b, W0.heap.size ≤ b → b < wr.heap.size → (((((((((wr.setCell ⟨g, 7, none⟩ (.slice A9 k c9)).setCell ⟨g + 1, 0, none⟩ (.int .i64 op)).setCell ⟨g + 1, 1, none⟩ (.string tb)).setCell ⟨g + 1, 2, none⟩ (.string nm)).setCell ⟨g + 1, 3, none⟩ (.int .i64 n)).setCell ⟨g + 1, 4, none⟩ (.int .i64 vk)).setCell ⟨g + 1, 5, none⟩ (.int .i64 vi)).setCell ⟨g + 1, 6, none⟩ (.string vt)).setCell ⟨g + 1, 7, none⟩ (.slice A9 k c9)).heap[b]? = wr.heap[b]? := fun b hb1 hb2 => by
          have := HSz.out
          exact (Below.heap_setCell _ _ _ _ (by show b ≠ g + 1; omega)).trans ((Below.heap_setCell _ _ _ _ (by show b ≠ g + 1; omega)).trans ((Below.heap_setCell _ _ _ _ (by show b ≠ g + 1; omega)).trans ((Below.heap_setCell _ _ _ _ (by show b ≠ g + 1; omega)).trans ((Below.heap_setCell _ _ _ _ (by show b ≠ g + 1; omega)).trans ((Below.heap_setCell _ _ _ _ (by show b ≠ g + 1; omega)).trans ((Below.heap_setCell _ _ _ _ (by show b ≠ g + 1; omega)).trans ((Below.heap_setCell _ _ _ _ (by show b ≠ g + 1; omega)).trans (Below.heap_setCell _ _ _ _ (by show b ≠ g; omega)))))))))
        have hsz : wr.heap.size ≤ (((((((((wr.setCell ⟨g, 7, none⟩ (.slice A9 k c9)).setCell ⟨g + 1, 0, none⟩ (.int .i64 op)).setCell ⟨g + 1, 1, none⟩ (.string tb)).setCell ⟨g + 1, 2, none⟩ (.string nm)).setCell ⟨g + 1, 3, none⟩ (.int .i64 n)).setCell ⟨g + 1, 4, none⟩ (.int .i64 vk)).setCell ⟨g + 1, 5, none⟩ (.int .i64 vi)).setCell ⟨g + 1, 6, none⟩ (.string vt)).setCell ⟨g + 1, 7, none⟩ (.slice A9 k c9)).heap.size := by simp [World.size_setCell]
        generalize (((((((((wr.setCell ⟨g, 7, none⟩ (.slice A9 k c9)).setCell ⟨g + 1, 0, none⟩ (.int .i64 op)).setCell ⟨g + 1, 1, none⟩ (.string tb)).setCell ⟨g + 1, 2, none⟩ (.string nm)).setCell ⟨g + 1, 3, none⟩ (.int .i64 n)).setCell ⟨g + 1, 4, none⟩ (.int .i64 vk)).setCell ⟨g + 1, 5, none⟩ (.int .i64 vi)).setCell ⟨g + 1, 6, none⟩ (.string vt)).setCell ⟨g + 1, 7, none⟩ (.slice A9 k c9)) = wf at *
        obtain ⟨A8, c8, he8, hn8, hk8⟩ := own_kids2 (w' := wf) (B := w.heap.size) HO.out HLC.out hhp HX.out.size hsz
        injection he8 with e1 e2 e3
        subst e1
        have r0 := hbf.cell 0
        have r1 := hbf.cell 1
        have r2 := hbf.cell 2
        have r3 := hbf.cell 3
        have r4 := hbf.cell 4
        have r5 := hbf.cell 5
        have r6 := hbf.cell 6
        have r7 := hbf.cell 7
        simp only [List.set_cons_succ, List.set_cons_zero, List.getElem?_cons_succ, List.getElem?_cons_zero] at r0 r1 r2 r3 r4 r5 r6 r7
        exact bodyPost_ret (v := .agg #[.int .i64 op, .string tb, .string nm, .int .i64 n, .int .i64 vk, .int .i64 vi, .string vt, .slice A9 k c9]) (by simp [results, Tryz.results25, go_sem, r0, r1, r2, r3, r4, r5, r6, r7]) rfl
          ⟨A9, c9, rfl, fun w2 h2 => ⟨hn8, h2', HF.out, hk8 w2 h2⟩, hxf⟩
end Go.Proofs.YtcdnodjcnofogaaGreatDoor
