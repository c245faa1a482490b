/-
  Walks: the law of Equal.
-/
import Derived.Test.YtcdnodjcnofogaaGreatDoorW44
import Derived.Test.YtcdnodjcnofogaaGreatDoorW39
import Derived.Test.YtcdnodjcnofogaaGreatDoorW26
import Derived.Test.YtcdnodjcnofogaaGreatDoorRow
import Derived.Test.YtcdnodjcnofogaaGreatDoorOpen4
namespace Go.Proofs.YtcdnodjcnofogaaGreatDoor
open Go.RowKit
set_option linter.unusedVariables false
set_option linter.unusedSimpArgs false
set_option maxHeartbeats 4000000
set_option maxRecDepth 100000

theorem quiet_load_blk2 {P : Program} {ops : Array Oper} {C : World → Prop} {Q : Act → Prop} {rest : List Oper} {o : Oper} {a : Act} (hw : Region.wanted o (yielded ops a.tmps) = true) (ty : TypeId) (x : Operand) (ho : o.op = .load ty x)
    (g : Nat) (hx : a.eval x = .pointer (some ⟨g, 0, none⟩)) (t : TypeId) (cs : List Value) (d : TypeDesc) (hg : ∀ w, C w → Blk w g t cs)
    (hu : P.underlying ty = some d) (hd : (match d with | .struct _ | .array _ _ => true | _ => false) = true) (hi : (P.info? ty).map (·.size) = some cs.length)
    (h : wpQuiet P ops C Q rest (a.put o.dst (.agg cs.toArray))) : wpQuiet P ops C Q (o :: rest) a := by
  unfold wpQuiet
  rw [if_pos hw]
  refine ⟨.agg cs.toArray, fun w hC => ?_, h⟩
  unfold Oper.quietAt execOp
  simp only [ho, hx, Instr.loadAt, Instr.sureAddr, Sem.run_bind, Sem.run_pure, Result.andThen_ok, run_loadVar_row w g t ty cs.toArray (0, 0) d (hg w hC) hu hd (by simpa using hi)]
  exact ⟨rfl, rfl⟩
theorem wpList_load_blk2 {P : Program} {ops : Array Oper} {rest : List Oper} {o : Oper} {a : Act} {w : World} {Q : Exit → Act → World → Prop} (hw : Region.wanted o (yielded ops a.tmps) = true) (ty : TypeId) (x : Operand) (ho : o.op = .load ty x)
    (g : Nat) (hx : a.eval x = .pointer (some ⟨g, 0, none⟩)) (t : TypeId) (cs : List Value) (d : TypeDesc) (hg : Blk w g t cs)
    (hu : P.underlying ty = some d) (hd : (match d with | .struct _ | .array _ _ => true | _ => false) = true) (hi : (P.info? ty).map (·.size) = some cs.length)
    (h : wpList P ops Q rest (a.put o.dst (.agg cs.toArray)) w) : wpList P ops Q (o :: rest) a w := by
  refine wpList_step fun K hK => ?_
  rw [if_pos hw]
  exact wp_load_row ty x ho g hx t cs.toArray (0, 0) d hg hu hd (by simpa using hi) (hK _ _ h)
theorem bulk_len (s : St) (h : s.bulk ≤ 1048576) : s.rall.length ≤ 100000000 := by
  have hl : ∀ l : List Ex, l.length ≤ sizeL l := by
    intro l
    induction l with
    | nil => simp [sizeL]
    | cons a l ih => rw [sizeL, List.length_cons]; have := size_pos a; omega
  have hv : ∀ l : List (List Ex), l.flatten.length ≤ sumB bkR l := by
    intro l
    induction l with
    | nil => simp [sumB]
    | cons a l ih => rw [List.flatten_cons, List.length_append, sumB]; unfold bkR at *; have := hl a; omega
  have h1 := hl s.chk
  have h2 := hv s.vals
  have h3 := sumB_len (bk := bkA) (fun a => by unfold bkA; omega) s.sets
  have h4 := sumB_len (bk := bkI) (fun a => by unfold bkI; omega) s.itms
  have h5 := hl s.grp
  unfold St.bulk at h
  unfold St.rall
  simp only [List.length_append, List.length_map, List.length_singleton]
  omega
theorem law_equal (s : St) (a : SA) (t : St) (b : SA) (w : World) (hv : StV w s a) (hs : s.bulk ≤ 1048576) (hv2 : StV w t b) (ht : t.bulk ≤ 1048576) (hg : Gd w) :
    Calls Tryz.prog 11 #[s.val a, t.val b] w fun r w' => r = .returned (.bool true) ∧ Ext w w' := by
  have HA := hid (fun W (hW : Ext w W) => awake_any W (hg.ext hW))
  have HS := hid (fun W (hW : Ext w W) => small_any s a W (hv.ext hW) (bulk_len s hs))
  have HS2 := hid (fun W (hW : Ext w W) => small_any t b W (hv2.ext hW) (bulk_len t ht))
  have HE := hid (fun W (hW : Ext w W) => stequal_any s t a b W (hv.ext hW) (hv2.ext hW))
  have HE2 := hid (fun W (hW : Ext w W) => stequal_any t s b a W (hv2.ext hW) (hv.ext hW))
  have HE3 := hid (fun W (hW : Ext w W) => stequal_any s s a a W (hv.ext hW) (hv.ext hW))
  have HR := hid (fun W (hW : Ext w W) => rstsame_any s t a b W (hv.ext hW) (hv2.ext hW))
  rw [st_comm t s] at HE2
  rw [st_refl] at HE3
  have HB := hid ((Blk.of_new w 38 (s.cells a)).ext ((Ext.refl _).alloc (.cells (t.cells b).toArray 38)))
  have hb2 := Blk.of_new (w.alloc (.cells (s.cells a).toArray 38)) 38 (t.cells b)
  have HX := hid (((Ext.refl w).alloc (.cells (s.cells a).toArray 38)).alloc (.cells (t.cells b).toArray 38))
  rw [show (w.alloc (.cells (s.cells a).toArray 38)).heap.size = w.heap.size + 1 by simp] at hb2
  have HC := hid hb2
  clear hb2 hv hv2 hg hs ht
  generalize s.same t = S at *
  have hl1 : (s.cells a).length = 22 := rfl
  have hl2 : (t.cells b).length = 22 := rfl
  unfold St.val at *
  generalize s.cells a = cs at *
  generalize t.cells b = ct at *
  have hi1 : (Tryz.prog.info? 38).map (·.size) = some cs.length := by rw [hl1]; kernel_rfl
  have hi2 : (Tryz.prog.info? 38).map (·.size) = some ct.length := by rw [hl2]; kernel_rfl
  have HI1 := hid hi1
  have HI2 := hid hi2
  clear hl1 hl2 hi1 hi2
  go_enter Tryz.func11, Tryz.ntmps11
  go_upto_region 1 with fail
  generalize (w.alloc (.cells _ 38)).alloc (.cells _ 38) = w1 at *
  generalize w.heap.size + 1 = g2 at *
  generalize w.heap.size = g at *
  go_cut [16] from 5 to 15 (fun cv wx => (∃ b, cv = .bool b) ∧ Ext w1 wx)
  case first =>
    go_wp2_with (first | (refine wpList_load_blk2 rfl 38 (.tmp 2) rfl g rfl 38 _ _ (HB.out.ext hw2) Tryz.underlying38 rfl HI1.out ?_) | (refine wpList_load_blk2 rfl 38 (.tmp 3) rfl g2 rfl 38 _ _ (HC.out.ext (hw2.trans hw3)) Tryz.underlying38 rfl HI2.out ?_) | (go_at_call 12; (with_reducible refine (HA.out _ HX.out).mono ?_); rintro _ w2 ⟨rfl, hw2⟩) | (go_at_call 13; (with_reducible refine (HS2.out _ ((HX.out.trans hw2).trans hw3)).mono ?_); rintro _ w4 ⟨b2, rfl, hw4⟩) | (go_at_call 13; (with_reducible refine (HS.out _ (HX.out.trans hw2)).mono ?_); rintro _ w3 ⟨b1, rfl, hw3⟩; cases b1))
    all_goals
      go_meet
      first | exact ⟨⟨_, rfl⟩, (hw2.trans hw3).trans hw4⟩ | exact ⟨⟨_, rfl⟩, hw2.trans hw3⟩
  case rest =>
    obtain ⟨⟨bb, rfl⟩, hxN⟩ := hcut
    generalize wc = wa at *
    have HXa := hid (HX.out.trans hxN)
    replace HB := hid (HB.out.ext hxN)
    replace HC := hid (HC.out.ext hxN)
    clear hxN HS HS2
    cases bb
    · have H1 : Hid (∀ z : Later wa, Calls Tryz.prog 32 _ z.now _) := fun z => HE.out z.now (HXa.out.trans z.ext)
      have H2 : Hid (∀ z : Later wa, Calls Tryz.prog 32 _ z.now _) := fun z => HE2.out z.now (HXa.out.trans z.ext)
      have H3 : Hid (∀ z : Later wa, Calls Tryz.prog 32 _ z.now _) := fun z => HE3.out z.now (HXa.out.trans z.ext)
      have H4 : Hid (∀ z : Later wa, Calls Tryz.prog 33 _ z.now _) := fun z => HR.out z.now (HXa.out.trans z.ext)
      clear HE HE2 HE3 HR HA
      go_upto_region 3 with fail
      · refine wp_region_later (by kernel_rfl) (by kernel_rfl) ?_
        repeat (first | (refine quiet_load_blk2 rfl 38 (.tmp 2) rfl g rfl 38 _ _ (later_blk HB.out) Tryz.underlying38 rfl HI1.out ?_; go_simp) | (refine quiet_load_blk2 rfl 38 (.tmp 3) rfl g2 rfl 38 _ _ (later_blk HC.out) Tryz.underlying38 rfl HI2.out ?_; go_simp) | go_big_quiet_step (first | (go_at_call 32; with_reducible exact later_of (H1.out _)) | (go_at_call 32; with_reducible exact later_of (H2.out _)) | (go_at_call 32; with_reducible exact later_of (H3.out _)) | (go_at_call 33; with_reducible exact later_of (H4.out _))))
        refine wpQuiet_nil ?_
        intro x5
        have hx5 : Ext wa x5.now := x5.ext
        generalize x5.now = w5 at *
        clear x5
        go_wp2_with fail
        go_ret
        exact ⟨rfl, HXa.out.trans hx5⟩
    · go_wp2_with (go_at_call 12; refine (HA.out _ HXa.out).mono ?_; rintro _ w2 ⟨rfl, hw2⟩)
      go_ret
      exact ⟨rfl, HXa.out.trans hw2⟩
end Go.Proofs.YtcdnodjcnofogaaGreatDoor
