/-
  Walks: ValidExpr, the program's and the reference's.
-/
import Derived.Test.YtcdnodjcnofogaaGreatDoorW13
namespace Go.Proofs.YtcdnodjcnofogaaGreatDoor
open Go.RowKit
set_option linter.unusedVariables false
set_option linter.unusedSimpArgs false
set_option maxHeartbeats 4000000
set_option maxRecDepth 100000

theorem kids_blk {w : World} {g t : Nat} {e : Ex} {A : Option Addr} {n c : Nat} (hb : Blk w g t (e.d.cells A n c)) (hv : ExV w e A n c) : KidsAt w (some ⟨g, 0, none⟩) [e] := by
  unfold KidsAt
  rw [exsAt_iff]
  intro j x hx
  cases j with
  | zero =>
    simp at hx
    subst hx
    refine ⟨e.d.cells A n c, ⟨g, 0, rfl, fun j v hj => ?_⟩, ?_⟩
    · rw [show 0 + (0 + 0) * 8 + j = j by omega]
      exact hb.cell_some hj
    · obtain ⟨d, ks⟩ := e
      rw [ExC]
      have h1 := hv.len
      have h1 : ks.length = n := h1
      subst h1
      exact ⟨hv.fit, hv.le, A, c, rfl, hv.kids⟩
  | succ j => simp at hx
/-- too many nodes, or too deep -/
def largeB (l : List Ex) : Bool := decide (400 < nodesL l) || l.any fun e => decide (50 < e.depth)
theorem ent69 : Ent 69 := fun _ _ => by kernel_rfl
theorem large1 (x : Ex) (A : Option Addr) (n c : Nat) (w : World) (hv : ExV w x A n c) (hm : x.nodes ≤ 100000000) :
    Calls Tryz.prog 69 #[x.d.val A n c] w fun r w' => r = .returned (.bool (decide (50 < x.depth))) ∧ Ext w w' := by
  have H := hid (fun W (hW : Ext w W) => depth_any x A n c W (hv.ext hW) hm)
  have hdl : x.depth ≤ 100000000 := Nat.le_trans ((depthL_le [x]).2 x (by simp)) hm
  clear hv hm
  unfold Nd.val at *
  generalize x.depth = D at *
  by_cases h5 : 50 < D
  · have b : decide ((50 : Int) < (D : Int)) = true := by simp; omega
    have HR := hid (show decide (50 < D) = true by simpa using h5)
    clear h5
    go_enter Tryz.func69, Tryz.ntmps69
    go_wp2_with (go_at_call 30; refine (H.out _ ((Ext.refl w).alloc _)).mono ?_; rintro _ w2 ⟨rfl, hx2⟩)
    go_ret
    exact ⟨ret_bool HR.out.symm, ((Ext.refl w).alloc _).trans hx2⟩
  · have b : decide ((50 : Int) < (D : Int)) = false := by simp; omega
    have HR := hid (show decide (50 < D) = false by simpa using h5)
    clear h5
    go_enter Tryz.func69, Tryz.ntmps69
    go_wp2_with (go_at_call 30; refine (H.out _ ((Ext.refl w).alloc _)).mono ?_; rintro _ w2 ⟨rfl, hx2⟩)
    go_ret
    exact ⟨ret_bool HR.out.symm, ((Ext.refl w).alloc _).trans hx2⟩
theorem large_any (l : List Ex) (A : Option Addr) (n c : Nat) (w : World) (hl : l.length = n) (hn : n ≤ 9223372036854775807) (hk : KidsAt w A l) :
    Calls Tryz.prog 40 #[.slice A n c] w fun r w' => r = .returned (.bool (largeB l)) ∧ Ext w w' := by
  have HC := hid (counted_any (sizeL l) l A n c 400 w (Nat.le_refl _) hl hn hk (by omega))
  have HD : Hid (largeB l = (decide (400 < nodesL l) || l.any fun e => decide (50 < e.depth))) := rfl
  by_cases h4 : 400 < nodesL l
  · have hmin : min (nodesL l) (400 + 1) = 401 := by omega
    rw [hmin] at HC
    have HR : Hid (largeB l = true) := by unfold Hid; rw [HD.out]; simp [h4]
    clear h4 hmin HD hk hl
    go_enter Tryz.func40, Tryz.ntmps40
    go_wp2_with (go_at_call 67; refine HC.out.mono ?_; rintro _ w2 ⟨rfl, hx2⟩)
    go_ret
    exact ⟨ret_bool HR.out.symm, hx2⟩
  · have hmin : min (nodesL l) (400 + 1) = nodesL l := by omega
    rw [hmin] at HC
    have HR : Hid (largeB l = l.any fun e => decide (50 < e.depth)) := by unfold Hid; rw [HD.out]; simp [h4]
    have HF : Hid (∀ W, Ext w W → Calls Tryz.prog 68 #[.slice A n c, .func (Fn.func 69) #[] #[]] W fun r w' => r = .returned (.bool (l.any fun e => decide (50 < e.depth))) ∧ Ext W w') := by
      intro W hW
      refine contains_ex 69 ent69 _ l A n c W hl hn (hk.ext hW) ?_
      intro x hx A' n' c' W' hW' hxv
      exact large1 x A' n' c' W' hxv (by have := nodes_mem hx; omega)
    have b : decide ((400 : Int) < ((nodesL l : Nat) : Int)) = false := by simp; omega
    generalize (l.any fun e => decide (50 < e.depth)) = B at *
    generalize nodesL l = M at *
    clear h4 hmin HD hk hl
    go_enter Tryz.func40, Tryz.ntmps40
    go_wp2_with (first | (go_at_call 67; refine HC.out.mono ?_; rintro _ w2 ⟨rfl, hx2⟩) | (go_at_call 68; refine (HF.out _ hx2).mono ?_; rintro _ w3 ⟨rfl, hx3⟩))
    go_ret
    exact ⟨ret_bool HR.out.symm, hx2.trans hx3⟩
/-- the error of an expression -/
def validE (e : Ex) : Int := if largeB [e] = true then 3 else if e.formed = true then 0 else 1
theorem large_one (e : Ex) : largeB [e] = (decide (400 < e.nodes) || decide (50 < e.depth)) := by
  unfold largeB
  rw [nodesL, nodesL]
  simp
theorem valid_any (e : Ex) (A : Option Addr) (n c : Nat) (w : World) (hv : ExV w e A n c) (hw : Sh w) :
    Calls Tryz.prog 17 #[e.d.val A n c] w fun r w' => r = .returned (.int .i64 (validE e)) ∧ Ext w w' := by
  have HE : Hid (validE e = if largeB [e] = true then 3 else if e.formed = true then 0 else 1) := rfl
  have HL : Hid (∀ W g, Ext w W → Blk W g 35 (e.d.cells A n c) → Calls Tryz.prog 40 #[.slice (some ⟨g, 0, none⟩) 1 1] W fun r w' => r = .returned (.bool (largeB [e])) ∧ Ext W w') :=
    fun W g hW hb => large_any [e] _ 1 1 W rfl (by omega) (kids_blk hb (hv.ext hW))
  have HF := hid (fun W (hW : Ext w W) => formed_any e A n c W (hv.ext hW) (hw.ext hW))
  clear hv hw
  have hb := Blk.of_new (w.alloc (.cells (e.d.cells A n c).toArray 35)) 35 (e.d.cells A n c)
  rw [show (w.alloc (.cells (e.d.cells A n c).toArray 35)).heap.size = w.heap.size + 1 by simp] at hb
  have HB := hid hb
  clear hb
  have HB0 := hid (Blk.of_new w 35 (e.d.cells A n c))
  have HX := hid ((((Ext.refl w).alloc (.cells (e.d.cells A n c).toArray 35))).alloc (.cells (e.d.cells A n c).toArray 35))
  have HX1 := hid (((Ext.refl (w.alloc (.cells (e.d.cells A n c).toArray 35))).alloc (.cells (e.d.cells A n c).toArray 35)))
  unfold Nd.val at *
  unfold Nd.cells at *
  generalize validE e = R at *
  generalize largeB [e] = Z at *
  generalize e.formed = Y at *
  generalize e.d = d at *
  obtain ⟨op, tb, nm, ix, vk, vi, vt⟩ := d
  simp only at *
  cases Z
  · cases Y
    all_goals
      go_enter Tryz.func17, Tryz.ntmps17
      go_wp2_with (first | (go_at_call 40; refine (HL.out _ _ HX.out HB.out).mono ?_; rintro _ w2 ⟨rfl, hx2⟩; have hb2 := (HB0.out.ext HX1.out).ext hx2; have c0 := hb2.cell 0; have c1 := hb2.cell 1; have c2 := hb2.cell 2; have c3 := hb2.cell 3; have c4 := hb2.cell 4; have c5 := hb2.cell 5; have c6 := hb2.cell 6; have c7 := hb2.cell 7; simp only [List.getElem?_cons_succ, List.getElem?_cons_zero] at c0 c1 c2 c3 c4 c5 c6 c7; clear hb2) | (go_at_call 47; refine (HF.out _ (HX.out.trans hx2)).mono ?_; rintro _ w3 ⟨rfl, hx3⟩))
      go_ret
      exact ⟨ret_int (by rw [HE.out]; rfl), (HX.out.trans hx2).trans hx3⟩
  · go_enter Tryz.func17, Tryz.ntmps17
    go_wp2_with (go_at_call 40; refine (HL.out _ _ HX.out HB.out).mono ?_; rintro _ w2 ⟨rfl, hx2⟩)
    go_ret
    exact ⟨ret_int (by rw [HE.out]; rfl), HX.out.trans hx2⟩
theorem rvalid_any (e : Ex) (A : Option Addr) (n c : Nat) (w : World) (hv : ExV w e A n c) :
    Calls Tryz.prog 18 #[e.d.val A n c] w fun r w' => r = .returned (.int .i64 (validE e)) ∧ Ext w w' := by
  have HE : Hid (validE e = if largeB [e] = true then 3 else if e.formed = true then 0 else 1) := rfl
  have HLE := hid (large_one e)
  have HC := hid (fun W (hW : Ext w W) => upto_any e A n c 400 W (hv.ext hW) (by omega))
  have HF := hid (fun W (hW : Ext w W) => rformed_any e A n c W (hv.ext hW))
  have HB0 := hid (Blk.of_new w 35 (e.d.cells A n c))
  have HX := hid ((Ext.refl w).alloc (.cells (e.d.cells A n c).toArray 35))
  by_cases h4 : 400 < e.nodes
  · have hmin : min e.nodes (400 + 1) = 401 := by omega
    rw [hmin] at HC
    have HR : Hid (validE e = 3) := by unfold Hid; rw [HE.out, HLE.out]; simp [h4]
    clear hv HE HLE hmin h4
    unfold Nd.val at *
    unfold Nd.cells at *
    generalize validE e = R at *
    generalize e.formed = Y at *
    generalize e.d = d at *
    obtain ⟨op, tb, nm, ix, vk, vi, vt⟩ := d
    simp only at *
    go_enter Tryz.func18, Tryz.ntmps18
    go_wp2_with (go_at_call 44; refine (HC.out _ HX.out).mono ?_; rintro _ w2 ⟨rfl, hx2⟩)
    go_ret
    exact ⟨ret_int HR.out.symm, HX.out.trans hx2⟩
  · have hmin : min e.nodes (400 + 1) = e.nodes := by omega
    rw [hmin] at HC
    have HD := hid (fun W (hW : Ext w W) => rdepth_any e A n c W (hv.ext hW) (by omega))
    have hdl : e.depth ≤ 400 := Nat.le_trans ((depthL_le [e]).2 e (by simp)) (by omega)
    have b : decide ((400 : Int) < ((e.nodes : Nat) : Int)) = false := by simp; omega
    have hnl : e.nodes ≤ 400 := by omega
    have HLE2 : Hid (largeB [e] = decide (50 < e.depth)) := by unfold Hid; rw [HLE.out]; simp [h4]
    clear hv HLE hmin h4
    have hreg : ∀ {x : Nat}, e.depth = x → True := fun _ => trivial
    by_cases h5 : 50 < e.depth
    · have b5 : decide ((50 : Int) < ((e.depth : Nat) : Int)) = true := by simp; omega
      have HR : Hid (validE e = 3) := by unfold Hid; rw [HE.out, HLE2.out]; simp [h5]
      clear h5 hreg HE HLE2
      unfold Nd.val at *
      unfold Nd.cells at *
      generalize validE e = R at *
      generalize e.formed = Y at *
      generalize e.depth = D at *
      generalize e.nodes = M at *
      generalize e.d = d at *
      obtain ⟨op, tb, nm, ix, vk, vi, vt⟩ := d
      simp only at *
      go_enter Tryz.func18, Tryz.ntmps18
      go_wp2_with (first | (go_at_call 44; refine (HC.out _ HX.out).mono ?_; rintro _ w2 ⟨rfl, hx2⟩; have hb2 := HB0.out.ext hx2; have c0 := hb2.cell 0; have c1 := hb2.cell 1; have c2 := hb2.cell 2; have c3 := hb2.cell 3; have c4 := hb2.cell 4; have c5 := hb2.cell 5; have c6 := hb2.cell 6; have c7 := hb2.cell 7; simp only [List.getElem?_cons_succ, List.getElem?_cons_zero] at c0 c1 c2 c3 c4 c5 c6 c7; have HB2 := hid hb2; clear hb2) | (go_at_call 31; refine (HD.out _ (HX.out.trans hx2)).mono ?_; rintro _ w3 ⟨rfl, hx3⟩))
      go_ret
      exact ⟨ret_int HR.out.symm, (HX.out.trans hx2).trans hx3⟩
    · have b5 : decide ((50 : Int) < ((e.depth : Nat) : Int)) = false := by simp; omega
      have HR : Hid (validE e = if e.formed = true then 0 else 1) := by unfold Hid; rw [HE.out, HLE2.out]; simp [h5]
      clear h5 hreg HE HLE2
      unfold Nd.val at *
      unfold Nd.cells at *
      generalize validE e = R at *
      generalize e.formed = Y at *
      generalize e.depth = D at *
      generalize e.nodes = M at *
      generalize e.d = d at *
      obtain ⟨op, tb, nm, ix, vk, vi, vt⟩ := d
      simp only at *
      cases Y
      all_goals
        go_enter Tryz.func18, Tryz.ntmps18
        go_wp2_with (first | (go_at_call 44; refine (HC.out _ HX.out).mono ?_; rintro _ w2 ⟨rfl, hx2⟩; have hb2 := HB0.out.ext hx2; have c0 := hb2.cell 0; have c1 := hb2.cell 1; have c2 := hb2.cell 2; have c3 := hb2.cell 3; have c4 := hb2.cell 4; have c5 := hb2.cell 5; have c6 := hb2.cell 6; have c7 := hb2.cell 7; simp only [List.getElem?_cons_succ, List.getElem?_cons_zero] at c0 c1 c2 c3 c4 c5 c6 c7; have HB2 := hid hb2; clear hb2) | (go_at_call 31; refine (HD.out _ (HX.out.trans hx2)).mono ?_; rintro _ w3 ⟨rfl, hx3⟩; have hb3 := HB2.out.ext hx3; have d0 := hb3.cell 0; have d1 := hb3.cell 1; have d2 := hb3.cell 2; have d3 := hb3.cell 3; have d4 := hb3.cell 4; have d5 := hb3.cell 5; have d6 := hb3.cell 6; have d7 := hb3.cell 7; simp only [List.getElem?_cons_succ, List.getElem?_cons_zero] at d0 d1 d2 d3 d4 d5 d6 d7; clear hb3) | (go_at_call 48; refine (HF.out _ ((HX.out.trans hx2).trans hx3)).mono ?_; rintro _ w4 ⟨rfl, hx4⟩))
        go_ret
        exact ⟨ret_int (by rw [HR.out]; rfl), ((HX.out.trans hx2).trans hx3).trans hx4⟩
end Go.Proofs.YtcdnodjcnofogaaGreatDoor
