/-
  Walks: formed.
-/
import Derived.Test.YtcdnodjcnofogaaGreatDoorW8
namespace Go.Proofs.YtcdnodjcnofogaaGreatDoor
open Go.RowKit
set_option linter.unusedVariables false
set_option linter.unusedSimpArgs false
set_option maxHeartbeats 4000000
set_option maxRecDepth 100000

theorem contains_ex (F : FuncId) (hE : Ent F) (p : Ex → Bool) (l : List Ex) (A : Option Addr) (n c : Nat) (w : World) (hl : l.length = n) (hn : n ≤ 9223372036854775807) (hk : KidsAt w A l)
    (hF : ∀ x ∈ l, ∀ (A' : Option Addr) (n' c' : Nat) (W : World), Ext w W → ExV W x A' n' c' → Calls Tryz.prog F #[x.d.val A' n' c'] W fun r W' => r = .returned (.bool (p x)) ∧ Ext W W') :
    Calls Tryz.prog 68 #[.slice A n c, .func (Fn.func F) #[] #[]] w fun r w' => r = .returned (.bool (l.any p)) ∧ Ext w w' := by
  have HC := hid (index_ex F hE p l A n c w hl hn hk hF)
  clear hl hk hF
  go_enter Tryz.func68, Tryz.ntmps68
  go_wp2_with (go_at_call 113; refine HC.out.mono ?_; rintro _ w2 ⟨⟨x, hx, rfl, hx0⟩, hx2⟩; have HX0 := hid hx0; clear hx0)
  go_ret
  exact ⟨ret_bool HX0.out, hx2⟩
/-- well-formed operands -/
theorem formed_eq (d : Nd) (ks : List Ex) : (Ex.mk d ks).formed = (opN d.op == (ks.length : Int) && !(ks.any fun x => !x.formed) && ndB d (ks.map Ex.d)) := by
  rw [Ex.formed, formedL_all]
  congr 2
  rw [List.any_eq_not_all_not, Bool.not_not]
  simp
theorem get1 {ks : List Ex} (d : Nd) {e : Ex} (h : ks[1]? = some e) : (ks.map Ex.d).getD 1 d = e.d := by
  rw [List.getD_eq_getElem?_getD, List.getElem?_map, h]; rfl
/-- the closure of formed -/
theorem formed1 (x : Ex) (A : Option Addr) (n c : Nat) (w : World) (h : ∀ W, Ext w W → Calls Tryz.prog 47 #[x.d.val A n c] W fun r w' => r = .returned (.bool x.formed) ∧ Ext W w') :
    Calls Tryz.prog 101 #[x.d.val A n c] w fun r w' => r = .returned (.bool (!x.formed)) ∧ Ext w w' := by
  have H := hid h
  clear h
  unfold Nd.val at *
  go_enter Tryz.func101, Tryz.ntmps101
  go_wp2_with (go_at_call 47; refine (H.out _ ((Ext.refl w).alloc _)).mono ?_; rintro _ w2 ⟨rfl, hx2⟩)
  go_ret
  exact ⟨rfl, ((Ext.refl w).alloc _).trans hx2⟩


/-- what a walk of formed needs -/
structure FC (tb nm vt : ByteArray) (A : Option Addr) (n c : Nat) (w : World) (B : Bool) : Prop where
  tb : tb.size ≤ 9223372036854775807
  nm : nm.size ≤ 9223372036854775807
  vt : vt.size ≤ 9223372036854775807
  sh : Sh w
  con : ∀ y : Later w, Calls Tryz.prog 68 #[.slice A n c, .func (Fn.func 101) #[] #[]] y.now fun r w' => r = .returned (.bool B) ∧ Ext y.now w'
theorem fc1 (op : Int) (tb nm vt : ByteArray) (ix vk vi : Int) (A : Option Addr) (n c : Nat) (w : World) (B : Bool) (h : FC tb nm vt A n c w B) (bN : (opN op != (n : Int)) = true) :
    Calls Tryz.prog 47 #[.agg #[.int .i64 op, .string tb, .string nm, .int .i64 ix, .int .i64 vk, .int .i64 vi, .string vt, .slice A n c]] w fun r w' => r = .returned (.bool false) ∧ Ext w w' := by
  have H := hid h
  clear h
  have HB := hid (Blk.of_new w 35 [.int .i64 op, .string tb, .string nm, .int .i64 ix, .int .i64 vk, .int .i64 vi, .string vt, .slice A n c])
  have HX := hid ((Ext.refl w).alloc (.cells #[.int .i64 op, .string tb, .string nm, .int .i64 ix, .int .i64 vk, .int .i64 vi, .string vt, .slice A n c] 35))
  go_enter Tryz.func47, Tryz.ntmps47
  go_wp2_with fail
  generalize w.alloc (.cells #[.int .i64 op, .string tb, .string nm, .int .i64 ix, .int .i64 vk, .int .i64 vi, .string vt, .slice A n c] 35) = w1 at *
  generalize w.heap.size = g at *
  have k0 := Later.keep (HB.out.cell_some (i := 0) rfl)
  have k7 := Later.keep (HB.out.cell_some (i := 7) rfl)
  have HC1 : Hid (∀ y : Later w1, Calls Tryz.prog 68 #[.slice A n c, .func (Fn.func 101) #[] #[]] y.now fun r w' => r = .returned (.bool B) ∧ Ext y.now w') := fun y => H.out.con ⟨y.now, HX.out.trans y.ext⟩
  refine wp_region_later (by kernel_rfl) (by kernel_rfl) ?_
  repeat (go_big_quiet_step ((first | (go_at_call 100; exact later_same (operands_any _ _)) | (go_at_call 68; exact later_of (HC1.out _)))))
  refine wpQuiet_nil ?_
  intro w2 hw2
  have hx2 := later_out hw2
  clear hw2 k0 k7 HC1
  have HX2 := hid (HX.out.trans hx2)
  have hB2 := HB.out.ext hx2
  have c0 := hB2.cell 0
  have c1 := hB2.cell 1
  have c2 := hB2.cell 2
  have c4 := hB2.cell 4
  have c5 := hB2.cell 5
  have c6 := hB2.cell 6
  have c7 := hB2.cell 7
  simp only [List.getElem?_cons_succ, List.getElem?_cons_zero] at c0 c1 c2 c4 c5 c6 c7
  clear hB2 hx2
  go_wp2_with fail
  go_ret
  exact ⟨rfl, HX2.out⟩
theorem fc2 (op : Int) (tb nm vt : ByteArray) (ix vk vi : Int) (A : Option Addr) (n c : Nat) (w : World) (h : FC tb nm vt A n c w true) (bN : (opN op != (n : Int)) = false) :
    Calls Tryz.prog 47 #[.agg #[.int .i64 op, .string tb, .string nm, .int .i64 ix, .int .i64 vk, .int .i64 vi, .string vt, .slice A n c]] w fun r w' => r = .returned (.bool false) ∧ Ext w w' := by
  have H := hid h
  clear h
  have HB := hid (Blk.of_new w 35 [.int .i64 op, .string tb, .string nm, .int .i64 ix, .int .i64 vk, .int .i64 vi, .string vt, .slice A n c])
  have HX := hid ((Ext.refl w).alloc (.cells #[.int .i64 op, .string tb, .string nm, .int .i64 ix, .int .i64 vk, .int .i64 vi, .string vt, .slice A n c] 35))
  go_enter Tryz.func47, Tryz.ntmps47
  go_wp2_with fail
  generalize w.alloc (.cells #[.int .i64 op, .string tb, .string nm, .int .i64 ix, .int .i64 vk, .int .i64 vi, .string vt, .slice A n c] 35) = w1 at *
  generalize w.heap.size = g at *
  have k0 := Later.keep (HB.out.cell_some (i := 0) rfl)
  have k7 := Later.keep (HB.out.cell_some (i := 7) rfl)
  have HC1 : Hid (∀ y : Later w1, Calls Tryz.prog 68 #[.slice A n c, .func (Fn.func 101) #[] #[]] y.now fun r w' => r = .returned (.bool true) ∧ Ext y.now w') := fun y => H.out.con ⟨y.now, HX.out.trans y.ext⟩
  refine wp_region_later (by kernel_rfl) (by kernel_rfl) ?_
  repeat (go_big_quiet_step ((first | (go_at_call 100; exact later_same (operands_any _ _)) | (go_at_call 68; exact later_of (HC1.out _)))))
  refine wpQuiet_nil ?_
  intro w2 hw2
  have hx2 := later_out hw2
  clear hw2 k0 k7 HC1
  have HX2 := hid (HX.out.trans hx2)
  have hB2 := HB.out.ext hx2
  have c0 := hB2.cell 0
  have c1 := hB2.cell 1
  have c2 := hB2.cell 2
  have c4 := hB2.cell 4
  have c5 := hB2.cell 5
  have c6 := hB2.cell 6
  have c7 := hB2.cell 7
  simp only [List.getElem?_cons_succ, List.getElem?_cons_zero] at c0 c1 c2 c4 c5 c6 c7
  clear hB2 hx2
  go_wp2_with fail
  go_ret
  exact ⟨rfl, HX2.out⟩
theorem fc3a (op : Int) (tb nm vt : ByteArray) (ix vk vi : Int) (A : Option Addr) (n c : Nat) (w : World) (h : FC tb nm vt A n c w false) (bN : (opN op != (n : Int)) = false) (b2 : (op == 2) = true) (HN1 : Hid (nameB nm = false)) :
    Calls Tryz.prog 47 #[.agg #[.int .i64 op, .string tb, .string nm, .int .i64 ix, .int .i64 vk, .int .i64 vi, .string vt, .slice A n c]] w fun r w' => r = .returned (.bool false) ∧ Ext w w' := by
  have H := hid h
  clear h
  have HB := hid (Blk.of_new w 35 [.int .i64 op, .string tb, .string nm, .int .i64 ix, .int .i64 vk, .int .i64 vi, .string vt, .slice A n c])
  have HX := hid ((Ext.refl w).alloc (.cells #[.int .i64 op, .string tb, .string nm, .int .i64 ix, .int .i64 vk, .int .i64 vi, .string vt, .slice A n c] 35))
  go_enter Tryz.func47, Tryz.ntmps47
  go_wp2_with fail
  generalize w.alloc (.cells #[.int .i64 op, .string tb, .string nm, .int .i64 ix, .int .i64 vk, .int .i64 vi, .string vt, .slice A n c] 35) = w1 at *
  generalize w.heap.size = g at *
  have k0 := Later.keep (HB.out.cell_some (i := 0) rfl)
  have k7 := Later.keep (HB.out.cell_some (i := 7) rfl)
  have HC1 : Hid (∀ y : Later w1, Calls Tryz.prog 68 #[.slice A n c, .func (Fn.func 101) #[] #[]] y.now fun r w' => r = .returned (.bool false) ∧ Ext y.now w') := fun y => H.out.con ⟨y.now, HX.out.trans y.ext⟩
  refine wp_region_later (by kernel_rfl) (by kernel_rfl) ?_
  repeat (go_big_quiet_step ((first | (go_at_call 100; exact later_same (operands_any _ _)) | (go_at_call 68; exact later_of (HC1.out _)))))
  refine wpQuiet_nil ?_
  intro w2 hw2
  have hx2 := later_out hw2
  clear hw2 k0 k7 HC1
  have HX2 := hid (HX.out.trans hx2)
  have hB2 := HB.out.ext hx2
  have c0 := hB2.cell 0
  have c1 := hB2.cell 1
  have c2 := hB2.cell 2
  have c4 := hB2.cell 4
  have c5 := hB2.cell 5
  have c6 := hB2.cell 6
  have c7 := hB2.cell 7
  simp only [List.getElem?_cons_succ, List.getElem?_cons_zero] at c0 c1 c2 c4 c5 c6 c7
  clear hB2 hx2
  go_wp2_with (go_at_call 71; refine (name_any nm _ (H.out.sh.ext HX2.out) H.out.nm).mono ?_; rintro _ w3 ⟨rfl, rfl⟩; rw [HN1.out])
  go_ret
  exact ⟨rfl, HX2.out⟩
theorem fc3b (op : Int) (nm vt : ByteArray) (ix vk vi : Int) (A : Option Addr) (n c : Nat) (w : World) (h : FC ⟨#[]⟩ nm vt A n c w false) (bN : (opN op != (n : Int)) = false) (b2 : (op == 2) = true) (HN1 : Hid (nameB nm = true)) :
    Calls Tryz.prog 47 #[.agg #[.int .i64 op, .string ⟨#[]⟩, .string nm, .int .i64 ix, .int .i64 vk, .int .i64 vi, .string vt, .slice A n c]] w fun r w' => r = .returned (.bool (vk == 0 && vi == 0 && vt.size == 0)) ∧ Ext w w' := by
  have H := hid h
  clear h
  have HB := hid (Blk.of_new w 35 [.int .i64 op, .string ⟨#[]⟩, .string nm, .int .i64 ix, .int .i64 vk, .int .i64 vi, .string vt, .slice A n c])
  have HX := hid ((Ext.refl w).alloc (.cells #[.int .i64 op, .string ⟨#[]⟩, .string nm, .int .i64 ix, .int .i64 vk, .int .i64 vi, .string vt, .slice A n c] 35))
  go_enter Tryz.func47, Tryz.ntmps47
  go_wp2_with fail
  generalize w.alloc (.cells #[.int .i64 op, .string ⟨#[]⟩, .string nm, .int .i64 ix, .int .i64 vk, .int .i64 vi, .string vt, .slice A n c] 35) = w1 at *
  generalize w.heap.size = g at *
  have k0 := Later.keep (HB.out.cell_some (i := 0) rfl)
  have k7 := Later.keep (HB.out.cell_some (i := 7) rfl)
  have HC1 : Hid (∀ y : Later w1, Calls Tryz.prog 68 #[.slice A n c, .func (Fn.func 101) #[] #[]] y.now fun r w' => r = .returned (.bool false) ∧ Ext y.now w') := fun y => H.out.con ⟨y.now, HX.out.trans y.ext⟩
  refine wp_region_later (by kernel_rfl) (by kernel_rfl) ?_
  repeat (go_big_quiet_step ((first | (go_at_call 100; exact later_same (operands_any _ _)) | (go_at_call 68; exact later_of (HC1.out _)))))
  refine wpQuiet_nil ?_
  intro w2 hw2
  have hx2 := later_out hw2
  clear hw2 k0 k7 HC1
  have HX2 := hid (HX.out.trans hx2)
  have hB2 := HB.out.ext hx2
  have c0 := hB2.cell 0
  have c1 := hB2.cell 1
  have c2 := hB2.cell 2
  have c4 := hB2.cell 4
  have c5 := hB2.cell 5
  have c6 := hB2.cell 6
  have c7 := hB2.cell 7
  simp only [List.getElem?_cons_succ, List.getElem?_cons_zero] at c0 c1 c2 c4 c5 c6 c7
  clear hB2 hx2
  go_wp2_with (go_at_call 71; refine (name_any nm _ (H.out.sh.ext HX2.out) H.out.nm).mono ?_; rintro _ w3 ⟨rfl, rfl⟩; rw [HN1.out])
  all_goals
    go_ret
    refine ⟨ret_bool ?_, HX2.out⟩
    rw [str0_b]
    simp [*]
theorem fc3c (op : Int) (tb nm vt : ByteArray) (ix vk vi : Int) (A : Option Addr) (n c : Nat) (w : World) (h : FC tb nm vt A n c w false) (bN : (opN op != (n : Int)) = false) (b2 : (op == 2) = true) (HN1 : Hid (nameB nm = true)) (HN2 : Hid (nameB tb = false)) (t1 : ¬ tb.toList = []) (t2 : tb.toList.isEmpty = false) :
    Calls Tryz.prog 47 #[.agg #[.int .i64 op, .string tb, .string nm, .int .i64 ix, .int .i64 vk, .int .i64 vi, .string vt, .slice A n c]] w fun r w' => r = .returned (.bool false) ∧ Ext w w' := by
  have H := hid h
  clear h
  have HB := hid (Blk.of_new w 35 [.int .i64 op, .string tb, .string nm, .int .i64 ix, .int .i64 vk, .int .i64 vi, .string vt, .slice A n c])
  have HX := hid ((Ext.refl w).alloc (.cells #[.int .i64 op, .string tb, .string nm, .int .i64 ix, .int .i64 vk, .int .i64 vi, .string vt, .slice A n c] 35))
  go_enter Tryz.func47, Tryz.ntmps47
  go_wp2_with fail
  generalize w.alloc (.cells #[.int .i64 op, .string tb, .string nm, .int .i64 ix, .int .i64 vk, .int .i64 vi, .string vt, .slice A n c] 35) = w1 at *
  generalize w.heap.size = g at *
  have k0 := Later.keep (HB.out.cell_some (i := 0) rfl)
  have k7 := Later.keep (HB.out.cell_some (i := 7) rfl)
  have HC1 : Hid (∀ y : Later w1, Calls Tryz.prog 68 #[.slice A n c, .func (Fn.func 101) #[] #[]] y.now fun r w' => r = .returned (.bool false) ∧ Ext y.now w') := fun y => H.out.con ⟨y.now, HX.out.trans y.ext⟩
  refine wp_region_later (by kernel_rfl) (by kernel_rfl) ?_
  repeat (go_big_quiet_step ((first | (go_at_call 100; exact later_same (operands_any _ _)) | (go_at_call 68; exact later_of (HC1.out _)))))
  refine wpQuiet_nil ?_
  intro w2 hw2
  have hx2 := later_out hw2
  clear hw2 k0 k7 HC1
  have HX2 := hid (HX.out.trans hx2)
  have hB2 := HB.out.ext hx2
  have c0 := hB2.cell 0
  have c1 := hB2.cell 1
  have c2 := hB2.cell 2
  have c4 := hB2.cell 4
  have c5 := hB2.cell 5
  have c6 := hB2.cell 6
  have c7 := hB2.cell 7
  simp only [List.getElem?_cons_succ, List.getElem?_cons_zero] at c0 c1 c2 c4 c5 c6 c7
  clear hB2 hx2
  go_wp2_with (first | (go_at_call 71; (with_reducible refine (name_any nm _ (H.out.sh.ext HX2.out) H.out.nm).mono ?_); rintro _ w3 ⟨rfl, rfl⟩; rw [HN1.out]) | (go_at_call 71; (with_reducible refine (name_any tb _ (H.out.sh.ext HX2.out) H.out.tb).mono ?_); rintro _ w3 ⟨rfl, rfl⟩; rw [HN2.out]))
  go_ret
  exact ⟨rfl, HX2.out⟩
theorem fc3d (op : Int) (tb nm vt : ByteArray) (ix vk vi : Int) (A : Option Addr) (n c : Nat) (w : World) (h : FC tb nm vt A n c w false) (bN : (opN op != (n : Int)) = false) (b2 : (op == 2) = true) (HN1 : Hid (nameB nm = true)) (HN2 : Hid (nameB tb = true)) (t1 : ¬ tb.toList = []) (t2 : tb.toList.isEmpty = false) :
    Calls Tryz.prog 47 #[.agg #[.int .i64 op, .string tb, .string nm, .int .i64 ix, .int .i64 vk, .int .i64 vi, .string vt, .slice A n c]] w fun r w' => r = .returned (.bool (vk == 0 && vi == 0 && vt.size == 0)) ∧ Ext w w' := by
  have H := hid h
  clear h
  have HB := hid (Blk.of_new w 35 [.int .i64 op, .string tb, .string nm, .int .i64 ix, .int .i64 vk, .int .i64 vi, .string vt, .slice A n c])
  have HX := hid ((Ext.refl w).alloc (.cells #[.int .i64 op, .string tb, .string nm, .int .i64 ix, .int .i64 vk, .int .i64 vi, .string vt, .slice A n c] 35))
  go_enter Tryz.func47, Tryz.ntmps47
  go_wp2_with fail
  generalize w.alloc (.cells #[.int .i64 op, .string tb, .string nm, .int .i64 ix, .int .i64 vk, .int .i64 vi, .string vt, .slice A n c] 35) = w1 at *
  generalize w.heap.size = g at *
  have k0 := Later.keep (HB.out.cell_some (i := 0) rfl)
  have k7 := Later.keep (HB.out.cell_some (i := 7) rfl)
  have HC1 : Hid (∀ y : Later w1, Calls Tryz.prog 68 #[.slice A n c, .func (Fn.func 101) #[] #[]] y.now fun r w' => r = .returned (.bool false) ∧ Ext y.now w') := fun y => H.out.con ⟨y.now, HX.out.trans y.ext⟩
  refine wp_region_later (by kernel_rfl) (by kernel_rfl) ?_
  repeat (go_big_quiet_step ((first | (go_at_call 100; exact later_same (operands_any _ _)) | (go_at_call 68; exact later_of (HC1.out _)))))
  refine wpQuiet_nil ?_
  intro w2 hw2
  have hx2 := later_out hw2
  clear hw2 k0 k7 HC1
  have HX2 := hid (HX.out.trans hx2)
  have hB2 := HB.out.ext hx2
  have c0 := hB2.cell 0
  have c1 := hB2.cell 1
  have c2 := hB2.cell 2
  have c4 := hB2.cell 4
  have c5 := hB2.cell 5
  have c6 := hB2.cell 6
  have c7 := hB2.cell 7
  simp only [List.getElem?_cons_succ, List.getElem?_cons_zero] at c0 c1 c2 c4 c5 c6 c7
  clear hB2 hx2
  go_wp2_with (first | (go_at_call 71; (with_reducible refine (name_any nm _ (H.out.sh.ext HX2.out) H.out.nm).mono ?_); rintro _ w3 ⟨rfl, rfl⟩; rw [HN1.out]) | (go_at_call 71; (with_reducible refine (name_any tb _ (H.out.sh.ext HX2.out) H.out.tb).mono ?_); rintro _ w3 ⟨rfl, rfl⟩; rw [HN2.out]))
  all_goals
    go_ret
    refine ⟨ret_bool ?_, HX2.out⟩
    rw [str0_b]
    simp [*]
theorem fc4a (op : Int) (vt : ByteArray) (ix vk vi : Int) (A : Option Addr) (n c : Nat) (w : World) (d : Nd) (e0 : d.vk = vk) (e1 : d.vi = vi) (e2 : d.vt = vt) (h : FC ⟨#[]⟩ ⟨#[]⟩ vt A n c w false) (bN : (opN op != (n : Int)) = false) (b2 : (op == 2) = false) (b1 : (op == 1) = true)  :
    Calls Tryz.prog 47 #[.agg #[.int .i64 op, .string ⟨#[]⟩, .string ⟨#[]⟩, .int .i64 ix, .int .i64 vk, .int .i64 vi, .string vt, .slice A n c]] w fun r w' => r = .returned (.bool d.litB) ∧ Ext w w' := by
  have H := hid h
  clear h
  have HLit := hid (fun W => literal_any vk vi vt W H.out.vt d e0 e1 e2)
  clear e0 e1 e2
  have HB := hid (Blk.of_new w 35 [.int .i64 op, .string ⟨#[]⟩, .string ⟨#[]⟩, .int .i64 ix, .int .i64 vk, .int .i64 vi, .string vt, .slice A n c])
  have HX := hid ((Ext.refl w).alloc (.cells #[.int .i64 op, .string ⟨#[]⟩, .string ⟨#[]⟩, .int .i64 ix, .int .i64 vk, .int .i64 vi, .string vt, .slice A n c] 35))
  go_enter Tryz.func47, Tryz.ntmps47
  go_wp2_with fail
  generalize w.alloc (.cells #[.int .i64 op, .string ⟨#[]⟩, .string ⟨#[]⟩, .int .i64 ix, .int .i64 vk, .int .i64 vi, .string vt, .slice A n c] 35) = w1 at *
  generalize w.heap.size = g at *
  have k0 := Later.keep (HB.out.cell_some (i := 0) rfl)
  have k7 := Later.keep (HB.out.cell_some (i := 7) rfl)
  have HC1 : Hid (∀ y : Later w1, Calls Tryz.prog 68 #[.slice A n c, .func (Fn.func 101) #[] #[]] y.now fun r w' => r = .returned (.bool false) ∧ Ext y.now w') := fun y => H.out.con ⟨y.now, HX.out.trans y.ext⟩
  refine wp_region_later (by kernel_rfl) (by kernel_rfl) ?_
  repeat (go_big_quiet_step ((first | (go_at_call 100; exact later_same (operands_any _ _)) | (go_at_call 68; exact later_of (HC1.out _)))))
  refine wpQuiet_nil ?_
  intro w2 hw2
  have hx2 := later_out hw2
  clear hw2 k0 k7 HC1
  have HX2 := hid (HX.out.trans hx2)
  have hB2 := HB.out.ext hx2
  have c0 := hB2.cell 0
  have c1 := hB2.cell 1
  have c2 := hB2.cell 2
  have c4 := hB2.cell 4
  have c5 := hB2.cell 5
  have c6 := hB2.cell 6
  have c7 := hB2.cell 7
  simp only [List.getElem?_cons_succ, List.getElem?_cons_zero] at c0 c1 c2 c4 c5 c6 c7
  clear hB2 hx2
  go_wp2_with (go_at_call 102; refine (HLit.out _).mono ?_; rintro _ w3 ⟨rfl, hx3⟩)
  go_ret
  exact ⟨rfl, HX2.out.trans hx3⟩
theorem fc4b (op : Int) (nm vt : ByteArray) (ix vk vi : Int) (A : Option Addr) (n c : Nat) (w : World) (h : FC ⟨#[]⟩ nm vt A n c w false) (bN : (opN op != (n : Int)) = false) (b2 : (op == 2) = false) (b1 : (op == 1) = true) (t1 : ¬ nm.toList = []) (t2 : nm.toList.isEmpty = false) :
    Calls Tryz.prog 47 #[.agg #[.int .i64 op, .string ⟨#[]⟩, .string nm, .int .i64 ix, .int .i64 vk, .int .i64 vi, .string vt, .slice A n c]] w fun r w' => r = .returned (.bool false) ∧ Ext w w' := by
  have H := hid h
  clear h
  have HB := hid (Blk.of_new w 35 [.int .i64 op, .string ⟨#[]⟩, .string nm, .int .i64 ix, .int .i64 vk, .int .i64 vi, .string vt, .slice A n c])
  have HX := hid ((Ext.refl w).alloc (.cells #[.int .i64 op, .string ⟨#[]⟩, .string nm, .int .i64 ix, .int .i64 vk, .int .i64 vi, .string vt, .slice A n c] 35))
  go_enter Tryz.func47, Tryz.ntmps47
  go_wp2_with fail
  generalize w.alloc (.cells #[.int .i64 op, .string ⟨#[]⟩, .string nm, .int .i64 ix, .int .i64 vk, .int .i64 vi, .string vt, .slice A n c] 35) = w1 at *
  generalize w.heap.size = g at *
  have k0 := Later.keep (HB.out.cell_some (i := 0) rfl)
  have k7 := Later.keep (HB.out.cell_some (i := 7) rfl)
  have HC1 : Hid (∀ y : Later w1, Calls Tryz.prog 68 #[.slice A n c, .func (Fn.func 101) #[] #[]] y.now fun r w' => r = .returned (.bool false) ∧ Ext y.now w') := fun y => H.out.con ⟨y.now, HX.out.trans y.ext⟩
  refine wp_region_later (by kernel_rfl) (by kernel_rfl) ?_
  repeat (go_big_quiet_step ((first | (go_at_call 100; exact later_same (operands_any _ _)) | (go_at_call 68; exact later_of (HC1.out _)))))
  refine wpQuiet_nil ?_
  intro w2 hw2
  have hx2 := later_out hw2
  clear hw2 k0 k7 HC1
  have HX2 := hid (HX.out.trans hx2)
  have hB2 := HB.out.ext hx2
  have c0 := hB2.cell 0
  have c1 := hB2.cell 1
  have c2 := hB2.cell 2
  have c4 := hB2.cell 4
  have c5 := hB2.cell 5
  have c6 := hB2.cell 6
  have c7 := hB2.cell 7
  simp only [List.getElem?_cons_succ, List.getElem?_cons_zero] at c0 c1 c2 c4 c5 c6 c7
  clear hB2 hx2
  go_wp2_with fail
  go_ret
  exact ⟨rfl, HX2.out⟩
theorem fc4c (op : Int) (tb nm vt : ByteArray) (ix vk vi : Int) (A : Option Addr) (n c : Nat) (w : World) (h : FC tb nm vt A n c w false) (bN : (opN op != (n : Int)) = false) (b2 : (op == 2) = false) (b1 : (op == 1) = true) (t1 : ¬ tb.toList = []) (t2 : tb.toList.isEmpty = false) :
    Calls Tryz.prog 47 #[.agg #[.int .i64 op, .string tb, .string nm, .int .i64 ix, .int .i64 vk, .int .i64 vi, .string vt, .slice A n c]] w fun r w' => r = .returned (.bool false) ∧ Ext w w' := by
  have H := hid h
  clear h
  have HB := hid (Blk.of_new w 35 [.int .i64 op, .string tb, .string nm, .int .i64 ix, .int .i64 vk, .int .i64 vi, .string vt, .slice A n c])
  have HX := hid ((Ext.refl w).alloc (.cells #[.int .i64 op, .string tb, .string nm, .int .i64 ix, .int .i64 vk, .int .i64 vi, .string vt, .slice A n c] 35))
  go_enter Tryz.func47, Tryz.ntmps47
  go_wp2_with fail
  generalize w.alloc (.cells #[.int .i64 op, .string tb, .string nm, .int .i64 ix, .int .i64 vk, .int .i64 vi, .string vt, .slice A n c] 35) = w1 at *
  generalize w.heap.size = g at *
  have k0 := Later.keep (HB.out.cell_some (i := 0) rfl)
  have k7 := Later.keep (HB.out.cell_some (i := 7) rfl)
  have HC1 : Hid (∀ y : Later w1, Calls Tryz.prog 68 #[.slice A n c, .func (Fn.func 101) #[] #[]] y.now fun r w' => r = .returned (.bool false) ∧ Ext y.now w') := fun y => H.out.con ⟨y.now, HX.out.trans y.ext⟩
  refine wp_region_later (by kernel_rfl) (by kernel_rfl) ?_
  repeat (go_big_quiet_step ((first | (go_at_call 100; exact later_same (operands_any _ _)) | (go_at_call 68; exact later_of (HC1.out _)))))
  refine wpQuiet_nil ?_
  intro w2 hw2
  have hx2 := later_out hw2
  clear hw2 k0 k7 HC1
  have HX2 := hid (HX.out.trans hx2)
  have hB2 := HB.out.ext hx2
  have c0 := hB2.cell 0
  have c1 := hB2.cell 1
  have c2 := hB2.cell 2
  have c4 := hB2.cell 4
  have c5 := hB2.cell 5
  have c6 := hB2.cell 6
  have c7 := hB2.cell 7
  simp only [List.getElem?_cons_succ, List.getElem?_cons_zero] at c0 c1 c2 c4 c5 c6 c7
  clear hB2 hx2
  go_wp2_with fail
  go_ret
  exact ⟨rfl, HX2.out⟩
theorem fc5a (op : Int) (tb nm vt : ByteArray) (ix vk vi : Int) (n c : Nat) (w : World) (b off : Nat) (op1 : Int) (tb1 nm1 : ByteArray) (ix1 vk1 vi1 : Int) (vt1 : ByteArray) (A1 : Option Addr) (n1 c1 : Nat) (HQ : Hid (w.cell? ⟨b, off + 1 * 8, none⟩ = some (.int .i64 op1) ∧ w.cell? ⟨b, off + 1 * 8 + 1, none⟩ = some (.string tb1) ∧ w.cell? ⟨b, off + 1 * 8 + 2, none⟩ = some (.string nm1) ∧ w.cell? ⟨b, off + 1 * 8 + 3, none⟩ = some (.int .i64 ix1) ∧ w.cell? ⟨b, off + 1 * 8 + 4, none⟩ = some (.int .i64 vk1) ∧ w.cell? ⟨b, off + 1 * 8 + 5, none⟩ = some (.int .i64 vi1) ∧ w.cell? ⟨b, off + 1 * 8 + 6, none⟩ = some (.string vt1) ∧ w.cell? ⟨b, off + 1 * 8 + 7, none⟩ = some (.slice A1 n1 c1))) (h : FC tb nm vt (some ⟨b, off, none⟩) n c w false) (bN : (opN op != (n : Int)) = false) (b2 : (op == 2) = false) (b1 : (op == 1) = false) (b16 : (op == 16) = true) (hn2 : (1 : Int) < (n : Int)) (p1 : (op1 != 1) = true) :
    Calls Tryz.prog 47 #[.agg #[.int .i64 op, .string tb, .string nm, .int .i64 ix, .int .i64 vk, .int .i64 vi, .string vt, .slice (some ⟨b, off, none⟩) n c]] w fun r w' => r = .returned (.bool false) ∧ Ext w w' := by
  have H := hid h
  clear h
  have HB := hid (Blk.of_new w 35 [.int .i64 op, .string tb, .string nm, .int .i64 ix, .int .i64 vk, .int .i64 vi, .string vt, .slice (some ⟨b, off, none⟩) n c])
  have HX := hid ((Ext.refl w).alloc (.cells #[.int .i64 op, .string tb, .string nm, .int .i64 ix, .int .i64 vk, .int .i64 vi, .string vt, .slice (some ⟨b, off, none⟩) n c] 35))
  go_enter Tryz.func47, Tryz.ntmps47
  go_wp2_with fail
  generalize w.alloc (.cells #[.int .i64 op, .string tb, .string nm, .int .i64 ix, .int .i64 vk, .int .i64 vi, .string vt, .slice (some ⟨b, off, none⟩) n c] 35) = w1 at *
  generalize w.heap.size = g at *
  have k0 := Later.keep (HB.out.cell_some (i := 0) rfl)
  have k7 := Later.keep (HB.out.cell_some (i := 7) rfl)
  have HC1 : Hid (∀ y : Later w1, Calls Tryz.prog 68 #[.slice (some ⟨b, off, none⟩) n c, .func (Fn.func 101) #[] #[]] y.now fun r w' => r = .returned (.bool false) ∧ Ext y.now w') := fun y => H.out.con ⟨y.now, HX.out.trans y.ext⟩
  refine wp_region_later (by kernel_rfl) (by kernel_rfl) ?_
  repeat (go_big_quiet_step ((first | (go_at_call 100; exact later_same (operands_any _ _)) | (go_at_call 68; exact later_of (HC1.out _)))))
  refine wpQuiet_nil ?_
  intro w2 hw2
  have hx2 := later_out hw2
  clear hw2 k0 k7 HC1
  have HX2 := hid (HX.out.trans hx2)
  have hB2 := HB.out.ext hx2
  have c0 := hB2.cell 0
  have c1 := hB2.cell 1
  have c2 := hB2.cell 2
  have c4 := hB2.cell 4
  have c5 := hB2.cell 5
  have c6 := hB2.cell 6
  have c7 := hB2.cell 7
  simp only [List.getElem?_cons_succ, List.getElem?_cons_zero] at c0 c1 c2 c4 c5 c6 c7
  clear hB2 hx2
  obtain ⟨q0, q1, q2, q3, q4, q5, q6, q7⟩ := HQ.out
  replace q0 := HX2.out.keep q0
  replace q1 := HX2.out.keep q1
  replace q2 := HX2.out.keep q2
  replace q3 := HX2.out.keep q3
  replace q4 := HX2.out.keep q4
  replace q5 := HX2.out.keep q5
  replace q6 := HX2.out.keep q6
  replace q7 := HX2.out.keep q7
  go_wp2_with fail
  go_ret
  exact ⟨rfl, HX2.out.alloc _⟩
theorem fc5b (op : Int) (tb nm vt : ByteArray) (ix vk vi : Int) (n c : Nat) (w : World) (b off : Nat) (op1 : Int) (tb1 nm1 : ByteArray) (ix1 vk1 vi1 : Int) (vt1 : ByteArray) (A1 : Option Addr) (n1 c1 : Nat) (HQ : Hid (w.cell? ⟨b, off + 1 * 8, none⟩ = some (.int .i64 op1) ∧ w.cell? ⟨b, off + 1 * 8 + 1, none⟩ = some (.string tb1) ∧ w.cell? ⟨b, off + 1 * 8 + 2, none⟩ = some (.string nm1) ∧ w.cell? ⟨b, off + 1 * 8 + 3, none⟩ = some (.int .i64 ix1) ∧ w.cell? ⟨b, off + 1 * 8 + 4, none⟩ = some (.int .i64 vk1) ∧ w.cell? ⟨b, off + 1 * 8 + 5, none⟩ = some (.int .i64 vi1) ∧ w.cell? ⟨b, off + 1 * 8 + 6, none⟩ = some (.string vt1) ∧ w.cell? ⟨b, off + 1 * 8 + 7, none⟩ = some (.slice A1 n1 c1))) (h : FC tb nm vt (some ⟨b, off, none⟩) n c w false) (bN : (opN op != (n : Int)) = false) (b2 : (op == 2) = false) (b1 : (op == 1) = false) (b16 : (op == 16) = true) (hn2 : (1 : Int) < (n : Int)) (p1 : (op1 != 1) = false) (p2 : (vk1 != 2) = true) :
    Calls Tryz.prog 47 #[.agg #[.int .i64 op, .string tb, .string nm, .int .i64 ix, .int .i64 vk, .int .i64 vi, .string vt, .slice (some ⟨b, off, none⟩) n c]] w fun r w' => r = .returned (.bool false) ∧ Ext w w' := by
  have H := hid h
  clear h
  have HB := hid (Blk.of_new w 35 [.int .i64 op, .string tb, .string nm, .int .i64 ix, .int .i64 vk, .int .i64 vi, .string vt, .slice (some ⟨b, off, none⟩) n c])
  have HX := hid ((Ext.refl w).alloc (.cells #[.int .i64 op, .string tb, .string nm, .int .i64 ix, .int .i64 vk, .int .i64 vi, .string vt, .slice (some ⟨b, off, none⟩) n c] 35))
  go_enter Tryz.func47, Tryz.ntmps47
  go_wp2_with fail
  generalize w.alloc (.cells #[.int .i64 op, .string tb, .string nm, .int .i64 ix, .int .i64 vk, .int .i64 vi, .string vt, .slice (some ⟨b, off, none⟩) n c] 35) = w1 at *
  generalize w.heap.size = g at *
  have k0 := Later.keep (HB.out.cell_some (i := 0) rfl)
  have k7 := Later.keep (HB.out.cell_some (i := 7) rfl)
  have HC1 : Hid (∀ y : Later w1, Calls Tryz.prog 68 #[.slice (some ⟨b, off, none⟩) n c, .func (Fn.func 101) #[] #[]] y.now fun r w' => r = .returned (.bool false) ∧ Ext y.now w') := fun y => H.out.con ⟨y.now, HX.out.trans y.ext⟩
  refine wp_region_later (by kernel_rfl) (by kernel_rfl) ?_
  repeat (go_big_quiet_step ((first | (go_at_call 100; exact later_same (operands_any _ _)) | (go_at_call 68; exact later_of (HC1.out _)))))
  refine wpQuiet_nil ?_
  intro w2 hw2
  have hx2 := later_out hw2
  clear hw2 k0 k7 HC1
  have HX2 := hid (HX.out.trans hx2)
  have hB2 := HB.out.ext hx2
  have c0 := hB2.cell 0
  have c1 := hB2.cell 1
  have c2 := hB2.cell 2
  have c4 := hB2.cell 4
  have c5 := hB2.cell 5
  have c6 := hB2.cell 6
  have c7 := hB2.cell 7
  simp only [List.getElem?_cons_succ, List.getElem?_cons_zero] at c0 c1 c2 c4 c5 c6 c7
  clear hB2 hx2
  obtain ⟨q0, q1, q2, q3, q4, q5, q6, q7⟩ := HQ.out
  replace q0 := HX2.out.keep q0
  replace q1 := HX2.out.keep q1
  replace q2 := HX2.out.keep q2
  replace q3 := HX2.out.keep q3
  replace q4 := HX2.out.keep q4
  replace q5 := HX2.out.keep q5
  replace q6 := HX2.out.keep q6
  replace q7 := HX2.out.keep q7
  go_wp2_with fail
  go_ret
  exact ⟨rfl, HX2.out.alloc _⟩
theorem fc5c (op : Int) (tb nm vt : ByteArray) (ix vk vi : Int) (n c : Nat) (w : World) (b off : Nat) (op1 : Int) (tb1 nm1 : ByteArray) (ix1 vk1 vi1 : Int) (vt1 : ByteArray) (A1 : Option Addr) (n1 c1 : Nat) (HQ : Hid (w.cell? ⟨b, off + 1 * 8, none⟩ = some (.int .i64 op1) ∧ w.cell? ⟨b, off + 1 * 8 + 1, none⟩ = some (.string tb1) ∧ w.cell? ⟨b, off + 1 * 8 + 2, none⟩ = some (.string nm1) ∧ w.cell? ⟨b, off + 1 * 8 + 3, none⟩ = some (.int .i64 ix1) ∧ w.cell? ⟨b, off + 1 * 8 + 4, none⟩ = some (.int .i64 vk1) ∧ w.cell? ⟨b, off + 1 * 8 + 5, none⟩ = some (.int .i64 vi1) ∧ w.cell? ⟨b, off + 1 * 8 + 6, none⟩ = some (.string vt1) ∧ w.cell? ⟨b, off + 1 * 8 + 7, none⟩ = some (.slice A1 n1 c1))) (h : FC tb nm vt (some ⟨b, off, none⟩) n c w false) (bN : (opN op != (n : Int)) = false) (b2 : (op == 2) = false) (b1 : (op == 1) = false) (b16 : (op == 16) = true) (hn2 : (1 : Int) < (n : Int)) (p1 : (op1 != 1) = false) (p2 : (vk1 != 2) = false) (t1 : ¬ tb.toList = []) (t2 : tb.toList.isEmpty = false) :
    Calls Tryz.prog 47 #[.agg #[.int .i64 op, .string tb, .string nm, .int .i64 ix, .int .i64 vk, .int .i64 vi, .string vt, .slice (some ⟨b, off, none⟩) n c]] w fun r w' => r = .returned (.bool false) ∧ Ext w w' := by
  have H := hid h
  clear h
  have HB := hid (Blk.of_new w 35 [.int .i64 op, .string tb, .string nm, .int .i64 ix, .int .i64 vk, .int .i64 vi, .string vt, .slice (some ⟨b, off, none⟩) n c])
  have HX := hid ((Ext.refl w).alloc (.cells #[.int .i64 op, .string tb, .string nm, .int .i64 ix, .int .i64 vk, .int .i64 vi, .string vt, .slice (some ⟨b, off, none⟩) n c] 35))
  go_enter Tryz.func47, Tryz.ntmps47
  go_wp2_with fail
  generalize w.alloc (.cells #[.int .i64 op, .string tb, .string nm, .int .i64 ix, .int .i64 vk, .int .i64 vi, .string vt, .slice (some ⟨b, off, none⟩) n c] 35) = w1 at *
  generalize w.heap.size = g at *
  have k0 := Later.keep (HB.out.cell_some (i := 0) rfl)
  have k7 := Later.keep (HB.out.cell_some (i := 7) rfl)
  have HC1 : Hid (∀ y : Later w1, Calls Tryz.prog 68 #[.slice (some ⟨b, off, none⟩) n c, .func (Fn.func 101) #[] #[]] y.now fun r w' => r = .returned (.bool false) ∧ Ext y.now w') := fun y => H.out.con ⟨y.now, HX.out.trans y.ext⟩
  refine wp_region_later (by kernel_rfl) (by kernel_rfl) ?_
  repeat (go_big_quiet_step ((first | (go_at_call 100; exact later_same (operands_any _ _)) | (go_at_call 68; exact later_of (HC1.out _)))))
  refine wpQuiet_nil ?_
  intro w2 hw2
  have hx2 := later_out hw2
  clear hw2 k0 k7 HC1
  have HX2 := hid (HX.out.trans hx2)
  have hB2 := HB.out.ext hx2
  have c0 := hB2.cell 0
  have c1 := hB2.cell 1
  have c2 := hB2.cell 2
  have c4 := hB2.cell 4
  have c5 := hB2.cell 5
  have c6 := hB2.cell 6
  have c7 := hB2.cell 7
  simp only [List.getElem?_cons_succ, List.getElem?_cons_zero] at c0 c1 c2 c4 c5 c6 c7
  clear hB2 hx2
  obtain ⟨q0, q1, q2, q3, q4, q5, q6, q7⟩ := HQ.out
  replace q0 := HX2.out.keep q0
  replace q1 := HX2.out.keep q1
  replace q2 := HX2.out.keep q2
  replace q3 := HX2.out.keep q3
  replace q4 := HX2.out.keep q4
  replace q5 := HX2.out.keep q5
  replace q6 := HX2.out.keep q6
  replace q7 := HX2.out.keep q7
  have a1 := fun o => ((Ext.refl w2).alloc o).keep c1
  have a2 := fun o => ((Ext.refl w2).alloc o).keep c2
  have a4 := fun o => ((Ext.refl w2).alloc o).keep c4
  have a5 := fun o => ((Ext.refl w2).alloc o).keep c5
  have a6 := fun o => ((Ext.refl w2).alloc o).keep c6
  go_wp2_with fail
  go_ret
  exact ⟨rfl, HX2.out.alloc _⟩
theorem fc5d (op : Int) (nm vt : ByteArray) (ix vk vi : Int) (n c : Nat) (w : World) (b off : Nat) (op1 : Int) (tb1 nm1 : ByteArray) (ix1 vk1 vi1 : Int) (vt1 : ByteArray) (A1 : Option Addr) (n1 c1 : Nat) (HQ : Hid (w.cell? ⟨b, off + 1 * 8, none⟩ = some (.int .i64 op1) ∧ w.cell? ⟨b, off + 1 * 8 + 1, none⟩ = some (.string tb1) ∧ w.cell? ⟨b, off + 1 * 8 + 2, none⟩ = some (.string nm1) ∧ w.cell? ⟨b, off + 1 * 8 + 3, none⟩ = some (.int .i64 ix1) ∧ w.cell? ⟨b, off + 1 * 8 + 4, none⟩ = some (.int .i64 vk1) ∧ w.cell? ⟨b, off + 1 * 8 + 5, none⟩ = some (.int .i64 vi1) ∧ w.cell? ⟨b, off + 1 * 8 + 6, none⟩ = some (.string vt1) ∧ w.cell? ⟨b, off + 1 * 8 + 7, none⟩ = some (.slice A1 n1 c1))) (h : FC ⟨#[]⟩ nm vt (some ⟨b, off, none⟩) n c w false) (bN : (opN op != (n : Int)) = false) (b2 : (op == 2) = false) (b1 : (op == 1) = false) (b16 : (op == 16) = true) (hn2 : (1 : Int) < (n : Int)) (p1 : (op1 != 1) = false) (p2 : (vk1 != 2) = false) (t1 : ¬ nm.toList = []) (t2 : nm.toList.isEmpty = false) :
    Calls Tryz.prog 47 #[.agg #[.int .i64 op, .string ⟨#[]⟩, .string nm, .int .i64 ix, .int .i64 vk, .int .i64 vi, .string vt, .slice (some ⟨b, off, none⟩) n c]] w fun r w' => r = .returned (.bool false) ∧ Ext w w' := by
  have H := hid h
  clear h
  have HB := hid (Blk.of_new w 35 [.int .i64 op, .string ⟨#[]⟩, .string nm, .int .i64 ix, .int .i64 vk, .int .i64 vi, .string vt, .slice (some ⟨b, off, none⟩) n c])
  have HX := hid ((Ext.refl w).alloc (.cells #[.int .i64 op, .string ⟨#[]⟩, .string nm, .int .i64 ix, .int .i64 vk, .int .i64 vi, .string vt, .slice (some ⟨b, off, none⟩) n c] 35))
  go_enter Tryz.func47, Tryz.ntmps47
  go_wp2_with fail
  generalize w.alloc (.cells #[.int .i64 op, .string ⟨#[]⟩, .string nm, .int .i64 ix, .int .i64 vk, .int .i64 vi, .string vt, .slice (some ⟨b, off, none⟩) n c] 35) = w1 at *
  generalize w.heap.size = g at *
  have k0 := Later.keep (HB.out.cell_some (i := 0) rfl)
  have k7 := Later.keep (HB.out.cell_some (i := 7) rfl)
  have HC1 : Hid (∀ y : Later w1, Calls Tryz.prog 68 #[.slice (some ⟨b, off, none⟩) n c, .func (Fn.func 101) #[] #[]] y.now fun r w' => r = .returned (.bool false) ∧ Ext y.now w') := fun y => H.out.con ⟨y.now, HX.out.trans y.ext⟩
  refine wp_region_later (by kernel_rfl) (by kernel_rfl) ?_
  repeat (go_big_quiet_step ((first | (go_at_call 100; exact later_same (operands_any _ _)) | (go_at_call 68; exact later_of (HC1.out _)))))
  refine wpQuiet_nil ?_
  intro w2 hw2
  have hx2 := later_out hw2
  clear hw2 k0 k7 HC1
  have HX2 := hid (HX.out.trans hx2)
  have hB2 := HB.out.ext hx2
  have c0 := hB2.cell 0
  have c1 := hB2.cell 1
  have c2 := hB2.cell 2
  have c4 := hB2.cell 4
  have c5 := hB2.cell 5
  have c6 := hB2.cell 6
  have c7 := hB2.cell 7
  simp only [List.getElem?_cons_succ, List.getElem?_cons_zero] at c0 c1 c2 c4 c5 c6 c7
  clear hB2 hx2
  obtain ⟨q0, q1, q2, q3, q4, q5, q6, q7⟩ := HQ.out
  replace q0 := HX2.out.keep q0
  replace q1 := HX2.out.keep q1
  replace q2 := HX2.out.keep q2
  replace q3 := HX2.out.keep q3
  replace q4 := HX2.out.keep q4
  replace q5 := HX2.out.keep q5
  replace q6 := HX2.out.keep q6
  replace q7 := HX2.out.keep q7
  have a1 := fun o => ((Ext.refl w2).alloc o).keep c1
  have a2 := fun o => ((Ext.refl w2).alloc o).keep c2
  have a4 := fun o => ((Ext.refl w2).alloc o).keep c4
  have a5 := fun o => ((Ext.refl w2).alloc o).keep c5
  have a6 := fun o => ((Ext.refl w2).alloc o).keep c6
  go_wp2_with fail
  go_ret
  exact ⟨rfl, HX2.out.alloc _⟩
theorem fc5e (op : Int) (vt : ByteArray) (ix vk vi : Int) (n c : Nat) (w : World) (b off : Nat) (op1 : Int) (tb1 nm1 : ByteArray) (ix1 vk1 vi1 : Int) (vt1 : ByteArray) (A1 : Option Addr) (n1 c1 : Nat) (HQ : Hid (w.cell? ⟨b, off + 1 * 8, none⟩ = some (.int .i64 op1) ∧ w.cell? ⟨b, off + 1 * 8 + 1, none⟩ = some (.string tb1) ∧ w.cell? ⟨b, off + 1 * 8 + 2, none⟩ = some (.string nm1) ∧ w.cell? ⟨b, off + 1 * 8 + 3, none⟩ = some (.int .i64 ix1) ∧ w.cell? ⟨b, off + 1 * 8 + 4, none⟩ = some (.int .i64 vk1) ∧ w.cell? ⟨b, off + 1 * 8 + 5, none⟩ = some (.int .i64 vi1) ∧ w.cell? ⟨b, off + 1 * 8 + 6, none⟩ = some (.string vt1) ∧ w.cell? ⟨b, off + 1 * 8 + 7, none⟩ = some (.slice A1 n1 c1))) (h : FC ⟨#[]⟩ ⟨#[]⟩ vt (some ⟨b, off, none⟩) n c w false) (bN : (opN op != (n : Int)) = false) (b2 : (op == 2) = false) (b1 : (op == 1) = false) (b16 : (op == 16) = true) (hn2 : (1 : Int) < (n : Int)) (p1 : (op1 != 1) = false) (p2 : (vk1 != 2) = false)  :
    Calls Tryz.prog 47 #[.agg #[.int .i64 op, .string ⟨#[]⟩, .string ⟨#[]⟩, .int .i64 ix, .int .i64 vk, .int .i64 vi, .string vt, .slice (some ⟨b, off, none⟩) n c]] w fun r w' => r = .returned (.bool (vk == 0 && vi == 0 && vt.size == 0)) ∧ Ext w w' := by
  have H := hid h
  clear h
  have HB := hid (Blk.of_new w 35 [.int .i64 op, .string ⟨#[]⟩, .string ⟨#[]⟩, .int .i64 ix, .int .i64 vk, .int .i64 vi, .string vt, .slice (some ⟨b, off, none⟩) n c])
  have HX := hid ((Ext.refl w).alloc (.cells #[.int .i64 op, .string ⟨#[]⟩, .string ⟨#[]⟩, .int .i64 ix, .int .i64 vk, .int .i64 vi, .string vt, .slice (some ⟨b, off, none⟩) n c] 35))
  go_enter Tryz.func47, Tryz.ntmps47
  go_wp2_with fail
  generalize w.alloc (.cells #[.int .i64 op, .string ⟨#[]⟩, .string ⟨#[]⟩, .int .i64 ix, .int .i64 vk, .int .i64 vi, .string vt, .slice (some ⟨b, off, none⟩) n c] 35) = w1 at *
  generalize w.heap.size = g at *
  have k0 := Later.keep (HB.out.cell_some (i := 0) rfl)
  have k7 := Later.keep (HB.out.cell_some (i := 7) rfl)
  have HC1 : Hid (∀ y : Later w1, Calls Tryz.prog 68 #[.slice (some ⟨b, off, none⟩) n c, .func (Fn.func 101) #[] #[]] y.now fun r w' => r = .returned (.bool false) ∧ Ext y.now w') := fun y => H.out.con ⟨y.now, HX.out.trans y.ext⟩
  refine wp_region_later (by kernel_rfl) (by kernel_rfl) ?_
  repeat (go_big_quiet_step ((first | (go_at_call 100; exact later_same (operands_any _ _)) | (go_at_call 68; exact later_of (HC1.out _)))))
  refine wpQuiet_nil ?_
  intro w2 hw2
  have hx2 := later_out hw2
  clear hw2 k0 k7 HC1
  have HX2 := hid (HX.out.trans hx2)
  have hB2 := HB.out.ext hx2
  have c0 := hB2.cell 0
  have c1 := hB2.cell 1
  have c2 := hB2.cell 2
  have c4 := hB2.cell 4
  have c5 := hB2.cell 5
  have c6 := hB2.cell 6
  have c7 := hB2.cell 7
  simp only [List.getElem?_cons_succ, List.getElem?_cons_zero] at c0 c1 c2 c4 c5 c6 c7
  clear hB2 hx2
  obtain ⟨q0, q1, q2, q3, q4, q5, q6, q7⟩ := HQ.out
  replace q0 := HX2.out.keep q0
  replace q1 := HX2.out.keep q1
  replace q2 := HX2.out.keep q2
  replace q3 := HX2.out.keep q3
  replace q4 := HX2.out.keep q4
  replace q5 := HX2.out.keep q5
  replace q6 := HX2.out.keep q6
  replace q7 := HX2.out.keep q7
  have a1 := fun o => ((Ext.refl w2).alloc o).keep c1
  have a2 := fun o => ((Ext.refl w2).alloc o).keep c2
  have a4 := fun o => ((Ext.refl w2).alloc o).keep c4
  have a5 := fun o => ((Ext.refl w2).alloc o).keep c5
  have a6 := fun o => ((Ext.refl w2).alloc o).keep c6
  go_wp2_with fail
  all_goals
    go_ret
    refine ⟨ret_bool ?_, HX2.out.alloc _⟩
    rw [str0_b]
    simp [*]
theorem fc6a (op : Int) (tb nm vt : ByteArray) (ix vk vi : Int) (A : Option Addr) (n c : Nat) (w : World) (h : FC tb nm vt A n c w false) (bN : (opN op != (n : Int)) = false) (b2 : (op == 2) = false) (b1 : (op == 1) = false) (b16 : (op == 16) = false) (t1 : ¬ tb.toList = []) (t2 : tb.toList.isEmpty = false) :
    Calls Tryz.prog 47 #[.agg #[.int .i64 op, .string tb, .string nm, .int .i64 ix, .int .i64 vk, .int .i64 vi, .string vt, .slice A n c]] w fun r w' => r = .returned (.bool false) ∧ Ext w w' := by
  have H := hid h
  clear h
  have HB := hid (Blk.of_new w 35 [.int .i64 op, .string tb, .string nm, .int .i64 ix, .int .i64 vk, .int .i64 vi, .string vt, .slice A n c])
  have HX := hid ((Ext.refl w).alloc (.cells #[.int .i64 op, .string tb, .string nm, .int .i64 ix, .int .i64 vk, .int .i64 vi, .string vt, .slice A n c] 35))
  go_enter Tryz.func47, Tryz.ntmps47
  go_wp2_with fail
  generalize w.alloc (.cells #[.int .i64 op, .string tb, .string nm, .int .i64 ix, .int .i64 vk, .int .i64 vi, .string vt, .slice A n c] 35) = w1 at *
  generalize w.heap.size = g at *
  have k0 := Later.keep (HB.out.cell_some (i := 0) rfl)
  have k7 := Later.keep (HB.out.cell_some (i := 7) rfl)
  have HC1 : Hid (∀ y : Later w1, Calls Tryz.prog 68 #[.slice A n c, .func (Fn.func 101) #[] #[]] y.now fun r w' => r = .returned (.bool false) ∧ Ext y.now w') := fun y => H.out.con ⟨y.now, HX.out.trans y.ext⟩
  refine wp_region_later (by kernel_rfl) (by kernel_rfl) ?_
  repeat (go_big_quiet_step ((first | (go_at_call 100; exact later_same (operands_any _ _)) | (go_at_call 68; exact later_of (HC1.out _)))))
  refine wpQuiet_nil ?_
  intro w2 hw2
  have hx2 := later_out hw2
  clear hw2 k0 k7 HC1
  have HX2 := hid (HX.out.trans hx2)
  have hB2 := HB.out.ext hx2
  have c0 := hB2.cell 0
  have c1 := hB2.cell 1
  have c2 := hB2.cell 2
  have c4 := hB2.cell 4
  have c5 := hB2.cell 5
  have c6 := hB2.cell 6
  have c7 := hB2.cell 7
  simp only [List.getElem?_cons_succ, List.getElem?_cons_zero] at c0 c1 c2 c4 c5 c6 c7
  clear hB2 hx2
  go_wp2_with fail
  go_ret
  exact ⟨rfl, HX2.out⟩
theorem fc6b (op : Int) (nm vt : ByteArray) (ix vk vi : Int) (A : Option Addr) (n c : Nat) (w : World) (h : FC ⟨#[]⟩ nm vt A n c w false) (bN : (opN op != (n : Int)) = false) (b2 : (op == 2) = false) (b1 : (op == 1) = false) (b16 : (op == 16) = false) (t1 : ¬ nm.toList = []) (t2 : nm.toList.isEmpty = false) :
    Calls Tryz.prog 47 #[.agg #[.int .i64 op, .string ⟨#[]⟩, .string nm, .int .i64 ix, .int .i64 vk, .int .i64 vi, .string vt, .slice A n c]] w fun r w' => r = .returned (.bool false) ∧ Ext w w' := by
  have H := hid h
  clear h
  have HB := hid (Blk.of_new w 35 [.int .i64 op, .string ⟨#[]⟩, .string nm, .int .i64 ix, .int .i64 vk, .int .i64 vi, .string vt, .slice A n c])
  have HX := hid ((Ext.refl w).alloc (.cells #[.int .i64 op, .string ⟨#[]⟩, .string nm, .int .i64 ix, .int .i64 vk, .int .i64 vi, .string vt, .slice A n c] 35))
  go_enter Tryz.func47, Tryz.ntmps47
  go_wp2_with fail
  generalize w.alloc (.cells #[.int .i64 op, .string ⟨#[]⟩, .string nm, .int .i64 ix, .int .i64 vk, .int .i64 vi, .string vt, .slice A n c] 35) = w1 at *
  generalize w.heap.size = g at *
  have k0 := Later.keep (HB.out.cell_some (i := 0) rfl)
  have k7 := Later.keep (HB.out.cell_some (i := 7) rfl)
  have HC1 : Hid (∀ y : Later w1, Calls Tryz.prog 68 #[.slice A n c, .func (Fn.func 101) #[] #[]] y.now fun r w' => r = .returned (.bool false) ∧ Ext y.now w') := fun y => H.out.con ⟨y.now, HX.out.trans y.ext⟩
  refine wp_region_later (by kernel_rfl) (by kernel_rfl) ?_
  repeat (go_big_quiet_step ((first | (go_at_call 100; exact later_same (operands_any _ _)) | (go_at_call 68; exact later_of (HC1.out _)))))
  refine wpQuiet_nil ?_
  intro w2 hw2
  have hx2 := later_out hw2
  clear hw2 k0 k7 HC1
  have HX2 := hid (HX.out.trans hx2)
  have hB2 := HB.out.ext hx2
  have c0 := hB2.cell 0
  have c1 := hB2.cell 1
  have c2 := hB2.cell 2
  have c4 := hB2.cell 4
  have c5 := hB2.cell 5
  have c6 := hB2.cell 6
  have c7 := hB2.cell 7
  simp only [List.getElem?_cons_succ, List.getElem?_cons_zero] at c0 c1 c2 c4 c5 c6 c7
  clear hB2 hx2
  go_wp2_with fail
  go_ret
  exact ⟨rfl, HX2.out⟩
theorem fc6c (op : Int) (vt : ByteArray) (ix vk vi : Int) (A : Option Addr) (n c : Nat) (w : World) (h : FC ⟨#[]⟩ ⟨#[]⟩ vt A n c w false) (bN : (opN op != (n : Int)) = false) (b2 : (op == 2) = false) (b1 : (op == 1) = false) (b16 : (op == 16) = false)  :
    Calls Tryz.prog 47 #[.agg #[.int .i64 op, .string ⟨#[]⟩, .string ⟨#[]⟩, .int .i64 ix, .int .i64 vk, .int .i64 vi, .string vt, .slice A n c]] w fun r w' => r = .returned (.bool (vk == 0 && vi == 0 && vt.size == 0)) ∧ Ext w w' := by
  have H := hid h
  clear h
  have HB := hid (Blk.of_new w 35 [.int .i64 op, .string ⟨#[]⟩, .string ⟨#[]⟩, .int .i64 ix, .int .i64 vk, .int .i64 vi, .string vt, .slice A n c])
  have HX := hid ((Ext.refl w).alloc (.cells #[.int .i64 op, .string ⟨#[]⟩, .string ⟨#[]⟩, .int .i64 ix, .int .i64 vk, .int .i64 vi, .string vt, .slice A n c] 35))
  go_enter Tryz.func47, Tryz.ntmps47
  go_wp2_with fail
  generalize w.alloc (.cells #[.int .i64 op, .string ⟨#[]⟩, .string ⟨#[]⟩, .int .i64 ix, .int .i64 vk, .int .i64 vi, .string vt, .slice A n c] 35) = w1 at *
  generalize w.heap.size = g at *
  have k0 := Later.keep (HB.out.cell_some (i := 0) rfl)
  have k7 := Later.keep (HB.out.cell_some (i := 7) rfl)
  have HC1 : Hid (∀ y : Later w1, Calls Tryz.prog 68 #[.slice A n c, .func (Fn.func 101) #[] #[]] y.now fun r w' => r = .returned (.bool false) ∧ Ext y.now w') := fun y => H.out.con ⟨y.now, HX.out.trans y.ext⟩
  refine wp_region_later (by kernel_rfl) (by kernel_rfl) ?_
  repeat (go_big_quiet_step ((first | (go_at_call 100; exact later_same (operands_any _ _)) | (go_at_call 68; exact later_of (HC1.out _)))))
  refine wpQuiet_nil ?_
  intro w2 hw2
  have hx2 := later_out hw2
  clear hw2 k0 k7 HC1
  have HX2 := hid (HX.out.trans hx2)
  have hB2 := HB.out.ext hx2
  have c0 := hB2.cell 0
  have c1 := hB2.cell 1
  have c2 := hB2.cell 2
  have c4 := hB2.cell 4
  have c5 := hB2.cell 5
  have c6 := hB2.cell 6
  have c7 := hB2.cell 7
  simp only [List.getElem?_cons_succ, List.getElem?_cons_zero] at c0 c1 c2 c4 c5 c6 c7
  clear hB2 hx2
  go_wp2_with fail
  all_goals
    go_ret
    refine ⟨ret_bool ?_, HX2.out⟩
    rw [str0_b]
    simp [*]
end Go.Proofs.YtcdnodjcnofogaaGreatDoor
