/-
  Walks: Print, the reference's canonical text.
-/
import Derived.Test.YtcdnodjcnofogaaGreatDoorW18
namespace Go.Proofs.YtcdnodjcnofogaaGreatDoor
open Go.RowKit
set_option linter.unusedVariables false
set_option linter.unusedSimpArgs false
set_option maxHeartbeats 4000000
set_option maxRecDepth 100000

theorem rsign_any (op : Int) (w : World) (hop : 4 ≤ op ∧ op ≤ 8 ∨ 10 ≤ op ∧ op ≤ 16 ∨ op = 18 ∨ op = 19) : Calls Tryz.prog 110 #[.int .i64 op] w fun r w' => r = .returned (.string (sgn op)) ∧ Ext w w' := by
  have HS := hid (sgnC_get op hop)
  have HC := hid (Blk.of_new w 9 sgnC.toList)
  have HX := hid ((Ext.refl w).alloc (.cells sgnC 9))
  have hga : (.cells sgnC.toList.toArray 9 : Obj) = .cells sgnC 9 := rfl
  rw [hga] at HC
  have o0 : (0 : Int) ≤ op := by omega
  have o1 : op < 20 := by omega
  have hc := (HC.out.cell op.toNat).trans HS.out
  clear hga hop
  generalize sgn op = G at *
  go_enter Tryz.func110, Tryz.ntmps110
  unfold sgnC at hc HX
  go_wp2_with fail
  go_ret
  exact ⟨rfl, HX.out⟩
theorem pr_num (tb nm : ByteArray) (ix vk vi : Int) (vt : ByteArray) (A : Option Addr) (n c : Nat) (w : World) (L r : Int) (d1 : decide (L < r) = false)
    (HLv : Hid (∀ W, Calls Tryz.prog 107 #[.agg #[.int .i64 1, .string tb, .string nm, .int .i64 ix, .int .i64 1, .int .i64 vi, .string vt, .slice A n c]] W fun r w' => r = .returned (.int .i64 L) ∧ Ext W w')) (hi : I64 vi) (hm : -9223372036854775808 < vi) :
    Calls Tryz.prog 50 #[.agg #[.int .i64 1, .string tb, .string nm, .int .i64 ix, .int .i64 1, .int .i64 vi, .string vt, .slice A n c], .int .i64 r] w fun r w' => r = .returned (.string (itoB vi)) ∧ Ext w w' := by
  have HB := hid (Blk.of_new w 35 [.int .i64 1, .string tb, .string nm, .int .i64 ix, .int .i64 1, .int .i64 vi, .string vt, .slice A n c])
  have HX := hid ((Ext.refl w).alloc (.cells #[.int .i64 1, .string tb, .string nm, .int .i64 ix, .int .i64 1, .int .i64 vi, .string vt, .slice A n c] 35))
  go_enter Tryz.func50, Tryz.ntmps50
  go_wp2_with (first | (go_at_call 107; refine (HLv.out _).mono ?_; rintro _ w2 ⟨rfl, hx2⟩; have hb2 := HB.out.ext hx2; have c0 := hb2.cell 0; have c1 := hb2.cell 1; have c2 := hb2.cell 2; have c3 := hb2.cell 3; have c4 := hb2.cell 4; have c5 := hb2.cell 5; have c6 := hb2.cell 6; have c7 := hb2.cell 7; simp only [List.getElem?_cons_succ, List.getElem?_cons_zero] at c0 c1 c2 c3 c4 c5 c6 c7; clear hb2) | (go_at_call 108; refine (rnum_any _ _ hm hi.2).mono ?_; rintro _ w3 ⟨rfl, hx3⟩))
  go_ret
  exact ⟨rfl, (HX.out.trans hx2).trans hx3⟩
theorem pr_text (tb nm : ByteArray) (ix vk vi : Int) (vt : ByteArray) (A : Option Addr) (n c : Nat) (w : World) (L r : Int) (d1 : decide (L < r) = false)
    (HLv : Hid (∀ W, Calls Tryz.prog 107 #[.agg #[.int .i64 1, .string tb, .string nm, .int .i64 ix, .int .i64 2, .int .i64 vi, .string vt, .slice A n c]] W fun r w' => r = .returned (.int .i64 L) ∧ Ext W w')) (hs : vt.size ≤ 1000) :
    Calls Tryz.prog 50 #[.agg #[.int .i64 1, .string tb, .string nm, .int .i64 ix, .int .i64 2, .int .i64 vi, .string vt, .slice A n c], .int .i64 r] w fun r w' => r = .returned (.string (⟨#[39]⟩ ++ quoB vt ++ ⟨#[39]⟩)) ∧ Ext w w' := by
  have HB := hid (Blk.of_new w 35 [.int .i64 1, .string tb, .string nm, .int .i64 ix, .int .i64 2, .int .i64 vi, .string vt, .slice A n c])
  have HX := hid ((Ext.refl w).alloc (.cells #[.int .i64 1, .string tb, .string nm, .int .i64 ix, .int .i64 2, .int .i64 vi, .string vt, .slice A n c] 35))
  go_enter Tryz.func50, Tryz.ntmps50
  go_wp2_with (first | (go_at_call 107; refine (HLv.out _).mono ?_; rintro _ w2 ⟨rfl, hx2⟩; have hb2 := HB.out.ext hx2; have c0 := hb2.cell 0; have c1 := hb2.cell 1; have c2 := hb2.cell 2; have c3 := hb2.cell 3; have c4 := hb2.cell 4; have c5 := hb2.cell 5; have c6 := hb2.cell 6; have c7 := hb2.cell 7; simp only [List.getElem?_cons_succ, List.getElem?_cons_zero] at c0 c1 c2 c3 c4 c5 c6 c7; clear hb2) | (go_at_call 109; refine (rquote_any _ _ hs).mono ?_; rintro _ w3 ⟨rfl, hx3⟩))
  go_ret
  exact ⟨rfl, (HX.out.trans hx2).trans hx3⟩
theorem pr_null (tb nm : ByteArray) (ix vk vi : Int) (vt : ByteArray) (A : Option Addr) (n c : Nat) (w : World) (L r : Int) (d1 : decide (L < r) = false)
    (HLv : Hid (∀ W, Calls Tryz.prog 107 #[.agg #[.int .i64 1, .string tb, .string nm, .int .i64 ix, .int .i64 0, .int .i64 vi, .string vt, .slice A n c]] W fun r w' => r = .returned (.int .i64 L) ∧ Ext W w')) :
    Calls Tryz.prog 50 #[.agg #[.int .i64 1, .string tb, .string nm, .int .i64 ix, .int .i64 0, .int .i64 vi, .string vt, .slice A n c], .int .i64 r] w fun r w' => r = .returned (.string ⟨#[78, 85, 76, 76]⟩) ∧ Ext w w' := by
  have HB := hid (Blk.of_new w 35 [.int .i64 1, .string tb, .string nm, .int .i64 ix, .int .i64 0, .int .i64 vi, .string vt, .slice A n c])
  have HX := hid ((Ext.refl w).alloc (.cells #[.int .i64 1, .string tb, .string nm, .int .i64 ix, .int .i64 0, .int .i64 vi, .string vt, .slice A n c] 35))
  go_enter Tryz.func50, Tryz.ntmps50
  go_wp2_with (first | (go_at_call 107; refine (HLv.out _).mono ?_; rintro _ w2 ⟨rfl, hx2⟩; have hb2 := HB.out.ext hx2; have c0 := hb2.cell 0; have c1 := hb2.cell 1; have c2 := hb2.cell 2; have c3 := hb2.cell 3; have c4 := hb2.cell 4; have c5 := hb2.cell 5; have c6 := hb2.cell 6; have c7 := hb2.cell 7; simp only [List.getElem?_cons_succ, List.getElem?_cons_zero] at c0 c1 c2 c3 c4 c5 c6 c7; clear hb2))
  go_ret
  exact ⟨rfl, HX.out.trans hx2⟩
theorem pr_col (tb nm : ByteArray) (ix vk vi : Int) (vt : ByteArray) (A : Option Addr) (n c : Nat) (w : World) (L r : Int) (d1 : decide (L < r) = false)
    (HLv : Hid (∀ W, Calls Tryz.prog 107 #[.agg #[.int .i64 2, .string ⟨#[]⟩, .string nm, .int .i64 ix, .int .i64 vk, .int .i64 vi, .string vt, .slice A n c]] W fun r w' => r = .returned (.int .i64 L) ∧ Ext W w')) :
    Calls Tryz.prog 50 #[.agg #[.int .i64 2, .string ⟨#[]⟩, .string nm, .int .i64 ix, .int .i64 vk, .int .i64 vi, .string vt, .slice A n c], .int .i64 r] w fun r w' => r = .returned (.string nm) ∧ Ext w w' := by
  have HB := hid (Blk.of_new w 35 [.int .i64 2, .string ⟨#[]⟩, .string nm, .int .i64 ix, .int .i64 vk, .int .i64 vi, .string vt, .slice A n c])
  have HX := hid ((Ext.refl w).alloc (.cells #[.int .i64 2, .string ⟨#[]⟩, .string nm, .int .i64 ix, .int .i64 vk, .int .i64 vi, .string vt, .slice A n c] 35))
  go_enter Tryz.func50, Tryz.ntmps50
  go_wp2_with (first | (go_at_call 107; refine (HLv.out _).mono ?_; rintro _ w2 ⟨rfl, hx2⟩; have hb2 := HB.out.ext hx2; have c0 := hb2.cell 0; have c1 := hb2.cell 1; have c2 := hb2.cell 2; have c3 := hb2.cell 3; have c4 := hb2.cell 4; have c5 := hb2.cell 5; have c6 := hb2.cell 6; have c7 := hb2.cell 7; simp only [List.getElem?_cons_succ, List.getElem?_cons_zero] at c0 c1 c2 c3 c4 c5 c6 c7; clear hb2))
  go_ret
  exact ⟨rfl, HX.out.trans hx2⟩
theorem pr_qual (tb nm : ByteArray) (ix vk vi : Int) (vt : ByteArray) (A : Option Addr) (n c : Nat) (w : World) (L r : Int) (d1 : decide (L < r) = false)
    (HLv : Hid (∀ W, Calls Tryz.prog 107 #[.agg #[.int .i64 2, .string tb, .string nm, .int .i64 ix, .int .i64 vk, .int .i64 vi, .string vt, .slice A n c]] W fun r w' => r = .returned (.int .i64 L) ∧ Ext W w')) (t1 : ¬ tb.toList = []) (t2 : tb.toList.isEmpty = false) (hs : tb.size ≤ 1000) (hs2 : nm.size ≤ 1000) :
    Calls Tryz.prog 50 #[.agg #[.int .i64 2, .string tb, .string nm, .int .i64 ix, .int .i64 vk, .int .i64 vi, .string vt, .slice A n c], .int .i64 r] w fun r w' => r = .returned (.string (tb ++ ⟨#[46]⟩ ++ nm)) ∧ Ext w w' := by
  have HB := hid (Blk.of_new w 35 [.int .i64 2, .string tb, .string nm, .int .i64 ix, .int .i64 vk, .int .i64 vi, .string vt, .slice A n c])
  have HX := hid ((Ext.refl w).alloc (.cells #[.int .i64 2, .string tb, .string nm, .int .i64 ix, .int .i64 vk, .int .i64 vi, .string vt, .slice A n c] 35))
  go_enter Tryz.func50, Tryz.ntmps50
  go_wp2_with (first | (go_at_call 107; refine (HLv.out _).mono ?_; rintro _ w2 ⟨rfl, hx2⟩; have hb2 := HB.out.ext hx2; have c0 := hb2.cell 0; have c1 := hb2.cell 1; have c2 := hb2.cell 2; have c3 := hb2.cell 3; have c4 := hb2.cell 4; have c5 := hb2.cell 5; have c6 := hb2.cell 6; have c7 := hb2.cell 7; simp only [List.getElem?_cons_succ, List.getElem?_cons_zero] at c0 c1 c2 c3 c4 c5 c6 c7; clear hb2))
  go_ret
  exact ⟨rfl, HX.out.trans hx2⟩
theorem pr_neg (tb nm : ByteArray) (ix vk vi : Int) (vt : ByteArray) (b off n c : Nat) (w : World) (L r : Int) (d1 : decide (L < r) = false)
    (HLv : Hid (∀ W, Calls Tryz.prog 107 #[.agg #[.int .i64 3, .string tb, .string nm, .int .i64 ix, .int .i64 vk, .int .i64 vi, .string vt, .slice (some ⟨b, off, none⟩) n c]] W fun r w' => r = .returned (.int .i64 L) ∧ Ext W w')) (x : Ex) (X : ByteArray) (A1 : Option Addr) (n1 c1 : Nat) (hn : n = 1) (hX : X.size ≤ 100000)
    (e1 : EltAt w b (off + 0 * 8) x A1 n1 c1)
    (h1 : ∀ W, Ext w W → Calls Tryz.prog 50 #[x.d.val A1 n1 c1, .int .i64 8] W fun r w' => r = .returned (.string X) ∧ Ext W w') :
    Calls Tryz.prog 50 #[.agg #[.int .i64 3, .string tb, .string nm, .int .i64 ix, .int .i64 vk, .int .i64 vi, .string vt, .slice (some ⟨b, off, none⟩) n c], .int .i64 r] w fun r w' => r = .returned (.string (⟨#[45]⟩ ++ X)) ∧ Ext w w' := by
  subst hn
  have HB := hid (Blk.of_new w 35 [.int .i64 3, .string tb, .string nm, .int .i64 ix, .int .i64 vk, .int .i64 vi, .string vt, .slice (some ⟨b, off, none⟩) 1 c])
  have HX := hid ((Ext.refl w).alloc (.cells #[.int .i64 3, .string tb, .string nm, .int .i64 ix, .int .i64 vk, .int .i64 vi, .string vt, .slice (some ⟨b, off, none⟩) 1 c] 35))
  have H1 := hid h1
  unfold Nd.val at H1
  simp only [Nat.zero_mul, Nat.add_zero] at e1
  have HE := hid e1
  clear h1 e1
  go_enter Tryz.func50, Tryz.ntmps50
  go_wp2_with (first | (go_at_call 107; refine (HLv.out _).mono ?_; rintro _ w2 ⟨rfl, hx2⟩; have hb2 := HB.out.ext hx2; have c0 := hb2.cell 0; have c1 := hb2.cell 1; have c2 := hb2.cell 2; have c3 := hb2.cell 3; have c4 := hb2.cell 4; have c5 := hb2.cell 5; have c6 := hb2.cell 6; have c7 := hb2.cell 7; simp only [List.getElem?_cons_succ, List.getElem?_cons_zero] at c0 c1 c2 c3 c4 c5 c6 c7; clear hb2; have q0 := (HX.out.trans hx2).keep HE.out.c0; have q1 := (HX.out.trans hx2).keep HE.out.c1; have q2 := (HX.out.trans hx2).keep HE.out.c2; have q3 := (HX.out.trans hx2).keep HE.out.c3; have q4 := (HX.out.trans hx2).keep HE.out.c4; have q5 := (HX.out.trans hx2).keep HE.out.c5; have q6 := (HX.out.trans hx2).keep HE.out.c6; have q7 := (HX.out.trans hx2).keep HE.out.c7) | (go_at_call 50; refine (H1.out _ (HX.out.trans hx2)).mono ?_; rintro _ w3 ⟨rfl, hx3⟩))
  go_ret
  exact ⟨rfl, (HX.out.trans hx2).trans hx3⟩
theorem pr_len (tb nm : ByteArray) (ix vk vi : Int) (vt : ByteArray) (b off n c : Nat) (w : World) (L r : Int) (d1 : decide (L < r) = false)
    (HLv : Hid (∀ W, Calls Tryz.prog 107 #[.agg #[.int .i64 9, .string tb, .string nm, .int .i64 ix, .int .i64 vk, .int .i64 vi, .string vt, .slice (some ⟨b, off, none⟩) n c]] W fun r w' => r = .returned (.int .i64 L) ∧ Ext W w')) (x : Ex) (X : ByteArray) (A1 : Option Addr) (n1 c1 : Nat) (hn : n = 1) (hX : X.size ≤ 100000)
    (e1 : EltAt w b (off + 0 * 8) x A1 n1 c1)
    (h1 : ∀ W, Ext w W → Calls Tryz.prog 50 #[x.d.val A1 n1 c1, .int .i64 1] W fun r w' => r = .returned (.string X) ∧ Ext W w') :
    Calls Tryz.prog 50 #[.agg #[.int .i64 9, .string tb, .string nm, .int .i64 ix, .int .i64 vk, .int .i64 vi, .string vt, .slice (some ⟨b, off, none⟩) n c], .int .i64 r] w fun r w' => r = .returned (.string (⟨#[76, 69, 78, 71, 84, 72, 40]⟩ ++ X ++ ⟨#[41]⟩)) ∧ Ext w w' := by
  subst hn
  have HB := hid (Blk.of_new w 35 [.int .i64 9, .string tb, .string nm, .int .i64 ix, .int .i64 vk, .int .i64 vi, .string vt, .slice (some ⟨b, off, none⟩) 1 c])
  have HX := hid ((Ext.refl w).alloc (.cells #[.int .i64 9, .string tb, .string nm, .int .i64 ix, .int .i64 vk, .int .i64 vi, .string vt, .slice (some ⟨b, off, none⟩) 1 c] 35))
  have H1 := hid h1
  unfold Nd.val at H1
  simp only [Nat.zero_mul, Nat.add_zero] at e1
  have HE := hid e1
  clear h1 e1
  go_enter Tryz.func50, Tryz.ntmps50
  go_wp2_with (first | (go_at_call 107; refine (HLv.out _).mono ?_; rintro _ w2 ⟨rfl, hx2⟩; have hb2 := HB.out.ext hx2; have c0 := hb2.cell 0; have c1 := hb2.cell 1; have c2 := hb2.cell 2; have c3 := hb2.cell 3; have c4 := hb2.cell 4; have c5 := hb2.cell 5; have c6 := hb2.cell 6; have c7 := hb2.cell 7; simp only [List.getElem?_cons_succ, List.getElem?_cons_zero] at c0 c1 c2 c3 c4 c5 c6 c7; clear hb2; have q0 := (HX.out.trans hx2).keep HE.out.c0; have q1 := (HX.out.trans hx2).keep HE.out.c1; have q2 := (HX.out.trans hx2).keep HE.out.c2; have q3 := (HX.out.trans hx2).keep HE.out.c3; have q4 := (HX.out.trans hx2).keep HE.out.c4; have q5 := (HX.out.trans hx2).keep HE.out.c5; have q6 := (HX.out.trans hx2).keep HE.out.c6; have q7 := (HX.out.trans hx2).keep HE.out.c7) | (go_at_call 50; refine (H1.out _ (HX.out.trans hx2)).mono ?_; rintro _ w3 ⟨rfl, hx3⟩))
  go_ret
  exact ⟨rfl, (HX.out.trans hx2).trans hx3⟩
theorem pr_isnull (tb nm : ByteArray) (ix vk vi : Int) (vt : ByteArray) (b off n c : Nat) (w : World) (L r : Int) (d1 : decide (L < r) = false)
    (HLv : Hid (∀ W, Calls Tryz.prog 107 #[.agg #[.int .i64 17, .string tb, .string nm, .int .i64 ix, .int .i64 vk, .int .i64 vi, .string vt, .slice (some ⟨b, off, none⟩) n c]] W fun r w' => r = .returned (.int .i64 L) ∧ Ext W w')) (x : Ex) (X : ByteArray) (A1 : Option Addr) (n1 c1 : Nat) (hn : n = 1) (hX : X.size ≤ 100000)
    (e1 : EltAt w b (off + 0 * 8) x A1 n1 c1)
    (h1 : ∀ W, Ext w W → Calls Tryz.prog 50 #[x.d.val A1 n1 c1, .int .i64 5] W fun r w' => r = .returned (.string X) ∧ Ext W w') :
    Calls Tryz.prog 50 #[.agg #[.int .i64 17, .string tb, .string nm, .int .i64 ix, .int .i64 vk, .int .i64 vi, .string vt, .slice (some ⟨b, off, none⟩) n c], .int .i64 r] w fun r w' => r = .returned (.string (X ++ ⟨#[32, 73, 83, 32, 78, 85, 76, 76]⟩)) ∧ Ext w w' := by
  subst hn
  have HB := hid (Blk.of_new w 35 [.int .i64 17, .string tb, .string nm, .int .i64 ix, .int .i64 vk, .int .i64 vi, .string vt, .slice (some ⟨b, off, none⟩) 1 c])
  have HX := hid ((Ext.refl w).alloc (.cells #[.int .i64 17, .string tb, .string nm, .int .i64 ix, .int .i64 vk, .int .i64 vi, .string vt, .slice (some ⟨b, off, none⟩) 1 c] 35))
  have H1 := hid h1
  unfold Nd.val at H1
  simp only [Nat.zero_mul, Nat.add_zero] at e1
  have HE := hid e1
  clear h1 e1
  go_enter Tryz.func50, Tryz.ntmps50
  go_wp2_with (first | (go_at_call 107; refine (HLv.out _).mono ?_; rintro _ w2 ⟨rfl, hx2⟩; have hb2 := HB.out.ext hx2; have c0 := hb2.cell 0; have c1 := hb2.cell 1; have c2 := hb2.cell 2; have c3 := hb2.cell 3; have c4 := hb2.cell 4; have c5 := hb2.cell 5; have c6 := hb2.cell 6; have c7 := hb2.cell 7; simp only [List.getElem?_cons_succ, List.getElem?_cons_zero] at c0 c1 c2 c3 c4 c5 c6 c7; clear hb2; have q0 := (HX.out.trans hx2).keep HE.out.c0; have q1 := (HX.out.trans hx2).keep HE.out.c1; have q2 := (HX.out.trans hx2).keep HE.out.c2; have q3 := (HX.out.trans hx2).keep HE.out.c3; have q4 := (HX.out.trans hx2).keep HE.out.c4; have q5 := (HX.out.trans hx2).keep HE.out.c5; have q6 := (HX.out.trans hx2).keep HE.out.c6; have q7 := (HX.out.trans hx2).keep HE.out.c7) | (go_at_call 50; refine (H1.out _ (HX.out.trans hx2)).mono ?_; rintro _ w3 ⟨rfl, hx3⟩))
  go_ret
  exact ⟨rfl, (HX.out.trans hx2).trans hx3⟩
theorem pr_not (tb nm : ByteArray) (ix vk vi : Int) (vt : ByteArray) (b off n c : Nat) (w : World) (L r : Int) (d1 : decide (L < r) = false)
    (HLv : Hid (∀ W, Calls Tryz.prog 107 #[.agg #[.int .i64 20, .string tb, .string nm, .int .i64 ix, .int .i64 vk, .int .i64 vi, .string vt, .slice (some ⟨b, off, none⟩) n c]] W fun r w' => r = .returned (.int .i64 L) ∧ Ext W w')) (x : Ex) (X : ByteArray) (A1 : Option Addr) (n1 c1 : Nat) (hn : n = 1) (hX : X.size ≤ 100000)
    (e1 : EltAt w b (off + 0 * 8) x A1 n1 c1)
    (h1 : ∀ W, Ext w W → Calls Tryz.prog 50 #[x.d.val A1 n1 c1, .int .i64 3] W fun r w' => r = .returned (.string X) ∧ Ext W w') :
    Calls Tryz.prog 50 #[.agg #[.int .i64 20, .string tb, .string nm, .int .i64 ix, .int .i64 vk, .int .i64 vi, .string vt, .slice (some ⟨b, off, none⟩) n c], .int .i64 r] w fun r w' => r = .returned (.string (⟨#[78, 79, 84, 32]⟩ ++ X)) ∧ Ext w w' := by
  subst hn
  have HB := hid (Blk.of_new w 35 [.int .i64 20, .string tb, .string nm, .int .i64 ix, .int .i64 vk, .int .i64 vi, .string vt, .slice (some ⟨b, off, none⟩) 1 c])
  have HX := hid ((Ext.refl w).alloc (.cells #[.int .i64 20, .string tb, .string nm, .int .i64 ix, .int .i64 vk, .int .i64 vi, .string vt, .slice (some ⟨b, off, none⟩) 1 c] 35))
  have H1 := hid h1
  unfold Nd.val at H1
  simp only [Nat.zero_mul, Nat.add_zero] at e1
  have HE := hid e1
  clear h1 e1
  go_enter Tryz.func50, Tryz.ntmps50
  go_wp2_with (first | (go_at_call 107; refine (HLv.out _).mono ?_; rintro _ w2 ⟨rfl, hx2⟩; have hb2 := HB.out.ext hx2; have c0 := hb2.cell 0; have c1 := hb2.cell 1; have c2 := hb2.cell 2; have c3 := hb2.cell 3; have c4 := hb2.cell 4; have c5 := hb2.cell 5; have c6 := hb2.cell 6; have c7 := hb2.cell 7; simp only [List.getElem?_cons_succ, List.getElem?_cons_zero] at c0 c1 c2 c3 c4 c5 c6 c7; clear hb2; have q0 := (HX.out.trans hx2).keep HE.out.c0; have q1 := (HX.out.trans hx2).keep HE.out.c1; have q2 := (HX.out.trans hx2).keep HE.out.c2; have q3 := (HX.out.trans hx2).keep HE.out.c3; have q4 := (HX.out.trans hx2).keep HE.out.c4; have q5 := (HX.out.trans hx2).keep HE.out.c5; have q6 := (HX.out.trans hx2).keep HE.out.c6; have q7 := (HX.out.trans hx2).keep HE.out.c7) | (go_at_call 50; refine (H1.out _ (HX.out.trans hx2)).mono ?_; rintro _ w3 ⟨rfl, hx3⟩))
  go_ret
  exact ⟨rfl, (HX.out.trans hx2).trans hx3⟩
theorem pr_bin4 (op : Int) (tb nm : ByteArray) (ix vk vi : Int) (vt : ByteArray) (b off n c : Nat) (w : World) (L r : Int) (d1 : decide (L < r) = false) (hl1 : 1 ≤ L) (hl2 : L ≤ 8) (b4 : (L == 4) = true)
    (HLv : Hid (∀ W, Calls Tryz.prog 107 #[.agg #[.int .i64 op, .string tb, .string nm, .int .i64 ix, .int .i64 vk, .int .i64 vi, .string vt, .slice (some ⟨b, off, none⟩) n c]] W fun r w' => r = .returned (.int .i64 L) ∧ Ext W w')) (x y : Ex) (X Y : ByteArray) (A1 A2 : Option Addr) (n1 n2 c1 c2 : Nat)
    (hop : 4 ≤ op ∧ op ≤ 8 ∨ 10 ≤ op ∧ op ≤ 16 ∨ op = 18 ∨ op = 19) (hn : n = 2) (hX : X.size ≤ 100000) (hY : Y.size ≤ 100000)
    (e1 : EltAt w b (off + 0 * 8) x A1 n1 c1) (e2 : EltAt w b (off + 1 * 8) y A2 n2 c2)
    (h1 : ∀ W, Ext w W → Calls Tryz.prog 50 #[x.d.val A1 n1 c1, .int .i64 5] W fun r w' => r = .returned (.string X) ∧ Ext W w')
    (h2 : ∀ W, Ext w W → Calls Tryz.prog 50 #[y.d.val A2 n2 c2, .int .i64 (L + 1)] W fun r w' => r = .returned (.string Y) ∧ Ext W w') :
    Calls Tryz.prog 50 #[.agg #[.int .i64 op, .string tb, .string nm, .int .i64 ix, .int .i64 vk, .int .i64 vi, .string vt, .slice (some ⟨b, off, none⟩) n c], .int .i64 r] w fun r w' => r = .returned (.string (X ++ ⟨#[32]⟩ ++ sgn op ++ ⟨#[32]⟩ ++ Y)) ∧ Ext w w' := by
  subst hn
  have b1 : (op == 1) = false := by rw [beq_eq_false_iff_ne]; omega
  have b2 : (op == 2) = false := by rw [beq_eq_false_iff_ne]; omega
  have b3 : (op == 3) = false := by rw [beq_eq_false_iff_ne]; omega
  have b9 : (op == 9) = false := by rw [beq_eq_false_iff_ne]; omega
  have b17 : (op == 17) = false := by rw [beq_eq_false_iff_ne]; omega
  have b20 : (op == 20) = false := by rw [beq_eq_false_iff_ne]; omega
  have hs1 := sgn_size op
  have HSg := hid (fun W => rsign_any op W hop)
  have HE := hid e1
  have HE2 := hid e2
  have H1 := hid h1
  have H2 := hid h2
  clear e1 e2 h1 h2 hop
  unfold Nd.val at H1 H2
  generalize sgn op = G at *
  have HB := hid (Blk.of_new w 35 [.int .i64 op, .string tb, .string nm, .int .i64 ix, .int .i64 vk, .int .i64 vi, .string vt, .slice (some ⟨b, off, none⟩) 2 c])
  have HX := hid ((Ext.refl w).alloc (.cells #[.int .i64 op, .string tb, .string nm, .int .i64 ix, .int .i64 vk, .int .i64 vi, .string vt, .slice (some ⟨b, off, none⟩) 2 c] 35))
  have lw : IntKind.i64.wrap (L + 1) = L + 1 := IntWalk.i64_in _ (by omega)
  have HLW := hid lw
  clear lw
  go_enter Tryz.func50, Tryz.ntmps50
  go_wp2_with (go_at_call 107; refine (HLv.out _).mono ?_; rintro _ w2 ⟨rfl, hx2⟩; have hb2 := HB.out.ext hx2; have c0 := hb2.cell 0; have c1 := hb2.cell 1; have c2 := hb2.cell 2; have c3 := hb2.cell 3; have c4 := hb2.cell 4; have c5 := hb2.cell 5; have c6 := hb2.cell 6; have c7 := hb2.cell 7; simp only [List.getElem?_cons_succ, List.getElem?_cons_zero] at c0 c1 c2 c3 c4 c5 c6 c7; clear hb2)
  have HX2 := hid (HX.out.trans hx2)
  have HB2 := hid (HB.out.ext hx2)
  clear c0 c1 c2 c3 c4 c5 c6 c7 hx2
  have hb := HB2.out
  have k0 := Later.keep (hb.cell_some (i := 0) rfl)
  have k1 := Later.keep (hb.cell_some (i := 1) rfl)
  have k2 := Later.keep (hb.cell_some (i := 2) rfl)
  have k3 := Later.keep (hb.cell_some (i := 3) rfl)
  have k4 := Later.keep (hb.cell_some (i := 4) rfl)
  have k5 := Later.keep (hb.cell_some (i := 5) rfl)
  have k6 := Later.keep (hb.cell_some (i := 6) rfl)
  have k7 := Later.keep (hb.cell_some (i := 7) rfl)
  have lw := HLW.out
  clear hb
  refine wp_region_later (by kernel_rfl) (by kernel_rfl) ?_
  repeat (go_big_quiet_step ((go_at_call 107; exact later_of (HLv.out _))))
  refine wpQuiet_nil ?_
  intro w3 hw3
  have hx3 := later_out hw3
  clear hw3 k0 k1 k2 k3 k4 k5 k6 k7 lw
  have HX3 := hid (HX2.out.trans hx3)
  have HB3 := hid (HB2.out.ext hx3)
  clear hx3
  have hb2 := HB3.out
  have c0 := hb2.cell 0
  have c1 := hb2.cell 1
  have c2 := hb2.cell 2
  have c3 := hb2.cell 3
  have c4 := hb2.cell 4
  have c5 := hb2.cell 5
  have c6 := hb2.cell 6
  have c7 := hb2.cell 7
  simp only [List.getElem?_cons_succ, List.getElem?_cons_zero] at c0 c1 c2 c3 c4 c5 c6 c7
  clear hb2
  go_wp2_with (go_at_call 107; refine (HLv.out _).mono ?_; rintro _ w4 ⟨rfl, hx4⟩)
  have HX4 := hid (HX3.out.trans hx4)
  have hb := HB3.out.ext hx4
  clear c0 c1 c2 c3 c4 c5 c6 c7 hx4
  have k0 := Later.keep (hb.cell_some (i := 0) rfl)
  have k1 := Later.keep (hb.cell_some (i := 1) rfl)
  have k2 := Later.keep (hb.cell_some (i := 2) rfl)
  have k3 := Later.keep (hb.cell_some (i := 3) rfl)
  have k4 := Later.keep (hb.cell_some (i := 4) rfl)
  have k5 := Later.keep (hb.cell_some (i := 5) rfl)
  have k6 := Later.keep (hb.cell_some (i := 6) rfl)
  have k7 := Later.keep (hb.cell_some (i := 7) rfl)
  have q0 := Later.keep (HX4.out.keep HE.out.c0)
  have q1 := Later.keep (HX4.out.keep HE.out.c1)
  have q2 := Later.keep (HX4.out.keep HE.out.c2)
  have q3 := Later.keep (HX4.out.keep HE.out.c3)
  have q4 := Later.keep (HX4.out.keep HE.out.c4)
  have q5 := Later.keep (HX4.out.keep HE.out.c5)
  have q6 := Later.keep (HX4.out.keep HE.out.c6)
  have q7 := Later.keep (HX4.out.keep HE.out.c7)
  have s0 := Later.keep (HX4.out.keep HE2.out.c0)
  have s1 := Later.keep (HX4.out.keep HE2.out.c1)
  have s2 := Later.keep (HX4.out.keep HE2.out.c2)
  have s3 := Later.keep (HX4.out.keep HE2.out.c3)
  have s4 := Later.keep (HX4.out.keep HE2.out.c4)
  have s5 := Later.keep (HX4.out.keep HE2.out.c5)
  have s6 := Later.keep (HX4.out.keep HE2.out.c6)
  have s7 := Later.keep (HX4.out.keep HE2.out.c7)
  simp only [Nat.zero_mul, Nat.add_zero] at q0 q1 q2 q3 q4 q5 q6 q7
  have HC1 : Hid (∀ z : Later w4, Calls Tryz.prog 50 _ z.now _) := fun z => H1.out z.now (HX4.out.trans z.ext)
  have HC2 : Hid (∀ z : Later w4, Calls Tryz.prog 50 _ z.now _) := fun z => H2.out z.now (HX4.out.trans z.ext)
  clear hb
  refine wp_region_later (by kernel_rfl) (by kernel_rfl) ?_
  repeat (go_big_quiet_step ((first | (go_at_call 50; with_reducible exact later_of (HC1.out _)) | (go_at_call 50; with_reducible exact later_of (HC2.out _)) | (go_at_call 110; exact later_of (HSg.out _)))))
  refine wpQuiet_nil ?_
  intro w5 hw5
  have hx5 := later_out hw5
  clear hw5 k0 k1 k2 k3 k4 k5 k6 k7 q0 q1 q2 q3 q4 q5 q6 q7 s0 s1 s2 s3 s4 s5 s6 s7
  go_wp2_with fail
  go_ret
  exact ⟨rfl, HX4.out.trans hx5⟩
theorem pr_bin (op : Int) (tb nm : ByteArray) (ix vk vi : Int) (vt : ByteArray) (b off n c : Nat) (w : World) (L r : Int) (d1 : decide (L < r) = false) (hl1 : 1 ≤ L) (hl2 : L ≤ 8) (b4 : (L == 4) = false)
    (HLv : Hid (∀ W, Calls Tryz.prog 107 #[.agg #[.int .i64 op, .string tb, .string nm, .int .i64 ix, .int .i64 vk, .int .i64 vi, .string vt, .slice (some ⟨b, off, none⟩) n c]] W fun r w' => r = .returned (.int .i64 L) ∧ Ext W w')) (x y : Ex) (X Y : ByteArray) (A1 A2 : Option Addr) (n1 n2 c1 c2 : Nat)
    (hop : 4 ≤ op ∧ op ≤ 8 ∨ 10 ≤ op ∧ op ≤ 16 ∨ op = 18 ∨ op = 19) (hn : n = 2) (hX : X.size ≤ 100000) (hY : Y.size ≤ 100000)
    (e1 : EltAt w b (off + 0 * 8) x A1 n1 c1) (e2 : EltAt w b (off + 1 * 8) y A2 n2 c2)
    (h1 : ∀ W, Ext w W → Calls Tryz.prog 50 #[x.d.val A1 n1 c1, .int .i64 L] W fun r w' => r = .returned (.string X) ∧ Ext W w')
    (h2 : ∀ W, Ext w W → Calls Tryz.prog 50 #[y.d.val A2 n2 c2, .int .i64 (L + 1)] W fun r w' => r = .returned (.string Y) ∧ Ext W w') :
    Calls Tryz.prog 50 #[.agg #[.int .i64 op, .string tb, .string nm, .int .i64 ix, .int .i64 vk, .int .i64 vi, .string vt, .slice (some ⟨b, off, none⟩) n c], .int .i64 r] w fun r w' => r = .returned (.string (X ++ ⟨#[32]⟩ ++ sgn op ++ ⟨#[32]⟩ ++ Y)) ∧ Ext w w' := by
  subst hn
  have b1 : (op == 1) = false := by rw [beq_eq_false_iff_ne]; omega
  have b2 : (op == 2) = false := by rw [beq_eq_false_iff_ne]; omega
  have b3 : (op == 3) = false := by rw [beq_eq_false_iff_ne]; omega
  have b9 : (op == 9) = false := by rw [beq_eq_false_iff_ne]; omega
  have b17 : (op == 17) = false := by rw [beq_eq_false_iff_ne]; omega
  have b20 : (op == 20) = false := by rw [beq_eq_false_iff_ne]; omega
  have hs1 := sgn_size op
  have HSg := hid (fun W => rsign_any op W hop)
  have HE := hid e1
  have HE2 := hid e2
  have H1 := hid h1
  have H2 := hid h2
  clear e1 e2 h1 h2 hop
  unfold Nd.val at H1 H2
  generalize sgn op = G at *
  have HB := hid (Blk.of_new w 35 [.int .i64 op, .string tb, .string nm, .int .i64 ix, .int .i64 vk, .int .i64 vi, .string vt, .slice (some ⟨b, off, none⟩) 2 c])
  have HX := hid ((Ext.refl w).alloc (.cells #[.int .i64 op, .string tb, .string nm, .int .i64 ix, .int .i64 vk, .int .i64 vi, .string vt, .slice (some ⟨b, off, none⟩) 2 c] 35))
  have lw : IntKind.i64.wrap (L + 1) = L + 1 := IntWalk.i64_in _ (by omega)
  have HLW := hid lw
  clear lw
  go_enter Tryz.func50, Tryz.ntmps50
  go_wp2_with (go_at_call 107; refine (HLv.out _).mono ?_; rintro _ w2 ⟨rfl, hx2⟩; have hb2 := HB.out.ext hx2; have c0 := hb2.cell 0; have c1 := hb2.cell 1; have c2 := hb2.cell 2; have c3 := hb2.cell 3; have c4 := hb2.cell 4; have c5 := hb2.cell 5; have c6 := hb2.cell 6; have c7 := hb2.cell 7; simp only [List.getElem?_cons_succ, List.getElem?_cons_zero] at c0 c1 c2 c3 c4 c5 c6 c7; clear hb2)
  have HX2 := hid (HX.out.trans hx2)
  have HB2 := hid (HB.out.ext hx2)
  clear c0 c1 c2 c3 c4 c5 c6 c7 hx2
  have hb := HB2.out
  have k0 := Later.keep (hb.cell_some (i := 0) rfl)
  have k1 := Later.keep (hb.cell_some (i := 1) rfl)
  have k2 := Later.keep (hb.cell_some (i := 2) rfl)
  have k3 := Later.keep (hb.cell_some (i := 3) rfl)
  have k4 := Later.keep (hb.cell_some (i := 4) rfl)
  have k5 := Later.keep (hb.cell_some (i := 5) rfl)
  have k6 := Later.keep (hb.cell_some (i := 6) rfl)
  have k7 := Later.keep (hb.cell_some (i := 7) rfl)
  have lw := HLW.out
  clear hb
  refine wp_region_later (by kernel_rfl) (by kernel_rfl) ?_
  repeat (go_big_quiet_step ((go_at_call 107; exact later_of (HLv.out _))))
  refine wpQuiet_nil ?_
  intro w3 hw3
  have hx3 := later_out hw3
  clear hw3 k0 k1 k2 k3 k4 k5 k6 k7 lw
  have HX3 := hid (HX2.out.trans hx3)
  have HB3 := hid (HB2.out.ext hx3)
  clear hx3
  have hb2 := HB3.out
  have c0 := hb2.cell 0
  have c1 := hb2.cell 1
  have c2 := hb2.cell 2
  have c3 := hb2.cell 3
  have c4 := hb2.cell 4
  have c5 := hb2.cell 5
  have c6 := hb2.cell 6
  have c7 := hb2.cell 7
  simp only [List.getElem?_cons_succ, List.getElem?_cons_zero] at c0 c1 c2 c3 c4 c5 c6 c7
  clear hb2
  go_wp2_with (go_at_call 107; refine (HLv.out _).mono ?_; rintro _ w4 ⟨rfl, hx4⟩)
  have HX4 := hid (HX3.out.trans hx4)
  have hb := HB3.out.ext hx4
  clear c0 c1 c2 c3 c4 c5 c6 c7 hx4
  have k0 := Later.keep (hb.cell_some (i := 0) rfl)
  have k1 := Later.keep (hb.cell_some (i := 1) rfl)
  have k2 := Later.keep (hb.cell_some (i := 2) rfl)
  have k3 := Later.keep (hb.cell_some (i := 3) rfl)
  have k4 := Later.keep (hb.cell_some (i := 4) rfl)
  have k5 := Later.keep (hb.cell_some (i := 5) rfl)
  have k6 := Later.keep (hb.cell_some (i := 6) rfl)
  have k7 := Later.keep (hb.cell_some (i := 7) rfl)
  have q0 := Later.keep (HX4.out.keep HE.out.c0)
  have q1 := Later.keep (HX4.out.keep HE.out.c1)
  have q2 := Later.keep (HX4.out.keep HE.out.c2)
  have q3 := Later.keep (HX4.out.keep HE.out.c3)
  have q4 := Later.keep (HX4.out.keep HE.out.c4)
  have q5 := Later.keep (HX4.out.keep HE.out.c5)
  have q6 := Later.keep (HX4.out.keep HE.out.c6)
  have q7 := Later.keep (HX4.out.keep HE.out.c7)
  have s0 := Later.keep (HX4.out.keep HE2.out.c0)
  have s1 := Later.keep (HX4.out.keep HE2.out.c1)
  have s2 := Later.keep (HX4.out.keep HE2.out.c2)
  have s3 := Later.keep (HX4.out.keep HE2.out.c3)
  have s4 := Later.keep (HX4.out.keep HE2.out.c4)
  have s5 := Later.keep (HX4.out.keep HE2.out.c5)
  have s6 := Later.keep (HX4.out.keep HE2.out.c6)
  have s7 := Later.keep (HX4.out.keep HE2.out.c7)
  simp only [Nat.zero_mul, Nat.add_zero] at q0 q1 q2 q3 q4 q5 q6 q7
  have HC1 : Hid (∀ z : Later w4, Calls Tryz.prog 50 _ z.now _) := fun z => H1.out z.now (HX4.out.trans z.ext)
  have HC2 : Hid (∀ z : Later w4, Calls Tryz.prog 50 _ z.now _) := fun z => H2.out z.now (HX4.out.trans z.ext)
  clear hb
  refine wp_region_later (by kernel_rfl) (by kernel_rfl) ?_
  repeat (go_big_quiet_step ((first | (go_at_call 50; with_reducible exact later_of (HC1.out _)) | (go_at_call 50; with_reducible exact later_of (HC2.out _)) | (go_at_call 110; exact later_of (HSg.out _)))))
  refine wpQuiet_nil ?_
  intro w5 hw5
  have hx5 := later_out hw5
  clear hw5 k0 k1 k2 k3 k4 k5 k6 k7 q0 q1 q2 q3 q4 q5 q6 q7 s0 s1 s2 s3 s4 s5 s6 s7
  go_wp2_with fail
  go_ret
  exact ⟨rfl, HX4.out.trans hx5⟩
end Go.Proofs.YtcdnodjcnofogaaGreatDoor
