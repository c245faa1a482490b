/-
  Walks: plain, a binary operator.
-/
import Derived.Test.YtcdnodjcnofogaaGreatDoorW16
import Derived.IntWalk
namespace Go.Proofs.YtcdnodjcnofogaaGreatDoor
open Go.RowKit
set_option linter.unusedVariables false
set_option linter.unusedSimpArgs false
set_option maxHeartbeats 4000000
set_option maxRecDepth 100000

def sgnC : Array Value := #[.string ⟨#[]⟩, .string ⟨#[]⟩, .string ⟨#[]⟩, .string ⟨#[]⟩, .string ⟨#[43]⟩, .string ⟨#[45]⟩, .string ⟨#[42]⟩, .string ⟨#[47]⟩, .string ⟨#[37]⟩, .string ⟨#[]⟩, .string ⟨#[61]⟩, .string ⟨#[60, 62]⟩, .string ⟨#[60]⟩, .string ⟨#[60, 61]⟩,
  .string ⟨#[62]⟩, .string ⟨#[62, 61]⟩, .string ⟨#[76, 73, 75, 69]⟩, .string ⟨#[]⟩, .string ⟨#[65, 78, 68]⟩, .string ⟨#[79, 82]⟩]
def zerC : Array Value := Array.replicate 20 (.string ⟨#[]⟩)
theorem sgnC_get (op : Int) (h : 4 ≤ op ∧ op ≤ 8 ∨ 10 ≤ op ∧ op ≤ 16 ∨ op = 18 ∨ op = 19) : sgnC.toList[op.toNat]? = some (.string (sgn op)) := by
  have hk : ∀ k : Nat, (k < 20 ∧ (4 ≤ k ∧ k ≤ 8 ∨ 10 ≤ k ∧ k ≤ 16 ∨ k = 18 ∨ k = 19)) → sgnC.toList[k]? = some (.string (sgn (k : Int))) := by
    intro k ⟨h1, h2⟩
    have hc : k = 4 ∨ k = 5 ∨ k = 6 ∨ k = 7 ∨ k = 8 ∨ k = 10 ∨ k = 11 ∨ k = 12 ∨ k = 13 ∨ k = 14 ∨ k = 15 ∨ k = 16 ∨ k = 18 ∨ k = 19 := by omega
    rcases hc with rfl | rfl | rfl | rfl | rfl | rfl | rfl | rfl | rfl | rfl | rfl | rfl | rfl | rfl <;> rfl
  have := hk op.toNat (by omega)
  rwa [show ((op.toNat : Nat) : Int) = op by omega] at this
theorem pc_bin4 (op : Int) (tb nm : ByteArray) (ix vk vi : Int) (vt : ByteArray) (b off : Nat) (n c : Nat) (w : World) (x y : Ex) (X Y : ByteArray) (A1 A2 : Option Addr) (n1 n2 c1 c2 : Nat)
    (hop : 4 ≤ op ∧ op ≤ 8 ∨ 10 ≤ op ∧ op ≤ 16 ∨ op = 18 ∨ op = 19) (hn : n = 2) (hX : X.size ≤ 100000) (hY : Y.size ≤ 100000)
    (e1 : EltAt w b (off + 0 * 8) x A1 n1 c1) (e2 : EltAt w b (off + 1 * 8) y A2 n2 c2) (b4 : (lvl op == 4) = true)
    (h1 : ∀ W, Ext w W → Calls Tryz.prog 49 #[x.d.val A1 n1 c1, .int .i64 5] W fun r w' => r = .returned (.string X) ∧ Ext W w')
    (h2 : ∀ W, Ext w W → Calls Tryz.prog 49 #[y.d.val A2 n2 c2, .int .i64 (lvl op + 1)] W fun r w' => r = .returned (.string Y) ∧ Ext W w') :
    Calls Tryz.prog 105 #[.agg #[.int .i64 op, .string tb, .string nm, .int .i64 ix, .int .i64 vk, .int .i64 vi, .string vt, .slice (some ⟨b, off, none⟩) n c]] w fun r w' => r = .returned (.string (X ++ ⟨#[32]⟩ ++ sgn op ++ ⟨#[32]⟩ ++ Y)) ∧ Ext w w' := by
  subst hn
  have b1 : (op == 1) = false := by rw [beq_eq_false_iff_ne]; omega
  have b2 : (op == 2) = false := by rw [beq_eq_false_iff_ne]; omega
  have b3 : (op == 3) = false := by rw [beq_eq_false_iff_ne]; omega
  have b9 : (op == 9) = false := by rw [beq_eq_false_iff_ne]; omega
  have b17 : (op == 17) = false := by rw [beq_eq_false_iff_ne]; omega
  have b20 : (op == 20) = false := by rw [beq_eq_false_iff_ne]; omega
  have hs1 := sgn_size op
  have HS := hid (sgnC_get op hop)
  have HL := hid (fun W => level_any (.mk ⟨op, tb, nm, ix, vk, vi, vt⟩ []) (some ⟨b, off, none⟩) 2 c W)
  have HE1 := hid e1
  have HE2 := hid e2
  have H1 := hid h1
  have H2 := hid h2
  have o0 : (0 : Int) ≤ op := by omega
  have o1 : op < 20 := by omega
  have hlv : 1 ≤ lvl op ∧ lvl op ≤ 8 := by unfold lvl; repeat' split <;> try omega
  clear e1 e2 h1 h2 hop
  unfold Nd.val at HL H1 H2
  simp only [Ex.d] at HL
  generalize lvl op = L at *
  obtain ⟨hl1, hl2⟩ := hlv
  generalize sgn op = G at *
  have HB := hid (Blk.of_new w 35 [.int .i64 op, .string tb, .string nm, .int .i64 ix, .int .i64 vk, .int .i64 vi, .string vt, .slice (some ⟨b, off, none⟩) 2 c])
  have HX := hid ((Ext.refl w).alloc (.cells #[.int .i64 op, .string tb, .string nm, .int .i64 ix, .int .i64 vk, .int .i64 vi, .string vt, .slice (some ⟨b, off, none⟩) 2 c] 35))
  go_enter Tryz.func105, Tryz.ntmps105
  go_upto_region 21 with fail
  generalize w.alloc (.cells #[.int .i64 op, .string tb, .string nm, .int .i64 ix, .int .i64 vk, .int .i64 vi, .string vt, .slice (some ⟨b, off, none⟩) 2 c] 35) = w1 at *
  generalize w.heap.size = g at *
  apply wp_region_lit
  refine wpList_buildTo rfl 141 _ rfl (some 72) rfl sgnC (by kernel_rfl) ?_
  refine Great.wpList_allocTo rfl (some 3) rfl (.pointer (some ⟨w1.heap.size, 0, none⟩)) (.cells zerC 141) (by kernel_rfl) ?_
  refine wpList_store_rowTo rfl 141 (.tmp 3) (.tmp 72) rfl rfl w1.heap.size sgnC rfl rfl 141 zerC (heap_alloc_new w1 _) (by kernel_rfl) (by kernel_rfl) (by kernel_rfl) ?_
  apply wpList_nil
  rw [World.setRow_alloc_new]
  have HB2 := hid (HB.out.ext ((Ext.refl w1).alloc (.cells sgnC 141)))
  have HX2 := hid (HX.out.alloc (.cells sgnC 141))
  have HC := hid (Blk.of_new w1 141 sgnC.toList)
  have hga : (.cells sgnC.toList.toArray 141 : Obj) = .cells sgnC 141 := rfl
  rw [hga] at HC
  clear hga
  generalize w1.alloc (.cells sgnC 141) = w2 at *
  generalize w1.heap.size = ga at *
  have hb2 := HB2.out
  have c0 := hb2.cell 0
  have c1' := hb2.cell 1
  have c2' := hb2.cell 2
  have c3 := hb2.cell 3
  have c4 := hb2.cell 4
  have c5 := hb2.cell 5
  have c6 := hb2.cell 6
  have c7 := hb2.cell 7
  simp only [List.getElem?_cons_succ, List.getElem?_cons_zero] at c0 c1' c2' c3 c4 c5 c6 c7
  clear hb2
  go_wp2_with (go_at_call 106; refine (HL.out _).mono ?_; rintro _ w3 ⟨rfl, hx3⟩)
  have HX3 := hid (HX2.out.trans hx3)
  clear c0 c1' c2' c3 c4 c5 c6 c7
  have hb3 := HB2.out.ext hx3
  have k0 := Later.keep (hb3.cell_some (i := 0) rfl)
  have k1 := Later.keep (hb3.cell_some (i := 1) rfl)
  have k2 := Later.keep (hb3.cell_some (i := 2) rfl)
  have k3 := Later.keep (hb3.cell_some (i := 3) rfl)
  have k4 := Later.keep (hb3.cell_some (i := 4) rfl)
  have k5 := Later.keep (hb3.cell_some (i := 5) rfl)
  have k6 := Later.keep (hb3.cell_some (i := 6) rfl)
  have k7 := Later.keep (hb3.cell_some (i := 7) rfl)
  have ks := Later.keep (((HC.out.ext hx3).cell op.toNat).trans HS.out)
  have q0 := Later.keep (HX3.out.keep HE1.out.c0)
  have q1 := Later.keep (HX3.out.keep HE1.out.c1)
  have q2 := Later.keep (HX3.out.keep HE1.out.c2)
  have q3 := Later.keep (HX3.out.keep HE1.out.c3)
  have q4 := Later.keep (HX3.out.keep HE1.out.c4)
  have q5 := Later.keep (HX3.out.keep HE1.out.c5)
  have q6 := Later.keep (HX3.out.keep HE1.out.c6)
  have q7 := Later.keep (HX3.out.keep HE1.out.c7)
  have s0 := Later.keep (HX3.out.keep HE2.out.c0)
  have s1 := Later.keep (HX3.out.keep HE2.out.c1)
  have s2 := Later.keep (HX3.out.keep HE2.out.c2)
  have s3 := Later.keep (HX3.out.keep HE2.out.c3)
  have s4 := Later.keep (HX3.out.keep HE2.out.c4)
  have s5 := Later.keep (HX3.out.keep HE2.out.c5)
  have s6 := Later.keep (HX3.out.keep HE2.out.c6)
  have s7 := Later.keep (HX3.out.keep HE2.out.c7)
  simp only [Nat.zero_mul, Nat.add_zero] at q0 q1 q2 q3 q4 q5 q6 q7
  have HC1 : Hid (∀ z : Later w3, Calls Tryz.prog 49 _ z.now _) := fun z => H1.out z.now (HX3.out.trans z.ext)
  have HC2 : Hid (∀ z : Later w3, Calls Tryz.prog 49 _ z.now _) := fun z => H2.out z.now (HX3.out.trans z.ext)
  have lw : IntKind.i64.wrap (L + 1) = L + 1 := IntWalk.i64_in _ (by omega)
  clear hx3 hb3
  refine wp_region_later (by kernel_rfl) (by kernel_rfl) ?_
  repeat (go_big_quiet_step ((first | (go_at_call 49; with_reducible exact later_of (HC1.out _)) | (go_at_call 49; with_reducible exact later_of (HC2.out _)) | (go_at_call 106; exact later_of (HL.out _)))))
  refine wpQuiet_nil ?_
  intro w4 hw4
  have hx4 := later_out hw4
  clear hw4 k0 k1 k2 k3 k4 k5 k6 k7 ks q0 q1 q2 q3 q4 q5 q6 q7 s0 s1 s2 s3 s4 s5 s6 s7 lw
  go_wp2_with fail
  go_ret
  exact ⟨rfl, HX3.out.trans hx4⟩
theorem pc_bin (op : Int) (tb nm : ByteArray) (ix vk vi : Int) (vt : ByteArray) (b off : Nat) (n c : Nat) (w : World) (x y : Ex) (X Y : ByteArray) (A1 A2 : Option Addr) (n1 n2 c1 c2 : Nat)
    (hop : 4 ≤ op ∧ op ≤ 8 ∨ 10 ≤ op ∧ op ≤ 16 ∨ op = 18 ∨ op = 19) (hn : n = 2) (hX : X.size ≤ 100000) (hY : Y.size ≤ 100000)
    (e1 : EltAt w b (off + 0 * 8) x A1 n1 c1) (e2 : EltAt w b (off + 1 * 8) y A2 n2 c2) (b4 : (lvl op == 4) = false)
    (h1 : ∀ W, Ext w W → Calls Tryz.prog 49 #[x.d.val A1 n1 c1, .int .i64 (lvl op)] W fun r w' => r = .returned (.string X) ∧ Ext W w')
    (h2 : ∀ W, Ext w W → Calls Tryz.prog 49 #[y.d.val A2 n2 c2, .int .i64 (lvl op + 1)] W fun r w' => r = .returned (.string Y) ∧ Ext W w') :
    Calls Tryz.prog 105 #[.agg #[.int .i64 op, .string tb, .string nm, .int .i64 ix, .int .i64 vk, .int .i64 vi, .string vt, .slice (some ⟨b, off, none⟩) n c]] w fun r w' => r = .returned (.string (X ++ ⟨#[32]⟩ ++ sgn op ++ ⟨#[32]⟩ ++ Y)) ∧ Ext w w' := by
  subst hn
  have b1 : (op == 1) = false := by rw [beq_eq_false_iff_ne]; omega
  have b2 : (op == 2) = false := by rw [beq_eq_false_iff_ne]; omega
  have b3 : (op == 3) = false := by rw [beq_eq_false_iff_ne]; omega
  have b9 : (op == 9) = false := by rw [beq_eq_false_iff_ne]; omega
  have b17 : (op == 17) = false := by rw [beq_eq_false_iff_ne]; omega
  have b20 : (op == 20) = false := by rw [beq_eq_false_iff_ne]; omega
  have hs1 := sgn_size op
  have HS := hid (sgnC_get op hop)
  have HL := hid (fun W => level_any (.mk ⟨op, tb, nm, ix, vk, vi, vt⟩ []) (some ⟨b, off, none⟩) 2 c W)
  have HE1 := hid e1
  have HE2 := hid e2
  have H1 := hid h1
  have H2 := hid h2
  have o0 : (0 : Int) ≤ op := by omega
  have o1 : op < 20 := by omega
  have hlv : 1 ≤ lvl op ∧ lvl op ≤ 8 := by unfold lvl; repeat' split <;> try omega
  clear e1 e2 h1 h2 hop
  unfold Nd.val at HL H1 H2
  simp only [Ex.d] at HL
  generalize lvl op = L at *
  obtain ⟨hl1, hl2⟩ := hlv
  generalize sgn op = G at *
  have HB := hid (Blk.of_new w 35 [.int .i64 op, .string tb, .string nm, .int .i64 ix, .int .i64 vk, .int .i64 vi, .string vt, .slice (some ⟨b, off, none⟩) 2 c])
  have HX := hid ((Ext.refl w).alloc (.cells #[.int .i64 op, .string tb, .string nm, .int .i64 ix, .int .i64 vk, .int .i64 vi, .string vt, .slice (some ⟨b, off, none⟩) 2 c] 35))
  go_enter Tryz.func105, Tryz.ntmps105
  go_upto_region 21 with fail
  generalize w.alloc (.cells #[.int .i64 op, .string tb, .string nm, .int .i64 ix, .int .i64 vk, .int .i64 vi, .string vt, .slice (some ⟨b, off, none⟩) 2 c] 35) = w1 at *
  generalize w.heap.size = g at *
  apply wp_region_lit
  refine wpList_buildTo rfl 141 _ rfl (some 72) rfl sgnC (by kernel_rfl) ?_
  refine Great.wpList_allocTo rfl (some 3) rfl (.pointer (some ⟨w1.heap.size, 0, none⟩)) (.cells zerC 141) (by kernel_rfl) ?_
  refine wpList_store_rowTo rfl 141 (.tmp 3) (.tmp 72) rfl rfl w1.heap.size sgnC rfl rfl 141 zerC (heap_alloc_new w1 _) (by kernel_rfl) (by kernel_rfl) (by kernel_rfl) ?_
  apply wpList_nil
  rw [World.setRow_alloc_new]
  have HB2 := hid (HB.out.ext ((Ext.refl w1).alloc (.cells sgnC 141)))
  have HX2 := hid (HX.out.alloc (.cells sgnC 141))
  have HC := hid (Blk.of_new w1 141 sgnC.toList)
  have hga : (.cells sgnC.toList.toArray 141 : Obj) = .cells sgnC 141 := rfl
  rw [hga] at HC
  clear hga
  generalize w1.alloc (.cells sgnC 141) = w2 at *
  generalize w1.heap.size = ga at *
  have hb2 := HB2.out
  have c0 := hb2.cell 0
  have c1' := hb2.cell 1
  have c2' := hb2.cell 2
  have c3 := hb2.cell 3
  have c4 := hb2.cell 4
  have c5 := hb2.cell 5
  have c6 := hb2.cell 6
  have c7 := hb2.cell 7
  simp only [List.getElem?_cons_succ, List.getElem?_cons_zero] at c0 c1' c2' c3 c4 c5 c6 c7
  clear hb2
  go_wp2_with (go_at_call 106; refine (HL.out _).mono ?_; rintro _ w3 ⟨rfl, hx3⟩)
  have HX3 := hid (HX2.out.trans hx3)
  clear c0 c1' c2' c3 c4 c5 c6 c7
  have hb3 := HB2.out.ext hx3
  have k0 := Later.keep (hb3.cell_some (i := 0) rfl)
  have k1 := Later.keep (hb3.cell_some (i := 1) rfl)
  have k2 := Later.keep (hb3.cell_some (i := 2) rfl)
  have k3 := Later.keep (hb3.cell_some (i := 3) rfl)
  have k4 := Later.keep (hb3.cell_some (i := 4) rfl)
  have k5 := Later.keep (hb3.cell_some (i := 5) rfl)
  have k6 := Later.keep (hb3.cell_some (i := 6) rfl)
  have k7 := Later.keep (hb3.cell_some (i := 7) rfl)
  have ks := Later.keep (((HC.out.ext hx3).cell op.toNat).trans HS.out)
  have q0 := Later.keep (HX3.out.keep HE1.out.c0)
  have q1 := Later.keep (HX3.out.keep HE1.out.c1)
  have q2 := Later.keep (HX3.out.keep HE1.out.c2)
  have q3 := Later.keep (HX3.out.keep HE1.out.c3)
  have q4 := Later.keep (HX3.out.keep HE1.out.c4)
  have q5 := Later.keep (HX3.out.keep HE1.out.c5)
  have q6 := Later.keep (HX3.out.keep HE1.out.c6)
  have q7 := Later.keep (HX3.out.keep HE1.out.c7)
  have s0 := Later.keep (HX3.out.keep HE2.out.c0)
  have s1 := Later.keep (HX3.out.keep HE2.out.c1)
  have s2 := Later.keep (HX3.out.keep HE2.out.c2)
  have s3 := Later.keep (HX3.out.keep HE2.out.c3)
  have s4 := Later.keep (HX3.out.keep HE2.out.c4)
  have s5 := Later.keep (HX3.out.keep HE2.out.c5)
  have s6 := Later.keep (HX3.out.keep HE2.out.c6)
  have s7 := Later.keep (HX3.out.keep HE2.out.c7)
  simp only [Nat.zero_mul, Nat.add_zero] at q0 q1 q2 q3 q4 q5 q6 q7
  have HC1 : Hid (∀ z : Later w3, Calls Tryz.prog 49 _ z.now _) := fun z => H1.out z.now (HX3.out.trans z.ext)
  have HC2 : Hid (∀ z : Later w3, Calls Tryz.prog 49 _ z.now _) := fun z => H2.out z.now (HX3.out.trans z.ext)
  have lw : IntKind.i64.wrap (L + 1) = L + 1 := IntWalk.i64_in _ (by omega)
  clear hx3 hb3
  refine wp_region_later (by kernel_rfl) (by kernel_rfl) ?_
  repeat (go_big_quiet_step ((first | (go_at_call 49; with_reducible exact later_of (HC1.out _)) | (go_at_call 49; with_reducible exact later_of (HC2.out _)) | (go_at_call 106; exact later_of (HL.out _)))))
  refine wpQuiet_nil ?_
  intro w4 hw4
  have hx4 := later_out hw4
  clear hw4 k0 k1 k2 k3 k4 k5 k6 k7 ks q0 q1 q2 q3 q4 q5 q6 q7 s0 s1 s2 s3 s4 s5 s6 s7 lw
  go_wp2_with fail
  go_ret
  exact ⟨rfl, HX3.out.trans hx4⟩
end Go.Proofs.YtcdnodjcnofogaaGreatDoor
