/-
  Walks: plain, the other operators; the canonical text of a well-formed expression.
-/
import Derived.Test.YtcdnodjcnofogaaGreatDoorW17
namespace Go.Proofs.YtcdnodjcnofogaaGreatDoor
open Go.RowKit
set_option linter.unusedVariables false
set_option linter.unusedSimpArgs false
set_option maxHeartbeats 4000000
set_option maxRecDepth 100000

theorem pl_num (tb nm : ByteArray) (ix vk vi : Int) (vt : ByteArray) (A : Option Addr) (n c : Nat) (w : World) (HC : Hid (∀ W, Ext w W → Can W vi)) :
    Calls Tryz.prog 105 #[.agg #[.int .i64 1, .string tb, .string nm, .int .i64 ix, .int .i64 1, .int .i64 vi, .string vt, .slice A n c]] w fun r w' => r = .returned (.string (itoB vi)) ∧ Ext w w' := by
  have HX := hid ((Ext.refl w).alloc (.cells #[.int .i64 1, .string tb, .string nm, .int .i64 ix, .int .i64 1, .int .i64 vi, .string vt, .slice A n c] 35))
  go_enter Tryz.func105, Tryz.ntmps105
  go_wp2_with (go_at_call 135; refine (number_any _ _ (HC.out _ HX.out)).mono ?_; rintro _ w2 ⟨rfl, hx2⟩)
  go_ret
  exact ⟨rfl, HX.out.trans hx2⟩
theorem pl_text (tb nm : ByteArray) (ix vk vi : Int) (vt : ByteArray) (A : Option Addr) (n c : Nat) (w : World) (HC : Hid (Sh w)) (hs : vt.size ≤ 1000) (hq : (quoB vt).size ≤ 2000) :
    Calls Tryz.prog 105 #[.agg #[.int .i64 1, .string tb, .string nm, .int .i64 ix, .int .i64 2, .int .i64 vi, .string vt, .slice A n c]] w fun r w' => r = .returned (.string (⟨#[39]⟩ ++ quoB vt ++ ⟨#[39]⟩)) ∧ Ext w w' := by
  have HX := hid ((Ext.refl w).alloc (.cells #[.int .i64 1, .string tb, .string nm, .int .i64 ix, .int .i64 2, .int .i64 vi, .string vt, .slice A n c] 35))
  go_enter Tryz.func105, Tryz.ntmps105
  go_wp2_with (go_at_call 153; refine (repl_any _ _ (HC.out.ext HX.out) hs).mono ?_; rintro _ w2 ⟨rfl, hx2⟩)
  go_ret
  exact ⟨rfl, HX.out.trans hx2⟩
theorem pl_null (tb nm : ByteArray) (ix vk vi : Int) (vt : ByteArray) (A : Option Addr) (n c : Nat) (w : World) :
    Calls Tryz.prog 105 #[.agg #[.int .i64 1, .string tb, .string nm, .int .i64 ix, .int .i64 0, .int .i64 vi, .string vt, .slice A n c]] w fun r w' => r = .returned (.string ⟨#[78, 85, 76, 76]⟩) ∧ Ext w w' := by
  have HX := hid ((Ext.refl w).alloc (.cells #[.int .i64 1, .string tb, .string nm, .int .i64 ix, .int .i64 0, .int .i64 vi, .string vt, .slice A n c] 35))
  go_enter Tryz.func105, Tryz.ntmps105
  go_wp2_with fail
  go_ret
  exact ⟨rfl, HX.out⟩
theorem pl_col (tb nm : ByteArray) (ix vk vi : Int) (vt : ByteArray) (A : Option Addr) (n c : Nat) (w : World) :
    Calls Tryz.prog 105 #[.agg #[.int .i64 2, .string ⟨#[]⟩, .string nm, .int .i64 ix, .int .i64 vk, .int .i64 vi, .string vt, .slice A n c]] w fun r w' => r = .returned (.string nm) ∧ Ext w w' := by
  have HX := hid ((Ext.refl w).alloc (.cells #[.int .i64 2, .string ⟨#[]⟩, .string nm, .int .i64 ix, .int .i64 vk, .int .i64 vi, .string vt, .slice A n c] 35))
  go_enter Tryz.func105, Tryz.ntmps105
  go_wp2_with fail
  go_ret
  exact ⟨rfl, HX.out⟩
theorem pl_qual (tb nm : ByteArray) (ix vk vi : Int) (vt : ByteArray) (A : Option Addr) (n c : Nat) (w : World) (t1 : ¬ tb.toList = []) (t2 : tb.toList.isEmpty = false) (hs : tb.size ≤ 1000) (hs2 : nm.size ≤ 1000) :
    Calls Tryz.prog 105 #[.agg #[.int .i64 2, .string tb, .string nm, .int .i64 ix, .int .i64 vk, .int .i64 vi, .string vt, .slice A n c]] w fun r w' => r = .returned (.string (tb ++ ⟨#[46]⟩ ++ nm)) ∧ Ext w w' := by
  have HX := hid ((Ext.refl w).alloc (.cells #[.int .i64 2, .string tb, .string nm, .int .i64 ix, .int .i64 vk, .int .i64 vi, .string vt, .slice A n c] 35))
  go_enter Tryz.func105, Tryz.ntmps105
  go_wp2_with fail
  go_ret
  exact ⟨rfl, HX.out⟩
theorem pl_neg (tb nm : ByteArray) (ix vk vi : Int) (vt : ByteArray) (b off n c : Nat) (w : World) (x : Ex) (X : ByteArray) (A1 : Option Addr) (n1 c1 : Nat) (hn : n = 1) (hX : X.size ≤ 100000)
    (e1 : EltAt w b (off + 0 * 8) x A1 n1 c1)
    (h1 : ∀ W, Ext w W → Calls Tryz.prog 49 #[x.d.val A1 n1 c1, .int .i64 8] W fun r w' => r = .returned (.string X) ∧ Ext W w') :
    Calls Tryz.prog 105 #[.agg #[.int .i64 3, .string tb, .string nm, .int .i64 ix, .int .i64 vk, .int .i64 vi, .string vt, .slice (some ⟨b, off, none⟩) n c]] w fun r w' => r = .returned (.string (⟨#[45]⟩ ++ X)) ∧ Ext w w' := by
  subst hn
  have HX := hid ((Ext.refl w).alloc (.cells #[.int .i64 3, .string tb, .string nm, .int .i64 ix, .int .i64 vk, .int .i64 vi, .string vt, .slice (some ⟨b, off, none⟩) 1 c] 35))
  have H1 := hid h1
  unfold Nd.val at H1
  simp only [Nat.zero_mul, Nat.add_zero] at e1
  have q0 := fun o => ((Ext.refl w).alloc o).keep e1.c0
  have q1 := fun o => ((Ext.refl w).alloc o).keep e1.c1
  have q2 := fun o => ((Ext.refl w).alloc o).keep e1.c2
  have q3 := fun o => ((Ext.refl w).alloc o).keep e1.c3
  have q4 := fun o => ((Ext.refl w).alloc o).keep e1.c4
  have q5 := fun o => ((Ext.refl w).alloc o).keep e1.c5
  have q6 := fun o => ((Ext.refl w).alloc o).keep e1.c6
  have q7 := fun o => ((Ext.refl w).alloc o).keep e1.c7
  clear h1 e1
  go_enter Tryz.func105, Tryz.ntmps105
  go_wp2_with (go_at_call 49; refine (H1.out _ HX.out).mono ?_; rintro _ w2 ⟨rfl, hx2⟩)
  go_ret
  exact ⟨rfl, HX.out.trans hx2⟩
theorem pl_len (tb nm : ByteArray) (ix vk vi : Int) (vt : ByteArray) (b off n c : Nat) (w : World) (x : Ex) (X : ByteArray) (A1 : Option Addr) (n1 c1 : Nat) (hn : n = 1) (hX : X.size ≤ 100000)
    (e1 : EltAt w b (off + 0 * 8) x A1 n1 c1)
    (h1 : ∀ W, Ext w W → Calls Tryz.prog 49 #[x.d.val A1 n1 c1, .int .i64 1] W fun r w' => r = .returned (.string X) ∧ Ext W w') :
    Calls Tryz.prog 105 #[.agg #[.int .i64 9, .string tb, .string nm, .int .i64 ix, .int .i64 vk, .int .i64 vi, .string vt, .slice (some ⟨b, off, none⟩) n c]] w fun r w' => r = .returned (.string (⟨#[76, 69, 78, 71, 84, 72, 40]⟩ ++ X ++ ⟨#[41]⟩)) ∧ Ext w w' := by
  subst hn
  have HX := hid ((Ext.refl w).alloc (.cells #[.int .i64 9, .string tb, .string nm, .int .i64 ix, .int .i64 vk, .int .i64 vi, .string vt, .slice (some ⟨b, off, none⟩) 1 c] 35))
  have H1 := hid h1
  unfold Nd.val at H1
  simp only [Nat.zero_mul, Nat.add_zero] at e1
  have q0 := fun o => ((Ext.refl w).alloc o).keep e1.c0
  have q1 := fun o => ((Ext.refl w).alloc o).keep e1.c1
  have q2 := fun o => ((Ext.refl w).alloc o).keep e1.c2
  have q3 := fun o => ((Ext.refl w).alloc o).keep e1.c3
  have q4 := fun o => ((Ext.refl w).alloc o).keep e1.c4
  have q5 := fun o => ((Ext.refl w).alloc o).keep e1.c5
  have q6 := fun o => ((Ext.refl w).alloc o).keep e1.c6
  have q7 := fun o => ((Ext.refl w).alloc o).keep e1.c7
  clear h1 e1
  go_enter Tryz.func105, Tryz.ntmps105
  go_wp2_with (go_at_call 49; refine (H1.out _ HX.out).mono ?_; rintro _ w2 ⟨rfl, hx2⟩)
  go_ret
  exact ⟨rfl, HX.out.trans hx2⟩
theorem pl_isnull (tb nm : ByteArray) (ix vk vi : Int) (vt : ByteArray) (b off n c : Nat) (w : World) (x : Ex) (X : ByteArray) (A1 : Option Addr) (n1 c1 : Nat) (hn : n = 1) (hX : X.size ≤ 100000)
    (e1 : EltAt w b (off + 0 * 8) x A1 n1 c1)
    (h1 : ∀ W, Ext w W → Calls Tryz.prog 49 #[x.d.val A1 n1 c1, .int .i64 5] W fun r w' => r = .returned (.string X) ∧ Ext W w') :
    Calls Tryz.prog 105 #[.agg #[.int .i64 17, .string tb, .string nm, .int .i64 ix, .int .i64 vk, .int .i64 vi, .string vt, .slice (some ⟨b, off, none⟩) n c]] w fun r w' => r = .returned (.string (X ++ ⟨#[32, 73, 83, 32, 78, 85, 76, 76]⟩)) ∧ Ext w w' := by
  subst hn
  have HX := hid ((Ext.refl w).alloc (.cells #[.int .i64 17, .string tb, .string nm, .int .i64 ix, .int .i64 vk, .int .i64 vi, .string vt, .slice (some ⟨b, off, none⟩) 1 c] 35))
  have H1 := hid h1
  unfold Nd.val at H1
  simp only [Nat.zero_mul, Nat.add_zero] at e1
  have q0 := fun o => ((Ext.refl w).alloc o).keep e1.c0
  have q1 := fun o => ((Ext.refl w).alloc o).keep e1.c1
  have q2 := fun o => ((Ext.refl w).alloc o).keep e1.c2
  have q3 := fun o => ((Ext.refl w).alloc o).keep e1.c3
  have q4 := fun o => ((Ext.refl w).alloc o).keep e1.c4
  have q5 := fun o => ((Ext.refl w).alloc o).keep e1.c5
  have q6 := fun o => ((Ext.refl w).alloc o).keep e1.c6
  have q7 := fun o => ((Ext.refl w).alloc o).keep e1.c7
  clear h1 e1
  go_enter Tryz.func105, Tryz.ntmps105
  go_wp2_with (go_at_call 49; refine (H1.out _ HX.out).mono ?_; rintro _ w2 ⟨rfl, hx2⟩)
  go_ret
  exact ⟨rfl, HX.out.trans hx2⟩
theorem pl_not (tb nm : ByteArray) (ix vk vi : Int) (vt : ByteArray) (b off n c : Nat) (w : World) (x : Ex) (X : ByteArray) (A1 : Option Addr) (n1 c1 : Nat) (hn : n = 1) (hX : X.size ≤ 100000)
    (e1 : EltAt w b (off + 0 * 8) x A1 n1 c1)
    (h1 : ∀ W, Ext w W → Calls Tryz.prog 49 #[x.d.val A1 n1 c1, .int .i64 3] W fun r w' => r = .returned (.string X) ∧ Ext W w') :
    Calls Tryz.prog 105 #[.agg #[.int .i64 20, .string tb, .string nm, .int .i64 ix, .int .i64 vk, .int .i64 vi, .string vt, .slice (some ⟨b, off, none⟩) n c]] w fun r w' => r = .returned (.string (⟨#[78, 79, 84, 32]⟩ ++ X)) ∧ Ext w w' := by
  subst hn
  have HX := hid ((Ext.refl w).alloc (.cells #[.int .i64 20, .string tb, .string nm, .int .i64 ix, .int .i64 vk, .int .i64 vi, .string vt, .slice (some ⟨b, off, none⟩) 1 c] 35))
  have H1 := hid h1
  unfold Nd.val at H1
  simp only [Nat.zero_mul, Nat.add_zero] at e1
  have q0 := fun o => ((Ext.refl w).alloc o).keep e1.c0
  have q1 := fun o => ((Ext.refl w).alloc o).keep e1.c1
  have q2 := fun o => ((Ext.refl w).alloc o).keep e1.c2
  have q3 := fun o => ((Ext.refl w).alloc o).keep e1.c3
  have q4 := fun o => ((Ext.refl w).alloc o).keep e1.c4
  have q5 := fun o => ((Ext.refl w).alloc o).keep e1.c5
  have q6 := fun o => ((Ext.refl w).alloc o).keep e1.c6
  have q7 := fun o => ((Ext.refl w).alloc o).keep e1.c7
  clear h1 e1
  go_enter Tryz.func105, Tryz.ntmps105
  go_wp2_with (go_at_call 49; refine (H1.out _ HX.out).mono ?_; rintro _ w2 ⟨rfl, hx2⟩)
  go_ret
  exact ⟨rfl, HX.out.trans hx2⟩
theorem pl_mk (d : Nd) (ks : List Ex) : (Ex.mk d ks).pl = plD d (ks.map fun e => (e.d.op, e.pl)) := by rw [Ex.pl, plL_eq]
theorem formed_size_kid {d : Nd} {ks : List Ex} {x : Ex} (h : x ∈ ks) : x.size ≤ (Ex.mk d ks).size := Nat.le_of_lt (size_kid h)
theorem plain_any : ∀ (e : Ex) (A : Option Addr) (n c : Nat) (w : World), ExV w e A n c → e.formed = true → e.size ≤ 1000 → Gd w →
    Calls Tryz.prog 105 #[e.d.val A n c] w fun r w' => r = .returned (.string e.pl) ∧ Ext w w' := by
  intro e
  induction e using Ex.ind with
  | h d ks ih =>
    intro A n c w hv hf hs hg
    obtain ⟨h1, h2, h3, h4⟩ := hv
    have h1 : ks.length = n := h1
    have h4 : KidsAt w A ks := h4
    have h3 : d.fit := h3
    obtain ⟨f1, f2, f3⟩ := formed_parts hf
    have hx : ∀ x ∈ ks, ∀ (r : Int) (A' : Option Addr) (n' c' : Nat) (W : World), Ext w W → ExV W x A' n' c' → Calls Tryz.prog 49 #[x.d.val A' n' c', .int .i64 r] W fun y w' => y = .returned (.string (x.tx r)) ∧ Ext W w' := by
      intro x hx r A' n' c' W hW hxv
      have hsz : x.size ≤ 1000 := Nat.le_trans (formed_size_kid (d := d) hx) hs
      have hp := pl_size x (f2 x hx)
      exact expr_of_plain x r A' n' c' W (by omega) fun W' hW' => ih x hx A' n' c' W' (hxv.ext hW') (f2 x hx) hsz ((hg.ext hW).ext hW')
    have htx : ∀ x ∈ ks, ∀ r, (x.tx r).size ≤ 100000 := by
      intro x hx r
      have hsz : x.size ≤ 1000 := Nat.le_trans (formed_size_kid (d := d) hx) hs
      have := tx_size x r (f2 x hx)
      omega
    rw [pl_mk]
    have hval : ∀ A, (Ex.mk d ks).d.val A n c = .agg #[.int .i64 d.op, .string d.tb, .string d.nm, .int .i64 d.ix, .int .i64 d.vk, .int .i64 d.vi, .string d.vt, .slice A n c] := fun _ => rfl
    rw [hval]
    unfold plD
    rcases opN_cases d.op with ⟨h0, h5⟩ | ⟨h0, h5⟩ | ⟨h0, h5⟩ | h0
    · rcases h5 with h5 | h5
      · unfold ndB at f3
        rw [if_neg (by omega), if_pos h5] at f3
        simp only [Bool.and_eq_true] at f3
        obtain ⟨l1, l2, l3⟩ := litB_size f3.2
        rw [if_pos h5, h5]
        rcases l3 with l3 | l3 | l3
        · rw [if_neg (by omega), if_neg (by omega), l3]
          exact pl_null _ _ _ d.vk _ _ _ _ _ _
        · rw [if_pos l3, l3]
          exact pl_num _ _ _ d.vk _ _ _ _ _ _ fun W hW => (hg.ext hW).can h3.vi
        · rw [if_neg (by omega), if_pos l3, l3]
          have := quoB_size d.vt
          exact pl_text _ _ _ d.vk _ _ _ _ _ _ hg.sh (by omega) (by omega)
      · unfold ndB at f3
        rw [if_pos h5] at f3
        simp only [Bool.and_eq_true, Bool.or_eq_true, beq_iff_eq] at f3
        have l1 := nameB_size f3.1.1
        rw [if_neg (by omega), if_pos h5, h5]
        by_cases ht : d.tb.size = 0
        · rw [if_pos ht, empty_yes ht]
          exact pl_col d.tb _ _ _ _ _ _ _ _ _
        · rw [if_neg ht]
          have l2 : d.tb.size ≤ 24 := by
            rcases f3.1.2 with h | h
            · exact absurd h ht
            · exact nameB_size h
          exact pl_qual _ _ _ _ _ _ _ _ _ _ (empty_no ht) (empty_no2 ht) (by omega) (by omega)
    · obtain ⟨a, rfl⟩ : ∃ a, ks = [a] := by
        have : ks.length = 1 := by omega
        exact List.length_eq_one_iff.1 this
      obtain ⟨b, off, A', n', c', rfl, hE⟩ := h4.get (i := 0) (e := a) rfl
      have ha : a ∈ [a] := by simp
      have hn1 : n = 1 := by rw [← h1]; rfl
      simp only [List.map_cons, List.map_nil, List.getD_cons_zero]
      rcases h5 with h5 | h5 | h5 | h5
      · rw [if_neg (by omega), if_neg (by omega), if_pos h5, h5]
        exact pl_neg _ _ _ _ _ _ b off n c w a _ A' n' c' hn1 (htx a ha 8) hE fun W hW => hx a ha 8 A' n' c' W hW (hE.val.ext hW)
      · rw [if_neg (by omega), if_neg (by omega), if_neg (by omega), if_pos h5, h5]
        exact pl_len _ _ _ _ _ _ b off n c w a _ A' n' c' hn1 (htx a ha 1) hE fun W hW => hx a ha 1 A' n' c' W hW (hE.val.ext hW)
      · rw [if_neg (by omega), if_neg (by omega), if_neg (by omega), if_neg (by omega), if_pos h5, h5]
        exact pl_isnull _ _ _ _ _ _ b off n c w a _ A' n' c' hn1 (htx a ha 5) hE fun W hW => hx a ha 5 A' n' c' W hW (hE.val.ext hW)
      · rw [if_neg (by omega), if_neg (by omega), if_neg (by omega), if_neg (by omega), if_neg (by omega), if_pos h5, h5]
        exact pl_not _ _ _ _ _ _ b off n c w a _ A' n' c' hn1 (htx a ha 3) hE fun W hW => hx a ha 3 A' n' c' W hW (hE.val.ext hW)
    · obtain ⟨x, y, rfl⟩ : ∃ x y, ks = [x, y] := by
        have : ks.length = 2 := by omega
        match ks, this with
        | [x, y], _ => exact ⟨x, y, rfl⟩
      obtain ⟨b, off, A1, n1, c1, rfl, hE⟩ := h4.get (i := 0) (e := x) rfl
      obtain ⟨b2, off2, A2, n2, c2, hA2, hE2⟩ := h4.get (i := 1) (e := y) rfl
      simp only [Option.some.injEq, Addr.mk.injEq, and_true] at hA2
      obtain ⟨rfl, rfl⟩ := hA2
      have ha : x ∈ [x, y] := by simp
      have hb : y ∈ [x, y] := by simp
      have hn2 : n = 2 := by rw [← h1]; rfl
      simp only [List.map_cons, List.map_nil, List.getD_cons_zero, List.getD_cons_succ]
      rw [if_neg (by omega), if_neg (by omega), if_neg (by omega), if_neg (by omega), if_neg (by omega), if_neg (by omega)]
      by_cases h4' : lvl d.op = 4
      · rw [if_pos h4']
        exact pc_bin4 d.op _ _ _ _ _ _ b off n c w x y _ _ A1 A2 n1 n2 c1 c2 h5 hn2 (htx x ha 5) (htx y hb (lvl d.op + 1)) hE hE2 (by rw [h4']; rfl)
          (fun W hW => hx x ha 5 A1 n1 c1 W hW (hE.val.ext hW)) (fun W hW => hx y hb (lvl d.op + 1) A2 n2 c2 W hW (hE2.val.ext hW))
      · rw [if_neg h4']
        exact pc_bin d.op _ _ _ _ _ _ b off n c w x y _ _ A1 A2 n1 n2 c1 c2 h5 hn2 (htx x ha (lvl d.op)) (htx y hb (lvl d.op + 1)) hE hE2 (by simpa using h4')
          (fun W hW => hx x ha (lvl d.op) A1 n1 c1 W hW (hE.val.ext hW)) (fun W hW => hx y hb (lvl d.op + 1) A2 n2 c2 W hW (hE2.val.ext hW))
    · omega
theorem expr_any (e : Ex) (r : Int) (A : Option Addr) (n c : Nat) (w : World) (hv : ExV w e A n c) (hf : e.formed = true) (hs : e.size ≤ 1000) (hg : Gd w) :
    Calls Tryz.prog 49 #[e.d.val A n c, .int .i64 r] w fun x w' => x = .returned (.string (e.tx r)) ∧ Ext w w' :=
  expr_of_plain e r A n c w (by have := pl_size e hf; omega) fun W hW => plain_any e A n c W (hv.ext hW) hf hs (hg.ext hW)
end Go.Proofs.YtcdnodjcnofogaaGreatDoor
