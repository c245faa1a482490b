/-
  Walks: equality of expressions.
-/
import Derived.Test.YtcdnodjcnofogaaGreatDoorW12
namespace Go.Proofs.YtcdnodjcnofogaaGreatDoor
open Go.RowKit
set_option linter.unusedVariables false
set_option linter.unusedSimpArgs false
set_option maxHeartbeats 4000000
set_option maxRecDepth 100000

theorem same_at {l m : List Ex} (hl : l.length = m.length) (h : ∀ (i : Nat) (x y : Ex), l[i]? = some x → m[i]? = some y → i < l.length → x.same y = true) : sameL l m = true :=
  (sameL_iff l m).2 ⟨hl, fun i x y hx hy => h i x y hx hy (List.getElem?_eq_some_iff.1 hx).1⟩
theorem same_no {l m : List Ex} {i : Nat} {x y : Ex} (hx : l[i]? = some x) (hy : m[i]? = some y) (h : x.same y = false) : sameL l m = false := by
  rw [← Bool.not_eq_true, sameL_iff]
  rintro ⟨_, h2⟩
  rw [h2 i x y hx hy] at h
  cases h
theorem same_len {l m : List Ex} (h : l.length ≠ m.length) : sameL l m = false := by
  rw [← Bool.not_eq_true, sameL_iff]
  exact fun h2 => h h2.1
/-- the first k are equal -/
def SameTo (l m : List Ex) (k : Nat) : Prop := ∀ (i : Nat) (x y : Ex), l[i]? = some x → m[i]? = some y → i < k → x.same y = true
theorem SameTo.zero (l m : List Ex) : SameTo l m 0 := fun _ _ _ _ _ h => absurd h (Nat.not_lt_zero _)
theorem SameTo.step {l m : List Ex} {k : Nat} {x y : Ex} (h : SameTo l m k) (hx : l[k]? = some x) (hy : m[k]? = some y) (he : x.same y = true) : SameTo l m (k + 1) := by
  intro i a b ha hb hi
  rcases Nat.lt_or_ge i k with h2 | h2
  · exact h i a b ha hb h2
  · obtain rfl : i = k := by omega
    rw [Option.some.inj (ha.symm.trans hx), Option.some.inj (hb.symm.trans hy)]
    exact he
theorem SameTo.done {l m : List Ex} {n : Nat} (h : SameTo l m n) (hl : l.length = n) (hm : m.length = n) : sameL l m = true :=
  same_at (by rw [hl, hm]) fun i x y hx hy hi => h i x y hx hy (by omega)

theorem eqfunc_ex (l m : List Ex) (A B : Option Addr) (n p c c' : Nat) (w : World) (hl : l.length = n) (hm : m.length = p) (hn : n ≤ 9223372036854775807) (hp : p ≤ 9223372036854775807) (hk : KidsAt w A l) (hk2 : KidsAt w B m)
    (hF : ∀ x ∈ l, ∀ (y : Ex) (A1 A2 : Option Addr) (n1 n2 c1 c2 : Nat) (W : World), ExV W x A1 n1 c1 → ExV W y A2 n2 c2 → Calls Tryz.prog 23 #[x.d.val A1 n1 c1, y.d.val A2 n2 c2] W fun r W' => r = .returned (.bool (x.same y)) ∧ Ext W W') :
    Calls Tryz.prog 111 #[.slice A n c, .slice B p c', .func (Fn.func 23) #[] #[]] w fun r w' => r = .returned (.bool (sameL l m)) ∧ Ext w w' := by
  have HL := hid hl
  have HM := hid hm
  have HK := hid hk
  have HK2 := hid hk2
  have HF := hid hF
  clear hl hm hk hk2 hF
  by_cases hnp : n = p
  · subst hnp
    have bN : ((n : Int) != (n : Int)) = false := by simp
    go_enter Tryz.func111, Tryz.ntmps111
    go_wp2_with fail
    go_loopw [17] (fun iv wr => ∃ (k : Nat), k ≤ n ∧ iv = .int .i64 k ∧ SameTo l m k ∧ Ext w wr) (fun i _ => n - (intOf i).toNat)
    case atStart => exact ⟨0, Nat.zero_le _, rfl, SameTo.zero l m, Ext.refl w⟩
    case round =>
      obtain ⟨k, hkn, rfl, hr, hxr⟩ := hrel
      have HXr := hid hxr
      have HRr := hid hr
      by_cases hlt : k < n
      · obtain ⟨x, hx⟩ := at_lt HL.out hlt
        obtain ⟨y, hy⟩ := at_lt HM.out hlt
        obtain ⟨b, off, A', n', c', rfl, q0, q1, q2, q3, q4, q5, q6, q7, hv⟩ := (HK.out.ext hxr).get hx
        obtain ⟨b2, off2, A2, n2, c2, rfl, s0, s1, s2, s3, s4, s5, s6, s7, hv2⟩ := (HK2.out.ext hxr).get hy
        have HV := hid hv
        have HV2 := hid hv2
        have p0 := fun o => ((Ext.refl wr).alloc o).keep s0
        have p1 := fun o => ((Ext.refl wr).alloc o).keep s1
        have p2 := fun o => ((Ext.refl wr).alloc o).keep s2
        have p3 := fun o => ((Ext.refl wr).alloc o).keep s3
        have p4 := fun o => ((Ext.refl wr).alloc o).keep s4
        have p5 := fun o => ((Ext.refl wr).alloc o).keep s5
        have p6 := fun o => ((Ext.refl wr).alloc o).keep s6
        have p7 := fun o => ((Ext.refl wr).alloc o).keep s7
        have HC := hid (fun W (hW : Ext wr W) => HF.out x (mem_at hx) y A' A2 n' n2 c' c2 W (hv.ext hW) (hv2.ext hW))
        have HE := hid hx
        have HE2 := hid hy
        clear hx hy hv hv2 hxr hr s0 s1 s2 s3 s4 s5 s6 s7
        cases hp : x.same y
        · rw [hp] at HC
          have HP : Hid (sameL l m = false) := same_no HE.out HE2.out hp
          clear hp
          go_wp2_with fail
          refine (HC.out _ (((Ext.refl wr).alloc _).alloc _)).mono ?_
          rintro _ w2 ⟨rfl, hx2⟩
          go_wp2_with fail
          go_ret
          exact ⟨ret_bool HP.out.symm, ((HXr.out.alloc _).alloc _).trans hx2⟩
        · rw [hp] at HC
          have HP := hid (HRr.out.step HE.out HE2.out hp)
          clear hp
          go_wp2_with fail
          refine (HC.out _ (((Ext.refl wr).alloc _).alloc _)).mono ?_
          rintro _ w2 ⟨rfl, hx2⟩
          go_wp2_with fail
          go_roundw
          case rel => exact ⟨k + 1, by omega, by go_num, HP.out, ((HXr.out.alloc _).alloc _).trans hx2⟩
          case measure => simp [intOf]; omega
      · obtain rfl : k = n := by omega
        have HP := hid (HRr.out.done HL.out HM.out)
        clear hr
        go_wp2_with fail
        go_ret
        exact ⟨ret_bool HP.out.symm, HXr.out⟩
  · have bN : ((n : Int) != (p : Int)) = true := by simp; omega
    have HP : Hid (sameL l m = false) := same_len (by rw [HL.out, HM.out]; exact hnp)
    clear hnp
    go_enter Tryz.func111, Tryz.ntmps111
    go_wp2_with fail
    go_ret
    exact ⟨ret_bool HP.out.symm, Ext.refl w⟩
/-- equality, in the walk's spelling -/
theorem same_walk (d d' : Nd) (ks ks' : List Ex) : (Ex.mk d ks).same (Ex.mk d' ks') =
    (d.op == d'.op && d.tb.toList == d'.tb.toList && d.nm.toList == d'.nm.toList && (d.vk == d'.vk && d.vi == d'.vi && d.vt.toList == d'.vt.toList) && sameL ks ks') := by
  rw [Ex.same, Nd.same, str_eq, str_eq, str_eq]
theorem equal_any : ∀ (a : Ex) (b : Ex) (A B : Option Addr) (n p c c' : Nat) (w : World), ExV w a A n c → ExV w b B p c' →
    Calls Tryz.prog 23 #[a.d.val A n c, b.d.val B p c'] w fun r w' => r = .returned (.bool (a.same b)) ∧ Ext w w' := by
  intro a
  induction a using Ex.ind with
  | h d ks ih =>
    intro b A B n p c c' w hv hv2
    obtain ⟨d', ks'⟩ := b
    obtain ⟨h1, h2, h3, h4⟩ := hv
    obtain ⟨g1, g2, g3, g4⟩ := hv2
    have h4 : KidsAt w A ks := h4
    have g4 : KidsAt w B ks' := g4
    have HS := hid (same_walk d d' ks ks')
    obtain ⟨S, hS⟩ : ∃ S, sameL ks ks' = S := ⟨_, rfl⟩
    have HC : Hid (∀ W, Ext w W → Calls Tryz.prog 51 #[.slice A n c, .slice B p c'] W fun r w' => r = .returned (.bool S) ∧ Ext W w') := by
      intro W hW
      have HE := hid (eqfunc_ex ks ks' A B n p c c' W h1 g1 h2 g2 (h4.ext hW) (g4.ext hW) fun x hx y A1 A2 n1 n2 c1 c2 W2 hv1 hv2 => ih x hx y A1 A2 n1 n2 c1 c2 W2 hv1 hv2)
      rw [hS] at HE
      go_enter Tryz.func51, Tryz.ntmps51
      go_wp2_with fail
      refine HE.out.mono ?_
      rintro _ w2 ⟨rfl, hx2⟩
      go_wp2_with fail
      go_ret
      exact ⟨rfl, hx2⟩
    rw [hS] at HS
    clear hS h1 g1 h2 g2 h3 g3 h4 g4 ih
    generalize (Ex.mk d ks).same (Ex.mk d' ks') = R at *
    unfold Nd.val
    simp only [Ex.d]
    obtain ⟨op, tb, nm, ix, vk, vi, vt⟩ := d
    obtain ⟨op', tb', nm', ix', vk', vi', vt'⟩ := d'
    simp only at *
    go_enter Tryz.func23, Tryz.ntmps23
    go_wp2_with (go_at_call 51; refine (HC.out _ (((Ext.refl w).alloc _).alloc _)).mono ?_; rintro _ w2 ⟨rfl, hx2⟩)
    all_goals
      go_ret
      refine ⟨ret_bool (by rw [HS.out]; simp [*]), ?_⟩
      first | exact (((Ext.refl w).alloc _).alloc _).trans hx2 | exact ((Ext.refl w).alloc _).alloc _
theorem absent_any (e : Ex) (A : Option Addr) (n c : Nat) (w : World) (hv : ExV w e A n c) :
    Calls Tryz.prog 72 #[e.d.val A n c] w fun r w' => r = .returned (.bool e.absent) ∧ Ext w w' := by
  have HC : Hid (∀ W, Ext w W → Calls Tryz.prog 23 #[e.d.val A n c, exZ.d.val none 0 0] W fun r w' => r = .returned (.bool e.absent) ∧ Ext W w') := by
    intro W hW
    rw [← same_absent]
    exact equal_any e exZ A none n 0 c 0 W (hv.ext hW) ⟨rfl, by omega, ⟨⟨by decide, by decide⟩, ⟨by decide, by decide⟩, ⟨by decide, by decide⟩, ⟨by decide, by decide⟩, by decide, by decide, by decide⟩, trivial⟩
  clear hv
  unfold Nd.val at *
  generalize e.absent = R at *
  generalize e.d = d at *
  obtain ⟨op, tb, nm, ix, vk, vi, vt⟩ := d
  simp only at *
  go_enter Tryz.func72, Tryz.ntmps72
  go_wp2_with (go_at_call 23; refine (HC.out _ ((Ext.refl w).alloc _)).mono ?_; rintro _ w2 ⟨rfl, hx2⟩)
  go_ret
  exact ⟨rfl, ((Ext.refl w).alloc _).trans hx2⟩

theorem rsames_ex (l m : List Ex) (A B : Option Addr) (n p c c' : Nat) (w : World) (hl : l.length = n) (hm : m.length = p) (hn : n ≤ 9223372036854775807) (hp : p ≤ 9223372036854775807) (hk : KidsAt w A l) (hk2 : KidsAt w B m)
    (hF : ∀ x ∈ l, ∀ (y : Ex) (A1 A2 : Option Addr) (n1 n2 c1 c2 : Nat) (W : World), ExV W x A1 n1 c1 → ExV W y A2 n2 c2 → Calls Tryz.prog 24 #[x.d.val A1 n1 c1, y.d.val A2 n2 c2] W fun r W' => r = .returned (.bool (x.same y)) ∧ Ext W W') :
    Calls Tryz.prog 52 #[.slice A n c, .slice B p c'] w fun r w' => r = .returned (.bool (sameL l m)) ∧ Ext w w' := by
  have HL := hid hl
  have HM := hid hm
  have HK := hid hk
  have HK2 := hid hk2
  have HF := hid hF
  clear hl hm hk hk2 hF
  by_cases hnp : n = p
  · subst hnp
    have bN : ((n : Int) != (n : Int)) = false := by simp
    go_enter Tryz.func52, Tryz.ntmps52
    go_wp2_with fail
    go_loopw [5] (fun iv wr => ∃ (k : Nat), k ≤ n ∧ iv = .int .i64 k ∧ SameTo l m k ∧ Ext w wr) (fun i _ => n - (intOf i).toNat)
    case atStart => exact ⟨0, Nat.zero_le _, rfl, SameTo.zero l m, Ext.refl w⟩
    case round =>
      obtain ⟨k, hkn, rfl, hr, hxr⟩ := hrel
      have HXr := hid hxr
      have HRr := hid hr
      by_cases hlt : k < n
      · obtain ⟨x, hx⟩ := at_lt HL.out hlt
        obtain ⟨y, hy⟩ := at_lt HM.out hlt
        obtain ⟨b, off, A', n', c', rfl, q0, q1, q2, q3, q4, q5, q6, q7, hv⟩ := (HK.out.ext hxr).get hx
        obtain ⟨b2, off2, A2, n2, c2, rfl, s0, s1, s2, s3, s4, s5, s6, s7, hv2⟩ := (HK2.out.ext hxr).get hy
        have HV := hid hv
        have HV2 := hid hv2
        have i0 : (0 : Int) ≤ (k : Int) := by omega
        have i1 : (k : Int) < (n : Int) := by omega
        have HC : Hid (∀ z : Later wr, Calls Tryz.prog 24 #[x.d.val A' n' c', y.d.val A2 n2 c2] z.now fun r W' => r = .returned (.bool (x.same y)) ∧ Ext z.now W') :=
          fun z => HF.out x (mem_at hx) y A' A2 n' n2 c' c2 z.now (hv.ext z.ext) (hv2.ext z.ext)
        have HE := hid hx
        have HE2 := hid hy
        obtain ⟨sb, hsb⟩ : ∃ sb, x.same y = sb := ⟨_, rfl⟩
        have HSB := hid hsb
        rw [hsb] at HC
        replace q0 := Later.keep q0
        replace q1 := Later.keep q1
        replace q2 := Later.keep q2
        replace q3 := Later.keep q3
        replace q4 := Later.keep q4
        replace q5 := Later.keep q5
        replace q6 := Later.keep q6
        replace q7 := Later.keep q7
        replace s0 := Later.keep s0
        replace s1 := Later.keep s1
        replace s2 := Later.keep s2
        replace s3 := Later.keep s3
        replace s4 := Later.keep s4
        replace s5 := Later.keep s5
        replace s6 := Later.keep s6
        replace s7 := Later.keep s7
        clear hx hy hv hv2 hxr hr hsb
        cases sb
        · have HP : Hid (sameL l m = false) := same_no HE.out HE2.out HSB.out
          go_wp2_with fail
          refine wp_region_later (by kernel_rfl) (by kernel_rfl) ?_
          repeat (go_big_quiet_step ((go_at_call 24; exact later_of (HC.out _))))
          refine wpQuiet_nil ?_
          intro w2 hw2
          have hx2 := later_out hw2
          clear hw2 q0 q1 q2 q3 q4 q5 q6 q7 s0 s1 s2 s3 s4 s5 s6 s7
          go_wp2_with fail
          go_ret
          exact ⟨ret_bool HP.out.symm, HXr.out.trans hx2⟩
        · have HP := hid (HRr.out.step HE.out HE2.out HSB.out)
          go_wp2_with fail
          refine wp_region_later (by kernel_rfl) (by kernel_rfl) ?_
          repeat (go_big_quiet_step ((go_at_call 24; exact later_of (HC.out _))))
          refine wpQuiet_nil ?_
          intro w2 hw2
          have hx2 := later_out hw2
          clear hw2 q0 q1 q2 q3 q4 q5 q6 q7 s0 s1 s2 s3 s4 s5 s6 s7
          go_wp2_with fail
          go_roundw
          case rel => exact ⟨k + 1, by omega, by go_num, HP.out, HXr.out.trans hx2⟩
          case measure => simp [intOf]; omega
      · obtain rfl : k = n := by omega
        have HP := hid (HRr.out.done HL.out HM.out)
        clear hr
        go_wp2_with fail
        go_ret
        exact ⟨ret_bool HP.out.symm, HXr.out⟩
  · have bN : ((n : Int) != (p : Int)) = true := by simp; omega
    have HP : Hid (sameL l m = false) := same_len (by rw [HL.out, HM.out]; exact hnp)
    clear hnp
    go_enter Tryz.func52, Tryz.ntmps52
    go_wp2_with fail
    go_ret
    exact ⟨ret_bool HP.out.symm, Ext.refl w⟩
theorem rsame_any : ∀ (a : Ex) (b : Ex) (A B : Option Addr) (n p c c' : Nat) (w : World), ExV w a A n c → ExV w b B p c' →
    Calls Tryz.prog 24 #[a.d.val A n c, b.d.val B p c'] w fun r w' => r = .returned (.bool (a.same b)) ∧ Ext w w' := by
  intro a
  induction a using Ex.ind with
  | h d ks ih =>
    intro b A B n p c c' w hv hv2
    obtain ⟨d', ks'⟩ := b
    obtain ⟨h1, h2, h3, h4⟩ := hv
    obtain ⟨g1, g2, g3, g4⟩ := hv2
    have h4 : KidsAt w A ks := h4
    have g4 : KidsAt w B ks' := g4
    have HS := hid (same_walk d d' ks ks')
    obtain ⟨S, hS⟩ : ∃ S, sameL ks ks' = S := ⟨_, rfl⟩
    have HC : Hid (∀ W, Ext w W → Calls Tryz.prog 52 #[.slice A n c, .slice B p c'] W fun r w' => r = .returned (.bool S) ∧ Ext W w') := by
      intro W hW
      rw [← hS]
      exact rsames_ex ks ks' A B n p c c' W h1 g1 h2 g2 (h4.ext hW) (g4.ext hW) fun x hx y A1 A2 n1 n2 c1 c2 W2 hv1 hv2 => ih x hx y A1 A2 n1 n2 c1 c2 W2 hv1 hv2
    rw [hS] at HS
    clear hS h1 g1 h2 g2 h3 g3 h4 g4 ih
    generalize (Ex.mk d ks).same (Ex.mk d' ks') = R at *
    unfold Nd.val
    simp only [Ex.d]
    obtain ⟨op, tb, nm, ix, vk, vi, vt⟩ := d
    obtain ⟨op', tb', nm', ix', vk', vi', vt'⟩ := d'
    simp only at *
    go_enter Tryz.func24, Tryz.ntmps24
    go_wp2_with (go_at_call 52; refine (HC.out _ (((Ext.refl w).alloc _).alloc _)).mono ?_; rintro _ w2 ⟨rfl, hx2⟩)
    all_goals
      go_ret
      refine ⟨ret_bool (by rw [HS.out]; simp [*]), ?_⟩
      first | exact (((Ext.refl w).alloc _).alloc _).trans hx2 | exact ((Ext.refl w).alloc _).alloc _
end Go.Proofs.YtcdnodjcnofogaaGreatDoor
