/-
  Walks over history: IndexFunc and ContainsFunc. · Walks over history: row, reason, and the closures of valid. · Walks over history: slices.Equal. · Walks over history: EqualFunc, the closures of Equal, Equal.
-/
import Derived.Test.YtdjdhkbomhendaaGreatDoorGg
import Derived.Laws.StructEq
import Derived.Laws.EntriesVeiled
namespace Go.Proofs.YtdjdhkbomhendaaGreatDoor
open Go.RowKit
set_option linter.unusedVariables false
set_option linter.unusedSimpArgs false
set_option maxHeartbeats 4000000
set_option maxRecDepth 100000

theorem ix_v (F : FuncId) (hE : Ent F) (p : Val → Bool) (l : List Val) (A : Option Addr) (n c : Nat) (w : World) (hl : l.length = n) (hn : n ≤ 9223372036854775807) (hk : ValsAt w A l)
    (hF : ∀ x ∈ l, ∀ (W : World), Ext w W → Calls Tryz.prog F #[.agg #[.int .i64 x.k, .int .i64 x.n, .string x.t]] W fun r W' => r = .returned (.bool (p x)) ∧ Ext W W') :
    Calls Tryz.prog 109 #[.slice A n c, .func (Fn.func F) #[] #[]] w fun r w' => IdxOf (l.any p) r ∧ Ext w w' := by
  unfold Ent at hE
  have HL := hid hl
  have HK := hid hk
  have HF := hid hF
  clear hl hk hF
  go_enter Tryz.func109, Tryz.ntmps109
  go_wp2_with fail
  go_loopw [5, 8] (fun _ iv wr => ∃ (k : Nat), k ≤ n ∧ iv = .int .i64 k ∧ (l.take k).any p = false ∧ Ext w wr) (fun _ i _ => n - (intOf i).toNat)
  case atStart => exact ⟨0, Nat.zero_le _, rfl, rfl, Ext.refl w⟩
  case round =>
    obtain ⟨k, hkn, rfl, hr, hxr⟩ := hrel
    have HXr := hid hxr
    have HRr := hid hr
    by_cases hlt : k < n
    · obtain ⟨x, hx⟩ := rat_lt HL.out hlt
      obtain ⟨b, off, rfl, q0, q1, q2⟩ := (HK.out.ext hxr) k x hx
      have HC := hid (HF.out x (List.mem_of_getElem? hx) _ hxr)
      have HE := hid hx
      clear hx hxr hr
      cases hp : p x
      · rw [hp] at HC
        have HP : Hid ((l.take (k + 1)).any p = false) := any_step HE.out HRr.out hp
        clear hp
        go_wp2_with fail
        refine HC.out.mono ?_
        rintro _ w2 ⟨rfl, hx2⟩
        go_wp2_with fail
        go_roundw
        case rel => exact ⟨k + 1, by omega, by go_num, HP.out, HXr.out.trans hx2⟩
        case measure => simp [intOf]; omega
      · rw [hp] at HC
        have HP : Hid (l.any p = true) := any_take HE.out hp
        clear hp
        go_wp2_with fail
        refine HC.out.mono ?_
        rintro _ w2 ⟨rfl, hx2⟩
        go_wp2_with fail
        go_ret
        exact ⟨⟨k, ⟨by omega, by omega⟩, rfl, by rw [HP.out]; simp⟩, HXr.out.trans hx2⟩
    · obtain rfl : k = n := by omega
      have HP : Hid (l.any p = false) := any_end HL.out HRr.out
      clear hr
      go_wp2_with fail
      go_ret
      exact ⟨⟨-1, ⟨by omega, by omega⟩, rfl, by rw [HP.out]; rfl⟩, HXr.out⟩
theorem co_v (F : FuncId) (hE : Ent F) (p : Val → Bool) (l : List Val) (A : Option Addr) (n c : Nat) (w : World) (hl : l.length = n) (hn : n ≤ 9223372036854775807) (hk : ValsAt w A l)
    (hF : ∀ x ∈ l, ∀ (W : World), Ext w W → Calls Tryz.prog F #[.agg #[.int .i64 x.k, .int .i64 x.n, .string x.t]] W fun r W' => r = .returned (.bool (p x)) ∧ Ext W W') :
    Calls Tryz.prog 89 #[.slice A n c, .func (Fn.func F) #[] #[]] w fun r w' => r = .returned (.bool (l.any p)) ∧ Ext w w' := by
  have HC := hid (ix_v F hE p l A n c w hl hn hk hF)
  clear hl hk hF
  go_enter Tryz.func89, Tryz.ntmps89
  go_wp2_with (go_at_call 109; refine HC.out.mono ?_; rintro _ w2 ⟨⟨x, hx, rfl, hx0⟩, hx2⟩; have HX0 := hid hx0; clear hx0)
  go_ret
  exact ⟨ret_bool HX0.out, hx2⟩
theorem ix_w (F : FuncId) (hE : Ent F) (p : Wt → Bool) (l : List Wt) (A : Option Addr) (n c : Nat) (w : World) (hl : l.length = n) (hn : n ≤ 9223372036854775807) (hk : WtsAt w A l)
    (hF : ∀ x ∈ l, ∀ (W : World), Ext w W → ∀ (v : Value), RowAt W v x.row → Calls Tryz.prog F #[.agg #[.int .i64 x.tx, .int .i64 x.tb, v]] W fun r W' => r = .returned (.bool (p x)) ∧ Ext W W') :
    Calls Tryz.prog 87 #[.slice A n c, .func (Fn.func F) #[] #[]] w fun r w' => IdxOf (l.any p) r ∧ Ext w w' := by
  unfold Ent at hE
  have HL := hid hl
  have HK := hid hk
  have HF := hid hF
  clear hl hk hF
  go_enter Tryz.func87, Tryz.ntmps87
  go_wp2_with fail
  go_loopw [5, 8] (fun _ iv wr => ∃ (k : Nat), k ≤ n ∧ iv = .int .i64 k ∧ (l.take k).any p = false ∧ Ext w wr) (fun _ i _ => n - (intOf i).toNat)
  case atStart => exact ⟨0, Nat.zero_le _, rfl, rfl, Ext.refl w⟩
  case round =>
    obtain ⟨k, hkn, rfl, hr, hxr⟩ := hrel
    have HXr := hid hxr
    have HRr := hid hr
    by_cases hlt : k < n
    · obtain ⟨x, hx⟩ := rat_lt HL.out hlt
      obtain ⟨b, off, v, rfl, q0, q1, q2, q3⟩ := (HK.out.ext hxr) k x hx
      have HC := hid (HF.out x (List.mem_of_getElem? hx) _ hxr v q3)
      have HE := hid hx
      clear hx hxr hr
      cases hp : p x
      · rw [hp] at HC
        have HP : Hid ((l.take (k + 1)).any p = false) := any_step HE.out HRr.out hp
        clear hp
        go_wp2_with fail
        refine HC.out.mono ?_
        rintro _ w2 ⟨rfl, hx2⟩
        go_wp2_with fail
        go_roundw
        case rel => exact ⟨k + 1, by omega, by go_num, HP.out, HXr.out.trans hx2⟩
        case measure => simp [intOf]; omega
      · rw [hp] at HC
        have HP : Hid (l.any p = true) := any_take HE.out hp
        clear hp
        go_wp2_with fail
        refine HC.out.mono ?_
        rintro _ w2 ⟨rfl, hx2⟩
        go_wp2_with fail
        go_ret
        exact ⟨⟨k, ⟨by omega, by omega⟩, rfl, by rw [HP.out]; simp⟩, HXr.out.trans hx2⟩
    · obtain rfl : k = n := by omega
      have HP : Hid (l.any p = false) := any_end HL.out HRr.out
      clear hr
      go_wp2_with fail
      go_ret
      exact ⟨⟨-1, ⟨by omega, by omega⟩, rfl, by rw [HP.out]; rfl⟩, HXr.out⟩
theorem co_w (F : FuncId) (hE : Ent F) (p : Wt → Bool) (l : List Wt) (A : Option Addr) (n c : Nat) (w : World) (hl : l.length = n) (hn : n ≤ 9223372036854775807) (hk : WtsAt w A l)
    (hF : ∀ x ∈ l, ∀ (W : World), Ext w W → ∀ (v : Value), RowAt W v x.row → Calls Tryz.prog F #[.agg #[.int .i64 x.tx, .int .i64 x.tb, v]] W fun r W' => r = .returned (.bool (p x)) ∧ Ext W W') :
    Calls Tryz.prog 56 #[.slice A n c, .func (Fn.func F) #[] #[]] w fun r w' => r = .returned (.bool (l.any p)) ∧ Ext w w' := by
  have HC := hid (ix_w F hE p l A n c w hl hn hk hF)
  clear hl hk hF
  go_enter Tryz.func56, Tryz.ntmps56
  go_wp2_with (go_at_call 87; refine HC.out.mono ?_; rintro _ w2 ⟨⟨x, hx, rfl, hx0⟩, hx2⟩; have HX0 := hid hx0; clear hx0)
  go_ret
  exact ⟨ret_bool HX0.out, hx2⟩
theorem ix_r (F : FuncId) (hE : Ent F) (p : (List Val) → Bool) (l : List (List Val)) (A : Option Addr) (n c : Nat) (w : World) (hl : l.length = n) (hn : n ≤ 9223372036854775807) (hk : RowsAt w A l)
    (hF : ∀ x ∈ l, ∀ (W : World), Ext w W → ∀ (v : Value), RowAt W v x → Calls Tryz.prog F #[v] W fun r W' => r = .returned (.bool (p x)) ∧ Ext W W') :
    Calls Tryz.prog 88 #[.slice A n c, .func (Fn.func F) #[] #[]] w fun r w' => IdxOf (l.any p) r ∧ Ext w w' := by
  unfold Ent at hE
  have HL := hid hl
  have HK := hid hk
  have HF := hid hF
  clear hl hk hF
  go_enter Tryz.func88, Tryz.ntmps88
  go_wp2_with fail
  go_loopw [5, 8] (fun _ iv wr => ∃ (k : Nat), k ≤ n ∧ iv = .int .i64 k ∧ (l.take k).any p = false ∧ Ext w wr) (fun _ i _ => n - (intOf i).toNat)
  case atStart => exact ⟨0, Nat.zero_le _, rfl, rfl, Ext.refl w⟩
  case round =>
    obtain ⟨k, hkn, rfl, hr, hxr⟩ := hrel
    have HXr := hid hxr
    have HRr := hid hr
    by_cases hlt : k < n
    · obtain ⟨x, hx⟩ := rat_lt HL.out hlt
      obtain ⟨b, off, v, rfl, q0, q1⟩ := (HK.out.ext hxr) k x hx
      have HC := hid (HF.out x (List.mem_of_getElem? hx) _ hxr v q1)
      have HE := hid hx
      clear hx hxr hr
      cases hp : p x
      · rw [hp] at HC
        have HP : Hid ((l.take (k + 1)).any p = false) := any_step HE.out HRr.out hp
        clear hp
        go_wp2_with fail
        refine HC.out.mono ?_
        rintro _ w2 ⟨rfl, hx2⟩
        go_wp2_with fail
        go_roundw
        case rel => exact ⟨k + 1, by omega, by go_num, HP.out, HXr.out.trans hx2⟩
        case measure => simp [intOf]; omega
      · rw [hp] at HC
        have HP : Hid (l.any p = true) := any_take HE.out hp
        clear hp
        go_wp2_with fail
        refine HC.out.mono ?_
        rintro _ w2 ⟨rfl, hx2⟩
        go_wp2_with fail
        go_ret
        exact ⟨⟨k, ⟨by omega, by omega⟩, rfl, by rw [HP.out]; simp⟩, HXr.out.trans hx2⟩
    · obtain rfl : k = n := by omega
      have HP : Hid (l.any p = false) := any_end HL.out HRr.out
      clear hr
      go_wp2_with fail
      go_ret
      exact ⟨⟨-1, ⟨by omega, by omega⟩, rfl, by rw [HP.out]; rfl⟩, HXr.out⟩
theorem co_r (F : FuncId) (hE : Ent F) (p : (List Val) → Bool) (l : List (List Val)) (A : Option Addr) (n c : Nat) (w : World) (hl : l.length = n) (hn : n ≤ 9223372036854775807) (hk : RowsAt w A l)
    (hF : ∀ x ∈ l, ∀ (W : World), Ext w W → ∀ (v : Value), RowAt W v x → Calls Tryz.prog F #[v] W fun r W' => r = .returned (.bool (p x)) ∧ Ext W W') :
    Calls Tryz.prog 59 #[.slice A n c, .func (Fn.func F) #[] #[]] w fun r w' => r = .returned (.bool (l.any p)) ∧ Ext w w' := by
  have HC := hid (ix_r F hE p l A n c w hl hn hk hF)
  clear hl hk hF
  go_enter Tryz.func59, Tryz.ntmps59
  go_wp2_with (go_at_call 88; refine HC.out.mono ?_; rintro _ w2 ⟨⟨x, hx, rfl, hx0⟩, hx2⟩; have HX0 := hid hx0; clear hx0)
  go_ret
  exact ⟨ret_bool HX0.out, hx2⟩
end Go.Proofs.YtdjdhkbomhendaaGreatDoor
namespace Go.Proofs.YtdjdhkbomhendaaGreatDoor
set_option linter.unusedVariables false
set_option linter.unusedSimpArgs false
open Go.RowKit
set_option maxHeartbeats 1000000
set_option maxRecDepth 100000

theorem row1_any (k n : Int) (t : ByteArray) (w : World) (hs : t.size ≤ 9223372036854775807) :
    Calls Tryz.prog 90 #[.agg #[.int .i64 k, .int .i64 n, .string t]] w fun e w' => e = .returned (.bool (!validV ⟨k, n, t⟩)) ∧ Ext w w' := by
  have HC := hid (fun W => valid_any k n t W hs)
  generalize validV ⟨k, n, t⟩ = V at *
  go_enter Tryz.func90, Tryz.ntmps90
  go_wp2_with fail
  refine (HC.out _).mono ?_
  rintro _ w2 ⟨rfl, hx2⟩
  go_wp2_with fail
  go_ret
  exact ⟨rfl, ((Ext.refl w).alloc _).trans hx2⟩
theorem ent_row1 : Ent 90 := fun _ _ => by kernel_rfl
theorem row_any (v : Value) (l : List Val) (w : World) (hv : RowAt w v l) (hn : l.length ≤ 9223372036854775807) (hs : ∀ a ∈ l, a.t.size ≤ 4000000) :
    Calls Tryz.prog 61 #[v] w fun e w' => e = .returned (.bool (rowV l)) ∧ Ext w w' := by
  obtain ⟨A, c, rfl, hv⟩ := hv
  have HC := hid (co_v 90 ent_row1 (fun a => !validV a) l A l.length c w rfl hn hv fun x hx W hW => row1_any x.k x.n x.t W (by have := hs x hx; omega))
  rw [show rowV l = !(l.any fun a => !validV a) from (any_not validV l).symm]
  generalize (l.any fun a => !validV a) = V at *
  clear hv hs
  generalize l.length = n at *
  go_enter Tryz.func61, Tryz.ntmps61
  go_wp2_with fail
  refine HC.out.mono ?_
  rintro _ w2 ⟨rfl, hx2⟩
  go_wp2_with fail
  go_ret
  exact ⟨rfl, hx2⟩
theorem reason_any (x : Wt) (v : Value) (w : World) (hv : RowAt w v x.row) (hn : x.row.length ≤ 9223372036854775807) (hs : ∀ a ∈ x.row, a.t.size ≤ 4000000) :
    Calls Tryz.prog 58 #[.agg #[.int .i64 x.tx, .int .i64 x.tb, v]] w fun e w' => e = .returned (.bool x.ok) ∧ Ext w w' := by
  have HC := hid (fun W (hW : Ext w W) => row_any v x.row W (hv.ext hW) hn hs)
  obtain ⟨A, c, rfl, hv⟩ := hv
  have HO : Hid (x.ok = (decide (1 ≤ x.tx) && decide (0 ≤ x.tb) && decide (x.tb < 8) && decide (0 < x.row.length) && rowV x.row)) := rfl
  rw [HO.out]
  clear hv hs HO
  generalize rowV x.row = V at *
  generalize x.row.length = n at *
  obtain ⟨tx, tb, row⟩ := x
  simp only at *
  by_cases h1 : 1 ≤ tx
  · by_cases h2 : 0 ≤ tb
    · by_cases h3 : tb < 8
      · by_cases h4 : 0 < n
        · go_enter Tryz.func58, Tryz.ntmps58
          go_wp2_with fail
          refine (HC.out _ ((Ext.refl w).alloc _)).mono ?_
          rintro _ w2 ⟨rfl, hx2⟩
          go_wp2_with fail
          go_ret
          exact ⟨ret_bool (by simp [h1, h2, h3, h4]), ((Ext.refl w).alloc _).trans hx2⟩
        · go_enter Tryz.func58, Tryz.ntmps58
          go_wp2_with fail
          go_ret
          exact ⟨ret_bool (by simp [h4]), (Ext.refl w).alloc _⟩
      · go_enter Tryz.func58, Tryz.ntmps58
        go_wp2_with fail
        go_ret
        exact ⟨ret_bool (by rw [show decide _ = false from decide_eq_false (Int.not_lt.2 h3)]; simp), (Ext.refl w).alloc _⟩
    · go_enter Tryz.func58, Tryz.ntmps58
      go_wp2_with fail
      go_ret
      exact ⟨ret_bool (by rw [show decide _ = false from decide_eq_false (Int.not_le.2 h2)]; simp), (Ext.refl w).alloc _⟩
  · go_enter Tryz.func58, Tryz.ntmps58
    go_wp2_with fail
    go_ret
    exact ⟨ret_bool (by rw [show decide _ = false from decide_eq_false (Int.not_le.2 h1)]; simp), (Ext.refl w).alloc _⟩
theorem valid1_any (x : Wt) (v : Value) (w : World) (hv : RowAt w v x.row) (hn : x.row.length ≤ 9223372036854775807) (hs : ∀ a ∈ x.row, a.t.size ≤ 4000000) :
    Calls Tryz.prog 57 #[.agg #[.int .i64 x.tx, .int .i64 x.tb, v]] w fun e w' => e = .returned (.bool (!x.ok)) ∧ Ext w w' := by
  have HC := hid (fun W (hW : Ext w W) => reason_any x v W (hv.ext hW) hn hs)
  obtain ⟨A, c, rfl, hv⟩ := hv
  generalize x.ok = V at *
  clear hv hs
  generalize x.row.length = n at *
  go_enter Tryz.func57, Tryz.ntmps57
  go_wp2_with fail
  refine (HC.out _ ((Ext.refl w).alloc _)).mono ?_
  rintro _ w2 ⟨rfl, hx2⟩
  go_wp2_with fail
  go_ret
  exact ⟨rfl, ((Ext.refl w).alloc _).trans hx2⟩
theorem ent_valid1 : Ent 57 := fun _ _ => by kernel_rfl
theorem valid2_any (v : Value) (l : List Val) (w : World) (hv : RowAt w v l) (hn : l.length ≤ 9223372036854775807) (hs : ∀ a ∈ l, a.t.size ≤ 4000000) :
    Calls Tryz.prog 60 #[v] w fun e w' => e = .returned (.bool (!rowV l)) ∧ Ext w w' := by
  have HC := hid (row_any v l w hv hn hs)
  obtain ⟨A, c, rfl, hv⟩ := hv
  generalize rowV l = V at *
  clear hv hs
  generalize l.length = n at *
  go_enter Tryz.func60, Tryz.ntmps60
  go_wp2_with fail
  refine HC.out.mono ?_
  rintro _ w2 ⟨rfl, hx2⟩
  go_wp2_with fail
  go_ret
  exact ⟨rfl, hx2⟩
theorem ent_valid2 : Ent 60 := fun _ _ => by kernel_rfl
end Go.Proofs.YtdjdhkbomhendaaGreatDoor
namespace Go.Proofs.YtdjdhkbomhendaaGreatDoor
open Go.RowKit
set_option linter.unusedVariables false
set_option linter.unusedSimpArgs false
set_option maxHeartbeats 4000000
set_option maxRecDepth 100000

theorem seq (s t : ByteArray) : (s.toList == t.toList) = decide (s = t) := by
  rw [ByteArray.toList_eq, ByteArray.toList_eq, Bool.eq_iff_iff, beq_iff_eq, decide_eq_true_eq]
  exact ⟨fun h => t_inj h, fun h => by rw [h]⟩
theorem eqV_b (x0 x1 y0 y1 : Int) (x2 y2 : ByteArray) : eqV ⟨x0, x1, x2⟩ ⟨y0, y1, y2⟩ = ((x0 == y0) && (x1 == y1) && (x2.toList == y2.toList)) := by
  rw [seq]
  rfl
theorem eq_val (l m : List Val) (A B : Option Addr) (n p c c' : Nat) (w : World) (hl : l.length = n) (hm : m.length = p) (hn : n ≤ 9223372036854775807) (hp : p ≤ 9223372036854775807) (hk : ValsAt w A l) (hk2 : ValsAt w B m) :
    Calls Tryz.prog 42 #[.slice A n c, .slice B p c'] w fun r w' => r = .returned (.bool (eqR l m)) ∧ Ext w w' := by
  have HL := hid hl
  have HM := hid hm
  have HK := hid hk
  have HK2 := hid hk2
  clear hl hm hk hk2
  by_cases hnp : n = p
  · subst hnp
    have bN : ((n : Int) != (n : Int)) = false := by simp
    go_enter Tryz.func42, Tryz.ntmps42
    go_wp2_with fail
    go_loopw [13] (fun iv wr => ∃ (k : Nat), k ≤ n ∧ iv = .int .i64 k ∧ STo eqV l m k ∧ Ext w wr) (fun i _ => n - (intOf i).toNat)
    case atStart => exact ⟨0, Nat.zero_le _, rfl, STo.zero _ l m, Ext.refl w⟩
    case round =>
      obtain ⟨k, hkn, rfl, hr, hxr⟩ := hrel
      have HXr := hid hxr
      have HRr := hid hr
      by_cases hlt : k < n
      · obtain ⟨x, hx⟩ := rat_lt HL.out hlt
        obtain ⟨y, hy⟩ := rat_lt HM.out hlt
        obtain ⟨b, off, rfl, q0, q1, q2⟩ := (HK.out.ext hxr) k x hx
        obtain ⟨b2, off2, rfl, s0, s1, s2⟩ := (HK2.out.ext hxr) k y hy
        have i0 : (0 : Int) ≤ (k : Int) := by omega
        have i1 : (k : Int) < (n : Int) := by omega
        have HE := hid hx
        have HE2 := hid hy
        replace q0 := Later.keep q0
        replace s0 := Later.keep s0
        replace q1 := Later.keep q1
        replace s1 := Later.keep s1
        replace q2 := Later.keep q2
        replace s2 := Later.keep s2
        clear hx hy hxr hr
        obtain ⟨x0, x1, x2⟩ := x
        obtain ⟨y0, y1, y2⟩ := y
        simp only at *
        obtain ⟨b0, hb0⟩ : ∃ b, (x0 == y0) = b := ⟨_, rfl⟩
        cases b0
        · have HF : Hid (eqV ⟨x0, x1, x2⟩ ⟨y0, y1, y2⟩ = false) := by unfold Hid; rw [eqV_b]; simp [hb0, -beq_eq_false_iff_ne]
          have HP : Hid (eqR l m = false) := eqL_take l m k _ _ HE.out HE2.out HF.out
          go_wp2_with fail
          refine wp_region_later (by kernel_rfl) (by kernel_rfl) ?_
          repeat (go_big_quiet_step (fail))
          refine wpQuiet_nil ?_
          intro w2 hw2
          have hx2 := later_out hw2
          clear hw2
          go_wp2_with fail
          go_ret
          exact ⟨ret_bool HP.out.symm, HXr.out.trans hx2⟩
        · obtain ⟨b1, hb1⟩ : ∃ b, (x1 == y1) = b := ⟨_, rfl⟩
          cases b1
          · have HF : Hid (eqV ⟨x0, x1, x2⟩ ⟨y0, y1, y2⟩ = false) := by unfold Hid; rw [eqV_b]; simp [hb0, hb1, -beq_eq_false_iff_ne]
            have HP : Hid (eqR l m = false) := eqL_take l m k _ _ HE.out HE2.out HF.out
            go_wp2_with fail
            refine wp_region_later (by kernel_rfl) (by kernel_rfl) ?_
            repeat (go_big_quiet_step (fail))
            refine wpQuiet_nil ?_
            intro w2 hw2
            have hx2 := later_out hw2
            clear hw2
            go_wp2_with fail
            go_ret
            exact ⟨ret_bool HP.out.symm, HXr.out.trans hx2⟩
          · obtain ⟨b2, hb2⟩ : ∃ b, (x2.toList == y2.toList) = b := ⟨_, rfl⟩
            cases b2
            · have HF : Hid (eqV ⟨x0, x1, x2⟩ ⟨y0, y1, y2⟩ = false) := by unfold Hid; rw [eqV_b]; simp [hb0, hb1, hb2, -beq_eq_false_iff_ne]
              have HP : Hid (eqR l m = false) := eqL_take l m k _ _ HE.out HE2.out HF.out
              go_wp2_with fail
              refine wp_region_later (by kernel_rfl) (by kernel_rfl) ?_
              repeat (go_big_quiet_step (fail))
              refine wpQuiet_nil ?_
              intro w2 hw2
              have hx2 := later_out hw2
              clear hw2
              go_wp2_with fail
              go_ret
              exact ⟨ret_bool HP.out.symm, HXr.out.trans hx2⟩
            · have HF : Hid (eqV ⟨x0, x1, x2⟩ ⟨y0, y1, y2⟩ = true) := by unfold Hid; rw [eqV_b, hb0, hb1, hb2]; rfl
              go_wp2_with fail
              refine wp_region_later (by kernel_rfl) (by kernel_rfl) ?_
              repeat (go_big_quiet_step (fail))
              refine wpQuiet_nil ?_
              intro w2 hw2
              have hx2 := later_out hw2
              clear hw2
              go_wp2_with fail
              go_roundw
              case rel => exact ⟨k + 1, by omega, by go_num, HRr.out.succ HE.out HE2.out HF.out, HXr.out.trans hx2⟩
              case measure => simp [intOf]; omega
      · obtain rfl : k = n := by omega
        have HP : Hid (eqR l m = true) := eqL_yes HL.out HM.out HRr.out
        go_wp2_with fail
        go_ret
        exact ⟨ret_bool HP.out.symm, HXr.out⟩
  · have bN : ((n : Int) != (p : Int)) = true := by simp; omega
    have HP : Hid (eqR l m = false) := eqL_len l m (by rw [HL.out, HM.out]; exact hnp)
    go_enter Tryz.func42, Tryz.ntmps42
    go_wp2_with fail
    go_ret
    exact ⟨ret_bool HP.out.symm, Ext.refl w⟩
end Go.Proofs.YtdjdhkbomhendaaGreatDoor
namespace Go.Proofs.YtdjdhkbomhendaaGreatDoor
open Go.RowKit
set_option linter.unusedVariables false
set_option linter.unusedSimpArgs false
set_option maxHeartbeats 4000000
set_option maxRecDepth 100000

theorem cl1_any (v1 v2 : Value) (l m : List Val) (w : World) (h1 : RowAt w v1 l) (h2 : RowAt w v2 m) (hl : l.length ≤ 9223372036854775807) (hm : m.length ≤ 9223372036854775807) :
    Calls Tryz.prog 41 #[v1, v2] w fun r w' => r = .returned (.bool (eqR l m)) ∧ Ext w w' := by
  obtain ⟨A, c, rfl, h1⟩ := h1
  obtain ⟨B, d, rfl, h2⟩ := h2
  have HC := hid (eq_val l m A B l.length m.length c d w rfl rfl hl hm h1 h2)
  clear h1 h2
  generalize eqR l m = V at *
  generalize l.length = n at *
  generalize m.length = p at *
  go_enter Tryz.func41, Tryz.ntmps41
  go_wp2_with fail
  refine HC.out.mono ?_
  rintro _ w2 ⟨rfl, hx2⟩
  go_wp2_with fail
  go_ret
  exact ⟨rfl, hx2⟩
theorem cl2_any (x y : Wt) (v1 v2 : Value) (w : World) (h1 : RowAt w v1 x.row) (h2 : RowAt w v2 y.row) (hl : x.row.length ≤ 9223372036854775807) (hm : y.row.length ≤ 9223372036854775807) :
    Calls Tryz.prog 43 #[.agg #[.int .i64 x.tx, .int .i64 x.tb, v1], .agg #[.int .i64 y.tx, .int .i64 y.tb, v2]] w fun r w' => r = .returned (.bool (eqW x y)) ∧ Ext w w' := by
  obtain ⟨A, c, rfl, h1⟩ := h1
  obtain ⟨B, d, rfl, h2⟩ := h2
  have HC := hid (fun W (hW : Ext w W) => eq_val x.row y.row A B x.row.length y.row.length c d W rfl rfl hl hm (h1.ext hW) (h2.ext hW))
  have HO : Hid (eqW x y = (decide (x.tx = y.tx) && decide (x.tb = y.tb) && eqR x.row y.row)) := rfl
  rw [HO.out]
  clear h1 h2 HO
  generalize eqR x.row y.row = V at *
  generalize x.row.length = n at *
  generalize y.row.length = p at *
  obtain ⟨tx, tb, row⟩ := x
  obtain ⟨tx2, tb2, row2⟩ := y
  simp only at *
  by_cases e1 : tx = tx2
  · subst e1
    by_cases e2 : tb = tb2
    · subst e2
      go_enter Tryz.func43, Tryz.ntmps43
      go_wp2_with fail
      refine (HC.out _ (((Ext.refl w).alloc _).alloc _)).mono ?_
      rintro _ w2 ⟨rfl, hx2⟩
      go_wp2_with fail
      go_ret
      exact ⟨ret_bool (by simp), (((Ext.refl w).alloc _).alloc _).trans hx2⟩
    · have b2 : (tb == tb2) = false := by simpa using e2
      go_enter Tryz.func43, Tryz.ntmps43
      go_wp2_with fail
      go_ret
      exact ⟨ret_bool (by simp [e2]), ((Ext.refl w).alloc _).alloc _⟩
  · have b1 : (tx == tx2) = false := by simpa using e1
    go_enter Tryz.func43, Tryz.ntmps43
    go_wp2_with fail
    go_ret
    exact ⟨ret_bool (by simp [e1]), ((Ext.refl w).alloc _).alloc _⟩
theorem ef_rows (l m : List (List Val)) (A B : Option Addr) (n p c c' : Nat) (w : World) (hl : l.length = n) (hm : m.length = p) (hn : n ≤ 9223372036854775807) (hp : p ≤ 9223372036854775807) (hk : RowsAt w A l) (hk2 : RowsAt w B m)
    (hs1 : ∀ r ∈ l, r.length ≤ 9223372036854775807) (hs2 : ∀ r ∈ m, r.length ≤ 9223372036854775807) :
    Calls Tryz.prog 46 #[.slice A n c, .slice B p c', .func (Fn.func 41) #[] #[]] w fun r w' => r = .returned (.bool (eqL eqR l m)) ∧ Ext w w' := by
  have HL := hid hl
  have HM := hid hm
  have HK := hid hk
  have HK2 := hid hk2
  have HS1 := hid hs1
  have HS2 := hid hs2
  clear hl hm hk hk2 hs1 hs2
  by_cases hnp : n = p
  · subst hnp
    have bN : ((n : Int) != (n : Int)) = false := by simp
    go_enter Tryz.func46, Tryz.ntmps46
    go_wp2_with fail
    go_loopw [17] (fun iv wr => ∃ (k : Nat), k ≤ n ∧ iv = .int .i64 k ∧ STo eqR l m k ∧ Ext w wr) (fun i _ => n - (intOf i).toNat)
    case atStart => exact ⟨0, Nat.zero_le _, rfl, STo.zero _ l m, Ext.refl w⟩
    case round =>
      obtain ⟨k, hkn, rfl, hr, hxr⟩ := hrel
      have HXr := hid hxr
      have HRr := hid hr
      by_cases hlt : k < n
      · obtain ⟨x, hx⟩ := rat_lt HL.out hlt
        obtain ⟨y, hy⟩ := rat_lt HM.out hlt
        obtain ⟨b, off, v, rfl, q0, q1⟩ := (HK.out.ext hxr) k x hx
        obtain ⟨b2, off2, v2, rfl, s0, s1⟩ := (HK2.out.ext hxr) k y hy
        have HC := hid (fun W (hW : Ext wr W) => cl1_any v v2 x y W (q1.ext hW) (s1.ext hW) (HS1.out x (List.mem_of_getElem? hx)) (HS2.out y (List.mem_of_getElem? hy)))
        have HE := hid hx
        have HE2 := hid hy
        clear hx hy hxr hr q1 s1
        cases hpq : eqR x y
        · rw [hpq] at HC
          have HP : Hid (eqL eqR l m = false) := eqL_take l m k _ _ HE.out HE2.out hpq
          clear hpq
          go_wp2_with fail
          refine (HC.out _ (Ext.refl wr)).mono ?_
          rintro _ w2 ⟨rfl, hx2⟩
          go_wp2_with fail
          go_ret
          exact ⟨ret_bool HP.out.symm, (HXr.out.trans (Ext.refl wr)).trans hx2⟩
        · rw [hpq] at HC
          have HP := hid (HRr.out.succ HE.out HE2.out hpq)
          clear hpq
          go_wp2_with fail
          refine (HC.out _ (Ext.refl wr)).mono ?_
          rintro _ w2 ⟨rfl, hx2⟩
          go_wp2_with fail
          go_roundw
          case rel => exact ⟨k + 1, by omega, by go_num, HP.out, (HXr.out.trans (Ext.refl wr)).trans hx2⟩
          case measure => simp [intOf]; omega
      · obtain rfl : k = n := by omega
        have HP : Hid (eqL eqR l m = true) := eqL_yes HL.out HM.out HRr.out
        go_wp2_with fail
        go_ret
        exact ⟨ret_bool HP.out.symm, HXr.out⟩
  · have bN : ((n : Int) != (p : Int)) = true := by simp; omega
    have HP : Hid (eqL eqR l m = false) := eqL_len l m (by rw [HL.out, HM.out]; exact hnp)
    go_enter Tryz.func46, Tryz.ntmps46
    go_wp2_with fail
    go_ret
    exact ⟨ret_bool HP.out.symm, Ext.refl w⟩
theorem ef_wts (l m : List Wt) (A B : Option Addr) (n p c c' : Nat) (w : World) (hl : l.length = n) (hm : m.length = p) (hn : n ≤ 9223372036854775807) (hp : p ≤ 9223372036854775807) (hk : WtsAt w A l) (hk2 : WtsAt w B m)
    (hs1 : ∀ r ∈ l, r.row.length ≤ 9223372036854775807) (hs2 : ∀ r ∈ m, r.row.length ≤ 9223372036854775807) :
    Calls Tryz.prog 47 #[.slice A n c, .slice B p c', .func (Fn.func 43) #[] #[]] w fun r w' => r = .returned (.bool (eqL eqW l m)) ∧ Ext w w' := by
  have HL := hid hl
  have HM := hid hm
  have HK := hid hk
  have HK2 := hid hk2
  have HS1 := hid hs1
  have HS2 := hid hs2
  clear hl hm hk hk2 hs1 hs2
  by_cases hnp : n = p
  · subst hnp
    have bN : ((n : Int) != (n : Int)) = false := by simp
    go_enter Tryz.func47, Tryz.ntmps47
    go_wp2_with fail
    go_loopw [17] (fun iv wr => ∃ (k : Nat), k ≤ n ∧ iv = .int .i64 k ∧ STo eqW l m k ∧ Ext w wr) (fun i _ => n - (intOf i).toNat)
    case atStart => exact ⟨0, Nat.zero_le _, rfl, STo.zero _ l m, Ext.refl w⟩
    case round =>
      obtain ⟨k, hkn, rfl, hr, hxr⟩ := hrel
      have HXr := hid hxr
      have HRr := hid hr
      by_cases hlt : k < n
      · obtain ⟨x, hx⟩ := rat_lt HL.out hlt
        obtain ⟨y, hy⟩ := rat_lt HM.out hlt
        obtain ⟨b, off, v, rfl, q0, q1, q2, q3⟩ := (HK.out.ext hxr) k x hx
        obtain ⟨b2, off2, v2, rfl, s0, s1, s2, s3⟩ := (HK2.out.ext hxr) k y hy
        obtain ⟨Ax, cx, hvx, _⟩ := id q3
        subst hvx
        obtain ⟨Ay, cy, hvy, _⟩ := id s3
        subst hvy
        have p0 := fun o => ((Ext.refl wr).alloc o).keep s0
        have p1 := fun o => ((Ext.refl wr).alloc o).keep s1
        have p2 := fun o => ((Ext.refl wr).alloc o).keep s2
        have HC := hid (fun W (hW : Ext wr W) => cl2_any x y _ _ W (q3.ext hW) (s3.ext hW) (HS1.out x (List.mem_of_getElem? hx)) (HS2.out y (List.mem_of_getElem? hy)))
        have HE := hid hx
        have HE2 := hid hy
        clear hx hy hxr hr q3 s3 s0 s1 s2
        cases hpq : eqW x y
        · rw [hpq] at HC
          have HP : Hid (eqL eqW l m = false) := eqL_take l m k _ _ HE.out HE2.out hpq
          clear hpq
          go_wp2_with fail
          refine (HC.out _ (((Ext.refl wr).alloc _).alloc _)).mono ?_
          rintro _ w2 ⟨rfl, hx2⟩
          go_wp2_with fail
          go_ret
          exact ⟨ret_bool HP.out.symm, (HXr.out.trans (((Ext.refl wr).alloc _).alloc _)).trans hx2⟩
        · rw [hpq] at HC
          have HP := hid (HRr.out.succ HE.out HE2.out hpq)
          clear hpq
          go_wp2_with fail
          refine (HC.out _ (((Ext.refl wr).alloc _).alloc _)).mono ?_
          rintro _ w2 ⟨rfl, hx2⟩
          go_wp2_with fail
          go_roundw
          case rel => exact ⟨k + 1, by omega, by go_num, HP.out, (HXr.out.trans (((Ext.refl wr).alloc _).alloc _)).trans hx2⟩
          case measure => simp [intOf]; omega
      · obtain rfl : k = n := by omega
        have HP : Hid (eqL eqW l m = true) := eqL_yes HL.out HM.out HRr.out
        go_wp2_with fail
        go_ret
        exact ⟨ret_bool HP.out.symm, HXr.out⟩
  · have bN : ((n : Int) != (p : Int)) = true := by simp; omega
    have HP : Hid (eqL eqW l m = false) := eqL_len l m (by rw [HL.out, HM.out]; exact hnp)
    go_enter Tryz.func47, Tryz.ntmps47
    go_wp2_with fail
    go_ret
    exact ⟨ret_bool HP.out.symm, Ext.refl w⟩
/-- the lengths in an event's slices -/
def Ev.fit (e : Ev) : Prop := e.rows.length ≤ 9223372036854775807 ∧ e.wts.length ≤ 9223372036854775807 ∧ (∀ r ∈ e.rows, r.length ≤ 9223372036854775807) ∧ ∀ r ∈ e.wts, r.row.length ≤ 9223372036854775807
/-- the two variables of Equal -/
def FnAt (w : World) (p q : Nat) : Prop := w.cell? ⟨p, 0, none⟩ = some (.func (Fn.func 41) #[] #[]) ∧ w.cell? ⟨q, 0, none⟩ = some (.func (Fn.func 43) #[] #[])
theorem FnAt.ext {w w' : World} {p q : Nat} (h : FnAt w p q) (hx : Ext w w') : FnAt w' p q := ⟨hx.keep h.1, hx.keep h.2⟩
theorem fn_new (w : World) (t1 t2 : TypeId) : FnAt ((w.alloc (.cells #[.func (Fn.func 41) #[] #[]] t1)).alloc (.cells #[.func (Fn.func 43) #[] #[]] t2)) w.heap.size (w.heap.size + 1) := by
  have h1 := (Blk.of_new w t1 [.func (Fn.func 41) #[] #[]]).cell_some (i := 0) rfl
  have h2 := (Blk.of_new (w.alloc (.cells #[.func (Fn.func 41) #[] #[]] t1)) t2 [.func (Fn.func 43) #[] #[]]).cell_some (i := 0) rfl
  rw [show (w.alloc (.cells #[.func (Fn.func 41) #[] #[]] t1)).heap.size = w.heap.size + 1 by simp] at h2
  exact ⟨((Ext.refl _).alloc _).keep h1, h2⟩
theorem cl3_any (x y : Ev) (r1 w1 r2 w2 : Value) (p q : Nat) (w : World) (h1 : RsAt w r1 x.rows) (h2 : WsAt w w1 x.wts) (h3 : RsAt w r2 y.rows) (h4 : WsAt w w2 y.wts) (hx : x.fit) (hy : y.fit) (hF : FnAt w p q) :
    Calls Tryz.prog 45 #[evV x r1 w1, evV y r2 w2, .pointer (some ⟨p, 0, none⟩), .pointer (some ⟨q, 0, none⟩)] w fun r w' => r = .returned (.bool (eqE x y)) ∧ Ext w w' := by
  obtain ⟨A1, c1, rfl, h1⟩ := h1
  obtain ⟨B1, d1, rfl, h2⟩ := h2
  obtain ⟨A2, c2, rfl, h3⟩ := h3
  obtain ⟨B2, d2, rfl, h4⟩ := h4
  have HR := hid (fun W (hW : Ext w W) => ef_rows x.rows y.rows A1 A2 x.rows.length y.rows.length c1 c2 W rfl rfl hx.1 hy.1 (h1.ext hW) (h3.ext hW) hx.2.2.1 hy.2.2.1)
  have HW := hid (fun W (hW : Ext w W) => ef_wts x.wts y.wts B1 B2 x.wts.length y.wts.length d1 d2 W rfl rfl hx.2.1 hy.2.1 (h2.ext hW) (h4.ext hW) hx.2.2.2 hy.2.2.2)
  have HO : Hid (eqE x y = (decide (x.kd = y.kd) && decide (x.ss = y.ss) && decide (x.tx = y.tx) && decide (x.st = y.st) && decide (x.er = y.er) && decide (x.ct = y.ct) && eqL eqR x.rows y.rows && eqL eqW x.wts y.wts)) := rfl
  rw [HO.out]
  clear h1 h2 h3 h4 HO hx hy
  unfold evV
  generalize eqL eqR x.rows y.rows = VR at *
  generalize eqL eqW x.wts y.wts = VW at *
  generalize x.rows.length = n1 at *
  generalize y.rows.length = n2 at *
  generalize x.wts.length = m1 at *
  generalize y.wts.length = m2 at *
  obtain ⟨kd, ss, tx, st, er, ct, rows, wts⟩ := x
  obtain ⟨kd2, ss2, tx2, st2, er2, ct2, rows2, wts2⟩ := y
  simp only at *
  have HB := hid ((Blk.of_new w 36 [.int .i64 kd, .int .i64 ss, .int .i64 tx, .int .i64 st, .int .i64 er, .int .i64 ct, .slice A1 n1 c1, .slice B1 m1 d1]).ext ((Ext.refl _).alloc (.cells #[.int .i64 kd2, .int .i64 ss2, .int .i64 tx2, .int .i64 st2, .int .i64 er2, .int .i64 ct2, .slice A2 n2 c2, .slice B2 m2 d2] 36)))
  have hb2 := Blk.of_new (w.alloc (.cells #[.int .i64 kd, .int .i64 ss, .int .i64 tx, .int .i64 st, .int .i64 er, .int .i64 ct, .slice A1 n1 c1, .slice B1 m1 d1] 36)) 36 [.int .i64 kd2, .int .i64 ss2, .int .i64 tx2, .int .i64 st2, .int .i64 er2, .int .i64 ct2, .slice A2 n2 c2, .slice B2 m2 d2]
  rw [show (w.alloc (.cells #[.int .i64 kd, .int .i64 ss, .int .i64 tx, .int .i64 st, .int .i64 er, .int .i64 ct, .slice A1 n1 c1, .slice B1 m1 d1] 36)).heap.size = w.heap.size + 1 by simp] at hb2
  have HB2 := hid hb2
  have HX := hid (((Ext.refl w).alloc (.cells #[.int .i64 kd, .int .i64 ss, .int .i64 tx, .int .i64 st, .int .i64 er, .int .i64 ct, .slice A1 n1 c1, .slice B1 m1 d1] 36)).alloc (.cells #[.int .i64 kd2, .int .i64 ss2, .int .i64 tx2, .int .i64 st2, .int .i64 er2, .int .i64 ct2, .slice A2 n2 c2, .slice B2 m2 d2] 36))
  have HF := hid hF
  clear hb2 hF
  go_enter Tryz.func45, Tryz.ntmps45
  go_upto_region 1 with fail
  generalize (w.alloc (.cells #[.int .i64 kd, .int .i64 ss, .int .i64 tx, .int .i64 st, .int .i64 er, .int .i64 ct, .slice A1 n1 c1, .slice B1 m1 d1] 36)).alloc (.cells #[.int .i64 kd2, .int .i64 ss2, .int .i64 tx2, .int .i64 st2, .int .i64 er2, .int .i64 ct2, .slice A2 n2 c2, .slice B2 m2 d2] 36) = W1 at *
  generalize w.heap.size = g at *
  have p0 := HB.out.cell 0
  have q0 := HB2.out.cell 0
  have p1 := HB.out.cell 1
  have q1 := HB2.out.cell 1
  have p2 := HB.out.cell 2
  have q2 := HB2.out.cell 2
  have p3 := HB.out.cell 3
  have q3 := HB2.out.cell 3
  have p4 := HB.out.cell 4
  have q4 := HB2.out.cell 4
  have p5 := HB.out.cell 5
  have q5 := HB2.out.cell 5
  have p6 := HB.out.cell 6
  have q6 := HB2.out.cell 6
  have p7 := HB.out.cell 7
  have q7 := HB2.out.cell 7
  simp only [List.getElem?_cons_succ, List.getElem?_cons_zero] at p0 q0 p1 q1 p2 q2 p3 q3 p4 q4 p5 q5 p6 q6 p7 q7
  obtain ⟨f1, f2⟩ := HF.out.ext HX.out
  by_cases e0 : kd = kd2
  · subst e0
    by_cases e1 : ss = ss2
    · subst e1
      by_cases e2 : tx = tx2
      · subst e2
        by_cases e3 : st = st2
        · subst e3
          by_cases e4 : er = er2
          · subst e4
            by_cases e5 : ct = ct2
            · subst e5
              cases VR
              · go_wp2_with (go_at_call 46; (with_reducible refine (HR.out _ HX.out).mono ?_); rintro _ w3 ⟨rfl, hx3⟩)
                go_ret
                exact ⟨ret_bool (by simp), HX.out.trans hx3⟩
              · go_wp2_with (first | (go_at_call 47; (with_reducible refine (HW.out _ (HX.out.trans hx3)).mono ?_); rintro _ w4 ⟨rfl, hx4⟩) | (go_at_call 46; (with_reducible refine (HR.out _ HX.out).mono ?_); rintro _ w3 ⟨rfl, hx3⟩; have e7 := (HB.out.ext hx3).cell 7; have g7 := (HB2.out.ext hx3).cell 7; simp only [List.getElem?_cons_succ, List.getElem?_cons_zero] at e7 g7; obtain ⟨f3, f4⟩ := HF.out.ext (HX.out.trans hx3)))
                go_ret
                exact ⟨ret_bool (by simp), (HX.out.trans hx3).trans hx4⟩
            · have b5 : (ct == ct2) = false := by simpa using e5
              go_wp2_with fail
              go_ret
              exact ⟨ret_bool (by simp [e5]), HX.out⟩
          · have b4 : (er == er2) = false := by simpa using e4
            go_wp2_with fail
            go_ret
            exact ⟨ret_bool (by simp [e4]), HX.out⟩
        · have b3 : (st == st2) = false := by simpa using e3
          go_wp2_with fail
          go_ret
          exact ⟨ret_bool (by simp [e3]), HX.out⟩
      · have b2 : (tx == tx2) = false := by simpa using e2
        go_wp2_with fail
        go_ret
        exact ⟨ret_bool (by simp [e2]), HX.out⟩
    · have b1 : (ss == ss2) = false := by simpa using e1
      go_wp2_with fail
      go_ret
      exact ⟨ret_bool (by simp [e1]), HX.out⟩
  · have b0 : (kd == kd2) = false := by simpa using e0
    go_wp2_with fail
    go_ret
    exact ⟨ret_bool (by simp [e0]), HX.out⟩
theorem ef_evs (l m : List Ev) (A B : Option Addr) (n p c c' : Nat) (u v : Nat) (w : World) (hl : l.length = n) (hm : m.length = p) (hn : n ≤ 9223372036854775807) (hp : p ≤ 9223372036854775807) (hk : EvsAt w A l) (hk2 : EvsAt w B m)
    (hs1 : ∀ r ∈ l, Ev.fit r) (hs2 : ∀ r ∈ m, Ev.fit r) (hF : FnAt w u v) :
    Calls Tryz.prog 44 #[.slice A n c, .slice B p c', .func (Fn.func 45) #[] #[.pointer (some ⟨u, 0, none⟩), .pointer (some ⟨v, 0, none⟩)]] w fun r w' => r = .returned (.bool (eqL eqE l m)) ∧ Ext w w' := by
  have HL := hid hl
  have HM := hid hm
  have HK := hid hk
  have HK2 := hid hk2
  have HS1 := hid hs1
  have HS2 := hid hs2
  have HF := hid hF
  clear hl hm hk hk2 hs1 hs2 hF
  by_cases hnp : n = p
  · subst hnp
    have bN : ((n : Int) != (n : Int)) = false := by simp
    go_enter Tryz.func44, Tryz.ntmps44
    go_wp2_with fail
    go_loopw [17] (fun iv wr => ∃ (k : Nat), k ≤ n ∧ iv = .int .i64 k ∧ STo eqE l m k ∧ Ext w wr) (fun i _ => n - (intOf i).toNat)
    case atStart => exact ⟨0, Nat.zero_le _, rfl, STo.zero _ l m, Ext.refl w⟩
    case round =>
      obtain ⟨k, hkn, rfl, hr, hxr⟩ := hrel
      have HXr := hid hxr
      have HRr := hid hr
      by_cases hlt : k < n
      · obtain ⟨x, hx⟩ := rat_lt HL.out hlt
        obtain ⟨y, hy⟩ := rat_lt HM.out hlt
        obtain ⟨b, off, vr, vw, rfl, q0, q1, q2, q3, q4, q5, q6, q7, q8, q9⟩ := (HK.out.ext hxr) k x hx
        obtain ⟨b2, off2, vr2, vw2, rfl, s0, s1, s2, s3, s4, s5, s6, s7, s8, s9⟩ := (HK2.out.ext hxr) k y hy
        obtain ⟨A0, c0, hv0, _⟩ := id q8
        subst hv0
        obtain ⟨A1, c1, hv1, _⟩ := id q9
        subst hv1
        obtain ⟨A2, c2, hv2, _⟩ := id s8
        subst hv2
        obtain ⟨A3, c3, hv3, _⟩ := id s9
        subst hv3
        have p0 := fun o => ((Ext.refl wr).alloc o).keep s0
        have p1 := fun o => ((Ext.refl wr).alloc o).keep s1
        have p2 := fun o => ((Ext.refl wr).alloc o).keep s2
        have p3 := fun o => ((Ext.refl wr).alloc o).keep s3
        have p4 := fun o => ((Ext.refl wr).alloc o).keep s4
        have p5 := fun o => ((Ext.refl wr).alloc o).keep s5
        have p6 := fun o => ((Ext.refl wr).alloc o).keep s6
        have p7 := fun o => ((Ext.refl wr).alloc o).keep s7
        have HC : Hid (∀ W, Ext wr W → Calls Tryz.prog 45 #[.agg #[.int .i64 x.kd, .int .i64 x.ss, .int .i64 x.tx, .int .i64 x.st, .int .i64 x.er, .int .i64 x.ct, .slice A0 x.rows.length c0, .slice A1 x.wts.length c1], .agg #[.int .i64 y.kd, .int .i64 y.ss, .int .i64 y.tx, .int .i64 y.st, .int .i64 y.er, .int .i64 y.ct, .slice A2 y.rows.length c2, .slice A3 y.wts.length c3], .pointer (some ⟨u, 0, none⟩), .pointer (some ⟨v, 0, none⟩)] W fun r w' => r = .returned (.bool (eqE x y)) ∧ Ext W w') := (fun W (hW : Ext wr W) => cl3_any x y _ _ _ _ u v W (q8.ext hW) (q9.ext hW) (s8.ext hW) (s9.ext hW) (HS1.out x (List.mem_of_getElem? hx)) (HS2.out y (List.mem_of_getElem? hy)) (HF.out.ext (hxr.trans hW)))
        have HE := hid hx
        have HE2 := hid hy
        clear hx hy hxr hr q8 q9 s8 s9 s0 s1 s2 s3 s4 s5 s6 s7
        cases hpq : eqE x y
        · rw [hpq] at HC
          have HP : Hid (eqL eqE l m = false) := eqL_take l m k _ _ HE.out HE2.out hpq
          clear hpq
          go_wp2_with fail
          refine (HC.out _ (((Ext.refl wr).alloc _).alloc _)).mono ?_
          rintro _ w2 ⟨rfl, hx2⟩
          go_wp2_with fail
          go_ret
          exact ⟨ret_bool HP.out.symm, (HXr.out.trans (((Ext.refl wr).alloc _).alloc _)).trans hx2⟩
        · rw [hpq] at HC
          have HP := hid (HRr.out.succ HE.out HE2.out hpq)
          clear hpq
          go_wp2_with fail
          refine (HC.out _ (((Ext.refl wr).alloc _).alloc _)).mono ?_
          rintro _ w2 ⟨rfl, hx2⟩
          go_wp2_with fail
          go_roundw
          case rel => exact ⟨k + 1, by omega, by go_num, HP.out, (HXr.out.trans (((Ext.refl wr).alloc _).alloc _)).trans hx2⟩
          case measure => simp [intOf]; omega
      · obtain rfl : k = n := by omega
        have HP : Hid (eqL eqE l m = true) := eqL_yes HL.out HM.out HRr.out
        go_wp2_with fail
        go_ret
        exact ⟨ret_bool HP.out.symm, HXr.out⟩
  · have bN : ((n : Int) != (p : Int)) = true := by simp; omega
    have HP : Hid (eqL eqE l m = false) := eqL_len l m (by rw [HL.out, HM.out]; exact hnp)
    go_enter Tryz.func44, Tryz.ntmps44
    go_wp2_with fail
    go_ret
    exact ⟨ret_bool HP.out.symm, Ext.refl w⟩
theorem hequal_any (l m : List Ev) (A B : Option Addr) (n p c c' : Nat) (w : World) (hl : l.length = n) (hm : m.length = p) (hn : n ≤ 9223372036854775807) (hp : p ≤ 9223372036854775807) (hk : EvsAt w A l) (hk2 : EvsAt w B m)
    (hs1 : ∀ r ∈ l, Ev.fit r) (hs2 : ∀ r ∈ m, Ev.fit r) :
    Calls Tryz.prog 18 #[.slice A n c, .slice B p c'] w fun r w' => r = .returned (.bool (eqH l m)) ∧ Ext w w' := by
  have HC := hid (fun W (hW : Ext w W) u v (hF : FnAt W u v) => ef_evs l m A B n p c c' u v W hl hm hn hp (hk.ext hW) (hk2.ext hW) hs1 hs2 hF)
  rw [show eqH l m = eqL eqE l m from rfl]
  clear hk hk2 hs1 hs2 hl hm
  generalize eqL eqE l m = V at *
  go_enter Tryz.func18, Tryz.ntmps18
  go_wp2_with fail
  refine (HC.out _ (((Ext.refl w).alloc _).alloc _) _ _ (fn_new w _ _)).mono ?_
  rintro _ w2 ⟨rfl, hx2⟩
  go_wp2_with fail
  go_ret
  exact ⟨rfl, (((Ext.refl w).alloc _).alloc _).trans hx2⟩
end Go.Proofs.YtdjdhkbomhendaaGreatDoor
