/-
  Walks: IndexFunc, ContainsFunc and wrong, for the slices of a statement.
-/
import Derived.Test.YtcdnodjcnofogaaGreatDoorW22
import Derived.Test.YtcdnodjcnofogaaGreatDoorW9
import Derived.Test.YtcdnodjcnofogaaGreatDoorEqP
namespace Go.Proofs.YtcdnodjcnofogaaGreatDoor
open Go.RowKit
set_option linter.unusedVariables false
set_option linter.unusedSimpArgs false
set_option maxHeartbeats 4000000
set_option maxRecDepth 100000

theorem ix_str (F : FuncId) (hE : Ent F) (p : ByteArray → Bool) (l : List ByteArray) (A : Option Addr) (n c : Nat) (w : World) (hl : l.length = n) (hn : n ≤ 9223372036854775807) (hk : StrsAt w A l)
    (hF : ∀ x ∈ l, ∀ (W : World), Ext w W → (x.size ≤ 9223372036854775807) → Calls Tryz.prog F #[.string x] W fun r W' => r = .returned (.bool (p x)) ∧ Ext W W') :
    Calls Tryz.prog 177 #[.slice A n c, .func (Fn.func F) #[] #[]] w fun r w' => IdxOf (l.any p) r ∧ Ext w w' := by
  unfold Ent at hE
  have HL := hid hl
  have HK := hid hk
  have HF := hid hF
  clear hl hk hF
  go_enter Tryz.func177, Tryz.ntmps177
  go_wp2_with fail
  go_loopw [5, 8] (fun _ iv wr => ∃ (k : Nat), k ≤ n ∧ iv = .int .i64 k ∧ (l.take k).any p = false ∧ Ext w wr) (fun _ i _ => n - (intOf i).toNat)
  case atStart => exact ⟨0, Nat.zero_le _, rfl, rfl, Ext.refl w⟩
  case round =>
    obtain ⟨k, hkn, rfl, hr, hxr⟩ := hrel
    have HXr := hid hxr
    have HRr := hid hr
    by_cases hlt : k < n
    · obtain ⟨x, hx⟩ := rat_lt HL.out hlt
      obtain ⟨hc, b, off, rfl, q0⟩ := (HK.out.ext hxr) k x hx
      have HC := hid (HF.out x (List.mem_of_getElem? hx) _ hxr hc)
      have HE := hid hx
      clear hx hxr hr
      cases hp : p x
      · rw [hp] at HC
        have HP : Hid ((l.take (k + 1)).any p = false) := any_step HE.out HRr.out hp
        clear hp
        go_wp2_with fail
        refine HC.out.mono ?_
        rintro _ w2 ⟨rfl, hx2⟩
        go_wp2_with fail
        go_roundw
        case rel => exact ⟨k + 1, by omega, by go_num, HP.out, HXr.out.trans hx2⟩
        case measure => simp [intOf]; omega
      · rw [hp] at HC
        have HP : Hid (l.any p = true) := any_take HE.out hp
        clear hp
        go_wp2_with fail
        refine HC.out.mono ?_
        rintro _ w2 ⟨rfl, hx2⟩
        go_wp2_with fail
        go_ret
        exact ⟨⟨k, ⟨by omega, by omega⟩, rfl, by rw [HP.out]; simp⟩, HXr.out.trans hx2⟩
    · obtain rfl : k = n := by omega
      have HP : Hid (l.any p = false) := any_end HL.out HRr.out
      clear hr
      go_wp2_with fail
      go_ret
      exact ⟨⟨-1, ⟨by omega, by omega⟩, rfl, by rw [HP.out]; rfl⟩, HXr.out⟩
theorem co_str (F : FuncId) (hE : Ent F) (p : ByteArray → Bool) (l : List ByteArray) (A : Option Addr) (n c : Nat) (w : World) (hl : l.length = n) (hn : n ≤ 9223372036854775807) (hk : StrsAt w A l)
    (hF : ∀ x ∈ l, ∀ (W : World), Ext w W → (x.size ≤ 9223372036854775807) → Calls Tryz.prog F #[.string x] W fun r W' => r = .returned (.bool (p x)) ∧ Ext W W') :
    Calls Tryz.prog 155 #[.slice A n c, .func (Fn.func F) #[] #[]] w fun r w' => r = .returned (.bool (l.any p)) ∧ Ext w w' := by
  have HC := hid (ix_str F hE p l A n c w hl hn hk hF)
  clear hl hk hF
  go_enter Tryz.func155, Tryz.ntmps155
  go_wp2_with (go_at_call 177; refine HC.out.mono ?_; rintro _ w2 ⟨⟨x, hx, rfl, hx0⟩, hx2⟩; have HX0 := hid hx0; clear hx0)
  go_ret
  exact ⟨ret_bool HX0.out, hx2⟩
theorem ixp_cd (F : FuncId) (hE : Ent F) (P : Value) (p : Cd → Bool) (l : List Cd) (A : Option Addr) (n c : Nat) (w : World) (hl : l.length = n) (hn : n ≤ 9223372036854775807) (hk : CdsAt w A l)
    (hF : ∀ x ∈ l, ∀ (W : World), Ext w W → (x.nm.size ≤ 9223372036854775807 ∧ I64 x.ty ∧ I64 x.lo ∧ I64 x.hi ∧ I64 x.mx) → Calls Tryz.prog F #[.agg #[.string x.nm, .int .i64 x.ty, .int .i64 x.lo, .int .i64 x.hi, .int .i64 x.mx, .bool x.nn], P] W fun r W' => r = .returned (.bool (p x)) ∧ Ext W W') :
    Calls Tryz.prog 178 #[.slice A n c, .func (Fn.func F) #[] #[P]] w fun r w' => IdxOf (l.any p) r ∧ Ext w w' := by
  unfold Ent at hE
  have HL := hid hl
  have HK := hid hk
  have HF := hid hF
  clear hl hk hF
  go_enter Tryz.func178, Tryz.ntmps178
  go_wp2_with fail
  go_loopw [5, 8] (fun _ iv wr => ∃ (k : Nat), k ≤ n ∧ iv = .int .i64 k ∧ (l.take k).any p = false ∧ Ext w wr) (fun _ i _ => n - (intOf i).toNat)
  case atStart => exact ⟨0, Nat.zero_le _, rfl, rfl, Ext.refl w⟩
  case round =>
    obtain ⟨k, hkn, rfl, hr, hxr⟩ := hrel
    have HXr := hid hxr
    have HRr := hid hr
    by_cases hlt : k < n
    · obtain ⟨x, hx⟩ := rat_lt HL.out hlt
      obtain ⟨hc, b, off, rfl, q0, q1, q2, q3, q4, q5⟩ := (HK.out.ext hxr) k x hx
      have HC := hid (HF.out x (List.mem_of_getElem? hx) _ hxr hc)
      have HE := hid hx
      clear hx hxr hr
      cases hp : p x
      · rw [hp] at HC
        have HP : Hid ((l.take (k + 1)).any p = false) := any_step HE.out HRr.out hp
        clear hp
        go_wp2_with fail
        refine HC.out.mono ?_
        rintro _ w2 ⟨rfl, hx2⟩
        go_wp2_with fail
        go_roundw
        case rel => exact ⟨k + 1, by omega, by go_num, HP.out, HXr.out.trans hx2⟩
        case measure => simp [intOf]; omega
      · rw [hp] at HC
        have HP : Hid (l.any p = true) := any_take HE.out hp
        clear hp
        go_wp2_with fail
        refine HC.out.mono ?_
        rintro _ w2 ⟨rfl, hx2⟩
        go_wp2_with fail
        go_ret
        exact ⟨⟨k, ⟨by omega, by omega⟩, rfl, by rw [HP.out]; simp⟩, HXr.out.trans hx2⟩
    · obtain rfl : k = n := by omega
      have HP : Hid (l.any p = false) := any_end HL.out HRr.out
      clear hr
      go_wp2_with fail
      go_ret
      exact ⟨⟨-1, ⟨by omega, by omega⟩, rfl, by rw [HP.out]; rfl⟩, HXr.out⟩
theorem cop_cd (F : FuncId) (hE : Ent F) (P : Value) (p : Cd → Bool) (l : List Cd) (A : Option Addr) (n c : Nat) (w : World) (hl : l.length = n) (hn : n ≤ 9223372036854775807) (hk : CdsAt w A l)
    (hF : ∀ x ∈ l, ∀ (W : World), Ext w W → (x.nm.size ≤ 9223372036854775807 ∧ I64 x.ty ∧ I64 x.lo ∧ I64 x.hi ∧ I64 x.mx) → Calls Tryz.prog F #[.agg #[.string x.nm, .int .i64 x.ty, .int .i64 x.lo, .int .i64 x.hi, .int .i64 x.mx, .bool x.nn], P] W fun r W' => r = .returned (.bool (p x)) ∧ Ext W W') :
    Calls Tryz.prog 157 #[.slice A n c, .func (Fn.func F) #[] #[P]] w fun r w' => r = .returned (.bool (l.any p)) ∧ Ext w w' := by
  have HC := hid (ixp_cd F hE P p l A n c w hl hn hk hF)
  clear hl hk hF
  go_enter Tryz.func157, Tryz.ntmps157
  go_wp2_with (go_at_call 178; refine HC.out.mono ?_; rintro _ w2 ⟨⟨x, hx, rfl, hx0⟩, hx2⟩; have HX0 := hid hx0; clear hx0)
  go_ret
  exact ⟨ret_bool HX0.out, hx2⟩
theorem ixp_key (F : FuncId) (hE : Ent F) (P : Value) (p : (List ByteArray) → Bool) (l : List (List ByteArray)) (A : Option Addr) (n c : Nat) (w : World) (hl : l.length = n) (hn : n ≤ 9223372036854775807) (hk : KeysAt w A l)
    (hF : ∀ x ∈ l, ∀ (W : World), Ext w W → ∀ (Ai : Option Addr) (ni ci : Nat), (x.length = ni ∧ ni ≤ 9223372036854775807 ∧ StrsAt W Ai x) → Calls Tryz.prog F #[.slice Ai ni ci, P] W fun r W' => r = .returned (.bool (p x)) ∧ Ext W W') :
    Calls Tryz.prog 179 #[.slice A n c, .func (Fn.func F) #[] #[P]] w fun r w' => IdxOf (l.any p) r ∧ Ext w w' := by
  unfold Ent at hE
  have HL := hid hl
  have HK := hid hk
  have HF := hid hF
  clear hl hk hF
  go_enter Tryz.func179, Tryz.ntmps179
  go_wp2_with fail
  go_loopw [5, 8] (fun _ iv wr => ∃ (k : Nat), k ≤ n ∧ iv = .int .i64 k ∧ (l.take k).any p = false ∧ Ext w wr) (fun _ i _ => n - (intOf i).toNat)
  case atStart => exact ⟨0, Nat.zero_le _, rfl, rfl, Ext.refl w⟩
  case round =>
    obtain ⟨k, hkn, rfl, hr, hxr⟩ := hrel
    have HXr := hid hxr
    have HRr := hid hr
    by_cases hlt : k < n
    · obtain ⟨x, hx⟩ := rat_lt HL.out hlt
      obtain ⟨b, off, Ai, ni, ci, rfl, q0, h1, h2, h3⟩ := (HK.out.ext hxr) k x hx
      have HC := hid (HF.out x (List.mem_of_getElem? hx) _ hxr Ai ni ci ⟨h1, h2, h3⟩)
      have HE := hid hx
      clear hx hxr hr
      cases hp : p x
      · rw [hp] at HC
        have HP : Hid ((l.take (k + 1)).any p = false) := any_step HE.out HRr.out hp
        clear hp
        go_wp2_with fail
        refine HC.out.mono ?_
        rintro _ w2 ⟨rfl, hx2⟩
        go_wp2_with fail
        go_roundw
        case rel => exact ⟨k + 1, by omega, by go_num, HP.out, HXr.out.trans hx2⟩
        case measure => simp [intOf]; omega
      · rw [hp] at HC
        have HP : Hid (l.any p = true) := any_take HE.out hp
        clear hp
        go_wp2_with fail
        refine HC.out.mono ?_
        rintro _ w2 ⟨rfl, hx2⟩
        go_wp2_with fail
        go_ret
        exact ⟨⟨k, ⟨by omega, by omega⟩, rfl, by rw [HP.out]; simp⟩, HXr.out.trans hx2⟩
    · obtain rfl : k = n := by omega
      have HP : Hid (l.any p = false) := any_end HL.out HRr.out
      clear hr
      go_wp2_with fail
      go_ret
      exact ⟨⟨-1, ⟨by omega, by omega⟩, rfl, by rw [HP.out]; rfl⟩, HXr.out⟩
theorem cop_key (F : FuncId) (hE : Ent F) (P : Value) (p : (List ByteArray) → Bool) (l : List (List ByteArray)) (A : Option Addr) (n c : Nat) (w : World) (hl : l.length = n) (hn : n ≤ 9223372036854775807) (hk : KeysAt w A l)
    (hF : ∀ x ∈ l, ∀ (W : World), Ext w W → ∀ (Ai : Option Addr) (ni ci : Nat), (x.length = ni ∧ ni ≤ 9223372036854775807 ∧ StrsAt W Ai x) → Calls Tryz.prog F #[.slice Ai ni ci, P] W fun r W' => r = .returned (.bool (p x)) ∧ Ext W W') :
    Calls Tryz.prog 159 #[.slice A n c, .func (Fn.func F) #[] #[P]] w fun r w' => r = .returned (.bool (l.any p)) ∧ Ext w w' := by
  have HC := hid (ixp_key F hE P p l A n c w hl hn hk hF)
  clear hl hk hF
  go_enter Tryz.func159, Tryz.ntmps159
  go_wp2_with (go_at_call 179; refine HC.out.mono ?_; rintro _ w2 ⟨⟨x, hx, rfl, hx0⟩, hx2⟩; have HX0 := hid hx0; clear hx0)
  go_ret
  exact ⟨ret_bool HX0.out, hx2⟩
theorem ixp_rf (F : FuncId) (hE : Ent F) (P : Value) (p : Rf → Bool) (l : List Rf) (A : Option Addr) (n c : Nat) (w : World) (hl : l.length = n) (hn : n ≤ 9223372036854775807) (hk : RfsAt w A l)
    (hF : ∀ x ∈ l, ∀ (W : World), Ext w W → ∀ (A1 : Option Addr) (n1 c1 : Nat) (A2 : Option Addr) (n2 c2 : Nat), (x.tb.size ≤ 9223372036854775807 ∧ x.cs.length = n1 ∧ n1 ≤ 9223372036854775807 ∧ StrsAt W A1 x.cs ∧ x.tg.length = n2 ∧ n2 ≤ 9223372036854775807 ∧ StrsAt W A2 x.tg) → Calls Tryz.prog F #[.agg #[.slice A1 n1 c1, .string x.tb, .slice A2 n2 c2], P] W fun r W' => r = .returned (.bool (p x)) ∧ Ext W W') :
    Calls Tryz.prog 180 #[.slice A n c, .func (Fn.func F) #[] #[P]] w fun r w' => IdxOf (l.any p) r ∧ Ext w w' := by
  unfold Ent at hE
  have HL := hid hl
  have HK := hid hk
  have HF := hid hF
  clear hl hk hF
  go_enter Tryz.func180, Tryz.ntmps180
  go_wp2_with fail
  go_loopw [5, 8] (fun _ iv wr => ∃ (k : Nat), k ≤ n ∧ iv = .int .i64 k ∧ (l.take k).any p = false ∧ Ext w wr) (fun _ i _ => n - (intOf i).toNat)
  case atStart => exact ⟨0, Nat.zero_le _, rfl, rfl, Ext.refl w⟩
  case round =>
    obtain ⟨k, hkn, rfl, hr, hxr⟩ := hrel
    have HXr := hid hxr
    have HRr := hid hr
    by_cases hlt : k < n
    · obtain ⟨x, hx⟩ := rat_lt HL.out hlt
      obtain ⟨h0, b, off, A1, n1, c1, A2, n2, c2, rfl, q0, q1, q2, h1, h2, h3, h4, h5, h6⟩ := (HK.out.ext hxr) k x hx
      have HC := hid (HF.out x (List.mem_of_getElem? hx) _ hxr A1 n1 c1 A2 n2 c2 ⟨h0, h1, h2, h3, h4, h5, h6⟩)
      have HE := hid hx
      clear hx hxr hr
      cases hp : p x
      · rw [hp] at HC
        have HP : Hid ((l.take (k + 1)).any p = false) := any_step HE.out HRr.out hp
        clear hp
        go_wp2_with fail
        refine HC.out.mono ?_
        rintro _ w2 ⟨rfl, hx2⟩
        go_wp2_with fail
        go_roundw
        case rel => exact ⟨k + 1, by omega, by go_num, HP.out, HXr.out.trans hx2⟩
        case measure => simp [intOf]; omega
      · rw [hp] at HC
        have HP : Hid (l.any p = true) := any_take HE.out hp
        clear hp
        go_wp2_with fail
        refine HC.out.mono ?_
        rintro _ w2 ⟨rfl, hx2⟩
        go_wp2_with fail
        go_ret
        exact ⟨⟨k, ⟨by omega, by omega⟩, rfl, by rw [HP.out]; simp⟩, HXr.out.trans hx2⟩
    · obtain rfl : k = n := by omega
      have HP : Hid (l.any p = false) := any_end HL.out HRr.out
      clear hr
      go_wp2_with fail
      go_ret
      exact ⟨⟨-1, ⟨by omega, by omega⟩, rfl, by rw [HP.out]; rfl⟩, HXr.out⟩
theorem cop_rf (F : FuncId) (hE : Ent F) (P : Value) (p : Rf → Bool) (l : List Rf) (A : Option Addr) (n c : Nat) (w : World) (hl : l.length = n) (hn : n ≤ 9223372036854775807) (hk : RfsAt w A l)
    (hF : ∀ x ∈ l, ∀ (W : World), Ext w W → ∀ (A1 : Option Addr) (n1 c1 : Nat) (A2 : Option Addr) (n2 c2 : Nat), (x.tb.size ≤ 9223372036854775807 ∧ x.cs.length = n1 ∧ n1 ≤ 9223372036854775807 ∧ StrsAt W A1 x.cs ∧ x.tg.length = n2 ∧ n2 ≤ 9223372036854775807 ∧ StrsAt W A2 x.tg) → Calls Tryz.prog F #[.agg #[.slice A1 n1 c1, .string x.tb, .slice A2 n2 c2], P] W fun r W' => r = .returned (.bool (p x)) ∧ Ext W W') :
    Calls Tryz.prog 161 #[.slice A n c, .func (Fn.func F) #[] #[P]] w fun r w' => r = .returned (.bool (l.any p)) ∧ Ext w w' := by
  have HC := hid (ixp_rf F hE P p l A n c w hl hn hk hF)
  clear hl hk hF
  go_enter Tryz.func161, Tryz.ntmps161
  go_wp2_with (go_at_call 180; refine HC.out.mono ?_; rintro _ w2 ⟨⟨x, hx, rfl, hx0⟩, hx2⟩; have HX0 := hid hx0; clear hx0)
  go_ret
  exact ⟨ret_bool HX0.out, hx2⟩
theorem ixp_row (F : FuncId) (hE : Ent F) (P : Value) (p : (List Ex) → Bool) (l : List (List Ex)) (A : Option Addr) (n c : Nat) (w : World) (hl : l.length = n) (hn : n ≤ 9223372036854775807) (hk : RowsAt w A l)
    (hF : ∀ x ∈ l, ∀ (W : World), Ext w W → ∀ (Ai : Option Addr) (ni ci : Nat), (x.length = ni ∧ KidsAt W Ai x) → Calls Tryz.prog F #[.slice Ai ni ci, P] W fun r W' => r = .returned (.bool (p x)) ∧ Ext W W') :
    Calls Tryz.prog 163 #[.slice A n c, .func (Fn.func F) #[] #[P]] w fun r w' => IdxOf (l.any p) r ∧ Ext w w' := by
  unfold Ent at hE
  have HL := hid hl
  have HK := hid hk
  have HF := hid hF
  clear hl hk hF
  go_enter Tryz.func163, Tryz.ntmps163
  go_wp2_with fail
  go_loopw [5, 8] (fun _ iv wr => ∃ (k : Nat), k ≤ n ∧ iv = .int .i64 k ∧ (l.take k).any p = false ∧ Ext w wr) (fun _ i _ => n - (intOf i).toNat)
  case atStart => exact ⟨0, Nat.zero_le _, rfl, rfl, Ext.refl w⟩
  case round =>
    obtain ⟨k, hkn, rfl, hr, hxr⟩ := hrel
    have HXr := hid hxr
    have HRr := hid hr
    by_cases hlt : k < n
    · obtain ⟨x, hx⟩ := rat_lt HL.out hlt
      obtain ⟨b, off, Ai, ni, ci, rfl, q0, h1, h2⟩ := (HK.out.ext hxr) k x hx
      have HC := hid (HF.out x (List.mem_of_getElem? hx) _ hxr Ai ni ci ⟨h1, h2⟩)
      have HE := hid hx
      clear hx hxr hr
      cases hp : p x
      · rw [hp] at HC
        have HP : Hid ((l.take (k + 1)).any p = false) := any_step HE.out HRr.out hp
        clear hp
        go_wp2_with fail
        refine HC.out.mono ?_
        rintro _ w2 ⟨rfl, hx2⟩
        go_wp2_with fail
        go_roundw
        case rel => exact ⟨k + 1, by omega, by go_num, HP.out, HXr.out.trans hx2⟩
        case measure => simp [intOf]; omega
      · rw [hp] at HC
        have HP : Hid (l.any p = true) := any_take HE.out hp
        clear hp
        go_wp2_with fail
        refine HC.out.mono ?_
        rintro _ w2 ⟨rfl, hx2⟩
        go_wp2_with fail
        go_ret
        exact ⟨⟨k, ⟨by omega, by omega⟩, rfl, by rw [HP.out]; simp⟩, HXr.out.trans hx2⟩
    · obtain rfl : k = n := by omega
      have HP : Hid (l.any p = false) := any_end HL.out HRr.out
      clear hr
      go_wp2_with fail
      go_ret
      exact ⟨⟨-1, ⟨by omega, by omega⟩, rfl, by rw [HP.out]; rfl⟩, HXr.out⟩
theorem cop_row (F : FuncId) (hE : Ent F) (P : Value) (p : (List Ex) → Bool) (l : List (List Ex)) (A : Option Addr) (n c : Nat) (w : World) (hl : l.length = n) (hn : n ≤ 9223372036854775807) (hk : RowsAt w A l)
    (hF : ∀ x ∈ l, ∀ (W : World), Ext w W → ∀ (Ai : Option Addr) (ni ci : Nat), (x.length = ni ∧ KidsAt W Ai x) → Calls Tryz.prog F #[.slice Ai ni ci, P] W fun r W' => r = .returned (.bool (p x)) ∧ Ext W W') :
    Calls Tryz.prog 122 #[.slice A n c, .func (Fn.func F) #[] #[P]] w fun r w' => r = .returned (.bool (l.any p)) ∧ Ext w w' := by
  have HC := hid (ixp_row F hE P p l A n c w hl hn hk hF)
  clear hl hk hF
  go_enter Tryz.func122, Tryz.ntmps122
  go_wp2_with (go_at_call 163; refine HC.out.mono ?_; rintro _ w2 ⟨⟨x, hx, rfl, hx0⟩, hx2⟩; have HX0 := hid hx0; clear hx0)
  go_ret
  exact ⟨ret_bool HX0.out, hx2⟩
theorem ixp_asg (F : FuncId) (hE : Ent F) (P : Value) (p : Asg → Bool) (l : List Asg) (A : Option Addr) (n c : Nat) (w : World) (hl : l.length = n) (hn : n ≤ 9223372036854775807) (hk : AsgsAt w A l)
    (hF : ∀ x ∈ l, ∀ (W : World), Ext w W → ∀ (Ai : Option Addr) (ni ci : Nat), ExV W x.ex Ai ni ci → Calls Tryz.prog F #[.agg #[.string x.cl, .int .i64 x.ix, .int .i64 x.ex.d.op, .string x.ex.d.tb, .string x.ex.d.nm, .int .i64 x.ex.d.ix, .int .i64 x.ex.d.vk, .int .i64 x.ex.d.vi, .string x.ex.d.vt, .slice Ai ni ci], P] W fun r W' => r = .returned (.bool (p x)) ∧ Ext W W') :
    Calls Tryz.prog 164 #[.slice A n c, .func (Fn.func F) #[] #[P]] w fun r w' => IdxOf (l.any p) r ∧ Ext w w' := by
  unfold Ent at hE
  have HL := hid hl
  have HK := hid hk
  have HF := hid hF
  clear hl hk hF
  go_enter Tryz.func164, Tryz.ntmps164
  go_wp2_with fail
  go_loopw [5, 8] (fun _ iv wr => ∃ (k : Nat), k ≤ n ∧ iv = .int .i64 k ∧ (l.take k).any p = false ∧ Ext w wr) (fun _ i _ => n - (intOf i).toNat)
  case atStart => exact ⟨0, Nat.zero_le _, rfl, rfl, Ext.refl w⟩
  case round =>
    obtain ⟨k, hkn, rfl, hr, hxr⟩ := hrel
    have HXr := hid hxr
    have HRr := hid hr
    by_cases hlt : k < n
    · obtain ⟨x, hx⟩ := rat_lt HL.out hlt
      obtain ⟨b, off, Ai, ni, ci, rfl, q0, q1, q2, q3, q4, q5, q6, q7, q8, q9, h1⟩ := asg_get (HK.out.ext hxr) hx
      have HC := hid (HF.out x (List.mem_of_getElem? hx) _ hxr Ai ni ci h1)
      have HE := hid hx
      clear hx hxr hr
      cases hp : p x
      · rw [hp] at HC
        have HP : Hid ((l.take (k + 1)).any p = false) := any_step HE.out HRr.out hp
        clear hp
        go_wp2_with fail
        refine HC.out.mono ?_
        rintro _ w2 ⟨rfl, hx2⟩
        go_wp2_with fail
        go_roundw
        case rel => exact ⟨k + 1, by omega, by go_num, HP.out, HXr.out.trans hx2⟩
        case measure => simp [intOf]; omega
      · rw [hp] at HC
        have HP : Hid (l.any p = true) := any_take HE.out hp
        clear hp
        go_wp2_with fail
        refine HC.out.mono ?_
        rintro _ w2 ⟨rfl, hx2⟩
        go_wp2_with fail
        go_ret
        exact ⟨⟨k, ⟨by omega, by omega⟩, rfl, by rw [HP.out]; simp⟩, HXr.out.trans hx2⟩
    · obtain rfl : k = n := by omega
      have HP : Hid (l.any p = false) := any_end HL.out HRr.out
      clear hr
      go_wp2_with fail
      go_ret
      exact ⟨⟨-1, ⟨by omega, by omega⟩, rfl, by rw [HP.out]; rfl⟩, HXr.out⟩
theorem cop_asg (F : FuncId) (hE : Ent F) (P : Value) (p : Asg → Bool) (l : List Asg) (A : Option Addr) (n c : Nat) (w : World) (hl : l.length = n) (hn : n ≤ 9223372036854775807) (hk : AsgsAt w A l)
    (hF : ∀ x ∈ l, ∀ (W : World), Ext w W → ∀ (Ai : Option Addr) (ni ci : Nat), ExV W x.ex Ai ni ci → Calls Tryz.prog F #[.agg #[.string x.cl, .int .i64 x.ix, .int .i64 x.ex.d.op, .string x.ex.d.tb, .string x.ex.d.nm, .int .i64 x.ex.d.ix, .int .i64 x.ex.d.vk, .int .i64 x.ex.d.vi, .string x.ex.d.vt, .slice Ai ni ci], P] W fun r W' => r = .returned (.bool (p x)) ∧ Ext W W') :
    Calls Tryz.prog 125 #[.slice A n c, .func (Fn.func F) #[] #[P]] w fun r w' => r = .returned (.bool (l.any p)) ∧ Ext w w' := by
  have HC := hid (ixp_asg F hE P p l A n c w hl hn hk hF)
  clear hl hk hF
  go_enter Tryz.func125, Tryz.ntmps125
  go_wp2_with (go_at_call 164; refine HC.out.mono ?_; rintro _ w2 ⟨⟨x, hx, rfl, hx0⟩, hx2⟩; have HX0 := hid hx0; clear hx0)
  go_ret
  exact ⟨ret_bool HX0.out, hx2⟩
theorem ixp_itm (F : FuncId) (hE : Ent F) (P : Value) (p : Itm → Bool) (l : List Itm) (A : Option Addr) (n c : Nat) (w : World) (hl : l.length = n) (hn : n ≤ 9223372036854775807) (hk : ItmsAt w A l)
    (hF : ∀ x ∈ l, ∀ (W : World), Ext w W → ∀ (Ai : Option Addr) (ni ci : Nat), ExV W x.ex Ai ni ci → Calls Tryz.prog F #[.agg #[.int .i64 x.ag, .int .i64 x.ex.d.op, .string x.ex.d.tb, .string x.ex.d.nm, .int .i64 x.ex.d.ix, .int .i64 x.ex.d.vk, .int .i64 x.ex.d.vi, .string x.ex.d.vt, .slice Ai ni ci], P] W fun r W' => r = .returned (.bool (p x)) ∧ Ext W W') :
    Calls Tryz.prog 181 #[.slice A n c, .func (Fn.func F) #[] #[P]] w fun r w' => IdxOf (l.any p) r ∧ Ext w w' := by
  unfold Ent at hE
  have HL := hid hl
  have HK := hid hk
  have HF := hid hF
  clear hl hk hF
  go_enter Tryz.func181, Tryz.ntmps181
  go_wp2_with fail
  go_loopw [5, 8] (fun _ iv wr => ∃ (k : Nat), k ≤ n ∧ iv = .int .i64 k ∧ (l.take k).any p = false ∧ Ext w wr) (fun _ i _ => n - (intOf i).toNat)
  case atStart => exact ⟨0, Nat.zero_le _, rfl, rfl, Ext.refl w⟩
  case round =>
    obtain ⟨k, hkn, rfl, hr, hxr⟩ := hrel
    have HXr := hid hxr
    have HRr := hid hr
    by_cases hlt : k < n
    · obtain ⟨x, hx⟩ := rat_lt HL.out hlt
      obtain ⟨b, off, Ai, ni, ci, rfl, q0, q1, q2, q3, q4, q5, q6, q7, q8, h1⟩ := itm_get (HK.out.ext hxr) hx
      have HC := hid (HF.out x (List.mem_of_getElem? hx) _ hxr Ai ni ci h1)
      have HE := hid hx
      clear hx hxr hr
      cases hp : p x
      · rw [hp] at HC
        have HP : Hid ((l.take (k + 1)).any p = false) := any_step HE.out HRr.out hp
        clear hp
        go_wp2_with fail
        refine HC.out.mono ?_
        rintro _ w2 ⟨rfl, hx2⟩
        go_wp2_with fail
        go_roundw
        case rel => exact ⟨k + 1, by omega, by go_num, HP.out, HXr.out.trans hx2⟩
        case measure => simp [intOf]; omega
      · rw [hp] at HC
        have HP : Hid (l.any p = true) := any_take HE.out hp
        clear hp
        go_wp2_with fail
        refine HC.out.mono ?_
        rintro _ w2 ⟨rfl, hx2⟩
        go_wp2_with fail
        go_ret
        exact ⟨⟨k, ⟨by omega, by omega⟩, rfl, by rw [HP.out]; simp⟩, HXr.out.trans hx2⟩
    · obtain rfl : k = n := by omega
      have HP : Hid (l.any p = false) := any_end HL.out HRr.out
      clear hr
      go_wp2_with fail
      go_ret
      exact ⟨⟨-1, ⟨by omega, by omega⟩, rfl, by rw [HP.out]; rfl⟩, HXr.out⟩
theorem cop_itm (F : FuncId) (hE : Ent F) (P : Value) (p : Itm → Bool) (l : List Itm) (A : Option Addr) (n c : Nat) (w : World) (hl : l.length = n) (hn : n ≤ 9223372036854775807) (hk : ItmsAt w A l)
    (hF : ∀ x ∈ l, ∀ (W : World), Ext w W → ∀ (Ai : Option Addr) (ni ci : Nat), ExV W x.ex Ai ni ci → Calls Tryz.prog F #[.agg #[.int .i64 x.ag, .int .i64 x.ex.d.op, .string x.ex.d.tb, .string x.ex.d.nm, .int .i64 x.ex.d.ix, .int .i64 x.ex.d.vk, .int .i64 x.ex.d.vi, .string x.ex.d.vt, .slice Ai ni ci], P] W fun r W' => r = .returned (.bool (p x)) ∧ Ext W W') :
    Calls Tryz.prog 165 #[.slice A n c, .func (Fn.func F) #[] #[P]] w fun r w' => r = .returned (.bool (l.any p)) ∧ Ext w w' := by
  have HC := hid (ixp_itm F hE P p l A n c w hl hn hk hF)
  clear hl hk hF
  go_enter Tryz.func165, Tryz.ntmps165
  go_wp2_with (go_at_call 181; refine HC.out.mono ?_; rintro _ w2 ⟨⟨x, hx, rfl, hx0⟩, hx2⟩; have HX0 := hid hx0; clear hx0)
  go_ret
  exact ⟨ret_bool HX0.out, hx2⟩
theorem ixp_src (F : FuncId) (hE : Ent F) (P : Value) (p : Src → Bool) (l : List Src) (A : Option Addr) (n c : Nat) (w : World) (hl : l.length = n) (hn : n ≤ 9223372036854775807) (hk : SrcsAt w A l)
    (hF : ∀ x ∈ l, ∀ (W : World), Ext w W → (x.tb.size ≤ 9223372036854775807 ∧ x.al.size ≤ 9223372036854775807) → Calls Tryz.prog F #[.agg #[.string x.tb, .string x.al], P] W fun r W' => r = .returned (.bool (p x)) ∧ Ext W W') :
    Calls Tryz.prog 182 #[.slice A n c, .func (Fn.func F) #[] #[P]] w fun r w' => IdxOf (l.any p) r ∧ Ext w w' := by
  unfold Ent at hE
  have HL := hid hl
  have HK := hid hk
  have HF := hid hF
  clear hl hk hF
  go_enter Tryz.func182, Tryz.ntmps182
  go_wp2_with fail
  go_loopw [5, 8] (fun _ iv wr => ∃ (k : Nat), k ≤ n ∧ iv = .int .i64 k ∧ (l.take k).any p = false ∧ Ext w wr) (fun _ i _ => n - (intOf i).toNat)
  case atStart => exact ⟨0, Nat.zero_le _, rfl, rfl, Ext.refl w⟩
  case round =>
    obtain ⟨k, hkn, rfl, hr, hxr⟩ := hrel
    have HXr := hid hxr
    have HRr := hid hr
    by_cases hlt : k < n
    · obtain ⟨x, hx⟩ := rat_lt HL.out hlt
      obtain ⟨hc, b, off, rfl, q0, q1⟩ := (HK.out.ext hxr) k x hx
      have HC := hid (HF.out x (List.mem_of_getElem? hx) _ hxr hc)
      have HE := hid hx
      clear hx hxr hr
      cases hp : p x
      · rw [hp] at HC
        have HP : Hid ((l.take (k + 1)).any p = false) := any_step HE.out HRr.out hp
        clear hp
        go_wp2_with fail
        refine HC.out.mono ?_
        rintro _ w2 ⟨rfl, hx2⟩
        go_wp2_with fail
        go_roundw
        case rel => exact ⟨k + 1, by omega, by go_num, HP.out, HXr.out.trans hx2⟩
        case measure => simp [intOf]; omega
      · rw [hp] at HC
        have HP : Hid (l.any p = true) := any_take HE.out hp
        clear hp
        go_wp2_with fail
        refine HC.out.mono ?_
        rintro _ w2 ⟨rfl, hx2⟩
        go_wp2_with fail
        go_ret
        exact ⟨⟨k, ⟨by omega, by omega⟩, rfl, by rw [HP.out]; simp⟩, HXr.out.trans hx2⟩
    · obtain rfl : k = n := by omega
      have HP : Hid (l.any p = false) := any_end HL.out HRr.out
      clear hr
      go_wp2_with fail
      go_ret
      exact ⟨⟨-1, ⟨by omega, by omega⟩, rfl, by rw [HP.out]; rfl⟩, HXr.out⟩
theorem cop_src (F : FuncId) (hE : Ent F) (P : Value) (p : Src → Bool) (l : List Src) (A : Option Addr) (n c : Nat) (w : World) (hl : l.length = n) (hn : n ≤ 9223372036854775807) (hk : SrcsAt w A l)
    (hF : ∀ x ∈ l, ∀ (W : World), Ext w W → (x.tb.size ≤ 9223372036854775807 ∧ x.al.size ≤ 9223372036854775807) → Calls Tryz.prog F #[.agg #[.string x.tb, .string x.al], P] W fun r W' => r = .returned (.bool (p x)) ∧ Ext W W') :
    Calls Tryz.prog 167 #[.slice A n c, .func (Fn.func F) #[] #[P]] w fun r w' => r = .returned (.bool (l.any p)) ∧ Ext w w' := by
  have HC := hid (ixp_src F hE P p l A n c w hl hn hk hF)
  clear hl hk hF
  go_enter Tryz.func167, Tryz.ntmps167
  go_wp2_with (go_at_call 182; refine HC.out.mono ?_; rintro _ w2 ⟨⟨x, hx, rfl, hx0⟩, hx2⟩; have HX0 := hid hx0; clear hx0)
  go_ret
  exact ⟨ret_bool HX0.out, hx2⟩
theorem ixp_ord (F : FuncId) (hE : Ent F) (P : Value) (p : Ord' → Bool) (l : List Ord') (A : Option Addr) (n c : Nat) (w : World) (hl : l.length = n) (hn : n ≤ 9223372036854775807) (hk : OrdsAt w A l)
    (hF : ∀ x ∈ l, ∀ (W : World), Ext w W → I64 x.it → Calls Tryz.prog F #[.agg #[.int .i64 x.it, .bool x.ds], P] W fun r W' => r = .returned (.bool (p x)) ∧ Ext W W') :
    Calls Tryz.prog 183 #[.slice A n c, .func (Fn.func F) #[] #[P]] w fun r w' => IdxOf (l.any p) r ∧ Ext w w' := by
  unfold Ent at hE
  have HL := hid hl
  have HK := hid hk
  have HF := hid hF
  clear hl hk hF
  go_enter Tryz.func183, Tryz.ntmps183
  go_wp2_with fail
  go_loopw [5, 8] (fun _ iv wr => ∃ (k : Nat), k ≤ n ∧ iv = .int .i64 k ∧ (l.take k).any p = false ∧ Ext w wr) (fun _ i _ => n - (intOf i).toNat)
  case atStart => exact ⟨0, Nat.zero_le _, rfl, rfl, Ext.refl w⟩
  case round =>
    obtain ⟨k, hkn, rfl, hr, hxr⟩ := hrel
    have HXr := hid hxr
    have HRr := hid hr
    by_cases hlt : k < n
    · obtain ⟨x, hx⟩ := rat_lt HL.out hlt
      obtain ⟨hc, b, off, rfl, q0, q1⟩ := (HK.out.ext hxr) k x hx
      have HC := hid (HF.out x (List.mem_of_getElem? hx) _ hxr hc)
      have HE := hid hx
      clear hx hxr hr
      cases hp : p x
      · rw [hp] at HC
        have HP : Hid ((l.take (k + 1)).any p = false) := any_step HE.out HRr.out hp
        clear hp
        go_wp2_with fail
        refine HC.out.mono ?_
        rintro _ w2 ⟨rfl, hx2⟩
        go_wp2_with fail
        go_roundw
        case rel => exact ⟨k + 1, by omega, by go_num, HP.out, HXr.out.trans hx2⟩
        case measure => simp [intOf]; omega
      · rw [hp] at HC
        have HP : Hid (l.any p = true) := any_take HE.out hp
        clear hp
        go_wp2_with fail
        refine HC.out.mono ?_
        rintro _ w2 ⟨rfl, hx2⟩
        go_wp2_with fail
        go_ret
        exact ⟨⟨k, ⟨by omega, by omega⟩, rfl, by rw [HP.out]; simp⟩, HXr.out.trans hx2⟩
    · obtain rfl : k = n := by omega
      have HP : Hid (l.any p = false) := any_end HL.out HRr.out
      clear hr
      go_wp2_with fail
      go_ret
      exact ⟨⟨-1, ⟨by omega, by omega⟩, rfl, by rw [HP.out]; rfl⟩, HXr.out⟩
theorem cop_ord (F : FuncId) (hE : Ent F) (P : Value) (p : Ord' → Bool) (l : List Ord') (A : Option Addr) (n c : Nat) (w : World) (hl : l.length = n) (hn : n ≤ 9223372036854775807) (hk : OrdsAt w A l)
    (hF : ∀ x ∈ l, ∀ (W : World), Ext w W → I64 x.it → Calls Tryz.prog F #[.agg #[.int .i64 x.it, .bool x.ds], P] W fun r W' => r = .returned (.bool (p x)) ∧ Ext W W') :
    Calls Tryz.prog 169 #[.slice A n c, .func (Fn.func F) #[] #[P]] w fun r w' => r = .returned (.bool (l.any p)) ∧ Ext w w' := by
  have HC := hid (ixp_ord F hE P p l A n c w hl hn hk hF)
  clear hl hk hF
  go_enter Tryz.func169, Tryz.ntmps169
  go_wp2_with (go_at_call 183; refine HC.out.mono ?_; rintro _ w2 ⟨⟨x, hx, rfl, hx0⟩, hx2⟩; have HX0 := hid hx0; clear hx0)
  go_ret
  exact ⟨ret_bool HX0.out, hx2⟩
theorem ixp_ex (F : FuncId) (hE : Ent F) (P : Value) (p : Ex → Bool) (l : List Ex) (A : Option Addr) (n c : Nat) (w : World) (hl : l.length = n) (hn : n ≤ 9223372036854775807) (hk : KidsAt w A l)
    (hF : ∀ x ∈ l, ∀ (W : World), Ext w W → ∀ (Ai : Option Addr) (ni ci : Nat), ExV W x Ai ni ci → Calls Tryz.prog F #[x.d.val Ai ni ci, P] W fun r W' => r = .returned (.bool (p x)) ∧ Ext W W') :
    Calls Tryz.prog 113 #[.slice A n c, .func (Fn.func F) #[] #[P]] w fun r w' => IdxOf (l.any p) r ∧ Ext w w' := by
  unfold Ent at hE
  have HL := hid hl
  have HK := hid hk
  have HF := hid hF
  clear hl hk hF
  go_enter Tryz.func113, Tryz.ntmps113
  go_wp2_with fail
  go_loopw [5, 8] (fun _ iv wr => ∃ (k : Nat), k ≤ n ∧ iv = .int .i64 k ∧ (l.take k).any p = false ∧ Ext w wr) (fun _ i _ => n - (intOf i).toNat)
  case atStart => exact ⟨0, Nat.zero_le _, rfl, rfl, Ext.refl w⟩
  case round =>
    obtain ⟨k, hkn, rfl, hr, hxr⟩ := hrel
    have HXr := hid hxr
    have HRr := hid hr
    by_cases hlt : k < n
    · obtain ⟨x, hx⟩ := rat_lt HL.out hlt
      obtain ⟨b, off, Ai, ni, ci, rfl, q0, q1, q2, q3, q4, q5, q6, q7, h1⟩ := (HK.out.ext hxr).get hx
      have HC := hid (HF.out x (List.mem_of_getElem? hx) _ hxr Ai ni ci h1)
      have HE := hid hx
      clear hx hxr hr
      cases hp : p x
      · rw [hp] at HC
        have HP : Hid ((l.take (k + 1)).any p = false) := any_step HE.out HRr.out hp
        clear hp
        unfold Nd.val at HC
        go_wp2_with fail
        refine HC.out.mono ?_
        rintro _ w2 ⟨rfl, hx2⟩
        go_wp2_with fail
        go_roundw
        case rel => exact ⟨k + 1, by omega, by go_num, HP.out, HXr.out.trans hx2⟩
        case measure => simp [intOf]; omega
      · rw [hp] at HC
        have HP : Hid (l.any p = true) := any_take HE.out hp
        clear hp
        unfold Nd.val at HC
        go_wp2_with fail
        refine HC.out.mono ?_
        rintro _ w2 ⟨rfl, hx2⟩
        go_wp2_with fail
        go_ret
        exact ⟨⟨k, ⟨by omega, by omega⟩, rfl, by rw [HP.out]; simp⟩, HXr.out.trans hx2⟩
    · obtain rfl : k = n := by omega
      have HP : Hid (l.any p = false) := any_end HL.out HRr.out
      clear hr
      go_wp2_with fail
      go_ret
      exact ⟨⟨-1, ⟨by omega, by omega⟩, rfl, by rw [HP.out]; rfl⟩, HXr.out⟩
theorem cop_ex (F : FuncId) (hE : Ent F) (P : Value) (p : Ex → Bool) (l : List Ex) (A : Option Addr) (n c : Nat) (w : World) (hl : l.length = n) (hn : n ≤ 9223372036854775807) (hk : KidsAt w A l)
    (hF : ∀ x ∈ l, ∀ (W : World), Ext w W → ∀ (Ai : Option Addr) (ni ci : Nat), ExV W x Ai ni ci → Calls Tryz.prog F #[x.d.val Ai ni ci, P] W fun r W' => r = .returned (.bool (p x)) ∧ Ext W W') :
    Calls Tryz.prog 68 #[.slice A n c, .func (Fn.func F) #[] #[P]] w fun r w' => r = .returned (.bool (l.any p)) ∧ Ext w w' := by
  have HC := hid (ixp_ex F hE P p l A n c w hl hn hk hF)
  clear hl hk hF
  go_enter Tryz.func68, Tryz.ntmps68
  go_wp2_with (go_at_call 113; refine HC.out.mono ?_; rintro _ w2 ⟨⟨x, hx, rfl, hx0⟩, hx2⟩; have HX0 := hid hx0; clear hx0)
  go_ret
  exact ⟨ret_bool HX0.out, hx2⟩
end Go.Proofs.YtcdnodjcnofogaaGreatDoor
