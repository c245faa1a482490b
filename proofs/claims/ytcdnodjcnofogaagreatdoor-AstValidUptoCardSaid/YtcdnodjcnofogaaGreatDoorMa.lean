/-
  Walks: wrong, for the slices of a statement. · Walks: the small predicates of a well-formed statement. · Walks: well-formed items, sources, orders, rows, assignments; definitions and queries. · Walks: a well-formed query. · Walks: a well-formed statement.
-/
import Derived.Test.YtcdnodjcnofogaaGreatDoorW46
import Derived.Test.YtcdnodjcnofogaaGreatDoorFmP
import Derived.Test.YtcdnodjcnofogaaGreatDoorW13
import Derived.Test.YtcdnodjcnofogaaGreatDoorRow
namespace Go.Proofs.YtcdnodjcnofogaaGreatDoor
open Go.RowKit
set_option linter.unusedVariables false
set_option linter.unusedSimpArgs false
set_option maxHeartbeats 4000000
set_option maxRecDepth 100000

theorem ew_cd : Ent 158 := fun _ _ => by kernel_rfl
theorem wr1_cd (G : FuncId) (hE : Ent G) (b : Bool) (g : Nat) (x : Cd) (w : World) (hb : w.cell? ⟨g, 0, none⟩ = some (.func (Fn.func G) #[] #[]))
    (hG : ∀ (W : World), Ext w W → Calls Tryz.prog G #[.agg #[.string x.nm, .int .i64 x.ty, .int .i64 x.lo, .int .i64 x.hi, .int .i64 x.mx, .bool x.nn]] W fun r W' => r = .returned (.bool b) ∧ Ext W W') :
    Calls Tryz.prog 158 #[.agg #[.string x.nm, .int .i64 x.ty, .int .i64 x.lo, .int .i64 x.hi, .int .i64 x.mx, .bool x.nn], .pointer (some ⟨g, 0, none⟩)] w fun r w' => r = .returned (.bool (!b)) ∧ Ext w w' := by
  unfold Ent at hE
  have HG := hid hG
  have hb2 : ∀ o, (w.alloc o).cell? ⟨g, 0, none⟩ = some (.func (Fn.func G) #[] #[]) := fun o => ((Ext.refl w).alloc o).keep hb
  clear hG
  go_enter Tryz.func158, Tryz.ntmps158
  go_wp2_with fail
  refine (HG.out _ ((Ext.refl w).alloc _)).mono ?_
  rintro _ w2 ⟨rfl, hx2⟩
  go_wp2_with fail
  go_ret
  exact ⟨rfl, ((Ext.refl w).alloc _).trans hx2⟩
theorem wr_cd (G : FuncId) (hE : Ent G) (q : Cd → Bool) (l : List Cd) (A : Option Addr) (n c : Nat) (w : World) (hl : l.length = n) (hn : n ≤ 9223372036854775807) (hk : CdsAt w A l)
    (hG : ∀ x ∈ l, ∀ (W : World), Ext w W → (x.nm.size ≤ 9223372036854775807 ∧ I64 x.ty ∧ I64 x.lo ∧ I64 x.hi ∧ I64 x.mx) → Calls Tryz.prog G #[.agg #[.string x.nm, .int .i64 x.ty, .int .i64 x.lo, .int .i64 x.hi, .int .i64 x.mx, .bool x.nn]] W fun r W' => r = .returned (.bool (q x)) ∧ Ext W W') :
    Calls Tryz.prog 118 #[.slice A n c, .func (Fn.func G) #[] #[]] w fun r w' => r = .returned (.bool (l.any fun x => !q x)) ∧ Ext w w' := by
  have HC := hid (cop_cd 158 ew_cd (.pointer (some ⟨w.heap.size, 0, none⟩)) (fun x => !q x) l A n c (w.alloc (.cells #[.func (Fn.func G) #[] #[]] 120)) hl hn (hk.ext ((Ext.refl w).alloc _))
    (fun x hx W hW  hc => wr1_cd G hE (q x) w.heap.size x  W (((Blk.of_new w 120 [.func (Fn.func G) #[] #[]]).ext hW).cell_some (i := 0) rfl) fun W2 hW2 => hG x hx W2 ((((Ext.refl w).alloc _).trans hW).trans hW2)  hc))
  clear hl hk hG
  go_enter Tryz.func118, Tryz.ntmps118
  go_wp2_with (go_at_call 157; refine HC.out.mono ?_; rintro _ w2 ⟨rfl, hx2⟩)
  go_ret
  exact ⟨rfl, ((Ext.refl w).alloc _).trans hx2⟩
theorem ew_key : Ent 160 := fun _ _ => by kernel_rfl
theorem wr1_key (G : FuncId) (hE : Ent G) (b : Bool) (g : Nat) (x : (List ByteArray)) (Ai : Option Addr) (ni ci : Nat) (w : World) (hb : w.cell? ⟨g, 0, none⟩ = some (.func (Fn.func G) #[] #[]))
    (hG : ∀ (W : World), Ext w W → Calls Tryz.prog G #[.slice Ai ni ci] W fun r W' => r = .returned (.bool b) ∧ Ext W W') :
    Calls Tryz.prog 160 #[.slice Ai ni ci, .pointer (some ⟨g, 0, none⟩)] w fun r w' => r = .returned (.bool (!b)) ∧ Ext w w' := by
  unfold Ent at hE
  have HG := hid hG
  have hb2 : ∀ o, (w.alloc o).cell? ⟨g, 0, none⟩ = some (.func (Fn.func G) #[] #[]) := fun o => ((Ext.refl w).alloc o).keep hb
  clear hG
  go_enter Tryz.func160, Tryz.ntmps160
  go_wp2_with fail
  refine (HG.out _ (Ext.refl w)).mono ?_
  rintro _ w2 ⟨rfl, hx2⟩
  go_wp2_with fail
  go_ret
  exact ⟨rfl, (Ext.refl w).trans hx2⟩
theorem wr_key (G : FuncId) (hE : Ent G) (q : (List ByteArray) → Bool) (l : List (List ByteArray)) (A : Option Addr) (n c : Nat) (w : World) (hl : l.length = n) (hn : n ≤ 9223372036854775807) (hk : KeysAt w A l)
    (hG : ∀ x ∈ l, ∀ (W : World), Ext w W → ∀ (Ai : Option Addr) (ni ci : Nat), (x.length = ni ∧ ni ≤ 9223372036854775807 ∧ StrsAt W Ai x) → Calls Tryz.prog G #[.slice Ai ni ci] W fun r W' => r = .returned (.bool (q x)) ∧ Ext W W') :
    Calls Tryz.prog 120 #[.slice A n c, .func (Fn.func G) #[] #[]] w fun r w' => r = .returned (.bool (l.any fun x => !q x)) ∧ Ext w w' := by
  have HC := hid (cop_key 160 ew_key (.pointer (some ⟨w.heap.size, 0, none⟩)) (fun x => !q x) l A n c (w.alloc (.cells #[.func (Fn.func G) #[] #[]] 117)) hl hn (hk.ext ((Ext.refl w).alloc _))
    (fun x hx W hW Ai ni ci hc => wr1_key G hE (q x) w.heap.size x Ai ni ci W (((Blk.of_new w 117 [.func (Fn.func G) #[] #[]]).ext hW).cell_some (i := 0) rfl) fun W2 hW2 => hG x hx W2 ((((Ext.refl w).alloc _).trans hW).trans hW2) Ai ni ci ⟨hc.1, hc.2.1, hc.2.2.ext hW2⟩))
  clear hl hk hG
  go_enter Tryz.func120, Tryz.ntmps120
  go_wp2_with (go_at_call 159; refine HC.out.mono ?_; rintro _ w2 ⟨rfl, hx2⟩)
  go_ret
  exact ⟨rfl, ((Ext.refl w).alloc _).trans hx2⟩
theorem ew_rf : Ent 162 := fun _ _ => by kernel_rfl
theorem wr1_rf (G : FuncId) (hE : Ent G) (b : Bool) (g : Nat) (x : Rf) (A1 : Option Addr) (n1 c1 : Nat) (A2 : Option Addr) (n2 c2 : Nat) (w : World) (hb : w.cell? ⟨g, 0, none⟩ = some (.func (Fn.func G) #[] #[]))
    (hG : ∀ (W : World), Ext w W → Calls Tryz.prog G #[.agg #[.slice A1 n1 c1, .string x.tb, .slice A2 n2 c2]] W fun r W' => r = .returned (.bool b) ∧ Ext W W') :
    Calls Tryz.prog 162 #[.agg #[.slice A1 n1 c1, .string x.tb, .slice A2 n2 c2], .pointer (some ⟨g, 0, none⟩)] w fun r w' => r = .returned (.bool (!b)) ∧ Ext w w' := by
  unfold Ent at hE
  have HG := hid hG
  have hb2 : ∀ o, (w.alloc o).cell? ⟨g, 0, none⟩ = some (.func (Fn.func G) #[] #[]) := fun o => ((Ext.refl w).alloc o).keep hb
  clear hG
  go_enter Tryz.func162, Tryz.ntmps162
  go_wp2_with fail
  refine (HG.out _ ((Ext.refl w).alloc _)).mono ?_
  rintro _ w2 ⟨rfl, hx2⟩
  go_wp2_with fail
  go_ret
  exact ⟨rfl, ((Ext.refl w).alloc _).trans hx2⟩
theorem wr_rf (G : FuncId) (hE : Ent G) (q : Rf → Bool) (l : List Rf) (A : Option Addr) (n c : Nat) (w : World) (hl : l.length = n) (hn : n ≤ 9223372036854775807) (hk : RfsAt w A l)
    (hG : ∀ x ∈ l, ∀ (W : World), Ext w W → ∀ (A1 : Option Addr) (n1 c1 : Nat) (A2 : Option Addr) (n2 c2 : Nat), (x.tb.size ≤ 9223372036854775807 ∧ x.cs.length = n1 ∧ n1 ≤ 9223372036854775807 ∧ StrsAt W A1 x.cs ∧ x.tg.length = n2 ∧ n2 ≤ 9223372036854775807 ∧ StrsAt W A2 x.tg) → Calls Tryz.prog G #[.agg #[.slice A1 n1 c1, .string x.tb, .slice A2 n2 c2]] W fun r W' => r = .returned (.bool (q x)) ∧ Ext W W') :
    Calls Tryz.prog 121 #[.slice A n c, .func (Fn.func G) #[] #[]] w fun r w' => r = .returned (.bool (l.any fun x => !q x)) ∧ Ext w w' := by
  have HC := hid (cop_rf 162 ew_rf (.pointer (some ⟨w.heap.size, 0, none⟩)) (fun x => !q x) l A n c (w.alloc (.cells #[.func (Fn.func G) #[] #[]] 118)) hl hn (hk.ext ((Ext.refl w).alloc _))
    (fun x hx W hW A1 n1 c1 A2 n2 c2 hc => wr1_rf G hE (q x) w.heap.size x A1 n1 c1 A2 n2 c2 W (((Blk.of_new w 118 [.func (Fn.func G) #[] #[]]).ext hW).cell_some (i := 0) rfl) fun W2 hW2 => hG x hx W2 ((((Ext.refl w).alloc _).trans hW).trans hW2) A1 n1 c1 A2 n2 c2 ⟨hc.1, hc.2.1, hc.2.2.1, hc.2.2.2.1.ext hW2, hc.2.2.2.2.1, hc.2.2.2.2.2.1, hc.2.2.2.2.2.2.ext hW2⟩))
  clear hl hk hG
  go_enter Tryz.func121, Tryz.ntmps121
  go_wp2_with (go_at_call 161; refine HC.out.mono ?_; rintro _ w2 ⟨rfl, hx2⟩)
  go_ret
  exact ⟨rfl, ((Ext.refl w).alloc _).trans hx2⟩
theorem ew_row : Ent 123 := fun _ _ => by kernel_rfl
theorem wr1_row (G : FuncId) (hE : Ent G) (b : Bool) (g : Nat) (x : (List Ex)) (Ai : Option Addr) (ni ci : Nat) (w : World) (hb : w.cell? ⟨g, 0, none⟩ = some (.func (Fn.func G) #[] #[]))
    (hG : ∀ (W : World), Ext w W → Calls Tryz.prog G #[.slice Ai ni ci] W fun r W' => r = .returned (.bool b) ∧ Ext W W') :
    Calls Tryz.prog 123 #[.slice Ai ni ci, .pointer (some ⟨g, 0, none⟩)] w fun r w' => r = .returned (.bool (!b)) ∧ Ext w w' := by
  unfold Ent at hE
  have HG := hid hG
  have hb2 : ∀ o, (w.alloc o).cell? ⟨g, 0, none⟩ = some (.func (Fn.func G) #[] #[]) := fun o => ((Ext.refl w).alloc o).keep hb
  clear hG
  go_enter Tryz.func123, Tryz.ntmps123
  go_wp2_with fail
  refine (HG.out _ (Ext.refl w)).mono ?_
  rintro _ w2 ⟨rfl, hx2⟩
  go_wp2_with fail
  go_ret
  exact ⟨rfl, (Ext.refl w).trans hx2⟩
theorem wr_row (G : FuncId) (hE : Ent G) (q : (List Ex) → Bool) (l : List (List Ex)) (A : Option Addr) (n c : Nat) (w : World) (hl : l.length = n) (hn : n ≤ 9223372036854775807) (hk : RowsAt w A l)
    (hG : ∀ x ∈ l, ∀ (W : World), Ext w W → ∀ (Ai : Option Addr) (ni ci : Nat), (x.length = ni ∧ KidsAt W Ai x) → Calls Tryz.prog G #[.slice Ai ni ci] W fun r W' => r = .returned (.bool (q x)) ∧ Ext W W') :
    Calls Tryz.prog 75 #[.slice A n c, .func (Fn.func G) #[] #[]] w fun r w' => r = .returned (.bool (l.any fun x => !q x)) ∧ Ext w w' := by
  have HC := hid (cop_row 123 ew_row (.pointer (some ⟨w.heap.size, 0, none⟩)) (fun x => !q x) l A n c (w.alloc (.cells #[.func (Fn.func G) #[] #[]] 68)) hl hn (hk.ext ((Ext.refl w).alloc _))
    (fun x hx W hW Ai ni ci hc => wr1_row G hE (q x) w.heap.size x Ai ni ci W (((Blk.of_new w 68 [.func (Fn.func G) #[] #[]]).ext hW).cell_some (i := 0) rfl) fun W2 hW2 => hG x hx W2 ((((Ext.refl w).alloc _).trans hW).trans hW2) Ai ni ci ⟨hc.1, hc.2.ext hW2⟩))
  clear hl hk hG
  go_enter Tryz.func75, Tryz.ntmps75
  go_wp2_with (go_at_call 122; refine HC.out.mono ?_; rintro _ w2 ⟨rfl, hx2⟩)
  go_ret
  exact ⟨rfl, ((Ext.refl w).alloc _).trans hx2⟩
theorem ew_asg : Ent 126 := fun _ _ => by kernel_rfl
theorem wr1_asg (G : FuncId) (hE : Ent G) (b : Bool) (g : Nat) (x : Asg) (Ai : Option Addr) (ni ci : Nat) (w : World) (hb : w.cell? ⟨g, 0, none⟩ = some (.func (Fn.func G) #[] #[]))
    (hG : ∀ (W : World), Ext w W → Calls Tryz.prog G #[.agg #[.string x.cl, .int .i64 x.ix, .int .i64 x.ex.d.op, .string x.ex.d.tb, .string x.ex.d.nm, .int .i64 x.ex.d.ix, .int .i64 x.ex.d.vk, .int .i64 x.ex.d.vi, .string x.ex.d.vt, .slice Ai ni ci]] W fun r W' => r = .returned (.bool b) ∧ Ext W W') :
    Calls Tryz.prog 126 #[.agg #[.string x.cl, .int .i64 x.ix, .int .i64 x.ex.d.op, .string x.ex.d.tb, .string x.ex.d.nm, .int .i64 x.ex.d.ix, .int .i64 x.ex.d.vk, .int .i64 x.ex.d.vi, .string x.ex.d.vt, .slice Ai ni ci], .pointer (some ⟨g, 0, none⟩)] w fun r w' => r = .returned (.bool (!b)) ∧ Ext w w' := by
  unfold Ent at hE
  have HG := hid hG
  have hb2 : ∀ o, (w.alloc o).cell? ⟨g, 0, none⟩ = some (.func (Fn.func G) #[] #[]) := fun o => ((Ext.refl w).alloc o).keep hb
  clear hG
  go_enter Tryz.func126, Tryz.ntmps126
  go_wp2_with fail
  refine (HG.out _ ((Ext.refl w).alloc _)).mono ?_
  rintro _ w2 ⟨rfl, hx2⟩
  go_wp2_with fail
  go_ret
  exact ⟨rfl, ((Ext.refl w).alloc _).trans hx2⟩
theorem wr_asg (G : FuncId) (hE : Ent G) (q : Asg → Bool) (l : List Asg) (A : Option Addr) (n c : Nat) (w : World) (hl : l.length = n) (hn : n ≤ 9223372036854775807) (hk : AsgsAt w A l)
    (hG : ∀ x ∈ l, ∀ (W : World), Ext w W → ∀ (Ai : Option Addr) (ni ci : Nat), ExV W x.ex Ai ni ci → Calls Tryz.prog G #[.agg #[.string x.cl, .int .i64 x.ix, .int .i64 x.ex.d.op, .string x.ex.d.tb, .string x.ex.d.nm, .int .i64 x.ex.d.ix, .int .i64 x.ex.d.vk, .int .i64 x.ex.d.vi, .string x.ex.d.vt, .slice Ai ni ci]] W fun r W' => r = .returned (.bool (q x)) ∧ Ext W W') :
    Calls Tryz.prog 78 #[.slice A n c, .func (Fn.func G) #[] #[]] w fun r w' => r = .returned (.bool (l.any fun x => !q x)) ∧ Ext w w' := by
  have HC := hid (cop_asg 126 ew_asg (.pointer (some ⟨w.heap.size, 0, none⟩)) (fun x => !q x) l A n c (w.alloc (.cells #[.func (Fn.func G) #[] #[]] 98)) hl hn (hk.ext ((Ext.refl w).alloc _))
    (fun x hx W hW Ai ni ci hc => wr1_asg G hE (q x) w.heap.size x Ai ni ci W (((Blk.of_new w 98 [.func (Fn.func G) #[] #[]]).ext hW).cell_some (i := 0) rfl) fun W2 hW2 => hG x hx W2 ((((Ext.refl w).alloc _).trans hW).trans hW2) Ai ni ci (hc.ext hW2)))
  clear hl hk hG
  go_enter Tryz.func78, Tryz.ntmps78
  go_wp2_with (go_at_call 125; refine HC.out.mono ?_; rintro _ w2 ⟨rfl, hx2⟩)
  go_ret
  exact ⟨rfl, ((Ext.refl w).alloc _).trans hx2⟩
theorem ew_itm : Ent 166 := fun _ _ => by kernel_rfl
theorem wr1_itm (G : FuncId) (hE : Ent G) (b : Bool) (g : Nat) (x : Itm) (Ai : Option Addr) (ni ci : Nat) (w : World) (hb : w.cell? ⟨g, 0, none⟩ = some (.func (Fn.func G) #[] #[]))
    (hG : ∀ (W : World), Ext w W → Calls Tryz.prog G #[.agg #[.int .i64 x.ag, .int .i64 x.ex.d.op, .string x.ex.d.tb, .string x.ex.d.nm, .int .i64 x.ex.d.ix, .int .i64 x.ex.d.vk, .int .i64 x.ex.d.vi, .string x.ex.d.vt, .slice Ai ni ci]] W fun r W' => r = .returned (.bool b) ∧ Ext W W') :
    Calls Tryz.prog 166 #[.agg #[.int .i64 x.ag, .int .i64 x.ex.d.op, .string x.ex.d.tb, .string x.ex.d.nm, .int .i64 x.ex.d.ix, .int .i64 x.ex.d.vk, .int .i64 x.ex.d.vi, .string x.ex.d.vt, .slice Ai ni ci], .pointer (some ⟨g, 0, none⟩)] w fun r w' => r = .returned (.bool (!b)) ∧ Ext w w' := by
  unfold Ent at hE
  have HG := hid hG
  have hb2 : ∀ o, (w.alloc o).cell? ⟨g, 0, none⟩ = some (.func (Fn.func G) #[] #[]) := fun o => ((Ext.refl w).alloc o).keep hb
  clear hG
  go_enter Tryz.func166, Tryz.ntmps166
  go_wp2_with fail
  refine (HG.out _ ((Ext.refl w).alloc _)).mono ?_
  rintro _ w2 ⟨rfl, hx2⟩
  go_wp2_with fail
  go_ret
  exact ⟨rfl, ((Ext.refl w).alloc _).trans hx2⟩
theorem wr_itm (G : FuncId) (hE : Ent G) (q : Itm → Bool) (l : List Itm) (A : Option Addr) (n c : Nat) (w : World) (hl : l.length = n) (hn : n ≤ 9223372036854775807) (hk : ItmsAt w A l)
    (hG : ∀ x ∈ l, ∀ (W : World), Ext w W → ∀ (Ai : Option Addr) (ni ci : Nat), ExV W x.ex Ai ni ci → Calls Tryz.prog G #[.agg #[.int .i64 x.ag, .int .i64 x.ex.d.op, .string x.ex.d.tb, .string x.ex.d.nm, .int .i64 x.ex.d.ix, .int .i64 x.ex.d.vk, .int .i64 x.ex.d.vi, .string x.ex.d.vt, .slice Ai ni ci]] W fun r W' => r = .returned (.bool (q x)) ∧ Ext W W') :
    Calls Tryz.prog 131 #[.slice A n c, .func (Fn.func G) #[] #[]] w fun r w' => r = .returned (.bool (l.any fun x => !q x)) ∧ Ext w w' := by
  have HC := hid (cop_itm 166 ew_itm (.pointer (some ⟨w.heap.size, 0, none⟩)) (fun x => !q x) l A n c (w.alloc (.cells #[.func (Fn.func G) #[] #[]] 127)) hl hn (hk.ext ((Ext.refl w).alloc _))
    (fun x hx W hW Ai ni ci hc => wr1_itm G hE (q x) w.heap.size x Ai ni ci W (((Blk.of_new w 127 [.func (Fn.func G) #[] #[]]).ext hW).cell_some (i := 0) rfl) fun W2 hW2 => hG x hx W2 ((((Ext.refl w).alloc _).trans hW).trans hW2) Ai ni ci (hc.ext hW2)))
  clear hl hk hG
  go_enter Tryz.func131, Tryz.ntmps131
  go_wp2_with (go_at_call 165; refine HC.out.mono ?_; rintro _ w2 ⟨rfl, hx2⟩)
  go_ret
  exact ⟨rfl, ((Ext.refl w).alloc _).trans hx2⟩
theorem ew_src : Ent 168 := fun _ _ => by kernel_rfl
theorem wr1_src (G : FuncId) (hE : Ent G) (b : Bool) (g : Nat) (x : Src) (w : World) (hb : w.cell? ⟨g, 0, none⟩ = some (.func (Fn.func G) #[] #[]))
    (hG : ∀ (W : World), Ext w W → Calls Tryz.prog G #[.agg #[.string x.tb, .string x.al]] W fun r W' => r = .returned (.bool b) ∧ Ext W W') :
    Calls Tryz.prog 168 #[.agg #[.string x.tb, .string x.al], .pointer (some ⟨g, 0, none⟩)] w fun r w' => r = .returned (.bool (!b)) ∧ Ext w w' := by
  unfold Ent at hE
  have HG := hid hG
  have hb2 : ∀ o, (w.alloc o).cell? ⟨g, 0, none⟩ = some (.func (Fn.func G) #[] #[]) := fun o => ((Ext.refl w).alloc o).keep hb
  clear hG
  go_enter Tryz.func168, Tryz.ntmps168
  go_wp2_with fail
  refine (HG.out _ ((Ext.refl w).alloc _)).mono ?_
  rintro _ w2 ⟨rfl, hx2⟩
  go_wp2_with fail
  go_ret
  exact ⟨rfl, ((Ext.refl w).alloc _).trans hx2⟩
theorem wr_src (G : FuncId) (hE : Ent G) (q : Src → Bool) (l : List Src) (A : Option Addr) (n c : Nat) (w : World) (hl : l.length = n) (hn : n ≤ 9223372036854775807) (hk : SrcsAt w A l)
    (hG : ∀ x ∈ l, ∀ (W : World), Ext w W → (x.tb.size ≤ 9223372036854775807 ∧ x.al.size ≤ 9223372036854775807) → Calls Tryz.prog G #[.agg #[.string x.tb, .string x.al]] W fun r W' => r = .returned (.bool (q x)) ∧ Ext W W') :
    Calls Tryz.prog 133 #[.slice A n c, .func (Fn.func G) #[] #[]] w fun r w' => r = .returned (.bool (l.any fun x => !q x)) ∧ Ext w w' := by
  have HC := hid (cop_src 168 ew_src (.pointer (some ⟨w.heap.size, 0, none⟩)) (fun x => !q x) l A n c (w.alloc (.cells #[.func (Fn.func G) #[] #[]] 123)) hl hn (hk.ext ((Ext.refl w).alloc _))
    (fun x hx W hW  hc => wr1_src G hE (q x) w.heap.size x  W (((Blk.of_new w 123 [.func (Fn.func G) #[] #[]]).ext hW).cell_some (i := 0) rfl) fun W2 hW2 => hG x hx W2 ((((Ext.refl w).alloc _).trans hW).trans hW2)  hc))
  clear hl hk hG
  go_enter Tryz.func133, Tryz.ntmps133
  go_wp2_with (go_at_call 167; refine HC.out.mono ?_; rintro _ w2 ⟨rfl, hx2⟩)
  go_ret
  exact ⟨rfl, ((Ext.refl w).alloc _).trans hx2⟩
theorem ew_ord : Ent 170 := fun _ _ => by kernel_rfl
theorem wr1_ord (G : FuncId) (hE : Ent G) (b : Bool) (g : Nat) (x : Ord') (w : World) (hb : w.cell? ⟨g, 0, none⟩ = some (.func (Fn.func G) #[] #[]))
    (hG : ∀ (W : World), Ext w W → Calls Tryz.prog G #[.agg #[.int .i64 x.it, .bool x.ds]] W fun r W' => r = .returned (.bool b) ∧ Ext W W') :
    Calls Tryz.prog 170 #[.agg #[.int .i64 x.it, .bool x.ds], .pointer (some ⟨g, 0, none⟩)] w fun r w' => r = .returned (.bool (!b)) ∧ Ext w w' := by
  unfold Ent at hE
  have HG := hid hG
  have hb2 : ∀ o, (w.alloc o).cell? ⟨g, 0, none⟩ = some (.func (Fn.func G) #[] #[]) := fun o => ((Ext.refl w).alloc o).keep hb
  clear hG
  go_enter Tryz.func170, Tryz.ntmps170
  go_wp2_with fail
  refine (HG.out _ ((Ext.refl w).alloc _)).mono ?_
  rintro _ w2 ⟨rfl, hx2⟩
  go_wp2_with fail
  go_ret
  exact ⟨rfl, ((Ext.refl w).alloc _).trans hx2⟩
theorem wr_ord (G : FuncId) (hE : Ent G) (q : Ord' → Bool) (l : List Ord') (A : Option Addr) (n c : Nat) (w : World) (hl : l.length = n) (hn : n ≤ 9223372036854775807) (hk : OrdsAt w A l)
    (hG : ∀ x ∈ l, ∀ (W : World), Ext w W → I64 x.it → Calls Tryz.prog G #[.agg #[.int .i64 x.it, .bool x.ds]] W fun r W' => r = .returned (.bool (q x)) ∧ Ext W W') :
    Calls Tryz.prog 134 #[.slice A n c, .func (Fn.func G) #[] #[]] w fun r w' => r = .returned (.bool (l.any fun x => !q x)) ∧ Ext w w' := by
  have HC := hid (cop_ord 170 ew_ord (.pointer (some ⟨w.heap.size, 0, none⟩)) (fun x => !q x) l A n c (w.alloc (.cells #[.func (Fn.func G) #[] #[]] 125)) hl hn (hk.ext ((Ext.refl w).alloc _))
    (fun x hx W hW  hc => wr1_ord G hE (q x) w.heap.size x  W (((Blk.of_new w 125 [.func (Fn.func G) #[] #[]]).ext hW).cell_some (i := 0) rfl) fun W2 hW2 => hG x hx W2 ((((Ext.refl w).alloc _).trans hW).trans hW2)  hc))
  clear hl hk hG
  go_enter Tryz.func134, Tryz.ntmps134
  go_wp2_with (go_at_call 169; refine HC.out.mono ?_; rintro _ w2 ⟨rfl, hx2⟩)
  go_ret
  exact ⟨rfl, ((Ext.refl w).alloc _).trans hx2⟩
theorem ew_ex : Ent 124 := fun _ _ => by kernel_rfl
theorem wr1_ex (G : FuncId) (hE : Ent G) (b : Bool) (g : Nat) (x : Ex) (Ai : Option Addr) (ni ci : Nat) (w : World) (hb : w.cell? ⟨g, 0, none⟩ = some (.func (Fn.func G) #[] #[]))
    (hG : ∀ (W : World), Ext w W → Calls Tryz.prog G #[x.d.val Ai ni ci] W fun r W' => r = .returned (.bool b) ∧ Ext W W') :
    Calls Tryz.prog 124 #[x.d.val Ai ni ci, .pointer (some ⟨g, 0, none⟩)] w fun r w' => r = .returned (.bool (!b)) ∧ Ext w w' := by
  unfold Ent at hE
  have HG := hid hG
  have hb2 : ∀ o, (w.alloc o).cell? ⟨g, 0, none⟩ = some (.func (Fn.func G) #[] #[]) := fun o => ((Ext.refl w).alloc o).keep hb
  clear hG
  unfold Nd.val at HG ⊢
  generalize x.d = d at *
  obtain ⟨op, tb, nm, ix, vk, vi, vt⟩ := d
  simp only at *
  go_enter Tryz.func124, Tryz.ntmps124
  go_wp2_with fail
  refine (HG.out _ ((Ext.refl w).alloc _)).mono ?_
  rintro _ w2 ⟨rfl, hx2⟩
  go_wp2_with fail
  go_ret
  exact ⟨rfl, ((Ext.refl w).alloc _).trans hx2⟩
theorem wr_ex (G : FuncId) (hE : Ent G) (q : Ex → Bool) (l : List Ex) (A : Option Addr) (n c : Nat) (w : World) (hl : l.length = n) (hn : n ≤ 9223372036854775807) (hk : KidsAt w A l)
    (hG : ∀ x ∈ l, ∀ (W : World), Ext w W → ∀ (Ai : Option Addr) (ni ci : Nat), ExV W x Ai ni ci → Calls Tryz.prog G #[x.d.val Ai ni ci] W fun r W' => r = .returned (.bool (q x)) ∧ Ext W W') :
    Calls Tryz.prog 77 #[.slice A n c, .func (Fn.func G) #[] #[]] w fun r w' => r = .returned (.bool (l.any fun x => !q x)) ∧ Ext w w' := by
  have HC := hid (cop_ex 124 ew_ex (.pointer (some ⟨w.heap.size, 0, none⟩)) (fun x => !q x) l A n c (w.alloc (.cells #[.func (Fn.func G) #[] #[]] 43)) hl hn (hk.ext ((Ext.refl w).alloc _))
    (fun x hx W hW Ai ni ci hc => wr1_ex G hE (q x) w.heap.size x Ai ni ci W (((Blk.of_new w 43 [.func (Fn.func G) #[] #[]]).ext hW).cell_some (i := 0) rfl) fun W2 hW2 => hG x hx W2 ((((Ext.refl w).alloc _).trans hW).trans hW2) Ai ni ci (hc.ext hW2)))
  clear hl hk hG
  go_enter Tryz.func77, Tryz.ntmps77
  go_wp2_with (go_at_call 68; refine HC.out.mono ?_; rintro _ w2 ⟨rfl, hx2⟩)
  go_ret
  exact ⟨rfl, ((Ext.refl w).alloc _).trans hx2⟩
end Go.Proofs.YtcdnodjcnofogaaGreatDoor
namespace Go.Proofs.YtcdnodjcnofogaaGreatDoor
open Go.RowKit
set_option linter.unusedVariables false
set_option linter.unusedSimpArgs false
set_option maxHeartbeats 4000000
set_option maxRecDepth 100000

theorem names1 (s : ByteArray) (w : World) (hw : Sh w) (hm : s.size ≤ 9223372036854775807) : Calls Tryz.prog 156 #[.string s] w fun r w' => r = .returned (.bool (!nameB s)) ∧ Ext w w' := by
  have HN := hid (name_any s w hw hm)
  clear hw hm
  generalize nameB s = b at *
  go_enter Tryz.func156, Tryz.ntmps156
  go_wp2_with (go_at_call 71; refine HN.out.mono ?_; rintro _ _ ⟨rfl, rfl⟩)
  go_ret
  exact ⟨rfl, Ext.refl _⟩
theorem ent_names1 : Ent 156 := fun _ _ => by kernel_rfl
theorem ent_names : Ent 117 := fun _ _ => by kernel_rfl
theorem ent_formed : Ent 47 := fun _ _ => by kernel_rfl
theorem names_any (l : List ByteArray) (A : Option Addr) (n c : Nat) (w : World) (hw : Sh w) (hl : l.length = n) (hn : n ≤ 9223372036854775807) (hs : StrsAt w A l) :
    Calls Tryz.prog 117 #[.slice A n c] w fun r w' => r = .returned (.bool (namesB l)) ∧ Ext w w' := by
  have HC := hid (co_str 156 ent_names1 (fun s => !nameB s) l A n c w hl hn hs fun x _ W hW hc => names1 x W (hw.ext hW) hc)
  have HR := hid (namesB_eq l)
  rw [hl] at HR
  generalize namesB l = R at *
  generalize (l.any fun s => !nameB s) = b at *
  clear hw hs hl
  by_cases h0 : 0 < n
  · have d0 : decide ((0 : Int) < (n : Int)) = true := by simp; omega
    have HR2 : Hid (R = !b) := by unfold Hid; rw [HR.out]; simp [h0]
    go_enter Tryz.func117, Tryz.ntmps117
    go_wp2_with (go_at_call 155; refine HC.out.mono ?_; rintro _ w2 ⟨rfl, hx2⟩)
    go_ret
    exact ⟨ret_bool HR2.out.symm, hx2⟩
  · have d0 : decide ((0 : Int) < (n : Int)) = false := by simp; omega
    have HR2 : Hid (R = false) := by unfold Hid; rw [HR.out]; simp [h0]
    go_enter Tryz.func117, Tryz.ntmps117
    go_wp2_with (go_at_call 155; refine HC.out.mono ?_; rintro _ w2 ⟨rfl, hx2⟩)
    go_ret
    exact ⟨ret_bool HR2.out.symm, Ext.refl w⟩
theorem colok_any (x : Cd) (w : World) (hw : Sh w) (hc : x.nm.size ≤ 9223372036854775807 ∧ I64 x.ty ∧ I64 x.lo ∧ I64 x.hi ∧ I64 x.mx) :
    Calls Tryz.prog 119 #[.agg #[.string x.nm, .int .i64 x.ty, .int .i64 x.lo, .int .i64 x.hi, .int .i64 x.mx, .bool x.nn]] w fun r w' => r = .returned (.bool x.ok) ∧ Ext w w' := by
  have HN := hid (fun W (hW : Ext w W) => name_any x.nm W (hw.ext hW) hc.1)
  have HW1 := hid (fun W => within_any x.lo (-2147483648) 2147483648 W)
  have HW2 := hid (fun W => within_any x.hi (-2147483648) 2147483648 W)
  have HW3 := hid (fun W => within_any x.mx 0 2147483648 W)
  obtain ⟨R, hR⟩ : ∃ R, x.ok = R := ⟨_, rfl⟩
  rw [hR]
  unfold Cd.ok inB at hR
  clear hw hc
  generalize nameB x.nm = bn at *
  generalize (decide (-2147483648 ≤ x.lo) && decide (x.lo ≤ 2147483648)) = b1 at *
  generalize (decide (-2147483648 ≤ x.hi) && decide (x.hi ≤ 2147483648)) = b2 at *
  generalize (decide (0 ≤ x.mx) && decide (x.mx ≤ 2147483648)) = b3 at *
  obtain ⟨t1, ht1⟩ : ∃ b, (x.ty == 1) = b := ⟨_, rfl⟩
  obtain ⟨t2, ht2⟩ : ∃ b, (x.ty == 2) = b := ⟨_, rfl⟩
  obtain ⟨z1, hz1⟩ : ∃ b, (x.lo == 0) = b := ⟨_, rfl⟩
  obtain ⟨z2, hz2⟩ : ∃ b, (x.hi == 0) = b := ⟨_, rfl⟩
  obtain ⟨z3, hz3⟩ : ∃ b, (x.mx == 0) = b := ⟨_, rfl⟩
  rw [ht1, ht2, hz1, hz2, hz3] at hR
  have HR := hid hR
  clear hR
  cases t1
  · cases t2 <;> cases bn <;> cases z1 <;> cases z2
    all_goals
      go_enter Tryz.func119, Tryz.ntmps119
      go_wp2_with (first | (go_at_call 71; (with_reducible refine (HN.out _ ((Ext.refl w).alloc _)).mono ?_); rintro _ _ ⟨rfl, rfl⟩) | (go_at_call 130; (with_reducible refine (HW3.out _).mono ?_); rintro _ _ ⟨rfl, rfl⟩))
      go_ret
      exact ⟨ret_bool (by rw [← HR.out]; simp), (Ext.refl w).alloc _⟩
  · cases bn <;> cases b1 <;> cases b2
    all_goals
      go_enter Tryz.func119, Tryz.ntmps119
      go_wp2_with (first | (go_at_call 71; (with_reducible refine (HN.out _ ((Ext.refl w).alloc _)).mono ?_); rintro _ _ ⟨rfl, rfl⟩) | (go_at_call 130; (with_reducible refine (HW1.out _).mono ?_); rintro _ _ ⟨rfl, rfl⟩) | (go_at_call 130; (with_reducible refine (HW2.out _).mono ?_); rintro _ _ ⟨rfl, rfl⟩))
      go_ret
      exact ⟨ret_bool (by rw [← HR.out]; simp [hz3]), (Ext.refl w).alloc _⟩
theorem ent_col : Ent 119 := fun _ _ => by kernel_rfl
theorem rfok_any (x : Rf) (A1 : Option Addr) (n1 c1 : Nat) (A2 : Option Addr) (n2 c2 : Nat) (w : World) (hw : Sh w)
    (hc : x.tb.size ≤ 9223372036854775807 ∧ x.cs.length = n1 ∧ n1 ≤ 9223372036854775807 ∧ StrsAt w A1 x.cs ∧ x.tg.length = n2 ∧ n2 ≤ 9223372036854775807 ∧ StrsAt w A2 x.tg) :
    Calls Tryz.prog 116 #[.agg #[.slice A1 n1 c1, .string x.tb, .slice A2 n2 c2]] w fun r w' => r = .returned (.bool x.ok) ∧ Ext w w' := by
  obtain ⟨h0, h1, h2, h3, h4, h5, h6⟩ := hc
  have HN := hid (fun W (hW : Ext w W) => name_any x.tb W (hw.ext hW) h0)
  have H1 := hid (fun W (hW : Ext w W) => names_any x.cs A1 n1 c1 W (hw.ext hW) h1 h2 (h3.ext hW))
  have H2 := hid (fun W (hW : Ext w W) => names_any x.tg A2 n2 c2 W (hw.ext hW) h4 h5 (h6.ext hW))
  have HB := hid (Blk.of_new w 67 [.slice A1 n1 c1, .string x.tb, .slice A2 n2 c2])
  clear hw h1 h2 h3 h4 h5 h6 h0
  unfold Rf.ok
  generalize nameB x.tb = bn at *
  generalize namesB x.cs = b1 at *
  generalize namesB x.tg = b2 at *
  cases b1 <;> cases bn
  all_goals
    go_enter Tryz.func116, Tryz.ntmps116
    go_wp2_with (first | (go_at_call 71; (with_reducible refine (HN.out _ (((Ext.refl w).alloc _).trans hx2)).mono ?_); rintro _ _ ⟨rfl, rfl⟩) | (go_at_call 117; (with_reducible refine (H2.out _ (((Ext.refl w).alloc _).trans hx2)).mono ?_); rintro _ w3 ⟨rfl, hx3⟩) | (go_at_call 117; (with_reducible refine (H1.out _ ((Ext.refl w).alloc _)).mono ?_); rintro _ w2 ⟨rfl, hx2⟩; have e1 := (HB.out.ext hx2).cell 1; have e2 := (HB.out.ext hx2).cell 2; simp only [List.getElem?_cons_succ, List.getElem?_cons_zero] at e1 e2))
    go_ret
    first | exact ⟨rfl, (((Ext.refl w).alloc _).trans hx2).trans hx3⟩ | exact ⟨rfl, ((Ext.refl w).alloc _).trans hx2⟩
theorem ent_rf : Ent 116 := fun _ _ => by kernel_rfl
end Go.Proofs.YtcdnodjcnofogaaGreatDoor
namespace Go.Proofs.YtcdnodjcnofogaaGreatDoor
open Go.RowKit
set_option linter.unusedVariables false
set_option linter.unusedSimpArgs false
set_option maxHeartbeats 4000000
set_option maxRecDepth 100000

theorem itmok_any (x : Itm) (A : Option Addr) (n c : Nat) (w : World) (hw : Sh w) (hv : ExV w x.ex A n c) :
    Calls Tryz.prog 132 #[.agg #[.int .i64 x.ag, .int .i64 x.ex.d.op, .string x.ex.d.tb, .string x.ex.d.nm, .int .i64 x.ex.d.ix, .int .i64 x.ex.d.vk, .int .i64 x.ex.d.vi, .string x.ex.d.vt, .slice A n c]] w fun r w' => r = .returned (.bool x.ok) ∧ Ext w w' := by
  have HF := hid (fun W (hW : Ext w W) => formed_any x.ex A n c W (hv.ext hW) (hw.ext hW))
  have HA := hid (fun W (hW : Ext w W) => absent_any x.ex A n c W (hv.ext hW))
  obtain ⟨R, hR⟩ : ∃ R, x.ok = R := ⟨_, rfl⟩
  rw [hR]
  unfold Itm.ok at hR
  unfold Nd.val at HF HA
  clear hw hv
  generalize x.ex.formed = bf at *
  generalize x.ex.absent = ba at *
  generalize x.ex.d = d at *
  obtain ⟨op, tb, nm, ix, vk, vi, vt⟩ := d
  simp only at *
  obtain ⟨t1, ht1⟩ : ∃ b, (x.ag == 1) = b := ⟨_, rfl⟩
  obtain ⟨t2, ht2⟩ : ∃ b, decide (0 ≤ x.ag) = b := ⟨_, rfl⟩
  obtain ⟨t3, ht3⟩ : ∃ b, decide (x.ag ≤ 5) = b := ⟨_, rfl⟩
  rw [ht1, ht2, ht3] at hR
  have HR := hid hR
  clear hR
  cases t1
  · cases t2 <;> cases t3
    all_goals
      go_enter Tryz.func132, Tryz.ntmps132
      go_wp2_with (go_at_call 47; (with_reducible refine (HF.out _ ((Ext.refl w).alloc _)).mono ?_); rintro _ w2 ⟨rfl, hx2⟩)
      go_ret
      first | exact ⟨ret_bool (by rw [← HR.out]; simp), ((Ext.refl w).alloc _).trans hx2⟩ | exact ⟨ret_bool (by rw [← HR.out]; simp), (Ext.refl w).alloc _⟩
  · go_enter Tryz.func132, Tryz.ntmps132
    go_wp2_with (go_at_call 72; (with_reducible refine (HA.out _ ((Ext.refl w).alloc _)).mono ?_); rintro _ w2 ⟨rfl, hx2⟩)
    go_ret
    exact ⟨ret_bool (by rw [← HR.out]; simp), ((Ext.refl w).alloc _).trans hx2⟩
theorem ent_itm : Ent 132 := fun _ _ => by kernel_rfl
theorem srcok_any (x : Src) (w : World) (hw : Sh w) (hc : x.tb.size ≤ 9223372036854775807 ∧ x.al.size ≤ 9223372036854775807) :
    Calls Tryz.prog 127 #[.agg #[.string x.tb, .string x.al]] w fun r w' => r = .returned (.bool x.ok) ∧ Ext w w' := by
  have HN := hid (fun W (hW : Ext w W) => name_any x.tb W (hw.ext hW) hc.1)
  have HN2 := hid (fun W (hW : Ext w W) => name_any x.al W (hw.ext hW) hc.2)
  obtain ⟨R, hR⟩ : ∃ R, x.ok = R := ⟨_, rfl⟩
  rw [hR]
  unfold Src.ok at hR
  clear hw hc
  generalize nameB x.tb = b1 at *
  generalize nameB x.al = b2 at *
  obtain ⟨t1, ht1⟩ : ∃ b, x.al.toList.isEmpty = b := ⟨_, rfl⟩
  rw [ht1] at hR
  have HR := hid hR
  clear hR
  cases b1 <;> cases t1
  all_goals
    go_enter Tryz.func127, Tryz.ntmps127
    go_wp2_with (first | (go_at_call 71; (with_reducible refine (HN.out _ ((Ext.refl w).alloc _)).mono ?_); rintro _ _ ⟨rfl, rfl⟩) | (go_at_call 71; (with_reducible refine (HN2.out _ ((Ext.refl w).alloc _)).mono ?_); rintro _ _ ⟨rfl, rfl⟩))
    go_ret
    exact ⟨ret_bool (by rw [← HR.out]; simp), (Ext.refl w).alloc _⟩
theorem ent_src : Ent 127 := fun _ _ => by kernel_rfl
theorem colx_any (x : Ex) (A : Option Addr) (n c : Nat) (w : World) (hw : Sh w) (hv : ExV w x A n c) :
    Calls Tryz.prog 128 #[x.d.val A n c] w fun r w' => r = .returned (.bool (colX x)) ∧ Ext w w' := by
  have HF := hid (fun W (hW : Ext w W) => formed_any x A n c W (hv.ext hW) (hw.ext hW))
  obtain ⟨R, hR⟩ : ∃ R, colX x = R := ⟨_, rfl⟩
  rw [hR]
  unfold colX at hR
  unfold Nd.val at HF ⊢
  clear hw hv
  generalize x.formed = bf at *
  generalize x.d = d at *
  obtain ⟨op, tb, nm, ix, vk, vi, vt⟩ := d
  simp only at *
  obtain ⟨t1, ht1⟩ : ∃ b, (op == 2) = b := ⟨_, rfl⟩
  rw [ht1] at hR
  have HR := hid hR
  clear hR
  cases t1
  all_goals
    go_enter Tryz.func128, Tryz.ntmps128
    go_wp2_with (go_at_call 47; (with_reducible refine (HF.out _ ((Ext.refl w).alloc _)).mono ?_); rintro _ w2 ⟨rfl, hx2⟩)
    go_ret
    first | exact ⟨ret_bool (by rw [← HR.out]; simp), ((Ext.refl w).alloc _).trans hx2⟩ | exact ⟨ret_bool (by rw [← HR.out]; simp), (Ext.refl w).alloc _⟩
theorem ent_colx : Ent 128 := fun _ _ => by kernel_rfl
theorem ordok_any (x : Ord') (w : World) (hc : I64 x.it) :
    Calls Tryz.prog 129 #[.agg #[.int .i64 x.it, .bool x.ds]] w fun r w' => r = .returned (.bool x.ok) ∧ Ext w w' := by
  have HW := hid (fun W => within_any x.it 1 2147483648 W)
  obtain ⟨R, hR⟩ : ∃ R, x.ok = R := ⟨_, rfl⟩
  rw [hR]
  unfold Ord'.ok inB at hR
  rw [hR] at HW
  clear hc hR
  go_enter Tryz.func129, Tryz.ntmps129
  go_wp2_with (go_at_call 130; (with_reducible refine (HW.out _).mono ?_); rintro _ _ ⟨rfl, rfl⟩)
  go_ret
  exact ⟨rfl, (Ext.refl w).alloc _⟩
theorem ent_ord : Ent 129 := fun _ _ => by kernel_rfl
theorem wrongex_any (l : List Ex) (A : Option Addr) (n c : Nat) (w : World) (hw : Sh w) (hl : l.length = n) (hn : n ≤ 9223372036854775807) (hk : KidsAt w A l) :
    Calls Tryz.prog 77 #[.slice A n c, .func (Fn.func 47 ) #[] #[]] w fun r w' => r = .returned (.bool (!l.all Ex.formed)) ∧ Ext w w' := by
  have := wr_ex 47 ent_formed Ex.formed l A n c w hl hn hk fun x _ W hW Ai ni ci hc => formed_any x Ai ni ci W hc (hw.ext hW)
  rwa [any_not] at this
theorem rowok_any (l : List Ex) (A : Option Addr) (n c : Nat) (w : World) (hw : Sh w) (hn : n ≤ 9223372036854775807) (hc : l.length = n ∧ KidsAt w A l) :
    Calls Tryz.prog 76 #[.slice A n c] w fun r w' => r = .returned (.bool (rowOk l)) ∧ Ext w w' := by
  have HC := hid (wrongex_any l A n c w hw hc.1 hn hc.2)
  have HR : Hid (rowOk l = (decide (0 < n) && l.all Ex.formed)) := by unfold Hid rowOk; rw [hc.1]
  clear hw hc
  generalize rowOk l = R at *
  generalize l.all Ex.formed = b at *
  by_cases h0 : 0 < n
  · have d0 : decide ((0 : Int) < (n : Int)) = true := by simp; omega
    have HR2 : Hid (R = b) := by unfold Hid; rw [HR.out]; simp [h0]
    go_enter Tryz.func76, Tryz.ntmps76
    go_wp2_with (go_at_call 77; refine HC.out.mono ?_; rintro _ w2 ⟨rfl, hx2⟩)
    go_ret
    exact ⟨ret_bool (by first | exact HR2.out.symm | (rw [HR2.out]; simp)), hx2⟩
  · have d0 : decide ((0 : Int) < (n : Int)) = false := by simp; omega
    have HR2 : Hid (R = false) := by unfold Hid; rw [HR.out]; simp [h0]
    go_enter Tryz.func76, Tryz.ntmps76
    go_wp2_with (go_at_call 77; refine HC.out.mono ?_; rintro _ w2 ⟨rfl, hx2⟩)
    go_ret
    exact ⟨ret_bool HR2.out.symm, Ext.refl w⟩
theorem ent_row : Ent 76 := fun _ _ => by kernel_rfl
theorem asgok_any (x : Asg) (A : Option Addr) (n c : Nat) (w : World) (hw : Sh w) (hz : x.cl.size ≤ 9223372036854775807) (hv : ExV w x.ex A n c) :
    Calls Tryz.prog 79 #[.agg #[.string x.cl, .int .i64 x.ix, .int .i64 x.ex.d.op, .string x.ex.d.tb, .string x.ex.d.nm, .int .i64 x.ex.d.ix, .int .i64 x.ex.d.vk, .int .i64 x.ex.d.vi, .string x.ex.d.vt, .slice A n c]] w fun r w' => r = .returned (.bool x.ok) ∧ Ext w w' := by
  have HF := hid (fun W (hW : Ext w W) => formed_any x.ex A n c W (hv.ext hW) (hw.ext hW))
  have HN := hid (fun W (hW : Ext w W) => name_any x.cl W (hw.ext hW) hz)
  obtain ⟨R, hR⟩ : ∃ R, x.ok = R := ⟨_, rfl⟩
  rw [hR]
  unfold Asg.ok at hR
  unfold Nd.val at HF
  clear hw hv hz
  generalize x.ex.formed = bf at *
  generalize nameB x.cl = bn at *
  generalize x.ex.d = d at *
  obtain ⟨op, tb, nm, ix, vk, vi, vt⟩ := d
  simp only at *
  have HR := hid hR
  clear hR
  cases bn
  all_goals
    go_enter Tryz.func79, Tryz.ntmps79
    go_wp2_with (first | (go_at_call 71; (with_reducible refine (HN.out _ ((Ext.refl w).alloc _)).mono ?_); rintro _ _ ⟨rfl, rfl⟩) | (go_at_call 47; (with_reducible refine (HF.out _ ((Ext.refl w).alloc _)).mono ?_); rintro _ w2 ⟨rfl, hx2⟩))
    go_ret
    first | exact ⟨ret_bool (by rw [← HR.out]; simp), ((Ext.refl w).alloc _).trans hx2⟩ | exact ⟨ret_bool (by rw [← HR.out]; simp), (Ext.refl w).alloc _⟩
theorem ent_asg : Ent 79 := fun _ _ => by kernel_rfl
theorem empty_any (s : St) (a : SA) (w : World) (hv : StV w s a) (hb : s.cols.length + s.keys.length + s.frs.length + s.chk.length ≤ 1048576) :
    Calls Tryz.prog 73 #[.agg #[.slice a.cols.A a.cols.n a.cols.c, .slice a.keys.A a.keys.n a.keys.c, .slice a.frs.A a.frs.n a.frs.c, .slice a.chk.A a.chk.n a.chk.c]] w fun r w' => r = .returned (.bool s.noDef) ∧ Ext w w' := by
  have HR : Hid (s.noDef = decide (a.cols.n + a.keys.n + a.frs.n + a.chk.n = 0)) := by unfold Hid St.noDef; rw [hv.cols.1, hv.keys.1, hv.frs.1, hv.chk.1]
  rw [hv.cols.1, hv.keys.1, hv.frs.1, hv.chk.1] at hb
  rw [HR.out]
  clear hv HR
  generalize a.cols.n = n1 at *
  generalize a.keys.n = n2 at *
  generalize a.frs.n = n3 at *
  generalize a.chk.n = n4 at *
  go_enter Tryz.func73, Tryz.ntmps73
  go_wp2_with fail
  go_ret
  refine ⟨ret_bool ?_, (Ext.refl w).alloc _⟩
  rw [Bool.eq_iff_iff]
  simp only [beq_iff_eq, decide_eq_true_eq]
  omega
theorem def_any (s : St) (a : SA) (w : World) (hw : Sh w) (hv : StV w s a) (hb : s.cols.length + s.keys.length + s.frs.length + s.chk.length ≤ 1048576) :
    Calls Tryz.prog 74 #[.agg #[.slice a.cols.A a.cols.n a.cols.c, .slice a.keys.A a.keys.n a.keys.c, .slice a.frs.A a.frs.n a.frs.c, .slice a.chk.A a.chk.n a.chk.c]] w fun r w' => r = .returned (.bool s.defOk) ∧ Ext w w' := by
  have H0 := hid (fun W (hW : Ext w W) => empty_any s a W (hv.ext hW) hb)
  have H1 := hid (fun W (hW : Ext w W) => wr_cd 119 ent_col Cd.ok s.cols a.cols.A a.cols.n a.cols.c W hv.cols.1 hv.cols.2.1 (hv.cols.2.2.ext hW) fun x _ W2 hW2 hc => colok_any x W2 (hw.ext (hW.trans hW2)) hc)
  have H2 := hid (fun W (hW : Ext w W) => wr_key 117 ent_names namesB s.keys a.keys.A a.keys.n a.keys.c W hv.keys.1 hv.keys.2.1 (hv.keys.2.2.ext hW) fun x _ W2 hW2 Ai ni ci hc => names_any x Ai ni ci W2 (hw.ext (hW.trans hW2)) hc.1 hc.2.1 hc.2.2)
  have H3 := hid (fun W (hW : Ext w W) => wr_rf 116 ent_rf Rf.ok s.frs a.frs.A a.frs.n a.frs.c W hv.frs.1 hv.frs.2.1 (hv.frs.2.2.ext hW) fun x _ W2 hW2 A1 n1 c1 A2 n2 c2 hc => rfok_any x A1 n1 c1 A2 n2 c2 W2 (hw.ext (hW.trans hW2)) hc)
  have H4 := hid (fun W (hW : Ext w W) => wrongex_any s.chk a.chk.A a.chk.n a.chk.c W (hw.ext hW) hv.chk.1 hv.chk.2.1 (hv.chk.2.2.ext hW))
  simp only [any_not] at H1 H2 H3
  have HB := hid (Blk.of_new w 27 [.slice a.cols.A a.cols.n a.cols.c, .slice a.keys.A a.keys.n a.keys.c, .slice a.frs.A a.frs.n a.frs.c, .slice a.chk.A a.chk.n a.chk.c])
  clear hw hv hb
  obtain ⟨R, hR⟩ : ∃ R, s.defOk = R := ⟨_, rfl⟩
  rw [hR]
  unfold St.defOk at hR
  generalize s.noDef = b0 at *
  generalize s.cols.all Cd.ok = b1 at *
  generalize s.keys.all namesB = b2 at *
  generalize s.frs.all Rf.ok = b3 at *
  generalize s.chk.all Ex.formed = b4 at *
  have HR := hid hR
  clear hR
  cases b0 <;> cases b1 <;> cases b2 <;> cases b3
  all_goals
    go_enter Tryz.func74, Tryz.ntmps74
    go_wp2_with (first | (go_at_call 77; (with_reducible refine (H4.out _ (((((Ext.refl w).alloc _).trans hx2).trans hx3 |>.trans hx4).trans hx5)).mono ?_); rintro _ w6 ⟨rfl, hx6⟩) | (go_at_call 121; (with_reducible refine (H3.out _ ((((Ext.refl w).alloc _).trans hx2).trans hx3 |>.trans hx4)).mono ?_); rintro _ w5 ⟨rfl, hx5⟩; have e3 := (HB.out.ext (((hx2.trans hx3).trans hx4).trans hx5)).cell 3; simp only [List.getElem?_cons_succ, List.getElem?_cons_zero] at e3) | (go_at_call 120; (with_reducible refine (H2.out _ ((((Ext.refl w).alloc _).trans hx2).trans hx3)).mono ?_); rintro _ w4 ⟨rfl, hx4⟩; have e2 := (HB.out.ext ((hx2.trans hx3).trans hx4)).cell 2; simp only [List.getElem?_cons_succ, List.getElem?_cons_zero] at e2) | (go_at_call 118; (with_reducible refine (H1.out _ (((Ext.refl w).alloc _).trans hx2)).mono ?_); rintro _ w3 ⟨rfl, hx3⟩; have e1 := (HB.out.ext (hx2.trans hx3)).cell 1; simp only [List.getElem?_cons_succ, List.getElem?_cons_zero] at e1) | (go_at_call 73; (with_reducible refine (H0.out _ ((Ext.refl w).alloc _)).mono ?_); rintro _ w2 ⟨rfl, hx2⟩; have e0 := (HB.out.ext (hx2)).cell 0; simp only [List.getElem?_cons_succ, List.getElem?_cons_zero] at e0))
    go_ret
    first | exact ⟨ret_bool (by rw [← HR.out]; simp), ((((((Ext.refl w).alloc _).trans hx2).trans hx3).trans hx4).trans hx5).trans hx6⟩ | exact ⟨ret_bool (by rw [← HR.out]; simp), (((((Ext.refl w).alloc _).trans hx2).trans hx3).trans hx4).trans hx5⟩ | exact ⟨ret_bool (by rw [← HR.out]; simp), ((((Ext.refl w).alloc _).trans hx2).trans hx3).trans hx4⟩ | exact ⟨ret_bool (by rw [← HR.out]; simp), (((Ext.refl w).alloc _).trans hx2).trans hx3⟩ | exact ⟨ret_bool (by rw [← HR.out]; simp), ((Ext.refl w).alloc _).trans hx2⟩
end Go.Proofs.YtcdnodjcnofogaaGreatDoor
namespace Go.Proofs.YtcdnodjcnofogaaGreatDoor
open Go.RowKit
set_option linter.unusedVariables false
set_option linter.unusedSimpArgs false
set_option maxHeartbeats 4000000
set_option maxRecDepth 100000

theorem query_any (s : St) (a : SA) (w : World) (hw : Sh w) (hv : StV w s a) :
    Calls Tryz.prog 80 #[s.val a] w fun r w' => r = .returned (.bool s.qOk) ∧ Ext w w' := by
  have H1 := hid (fun W (hW : Ext w W) => wr_itm 132 ent_itm Itm.ok s.itms a.itms.A a.itms.n a.itms.c W hv.itms.1 hv.itms.2.1 (hv.itms.2.2.ext hW) fun x _ W2 hW2 Ai ni ci hc => itmok_any x Ai ni ci W2 (hw.ext (hW.trans hW2)) hc)
  have H2 := hid (fun W (hW : Ext w W) => wr_src 127 ent_src Src.ok s.frm a.frm.A a.frm.n a.frm.c W hv.frm.1 hv.frm.2.1 (hv.frm.2.2.ext hW) fun x _ W2 hW2 hc => srcok_any x W2 (hw.ext (hW.trans hW2)) hc)
  have H3 := hid (fun W (hW : Ext w W) => wr_ex 128 ent_colx colX s.grp a.grp.A a.grp.n a.grp.c W hv.grp.1 hv.grp.2.1 (hv.grp.2.2.ext hW) fun x _ W2 hW2 Ai ni ci hc => colx_any x Ai ni ci W2 (hw.ext (hW.trans hW2)) hc)
  have H4 := hid (fun W (hW : Ext w W) => wr_ord 129 ent_ord Ord'.ok s.ord a.ord.A a.ord.n a.ord.c W hv.ord.1 hv.ord.2.1 (hv.ord.2.2.ext hW) fun x _ W2 hW2 hc => ordok_any x W2 hc)
  have H5 := hid (fun W => within_any s.lim 0 2147483648 W)
  simp only [any_not] at H1 H2 H3 H4
  have HB := hid (Blk.of_new w 38 (s.cells a))
  have hfl := hv.frm.1
  obtain ⟨R, hR⟩ : ∃ R, s.qOk = R := ⟨_, rfl⟩
  rw [hR]
  unfold St.qOk inB at hR
  rw [hfl] at hR
  clear hw hv hfl
  unfold St.val at *
  unfold St.cells at *
  unfold Sl.v at *
  generalize s.itms.all Itm.ok = b1 at *
  generalize s.frm.all Src.ok = b2 at *
  generalize s.grp.all colX = b3 at *
  generalize s.ord.all Ord'.ok = b4 at *
  generalize (decide (0 ≤ s.lim) && decide (s.lim ≤ 2147483648)) = b5 at *
  obtain ⟨t1, ht1⟩ : ∃ b, decide (0 < a.frm.n) = b := ⟨_, rfl⟩
  rw [ht1] at hR
  have ht2 : decide ((0 : Int) < (a.frm.n : Int)) = t1 := by rw [← ht1]; simp
  have HR := hid hR
  clear hR
  cases b1
  · go_enter Tryz.func80, Tryz.ntmps80
    go_wp2_with (first | (go_at_call 130; (with_reducible refine (H5.out _).mono ?_); rintro _ _ ⟨rfl, rfl⟩) | (go_at_call 134; (with_reducible refine (H4.out _ (((((Ext.refl w).alloc _).trans hx2).trans hx3).trans hx4)).mono ?_); rintro _ w5 ⟨rfl, hx5⟩; have e20 := (HB.out.ext (((hx2.trans hx3).trans hx4).trans hx5)).cell 20; simp only [List.getElem?_cons_succ, List.getElem?_cons_zero] at e20) | (go_at_call 77; (with_reducible refine (H3.out _ ((((Ext.refl w).alloc _).trans hx2).trans hx3)).mono ?_); rintro _ w4 ⟨rfl, hx4⟩; have e19 := (HB.out.ext ((hx2.trans hx3).trans hx4)).cell 19; simp only [List.getElem?_cons_succ, List.getElem?_cons_zero] at e19) | (go_at_call 133; (with_reducible refine (H2.out _ (((Ext.refl w).alloc _).trans hx2)).mono ?_); rintro _ w3 ⟨rfl, hx3⟩; have e18 := (HB.out.ext (hx2.trans hx3)).cell 18; simp only [List.getElem?_cons_succ, List.getElem?_cons_zero] at e18) | (go_at_call 131; (with_reducible refine (H1.out _ ((Ext.refl w).alloc _)).mono ?_); rintro _ w2 ⟨rfl, hx2⟩; have e9 := (HB.out.ext (hx2)).cell 9; simp only [List.getElem?_cons_succ, List.getElem?_cons_zero] at e9))
    go_ret
    first | exact ⟨ret_bool (by rw [← HR.out]; simp), (((((Ext.refl w).alloc _).trans hx2).trans hx3).trans hx4).trans hx5⟩ | exact ⟨ret_bool (by rw [← HR.out]; simp), ((((Ext.refl w).alloc _).trans hx2).trans hx3).trans hx4⟩ | exact ⟨ret_bool (by rw [← HR.out]; simp), (((Ext.refl w).alloc _).trans hx2).trans hx3⟩ | exact ⟨ret_bool (by rw [← HR.out]; simp), ((Ext.refl w).alloc _).trans hx2⟩
  · cases t1
    · go_enter Tryz.func80, Tryz.ntmps80
      go_wp2_with (first | (go_at_call 130; (with_reducible refine (H5.out _).mono ?_); rintro _ _ ⟨rfl, rfl⟩) | (go_at_call 134; (with_reducible refine (H4.out _ (((((Ext.refl w).alloc _).trans hx2).trans hx3).trans hx4)).mono ?_); rintro _ w5 ⟨rfl, hx5⟩; have e20 := (HB.out.ext (((hx2.trans hx3).trans hx4).trans hx5)).cell 20; simp only [List.getElem?_cons_succ, List.getElem?_cons_zero] at e20) | (go_at_call 77; (with_reducible refine (H3.out _ ((((Ext.refl w).alloc _).trans hx2).trans hx3)).mono ?_); rintro _ w4 ⟨rfl, hx4⟩; have e19 := (HB.out.ext ((hx2.trans hx3).trans hx4)).cell 19; simp only [List.getElem?_cons_succ, List.getElem?_cons_zero] at e19) | (go_at_call 133; (with_reducible refine (H2.out _ (((Ext.refl w).alloc _).trans hx2)).mono ?_); rintro _ w3 ⟨rfl, hx3⟩; have e18 := (HB.out.ext (hx2.trans hx3)).cell 18; simp only [List.getElem?_cons_succ, List.getElem?_cons_zero] at e18) | (go_at_call 131; (with_reducible refine (H1.out _ ((Ext.refl w).alloc _)).mono ?_); rintro _ w2 ⟨rfl, hx2⟩; have e9 := (HB.out.ext (hx2)).cell 9; simp only [List.getElem?_cons_succ, List.getElem?_cons_zero] at e9))
      go_ret
      first | exact ⟨ret_bool (by rw [← HR.out]; simp), (((((Ext.refl w).alloc _).trans hx2).trans hx3).trans hx4).trans hx5⟩ | exact ⟨ret_bool (by rw [← HR.out]; simp), ((((Ext.refl w).alloc _).trans hx2).trans hx3).trans hx4⟩ | exact ⟨ret_bool (by rw [← HR.out]; simp), (((Ext.refl w).alloc _).trans hx2).trans hx3⟩ | exact ⟨ret_bool (by rw [← HR.out]; simp), ((Ext.refl w).alloc _).trans hx2⟩
    · cases b2
      · go_enter Tryz.func80, Tryz.ntmps80
        go_wp2_with (first | (go_at_call 130; (with_reducible refine (H5.out _).mono ?_); rintro _ _ ⟨rfl, rfl⟩) | (go_at_call 134; (with_reducible refine (H4.out _ (((((Ext.refl w).alloc _).trans hx2).trans hx3).trans hx4)).mono ?_); rintro _ w5 ⟨rfl, hx5⟩; have e20 := (HB.out.ext (((hx2.trans hx3).trans hx4).trans hx5)).cell 20; simp only [List.getElem?_cons_succ, List.getElem?_cons_zero] at e20) | (go_at_call 77; (with_reducible refine (H3.out _ ((((Ext.refl w).alloc _).trans hx2).trans hx3)).mono ?_); rintro _ w4 ⟨rfl, hx4⟩; have e19 := (HB.out.ext ((hx2.trans hx3).trans hx4)).cell 19; simp only [List.getElem?_cons_succ, List.getElem?_cons_zero] at e19) | (go_at_call 133; (with_reducible refine (H2.out _ (((Ext.refl w).alloc _).trans hx2)).mono ?_); rintro _ w3 ⟨rfl, hx3⟩; have e18 := (HB.out.ext (hx2.trans hx3)).cell 18; simp only [List.getElem?_cons_succ, List.getElem?_cons_zero] at e18) | (go_at_call 131; (with_reducible refine (H1.out _ ((Ext.refl w).alloc _)).mono ?_); rintro _ w2 ⟨rfl, hx2⟩; have e9 := (HB.out.ext (hx2)).cell 9; simp only [List.getElem?_cons_succ, List.getElem?_cons_zero] at e9))
        go_ret
        first | exact ⟨ret_bool (by rw [← HR.out]; simp), (((((Ext.refl w).alloc _).trans hx2).trans hx3).trans hx4).trans hx5⟩ | exact ⟨ret_bool (by rw [← HR.out]; simp), ((((Ext.refl w).alloc _).trans hx2).trans hx3).trans hx4⟩ | exact ⟨ret_bool (by rw [← HR.out]; simp), (((Ext.refl w).alloc _).trans hx2).trans hx3⟩ | exact ⟨ret_bool (by rw [← HR.out]; simp), ((Ext.refl w).alloc _).trans hx2⟩
      · cases b3
        · go_enter Tryz.func80, Tryz.ntmps80
          go_wp2_with (first | (go_at_call 130; (with_reducible refine (H5.out _).mono ?_); rintro _ _ ⟨rfl, rfl⟩) | (go_at_call 134; (with_reducible refine (H4.out _ (((((Ext.refl w).alloc _).trans hx2).trans hx3).trans hx4)).mono ?_); rintro _ w5 ⟨rfl, hx5⟩; have e20 := (HB.out.ext (((hx2.trans hx3).trans hx4).trans hx5)).cell 20; simp only [List.getElem?_cons_succ, List.getElem?_cons_zero] at e20) | (go_at_call 77; (with_reducible refine (H3.out _ ((((Ext.refl w).alloc _).trans hx2).trans hx3)).mono ?_); rintro _ w4 ⟨rfl, hx4⟩; have e19 := (HB.out.ext ((hx2.trans hx3).trans hx4)).cell 19; simp only [List.getElem?_cons_succ, List.getElem?_cons_zero] at e19) | (go_at_call 133; (with_reducible refine (H2.out _ (((Ext.refl w).alloc _).trans hx2)).mono ?_); rintro _ w3 ⟨rfl, hx3⟩; have e18 := (HB.out.ext (hx2.trans hx3)).cell 18; simp only [List.getElem?_cons_succ, List.getElem?_cons_zero] at e18) | (go_at_call 131; (with_reducible refine (H1.out _ ((Ext.refl w).alloc _)).mono ?_); rintro _ w2 ⟨rfl, hx2⟩; have e9 := (HB.out.ext (hx2)).cell 9; simp only [List.getElem?_cons_succ, List.getElem?_cons_zero] at e9))
          go_ret
          first | exact ⟨ret_bool (by rw [← HR.out]; simp), (((((Ext.refl w).alloc _).trans hx2).trans hx3).trans hx4).trans hx5⟩ | exact ⟨ret_bool (by rw [← HR.out]; simp), ((((Ext.refl w).alloc _).trans hx2).trans hx3).trans hx4⟩ | exact ⟨ret_bool (by rw [← HR.out]; simp), (((Ext.refl w).alloc _).trans hx2).trans hx3⟩ | exact ⟨ret_bool (by rw [← HR.out]; simp), ((Ext.refl w).alloc _).trans hx2⟩
        · cases b4
          · go_enter Tryz.func80, Tryz.ntmps80
            go_wp2_with (first | (go_at_call 130; (with_reducible refine (H5.out _).mono ?_); rintro _ _ ⟨rfl, rfl⟩) | (go_at_call 134; (with_reducible refine (H4.out _ (((((Ext.refl w).alloc _).trans hx2).trans hx3).trans hx4)).mono ?_); rintro _ w5 ⟨rfl, hx5⟩; have e20 := (HB.out.ext (((hx2.trans hx3).trans hx4).trans hx5)).cell 20; simp only [List.getElem?_cons_succ, List.getElem?_cons_zero] at e20) | (go_at_call 77; (with_reducible refine (H3.out _ ((((Ext.refl w).alloc _).trans hx2).trans hx3)).mono ?_); rintro _ w4 ⟨rfl, hx4⟩; have e19 := (HB.out.ext ((hx2.trans hx3).trans hx4)).cell 19; simp only [List.getElem?_cons_succ, List.getElem?_cons_zero] at e19) | (go_at_call 133; (with_reducible refine (H2.out _ (((Ext.refl w).alloc _).trans hx2)).mono ?_); rintro _ w3 ⟨rfl, hx3⟩; have e18 := (HB.out.ext (hx2.trans hx3)).cell 18; simp only [List.getElem?_cons_succ, List.getElem?_cons_zero] at e18) | (go_at_call 131; (with_reducible refine (H1.out _ ((Ext.refl w).alloc _)).mono ?_); rintro _ w2 ⟨rfl, hx2⟩; have e9 := (HB.out.ext (hx2)).cell 9; simp only [List.getElem?_cons_succ, List.getElem?_cons_zero] at e9))
            go_ret
            first | exact ⟨ret_bool (by rw [← HR.out]; simp), (((((Ext.refl w).alloc _).trans hx2).trans hx3).trans hx4).trans hx5⟩ | exact ⟨ret_bool (by rw [← HR.out]; simp), ((((Ext.refl w).alloc _).trans hx2).trans hx3).trans hx4⟩ | exact ⟨ret_bool (by rw [← HR.out]; simp), (((Ext.refl w).alloc _).trans hx2).trans hx3⟩ | exact ⟨ret_bool (by rw [← HR.out]; simp), ((Ext.refl w).alloc _).trans hx2⟩
          · go_enter Tryz.func80, Tryz.ntmps80
            go_wp2_with (first | (go_at_call 130; (with_reducible refine (H5.out _).mono ?_); rintro _ _ ⟨rfl, rfl⟩) | (go_at_call 134; (with_reducible refine (H4.out _ (((((Ext.refl w).alloc _).trans hx2).trans hx3).trans hx4)).mono ?_); rintro _ w5 ⟨rfl, hx5⟩; have e20 := (HB.out.ext (((hx2.trans hx3).trans hx4).trans hx5)).cell 20; simp only [List.getElem?_cons_succ, List.getElem?_cons_zero] at e20) | (go_at_call 77; (with_reducible refine (H3.out _ ((((Ext.refl w).alloc _).trans hx2).trans hx3)).mono ?_); rintro _ w4 ⟨rfl, hx4⟩; have e19 := (HB.out.ext ((hx2.trans hx3).trans hx4)).cell 19; simp only [List.getElem?_cons_succ, List.getElem?_cons_zero] at e19) | (go_at_call 133; (with_reducible refine (H2.out _ (((Ext.refl w).alloc _).trans hx2)).mono ?_); rintro _ w3 ⟨rfl, hx3⟩; have e18 := (HB.out.ext (hx2.trans hx3)).cell 18; simp only [List.getElem?_cons_succ, List.getElem?_cons_zero] at e18) | (go_at_call 131; (with_reducible refine (H1.out _ ((Ext.refl w).alloc _)).mono ?_); rintro _ w2 ⟨rfl, hx2⟩; have e9 := (HB.out.ext (hx2)).cell 9; simp only [List.getElem?_cons_succ, List.getElem?_cons_zero] at e9))
            go_ret
            first | exact ⟨ret_bool (by rw [← HR.out]; simp), (((((Ext.refl w).alloc _).trans hx2).trans hx3).trans hx4).trans hx5⟩ | exact ⟨ret_bool (by rw [← HR.out]; simp), ((((Ext.refl w).alloc _).trans hx2).trans hx3).trans hx4⟩ | exact ⟨ret_bool (by rw [← HR.out]; simp), (((Ext.refl w).alloc _).trans hx2).trans hx3⟩ | exact ⟨ret_bool (by rw [← HR.out]; simp), ((Ext.refl w).alloc _).trans hx2⟩
end Go.Proofs.YtcdnodjcnofogaaGreatDoor
namespace Go.Proofs.YtcdnodjcnofogaaGreatDoor
open Go.RowKit
set_option linter.unusedVariables false
set_option linter.unusedSimpArgs false
set_option maxHeartbeats 4000000
set_option maxRecDepth 100000

theorem f5 (td te bn nd ne bm : Bool) : ((td == !te) && (!td || bn) && (nd == !ne) && (!nd || bm)) = !((td != !te) || (td && !bn) || (nd != !ne) || (nd && !bm)) := by
  cases td <;> cases te <;> cases bn <;> cases nd <;> cases ne <;> cases bm <;> rfl
theorem f8 (ba cd bf : Bool) : (ba || cd && bf) = !(!ba && (!cd || !bf)) := by cases ba <;> cases cd <;> cases bf <;> rfl
theorem f10 (k1 e k2 v k3 s k5 f : Bool) : ((k1 == !e) && (k2 == v) && (k3 == s) && (k5 == f)) = !((k1 != !e) || (k2 != v) || (k3 != s) || (k5 != f)) := by
  cases k1 <;> cases e <;> cases k2 <;> cases v <;> cases k3 <;> cases s <;> cases k5 <;> cases f <;> rfl
theorem f12 (k5 z l : Bool) : (k5 || z && l) = !(!k5 && (!z || !l)) := by cases k5 <;> cases z <;> cases l <;> rfl
theorem statement_any (s : St) (a : SA) (w : World) (hw : Sh w) (hv : StV w s a) (hb : s.cols.length + s.keys.length + s.frs.length + s.chk.length ≤ 1048576) (hb2 : s.itms.length + s.grp.length + s.ord.length ≤ 1048576) :
    Calls Tryz.prog 42 #[s.val a] w fun r w' => r = .returned (.bool s.formed) ∧ Ext w w' := by
  have H1 := hid (fun W (hW : Ext w W) => name_any s.tb W (hw.ext hW) hv.tb)
  have H2 := hid (fun W (hW : Ext w W) => name_any s.nm W (hw.ext hW) hv.nm)
  have H3 := hid (fun W (hW : Ext w W) => absent_any s.whr a.whr.A a.whr.n a.whr.c W (hv.whr.ext hW))
  have H4 := hid (fun W (hW : Ext w W) => formed_any s.whr a.whr.A a.whr.n a.whr.c W (hv.whr.ext hW) (hw.ext hW))
  have H5 := hid (fun W (hW : Ext w W) => empty_any s a W (hv.ext hW) hb)
  have H6 := hid (fun W (hW : Ext w W) => def_any s a W (hw.ext hW) (hv.ext hW) hb)
  have H7 := hid (fun W (hW : Ext w W) => wr_row 76 ent_row rowOk s.vals a.vals.A a.vals.n a.vals.c W hv.vals.1 hv.vals.2.1 (hv.vals.2.2.ext hW) fun x hx W2 hW2 Ai ni ci hc => rowok_any x Ai ni ci W2 (hw.ext (hW.trans hW2)) (by have := hv.valn x hx; omega) hc)
  have H8 := hid (fun W (hW : Ext w W) => wr_asg 79 ent_asg Asg.ok s.sets a.sets.A a.sets.n a.sets.c W hv.sets.1 hv.sets.2.1 (hv.sets.2.2.ext hW) fun x hx W2 hW2 Ai ni ci hc => asgok_any x Ai ni ci W2 (hw.ext (hW.trans hW2)) (by obtain ⟨i, hi, rfl⟩ := List.getElem_of_mem hx; exact (hv.sets.2.2 i _ (List.getElem?_eq_getElem hi)).1.1) hc)
  have H9 := hid (fun W (hW : Ext w W) => query_any s a W (hw.ext hW) (hv.ext hW))
  simp only [any_not] at H7 H8
  have HB := hid (Blk.of_new w 38 (s.cells a))
  have HX := hid ((Ext.refl w).alloc (.cells (s.cells a).toArray 38))
  obtain ⟨R, hR⟩ : ∃ R, s.formed = R := ⟨_, rfl⟩
  rw [hR]
  unfold St.formed at hR
  dsimp only at hR
  rw [hv.vals.1, hv.sets.1, hv.frm.1, hv.itms.1, hv.grp.1, hv.ord.1] at hR
  rw [hv.itms.1, hv.grp.1, hv.ord.1] at hb2
  simp only [← beq_iff_eq (a := s.kd)] at hR
  clear hw hv hb
  unfold St.val at *
  unfold St.cells Sl.v at *
  unfold Nd.val at H3 H4
  generalize s.whr.absent = ba at *
  generalize s.whr.formed = bf at *
  generalize nameB s.tb = bn at *
  generalize nameB s.nm = bm at *
  generalize s.noDef = e0 at *
  generalize s.defOk = q1 at *
  generalize s.vals.all rowOk = q2 at *
  generalize s.sets.all Asg.ok = q3 at *
  generalize s.qOk = q5 at *
  obtain ⟨te, hte⟩ : ∃ b, s.tb.toList.isEmpty = b := ⟨_, rfl⟩
  obtain ⟨ne, hne⟩ : ∃ b, s.nm.toList.isEmpty = b := ⟨_, rfl⟩
  obtain ⟨td, htd⟩ : ∃ b, decide (s.kd ≤ 4) = b := ⟨_, rfl⟩
  obtain ⟨c1, hc1⟩ : ∃ b, decide (s.kd < 1) = b := ⟨_, rfl⟩
  obtain ⟨c2, hc2⟩ : ∃ b, decide (11 < s.kd) = b := ⟨_, rfl⟩
  have d1 : decide (1 ≤ s.kd) = !c1 := by rw [← hc1, Bool.eq_iff_iff]; simp
  have d2 : decide (s.kd ≤ 11) = !c2 := by rw [← hc2, Bool.eq_iff_iff]; simp
  obtain ⟨k1, hk1⟩ : ∃ b, (s.kd == 1) = b := ⟨_, rfl⟩
  obtain ⟨k2, hk2⟩ : ∃ b, (s.kd == 2) = b := ⟨_, rfl⟩
  obtain ⟨k3, hk3⟩ : ∃ b, (s.kd == 3) = b := ⟨_, rfl⟩
  obtain ⟨k4, hk4⟩ : ∃ b, (s.kd == 4) = b := ⟨_, rfl⟩
  obtain ⟨k5, hk5⟩ : ∃ b, (s.kd == 5) = b := ⟨_, rfl⟩
  obtain ⟨n9, hn9⟩ : ∃ b, (s.kd == 9) = b := ⟨_, rfl⟩
  obtain ⟨n10, hn10⟩ : ∃ b, (s.kd == 10) = b := ⟨_, rfl⟩
  obtain ⟨n11, hn11⟩ : ∃ b, (s.kd == 11) = b := ⟨_, rfl⟩
  obtain ⟨v0, hv0⟩ : ∃ b, decide (0 < a.vals.n) = b := ⟨_, rfl⟩
  obtain ⟨s0, hs0⟩ : ∃ b, decide (0 < a.sets.n) = b := ⟨_, rfl⟩
  obtain ⟨f0, hf0⟩ : ∃ b, decide (0 < a.frm.n) = b := ⟨_, rfl⟩
  obtain ⟨z0, hz0⟩ : ∃ b, decide (a.itms.n + a.grp.n + a.ord.n = 0) = b := ⟨_, rfl⟩
  obtain ⟨l0, hl0⟩ : ∃ b, (s.lim == 0) = b := ⟨_, rfl⟩
  rw [hte, hne, htd, d1, d2, hk1, hk2, hk3, hk4, hk5, hn9, hn10, hn11, hv0, hs0, hf0, hz0, hl0] at hR
  replace hR : (!(c1 || c2) && !((td != !te) || (td && !bn) || ((n9 || n10 || n11) != !ne) || ((n9 || n10 || n11) && !bm)) && !(!ba && (!(k3 || k4 || k5) || !bf)) && !((k1 != !e0) || (k2 != v0) || (k3 != s0) || (k5 != f0)) && !(!k5 && (!z0 || !l0)) && (if k1 = true then q1 else if k2 = true then q2 else if k3 = true then q3 else if k5 = true then q5 else true)) = R := by
    rw [← hR, ← f5, ← f8, ← f10, ← f12, Bool.not_or]
    simp only [Bool.and_assoc]
  have HR := hid hR
  clear hR d1 d2
  have hkz : (s.kd != 5) = !k5 := by rw [bne, hk5]
  have hlz : (s.lim != 0) = !l0 := by rw [bne, hl0]
  go_enter Tryz.func42, Tryz.ntmps42
  go_upto_region 1 with fail
  generalize w.alloc (.cells _ 38) = w1 at *
  generalize w.heap.size = g at *
  have p0 := (HB.out).cell 0
  have p1 := (HB.out).cell 1
  have p20 := (HB.out).cell 20
  have p21 := (HB.out).cell 21
  have p10 := (HB.out).cell 10
  have p11 := (HB.out).cell 11
  have p12 := (HB.out).cell 12
  have p13 := (HB.out).cell 13
  have p14 := (HB.out).cell 14
  have p15 := (HB.out).cell 15
  have p16 := (HB.out).cell 16
  have p17 := (HB.out).cell 17
  simp only [List.getElem?_cons_succ, List.getElem?_cons_zero] at p0 p1 p20 p21 p10 p11 p12 p13 p14 p15 p16 p17
  go_cut [13] from 6 to 12 (fun cv wx => cv = .bool (c1 || c2) ∧ w1 = wx)
  case first =>
    cases c1 <;> cases c2
    all_goals
      go_wp2_with fail
      go_meet
      exact ⟨rfl, rfl⟩
  case rest =>
    obtain ⟨rfl, rfl⟩ := hcut
    generalize (c1 || c2) = C1 at *
    cases C1
    · go_upto_region 4 with fail
      go_cut [4] from 17 to 29 (fun cv wx => cv = .bool (n9 || n10 || n11) ∧ w1 = wx)
      case first =>
        cases n9 <;> cases n10 <;> cases n11
        all_goals
          go_wp2_with fail
          go_meet
          exact ⟨rfl, rfl⟩
      case rest =>
        obtain ⟨rfl, rfl⟩ := hcut
        generalize (n9 || n10 || n11) = nd at *
        go_upto_region 5 with fail
        go_cut [59] from 30 to 58 (fun cv wx => cv = .bool ((td != !te) || (td && !bn) || (nd != !ne) || (nd && !bm)) ∧ w1 = wx)
        case first =>
          cases td <;> cases te <;> cases bn <;> cases nd <;> cases ne <;> cases bm
          all_goals
            go_wp2_with (first | (go_at_call 71; (with_reducible refine (H1.out _ HX.out).mono ?_); rintro _ _ ⟨rfl, rfl⟩) | (go_at_call 71; (with_reducible refine (H2.out _ HX.out).mono ?_); rintro _ _ ⟨rfl, rfl⟩))
            go_meet
            exact ⟨rfl, rfl⟩
        case rest =>
          obtain ⟨rfl, rfl⟩ := hcut
          generalize ((td != !te) || (td && !bn) || (nd != !ne) || (nd && !bm)) = C5 at *
          cases C5
          · go_upto_region 7 with fail
            go_cut [5] from 60 to 72 (fun cv wx => cv = .bool (k3 || k4 || k5) ∧ w1 = wx)
            case first =>
              cases k3 <;> cases k4 <;> cases k5
              all_goals
                go_wp2_with fail
                go_meet
                exact ⟨rfl, rfl⟩
            case rest =>
              obtain ⟨rfl, rfl⟩ := hcut
              generalize (k3 || k4 || k5) = cd at *
              go_upto_region 8 with fail
              go_cut [86] from 73 to 85 (fun cv wx => cv = .bool (!ba && (!cd || !bf)) ∧ Ext w1 wx)
              case first =>
                cases ba <;> cases cd
                all_goals
                  go_wp2_with (first | (go_at_call 72; (with_reducible refine (H3.out _ HX.out).mono ?_); rintro _ w2 ⟨rfl, hx2⟩; have e10 := (HB.out.ext hx2).cell 10; have e11 := (HB.out.ext hx2).cell 11; have e12 := (HB.out.ext hx2).cell 12; have e13 := (HB.out.ext hx2).cell 13; have e14 := (HB.out.ext hx2).cell 14; have e15 := (HB.out.ext hx2).cell 15; have e16 := (HB.out.ext hx2).cell 16; have e17 := (HB.out.ext hx2).cell 17; simp only [List.getElem?_cons_succ, List.getElem?_cons_zero] at e10 e11 e12 e13 e14 e15 e16 e17) | (go_at_call 47; (with_reducible refine (H4.out _ (HX.out.trans hx2)).mono ?_); rintro _ w3 ⟨rfl, hx3⟩))
                  go_meet
                  first | exact ⟨rfl, hx2.trans hx3⟩ | exact ⟨rfl, hx2⟩
              case rest =>
                obtain ⟨rfl, hxN⟩ := hcut
                generalize wc = wa at *
                have HXa := hid (HX.out.trans hxN)
                replace HB := hid (HB.out.ext hxN)
                clear hxN p0 p1 p20 p21 p10 p11 p12 p13 p14 p15 p16 p17 H1 H2 H3 H4
                generalize (!ba && (!cd || !bf)) = C8 at *
                cases C8
                · have p0 := HB.out.cell 0
                  simp only [List.getElem?_cons_zero] at p0
                  go_upto_region 10 with fail
                  go_cut [124] from 87 to 123 (fun cv wx => cv = .bool ((k1 != !e0) || (k2 != v0) || (k3 != s0) || (k5 != f0)) ∧ Ext wa wx)
                  case first =>
                    have HE : Hid (∀ z : Later wa, Calls Tryz.prog 73 _ z.now _) := fun z => H5.out z.now (HXa.out.trans z.ext)
                    have iv0 : decide ((0 : Int) < (a.vals.n : Int)) = v0 := by rw [← hv0]; simp
                    have is0 : decide ((0 : Int) < (a.sets.n : Int)) = s0 := by rw [← hs0]; simp
                    have if0 : decide ((0 : Int) < (a.frm.n : Int)) = f0 := by rw [← hf0]; simp
                    obtain ⟨y1, hy1⟩ : ∃ b, (k1 == !e0) = b := ⟨_, rfl⟩
                    obtain ⟨y2, hy2⟩ : ∃ b, (k2 == v0) = b := ⟨_, rfl⟩
                    obtain ⟨y3, hy3⟩ : ∃ b, (k3 == s0) = b := ⟨_, rfl⟩
                    obtain ⟨y4, hy4⟩ : ∃ b, (k5 == f0) = b := ⟨_, rfl⟩
                    have r0 := Later.keep (HB.out.cell_some (i := 0) rfl)
                    have r2 := Later.keep (HB.out.cell_some (i := 2) rfl)
                    have r3 := Later.keep (HB.out.cell_some (i := 3) rfl)
                    have r4 := Later.keep (HB.out.cell_some (i := 4) rfl)
                    have r5 := Later.keep (HB.out.cell_some (i := 5) rfl)
                    have r6 := Later.keep (HB.out.cell_some (i := 6) rfl)
                    have r7 := Later.keep (HB.out.cell_some (i := 7) rfl)
                    have r9 := Later.keep (HB.out.cell_some (i := 9) rfl)
                    cases y1
                    · refine wp_region_later (by kernel_rfl) (by kernel_rfl) ?_
                      repeat (go_big_quiet_step ((go_at_call 73; with_reducible exact later_of (HE.out _))))
                      refine wpQuiet_nil ?_
                      intro w5 hw5
                      have hx5 := later_out hw5
                      clear hw5
                      go_wp2_with fail
                      go_meet
                      exact ⟨by simp only [bne, hy1, hy2, hy3, hy4] <;> rfl, hx5⟩
                    · cases y2
                      · refine wp_region_later (by kernel_rfl) (by kernel_rfl) ?_
                        repeat (go_big_quiet_step ((go_at_call 73; with_reducible exact later_of (HE.out _))))
                        refine wpQuiet_nil ?_
                        intro w5 hw5
                        have hx5 := later_out hw5
                        clear hw5
                        go_wp2_with fail
                        go_meet
                        exact ⟨by simp only [bne, hy1, hy2, hy3, hy4] <;> rfl, hx5⟩
                      · cases y3
                        · refine wp_region_later (by kernel_rfl) (by kernel_rfl) ?_
                          repeat (go_big_quiet_step ((go_at_call 73; with_reducible exact later_of (HE.out _))))
                          refine wpQuiet_nil ?_
                          intro w5 hw5
                          have hx5 := later_out hw5
                          clear hw5
                          go_wp2_with fail
                          go_meet
                          exact ⟨by simp only [bne, hy1, hy2, hy3, hy4] <;> rfl, hx5⟩
                        · cases y4
                          · refine wp_region_later (by kernel_rfl) (by kernel_rfl) ?_
                            repeat (go_big_quiet_step ((go_at_call 73; with_reducible exact later_of (HE.out _))))
                            refine wpQuiet_nil ?_
                            intro w5 hw5
                            have hx5 := later_out hw5
                            clear hw5
                            go_wp2_with fail
                            go_meet
                            exact ⟨by simp only [bne, hy1, hy2, hy3, hy4] <;> rfl, hx5⟩
                          · refine wp_region_later (by kernel_rfl) (by kernel_rfl) ?_
                            repeat (go_big_quiet_step ((go_at_call 73; with_reducible exact later_of (HE.out _))))
                            refine wpQuiet_nil ?_
                            intro w5 hw5
                            have hx5 := later_out hw5
                            clear hw5
                            go_wp2_with fail
                            go_meet
                            exact ⟨by simp only [bne, hy1, hy2, hy3, hy4] <;> rfl, hx5⟩
                  case rest =>
                    obtain ⟨rfl, hxN⟩ := hcut
                    generalize wc = wb at *
                    have HXb := hid (HXa.out.trans hxN)
                    replace HB := hid (HB.out.ext hxN)
                    clear hxN p0 H5
                    generalize ((k1 != !e0) || (k2 != v0) || (k3 != s0) || (k5 != f0)) = C10 at *
                    cases C10
                    · have p0 := (HB.out).cell 0
                      have p2 := (HB.out).cell 2
                      have p3 := (HB.out).cell 3
                      have p4 := (HB.out).cell 4
                      have p5 := (HB.out).cell 5
                      have p6 := (HB.out).cell 6
                      have p7 := (HB.out).cell 7
                      have p8 := (HB.out).cell 8
                      have p18 := (HB.out).cell 18
                      have p19 := (HB.out).cell 19
                      have p20 := (HB.out).cell 20
                      simp only [List.getElem?_cons_succ, List.getElem?_cons_zero] at p0 p2 p3 p4 p5 p6 p7 p8 p18 p19 p20
                      go_upto_region 12 with fail
                      have iz0 : decide ((0 : Int) < (a.itms.n : Int) + (a.grp.n : Int) + (a.ord.n : Int)) = !z0 := by rw [← hz0, Bool.eq_iff_iff]; simp; omega
                      go_cut [146] from 125 to 145 (fun cv wx => cv = .bool (!k5 && (!z0 || !l0)) ∧ wb = wx)
                      case first =>
                        cases k5 <;> cases z0 <;> cases l0
                        all_goals
                          go_wp2_with fail
                          go_meet
                          exact ⟨rfl, rfl⟩
                      case rest =>
                        obtain ⟨rfl, rfl⟩ := hcut
                        generalize (!k5 && (!z0 || !l0)) = C12 at *
                        cases C12
                        · cases k1
                          · cases k2
                            · cases k3
                              · cases k5
                                · go_wp2_with fail
                                  go_ret
                                  exact ⟨ret_bool (by rw [← HR.out]; simp), HXb.out⟩
                                · go_upto_region 21 with fail
                                  have hk6 : decide (s.kd = 5) = true := by simpa using hk5
                                  clear hk5
                                  clear p0 p2 p3 p4 p5 p6 p7 p8 p18 p19 p20
                                  go_upto_region 22 with fail
                                  rotate_left
                                  · exfalso
                                    have e5 := ‹(s.kd == 5) = false›
                                    rw [of_decide_eq_true hk6] at e5
                                    cases e5
                                  go_wp2_with (first | (refine wpList_load_blk rfl 38 (.tmp 1) rfl g rfl 38 _ _ HB.out Tryz.underlying38 rfl (by kernel_rfl) ?_) | (go_at_call 80; (with_reducible refine (H9.out _ HXb.out).mono ?_); rintro _ w5 ⟨rfl, hx5⟩))
                                  go_ret
                                  exact ⟨ret_bool (by rw [← HR.out]; simp), HXb.out.trans hx5⟩
                              · go_wp2_with (go_at_call 78; (with_reducible refine (H8.out _ HXb.out).mono ?_); rintro _ w5 ⟨rfl, hx5⟩)
                                go_ret
                                exact ⟨ret_bool (by rw [← HR.out]; simp), HXb.out.trans hx5⟩
                            · go_wp2_with (go_at_call 75; (with_reducible refine (H7.out _ HXb.out).mono ?_); rintro _ w5 ⟨rfl, hx5⟩)
                              go_ret
                              exact ⟨ret_bool (by rw [← HR.out]; simp), HXb.out.trans hx5⟩
                          · go_wp2_with (go_at_call 74; (with_reducible refine (H6.out _ HXb.out).mono ?_); rintro _ w5 ⟨rfl, hx5⟩)
                            go_ret
                            exact ⟨ret_bool (by rw [← HR.out]; simp), HXb.out.trans hx5⟩
                        · go_wp2_with fail
                          go_ret
                          exact ⟨ret_bool (by rw [← HR.out]; simp), HXb.out⟩
                    · go_wp2_with fail
                      go_ret
                      exact ⟨ret_bool (by rw [← HR.out]; simp), HXb.out⟩
                · go_wp2_with fail
                  go_ret
                  exact ⟨ret_bool (by rw [← HR.out]; simp), HXa.out⟩
          · go_wp2_with fail
            go_ret
            exact ⟨ret_bool (by rw [← HR.out]; simp), HX.out⟩
    · go_wp2_with fail
      go_ret
      exact ⟨ret_bool (by rw [← HR.out]; simp), HX.out⟩
end Go.Proofs.YtcdnodjcnofogaaGreatDoor
