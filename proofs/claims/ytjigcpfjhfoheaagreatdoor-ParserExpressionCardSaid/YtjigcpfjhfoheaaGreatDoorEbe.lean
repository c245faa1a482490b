/- Walks: wrong, for the slices of a statement; Walks: the small predicates of a well-formed statement; Walks: well-formed items, sources, orders, rows, assignments; definitions and queries; Walks: a well-formed query. -/
import Derived.Test.YtjigcpfjhfoheaaGreatDoorEbd
import Derived.Test.YtjigcpfjhfoheaaGreatDoorEbc
import Derived.Test.YtjigcpfjhfoheaaGreatDoorEai
namespace Go.Proofs.YtjigcpfjhfoheaaGreatDoor
open Go.RowKit
set_option maxHeartbeats 4000000
set_option maxRecDepth 100000
set_option linter.unusedVariables false
set_option linter.unusedSimpArgs false
theorem ew_cd:Ent 240:=fun _ _=>by kernel_rfl
theorem wr1_cd (G:FuncId) (hE:Ent G) (b:Bool) (g:Nat) (x:Cd) (w:World) (hb:w.cell? ⟨g,0,none⟩=some (.func (Fn.func G) #[] #[]))
  (hG:∀(W:World),Ext w W→Calls Tryz.prog G #[.agg #[.string x.nm,.int .i64 x.ty,.int .i64 x.lo,.int .i64 x.hi,.int .i64 x.mx,.bool x.nn]] W fun r W'=>r= .returned (.bool b)∧Ext W W'):
  Calls Tryz.prog 240 #[.agg #[.string x.nm,.int .i64 x.ty,.int .i64 x.lo,.int .i64 x.hi,.int .i64 x.mx,.bool x.nn],.pointer (some ⟨g,0,none⟩)] w fun r w'=>r= .returned (.bool (!b))∧Ext w w':=by
 unfold Ent at hE
 have HG:=hid hG
 have hb2:∀o,(w.alloc o).cell? ⟨g,0,none⟩=some (.func (Fn.func G) #[] #[]):=fun o=> ((Ext.refl w).alloc o).keep hb
 clear hG
 go_enter Tryz.func240,Tryz.ntmps240
 go_wp2_with fail
 refine(HG.out _ ((Ext.refl w).alloc _)).mono ?_
 rintro _ w2 ⟨rfl,hx2⟩
 go_wp2_with fail
 go_ret
 exact⟨rfl,((Ext.refl w).alloc _).trans hx2⟩
theorem wr_cd (G:FuncId) (hE:Ent G) (q:Cd→Bool) (l:List Cd) (A:Option Addr) (n c:Nat) (w:World) (hl:l.length=n) (hn:n≤9223372036854775807) (hk:CdsAt w A l)
  (hG:∀x∈l,∀(W:World),Ext w W→(x.nm.size≤9223372036854775807∧I64 x.ty∧I64 x.lo∧I64 x.hi∧I64 x.mx)→Calls Tryz.prog G #[.agg #[.string x.nm,.int .i64 x.ty,.int .i64 x.lo,.int .i64 x.hi,.int .i64 x.mx,.bool x.nn]] W fun r W'=>r= .returned (.bool (q x))∧Ext W W'):
  Calls Tryz.prog 185 #[.slice A n c,.func (Fn.func G) #[] #[]] w fun r w'=>r= .returned (.bool (l.any fun x=>!q x))∧Ext w w':=by
 have HC:=hid (cop_cd 240 ew_cd (.pointer (some ⟨w.heap.size,0,none⟩)) (fun x=>!q x) l A n c (w.alloc (.cells #[.func (Fn.func G) #[] #[]] 174)) hl hn (hk.ext ((Ext.refl w).alloc _))
  (fun x hx W hW hc=>wr1_cd G hE (q x) w.heap.size x W (((Blk.of_new w 174 [.func (Fn.func G) #[] #[]]).ext hW).cell_some (i:=0) rfl) fun W2 hW2=>hG x hx W2 ((((Ext.refl w).alloc _).trans hW).trans hW2) hc))
 clear hl hk hG
 go_enter Tryz.func185,Tryz.ntmps185
 go_wp2_with (go_at_call 239;refine HC.out.mono ?_;rintro _ w2 ⟨rfl,hx2⟩)
 go_ret
 exact⟨rfl,((Ext.refl w).alloc _).trans hx2⟩
theorem ew_key:Ent 242:=fun _ _=>by kernel_rfl
theorem wr1_key (G:FuncId) (hE:Ent G) (b:Bool) (g:Nat) (x:(List ByteArray)) (Ai:Option Addr) (ni ci:Nat) (w:World) (hb:w.cell? ⟨g,0,none⟩=some (.func (Fn.func G) #[] #[]))
  (hG:∀(W:World),Ext w W→Calls Tryz.prog G #[.slice Ai ni ci] W fun r W'=>r= .returned (.bool b)∧Ext W W'):
  Calls Tryz.prog 242 #[.slice Ai ni ci,.pointer (some ⟨g,0,none⟩)] w fun r w'=>r= .returned (.bool (!b))∧Ext w w':=by
 unfold Ent at hE
 have HG:=hid hG
 have hb2:∀o,(w.alloc o).cell? ⟨g,0,none⟩=some (.func (Fn.func G) #[] #[]):=fun o=> ((Ext.refl w).alloc o).keep hb
 clear hG
 go_enter Tryz.func242,Tryz.ntmps242
 go_wp2_with fail
 refine(HG.out _ (Ext.refl w)).mono ?_
 rintro _ w2 ⟨rfl,hx2⟩
 go_wp2_with fail
 go_ret
 exact⟨rfl,(Ext.refl w).trans hx2⟩
theorem wr_key (G:FuncId) (hE:Ent G) (q:(List ByteArray)→Bool) (l:List (List ByteArray)) (A:Option Addr) (n c:Nat) (w:World) (hl:l.length=n) (hn:n≤9223372036854775807) (hk:KeysAt w A l)
  (hG:∀x∈l,∀(W:World),Ext w W→∀(Ai:Option Addr) (ni ci:Nat),(x.length=ni∧ni≤9223372036854775807∧StrsAt W Ai x)→Calls Tryz.prog G #[.slice Ai ni ci] W fun r W'=>r= .returned (.bool (q x))∧Ext W W'):
  Calls Tryz.prog 187 #[.slice A n c,.func (Fn.func G) #[] #[]] w fun r w'=>r= .returned (.bool (l.any fun x=>!q x))∧Ext w w':=by
 have HC:=hid (cop_key 242 ew_key (.pointer (some ⟨w.heap.size,0,none⟩)) (fun x=>!q x) l A n c (w.alloc (.cells #[.func (Fn.func G) #[] #[]] 171)) hl hn (hk.ext ((Ext.refl w).alloc _))
  (fun x hx W hW Ai ni ci hc=>wr1_key G hE (q x) w.heap.size x Ai ni ci W (((Blk.of_new w 171 [.func (Fn.func G) #[] #[]]).ext hW).cell_some (i:=0) rfl) fun W2 hW2=>hG x hx W2 ((((Ext.refl w).alloc _).trans hW).trans hW2) Ai ni ci ⟨hc.1,hc.2.1,hc.2.2.ext hW2⟩))
 clear hl hk hG
 go_enter Tryz.func187,Tryz.ntmps187
 go_wp2_with (go_at_call 241;refine HC.out.mono ?_;rintro _ w2 ⟨rfl,hx2⟩)
 go_ret
 exact⟨rfl,((Ext.refl w).alloc _).trans hx2⟩
theorem ew_rf:Ent 244:=fun _ _=>by kernel_rfl
theorem wr1_rf (G:FuncId) (hE:Ent G) (b:Bool) (g:Nat) (x:Rf) (A1:Option Addr) (n1 c1:Nat) (A2:Option Addr) (n2 c2:Nat) (w:World) (hb:w.cell? ⟨g,0,none⟩=some (.func (Fn.func G) #[] #[]))
  (hG:∀(W:World),Ext w W→Calls Tryz.prog G #[.agg #[.slice A1 n1 c1,.string x.tb,.slice A2 n2 c2]] W fun r W'=>r= .returned (.bool b)∧Ext W W'):
  Calls Tryz.prog 244 #[.agg #[.slice A1 n1 c1,.string x.tb,.slice A2 n2 c2],.pointer (some ⟨g,0,none⟩)] w fun r w'=>r= .returned (.bool (!b))∧Ext w w':=by
 unfold Ent at hE
 have HG:=hid hG
 have hb2:∀o,(w.alloc o).cell? ⟨g,0,none⟩=some (.func (Fn.func G) #[] #[]):=fun o=> ((Ext.refl w).alloc o).keep hb
 clear hG
 go_enter Tryz.func244,Tryz.ntmps244
 go_wp2_with fail
 refine(HG.out _ ((Ext.refl w).alloc _)).mono ?_
 rintro _ w2 ⟨rfl,hx2⟩
 go_wp2_with fail
 go_ret
 exact⟨rfl,((Ext.refl w).alloc _).trans hx2⟩
theorem wr_rf (G:FuncId) (hE:Ent G) (q:Rf→Bool) (l:List Rf) (A:Option Addr) (n c:Nat) (w:World) (hl:l.length=n) (hn:n≤9223372036854775807) (hk:RfsAt w A l)
  (hG:∀x∈l,∀(W:World),Ext w W→∀(A1:Option Addr) (n1 c1:Nat) (A2:Option Addr) (n2 c2:Nat),(x.tb.size≤9223372036854775807∧x.cs.length=n1∧n1≤9223372036854775807∧StrsAt W A1 x.cs∧x.tg.length=n2∧n2≤9223372036854775807∧StrsAt W A2 x.tg)→Calls Tryz.prog G #[.agg #[.slice A1 n1 c1,.string x.tb,.slice A2 n2 c2]] W fun r W'=>r= .returned (.bool (q x))∧Ext W W'):
  Calls Tryz.prog 188 #[.slice A n c,.func (Fn.func G) #[] #[]] w fun r w'=>r= .returned (.bool (l.any fun x=>!q x))∧Ext w w':=by
 have HC:=hid (cop_rf 244 ew_rf (.pointer (some ⟨w.heap.size,0,none⟩)) (fun x=>!q x) l A n c (w.alloc (.cells #[.func (Fn.func G) #[] #[]] 172)) hl hn (hk.ext ((Ext.refl w).alloc _))
  (fun x hx W hW A1 n1 c1 A2 n2 c2 hc=>wr1_rf G hE (q x) w.heap.size x A1 n1 c1 A2 n2 c2 W (((Blk.of_new w 172 [.func (Fn.func G) #[] #[]]).ext hW).cell_some (i:=0) rfl) fun W2 hW2=>hG x hx W2 ((((Ext.refl w).alloc _).trans hW).trans hW2) A1 n1 c1 A2 n2 c2 ⟨hc.1,hc.2.1,hc.2.2.1,hc.2.2.2.1.ext hW2,hc.2.2.2.2.1,hc.2.2.2.2.2.1,hc.2.2.2.2.2.2.ext hW2⟩))
 clear hl hk hG
 go_enter Tryz.func188,Tryz.ntmps188
 go_wp2_with (go_at_call 243;refine HC.out.mono ?_;rintro _ w2 ⟨rfl,hx2⟩)
 go_ret
 exact⟨rfl,((Ext.refl w).alloc _).trans hx2⟩
theorem ew_row:Ent 190:=fun _ _=>by kernel_rfl
theorem wr1_row (G:FuncId) (hE:Ent G) (b:Bool) (g:Nat) (x:(List Ex)) (Ai:Option Addr) (ni ci:Nat) (w:World) (hb:w.cell? ⟨g,0,none⟩=some (.func (Fn.func G) #[] #[]))
  (hG:∀(W:World),Ext w W→Calls Tryz.prog G #[.slice Ai ni ci] W fun r W'=>r= .returned (.bool b)∧Ext W W'):
  Calls Tryz.prog 190 #[.slice Ai ni ci,.pointer (some ⟨g,0,none⟩)] w fun r w'=>r= .returned (.bool (!b))∧Ext w w':=by
 unfold Ent at hE
 have HG:=hid hG
 have hb2:∀o,(w.alloc o).cell? ⟨g,0,none⟩=some (.func (Fn.func G) #[] #[]):=fun o=> ((Ext.refl w).alloc o).keep hb
 clear hG
 go_enter Tryz.func190,Tryz.ntmps190
 go_wp2_with fail
 refine(HG.out _ (Ext.refl w)).mono ?_
 rintro _ w2 ⟨rfl,hx2⟩
 go_wp2_with fail
 go_ret
 exact⟨rfl,(Ext.refl w).trans hx2⟩
theorem wr_row (G:FuncId) (hE:Ent G) (q:(List Ex)→Bool) (l:List (List Ex)) (A:Option Addr) (n c:Nat) (w:World) (hl:l.length=n) (hn:n≤9223372036854775807) (hk:RowsAt w A l)
  (hG:∀x∈l,∀(W:World),Ext w W→∀(Ai:Option Addr) (ni ci:Nat),(x.length=ni∧KidsAt W Ai x)→Calls Tryz.prog G #[.slice Ai ni ci] W fun r W'=>r= .returned (.bool (q x))∧Ext W W'):
  Calls Tryz.prog 119 #[.slice A n c,.func (Fn.func G) #[] #[]] w fun r w'=>r= .returned (.bool (l.any fun x=>!q x))∧Ext w w':=by
 have HC:=hid (cop_row 190 ew_row (.pointer (some ⟨w.heap.size,0,none⟩)) (fun x=>!q x) l A n c (w.alloc (.cells #[.func (Fn.func G) #[] #[]] 89)) hl hn (hk.ext ((Ext.refl w).alloc _))
  (fun x hx W hW Ai ni ci hc=>wr1_row G hE (q x) w.heap.size x Ai ni ci W (((Blk.of_new w 89 [.func (Fn.func G) #[] #[]]).ext hW).cell_some (i:=0) rfl) fun W2 hW2=>hG x hx W2 ((((Ext.refl w).alloc _).trans hW).trans hW2) Ai ni ci ⟨hc.1,hc.2.ext hW2⟩))
 clear hl hk hG
 go_enter Tryz.func119,Tryz.ntmps119
 go_wp2_with (go_at_call 189;refine HC.out.mono ?_;rintro _ w2 ⟨rfl,hx2⟩)
 go_ret
 exact⟨rfl,((Ext.refl w).alloc _).trans hx2⟩
theorem ew_asg:Ent 193:=fun _ _=>by kernel_rfl
theorem wr1_asg (G:FuncId) (hE:Ent G) (b:Bool) (g:Nat) (x:Asg) (Ai:Option Addr) (ni ci:Nat) (w:World) (hb:w.cell? ⟨g,0,none⟩=some (.func (Fn.func G) #[] #[]))
  (hG:∀(W:World),Ext w W→Calls Tryz.prog G #[.agg #[.string x.cl,.int .i64 x.ix,.int .i64 x.ex.d.op,.string x.ex.d.tb,.string x.ex.d.nm,.int .i64 x.ex.d.ix,.int .i64 x.ex.d.vk,.int .i64 x.ex.d.vi,.string x.ex.d.vt,.slice Ai ni ci]] W fun r W'=>r= .returned (.bool b)∧Ext W W'):
  Calls Tryz.prog 193 #[.agg #[.string x.cl,.int .i64 x.ix,.int .i64 x.ex.d.op,.string x.ex.d.tb,.string x.ex.d.nm,.int .i64 x.ex.d.ix,.int .i64 x.ex.d.vk,.int .i64 x.ex.d.vi,.string x.ex.d.vt,.slice Ai ni ci],.pointer (some ⟨g,0,none⟩)] w fun r w'=>r= .returned (.bool (!b))∧Ext w w':=by
 unfold Ent at hE
 have HG:=hid hG
 have hb2:∀o,(w.alloc o).cell? ⟨g,0,none⟩=some (.func (Fn.func G) #[] #[]):=fun o=> ((Ext.refl w).alloc o).keep hb
 clear hG
 go_enter Tryz.func193,Tryz.ntmps193
 go_wp2_with fail
 refine(HG.out _ ((Ext.refl w).alloc _)).mono ?_
 rintro _ w2 ⟨rfl,hx2⟩
 go_wp2_with fail
 go_ret
 exact⟨rfl,((Ext.refl w).alloc _).trans hx2⟩
theorem wr_asg (G:FuncId) (hE:Ent G) (q:Asg→Bool) (l:List Asg) (A:Option Addr) (n c:Nat) (w:World) (hl:l.length=n) (hn:n≤9223372036854775807) (hk:AsgsAt w A l)
  (hG:∀x∈l,∀(W:World),Ext w W→∀(Ai:Option Addr) (ni ci:Nat),ExV W x.ex Ai ni ci→Calls Tryz.prog G #[.agg #[.string x.cl,.int .i64 x.ix,.int .i64 x.ex.d.op,.string x.ex.d.tb,.string x.ex.d.nm,.int .i64 x.ex.d.ix,.int .i64 x.ex.d.vk,.int .i64 x.ex.d.vi,.string x.ex.d.vt,.slice Ai ni ci]] W fun r W'=>r= .returned (.bool (q x))∧Ext W W'):
  Calls Tryz.prog 122 #[.slice A n c,.func (Fn.func G) #[] #[]] w fun r w'=>r= .returned (.bool (l.any fun x=>!q x))∧Ext w w':=by
 have HC:=hid (cop_asg 193 ew_asg (.pointer (some ⟨w.heap.size,0,none⟩)) (fun x=>!q x) l A n c (w.alloc (.cells #[.func (Fn.func G) #[] #[]] 150)) hl hn (hk.ext ((Ext.refl w).alloc _))
  (fun x hx W hW Ai ni ci hc=>wr1_asg G hE (q x) w.heap.size x Ai ni ci W (((Blk.of_new w 150 [.func (Fn.func G) #[] #[]]).ext hW).cell_some (i:=0) rfl) fun W2 hW2=>hG x hx W2 ((((Ext.refl w).alloc _).trans hW).trans hW2) Ai ni ci (hc.ext hW2)))
 clear hl hk hG
 go_enter Tryz.func122,Tryz.ntmps122
 go_wp2_with (go_at_call 192;refine HC.out.mono ?_;rintro _ w2 ⟨rfl,hx2⟩)
 go_ret
 exact⟨rfl,((Ext.refl w).alloc _).trans hx2⟩
theorem ew_itm:Ent 248:=fun _ _=>by kernel_rfl
theorem wr1_itm (G:FuncId) (hE:Ent G) (b:Bool) (g:Nat) (x:Itm) (Ai:Option Addr) (ni ci:Nat) (w:World) (hb:w.cell? ⟨g,0,none⟩=some (.func (Fn.func G) #[] #[]))
  (hG:∀(W:World),Ext w W→Calls Tryz.prog G #[.agg #[.int .i64 x.ag,.int .i64 x.ex.d.op,.string x.ex.d.tb,.string x.ex.d.nm,.int .i64 x.ex.d.ix,.int .i64 x.ex.d.vk,.int .i64 x.ex.d.vi,.string x.ex.d.vt,.slice Ai ni ci]] W fun r W'=>r= .returned (.bool b)∧Ext W W'):
  Calls Tryz.prog 248 #[.agg #[.int .i64 x.ag,.int .i64 x.ex.d.op,.string x.ex.d.tb,.string x.ex.d.nm,.int .i64 x.ex.d.ix,.int .i64 x.ex.d.vk,.int .i64 x.ex.d.vi,.string x.ex.d.vt,.slice Ai ni ci],.pointer (some ⟨g,0,none⟩)] w fun r w'=>r= .returned (.bool (!b))∧Ext w w':=by
 unfold Ent at hE
 have HG:=hid hG
 have hb2:∀o,(w.alloc o).cell? ⟨g,0,none⟩=some (.func (Fn.func G) #[] #[]):=fun o=> ((Ext.refl w).alloc o).keep hb
 clear hG
 go_enter Tryz.func248,Tryz.ntmps248
 go_wp2_with fail
 refine(HG.out _ ((Ext.refl w).alloc _)).mono ?_
 rintro _ w2 ⟨rfl,hx2⟩
 go_wp2_with fail
 go_ret
 exact⟨rfl,((Ext.refl w).alloc _).trans hx2⟩
theorem wr_itm (G:FuncId) (hE:Ent G) (q:Itm→Bool) (l:List Itm) (A:Option Addr) (n c:Nat) (w:World) (hl:l.length=n) (hn:n≤9223372036854775807) (hk:ItmsAt w A l)
  (hG:∀x∈l,∀(W:World),Ext w W→∀(Ai:Option Addr) (ni ci:Nat),ExV W x.ex Ai ni ci→Calls Tryz.prog G #[.agg #[.int .i64 x.ag,.int .i64 x.ex.d.op,.string x.ex.d.tb,.string x.ex.d.nm,.int .i64 x.ex.d.ix,.int .i64 x.ex.d.vk,.int .i64 x.ex.d.vi,.string x.ex.d.vt,.slice Ai ni ci]] W fun r W'=>r= .returned (.bool (q x))∧Ext W W'):
  Calls Tryz.prog 198 #[.slice A n c,.func (Fn.func G) #[] #[]] w fun r w'=>r= .returned (.bool (l.any fun x=>!q x))∧Ext w w':=by
 have HC:=hid (cop_itm 248 ew_itm (.pointer (some ⟨w.heap.size,0,none⟩)) (fun x=>!q x) l A n c (w.alloc (.cells #[.func (Fn.func G) #[] #[]] 181)) hl hn (hk.ext ((Ext.refl w).alloc _))
  (fun x hx W hW Ai ni ci hc=>wr1_itm G hE (q x) w.heap.size x Ai ni ci W (((Blk.of_new w 181 [.func (Fn.func G) #[] #[]]).ext hW).cell_some (i:=0) rfl) fun W2 hW2=>hG x hx W2 ((((Ext.refl w).alloc _).trans hW).trans hW2) Ai ni ci (hc.ext hW2)))
 clear hl hk hG
 go_enter Tryz.func198,Tryz.ntmps198
 go_wp2_with (go_at_call 247;refine HC.out.mono ?_;rintro _ w2 ⟨rfl,hx2⟩)
 go_ret
 exact⟨rfl,((Ext.refl w).alloc _).trans hx2⟩
theorem ew_src:Ent 250:=fun _ _=>by kernel_rfl
theorem wr1_src (G:FuncId) (hE:Ent G) (b:Bool) (g:Nat) (x:Src) (w:World) (hb:w.cell? ⟨g,0,none⟩=some (.func (Fn.func G) #[] #[]))
  (hG:∀(W:World),Ext w W→Calls Tryz.prog G #[.agg #[.string x.tb,.string x.al]] W fun r W'=>r= .returned (.bool b)∧Ext W W'):
  Calls Tryz.prog 250 #[.agg #[.string x.tb,.string x.al],.pointer (some ⟨g,0,none⟩)] w fun r w'=>r= .returned (.bool (!b))∧Ext w w':=by
 unfold Ent at hE
 have HG:=hid hG
 have hb2:∀o,(w.alloc o).cell? ⟨g,0,none⟩=some (.func (Fn.func G) #[] #[]):=fun o=> ((Ext.refl w).alloc o).keep hb
 clear hG
 go_enter Tryz.func250,Tryz.ntmps250
 go_wp2_with fail
 refine(HG.out _ ((Ext.refl w).alloc _)).mono ?_
 rintro _ w2 ⟨rfl,hx2⟩
 go_wp2_with fail
 go_ret
 exact⟨rfl,((Ext.refl w).alloc _).trans hx2⟩
theorem wr_src (G:FuncId) (hE:Ent G) (q:Src→Bool) (l:List Src) (A:Option Addr) (n c:Nat) (w:World) (hl:l.length=n) (hn:n≤9223372036854775807) (hk:SrcsAt w A l)
  (hG:∀x∈l,∀(W:World),Ext w W→(x.tb.size≤9223372036854775807∧x.al.size≤9223372036854775807)→Calls Tryz.prog G #[.agg #[.string x.tb,.string x.al]] W fun r W'=>r= .returned (.bool (q x))∧Ext W W'):
  Calls Tryz.prog 200 #[.slice A n c,.func (Fn.func G) #[] #[]] w fun r w'=>r= .returned (.bool (l.any fun x=>!q x))∧Ext w w':=by
 have HC:=hid (cop_src 250 ew_src (.pointer (some ⟨w.heap.size,0,none⟩)) (fun x=>!q x) l A n c (w.alloc (.cells #[.func (Fn.func G) #[] #[]] 177)) hl hn (hk.ext ((Ext.refl w).alloc _))
  (fun x hx W hW hc=>wr1_src G hE (q x) w.heap.size x W (((Blk.of_new w 177 [.func (Fn.func G) #[] #[]]).ext hW).cell_some (i:=0) rfl) fun W2 hW2=>hG x hx W2 ((((Ext.refl w).alloc _).trans hW).trans hW2) hc))
 clear hl hk hG
 go_enter Tryz.func200,Tryz.ntmps200
 go_wp2_with (go_at_call 249;refine HC.out.mono ?_;rintro _ w2 ⟨rfl,hx2⟩)
 go_ret
 exact⟨rfl,((Ext.refl w).alloc _).trans hx2⟩
theorem ew_ord:Ent 252:=fun _ _=>by kernel_rfl
theorem wr1_ord (G:FuncId) (hE:Ent G) (b:Bool) (g:Nat) (x:Ord') (w:World) (hb:w.cell? ⟨g,0,none⟩=some (.func (Fn.func G) #[] #[]))
  (hG:∀(W:World),Ext w W→Calls Tryz.prog G #[.agg #[.int .i64 x.it,.bool x.ds]] W fun r W'=>r= .returned (.bool b)∧Ext W W'):
  Calls Tryz.prog 252 #[.agg #[.int .i64 x.it,.bool x.ds],.pointer (some ⟨g,0,none⟩)] w fun r w'=>r= .returned (.bool (!b))∧Ext w w':=by
 unfold Ent at hE
 have HG:=hid hG
 have hb2:∀o,(w.alloc o).cell? ⟨g,0,none⟩=some (.func (Fn.func G) #[] #[]):=fun o=> ((Ext.refl w).alloc o).keep hb
 clear hG
 go_enter Tryz.func252,Tryz.ntmps252
 go_wp2_with fail
 refine(HG.out _ ((Ext.refl w).alloc _)).mono ?_
 rintro _ w2 ⟨rfl,hx2⟩
 go_wp2_with fail
 go_ret
 exact⟨rfl,((Ext.refl w).alloc _).trans hx2⟩
theorem wr_ord (G:FuncId) (hE:Ent G) (q:Ord'→Bool) (l:List Ord') (A:Option Addr) (n c:Nat) (w:World) (hl:l.length=n) (hn:n≤9223372036854775807) (hk:OrdsAt w A l)
  (hG:∀x∈l,∀(W:World),Ext w W→I64 x.it→Calls Tryz.prog G #[.agg #[.int .i64 x.it,.bool x.ds]] W fun r W'=>r= .returned (.bool (q x))∧Ext W W'):
  Calls Tryz.prog 201 #[.slice A n c,.func (Fn.func G) #[] #[]] w fun r w'=>r= .returned (.bool (l.any fun x=>!q x))∧Ext w w':=by
 have HC:=hid (cop_ord 252 ew_ord (.pointer (some ⟨w.heap.size,0,none⟩)) (fun x=>!q x) l A n c (w.alloc (.cells #[.func (Fn.func G) #[] #[]] 179)) hl hn (hk.ext ((Ext.refl w).alloc _))
  (fun x hx W hW hc=>wr1_ord G hE (q x) w.heap.size x W (((Blk.of_new w 179 [.func (Fn.func G) #[] #[]]).ext hW).cell_some (i:=0) rfl) fun W2 hW2=>hG x hx W2 ((((Ext.refl w).alloc _).trans hW).trans hW2) hc))
 clear hl hk hG
 go_enter Tryz.func201,Tryz.ntmps201
 go_wp2_with (go_at_call 251;refine HC.out.mono ?_;rintro _ w2 ⟨rfl,hx2⟩)
 go_ret
 exact⟨rfl,((Ext.refl w).alloc _).trans hx2⟩
theorem ew_ex:Ent 191:=fun _ _=>by kernel_rfl
theorem wr1_ex (G:FuncId) (hE:Ent G) (b:Bool) (g:Nat) (x:Ex) (Ai:Option Addr) (ni ci:Nat) (w:World) (hb:w.cell? ⟨g,0,none⟩=some (.func (Fn.func G) #[] #[]))
  (hG:∀(W:World),Ext w W→Calls Tryz.prog G #[x.d.val Ai ni ci] W fun r W'=>r= .returned (.bool b)∧Ext W W'):
  Calls Tryz.prog 191 #[x.d.val Ai ni ci,.pointer (some ⟨g,0,none⟩)] w fun r w'=>r= .returned (.bool (!b))∧Ext w w':=by
 unfold Ent at hE
 have HG:=hid hG
 have hb2:∀o,(w.alloc o).cell? ⟨g,0,none⟩=some (.func (Fn.func G) #[] #[]):=fun o=> ((Ext.refl w).alloc o).keep hb
 clear hG
 unfold Nd.val at HG ⊢
 generalize x.d=d at*
 obtain⟨op,tb,nm,ix,vk,vi,vt⟩:=d
 simp only at*
 go_enter Tryz.func191,Tryz.ntmps191
 go_wp2_with fail
 refine(HG.out _ ((Ext.refl w).alloc _)).mono ?_
 rintro _ w2 ⟨rfl,hx2⟩
 go_wp2_with fail
 go_ret
 exact⟨rfl,((Ext.refl w).alloc _).trans hx2⟩
theorem wr_ex (G:FuncId) (hE:Ent G) (q:Ex→Bool) (l:List Ex) (A:Option Addr) (n c:Nat) (w:World) (hl:l.length=n) (hn:n≤9223372036854775807) (hk:KidsAt w A l)
  (hG:∀x∈l,∀(W:World),Ext w W→∀(Ai:Option Addr) (ni ci:Nat),ExV W x Ai ni ci→Calls Tryz.prog G #[x.d.val Ai ni ci] W fun r W'=>r= .returned (.bool (q x))∧Ext W W'):
  Calls Tryz.prog 121 #[.slice A n c,.func (Fn.func G) #[] #[]] w fun r w'=>r= .returned (.bool (l.any fun x=>!q x))∧Ext w w':=by
 have HC:=hid (cop_ex 191 ew_ex (.pointer (some ⟨w.heap.size,0,none⟩)) (fun x=>!q x) l A n c (w.alloc (.cells #[.func (Fn.func G) #[] #[]] 55)) hl hn (hk.ext ((Ext.refl w).alloc _))
  (fun x hx W hW Ai ni ci hc=>wr1_ex G hE (q x) w.heap.size x Ai ni ci W (((Blk.of_new w 55 [.func (Fn.func G) #[] #[]]).ext hW).cell_some (i:=0) rfl) fun W2 hW2=>hG x hx W2 ((((Ext.refl w).alloc _).trans hW).trans hW2) Ai ni ci (hc.ext hW2)))
 clear hl hk hG
 go_enter Tryz.func121,Tryz.ntmps121
 go_wp2_with (go_at_call 111;refine HC.out.mono ?_;rintro _ w2 ⟨rfl,hx2⟩)
 go_ret
 exact⟨rfl,((Ext.refl w).alloc _).trans hx2⟩
theorem names1 (s:ByteArray) (w:World) (hw:Sh w) (hm:s.size≤9223372036854775807):Calls Tryz.prog 238 #[.string s] w fun r w'=>r= .returned (.bool (!nameB s))∧Ext w w':=by
 have HN:=hid (name_any s w hw hm)
 clear hw hm
 generalize nameB s=b at*
 go_enter Tryz.func238,Tryz.ntmps238
 go_wp2_with (go_at_call 115;refine HN.out.mono ?_;rintro _ _ ⟨rfl,rfl⟩)
 go_ret
 exact⟨rfl,Ext.refl _⟩
theorem ent_names1:Ent 238:=fun _ _=>by kernel_rfl
theorem ent_names:Ent 184:=fun _ _=>by kernel_rfl
theorem ent_formed:Ent 79:=fun _ _=>by kernel_rfl
theorem names_any (l:List ByteArray) (A:Option Addr) (n c:Nat) (w:World) (hw:Sh w) (hl:l.length=n) (hn:n≤9223372036854775807) (hs:StrsAt w A l):
  Calls Tryz.prog 184 #[.slice A n c] w fun r w'=>r= .returned (.bool (namesB l))∧Ext w w':=by
 have HC:=hid (co_str 238 ent_names1 (fun s=>!nameB s) l A n c w hl hn hs fun x _ W hW hc=>names1 x W (hw.ext hW) hc)
 have HR:=hid (namesB_eq l)
 rw[hl]at HR
 generalize namesB l=R at*
 generalize (l.any fun s=>!nameB s)=b at*
 clear hw hs hl
 by_cases h0:0<n
 ·have d0:decide ((0:Int)<(n:Int))=true:=by simp;omega
  have HR2:Hid (R=!b):=by unfold Hid;rw[HR.out];simp[h0]
  go_enter Tryz.func184,Tryz.ntmps184
  go_wp2_with (go_at_call 237;refine HC.out.mono ?_;rintro _ w2 ⟨rfl,hx2⟩)
  go_ret
  exact⟨ret_bool HR2.out.symm,hx2⟩
 ·have d0:decide ((0:Int)<(n:Int))=false:=by simp;omega
  have HR2:Hid (R=false):=by unfold Hid;rw[HR.out];simp[h0]
  go_enter Tryz.func184,Tryz.ntmps184
  go_wp2_with (go_at_call 237;refine HC.out.mono ?_;rintro _ w2 ⟨rfl,hx2⟩)
  go_ret
  exact⟨ret_bool HR2.out.symm,Ext.refl w⟩
theorem colok_any (x:Cd) (w:World) (hw:Sh w) (hc:x.nm.size≤9223372036854775807∧I64 x.ty∧I64 x.lo∧I64 x.hi∧I64 x.mx):
  Calls Tryz.prog 186 #[.agg #[.string x.nm,.int .i64 x.ty,.int .i64 x.lo,.int .i64 x.hi,.int .i64 x.mx,.bool x.nn]] w fun r w'=>r= .returned (.bool x.ok)∧Ext w w':=by
 have HN:=hid (fun W (hW:Ext w W)=>name_any x.nm W (hw.ext hW) hc.1)
 have HW1:=hid (fun W=>within_any x.lo (-2147483648) 2147483648 W)
 have HW2:=hid (fun W=>within_any x.hi (-2147483648) 2147483648 W)
 have HW3:=hid (fun W=>within_any x.mx 0 2147483648 W)
 obtain⟨R,hR⟩:∃R,x.ok=R:=⟨_,rfl⟩
 rw[hR]
 unfold Cd.ok inB at hR
 clear hw hc
 generalize nameB x.nm=bn at*
 generalize (decide (-2147483648≤x.lo) &&decide (x.lo≤2147483648))=b1 at*
 generalize (decide (-2147483648≤x.hi) &&decide (x.hi≤2147483648))=b2 at*
 generalize (decide (0≤x.mx) &&decide (x.mx≤2147483648))=b3 at*
 obtain⟨t1,ht1⟩:∃b,(x.ty==1)=b:=⟨_,rfl⟩
 obtain⟨t2,ht2⟩:∃b,(x.ty==2)=b:=⟨_,rfl⟩
 obtain⟨z1,hz1⟩:∃b,(x.lo==0)=b:=⟨_,rfl⟩
 obtain⟨z2,hz2⟩:∃b,(x.hi==0)=b:=⟨_,rfl⟩
 obtain⟨z3,hz3⟩:∃b,(x.mx==0)=b:=⟨_,rfl⟩
 rw[ht1,ht2,hz1,hz2,hz3]at hR
 have HR:=hid hR
 clear hR
 cases t1
 ·cases t2<;>cases bn<;>cases z1<;>cases z2
  all_goals
   go_enter Tryz.func186,Tryz.ntmps186
   go_wp2_with (first|(go_at_call 115;(with_reducible refine(HN.out _ ((Ext.refl w).alloc _)).mono ?_);rintro _ _ ⟨rfl,rfl⟩)|(go_at_call 197;(with_reducible refine(HW3.out _).mono ?_);rintro _ _ ⟨rfl,rfl⟩))
   go_ret
   exact⟨ret_bool (by rw[←HR.out];simp),(Ext.refl w).alloc _⟩
 ·cases bn<;>cases b1<;>cases b2
  all_goals
   go_enter Tryz.func186,Tryz.ntmps186
   go_wp2_with (first|(go_at_call 115;(with_reducible refine(HN.out _ ((Ext.refl w).alloc _)).mono ?_);rintro _ _ ⟨rfl,rfl⟩)|(go_at_call 197;(with_reducible refine(HW1.out _).mono ?_);rintro _ _ ⟨rfl,rfl⟩)|(go_at_call 197;(with_reducible refine(HW2.out _).mono ?_);rintro _ _ ⟨rfl,rfl⟩))
   go_ret
   exact⟨ret_bool (by rw[←HR.out];simp[hz3]),(Ext.refl w).alloc _⟩
theorem ent_col:Ent 186:=fun _ _=>by kernel_rfl
theorem rfok_any (x:Rf) (A1:Option Addr) (n1 c1:Nat) (A2:Option Addr) (n2 c2:Nat) (w:World) (hw:Sh w)
  (hc:x.tb.size≤9223372036854775807∧x.cs.length=n1∧n1≤9223372036854775807∧StrsAt w A1 x.cs∧x.tg.length=n2∧n2≤9223372036854775807∧StrsAt w A2 x.tg):
  Calls Tryz.prog 183 #[.agg #[.slice A1 n1 c1,.string x.tb,.slice A2 n2 c2]] w fun r w'=>r= .returned (.bool x.ok)∧Ext w w':=by
 obtain⟨h0,h1,h2,h3,h4,h5,h6⟩:=hc
 have HN:=hid (fun W (hW:Ext w W)=>name_any x.tb W (hw.ext hW) h0)
 have H1:=hid (fun W (hW:Ext w W)=>names_any x.cs A1 n1 c1 W (hw.ext hW) h1 h2 (h3.ext hW))
 have H2:=hid (fun W (hW:Ext w W)=>names_any x.tg A2 n2 c2 W (hw.ext hW) h4 h5 (h6.ext hW))
 have HB:=hid (Blk.of_new w 103 [.slice A1 n1 c1,.string x.tb,.slice A2 n2 c2])
 clear hw h1 h2 h3 h4 h5 h6 h0
 unfold Rf.ok
 generalize nameB x.tb=bn at*
 generalize namesB x.cs=b1 at*
 generalize namesB x.tg=b2 at*
 cases b1<;>cases bn
 all_goals
  go_enter Tryz.func183,Tryz.ntmps183
  go_wp2_with (first|(go_at_call 115;(with_reducible refine(HN.out _ (((Ext.refl w).alloc _).trans hx2)).mono ?_);rintro _ _ ⟨rfl,rfl⟩)|(go_at_call 184;(with_reducible refine(H2.out _ (((Ext.refl w).alloc _).trans hx2)).mono ?_);rintro _ w3 ⟨rfl,hx3⟩)|(go_at_call 184;(with_reducible refine(H1.out _ ((Ext.refl w).alloc _)).mono ?_);rintro _ w2 ⟨rfl,hx2⟩;obtain⟨-,e1,e2,-⟩:=cls (HB.out.ext hx2)))
  go_ret
  first|exact⟨rfl,(((Ext.refl w).alloc _).trans hx2).trans hx3⟩|exact⟨rfl,((Ext.refl w).alloc _).trans hx2⟩
theorem ent_rf:Ent 183:=fun _ _=>by kernel_rfl
theorem itmok_any (x:Itm) (A:Option Addr) (n c:Nat) (w:World) (hw:Sh w) (hv:ExV w x.ex A n c):
  Calls Tryz.prog 199 #[.agg #[.int .i64 x.ag,.int .i64 x.ex.d.op,.string x.ex.d.tb,.string x.ex.d.nm,.int .i64 x.ex.d.ix,.int .i64 x.ex.d.vk,.int .i64 x.ex.d.vi,.string x.ex.d.vt,.slice A n c]] w fun r w'=>r= .returned (.bool x.ok)∧Ext w w':=by
 have HF:=hid (fun W (hW:Ext w W)=>formed_any x.ex A n c W (hv.ext hW) (hw.ext hW))
 have HA:=hid (fun W (hW:Ext w W)=>absent_any x.ex A n c W (hv.ext hW))
 obtain⟨R,hR⟩:∃R,x.ok=R:=⟨_,rfl⟩
 rw[hR]
 unfold Itm.ok at hR
 unfold Nd.val at HF HA
 clear hw hv
 generalize x.ex.formed=bf at*
 generalize x.ex.absent=ba at*
 generalize x.ex.d=d at*
 obtain⟨op,tb,nm,ix,vk,vi,vt⟩:=d
 simp only at*
 obtain⟨t1,ht1⟩:∃b,(x.ag==1)=b:=⟨_,rfl⟩
 obtain⟨t2,ht2⟩:∃b,decide (0≤x.ag)=b:=⟨_,rfl⟩
 obtain⟨t3,ht3⟩:∃b,decide (x.ag≤5)=b:=⟨_,rfl⟩
 rw[ht1,ht2,ht3]at hR
 have HR:=hid hR
 clear hR
 cases t1
 ·cases t2<;>cases t3
  all_goals
   go_enter Tryz.func199,Tryz.ntmps199
   go_wp2_with (go_at_call 79;(with_reducible refine(HF.out _ ((Ext.refl w).alloc _)).mono ?_);rintro _ w2 ⟨rfl,hx2⟩)
   go_ret
   first|exact⟨ret_bool (by rw[←HR.out];simp),((Ext.refl w).alloc _).trans hx2⟩|exact⟨ret_bool (by rw[←HR.out];simp),(Ext.refl w).alloc _⟩
 ·go_enter Tryz.func199,Tryz.ntmps199
  go_wp2_with (go_at_call 116;(with_reducible refine(HA.out _ ((Ext.refl w).alloc _)).mono ?_);rintro _ w2 ⟨rfl,hx2⟩)
  go_ret
  exact⟨ret_bool (by rw[←HR.out];simp),((Ext.refl w).alloc _).trans hx2⟩
theorem ent_itm:Ent 199:=fun _ _=>by kernel_rfl
theorem srcok_any (x:Src) (w:World) (hw:Sh w) (hc:x.tb.size≤9223372036854775807∧x.al.size≤9223372036854775807):
  Calls Tryz.prog 194 #[.agg #[.string x.tb,.string x.al]] w fun r w'=>r= .returned (.bool x.ok)∧Ext w w':=by
 have HN:=hid (fun W (hW:Ext w W)=>name_any x.tb W (hw.ext hW) hc.1)
 have HN2:=hid (fun W (hW:Ext w W)=>name_any x.al W (hw.ext hW) hc.2)
 obtain⟨R,hR⟩:∃R,x.ok=R:=⟨_,rfl⟩
 rw[hR]
 unfold Src.ok at hR
 clear hw hc
 generalize nameB x.tb=b1 at*
 generalize nameB x.al=b2 at*
 obtain⟨t1,ht1⟩:∃b,x.al.toList.isEmpty=b:=⟨_,rfl⟩
 rw[ht1]at hR
 have HR:=hid hR
 clear hR
 cases b1<;>cases t1
 all_goals
  go_enter Tryz.func194,Tryz.ntmps194
  go_wp2_with (first|(go_at_call 115;(with_reducible refine(HN.out _ ((Ext.refl w).alloc _)).mono ?_);rintro _ _ ⟨rfl,rfl⟩)|(go_at_call 115;(with_reducible refine(HN2.out _ ((Ext.refl w).alloc _)).mono ?_);rintro _ _ ⟨rfl,rfl⟩))
  go_ret
  exact⟨ret_bool (by rw[←HR.out];simp),(Ext.refl w).alloc _⟩
theorem ent_src:Ent 194:=fun _ _=>by kernel_rfl
theorem colx_any (x:Ex) (A:Option Addr) (n c:Nat) (w:World) (hw:Sh w) (hv:ExV w x A n c):
  Calls Tryz.prog 195 #[x.d.val A n c] w fun r w'=>r= .returned (.bool (colX x))∧Ext w w':=by
 have HF:=hid (fun W (hW:Ext w W)=>formed_any x A n c W (hv.ext hW) (hw.ext hW))
 obtain⟨R,hR⟩:∃R,colX x=R:=⟨_,rfl⟩
 rw[hR]
 unfold colX at hR
 unfold Nd.val at HF ⊢
 clear hw hv
 generalize x.formed=bf at*
 generalize x.d=d at*
 obtain⟨op,tb,nm,ix,vk,vi,vt⟩:=d
 simp only at*
 obtain⟨t1,ht1⟩:∃b,(op==2)=b:=⟨_,rfl⟩
 rw[ht1]at hR
 have HR:=hid hR
 clear hR
 cases t1
 all_goals
  go_enter Tryz.func195,Tryz.ntmps195
  go_wp2_with (go_at_call 79;(with_reducible refine(HF.out _ ((Ext.refl w).alloc _)).mono ?_);rintro _ w2 ⟨rfl,hx2⟩)
  go_ret
  first|exact⟨ret_bool (by rw[←HR.out];simp),((Ext.refl w).alloc _).trans hx2⟩|exact⟨ret_bool (by rw[←HR.out];simp),(Ext.refl w).alloc _⟩
theorem ent_colx:Ent 195:=fun _ _=>by kernel_rfl
theorem ordok_any (x:Ord') (w:World) (hc:I64 x.it):
  Calls Tryz.prog 196 #[.agg #[.int .i64 x.it,.bool x.ds]] w fun r w'=>r= .returned (.bool x.ok)∧Ext w w':=by
 have HW:=hid (fun W=>within_any x.it 1 2147483648 W)
 obtain⟨R,hR⟩:∃R,x.ok=R:=⟨_,rfl⟩
 rw[hR]
 unfold Ord'.ok inB at hR
 rw[hR]at HW
 clear hc hR
 go_enter Tryz.func196,Tryz.ntmps196
 go_wp2_with (go_at_call 197;(with_reducible refine(HW.out _).mono ?_);rintro _ _ ⟨rfl,rfl⟩)
 go_ret
 exact⟨rfl,(Ext.refl w).alloc _⟩
theorem ent_ord:Ent 196:=fun _ _=>by kernel_rfl
theorem wrongex_any (l:List Ex) (A:Option Addr) (n c:Nat) (w:World) (hw:Sh w) (hl:l.length=n) (hn:n≤9223372036854775807) (hk:KidsAt w A l):
  Calls Tryz.prog 121 #[.slice A n c,.func (Fn.func 79) #[] #[]] w fun r w'=>r= .returned (.bool (!l.all Ex.formed))∧Ext w w':=by
 have:=wr_ex 79 ent_formed Ex.formed l A n c w hl hn hk fun x _ W hW Ai ni ci hc=>formed_any x Ai ni ci W hc (hw.ext hW)
 rwa [any_not]at this
theorem rowok_any (l:List Ex) (A:Option Addr) (n c:Nat) (w:World) (hw:Sh w) (hn:n≤9223372036854775807) (hc:l.length=n∧KidsAt w A l):
  Calls Tryz.prog 120 #[.slice A n c] w fun r w'=>r= .returned (.bool (rowOk l))∧Ext w w':=by
 have HC:=hid (wrongex_any l A n c w hw hc.1 hn hc.2)
 have HR:Hid (rowOk l=(decide (0<n) &&l.all Ex.formed)):=by unfold Hid rowOk;rw[hc.1]
 clear hw hc
 generalize rowOk l=R at*
 generalize l.all Ex.formed=b at*
 by_cases h0:0<n
 ·have d0:decide ((0:Int)<(n:Int))=true:=by simp;omega
  have HR2:Hid (R=b):=by unfold Hid;rw[HR.out];simp[h0]
  go_enter Tryz.func120,Tryz.ntmps120
  go_wp2_with (go_at_call 121;refine HC.out.mono ?_;rintro _ w2 ⟨rfl,hx2⟩)
  go_ret
  exact⟨ret_bool (by first|exact HR2.out.symm|(rw[HR2.out];simp)),hx2⟩
 ·have d0:decide ((0:Int)<(n:Int))=false:=by simp;omega
  have HR2:Hid (R=false):=by unfold Hid;rw[HR.out];simp[h0]
  go_enter Tryz.func120,Tryz.ntmps120
  go_wp2_with (go_at_call 121;refine HC.out.mono ?_;rintro _ w2 ⟨rfl,hx2⟩)
  go_ret
  exact⟨ret_bool HR2.out.symm,Ext.refl w⟩
theorem ent_row:Ent 120:=fun _ _=>by kernel_rfl
theorem asgok_any (x:Asg) (A:Option Addr) (n c:Nat) (w:World) (hw:Sh w) (hz:x.cl.size≤9223372036854775807) (hv:ExV w x.ex A n c):
  Calls Tryz.prog 123 #[.agg #[.string x.cl,.int .i64 x.ix,.int .i64 x.ex.d.op,.string x.ex.d.tb,.string x.ex.d.nm,.int .i64 x.ex.d.ix,.int .i64 x.ex.d.vk,.int .i64 x.ex.d.vi,.string x.ex.d.vt,.slice A n c]] w fun r w'=>r= .returned (.bool x.ok)∧Ext w w':=by
 have HF:=hid (fun W (hW:Ext w W)=>formed_any x.ex A n c W (hv.ext hW) (hw.ext hW))
 have HN:=hid (fun W (hW:Ext w W)=>name_any x.cl W (hw.ext hW) hz)
 obtain⟨R,hR⟩:∃R,x.ok=R:=⟨_,rfl⟩
 rw[hR]
 unfold Asg.ok at hR
 unfold Nd.val at HF
 clear hw hv hz
 generalize x.ex.formed=bf at*
 generalize nameB x.cl=bn at*
 generalize x.ex.d=d at*
 obtain⟨op,tb,nm,ix,vk,vi,vt⟩:=d
 simp only at*
 have HR:=hid hR
 clear hR
 cases bn
 all_goals
  go_enter Tryz.func123,Tryz.ntmps123
  go_wp2_with (first|(go_at_call 115;(with_reducible refine(HN.out _ ((Ext.refl w).alloc _)).mono ?_);rintro _ _ ⟨rfl,rfl⟩)|(go_at_call 79;(with_reducible refine(HF.out _ ((Ext.refl w).alloc _)).mono ?_);rintro _ w2 ⟨rfl,hx2⟩))
  go_ret
  first|exact⟨ret_bool (by rw[←HR.out];simp),((Ext.refl w).alloc _).trans hx2⟩|exact⟨ret_bool (by rw[←HR.out];simp),(Ext.refl w).alloc _⟩
theorem ent_asg:Ent 123:=fun _ _=>by kernel_rfl
theorem empty_any (s:St) (a:SA) (w:World) (hv:StV w s a) (hb:s.cols.length+s.keys.length+s.frs.length+s.chk.length≤1048576):
  Calls Tryz.prog 117 #[.agg #[.slice a.cols.A a.cols.n a.cols.c,.slice a.keys.A a.keys.n a.keys.c,.slice a.frs.A a.frs.n a.frs.c,.slice a.chk.A a.chk.n a.chk.c]] w fun r w'=>r= .returned (.bool s.noDef)∧Ext w w':=by
 have HR:Hid (s.noDef=decide (a.cols.n+a.keys.n+a.frs.n+a.chk.n=0)):=by unfold Hid St.noDef;rw[hv.cols.1,hv.keys.1,hv.frs.1,hv.chk.1]
 rw[hv.cols.1,hv.keys.1,hv.frs.1,hv.chk.1]at hb
 rw[HR.out]
 clear hv HR
 generalize a.cols.n=n1 at*
 generalize a.keys.n=n2 at*
 generalize a.frs.n=n3 at*
 generalize a.chk.n=n4 at*
 go_enter Tryz.func117,Tryz.ntmps117
 go_wp2_with fail
 go_ret
 refine⟨ret_bool ?_,(Ext.refl w).alloc _⟩
 rw[Bool.eq_iff_iff]
 simp only[beq_iff_eq,decide_eq_true_eq]
 omega
theorem def_any (s:St) (a:SA) (w:World) (hw:Sh w) (hv:StV w s a) (hb:s.cols.length+s.keys.length+s.frs.length+s.chk.length≤1048576):
  Calls Tryz.prog 118 #[.agg #[.slice a.cols.A a.cols.n a.cols.c,.slice a.keys.A a.keys.n a.keys.c,.slice a.frs.A a.frs.n a.frs.c,.slice a.chk.A a.chk.n a.chk.c]] w fun r w'=>r= .returned (.bool s.defOk)∧Ext w w':=by
 have H0:=hid (fun W (hW:Ext w W)=>empty_any s a W (hv.ext hW) hb)
 have H1:=hid (fun W (hW:Ext w W)=>wr_cd 186 ent_col Cd.ok s.cols a.cols.A a.cols.n a.cols.c W hv.cols.1 hv.cols.2.1 (hv.cols.2.2.ext hW) fun x _ W2 hW2 hc=>colok_any x W2 (hw.ext (hW.trans hW2)) hc)
 have H2:=hid (fun W (hW:Ext w W)=>wr_key 184 ent_names namesB s.keys a.keys.A a.keys.n a.keys.c W hv.keys.1 hv.keys.2.1 (hv.keys.2.2.ext hW) fun x _ W2 hW2 Ai ni ci hc=>names_any x Ai ni ci W2 (hw.ext (hW.trans hW2)) hc.1 hc.2.1 hc.2.2)
 have H3:=hid (fun W (hW:Ext w W)=>wr_rf 183 ent_rf Rf.ok s.frs a.frs.A a.frs.n a.frs.c W hv.frs.1 hv.frs.2.1 (hv.frs.2.2.ext hW) fun x _ W2 hW2 A1 n1 c1 A2 n2 c2 hc=>rfok_any x A1 n1 c1 A2 n2 c2 W2 (hw.ext (hW.trans hW2)) hc)
 have H4:=hid (fun W (hW:Ext w W)=>wrongex_any s.chk a.chk.A a.chk.n a.chk.c W (hw.ext hW) hv.chk.1 hv.chk.2.1 (hv.chk.2.2.ext hW))
 simp only[any_not]at H1 H2 H3
 have HB:=hid (Blk.of_new w 29 [.slice a.cols.A a.cols.n a.cols.c,.slice a.keys.A a.keys.n a.keys.c,.slice a.frs.A a.frs.n a.frs.c,.slice a.chk.A a.chk.n a.chk.c])
 clear hw hv hb
 obtain⟨R,hR⟩:∃R,s.defOk=R:=⟨_,rfl⟩
 rw[hR]
 unfold St.defOk at hR
 generalize s.noDef=b0 at*
 generalize s.cols.all Cd.ok=b1 at*
 generalize s.keys.all namesB=b2 at*
 generalize s.frs.all Rf.ok=b3 at*
 generalize s.chk.all Ex.formed=b4 at*
 have HR:=hid hR
 clear hR
 cases b0<;>cases b1<;>cases b2<;>cases b3
 all_goals
  go_enter Tryz.func118,Tryz.ntmps118
  go_wp2_with (first|(go_at_call 121;(with_reducible refine(H4.out _ (((((Ext.refl w).alloc _).trans hx2).trans hx3|>.trans hx4).trans hx5)).mono ?_);rintro _ w6 ⟨rfl,hx6⟩)|(go_at_call 188;(with_reducible refine(H3.out _ ((((Ext.refl w).alloc _).trans hx2).trans hx3|>.trans hx4)).mono ?_);rintro _ w5 ⟨rfl,hx5⟩;have e3:=(HB.out.ext (((hx2.trans hx3).trans hx4).trans hx5)).cell 3;simp only[List.getElem?_cons_succ,List.getElem?_cons_zero]at e3)|(go_at_call 187;(with_reducible refine(H2.out _ ((((Ext.refl w).alloc _).trans hx2).trans hx3)).mono ?_);rintro _ w4 ⟨rfl,hx4⟩;have e2:=(HB.out.ext ((hx2.trans hx3).trans hx4)).cell 2;simp only[List.getElem?_cons_succ,List.getElem?_cons_zero]at e2)|(go_at_call 185;(with_reducible refine(H1.out _ (((Ext.refl w).alloc _).trans hx2)).mono ?_);rintro _ w3 ⟨rfl,hx3⟩;have e1:=(HB.out.ext (hx2.trans hx3)).cell 1;simp only[List.getElem?_cons_succ,List.getElem?_cons_zero]at e1)|(go_at_call 117;(with_reducible refine(H0.out _ ((Ext.refl w).alloc _)).mono ?_);rintro _ w2 ⟨rfl,hx2⟩;have e0:=(HB.out.ext (hx2)).cell 0;simp only[List.getElem?_cons_succ,List.getElem?_cons_zero]at e0))
  go_ret
  first|exact⟨ret_bool (by rw[←HR.out];simp),((((((Ext.refl w).alloc _).trans hx2).trans hx3).trans hx4).trans hx5).trans hx6⟩|exact⟨ret_bool (by rw[←HR.out];simp),(((((Ext.refl w).alloc _).trans hx2).trans hx3).trans hx4).trans hx5⟩|exact⟨ret_bool (by rw[←HR.out];simp),((((Ext.refl w).alloc _).trans hx2).trans hx3).trans hx4⟩|exact⟨ret_bool (by rw[←HR.out];simp),(((Ext.refl w).alloc _).trans hx2).trans hx3⟩|exact⟨ret_bool (by rw[←HR.out];simp),((Ext.refl w).alloc _).trans hx2⟩
theorem query_any (s:St) (a:SA) (w:World) (hw:Sh w) (hv:StV w s a):
  Calls Tryz.prog 124 #[s.val a] w fun r w'=>r= .returned (.bool s.qOk)∧Ext w w':=by
 have H1:=hid (fun W (hW:Ext w W)=>wr_itm 199 ent_itm Itm.ok s.itms a.itms.A a.itms.n a.itms.c W hv.itms.1 hv.itms.2.1 (hv.itms.2.2.ext hW) fun x _ W2 hW2 Ai ni ci hc=>itmok_any x Ai ni ci W2 (hw.ext (hW.trans hW2)) hc)
 have H2:=hid (fun W (hW:Ext w W)=>wr_src 194 ent_src Src.ok s.frm a.frm.A a.frm.n a.frm.c W hv.frm.1 hv.frm.2.1 (hv.frm.2.2.ext hW) fun x _ W2 hW2 hc=>srcok_any x W2 (hw.ext (hW.trans hW2)) hc)
 have H3:=hid (fun W (hW:Ext w W)=>wr_ex 195 ent_colx colX s.grp a.grp.A a.grp.n a.grp.c W hv.grp.1 hv.grp.2.1 (hv.grp.2.2.ext hW) fun x _ W2 hW2 Ai ni ci hc=>colx_any x Ai ni ci W2 (hw.ext (hW.trans hW2)) hc)
 have H4:=hid (fun W (hW:Ext w W)=>wr_ord 196 ent_ord Ord'.ok s.ord a.ord.A a.ord.n a.ord.c W hv.ord.1 hv.ord.2.1 (hv.ord.2.2.ext hW) fun x _ W2 hW2 hc=>ordok_any x W2 hc)
 have H5:=hid (fun W=>within_any s.lim 0 2147483648 W)
 simp only[any_not]at H1 H2 H3 H4
 have HB:=hid (Blk.of_new w 40 (s.cells a))
 have hfl:=hv.frm.1
 obtain⟨R,hR⟩:∃R,s.qOk=R:=⟨_,rfl⟩
 rw[hR]
 unfold St.qOk inB at hR
 rw[hfl]at hR
 clear hw hv hfl
 unfold St.val at*
 unfold St.cells at*
 unfold Sl.v at*
 generalize s.itms.all Itm.ok=b1 at*
 generalize s.frm.all Src.ok=b2 at*
 generalize s.grp.all colX=b3 at*
 generalize s.ord.all Ord'.ok=b4 at*
 generalize (decide (0≤s.lim) &&decide (s.lim≤2147483648))=b5 at*
 obtain⟨t1,ht1⟩:∃b,decide (0<a.frm.n)=b:=⟨_,rfl⟩
 rw[ht1]at hR
 have ht2:decide ((0:Int)<(a.frm.n:Int))=t1:=by rw[←ht1];simp
 have HR:=hid hR
 clear hR
 cases b1
 ·go_enter Tryz.func124,Tryz.ntmps124
  go_wp2_with (first|(go_at_call 197;(with_reducible refine(H5.out _).mono ?_);rintro _ _ ⟨rfl,rfl⟩)|(go_at_call 201;(with_reducible refine(H4.out _ (((((Ext.refl w).alloc _).trans hx2).trans hx3).trans hx4)).mono ?_);rintro _ w5 ⟨rfl,hx5⟩;have e20:=(HB.out.ext (((hx2.trans hx3).trans hx4).trans hx5)).cell 20;simp only[List.getElem?_cons_succ,List.getElem?_cons_zero]at e20)|(go_at_call 121;(with_reducible refine(H3.out _ ((((Ext.refl w).alloc _).trans hx2).trans hx3)).mono ?_);rintro _ w4 ⟨rfl,hx4⟩;have e19:=(HB.out.ext ((hx2.trans hx3).trans hx4)).cell 19;simp only[List.getElem?_cons_succ,List.getElem?_cons_zero]at e19)|(go_at_call 200;(with_reducible refine(H2.out _ (((Ext.refl w).alloc _).trans hx2)).mono ?_);rintro _ w3 ⟨rfl,hx3⟩;have e18:=(HB.out.ext (hx2.trans hx3)).cell 18;simp only[List.getElem?_cons_succ,List.getElem?_cons_zero]at e18)|(go_at_call 198;(with_reducible refine(H1.out _ ((Ext.refl w).alloc _)).mono ?_);rintro _ w2 ⟨rfl,hx2⟩;have e9:=(HB.out.ext (hx2)).cell 9;simp only[List.getElem?_cons_succ,List.getElem?_cons_zero]at e9))
  go_ret
  first|exact⟨ret_bool (by rw[←HR.out];simp),(((((Ext.refl w).alloc _).trans hx2).trans hx3).trans hx4).trans hx5⟩|exact⟨ret_bool (by rw[←HR.out];simp),((((Ext.refl w).alloc _).trans hx2).trans hx3).trans hx4⟩|exact⟨ret_bool (by rw[←HR.out];simp),(((Ext.refl w).alloc _).trans hx2).trans hx3⟩|exact⟨ret_bool (by rw[←HR.out];simp),((Ext.refl w).alloc _).trans hx2⟩
 ·cases t1
  ·go_enter Tryz.func124,Tryz.ntmps124
   go_wp2_with (first|(go_at_call 197;(with_reducible refine(H5.out _).mono ?_);rintro _ _ ⟨rfl,rfl⟩)|(go_at_call 201;(with_reducible refine(H4.out _ (((((Ext.refl w).alloc _).trans hx2).trans hx3).trans hx4)).mono ?_);rintro _ w5 ⟨rfl,hx5⟩;have e20:=(HB.out.ext (((hx2.trans hx3).trans hx4).trans hx5)).cell 20;simp only[List.getElem?_cons_succ,List.getElem?_cons_zero]at e20)|(go_at_call 121;(with_reducible refine(H3.out _ ((((Ext.refl w).alloc _).trans hx2).trans hx3)).mono ?_);rintro _ w4 ⟨rfl,hx4⟩;have e19:=(HB.out.ext ((hx2.trans hx3).trans hx4)).cell 19;simp only[List.getElem?_cons_succ,List.getElem?_cons_zero]at e19)|(go_at_call 200;(with_reducible refine(H2.out _ (((Ext.refl w).alloc _).trans hx2)).mono ?_);rintro _ w3 ⟨rfl,hx3⟩;have e18:=(HB.out.ext (hx2.trans hx3)).cell 18;simp only[List.getElem?_cons_succ,List.getElem?_cons_zero]at e18)|(go_at_call 198;(with_reducible refine(H1.out _ ((Ext.refl w).alloc _)).mono ?_);rintro _ w2 ⟨rfl,hx2⟩;have e9:=(HB.out.ext (hx2)).cell 9;simp only[List.getElem?_cons_succ,List.getElem?_cons_zero]at e9))
   go_ret
   first|exact⟨ret_bool (by rw[←HR.out];simp),(((((Ext.refl w).alloc _).trans hx2).trans hx3).trans hx4).trans hx5⟩|exact⟨ret_bool (by rw[←HR.out];simp),((((Ext.refl w).alloc _).trans hx2).trans hx3).trans hx4⟩|exact⟨ret_bool (by rw[←HR.out];simp),(((Ext.refl w).alloc _).trans hx2).trans hx3⟩|exact⟨ret_bool (by rw[←HR.out];simp),((Ext.refl w).alloc _).trans hx2⟩
  ·cases b2
   ·go_enter Tryz.func124,Tryz.ntmps124
    go_wp2_with (first|(go_at_call 197;(with_reducible refine(H5.out _).mono ?_);rintro _ _ ⟨rfl,rfl⟩)|(go_at_call 201;(with_reducible refine(H4.out _ (((((Ext.refl w).alloc _).trans hx2).trans hx3).trans hx4)).mono ?_);rintro _ w5 ⟨rfl,hx5⟩;have e20:=(HB.out.ext (((hx2.trans hx3).trans hx4).trans hx5)).cell 20;simp only[List.getElem?_cons_succ,List.getElem?_cons_zero]at e20)|(go_at_call 121;(with_reducible refine(H3.out _ ((((Ext.refl w).alloc _).trans hx2).trans hx3)).mono ?_);rintro _ w4 ⟨rfl,hx4⟩;have e19:=(HB.out.ext ((hx2.trans hx3).trans hx4)).cell 19;simp only[List.getElem?_cons_succ,List.getElem?_cons_zero]at e19)|(go_at_call 200;(with_reducible refine(H2.out _ (((Ext.refl w).alloc _).trans hx2)).mono ?_);rintro _ w3 ⟨rfl,hx3⟩;have e18:=(HB.out.ext (hx2.trans hx3)).cell 18;simp only[List.getElem?_cons_succ,List.getElem?_cons_zero]at e18)|(go_at_call 198;(with_reducible refine(H1.out _ ((Ext.refl w).alloc _)).mono ?_);rintro _ w2 ⟨rfl,hx2⟩;have e9:=(HB.out.ext (hx2)).cell 9;simp only[List.getElem?_cons_succ,List.getElem?_cons_zero]at e9))
    go_ret
    first|exact⟨ret_bool (by rw[←HR.out];simp),(((((Ext.refl w).alloc _).trans hx2).trans hx3).trans hx4).trans hx5⟩|exact⟨ret_bool (by rw[←HR.out];simp),((((Ext.refl w).alloc _).trans hx2).trans hx3).trans hx4⟩|exact⟨ret_bool (by rw[←HR.out];simp),(((Ext.refl w).alloc _).trans hx2).trans hx3⟩|exact⟨ret_bool (by rw[←HR.out];simp),((Ext.refl w).alloc _).trans hx2⟩
   ·cases b3
    ·go_enter Tryz.func124,Tryz.ntmps124
     go_wp2_with (first|(go_at_call 197;(with_reducible refine(H5.out _).mono ?_);rintro _ _ ⟨rfl,rfl⟩)|(go_at_call 201;(with_reducible refine(H4.out _ (((((Ext.refl w).alloc _).trans hx2).trans hx3).trans hx4)).mono ?_);rintro _ w5 ⟨rfl,hx5⟩;have e20:=(HB.out.ext (((hx2.trans hx3).trans hx4).trans hx5)).cell 20;simp only[List.getElem?_cons_succ,List.getElem?_cons_zero]at e20)|(go_at_call 121;(with_reducible refine(H3.out _ ((((Ext.refl w).alloc _).trans hx2).trans hx3)).mono ?_);rintro _ w4 ⟨rfl,hx4⟩;have e19:=(HB.out.ext ((hx2.trans hx3).trans hx4)).cell 19;simp only[List.getElem?_cons_succ,List.getElem?_cons_zero]at e19)|(go_at_call 200;(with_reducible refine(H2.out _ (((Ext.refl w).alloc _).trans hx2)).mono ?_);rintro _ w3 ⟨rfl,hx3⟩;have e18:=(HB.out.ext (hx2.trans hx3)).cell 18;simp only[List.getElem?_cons_succ,List.getElem?_cons_zero]at e18)|(go_at_call 198;(with_reducible refine(H1.out _ ((Ext.refl w).alloc _)).mono ?_);rintro _ w2 ⟨rfl,hx2⟩;have e9:=(HB.out.ext (hx2)).cell 9;simp only[List.getElem?_cons_succ,List.getElem?_cons_zero]at e9))
     go_ret
     first|exact⟨ret_bool (by rw[←HR.out];simp),(((((Ext.refl w).alloc _).trans hx2).trans hx3).trans hx4).trans hx5⟩|exact⟨ret_bool (by rw[←HR.out];simp),((((Ext.refl w).alloc _).trans hx2).trans hx3).trans hx4⟩|exact⟨ret_bool (by rw[←HR.out];simp),(((Ext.refl w).alloc _).trans hx2).trans hx3⟩|exact⟨ret_bool (by rw[←HR.out];simp),((Ext.refl w).alloc _).trans hx2⟩
    ·cases b4
     ·go_enter Tryz.func124,Tryz.ntmps124
      go_wp2_with (first|(go_at_call 197;(with_reducible refine(H5.out _).mono ?_);rintro _ _ ⟨rfl,rfl⟩)|(go_at_call 201;(with_reducible refine(H4.out _ (((((Ext.refl w).alloc _).trans hx2).trans hx3).trans hx4)).mono ?_);rintro _ w5 ⟨rfl,hx5⟩;have e20:=(HB.out.ext (((hx2.trans hx3).trans hx4).trans hx5)).cell 20;simp only[List.getElem?_cons_succ,List.getElem?_cons_zero]at e20)|(go_at_call 121;(with_reducible refine(H3.out _ ((((Ext.refl w).alloc _).trans hx2).trans hx3)).mono ?_);rintro _ w4 ⟨rfl,hx4⟩;have e19:=(HB.out.ext ((hx2.trans hx3).trans hx4)).cell 19;simp only[List.getElem?_cons_succ,List.getElem?_cons_zero]at e19)|(go_at_call 200;(with_reducible refine(H2.out _ (((Ext.refl w).alloc _).trans hx2)).mono ?_);rintro _ w3 ⟨rfl,hx3⟩;have e18:=(HB.out.ext (hx2.trans hx3)).cell 18;simp only[List.getElem?_cons_succ,List.getElem?_cons_zero]at e18)|(go_at_call 198;(with_reducible refine(H1.out _ ((Ext.refl w).alloc _)).mono ?_);rintro _ w2 ⟨rfl,hx2⟩;have e9:=(HB.out.ext (hx2)).cell 9;simp only[List.getElem?_cons_succ,List.getElem?_cons_zero]at e9))
      go_ret
      first|exact⟨ret_bool (by rw[←HR.out];simp),(((((Ext.refl w).alloc _).trans hx2).trans hx3).trans hx4).trans hx5⟩|exact⟨ret_bool (by rw[←HR.out];simp),((((Ext.refl w).alloc _).trans hx2).trans hx3).trans hx4⟩|exact⟨ret_bool (by rw[←HR.out];simp),(((Ext.refl w).alloc _).trans hx2).trans hx3⟩|exact⟨ret_bool (by rw[←HR.out];simp),((Ext.refl w).alloc _).trans hx2⟩
     ·go_enter Tryz.func124,Tryz.ntmps124
      go_wp2_with (first|(go_at_call 197;(with_reducible refine(H5.out _).mono ?_);rintro _ _ ⟨rfl,rfl⟩)|(go_at_call 201;(with_reducible refine(H4.out _ (((((Ext.refl w).alloc _).trans hx2).trans hx3).trans hx4)).mono ?_);rintro _ w5 ⟨rfl,hx5⟩;have e20:=(HB.out.ext (((hx2.trans hx3).trans hx4).trans hx5)).cell 20;simp only[List.getElem?_cons_succ,List.getElem?_cons_zero]at e20)|(go_at_call 121;(with_reducible refine(H3.out _ ((((Ext.refl w).alloc _).trans hx2).trans hx3)).mono ?_);rintro _ w4 ⟨rfl,hx4⟩;have e19:=(HB.out.ext ((hx2.trans hx3).trans hx4)).cell 19;simp only[List.getElem?_cons_succ,List.getElem?_cons_zero]at e19)|(go_at_call 200;(with_reducible refine(H2.out _ (((Ext.refl w).alloc _).trans hx2)).mono ?_);rintro _ w3 ⟨rfl,hx3⟩;have e18:=(HB.out.ext (hx2.trans hx3)).cell 18;simp only[List.getElem?_cons_succ,List.getElem?_cons_zero]at e18)|(go_at_call 198;(with_reducible refine(H1.out _ ((Ext.refl w).alloc _)).mono ?_);rintro _ w2 ⟨rfl,hx2⟩;have e9:=(HB.out.ext (hx2)).cell 9;simp only[List.getElem?_cons_succ,List.getElem?_cons_zero]at e9))
      go_ret
      first|exact⟨ret_bool (by rw[←HR.out];simp),(((((Ext.refl w).alloc _).trans hx2).trans hx3).trans hx4).trans hx5⟩|exact⟨ret_bool (by rw[←HR.out];simp),((((Ext.refl w).alloc _).trans hx2).trans hx3).trans hx4⟩|exact⟨ret_bool (by rw[←HR.out];simp),(((Ext.refl w).alloc _).trans hx2).trans hx3⟩|exact⟨ret_bool (by rw[←HR.out];simp),((Ext.refl w).alloc _).trans hx2⟩
end Go.Proofs.YtjigcpfjhfoheaaGreatDoor
