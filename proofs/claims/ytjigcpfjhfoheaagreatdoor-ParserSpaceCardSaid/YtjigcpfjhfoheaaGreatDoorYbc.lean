/- Walks: wrong, for the slices of a statement; Walks: the small predicates of a well-formed statement; Walks: well-formed items, sources, orders, rows, assignments; definitions and queries; Walks: a well-formed query. -/
import Derived.Test.YtjigcpfjhfoheaaGreatDoorYbb
import Derived.Test.YtjigcpfjhfoheaaGreatDoorYba
import Derived.Test.YtjigcpfjhfoheaaGreatDoorYag
namespace Go.Proofs.YtjigcpfjhfoheaaGreatDoor
open Go.RowKit
set_option maxHeartbeats 4000000
set_option maxRecDepth 100000
set_option linter.unusedVariables false
set_option linter.unusedSimpArgs false
theorem ew_cd:Ent 240:=fun _ _=>by kernel_rfl
theorem wr1_cd (G:FuncId) (i:Ent G) (b:Bool) (g:Nat) (x:Cd) (w:World) (k:w.cell? ⟨g,0,none⟩=some (.func (Fn.func G) #[] #[]))
  (e:∀(W:World),Ext w W→Calls Tryz.prog G #[.agg #[.string x.nm,.int .i64 x.ty,.int .i64 x.lo,.int .i64 x.hi,.int .i64 x.mx,.bool x.nn]] W fun r h=>r= .returned (.bool b)∧Ext W h):
  Calls Tryz.prog 240 #[.agg #[.string x.nm,.int .i64 x.ty,.int .i64 x.lo,.int .i64 x.hi,.int .i64 x.mx,.bool x.nn],.pointer (some ⟨g,0,none⟩)] w fun r w'=>r= .returned (.bool (!b))∧Ext w w':=by
 unfold Ent at i
 have f:=hid e
 have j:∀o,(w.alloc o).cell? ⟨g,0,none⟩=some (.func (Fn.func G) #[] #[]):=fun o=> ((Ext.refl w).alloc o).keep k
 clear e
 go_enter Tryz.func240,Tryz.ntmps240
 go_wp2_with fail
 refine(f _ ((Ext.refl w).alloc _)).mono ?_
 rintro _ l ⟨rfl,a⟩
 go_wp2_with fail
 go_ret
 exact⟨rfl,((Ext.refl w).alloc _).trans a⟩
theorem wr_cd (G:FuncId) (m:Ent G) (q:Cd→Bool) (l:List Cd) (A:Option Addr) (n c:Nat) (w:World) (g:l.length=n) (s:n≤9223372036854775807) (f:gn w A l)
  (h:∀x∈l,∀(W:World),Ext w W→(x.nm.size≤9223372036854775807∧I64 x.ty∧I64 x.lo∧I64 x.hi∧I64 x.mx)→Calls Tryz.prog G #[.agg #[.string x.nm,.int .i64 x.ty,.int .i64 x.lo,.int .i64 x.hi,.int .i64 x.mx,.bool x.nn]] W fun r j=>r= .returned (.bool (q x))∧Ext W j):
  Calls Tryz.prog 185 #[.slice A n c,.func (Fn.func G) #[] #[]] w fun r w'=>r= .returned (.bool (l.any fun x=>!q x))∧Ext w w':=by
 have o:=hid (cop_cd 240 ew_cd (.pointer (some ⟨w.heap.size,0,none⟩)) (fun x=>!q x) l A n c (w.alloc (.cells #[.func (Fn.func G) #[] #[]] 174)) g s (f.ext ((Ext.refl w).alloc _))
  (fun x p W e t=>wr1_cd G m (q x) w.heap.size x W (((Blk.of_new w 174 [.func (Fn.func G) #[] #[]]).ext e).cell_some (i:=0) rfl) fun k b=>h x p k ((((Ext.refl w).alloc _).trans e).trans b) t))
 clear g f h
 go_enter Tryz.func185,Tryz.ntmps185
 go_wp2_with (go_at_call 239;refine o.mono ?_;rintro _ u ⟨rfl,a⟩)
 go_ret
 exact⟨rfl,((Ext.refl w).alloc _).trans a⟩
theorem ew_key:Ent 242:=fun _ _=>by kernel_rfl
theorem wr1_key (G:FuncId) (l:Ent G) (b:Bool) (g:Nat) (x:(List ByteArray)) (h:Option Addr) (f e:Nat) (w:World) (n:w.cell? ⟨g,0,none⟩=some (.func (Fn.func G) #[] #[]))
  (i:∀(W:World),Ext w W→Calls Tryz.prog G #[.slice h f e] W fun r k=>r= .returned (.bool b)∧Ext W k):
  Calls Tryz.prog 242 #[.slice h f e,.pointer (some ⟨g,0,none⟩)] w fun r w'=>r= .returned (.bool (!b))∧Ext w w':=by
 unfold Ent at l
 have j:=hid i
 have m:∀o,(w.alloc o).cell? ⟨g,0,none⟩=some (.func (Fn.func G) #[] #[]):=fun o=> ((Ext.refl w).alloc o).keep n
 clear i
 go_enter Tryz.func242,Tryz.ntmps242
 go_wp2_with fail
 refine(j _ (Ext.refl w)).mono ?_
 rintro _ p ⟨rfl,a⟩
 go_wp2_with fail
 go_ret
 exact⟨rfl,(Ext.refl w).trans a⟩
theorem wr_key (G:FuncId) (y:Ent G) (q:(List ByteArray)→Bool) (l:List (List ByteArray)) (A:Option Addr) (n c:Nat) (w:World) (k:l.length=n) (z:n≤9223372036854775807) (o:dX w A l)
  (m:∀x∈l,∀(W:World),Ext w W→∀(b:Option Addr) (a f:Nat),(x.length=a∧a≤9223372036854775807∧aO W b x)→Calls Tryz.prog G #[.slice b a f] W fun r t=>r= .returned (.bool (q x))∧Ext W t):
  Calls Tryz.prog 187 #[.slice A n c,.func (Fn.func G) #[] #[]] w fun r w'=>r= .returned (.bool (l.any fun x=>!q x))∧Ext w w':=by
 have s:=hid (cop_key 242 ew_key (.pointer (some ⟨w.heap.size,0,none⟩)) (fun x=>!q x) l A n c (w.alloc (.cells #[.func (Fn.func G) #[] #[]] 171)) k z (o.ext ((Ext.refl w).alloc _))
  (fun x u W j b a f g=>wr1_key G y (q x) w.heap.size x b a f W (((Blk.of_new w 171 [.func (Fn.func G) #[] #[]]).ext j).cell_some (i:=0) rfl) fun p e=>m x u p ((((Ext.refl w).alloc _).trans j).trans e) b a f ⟨g.1,g.2.1,g.2.2.ext e⟩))
 clear k o m
 go_enter Tryz.func187,Tryz.ntmps187
 go_wp2_with (go_at_call 241;refine s.mono ?_;rintro _ B ⟨rfl,h⟩)
 go_ret
 exact⟨rfl,((Ext.refl w).alloc _).trans h⟩
theorem ew_rf:Ent 244:=fun _ _=>by kernel_rfl
theorem wr1_rf (G:FuncId) (l:Ent G) (b:Bool) (g:Nat) (x:Rf) (e:Option Addr) (n1 c1:Nat) (h:Option Addr) (f c2:Nat) (w:World) (n:w.cell? ⟨g,0,none⟩=some (.func (Fn.func G) #[] #[]))
  (i:∀(W:World),Ext w W→Calls Tryz.prog G #[.agg #[.slice e n1 c1,.string x.tb,.slice h f c2]] W fun r k=>r= .returned (.bool b)∧Ext W k):
  Calls Tryz.prog 244 #[.agg #[.slice e n1 c1,.string x.tb,.slice h f c2],.pointer (some ⟨g,0,none⟩)] w fun r w'=>r= .returned (.bool (!b))∧Ext w w':=by
 unfold Ent at l
 have j:=hid i
 have m:∀o,(w.alloc o).cell? ⟨g,0,none⟩=some (.func (Fn.func G) #[] #[]):=fun o=> ((Ext.refl w).alloc o).keep n
 clear i
 go_enter Tryz.func244,Tryz.ntmps244
 go_wp2_with fail
 refine(j _ ((Ext.refl w).alloc _)).mono ?_
 rintro _ p ⟨rfl,a⟩
 go_wp2_with fail
 go_ret
 exact⟨rfl,((Ext.refl w).alloc _).trans a⟩
theorem wr_rf (G:FuncId) (y:Ent G) (q:Rf→Bool) (l:List Rf) (A:Option Addr) (n c:Nat) (w:World) (k:l.length=n) (z:n≤9223372036854775807) (o:go w A l)
  (m:∀x∈l,∀(W:World),Ext w W→∀(f:Option Addr) (n1 c1:Nat) (g:Option Addr) (e c2:Nat),(x.tb.size≤9223372036854775807∧x.cs.length=n1∧n1≤9223372036854775807∧aO W f x.cs∧x.tg.length=e∧e≤9223372036854775807∧aO W g x.tg)→Calls Tryz.prog G #[.agg #[.slice f n1 c1,.string x.tb,.slice g e c2]] W fun r t=>r= .returned (.bool (q x))∧Ext W t):
  Calls Tryz.prog 188 #[.slice A n c,.func (Fn.func G) #[] #[]] w fun r w'=>r= .returned (.bool (l.any fun x=>!q x))∧Ext w w':=by
 have s:=hid (cop_rf 244 ew_rf (.pointer (some ⟨w.heap.size,0,none⟩)) (fun x=>!q x) l A n c (w.alloc (.cells #[.func (Fn.func G) #[] #[]] 172)) k z (o.ext ((Ext.refl w).alloc _))
  (fun x u W j f n1 c1 g e c2 a=>wr1_rf G y (q x) w.heap.size x f n1 c1 g e c2 W (((Blk.of_new w 172 [.func (Fn.func G) #[] #[]]).ext j).cell_some (i:=0) rfl) fun p b=>m x u p ((((Ext.refl w).alloc _).trans j).trans b) f n1 c1 g e c2 ⟨a.1,a.2.1,a.2.2.1,a.2.2.2.1.ext b,a.2.2.2.2.1,a.2.2.2.2.2.1,a.2.2.2.2.2.2.ext b⟩))
 clear k o m
 go_enter Tryz.func188,Tryz.ntmps188
 go_wp2_with (go_at_call 243;refine s.mono ?_;rintro _ B ⟨rfl,h⟩)
 go_ret
 exact⟨rfl,((Ext.refl w).alloc _).trans h⟩
theorem ew_row:Ent 190:=fun _ _=>by kernel_rfl
theorem wr1_row (G:FuncId) (l:Ent G) (b:Bool) (g:Nat) (x:(List Ex)) (h:Option Addr) (f e:Nat) (w:World) (n:w.cell? ⟨g,0,none⟩=some (.func (Fn.func G) #[] #[]))
  (i:∀(W:World),Ext w W→Calls Tryz.prog G #[.slice h f e] W fun r k=>r= .returned (.bool b)∧Ext W k):
  Calls Tryz.prog 190 #[.slice h f e,.pointer (some ⟨g,0,none⟩)] w fun r w'=>r= .returned (.bool (!b))∧Ext w w':=by
 unfold Ent at l
 have j:=hid i
 have m:∀o,(w.alloc o).cell? ⟨g,0,none⟩=some (.func (Fn.func G) #[] #[]):=fun o=> ((Ext.refl w).alloc o).keep n
 clear i
 go_enter Tryz.func190,Tryz.ntmps190
 go_wp2_with fail
 refine(j _ (Ext.refl w)).mono ?_
 rintro _ p ⟨rfl,a⟩
 go_wp2_with fail
 go_ret
 exact⟨rfl,(Ext.refl w).trans a⟩
theorem wr_row (G:FuncId) (y:Ent G) (q:(List Ex)→Bool) (l:List (List Ex)) (A:Option Addr) (n c:Nat) (w:World) (k:l.length=n) (z:n≤9223372036854775807) (o:cV w A l)
  (m:∀x∈l,∀(W:World),Ext w W→∀(a:Option Addr) (b f:Nat),(x.length=b∧KidsAt W a x)→Calls Tryz.prog G #[.slice a b f] W fun r t=>r= .returned (.bool (q x))∧Ext W t):
  Calls Tryz.prog 119 #[.slice A n c,.func (Fn.func G) #[] #[]] w fun r w'=>r= .returned (.bool (l.any fun x=>!q x))∧Ext w w':=by
 have s:=hid (cop_row 190 ew_row (.pointer (some ⟨w.heap.size,0,none⟩)) (fun x=>!q x) l A n c (w.alloc (.cells #[.func (Fn.func G) #[] #[]] 89)) k z (o.ext ((Ext.refl w).alloc _))
  (fun x u W h a b f j=>wr1_row G y (q x) w.heap.size x a b f W (((Blk.of_new w 89 [.func (Fn.func G) #[] #[]]).ext h).cell_some (i:=0) rfl) fun p e=>m x u p ((((Ext.refl w).alloc _).trans h).trans e) a b f ⟨j.1,j.2.ext e⟩))
 clear k o m
 go_enter Tryz.func119,Tryz.ntmps119
 go_wp2_with (go_at_call 189;refine s.mono ?_;rintro _ B ⟨rfl,g⟩)
 go_ret
 exact⟨rfl,((Ext.refl w).alloc _).trans g⟩
theorem ew_asg:Ent 193:=fun _ _=>by kernel_rfl
theorem wr1_asg (G:FuncId) (l:Ent G) (b:Bool) (g:Nat) (x:Asg) (h:Option Addr) (f e:Nat) (w:World) (n:w.cell? ⟨g,0,none⟩=some (.func (Fn.func G) #[] #[]))
  (i:∀(W:World),Ext w W→Calls Tryz.prog G #[.agg #[.string x.cl,.int .i64 x.ix,.int .i64 x.ex.d.op,.string x.ex.d.tb,.string x.ex.d.nm,.int .i64 x.ex.d.ix,.int .i64 x.ex.d.vk,.int .i64 x.ex.d.vi,.string x.ex.d.vt,.slice h f e]] W fun r k=>r= .returned (.bool b)∧Ext W k):
  Calls Tryz.prog 193 #[.agg #[.string x.cl,.int .i64 x.ix,.int .i64 x.ex.d.op,.string x.ex.d.tb,.string x.ex.d.nm,.int .i64 x.ex.d.ix,.int .i64 x.ex.d.vk,.int .i64 x.ex.d.vi,.string x.ex.d.vt,.slice h f e],.pointer (some ⟨g,0,none⟩)] w fun r w'=>r= .returned (.bool (!b))∧Ext w w':=by
 unfold Ent at l
 have j:=hid i
 have m:∀o,(w.alloc o).cell? ⟨g,0,none⟩=some (.func (Fn.func G) #[] #[]):=fun o=> ((Ext.refl w).alloc o).keep n
 clear i
 go_enter Tryz.func193,Tryz.ntmps193
 go_wp2_with fail
 refine(j _ ((Ext.refl w).alloc _)).mono ?_
 rintro _ p ⟨rfl,a⟩
 go_wp2_with fail
 go_ret
 exact⟨rfl,((Ext.refl w).alloc _).trans a⟩
theorem wr_asg (G:FuncId) (y:Ent G) (q:Asg→Bool) (l:List Asg) (A:Option Addr) (n c:Nat) (w:World) (j:l.length=n) (z:n≤9223372036854775807) (m:dF w A l)
  (k:∀x∈l,∀(W:World),Ext w W→∀(a:Option Addr) (b e:Nat),ExV W x.ex a b e→Calls Tryz.prog G #[.agg #[.string x.cl,.int .i64 x.ix,.int .i64 x.ex.d.op,.string x.ex.d.tb,.string x.ex.d.nm,.int .i64 x.ex.d.ix,.int .i64 x.ex.d.vk,.int .i64 x.ex.d.vi,.string x.ex.d.vt,.slice a b e]] W fun r t=>r= .returned (.bool (q x))∧Ext W t):
  Calls Tryz.prog 122 #[.slice A n c,.func (Fn.func G) #[] #[]] w fun r w'=>r= .returned (.bool (l.any fun x=>!q x))∧Ext w w':=by
 have p:=hid (cop_asg 193 ew_asg (.pointer (some ⟨w.heap.size,0,none⟩)) (fun x=>!q x) l A n c (w.alloc (.cells #[.func (Fn.func G) #[] #[]] 150)) j z (m.ext ((Ext.refl w).alloc _))
  (fun x u W h a b e s=>wr1_asg G y (q x) w.heap.size x a b e W (((Blk.of_new w 150 [.func (Fn.func G) #[] #[]]).ext h).cell_some (i:=0) rfl) fun o f=>k x u o ((((Ext.refl w).alloc _).trans h).trans f) a b e (s.ext f)))
 clear j m k
 go_enter Tryz.func122,Tryz.ntmps122
 go_wp2_with (go_at_call 192;refine p.mono ?_;rintro _ B ⟨rfl,g⟩)
 go_ret
 exact⟨rfl,((Ext.refl w).alloc _).trans g⟩
theorem ew_itm:Ent 248:=fun _ _=>by kernel_rfl
theorem wr1_itm (G:FuncId) (l:Ent G) (b:Bool) (g:Nat) (x:Itm) (h:Option Addr) (f e:Nat) (w:World) (n:w.cell? ⟨g,0,none⟩=some (.func (Fn.func G) #[] #[]))
  (i:∀(W:World),Ext w W→Calls Tryz.prog G #[.agg #[.int .i64 x.ag,.int .i64 x.ex.d.op,.string x.ex.d.tb,.string x.ex.d.nm,.int .i64 x.ex.d.ix,.int .i64 x.ex.d.vk,.int .i64 x.ex.d.vi,.string x.ex.d.vt,.slice h f e]] W fun r k=>r= .returned (.bool b)∧Ext W k):
  Calls Tryz.prog 248 #[.agg #[.int .i64 x.ag,.int .i64 x.ex.d.op,.string x.ex.d.tb,.string x.ex.d.nm,.int .i64 x.ex.d.ix,.int .i64 x.ex.d.vk,.int .i64 x.ex.d.vi,.string x.ex.d.vt,.slice h f e],.pointer (some ⟨g,0,none⟩)] w fun r w'=>r= .returned (.bool (!b))∧Ext w w':=by
 unfold Ent at l
 have j:=hid i
 have m:∀o,(w.alloc o).cell? ⟨g,0,none⟩=some (.func (Fn.func G) #[] #[]):=fun o=> ((Ext.refl w).alloc o).keep n
 clear i
 go_enter Tryz.func248,Tryz.ntmps248
 go_wp2_with fail
 refine(j _ ((Ext.refl w).alloc _)).mono ?_
 rintro _ p ⟨rfl,a⟩
 go_wp2_with fail
 go_ret
 exact⟨rfl,((Ext.refl w).alloc _).trans a⟩
theorem wr_itm (G:FuncId) (y:Ent G) (q:Itm→Bool) (l:List Itm) (A:Option Addr) (n c:Nat) (w:World) (j:l.length=n) (z:n≤9223372036854775807) (m:dG w A l)
  (k:∀x∈l,∀(W:World),Ext w W→∀(a:Option Addr) (b e:Nat),ExV W x.ex a b e→Calls Tryz.prog G #[.agg #[.int .i64 x.ag,.int .i64 x.ex.d.op,.string x.ex.d.tb,.string x.ex.d.nm,.int .i64 x.ex.d.ix,.int .i64 x.ex.d.vk,.int .i64 x.ex.d.vi,.string x.ex.d.vt,.slice a b e]] W fun r t=>r= .returned (.bool (q x))∧Ext W t):
  Calls Tryz.prog 198 #[.slice A n c,.func (Fn.func G) #[] #[]] w fun r w'=>r= .returned (.bool (l.any fun x=>!q x))∧Ext w w':=by
 have p:=hid (cop_itm 248 ew_itm (.pointer (some ⟨w.heap.size,0,none⟩)) (fun x=>!q x) l A n c (w.alloc (.cells #[.func (Fn.func G) #[] #[]] 181)) j z (m.ext ((Ext.refl w).alloc _))
  (fun x u W h a b e s=>wr1_itm G y (q x) w.heap.size x a b e W (((Blk.of_new w 181 [.func (Fn.func G) #[] #[]]).ext h).cell_some (i:=0) rfl) fun o f=>k x u o ((((Ext.refl w).alloc _).trans h).trans f) a b e (s.ext f)))
 clear j m k
 go_enter Tryz.func198,Tryz.ntmps198
 go_wp2_with (go_at_call 247;refine p.mono ?_;rintro _ B ⟨rfl,g⟩)
 go_ret
 exact⟨rfl,((Ext.refl w).alloc _).trans g⟩
theorem ew_src:Ent 250:=fun _ _=>by kernel_rfl
theorem wr1_src (G:FuncId) (i:Ent G) (b:Bool) (g:Nat) (x:Src) (w:World) (k:w.cell? ⟨g,0,none⟩=some (.func (Fn.func G) #[] #[]))
  (e:∀(W:World),Ext w W→Calls Tryz.prog G #[.agg #[.string x.tb,.string x.al]] W fun r h=>r= .returned (.bool b)∧Ext W h):
  Calls Tryz.prog 250 #[.agg #[.string x.tb,.string x.al],.pointer (some ⟨g,0,none⟩)] w fun r w'=>r= .returned (.bool (!b))∧Ext w w':=by
 unfold Ent at i
 have f:=hid e
 have j:∀o,(w.alloc o).cell? ⟨g,0,none⟩=some (.func (Fn.func G) #[] #[]):=fun o=> ((Ext.refl w).alloc o).keep k
 clear e
 go_enter Tryz.func250,Tryz.ntmps250
 go_wp2_with fail
 refine(f _ ((Ext.refl w).alloc _)).mono ?_
 rintro _ l ⟨rfl,a⟩
 go_wp2_with fail
 go_ret
 exact⟨rfl,((Ext.refl w).alloc _).trans a⟩
theorem wr_src (G:FuncId) (m:Ent G) (q:Src→Bool) (l:List Src) (A:Option Addr) (n c:Nat) (w:World) (g:l.length=n) (s:n≤9223372036854775807) (f:dY w A l)
  (h:∀x∈l,∀(W:World),Ext w W→(x.tb.size≤9223372036854775807∧x.al.size≤9223372036854775807)→Calls Tryz.prog G #[.agg #[.string x.tb,.string x.al]] W fun r j=>r= .returned (.bool (q x))∧Ext W j):
  Calls Tryz.prog 200 #[.slice A n c,.func (Fn.func G) #[] #[]] w fun r w'=>r= .returned (.bool (l.any fun x=>!q x))∧Ext w w':=by
 have o:=hid (cop_src 250 ew_src (.pointer (some ⟨w.heap.size,0,none⟩)) (fun x=>!q x) l A n c (w.alloc (.cells #[.func (Fn.func G) #[] #[]] 177)) g s (f.ext ((Ext.refl w).alloc _))
  (fun x p W e t=>wr1_src G m (q x) w.heap.size x W (((Blk.of_new w 177 [.func (Fn.func G) #[] #[]]).ext e).cell_some (i:=0) rfl) fun k b=>h x p k ((((Ext.refl w).alloc _).trans e).trans b) t))
 clear g f h
 go_enter Tryz.func200,Tryz.ntmps200
 go_wp2_with (go_at_call 249;refine o.mono ?_;rintro _ u ⟨rfl,a⟩)
 go_ret
 exact⟨rfl,((Ext.refl w).alloc _).trans a⟩
theorem ew_ord:Ent 252:=fun _ _=>by kernel_rfl
theorem wr1_ord (G:FuncId) (i:Ent G) (b:Bool) (g:Nat) (x:Ord') (w:World) (k:w.cell? ⟨g,0,none⟩=some (.func (Fn.func G) #[] #[]))
  (e:∀(W:World),Ext w W→Calls Tryz.prog G #[.agg #[.int .i64 x.it,.bool x.ds]] W fun r h=>r= .returned (.bool b)∧Ext W h):
  Calls Tryz.prog 252 #[.agg #[.int .i64 x.it,.bool x.ds],.pointer (some ⟨g,0,none⟩)] w fun r w'=>r= .returned (.bool (!b))∧Ext w w':=by
 unfold Ent at i
 have f:=hid e
 have j:∀o,(w.alloc o).cell? ⟨g,0,none⟩=some (.func (Fn.func G) #[] #[]):=fun o=> ((Ext.refl w).alloc o).keep k
 clear e
 go_enter Tryz.func252,Tryz.ntmps252
 go_wp2_with fail
 refine(f _ ((Ext.refl w).alloc _)).mono ?_
 rintro _ l ⟨rfl,a⟩
 go_wp2_with fail
 go_ret
 exact⟨rfl,((Ext.refl w).alloc _).trans a⟩
theorem wr_ord (G:FuncId) (m:Ent G) (q:Ord'→Bool) (l:List Ord') (A:Option Addr) (n c:Nat) (w:World) (g:l.length=n) (s:n≤9223372036854775807) (f:dZ w A l)
  (h:∀x∈l,∀(W:World),Ext w W→I64 x.it→Calls Tryz.prog G #[.agg #[.int .i64 x.it,.bool x.ds]] W fun r j=>r= .returned (.bool (q x))∧Ext W j):
  Calls Tryz.prog 201 #[.slice A n c,.func (Fn.func G) #[] #[]] w fun r w'=>r= .returned (.bool (l.any fun x=>!q x))∧Ext w w':=by
 have o:=hid (cop_ord 252 ew_ord (.pointer (some ⟨w.heap.size,0,none⟩)) (fun x=>!q x) l A n c (w.alloc (.cells #[.func (Fn.func G) #[] #[]] 179)) g s (f.ext ((Ext.refl w).alloc _))
  (fun x p W e t=>wr1_ord G m (q x) w.heap.size x W (((Blk.of_new w 179 [.func (Fn.func G) #[] #[]]).ext e).cell_some (i:=0) rfl) fun k b=>h x p k ((((Ext.refl w).alloc _).trans e).trans b) t))
 clear g f h
 go_enter Tryz.func201,Tryz.ntmps201
 go_wp2_with (go_at_call 251;refine o.mono ?_;rintro _ u ⟨rfl,a⟩)
 go_ret
 exact⟨rfl,((Ext.refl w).alloc _).trans a⟩
theorem ew_ex:Ent 191:=fun _ _=>by kernel_rfl
theorem wr1_ex (G:FuncId) (l:Ent G) (b:Bool) (g:Nat) (x:Ex) (i:Option Addr) (h e:Nat) (w:World) (n:w.cell? ⟨g,0,none⟩=some (.func (Fn.func G) #[] #[]))
  (j:∀(W:World),Ext w W→Calls Tryz.prog G #[x.d.val i h e] W fun r k=>r= .returned (.bool b)∧Ext W k):
  Calls Tryz.prog 191 #[x.d.val i h e,.pointer (some ⟨g,0,none⟩)] w fun r w'=>r= .returned (.bool (!b))∧Ext w w':=by
 unfold Ent at l
 have f:=hid j
 have m:∀o,(w.alloc o).cell? ⟨g,0,none⟩=some (.func (Fn.func G) #[] #[]):=fun o=> ((Ext.refl w).alloc o).keep n
 clear j
 unfold Nd.val at f ⊢
 generalize x.d=d at*
 obtain⟨op,tb,nm,ix,vk,vi,vt⟩:=d
 simp only at*
 go_enter Tryz.func191,Tryz.ntmps191
 go_wp2_with fail
 refine(f _ ((Ext.refl w).alloc _)).mono ?_
 rintro _ p ⟨rfl,a⟩
 go_wp2_with fail
 go_ret
 exact⟨rfl,((Ext.refl w).alloc _).trans a⟩
theorem wr_ex (G:FuncId) (y:Ent G) (q:Ex→Bool) (l:List Ex) (A:Option Addr) (n c:Nat) (w:World) (j:l.length=n) (z:n≤9223372036854775807) (m:KidsAt w A l)
  (k:∀x∈l,∀(W:World),Ext w W→∀(a:Option Addr) (b e:Nat),ExV W x a b e→Calls Tryz.prog G #[x.d.val a b e] W fun r t=>r= .returned (.bool (q x))∧Ext W t):
  Calls Tryz.prog 121 #[.slice A n c,.func (Fn.func G) #[] #[]] w fun r w'=>r= .returned (.bool (l.any fun x=>!q x))∧Ext w w':=by
 have p:=hid (cop_ex 191 ew_ex (.pointer (some ⟨w.heap.size,0,none⟩)) (fun x=>!q x) l A n c (w.alloc (.cells #[.func (Fn.func G) #[] #[]] 55)) j z (m.ext ((Ext.refl w).alloc _))
  (fun x u W h a b e s=>wr1_ex G y (q x) w.heap.size x a b e W (((Blk.of_new w 55 [.func (Fn.func G) #[] #[]]).ext h).cell_some (i:=0) rfl) fun o f=>k x u o ((((Ext.refl w).alloc _).trans h).trans f) a b e (s.ext f)))
 clear j m k
 go_enter Tryz.func121,Tryz.ntmps121
 go_wp2_with (go_at_call 111;refine p.mono ?_;rintro _ B ⟨rfl,g⟩)
 go_ret
 exact⟨rfl,((Ext.refl w).alloc _).trans g⟩
theorem names1 (s:ByteArray) (w:World) (a:Sh w) (e:s.size≤9223372036854775807):Calls Tryz.prog 238 #[.string s] w fun r w'=>r= .returned (.bool (!nameB s))∧Ext w w':=by
 have f:=hid (name_any s w a e)
 clear a e
 generalize nameB s=b at*
 go_enter Tryz.func238,Tryz.ntmps238
 go_wp2_with (go_at_call 115;refine f.mono ?_;rintro _ _ ⟨rfl,rfl⟩)
 go_ret
 exact⟨rfl,Ext.refl _⟩
theorem nR:Ent 238:=fun _ _=>by kernel_rfl
theorem ent_names:Ent 184:=fun _ _=>by kernel_rfl
theorem nS:Ent 79:=fun _ _=>by kernel_rfl
theorem gZ (l:List ByteArray) (A:Option Addr) (n c:Nat) (w:World) (h:Sh w) (g:l.length=n) (m:n≤9223372036854775807) (hs:aO w A l):
  Calls Tryz.prog 184 #[.slice A n c] w fun r w'=>r= .returned (.bool (namesB l))∧Ext w w':=by
 have j:=hid (co_str 238 nR (fun s=>!nameB s) l A n c w g m hs fun x _ W k p=>names1 x W (h.ext k) p)
 have f:=hid (namesB_eq l)
 rw[g]at f
 generalize namesB l=R at*
 generalize (l.any fun s=>!nameB s)=b at*
 clear h hs g
 by_cases i:0<n
 ·have q:decide ((0:Int)<(n:Int))=true:=by simp;omega
  have a:Hid (R=!b):=by unfold Hid;rw[f.out];simp[i]
  go_enter Tryz.func184,Tryz.ntmps184
  go_wp2_with (go_at_call 237;refine j.mono ?_;rintro _ o ⟨rfl,e⟩)
  go_ret
  exact⟨ab a.symm,e⟩
 ·have q:decide ((0:Int)<(n:Int))=false:=by simp;omega
  have a:Hid (R=false):=by unfold Hid;rw[f.out];simp[i]
  go_enter Tryz.func184,Tryz.ntmps184
  go_wp2_with (go_at_call 237;refine j.mono ?_;rintro _ o ⟨rfl,e⟩)
  go_ret
  exact⟨ab a.symm,Ext.refl w⟩
theorem colok_any (x:Cd) (w:World) (o:Sh w) (n:x.nm.size≤9223372036854775807∧I64 x.ty∧I64 x.lo∧I64 x.hi∧I64 x.mx):
  Calls Tryz.prog 186 #[.agg #[.string x.nm,.int .i64 x.ty,.int .i64 x.lo,.int .i64 x.hi,.int .i64 x.mx,.bool x.nn]] w fun r w'=>r= .returned (.bool x.ok)∧Ext w w':=by
 have p:=hid (fun W (t:Ext w W)=>name_any x.nm W (o.ext t) n.1)
 have l:=hid (fun W=>cN x.lo (-2147483648) 2147483648 W)
 have f:=hid (fun W=>cN x.hi (-2147483648) 2147483648 W)
 have j:=hid (fun W=>cN x.mx 0 2147483648 W)
 obtain⟨R,e⟩:∃R,x.ok=R:=⟨_,rfl⟩
 rw[e]
 unfold Cd.ok inB at e
 clear o n
 generalize nameB x.nm=m at*
 generalize (decide (-2147483648≤x.lo) &&decide (x.lo≤2147483648))=u at*
 generalize (decide (-2147483648≤x.hi) &&decide (x.hi≤2147483648))=s at*
 generalize (decide (0≤x.mx) &&decide (x.mx≤2147483648))=C at*
 obtain⟨y,h⟩:∃b,(x.ty==1)=b:=⟨_,rfl⟩
 obtain⟨B,g⟩:∃b,(x.ty==2)=b:=⟨_,rfl⟩
 obtain⟨z,k⟩:∃b,(x.lo==0)=b:=⟨_,rfl⟩
 obtain⟨A,i⟩:∃b,(x.hi==0)=b:=⟨_,rfl⟩
 obtain⟨D,a⟩:∃b,(x.mx==0)=b:=⟨_,rfl⟩
 rw[h,g,k,i,a]at e
 have q:=hid e
 clear e
 cases y
 ·cases B<;>cases m<;>cases z<;>cases A
  all_goals
   go_enter Tryz.func186,Tryz.ntmps186
   go_wp2_with (first|(go_at_call 115;(with_reducible refine(p.out _ ((Ext.refl w).alloc _)).mono ?_);rintro _ _ ⟨rfl,rfl⟩)|(go_at_call 197;(with_reducible refine(j.out _).mono ?_);rintro _ _ ⟨rfl,rfl⟩))
   go_ret
   exact⟨ab (by rw[←q.out];simp),(Ext.refl w).alloc _⟩
 ·cases m<;>cases u<;>cases s
  all_goals
   go_enter Tryz.func186,Tryz.ntmps186
   go_wp2_with (first|(go_at_call 115;(with_reducible refine(p.out _ ((Ext.refl w).alloc _)).mono ?_);rintro _ _ ⟨rfl,rfl⟩)|(go_at_call 197;(with_reducible refine(l.out _).mono ?_);rintro _ _ ⟨rfl,rfl⟩)|(go_at_call 197;(with_reducible refine(f.out _).mono ?_);rintro _ _ ⟨rfl,rfl⟩))
   go_ret
   exact⟨ab (by rw[←q.out];simp[a]),(Ext.refl w).alloc _⟩
theorem ent_col:Ent 186:=fun _ _=>by kernel_rfl
theorem rfok_any (x:Rf) (g:Option Addr) (n1 c1:Nat) (h:Option Addr) (e c2:Nat) (w:World) (f:Sh w)
  (y:x.tb.size≤9223372036854775807∧x.cs.length=n1∧n1≤9223372036854775807∧aO w g x.cs∧x.tg.length=e∧e≤9223372036854775807∧aO w h x.tg):
  Calls Tryz.prog 183 #[.agg #[.slice g n1 c1,.string x.tb,.slice h e c2]] w fun r w'=>r= .returned (.bool x.ok)∧Ext w w':=by
 obtain⟨m,p,o,n,l,j,k⟩:=y
 have z:=hid (fun W (b:Ext w W)=>name_any x.tb W (f.ext b) m)
 have q:=hid (fun W (b:Ext w W)=>gZ x.cs g n1 c1 W (f.ext b) p o (n.ext b))
 have t:=hid (fun W (b:Ext w W)=>gZ x.tg h e c2 W (f.ext b) l j (k.ext b))
 have A:=hid (Blk.of_new w 103 [.slice g n1 c1,.string x.tb,.slice h e c2])
 clear f p o n l j k m
 unfold Rf.ok
 generalize nameB x.tb=s at*
 generalize namesB x.cs=u at*
 generalize namesB x.tg=B at*
 cases u<;>cases s
 all_goals
  go_enter Tryz.func183,Tryz.ntmps183
  go_wp2_with (first|(go_at_call 115;(with_reducible refine(z.out _ (((Ext.refl w).alloc _).trans a)).mono ?_);rintro _ _ ⟨rfl,rfl⟩)|(go_at_call 184;(with_reducible refine(t.out _ (((Ext.refl w).alloc _).trans a)).mono ?_);rintro _ E ⟨rfl,i⟩)|(go_at_call 184;(with_reducible refine(q.out _ ((Ext.refl w).alloc _)).mono ?_);rintro _ C ⟨rfl,a⟩;obtain⟨-,D,F,-⟩:=cls (A.ext a)))
  go_ret
  first|exact⟨rfl,(((Ext.refl w).alloc _).trans a).trans i⟩|exact⟨rfl,((Ext.refl w).alloc _).trans a⟩
theorem ent_rf:Ent 183:=fun _ _=>by kernel_rfl
theorem itmok_any (x:Itm) (A:Option Addr) (n c:Nat) (w:World) (l:Sh w) (k:ExV w x.ex A n c):
  Calls Tryz.prog 199 #[.agg #[.int .i64 x.ag,.int .i64 x.ex.d.op,.string x.ex.d.tb,.string x.ex.d.nm,.int .i64 x.ex.d.ix,.int .i64 x.ex.d.vk,.int .i64 x.ex.d.vi,.string x.ex.d.vt,.slice A n c]] w fun r w'=>r= .returned (.bool x.ok)∧Ext w w':=by
 have o:=hid (fun W (f:Ext w W)=>cP x.ex A n c W (k.ext f) (l.ext f))
 have m:=hid (fun W (f:Ext w W)=>fK x.ex A n c W (k.ext f))
 obtain⟨R,e⟩:∃R,x.ok=R:=⟨_,rfl⟩
 rw[e]
 unfold Itm.ok at e
 unfold Nd.val at o m
 clear l k
 generalize x.ex.formed=y at*
 generalize x.ex.absent=u at*
 generalize x.ex.d=d at*
 obtain⟨op,tb,nm,ix,vk,vi,vt⟩:=d
 simp only at*
 obtain⟨q,i⟩:∃b,(x.ag==1)=b:=⟨_,rfl⟩
 obtain⟨t,h⟩:∃b,decide (0≤x.ag)=b:=⟨_,rfl⟩
 obtain⟨p,g⟩:∃b,decide (x.ag≤5)=b:=⟨_,rfl⟩
 rw[i,h,g]at e
 have j:=hid e
 clear e
 cases q
 ·cases t<;>cases p
  all_goals
   go_enter Tryz.func199,Tryz.ntmps199
   go_wp2_with (go_at_call 79;(with_reducible refine(o.out _ ((Ext.refl w).alloc _)).mono ?_);rintro _ s ⟨rfl,a⟩)
   go_ret
   first|exact⟨ab (by rw[←j.out];simp),((Ext.refl w).alloc _).trans a⟩|exact⟨ab (by rw[←j.out];simp),(Ext.refl w).alloc _⟩
 ·go_enter Tryz.func199,Tryz.ntmps199
  go_wp2_with (go_at_call 116;(with_reducible refine(m.out _ ((Ext.refl w).alloc _)).mono ?_);rintro _ s ⟨rfl,a⟩)
  go_ret
  exact⟨ab (by rw[←j.out];simp),((Ext.refl w).alloc _).trans a⟩
theorem ent_itm:Ent 199:=fun _ _=>by kernel_rfl
theorem srcok_any (x:Src) (w:World) (e:Sh w) (i:x.tb.size≤9223372036854775807∧x.al.size≤9223372036854775807):
  Calls Tryz.prog 194 #[.agg #[.string x.tb,.string x.al]] w fun r w'=>r= .returned (.bool x.ok)∧Ext w w':=by
 have l:=hid (fun W (f:Ext w W)=>name_any x.tb W (e.ext f) i.1)
 have g:=hid (fun W (f:Ext w W)=>name_any x.al W (e.ext f) i.2)
 obtain⟨R,a⟩:∃R,x.ok=R:=⟨_,rfl⟩
 rw[a]
 unfold Src.ok at a
 clear e i
 generalize nameB x.tb=k at*
 generalize nameB x.al=n at*
 obtain⟨m,h⟩:∃b,x.al.toList.isEmpty=b:=⟨_,rfl⟩
 rw[h]at a
 have j:=hid a
 clear a
 cases k<;>cases m
 all_goals
  go_enter Tryz.func194,Tryz.ntmps194
  go_wp2_with (first|(go_at_call 115;(with_reducible refine(l.out _ ((Ext.refl w).alloc _)).mono ?_);rintro _ _ ⟨rfl,rfl⟩)|(go_at_call 115;(with_reducible refine(g.out _ ((Ext.refl w).alloc _)).mono ?_);rintro _ _ ⟨rfl,rfl⟩))
  go_ret
  exact⟨ab (by rw[←j.out];simp),(Ext.refl w).alloc _⟩
theorem ent_src:Ent 194:=fun _ _=>by kernel_rfl
theorem colx_any (x:Ex) (A:Option Addr) (n c:Nat) (w:World) (h:Sh w) (k:ExV w x A n c):
  Calls Tryz.prog 195 #[x.d.val A n c] w fun r w'=>r= .returned (.bool (colX x))∧Ext w w':=by
 have j:=hid (fun W (i:Ext w W)=>cP x A n c W (k.ext i) (h.ext i))
 obtain⟨R,a⟩:∃R,colX x=R:=⟨_,rfl⟩
 rw[a]
 unfold colX at a
 unfold Nd.val at j ⊢
 clear h k
 generalize x.formed=m at*
 generalize x.d=d at*
 obtain⟨op,tb,nm,ix,vk,vi,vt⟩:=d
 simp only at*
 obtain⟨l,f⟩:∃b,(op==2)=b:=⟨_,rfl⟩
 rw[f]at a
 have g:=hid a
 clear a
 cases l
 all_goals
  go_enter Tryz.func195,Tryz.ntmps195
  go_wp2_with (go_at_call 79;(with_reducible refine(j.out _ ((Ext.refl w).alloc _)).mono ?_);rintro _ o ⟨rfl,e⟩)
  go_ret
  first|exact⟨ab (by rw[←g.out];simp),((Ext.refl w).alloc _).trans e⟩|exact⟨ab (by rw[←g.out];simp),(Ext.refl w).alloc _⟩
theorem ent_colx:Ent 195:=fun _ _=>by kernel_rfl
theorem ordok_any (x:Ord') (w:World) (e:I64 x.it):
  Calls Tryz.prog 196 #[.agg #[.int .i64 x.it,.bool x.ds]] w fun r w'=>r= .returned (.bool x.ok)∧Ext w w':=by
 have b:=hid (fun W=>cN x.it 1 2147483648 W)
 obtain⟨R,a⟩:∃R,x.ok=R:=⟨_,rfl⟩
 rw[a]
 unfold Ord'.ok inB at a
 rw[a]at b
 clear e a
 go_enter Tryz.func196,Tryz.ntmps196
 go_wp2_with (go_at_call 197;(with_reducible refine(b.out _).mono ?_);rintro _ _ ⟨rfl,rfl⟩)
 go_ret
 exact⟨rfl,(Ext.refl w).alloc _⟩
theorem ent_ord:Ent 196:=fun _ _=>by kernel_rfl
theorem ir (l:List Ex) (A:Option Addr) (n c:Nat) (w:World) (b:Sh w) (h:l.length=n) (j:n≤9223372036854775807) (g:KidsAt w A l):
  Calls Tryz.prog 121 #[.slice A n c,.func (Fn.func 79) #[] #[]] w fun r w'=>r= .returned (.bool (!l.all Ex.formed))∧Ext w w':=by
 have:=wr_ex 79 nS Ex.formed l A n c w h j g fun x _ W e i f a k=>cP x i f a W k (b.ext e)
 rwa [gu]at this
theorem rowok_any (l:List Ex) (A:Option Addr) (n c:Nat) (w:World) (h:Sh w) (k:n≤9223372036854775807) (f:l.length=n∧KidsAt w A l):
  Calls Tryz.prog 120 #[.slice A n c] w fun r w'=>r= .returned (.bool (rowOk l))∧Ext w w':=by
 have j:=hid (ir l A n c w h f.1 k f.2)
 have g:Hid (rowOk l=(decide (0<n) &&l.all Ex.formed)):=by unfold Hid rowOk;rw[f.1]
 clear h f
 generalize rowOk l=R at*
 generalize l.all Ex.formed=b at*
 by_cases i:0<n
 ·have o:decide ((0:Int)<(n:Int))=true:=by simp;omega
  have a:Hid (R=b):=by unfold Hid;rw[g.out];simp[i]
  go_enter Tryz.func120,Tryz.ntmps120
  go_wp2_with (go_at_call 121;refine j.mono ?_;rintro _ m ⟨rfl,e⟩)
  go_ret
  exact⟨ab (by first|exact a.symm|(rw[a.out];simp)),e⟩
 ·have o:decide ((0:Int)<(n:Int))=false:=by simp;omega
  have a:Hid (R=false):=by unfold Hid;rw[g.out];simp[i]
  go_enter Tryz.func120,Tryz.ntmps120
  go_wp2_with (go_at_call 121;refine j.mono ?_;rintro _ m ⟨rfl,e⟩)
  go_ret
  exact⟨ab a.symm,Ext.refl w⟩
theorem ent_row:Ent 120:=fun _ _=>by kernel_rfl
theorem asgok_any (x:Asg) (A:Option Addr) (n c:Nat) (w:World) (e:Sh w) (h:x.cl.size≤9223372036854775807) (j:ExV w x.ex A n c):
  Calls Tryz.prog 123 #[.agg #[.string x.cl,.int .i64 x.ix,.int .i64 x.ex.d.op,.string x.ex.d.tb,.string x.ex.d.nm,.int .i64 x.ex.d.ix,.int .i64 x.ex.d.vk,.int .i64 x.ex.d.vi,.string x.ex.d.vt,.slice A n c]] w fun r w'=>r= .returned (.bool x.ok)∧Ext w w':=by
 have i:=hid (fun W (b:Ext w W)=>cP x.ex A n c W (j.ext b) (e.ext b))
 have l:=hid (fun W (b:Ext w W)=>name_any x.cl W (e.ext b) h)
 obtain⟨R,a⟩:∃R,x.ok=R:=⟨_,rfl⟩
 rw[a]
 unfold Asg.ok at a
 unfold Nd.val at i
 clear e j h
 generalize x.ex.formed=m at*
 generalize nameB x.cl=k at*
 generalize x.ex.d=d at*
 obtain⟨op,tb,nm,ix,vk,vi,vt⟩:=d
 simp only at*
 have g:=hid a
 clear a
 cases k
 all_goals
  go_enter Tryz.func123,Tryz.ntmps123
  go_wp2_with (first|(go_at_call 115;(with_reducible refine(l.out _ ((Ext.refl w).alloc _)).mono ?_);rintro _ _ ⟨rfl,rfl⟩)|(go_at_call 79;(with_reducible refine(i.out _ ((Ext.refl w).alloc _)).mono ?_);rintro _ o ⟨rfl,f⟩))
  go_ret
  first|exact⟨ab (by rw[←g.out];simp),((Ext.refl w).alloc _).trans f⟩|exact⟨ab (by rw[←g.out];simp),(Ext.refl w).alloc _⟩
theorem ent_asg:Ent 123:=fun _ _=>by kernel_rfl
theorem kJ (s:St) (a:SA) (w:World) (b:StV w s a) (f:s.cols.length+s.keys.length+s.frs.length+s.chk.length≤1048576):
  Calls Tryz.prog 117 #[.agg #[.slice a.cols.A a.cols.n a.cols.c,.slice a.keys.A a.keys.n a.keys.c,.slice a.frs.A a.frs.n a.frs.c,.slice a.chk.A a.chk.n a.chk.c]] w fun r w'=>r= .returned (.bool s.noDef)∧Ext w w':=by
 have e:Hid (s.noDef=decide (a.cols.n+a.keys.n+a.frs.n+a.chk.n=0)):=by unfold Hid St.noDef;rw[b.cols.1,b.keys.1,b.frs.1,b.chk.1]
 rw[b.cols.1,b.keys.1,b.frs.1,b.chk.1]at f
 rw[e.out]
 clear b e
 generalize a.cols.n=n1 at*
 generalize a.keys.n=h at*
 generalize a.frs.n=g at*
 generalize a.chk.n=i at*
 go_enter Tryz.func117,Tryz.ntmps117
 go_wp2_with fail
 go_ret
 refine⟨ab ?_,(Ext.refl w).alloc _⟩
 rw[Bool.eq_iff_iff]
 simp only[beq_iff_eq,decide_eq_true_eq]
 omega
theorem def_any (s:St) (a:SA) (w:World) (m:Sh w) (g:StV w s a) (B:s.cols.length+s.keys.length+s.frs.length+s.chk.length≤1048576):
  Calls Tryz.prog 118 #[.agg #[.slice a.cols.A a.cols.n a.cols.c,.slice a.keys.A a.keys.n a.keys.c,.slice a.frs.A a.frs.n a.frs.c,.slice a.chk.A a.chk.n a.chk.c]] w fun r w'=>r= .returned (.bool s.defOk)∧Ext w w':=by
 have F:=hid (fun W (h:Ext w W)=>kJ s a W (g.ext h) B)
 have u:=hid (fun W (h:Ext w W)=>wr_cd 186 ent_col Cd.ok s.cols a.cols.A a.cols.n a.cols.c W g.cols.1 g.cols.2.1 (g.cols.2.2.ext h) fun x _ l i k=>colok_any x l (m.ext (h.trans i)) k)
 have y:=hid (fun W (h:Ext w W)=>wr_key 184 ent_names namesB s.keys a.keys.A a.keys.n a.keys.c W g.keys.1 g.keys.2.1 (g.keys.2.2.ext h) fun x _ l i J O V k=>gZ x J O V l (m.ext (h.trans i)) k.1 k.2.1 k.2.2)
 have z:=hid (fun W (h:Ext w W)=>wr_rf 183 ent_rf Rf.ok s.frs a.frs.A a.frs.n a.frs.c W g.frs.1 g.frs.2.1 (g.frs.2.2.ext h) fun x _ l i I n1 c1 K P c2 k=>rfok_any x I n1 c1 K P c2 l (m.ext (h.trans i)) k)
 have L:=hid (fun W (h:Ext w W)=>ir s.chk a.chk.A a.chk.n a.chk.c W (m.ext h) g.chk.1 g.chk.2.1 (g.chk.2.2.ext h))
 simp only[gu]at u y z
 have q:=hid (Blk.of_new w 29 [.slice a.cols.A a.cols.n a.cols.c,.slice a.keys.A a.keys.n a.keys.c,.slice a.frs.A a.frs.n a.frs.c,.slice a.chk.A a.chk.n a.chk.c])
 clear m g B
 obtain⟨R,p⟩:∃R,s.defOk=R:=⟨_,rfl⟩
 rw[p]
 unfold St.defOk at p
 generalize s.noDef=X at*
 generalize s.cols.all Cd.ok=G at*
 generalize s.keys.all namesB=C at*
 generalize s.frs.all Rf.ok=E at*
 generalize s.chk.all Ex.formed=b4 at*
 have o:=hid p
 clear p
 cases X<;>cases G<;>cases C<;>cases E
 all_goals
  go_enter Tryz.func118,Tryz.ntmps118
  go_wp2_with (first|(go_at_call 121;(with_reducible refine(L.out _ (((((Ext.refl w).alloc _).trans b).trans e|>.trans f).trans j)).mono ?_);rintro _ w6 ⟨rfl,t⟩)|(go_at_call 188;(with_reducible refine(z.out _ ((((Ext.refl w).alloc _).trans b).trans e|>.trans f)).mono ?_);rintro _ Z ⟨rfl,j⟩;have D:=(q.ext (((b.trans e).trans f).trans j)).cell 3;simp only[List.getElem?_cons_succ,List.getElem?_cons_zero]at D)|(go_at_call 187;(with_reducible refine(y.out _ ((((Ext.refl w).alloc _).trans b).trans e)).mono ?_);rintro _ w4 ⟨rfl,f⟩;have Q:=(q.ext ((b.trans e).trans f)).cell 2;simp only[List.getElem?_cons_succ,List.getElem?_cons_zero]at Q)|(go_at_call 185;(with_reducible refine(u.out _ (((Ext.refl w).alloc _).trans b)).mono ?_);rintro _ w3 ⟨rfl,e⟩;have U:=(q.ext (b.trans e)).cell 1;simp only[List.getElem?_cons_succ,List.getElem?_cons_zero]at U)|(go_at_call 117;(with_reducible refine(F.out _ ((Ext.refl w).alloc _)).mono ?_);rintro _ Y ⟨rfl,b⟩;have H:=(q.ext (b)).cell 0;simp only[List.getElem?_cons_succ,List.getElem?_cons_zero]at H))
  go_ret
  first|exact⟨ab (by rw[←o.out];simp),((((((Ext.refl w).alloc _).trans b).trans e).trans f).trans j).trans t⟩|exact⟨ab (by rw[←o.out];simp),(((((Ext.refl w).alloc _).trans b).trans e).trans f).trans j⟩|exact⟨ab (by rw[←o.out];simp),((((Ext.refl w).alloc _).trans b).trans e).trans f⟩|exact⟨ab (by rw[←o.out];simp),(((Ext.refl w).alloc _).trans b).trans e⟩|exact⟨ab (by rw[←o.out];simp),((Ext.refl w).alloc _).trans b⟩
theorem query_any (s:St) (a:SA) (w:World) (O:Sh w) (o:StV w s a):
  Calls Tryz.prog 124 #[s.val a] w fun r w'=>r= .returned (.bool s.qOk)∧Ext w w':=by
 have u:=hid (fun W (t:Ext w W)=>wr_itm 199 ent_itm Itm.ok s.itms a.itms.A a.itms.n a.itms.c W o.itms.1 o.itms.2.1 (o.itms.2.2.ext t) fun x _ y p P Q U B=>itmok_any x P Q U y (O.ext (t.trans p)) B)
 have z:=hid (fun W (t:Ext w W)=>wr_src 194 ent_src Src.ok s.frm a.frm.A a.frm.n a.frm.c W o.frm.1 o.frm.2.1 (o.frm.2.2.ext t) fun x _ y p B=>srcok_any x y (O.ext (t.trans p)) B)
 have C:=hid (fun W (t:Ext w W)=>wr_ex 195 ent_colx colX s.grp a.grp.A a.grp.n a.grp.c W o.grp.1 o.grp.2.1 (o.grp.2.2.ext t) fun x _ y p P Q U B=>colx_any x P Q U y (O.ext (t.trans p)) B)
 have D:=hid (fun W (t:Ext w W)=>wr_ord 196 ent_ord Ord'.ok s.ord a.ord.A a.ord.n a.ord.c W o.ord.1 o.ord.2.1 (o.ord.2.2.ext t) fun x _ y p B=>ordok_any x y B)
 have E:=hid (fun W=>cN s.lim 0 2147483648 W)
 simp only[gu]at u z C D
 have i:=hid (Blk.of_new w 40 (s.cells a))
 have G:=o.frm.1
 obtain⟨R,F⟩:∃R,s.qOk=R:=⟨_,rfl⟩
 rw[F]
 unfold St.qOk inB at F
 rw[G]at F
 clear O o G
 unfold St.val at*
 unfold St.cells at*
 unfold Sl.v at*
 generalize s.itms.all Itm.ok=Z at*
 generalize s.frm.all Src.ok=X at*
 generalize s.grp.all colX=Y at*
 generalize s.ord.all Ord'.ok=b4 at*
 generalize (decide (0≤s.lim) &&decide (s.lim≤2147483648))=b5 at*
 obtain⟨V,H⟩:∃b,decide (0<a.frm.n)=b:=⟨_,rfl⟩
 rw[H]at F
 have ac:decide ((0:Int)<(a.frm.n:Int))=V:=by rw[←H];simp
 have j:=hid F
 clear F
 cases Z
 ·go_enter Tryz.func124,Tryz.ntmps124
  go_wp2_with (first|(go_at_call 197;(with_reducible refine(E.out _).mono ?_);rintro _ _ ⟨rfl,rfl⟩)|(go_at_call 201;(with_reducible refine(D.out _ (((((Ext.refl w).alloc _).trans e).trans f).trans g)).mono ?_);rintro _ J ⟨rfl,h⟩;have l:=(i.ext (((e.trans f).trans g).trans h)).cell 20;simp only[List.getElem?_cons_succ,List.getElem?_cons_zero]at l)|(go_at_call 121;(with_reducible refine(C.out _ ((((Ext.refl w).alloc _).trans e).trans f)).mono ?_);rintro _ L ⟨rfl,g⟩;have k:=(i.ext ((e.trans f).trans g)).cell 19;simp only[List.getElem?_cons_succ,List.getElem?_cons_zero]at k)|(go_at_call 200;(with_reducible refine(z.out _ (((Ext.refl w).alloc _).trans e)).mono ?_);rintro _ K ⟨rfl,f⟩;have m:=(i.ext (e.trans f)).cell 18;simp only[List.getElem?_cons_succ,List.getElem?_cons_zero]at m)|(go_at_call 198;(with_reducible refine(u.out _ ((Ext.refl w).alloc _)).mono ?_);rintro _ I ⟨rfl,e⟩;have q:=(i.ext (e)).cell 9;simp only[List.getElem?_cons_succ,List.getElem?_cons_zero]at q))
  go_ret
  first|exact⟨ab (by rw[←j.out];simp),(((((Ext.refl w).alloc _).trans e).trans f).trans g).trans h⟩|exact⟨ab (by rw[←j.out];simp),((((Ext.refl w).alloc _).trans e).trans f).trans g⟩|exact⟨ab (by rw[←j.out];simp),(((Ext.refl w).alloc _).trans e).trans f⟩|exact⟨ab (by rw[←j.out];simp),((Ext.refl w).alloc _).trans e⟩
 ·cases V
  ·go_enter Tryz.func124,Tryz.ntmps124
   go_wp2_with (first|(go_at_call 197;(with_reducible refine(E.out _).mono ?_);rintro _ _ ⟨rfl,rfl⟩)|(go_at_call 201;(with_reducible refine(D.out _ (((((Ext.refl w).alloc _).trans e).trans f).trans g)).mono ?_);rintro _ J ⟨rfl,h⟩;have l:=(i.ext (((e.trans f).trans g).trans h)).cell 20;simp only[List.getElem?_cons_succ,List.getElem?_cons_zero]at l)|(go_at_call 121;(with_reducible refine(C.out _ ((((Ext.refl w).alloc _).trans e).trans f)).mono ?_);rintro _ L ⟨rfl,g⟩;have k:=(i.ext ((e.trans f).trans g)).cell 19;simp only[List.getElem?_cons_succ,List.getElem?_cons_zero]at k)|(go_at_call 200;(with_reducible refine(z.out _ (((Ext.refl w).alloc _).trans e)).mono ?_);rintro _ K ⟨rfl,f⟩;have m:=(i.ext (e.trans f)).cell 18;simp only[List.getElem?_cons_succ,List.getElem?_cons_zero]at m)|(go_at_call 198;(with_reducible refine(u.out _ ((Ext.refl w).alloc _)).mono ?_);rintro _ I ⟨rfl,e⟩;have q:=(i.ext (e)).cell 9;simp only[List.getElem?_cons_succ,List.getElem?_cons_zero]at q))
   go_ret
   first|exact⟨ab (by rw[←j.out];simp),(((((Ext.refl w).alloc _).trans e).trans f).trans g).trans h⟩|exact⟨ab (by rw[←j.out];simp),((((Ext.refl w).alloc _).trans e).trans f).trans g⟩|exact⟨ab (by rw[←j.out];simp),(((Ext.refl w).alloc _).trans e).trans f⟩|exact⟨ab (by rw[←j.out];simp),((Ext.refl w).alloc _).trans e⟩
  ·cases X
   ·go_enter Tryz.func124,Tryz.ntmps124
    go_wp2_with (first|(go_at_call 197;(with_reducible refine(E.out _).mono ?_);rintro _ _ ⟨rfl,rfl⟩)|(go_at_call 201;(with_reducible refine(D.out _ (((((Ext.refl w).alloc _).trans e).trans f).trans g)).mono ?_);rintro _ J ⟨rfl,h⟩;have l:=(i.ext (((e.trans f).trans g).trans h)).cell 20;simp only[List.getElem?_cons_succ,List.getElem?_cons_zero]at l)|(go_at_call 121;(with_reducible refine(C.out _ ((((Ext.refl w).alloc _).trans e).trans f)).mono ?_);rintro _ L ⟨rfl,g⟩;have k:=(i.ext ((e.trans f).trans g)).cell 19;simp only[List.getElem?_cons_succ,List.getElem?_cons_zero]at k)|(go_at_call 200;(with_reducible refine(z.out _ (((Ext.refl w).alloc _).trans e)).mono ?_);rintro _ K ⟨rfl,f⟩;have m:=(i.ext (e.trans f)).cell 18;simp only[List.getElem?_cons_succ,List.getElem?_cons_zero]at m)|(go_at_call 198;(with_reducible refine(u.out _ ((Ext.refl w).alloc _)).mono ?_);rintro _ I ⟨rfl,e⟩;have q:=(i.ext (e)).cell 9;simp only[List.getElem?_cons_succ,List.getElem?_cons_zero]at q))
    go_ret
    first|exact⟨ab (by rw[←j.out];simp),(((((Ext.refl w).alloc _).trans e).trans f).trans g).trans h⟩|exact⟨ab (by rw[←j.out];simp),((((Ext.refl w).alloc _).trans e).trans f).trans g⟩|exact⟨ab (by rw[←j.out];simp),(((Ext.refl w).alloc _).trans e).trans f⟩|exact⟨ab (by rw[←j.out];simp),((Ext.refl w).alloc _).trans e⟩
   ·cases Y
    ·go_enter Tryz.func124,Tryz.ntmps124
     go_wp2_with (first|(go_at_call 197;(with_reducible refine(E.out _).mono ?_);rintro _ _ ⟨rfl,rfl⟩)|(go_at_call 201;(with_reducible refine(D.out _ (((((Ext.refl w).alloc _).trans e).trans f).trans g)).mono ?_);rintro _ J ⟨rfl,h⟩;have l:=(i.ext (((e.trans f).trans g).trans h)).cell 20;simp only[List.getElem?_cons_succ,List.getElem?_cons_zero]at l)|(go_at_call 121;(with_reducible refine(C.out _ ((((Ext.refl w).alloc _).trans e).trans f)).mono ?_);rintro _ L ⟨rfl,g⟩;have k:=(i.ext ((e.trans f).trans g)).cell 19;simp only[List.getElem?_cons_succ,List.getElem?_cons_zero]at k)|(go_at_call 200;(with_reducible refine(z.out _ (((Ext.refl w).alloc _).trans e)).mono ?_);rintro _ K ⟨rfl,f⟩;have m:=(i.ext (e.trans f)).cell 18;simp only[List.getElem?_cons_succ,List.getElem?_cons_zero]at m)|(go_at_call 198;(with_reducible refine(u.out _ ((Ext.refl w).alloc _)).mono ?_);rintro _ I ⟨rfl,e⟩;have q:=(i.ext (e)).cell 9;simp only[List.getElem?_cons_succ,List.getElem?_cons_zero]at q))
     go_ret
     first|exact⟨ab (by rw[←j.out];simp),(((((Ext.refl w).alloc _).trans e).trans f).trans g).trans h⟩|exact⟨ab (by rw[←j.out];simp),((((Ext.refl w).alloc _).trans e).trans f).trans g⟩|exact⟨ab (by rw[←j.out];simp),(((Ext.refl w).alloc _).trans e).trans f⟩|exact⟨ab (by rw[←j.out];simp),((Ext.refl w).alloc _).trans e⟩
    ·cases b4
     ·go_enter Tryz.func124,Tryz.ntmps124
      go_wp2_with (first|(go_at_call 197;(with_reducible refine(E.out _).mono ?_);rintro _ _ ⟨rfl,rfl⟩)|(go_at_call 201;(with_reducible refine(D.out _ (((((Ext.refl w).alloc _).trans e).trans f).trans g)).mono ?_);rintro _ J ⟨rfl,h⟩;have l:=(i.ext (((e.trans f).trans g).trans h)).cell 20;simp only[List.getElem?_cons_succ,List.getElem?_cons_zero]at l)|(go_at_call 121;(with_reducible refine(C.out _ ((((Ext.refl w).alloc _).trans e).trans f)).mono ?_);rintro _ L ⟨rfl,g⟩;have k:=(i.ext ((e.trans f).trans g)).cell 19;simp only[List.getElem?_cons_succ,List.getElem?_cons_zero]at k)|(go_at_call 200;(with_reducible refine(z.out _ (((Ext.refl w).alloc _).trans e)).mono ?_);rintro _ K ⟨rfl,f⟩;have m:=(i.ext (e.trans f)).cell 18;simp only[List.getElem?_cons_succ,List.getElem?_cons_zero]at m)|(go_at_call 198;(with_reducible refine(u.out _ ((Ext.refl w).alloc _)).mono ?_);rintro _ I ⟨rfl,e⟩;have q:=(i.ext (e)).cell 9;simp only[List.getElem?_cons_succ,List.getElem?_cons_zero]at q))
      go_ret
      first|exact⟨ab (by rw[←j.out];simp),(((((Ext.refl w).alloc _).trans e).trans f).trans g).trans h⟩|exact⟨ab (by rw[←j.out];simp),((((Ext.refl w).alloc _).trans e).trans f).trans g⟩|exact⟨ab (by rw[←j.out];simp),(((Ext.refl w).alloc _).trans e).trans f⟩|exact⟨ab (by rw[←j.out];simp),((Ext.refl w).alloc _).trans e⟩
     ·go_enter Tryz.func124,Tryz.ntmps124
      go_wp2_with (first|(go_at_call 197;(with_reducible refine(E.out _).mono ?_);rintro _ _ ⟨rfl,rfl⟩)|(go_at_call 201;(with_reducible refine(D.out _ (((((Ext.refl w).alloc _).trans e).trans f).trans g)).mono ?_);rintro _ J ⟨rfl,h⟩;have l:=(i.ext (((e.trans f).trans g).trans h)).cell 20;simp only[List.getElem?_cons_succ,List.getElem?_cons_zero]at l)|(go_at_call 121;(with_reducible refine(C.out _ ((((Ext.refl w).alloc _).trans e).trans f)).mono ?_);rintro _ L ⟨rfl,g⟩;have k:=(i.ext ((e.trans f).trans g)).cell 19;simp only[List.getElem?_cons_succ,List.getElem?_cons_zero]at k)|(go_at_call 200;(with_reducible refine(z.out _ (((Ext.refl w).alloc _).trans e)).mono ?_);rintro _ K ⟨rfl,f⟩;have m:=(i.ext (e.trans f)).cell 18;simp only[List.getElem?_cons_succ,List.getElem?_cons_zero]at m)|(go_at_call 198;(with_reducible refine(u.out _ ((Ext.refl w).alloc _)).mono ?_);rintro _ I ⟨rfl,e⟩;have q:=(i.ext (e)).cell 9;simp only[List.getElem?_cons_succ,List.getElem?_cons_zero]at q))
      go_ret
      first|exact⟨ab (by rw[←j.out];simp),(((((Ext.refl w).alloc _).trans e).trans f).trans g).trans h⟩|exact⟨ab (by rw[←j.out];simp),((((Ext.refl w).alloc _).trans e).trans f).trans g⟩|exact⟨ab (by rw[←j.out];simp),(((Ext.refl w).alloc _).trans e).trans f⟩|exact⟨ab (by rw[←j.out];simp),((Ext.refl w).alloc _).trans e⟩
end Go.Proofs.YtjigcpfjhfoheaaGreatDoor
