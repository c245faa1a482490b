/- Walks: wrong, for the slices of a statement; Walks: the small predicates of a well-formed statement; Walks: well-formed items, sources, orders, rows, assignments; definitions and queries; Walks: a well-formed query. -/
import Derived.Test.YtjigcpfjhfoheaaGreatDoorRbb
import Derived.Test.YtjigcpfjhfoheaaGreatDoorRba
import Derived.Test.YtjigcpfjhfoheaaGreatDoorRaf
namespace Go.Proofs.YtjigcpfjhfoheaaGreatDoor
open Go.RowKit
set_option maxHeartbeats 4000000
set_option maxRecDepth 100000
set_option linter.unusedVariables false
set_option linter.unusedSimpArgs false
theorem ew_cd:Ent 240:=fun _ _=>by kernel_rfl
theorem wr1_cd (G:FuncId) (i:Ent G) (b:Bool) (g:Nat) (x:Cd) (w:World) (j:w.cell? ⟨g,0,none⟩=some (.func (Fn.func G) #[] #[]))
  (e:∀(W:World),Ext w W→Calls Tryz.prog G #[.agg #[.string x.nm,.int .i64 x.ty,.int .i64 x.lo,.int .i64 x.hi,.int .i64 x.mx,.bool x.nn]] W fun r h=>r= .returned (.bool b)∧Ext W h):
  Calls Tryz.prog 240 #[.agg #[.string x.nm,.int .i64 x.ty,.int .i64 x.lo,.int .i64 x.hi,.int .i64 x.mx,.bool x.nn],.pointer (some ⟨g,0,none⟩)] w fun r w'=>r= .returned (.bool (!b))∧Ext w w':=by
 unfold Ent at i
 have f:=hid e
 have k:∀o,(w.alloc o).cell? ⟨g,0,none⟩=some (.func (Fn.func G) #[] #[]):=fun o=> ((Ext.refl w).alloc o).keep j
 clear e
 go_enter Tryz.func240,Tryz.ntmps240
 go_wp2_with fail
 refine(f _ ((Ext.refl w).alloc _)).mono ?_
 rintro _ l ⟨rfl,a⟩
 go_wp2_with fail
 go_ret
 exact⟨rfl,((Ext.refl w).alloc _).trans a⟩
theorem wr_cd (G:FuncId) (o:Ent G) (q:Cd→Bool) (l:List Cd) (A:Option Addr) (n c:Nat) (w:World) (h:l.length=n) (s:n≤9223372036854775807) (g:gh w A l)
  (e:∀x∈l,∀(W:World),Ext w W→(x.nm.size≤9223372036854775807∧I64 x.ty∧I64 x.lo∧I64 x.hi∧I64 x.mx)→Calls Tryz.prog G #[.agg #[.string x.nm,.int .i64 x.ty,.int .i64 x.lo,.int .i64 x.hi,.int .i64 x.mx,.bool x.nn]] W fun r k=>r= .returned (.bool (q x))∧Ext W k):
  Calls Tryz.prog 185 #[.slice A n c,.func (Fn.func G) #[] #[]] w fun r w'=>r= .returned (.bool (l.any fun x=>!q x))∧Ext w w':=by
 have j:=hid (cop_cd 240 ew_cd (.pointer (some ⟨w.heap.size,0,none⟩)) (fun x=>!q x) l A n c (w.alloc (.cells #[.func (Fn.func G) #[] #[]] 174)) h s (g.ext ((Ext.refl w).alloc _))
  (fun x t W f p=>wr1_cd G o (q x) w.heap.size x W (((Blk.of_new w 174 [.func (Fn.func G) #[] #[]]).ext f).cell_some (i:=0) rfl) fun m a=>e x t m ((((Ext.refl w).alloc _).trans f).trans a) p))
 clear h g e
 go_enter Tryz.func185,Tryz.ntmps185
 go_wp2_with (go_at_call 239;refine j.mono ?_;rintro _ u ⟨rfl,b⟩)
 go_ret
 exact⟨rfl,((Ext.refl w).alloc _).trans b⟩
theorem ew_key:Ent 242:=fun _ _=>by kernel_rfl
theorem wr1_key (G:FuncId) (l:Ent G) (b:Bool) (g:Nat) (x:(List ByteArray)) (e:Option Addr) (i f:Nat) (w:World) (m:w.cell? ⟨g,0,none⟩=some (.func (Fn.func G) #[] #[]))
  (h:∀(W:World),Ext w W→Calls Tryz.prog G #[.slice e i f] W fun r k=>r= .returned (.bool b)∧Ext W k):
  Calls Tryz.prog 242 #[.slice e i f,.pointer (some ⟨g,0,none⟩)] w fun r w'=>r= .returned (.bool (!b))∧Ext w w':=by
 unfold Ent at l
 have j:=hid h
 have n:∀o,(w.alloc o).cell? ⟨g,0,none⟩=some (.func (Fn.func G) #[] #[]):=fun o=> ((Ext.refl w).alloc o).keep m
 clear h
 go_enter Tryz.func242,Tryz.ntmps242
 go_wp2_with fail
 refine(j _ (Ext.refl w)).mono ?_
 rintro _ p ⟨rfl,a⟩
 go_wp2_with fail
 go_ret
 exact⟨rfl,(Ext.refl w).trans a⟩
theorem wr_key (G:FuncId) (u:Ent G) (q:(List ByteArray)→Bool) (l:List (List ByteArray)) (A:Option Addr) (n c:Nat) (w:World) (o:l.length=n) (y:n≤9223372036854775807) (m:en w A l)
  (j:∀x∈l,∀(W:World),Ext w W→∀(b:Option Addr) (a f:Nat),(x.length=a∧a≤9223372036854775807∧aM W b x)→Calls Tryz.prog G #[.slice b a f] W fun r s=>r= .returned (.bool (q x))∧Ext W s):
  Calls Tryz.prog 187 #[.slice A n c,.func (Fn.func G) #[] #[]] w fun r w'=>r= .returned (.bool (l.any fun x=>!q x))∧Ext w w':=by
 have p:=hid (cop_key 242 ew_key (.pointer (some ⟨w.heap.size,0,none⟩)) (fun x=>!q x) l A n c (w.alloc (.cells #[.func (Fn.func G) #[] #[]] 171)) o y (m.ext ((Ext.refl w).alloc _))
  (fun x z W k b a f g=>wr1_key G u (q x) w.heap.size x b a f W (((Blk.of_new w 171 [.func (Fn.func G) #[] #[]]).ext k).cell_some (i:=0) rfl) fun t e=>j x z t ((((Ext.refl w).alloc _).trans k).trans e) b a f ⟨g.1,g.2.1,g.2.2.ext e⟩))
 clear o m j
 go_enter Tryz.func187,Tryz.ntmps187
 go_wp2_with (go_at_call 241;refine p.mono ?_;rintro _ B ⟨rfl,h⟩)
 go_ret
 exact⟨rfl,((Ext.refl w).alloc _).trans h⟩
theorem ew_rf:Ent 244:=fun _ _=>by kernel_rfl
theorem wr1_rf (G:FuncId) (m:Ent G) (b:Bool) (g:Nat) (x:Rf) (e:Option Addr) (i c1:Nat) (f:Option Addr) (j c2:Nat) (w:World) (n:w.cell? ⟨g,0,none⟩=some (.func (Fn.func G) #[] #[]))
  (h:∀(W:World),Ext w W→Calls Tryz.prog G #[.agg #[.slice e i c1,.string x.tb,.slice f j c2]] W fun r l=>r= .returned (.bool b)∧Ext W l):
  Calls Tryz.prog 244 #[.agg #[.slice e i c1,.string x.tb,.slice f j c2],.pointer (some ⟨g,0,none⟩)] w fun r w'=>r= .returned (.bool (!b))∧Ext w w':=by
 unfold Ent at m
 have k:=hid h
 have p:∀o,(w.alloc o).cell? ⟨g,0,none⟩=some (.func (Fn.func G) #[] #[]):=fun o=> ((Ext.refl w).alloc o).keep n
 clear h
 go_enter Tryz.func244,Tryz.ntmps244
 go_wp2_with fail
 refine(k _ ((Ext.refl w).alloc _)).mono ?_
 rintro _ s ⟨rfl,a⟩
 go_wp2_with fail
 go_ret
 exact⟨rfl,((Ext.refl w).alloc _).trans a⟩
theorem wr_rf (G:FuncId) (y:Ent G) (q:Rf→Bool) (l:List Rf) (A:Option Addr) (n c:Nat) (w:World) (p:l.length=n) (z:n≤9223372036854775807) (o:gi w A l)
  (k:∀x∈l,∀(W:World),Ext w W→∀(g:Option Addr) (e c1:Nat) (h:Option Addr) (f c2:Nat),(x.tb.size≤9223372036854775807∧x.cs.length=e∧e≤9223372036854775807∧aM W g x.cs∧x.tg.length=f∧f≤9223372036854775807∧aM W h x.tg)→Calls Tryz.prog G #[.agg #[.slice g e c1,.string x.tb,.slice h f c2]] W fun r t=>r= .returned (.bool (q x))∧Ext W t):
  Calls Tryz.prog 188 #[.slice A n c,.func (Fn.func G) #[] #[]] w fun r w'=>r= .returned (.bool (l.any fun x=>!q x))∧Ext w w':=by
 have s:=hid (cop_rf 244 ew_rf (.pointer (some ⟨w.heap.size,0,none⟩)) (fun x=>!q x) l A n c (w.alloc (.cells #[.func (Fn.func G) #[] #[]] 172)) p z (o.ext ((Ext.refl w).alloc _))
  (fun x B W m g e c1 h f c2 b=>wr1_rf G y (q x) w.heap.size x g e c1 h f c2 W (((Blk.of_new w 172 [.func (Fn.func G) #[] #[]]).ext m).cell_some (i:=0) rfl) fun u a=>k x B u ((((Ext.refl w).alloc _).trans m).trans a) g e c1 h f c2 ⟨b.1,b.2.1,b.2.2.1,b.2.2.2.1.ext a,b.2.2.2.2.1,b.2.2.2.2.2.1,b.2.2.2.2.2.2.ext a⟩))
 clear p o k
 go_enter Tryz.func188,Tryz.ntmps188
 go_wp2_with (go_at_call 243;refine s.mono ?_;rintro _ C ⟨rfl,j⟩)
 go_ret
 exact⟨rfl,((Ext.refl w).alloc _).trans j⟩
theorem ew_row:Ent 190:=fun _ _=>by kernel_rfl
theorem wr1_row (G:FuncId) (l:Ent G) (b:Bool) (g:Nat) (x:(List Ex)) (e:Option Addr) (i f:Nat) (w:World) (m:w.cell? ⟨g,0,none⟩=some (.func (Fn.func G) #[] #[]))
  (h:∀(W:World),Ext w W→Calls Tryz.prog G #[.slice e i f] W fun r k=>r= .returned (.bool b)∧Ext W k):
  Calls Tryz.prog 190 #[.slice e i f,.pointer (some ⟨g,0,none⟩)] w fun r w'=>r= .returned (.bool (!b))∧Ext w w':=by
 unfold Ent at l
 have j:=hid h
 have n:∀o,(w.alloc o).cell? ⟨g,0,none⟩=some (.func (Fn.func G) #[] #[]):=fun o=> ((Ext.refl w).alloc o).keep m
 clear h
 go_enter Tryz.func190,Tryz.ntmps190
 go_wp2_with fail
 refine(j _ (Ext.refl w)).mono ?_
 rintro _ p ⟨rfl,a⟩
 go_wp2_with fail
 go_ret
 exact⟨rfl,(Ext.refl w).trans a⟩
theorem wr_row (G:FuncId) (u:Ent G) (q:(List Ex)→Bool) (l:List (List Ex)) (A:Option Addr) (n c:Nat) (w:World) (o:l.length=n) (y:n≤9223372036854775807) (m:dh w A l)
  (h:∀x∈l,∀(W:World),Ext w W→∀(a:Option Addr) (e f:Nat),(x.length=e∧KidsAt W a x)→Calls Tryz.prog G #[.slice a e f] W fun r s=>r= .returned (.bool (q x))∧Ext W s):
  Calls Tryz.prog 119 #[.slice A n c,.func (Fn.func G) #[] #[]] w fun r w'=>r= .returned (.bool (l.any fun x=>!q x))∧Ext w w':=by
 have p:=hid (cop_row 190 ew_row (.pointer (some ⟨w.heap.size,0,none⟩)) (fun x=>!q x) l A n c (w.alloc (.cells #[.func (Fn.func G) #[] #[]] 89)) o y (m.ext ((Ext.refl w).alloc _))
  (fun x z W j a e f k=>wr1_row G u (q x) w.heap.size x a e f W (((Blk.of_new w 89 [.func (Fn.func G) #[] #[]]).ext j).cell_some (i:=0) rfl) fun t b=>h x z t ((((Ext.refl w).alloc _).trans j).trans b) a e f ⟨k.1,k.2.ext b⟩))
 clear o m h
 go_enter Tryz.func119,Tryz.ntmps119
 go_wp2_with (go_at_call 189;refine p.mono ?_;rintro _ B ⟨rfl,g⟩)
 go_ret
 exact⟨rfl,((Ext.refl w).alloc _).trans g⟩
theorem ew_asg:Ent 193:=fun _ _=>by kernel_rfl
theorem wr1_asg (G:FuncId) (l:Ent G) (b:Bool) (g:Nat) (x:Asg) (e:Option Addr) (i f:Nat) (w:World) (m:w.cell? ⟨g,0,none⟩=some (.func (Fn.func G) #[] #[]))
  (h:∀(W:World),Ext w W→Calls Tryz.prog G #[.agg #[.string x.cl,.int .i64 x.ix,.int .i64 x.ex.d.op,.string x.ex.d.tb,.string x.ex.d.nm,.int .i64 x.ex.d.ix,.int .i64 x.ex.d.vk,.int .i64 x.ex.d.vi,.string x.ex.d.vt,.slice e i f]] W fun r k=>r= .returned (.bool b)∧Ext W k):
  Calls Tryz.prog 193 #[.agg #[.string x.cl,.int .i64 x.ix,.int .i64 x.ex.d.op,.string x.ex.d.tb,.string x.ex.d.nm,.int .i64 x.ex.d.ix,.int .i64 x.ex.d.vk,.int .i64 x.ex.d.vi,.string x.ex.d.vt,.slice e i f],.pointer (some ⟨g,0,none⟩)] w fun r w'=>r= .returned (.bool (!b))∧Ext w w':=by
 unfold Ent at l
 have j:=hid h
 have n:∀o,(w.alloc o).cell? ⟨g,0,none⟩=some (.func (Fn.func G) #[] #[]):=fun o=> ((Ext.refl w).alloc o).keep m
 clear h
 go_enter Tryz.func193,Tryz.ntmps193
 go_wp2_with fail
 refine(j _ ((Ext.refl w).alloc _)).mono ?_
 rintro _ p ⟨rfl,a⟩
 go_wp2_with fail
 go_ret
 exact⟨rfl,((Ext.refl w).alloc _).trans a⟩
theorem wr_asg (G:FuncId) (t:Ent G) (q:Asg→Bool) (l:List Asg) (A:Option Addr) (n c:Nat) (w:World) (m:l.length=n) (y:n≤9223372036854775807) (k:dM w A l)
  (h:∀x∈l,∀(W:World),Ext w W→∀(a:Option Addr) (f b:Nat),ExV W x.ex a f b→Calls Tryz.prog G #[.agg #[.string x.cl,.int .i64 x.ix,.int .i64 x.ex.d.op,.string x.ex.d.tb,.string x.ex.d.nm,.int .i64 x.ex.d.ix,.int .i64 x.ex.d.vk,.int .i64 x.ex.d.vi,.string x.ex.d.vt,.slice a f b]] W fun r p=>r= .returned (.bool (q x))∧Ext W p):
  Calls Tryz.prog 122 #[.slice A n c,.func (Fn.func G) #[] #[]] w fun r w'=>r= .returned (.bool (l.any fun x=>!q x))∧Ext w w':=by
 have o:=hid (cop_asg 193 ew_asg (.pointer (some ⟨w.heap.size,0,none⟩)) (fun x=>!q x) l A n c (w.alloc (.cells #[.func (Fn.func G) #[] #[]] 150)) m y (k.ext ((Ext.refl w).alloc _))
  (fun x z W j a f b u=>wr1_asg G t (q x) w.heap.size x a f b W (((Blk.of_new w 150 [.func (Fn.func G) #[] #[]]).ext j).cell_some (i:=0) rfl) fun s e=>h x z s ((((Ext.refl w).alloc _).trans j).trans e) a f b (u.ext e)))
 clear m k h
 go_enter Tryz.func122,Tryz.ntmps122
 go_wp2_with (go_at_call 192;refine o.mono ?_;rintro _ B ⟨rfl,g⟩)
 go_ret
 exact⟨rfl,((Ext.refl w).alloc _).trans g⟩
theorem ew_itm:Ent 248:=fun _ _=>by kernel_rfl
theorem wr1_itm (G:FuncId) (l:Ent G) (b:Bool) (g:Nat) (x:Itm) (e:Option Addr) (i f:Nat) (w:World) (m:w.cell? ⟨g,0,none⟩=some (.func (Fn.func G) #[] #[]))
  (h:∀(W:World),Ext w W→Calls Tryz.prog G #[.agg #[.int .i64 x.ag,.int .i64 x.ex.d.op,.string x.ex.d.tb,.string x.ex.d.nm,.int .i64 x.ex.d.ix,.int .i64 x.ex.d.vk,.int .i64 x.ex.d.vi,.string x.ex.d.vt,.slice e i f]] W fun r k=>r= .returned (.bool b)∧Ext W k):
  Calls Tryz.prog 248 #[.agg #[.int .i64 x.ag,.int .i64 x.ex.d.op,.string x.ex.d.tb,.string x.ex.d.nm,.int .i64 x.ex.d.ix,.int .i64 x.ex.d.vk,.int .i64 x.ex.d.vi,.string x.ex.d.vt,.slice e i f],.pointer (some ⟨g,0,none⟩)] w fun r w'=>r= .returned (.bool (!b))∧Ext w w':=by
 unfold Ent at l
 have j:=hid h
 have n:∀o,(w.alloc o).cell? ⟨g,0,none⟩=some (.func (Fn.func G) #[] #[]):=fun o=> ((Ext.refl w).alloc o).keep m
 clear h
 go_enter Tryz.func248,Tryz.ntmps248
 go_wp2_with fail
 refine(j _ ((Ext.refl w).alloc _)).mono ?_
 rintro _ p ⟨rfl,a⟩
 go_wp2_with fail
 go_ret
 exact⟨rfl,((Ext.refl w).alloc _).trans a⟩
theorem wr_itm (G:FuncId) (t:Ent G) (q:Itm→Bool) (l:List Itm) (A:Option Addr) (n c:Nat) (w:World) (m:l.length=n) (y:n≤9223372036854775807) (k:dN w A l)
  (h:∀x∈l,∀(W:World),Ext w W→∀(a:Option Addr) (f b:Nat),ExV W x.ex a f b→Calls Tryz.prog G #[.agg #[.int .i64 x.ag,.int .i64 x.ex.d.op,.string x.ex.d.tb,.string x.ex.d.nm,.int .i64 x.ex.d.ix,.int .i64 x.ex.d.vk,.int .i64 x.ex.d.vi,.string x.ex.d.vt,.slice a f b]] W fun r p=>r= .returned (.bool (q x))∧Ext W p):
  Calls Tryz.prog 198 #[.slice A n c,.func (Fn.func G) #[] #[]] w fun r w'=>r= .returned (.bool (l.any fun x=>!q x))∧Ext w w':=by
 have o:=hid (cop_itm 248 ew_itm (.pointer (some ⟨w.heap.size,0,none⟩)) (fun x=>!q x) l A n c (w.alloc (.cells #[.func (Fn.func G) #[] #[]] 181)) m y (k.ext ((Ext.refl w).alloc _))
  (fun x z W j a f b u=>wr1_itm G t (q x) w.heap.size x a f b W (((Blk.of_new w 181 [.func (Fn.func G) #[] #[]]).ext j).cell_some (i:=0) rfl) fun s e=>h x z s ((((Ext.refl w).alloc _).trans j).trans e) a f b (u.ext e)))
 clear m k h
 go_enter Tryz.func198,Tryz.ntmps198
 go_wp2_with (go_at_call 247;refine o.mono ?_;rintro _ B ⟨rfl,g⟩)
 go_ret
 exact⟨rfl,((Ext.refl w).alloc _).trans g⟩
theorem ew_src:Ent 250:=fun _ _=>by kernel_rfl
theorem wr1_src (G:FuncId) (i:Ent G) (b:Bool) (g:Nat) (x:Src) (w:World) (j:w.cell? ⟨g,0,none⟩=some (.func (Fn.func G) #[] #[]))
  (e:∀(W:World),Ext w W→Calls Tryz.prog G #[.agg #[.string x.tb,.string x.al]] W fun r h=>r= .returned (.bool b)∧Ext W h):
  Calls Tryz.prog 250 #[.agg #[.string x.tb,.string x.al],.pointer (some ⟨g,0,none⟩)] w fun r w'=>r= .returned (.bool (!b))∧Ext w w':=by
 unfold Ent at i
 have f:=hid e
 have k:∀o,(w.alloc o).cell? ⟨g,0,none⟩=some (.func (Fn.func G) #[] #[]):=fun o=> ((Ext.refl w).alloc o).keep j
 clear e
 go_enter Tryz.func250,Tryz.ntmps250
 go_wp2_with fail
 refine(f _ ((Ext.refl w).alloc _)).mono ?_
 rintro _ l ⟨rfl,a⟩
 go_wp2_with fail
 go_ret
 exact⟨rfl,((Ext.refl w).alloc _).trans a⟩
theorem wr_src (G:FuncId) (o:Ent G) (q:Src→Bool) (l:List Src) (A:Option Addr) (n c:Nat) (w:World) (h:l.length=n) (s:n≤9223372036854775807) (g:eU w A l)
  (e:∀x∈l,∀(W:World),Ext w W→(x.tb.size≤9223372036854775807∧x.al.size≤9223372036854775807)→Calls Tryz.prog G #[.agg #[.string x.tb,.string x.al]] W fun r k=>r= .returned (.bool (q x))∧Ext W k):
  Calls Tryz.prog 200 #[.slice A n c,.func (Fn.func G) #[] #[]] w fun r w'=>r= .returned (.bool (l.any fun x=>!q x))∧Ext w w':=by
 have j:=hid (cop_src 250 ew_src (.pointer (some ⟨w.heap.size,0,none⟩)) (fun x=>!q x) l A n c (w.alloc (.cells #[.func (Fn.func G) #[] #[]] 177)) h s (g.ext ((Ext.refl w).alloc _))
  (fun x t W f p=>wr1_src G o (q x) w.heap.size x W (((Blk.of_new w 177 [.func (Fn.func G) #[] #[]]).ext f).cell_some (i:=0) rfl) fun m a=>e x t m ((((Ext.refl w).alloc _).trans f).trans a) p))
 clear h g e
 go_enter Tryz.func200,Tryz.ntmps200
 go_wp2_with (go_at_call 249;refine j.mono ?_;rintro _ u ⟨rfl,b⟩)
 go_ret
 exact⟨rfl,((Ext.refl w).alloc _).trans b⟩
theorem ew_ord:Ent 252:=fun _ _=>by kernel_rfl
theorem wr1_ord (G:FuncId) (i:Ent G) (b:Bool) (g:Nat) (x:Ord') (w:World) (j:w.cell? ⟨g,0,none⟩=some (.func (Fn.func G) #[] #[]))
  (e:∀(W:World),Ext w W→Calls Tryz.prog G #[.agg #[.int .i64 x.it,.bool x.ds]] W fun r h=>r= .returned (.bool b)∧Ext W h):
  Calls Tryz.prog 252 #[.agg #[.int .i64 x.it,.bool x.ds],.pointer (some ⟨g,0,none⟩)] w fun r w'=>r= .returned (.bool (!b))∧Ext w w':=by
 unfold Ent at i
 have f:=hid e
 have k:∀o,(w.alloc o).cell? ⟨g,0,none⟩=some (.func (Fn.func G) #[] #[]):=fun o=> ((Ext.refl w).alloc o).keep j
 clear e
 go_enter Tryz.func252,Tryz.ntmps252
 go_wp2_with fail
 refine(f _ ((Ext.refl w).alloc _)).mono ?_
 rintro _ l ⟨rfl,a⟩
 go_wp2_with fail
 go_ret
 exact⟨rfl,((Ext.refl w).alloc _).trans a⟩
theorem wr_ord (G:FuncId) (o:Ent G) (q:Ord'→Bool) (l:List Ord') (A:Option Addr) (n c:Nat) (w:World) (h:l.length=n) (s:n≤9223372036854775807) (g:eV w A l)
  (e:∀x∈l,∀(W:World),Ext w W→I64 x.it→Calls Tryz.prog G #[.agg #[.int .i64 x.it,.bool x.ds]] W fun r k=>r= .returned (.bool (q x))∧Ext W k):
  Calls Tryz.prog 201 #[.slice A n c,.func (Fn.func G) #[] #[]] w fun r w'=>r= .returned (.bool (l.any fun x=>!q x))∧Ext w w':=by
 have j:=hid (cop_ord 252 ew_ord (.pointer (some ⟨w.heap.size,0,none⟩)) (fun x=>!q x) l A n c (w.alloc (.cells #[.func (Fn.func G) #[] #[]] 179)) h s (g.ext ((Ext.refl w).alloc _))
  (fun x t W f p=>wr1_ord G o (q x) w.heap.size x W (((Blk.of_new w 179 [.func (Fn.func G) #[] #[]]).ext f).cell_some (i:=0) rfl) fun m a=>e x t m ((((Ext.refl w).alloc _).trans f).trans a) p))
 clear h g e
 go_enter Tryz.func201,Tryz.ntmps201
 go_wp2_with (go_at_call 251;refine j.mono ?_;rintro _ u ⟨rfl,b⟩)
 go_ret
 exact⟨rfl,((Ext.refl w).alloc _).trans b⟩
theorem ew_ex:Ent 191:=fun _ _=>by kernel_rfl
theorem wr1_ex (G:FuncId) (l:Ent G) (b:Bool) (g:Nat) (x:Ex) (e:Option Addr) (j h:Nat) (w:World) (m:w.cell? ⟨g,0,none⟩=some (.func (Fn.func G) #[] #[]))
  (i:∀(W:World),Ext w W→Calls Tryz.prog G #[x.d.val e j h] W fun r k=>r= .returned (.bool b)∧Ext W k):
  Calls Tryz.prog 191 #[x.d.val e j h,.pointer (some ⟨g,0,none⟩)] w fun r w'=>r= .returned (.bool (!b))∧Ext w w':=by
 unfold Ent at l
 have f:=hid i
 have n:∀o,(w.alloc o).cell? ⟨g,0,none⟩=some (.func (Fn.func G) #[] #[]):=fun o=> ((Ext.refl w).alloc o).keep m
 clear i
 unfold Nd.val at f ⊢
 generalize x.d=d at*
 obtain⟨op,tb,nm,ix,vk,vi,vt⟩:=d
 simp only at*
 go_enter Tryz.func191,Tryz.ntmps191
 go_wp2_with fail
 refine(f _ ((Ext.refl w).alloc _)).mono ?_
 rintro _ p ⟨rfl,a⟩
 go_wp2_with fail
 go_ret
 exact⟨rfl,((Ext.refl w).alloc _).trans a⟩
theorem wr_ex (G:FuncId) (t:Ent G) (q:Ex→Bool) (l:List Ex) (A:Option Addr) (n c:Nat) (w:World) (m:l.length=n) (y:n≤9223372036854775807) (k:KidsAt w A l)
  (h:∀x∈l,∀(W:World),Ext w W→∀(a:Option Addr) (f b:Nat),ExV W x a f b→Calls Tryz.prog G #[x.d.val a f b] W fun r p=>r= .returned (.bool (q x))∧Ext W p):
  Calls Tryz.prog 121 #[.slice A n c,.func (Fn.func G) #[] #[]] w fun r w'=>r= .returned (.bool (l.any fun x=>!q x))∧Ext w w':=by
 have o:=hid (cop_ex 191 ew_ex (.pointer (some ⟨w.heap.size,0,none⟩)) (fun x=>!q x) l A n c (w.alloc (.cells #[.func (Fn.func G) #[] #[]] 55)) m y (k.ext ((Ext.refl w).alloc _))
  (fun x z W j a f b u=>wr1_ex G t (q x) w.heap.size x a f b W (((Blk.of_new w 55 [.func (Fn.func G) #[] #[]]).ext j).cell_some (i:=0) rfl) fun s e=>h x z s ((((Ext.refl w).alloc _).trans j).trans e) a f b (u.ext e)))
 clear m k h
 go_enter Tryz.func121,Tryz.ntmps121
 go_wp2_with (go_at_call 111;refine o.mono ?_;rintro _ B ⟨rfl,g⟩)
 go_ret
 exact⟨rfl,((Ext.refl w).alloc _).trans g⟩
theorem names1 (s:ByteArray) (w:World) (e:Sh w) (a:s.size≤9223372036854775807):Calls Tryz.prog 238 #[.string s] w fun r w'=>r= .returned (.bool (!nameB s))∧Ext w w':=by
 have f:=hid (name_any s w e a)
 clear e a
 generalize nameB s=b at*
 go_enter Tryz.func238,Tryz.ntmps238
 go_wp2_with (go_at_call 115;refine f.mono ?_;rintro _ _ ⟨rfl,rfl⟩)
 go_ret
 exact⟨rfl,Ext.refl _⟩
theorem qD:Ent 238:=fun _ _=>by kernel_rfl
theorem ent_names:Ent 184:=fun _ _=>by kernel_rfl
theorem qE:Ent 79:=fun _ _=>by kernel_rfl
theorem jX (l:List ByteArray) (A:Option Addr) (n c:Nat) (w:World) (j:Sh w) (g:l.length=n) (p:n≤9223372036854775807) (hs:aM w A l):
  Calls Tryz.prog 184 #[.slice A n c] w fun r w'=>r= .returned (.bool (namesB l))∧Ext w w':=by
 have h:=hid (co_str 238 qD (fun s=>!nameB s) l A n c w g p hs fun x _ W m o=>names1 x W (j.ext m) o)
 have f:=hid (na l)
 rw[g]at f
 generalize namesB l=R at*
 generalize (l.any fun s=>!nameB s)=b at*
 clear j hs g
 by_cases i:0<n
 ·have k:decide ((0:Int)<(n:Int))=true:=by simp;omega
  have a:Hid (R=!b):=by unfold Hid;rw[f.out];simp[i]
  go_enter Tryz.func184,Tryz.ntmps184
  go_wp2_with (go_at_call 237;refine h.mono ?_;rintro _ t ⟨rfl,e⟩)
  go_ret
  exact⟨aa a.symm,e⟩
 ·have k:decide ((0:Int)<(n:Int))=false:=by simp;omega
  have a:Hid (R=false):=by unfold Hid;rw[f.out];simp[i]
  go_enter Tryz.func184,Tryz.ntmps184
  go_wp2_with (go_at_call 237;refine h.mono ?_;rintro _ t ⟨rfl,e⟩)
  go_ret
  exact⟨aa a.symm,Ext.refl w⟩
theorem colok_any (x:Cd) (w:World) (s:Sh w) (p:x.nm.size≤9223372036854775807∧I64 x.ty∧I64 x.lo∧I64 x.hi∧I64 x.mx):
  Calls Tryz.prog 186 #[.agg #[.string x.nm,.int .i64 x.ty,.int .i64 x.lo,.int .i64 x.hi,.int .i64 x.mx,.bool x.nn]] w fun r w'=>r= .returned (.bool x.ok)∧Ext w w':=by
 have m:=hid (fun W (y:Ext w W)=>name_any x.nm W (s.ext y) p.1)
 have f:=hid (fun W=>dz x.lo (-2147483648) 2147483648 W)
 have g:=hid (fun W=>dz x.hi (-2147483648) 2147483648 W)
 have h:=hid (fun W=>dz x.mx 0 2147483648 W)
 obtain⟨R,a⟩:∃R,x.ok=R:=⟨_,rfl⟩
 rw[a]
 unfold Cd.ok inB at a
 clear s p
 generalize nameB x.nm=o at*
 generalize (decide (-2147483648≤x.lo) &&decide (x.lo≤2147483648))=t at*
 generalize (decide (-2147483648≤x.hi) &&decide (x.hi≤2147483648))=u at*
 generalize (decide (0≤x.mx) &&decide (x.mx≤2147483648))=D at*
 obtain⟨z,i⟩:∃b,(x.ty==1)=b:=⟨_,rfl⟩
 obtain⟨A,j⟩:∃b,(x.ty==2)=b:=⟨_,rfl⟩
 obtain⟨B,k⟩:∃b,(x.lo==0)=b:=⟨_,rfl⟩
 obtain⟨C,l⟩:∃b,(x.hi==0)=b:=⟨_,rfl⟩
 obtain⟨E,e⟩:∃b,(x.mx==0)=b:=⟨_,rfl⟩
 rw[i,j,k,l,e]at a
 have n:=hid a
 clear a
 cases z
 ·cases A<;>cases o<;>cases B<;>cases C
  all_goals
   go_enter Tryz.func186,Tryz.ntmps186
   go_wp2_with (first|(go_at_call 115;(with_reducible refine(m.out _ ((Ext.refl w).alloc _)).mono ?_);rintro _ _ ⟨rfl,rfl⟩)|(go_at_call 197;(with_reducible refine(h.out _).mono ?_);rintro _ _ ⟨rfl,rfl⟩))
   go_ret
   exact⟨aa (by rw[←n.out];simp),(Ext.refl w).alloc _⟩
 ·cases o<;>cases t<;>cases u
  all_goals
   go_enter Tryz.func186,Tryz.ntmps186
   go_wp2_with (first|(go_at_call 115;(with_reducible refine(m.out _ ((Ext.refl w).alloc _)).mono ?_);rintro _ _ ⟨rfl,rfl⟩)|(go_at_call 197;(with_reducible refine(f.out _).mono ?_);rintro _ _ ⟨rfl,rfl⟩)|(go_at_call 197;(with_reducible refine(g.out _).mono ?_);rintro _ _ ⟨rfl,rfl⟩))
   go_ret
   exact⟨aa (by rw[←n.out];simp[e]),(Ext.refl w).alloc _⟩
theorem ent_col:Ent 186:=fun _ _=>by kernel_rfl
theorem rfok_any (x:Rf) (g:Option Addr) (e c1:Nat) (h:Option Addr) (f c2:Nat) (w:World) (i:Sh w)
  (C:x.tb.size≤9223372036854775807∧x.cs.length=e∧e≤9223372036854775807∧aM w g x.cs∧x.tg.length=f∧f≤9223372036854775807∧aM w h x.tg):
  Calls Tryz.prog 183 #[.agg #[.slice g e c1,.string x.tb,.slice h f c2]] w fun r w'=>r= .returned (.bool x.ok)∧Ext w w':=by
 obtain⟨k,l,m,n,o,p,s⟩:=C
 have z:=hid (fun W (b:Ext w W)=>name_any x.tb W (i.ext b) k)
 have t:=hid (fun W (b:Ext w W)=>jX x.cs g e c1 W (i.ext b) l m (n.ext b))
 have u:=hid (fun W (b:Ext w W)=>jX x.tg h f c2 W (i.ext b) o p (s.ext b))
 have y:=hid (Blk.of_new w 103 [.slice g e c1,.string x.tb,.slice h f c2])
 clear i l m n o p s k
 unfold Rf.ok
 generalize nameB x.tb=B at*
 generalize namesB x.cs=A at*
 generalize namesB x.tg=D at*
 cases A<;>cases B
 all_goals
  go_enter Tryz.func183,Tryz.ntmps183
  go_wp2_with (first|(go_at_call 115;(with_reducible refine(z.out _ (((Ext.refl w).alloc _).trans a)).mono ?_);rintro _ _ ⟨rfl,rfl⟩)|(go_at_call 184;(with_reducible refine(u.out _ (((Ext.refl w).alloc _).trans a)).mono ?_);rintro _ H ⟨rfl,j⟩)|(go_at_call 184;(with_reducible refine(t.out _ ((Ext.refl w).alloc _)).mono ?_);rintro _ G ⟨rfl,a⟩;obtain⟨-,E,F,-⟩:=cls (y.ext a)))
  go_ret
  first|exact⟨rfl,(((Ext.refl w).alloc _).trans a).trans j⟩|exact⟨rfl,((Ext.refl w).alloc _).trans a⟩
theorem ent_rf:Ent 183:=fun _ _=>by kernel_rfl
theorem itmok_any (x:Itm) (A:Option Addr) (n c:Nat) (w:World) (o:Sh w) (k:ExV w x.ex A n c):
  Calls Tryz.prog 199 #[.agg #[.int .i64 x.ag,.int .i64 x.ex.d.op,.string x.ex.d.tb,.string x.ex.d.nm,.int .i64 x.ex.d.ix,.int .i64 x.ex.d.vk,.int .i64 x.ex.d.vi,.string x.ex.d.vt,.slice A n c]] w fun r w'=>r= .returned (.bool x.ok)∧Ext w w':=by
 have m:=hid (fun W (f:Ext w W)=>dA x.ex A n c W (k.ext f) (o.ext f))
 have l:=hid (fun W (f:Ext w W)=>iw x.ex A n c W (k.ext f))
 obtain⟨R,e⟩:∃R,x.ok=R:=⟨_,rfl⟩
 rw[e]
 unfold Itm.ok at e
 unfold Nd.val at m l
 clear o k
 generalize x.ex.formed=z at*
 generalize x.ex.absent=y at*
 generalize x.ex.d=d at*
 obtain⟨op,tb,nm,ix,vk,vi,vt⟩:=d
 simp only at*
 obtain⟨p,h⟩:∃b,(x.ag==1)=b:=⟨_,rfl⟩
 obtain⟨s,i⟩:∃b,decide (0≤x.ag)=b:=⟨_,rfl⟩
 obtain⟨t,j⟩:∃b,decide (x.ag≤5)=b:=⟨_,rfl⟩
 rw[h,i,j]at e
 have g:=hid e
 clear e
 cases p
 ·cases s<;>cases t
  all_goals
   go_enter Tryz.func199,Tryz.ntmps199
   go_wp2_with (go_at_call 79;(with_reducible refine(m.out _ ((Ext.refl w).alloc _)).mono ?_);rintro _ u ⟨rfl,a⟩)
   go_ret
   first|exact⟨aa (by rw[←g.out];simp),((Ext.refl w).alloc _).trans a⟩|exact⟨aa (by rw[←g.out];simp),(Ext.refl w).alloc _⟩
 ·go_enter Tryz.func199,Tryz.ntmps199
  go_wp2_with (go_at_call 116;(with_reducible refine(l.out _ ((Ext.refl w).alloc _)).mono ?_);rintro _ u ⟨rfl,a⟩)
  go_ret
  exact⟨aa (by rw[←g.out];simp),((Ext.refl w).alloc _).trans a⟩
theorem ent_itm:Ent 199:=fun _ _=>by kernel_rfl
theorem srcok_any (x:Src) (w:World) (i:Sh w) (g:x.tb.size≤9223372036854775807∧x.al.size≤9223372036854775807):
  Calls Tryz.prog 194 #[.agg #[.string x.tb,.string x.al]] w fun r w'=>r= .returned (.bool x.ok)∧Ext w w':=by
 have j:=hid (fun W (f:Ext w W)=>name_any x.tb W (i.ext f) g.1)
 have e:=hid (fun W (f:Ext w W)=>name_any x.al W (i.ext f) g.2)
 obtain⟨R,a⟩:∃R,x.ok=R:=⟨_,rfl⟩
 rw[a]
 unfold Src.ok at a
 clear i g
 generalize nameB x.tb=l at*
 generalize nameB x.al=n at*
 obtain⟨m,h⟩:∃b,x.al.toList.isEmpty=b:=⟨_,rfl⟩
 rw[h]at a
 have k:=hid a
 clear a
 cases l<;>cases m
 all_goals
  go_enter Tryz.func194,Tryz.ntmps194
  go_wp2_with (first|(go_at_call 115;(with_reducible refine(j.out _ ((Ext.refl w).alloc _)).mono ?_);rintro _ _ ⟨rfl,rfl⟩)|(go_at_call 115;(with_reducible refine(e.out _ ((Ext.refl w).alloc _)).mono ?_);rintro _ _ ⟨rfl,rfl⟩))
  go_ret
  exact⟨aa (by rw[←k.out];simp),(Ext.refl w).alloc _⟩
theorem ent_src:Ent 194:=fun _ _=>by kernel_rfl
theorem colx_any (x:Ex) (A:Option Addr) (n c:Nat) (w:World) (k:Sh w) (j:ExV w x A n c):
  Calls Tryz.prog 195 #[x.d.val A n c] w fun r w'=>r= .returned (.bool (eo x))∧Ext w w':=by
 have g:=hid (fun W (i:Ext w W)=>dA x A n c W (j.ext i) (k.ext i))
 obtain⟨R,a⟩:∃R,eo x=R:=⟨_,rfl⟩
 rw[a]
 unfold eo at a
 unfold Nd.val at g ⊢
 clear k j
 generalize x.formed=m at*
 generalize x.d=d at*
 obtain⟨op,tb,nm,ix,vk,vi,vt⟩:=d
 simp only at*
 obtain⟨l,e⟩:∃b,(op==2)=b:=⟨_,rfl⟩
 rw[e]at a
 have h:=hid a
 clear a
 cases l
 all_goals
  go_enter Tryz.func195,Tryz.ntmps195
  go_wp2_with (go_at_call 79;(with_reducible refine(g.out _ ((Ext.refl w).alloc _)).mono ?_);rintro _ o ⟨rfl,f⟩)
  go_ret
  first|exact⟨aa (by rw[←h.out];simp),((Ext.refl w).alloc _).trans f⟩|exact⟨aa (by rw[←h.out];simp),(Ext.refl w).alloc _⟩
theorem ent_colx:Ent 195:=fun _ _=>by kernel_rfl
theorem ordok_any (x:Ord') (w:World) (e:I64 x.it):
  Calls Tryz.prog 196 #[.agg #[.int .i64 x.it,.bool x.ds]] w fun r w'=>r= .returned (.bool x.ok)∧Ext w w':=by
 have b:=hid (fun W=>dz x.it 1 2147483648 W)
 obtain⟨R,a⟩:∃R,x.ok=R:=⟨_,rfl⟩
 rw[a]
 unfold Ord'.ok inB at a
 rw[a]at b
 clear e a
 go_enter Tryz.func196,Tryz.ntmps196
 go_wp2_with (go_at_call 197;(with_reducible refine(b.out _).mono ?_);rintro _ _ ⟨rfl,rfl⟩)
 go_ret
 exact⟨rfl,(Ext.refl w).alloc _⟩
theorem ent_ord:Ent 196:=fun _ _=>by kernel_rfl
theorem kj (l:List Ex) (A:Option Addr) (n c:Nat) (w:World) (j:Sh w) (h:l.length=n) (i:n≤9223372036854775807) (g:KidsAt w A l):
  Calls Tryz.prog 121 #[.slice A n c,.func (Fn.func 79) #[] #[]] w fun r w'=>r= .returned (.bool (!l.all Ex.formed))∧Ext w w':=by
 have:=wr_ex 79 qE Ex.formed l A n c w h i g fun x _ W e a k b f=>dA x a k b W f (j.ext e)
 rwa [gR]at this
theorem rowok_any (l:List Ex) (A:Option Addr) (n c:Nat) (w:World) (j:Sh w) (m:n≤9223372036854775807) (f:l.length=n∧KidsAt w A l):
  Calls Tryz.prog 120 #[.slice A n c] w fun r w'=>r= .returned (.bool (rowOk l))∧Ext w w':=by
 have g:=hid (kj l A n c w j f.1 m f.2)
 have h:Hid (rowOk l=(decide (0<n) &&l.all Ex.formed)):=by unfold Hid rowOk;rw[f.1]
 clear j f
 generalize rowOk l=R at*
 generalize l.all Ex.formed=b at*
 by_cases i:0<n
 ·have k:decide ((0:Int)<(n:Int))=true:=by simp;omega
  have a:Hid (R=b):=by unfold Hid;rw[h.out];simp[i]
  go_enter Tryz.func120,Tryz.ntmps120
  go_wp2_with (go_at_call 121;refine g.mono ?_;rintro _ o ⟨rfl,e⟩)
  go_ret
  exact⟨aa (by first|exact a.symm|(rw[a.out];simp)),e⟩
 ·have k:decide ((0:Int)<(n:Int))=false:=by simp;omega
  have a:Hid (R=false):=by unfold Hid;rw[h.out];simp[i]
  go_enter Tryz.func120,Tryz.ntmps120
  go_wp2_with (go_at_call 121;refine g.mono ?_;rintro _ o ⟨rfl,e⟩)
  go_ret
  exact⟨aa a.symm,Ext.refl w⟩
theorem ent_row:Ent 120:=fun _ _=>by kernel_rfl
theorem asgok_any (x:Asg) (A:Option Addr) (n c:Nat) (w:World) (e:Sh w) (j:x.cl.size≤9223372036854775807) (i:ExV w x.ex A n c):
  Calls Tryz.prog 123 #[.agg #[.string x.cl,.int .i64 x.ix,.int .i64 x.ex.d.op,.string x.ex.d.tb,.string x.ex.d.nm,.int .i64 x.ex.d.ix,.int .i64 x.ex.d.vk,.int .i64 x.ex.d.vi,.string x.ex.d.vt,.slice A n c]] w fun r w'=>r= .returned (.bool x.ok)∧Ext w w':=by
 have g:=hid (fun W (b:Ext w W)=>dA x.ex A n c W (i.ext b) (e.ext b))
 have k:=hid (fun W (b:Ext w W)=>name_any x.cl W (e.ext b) j)
 obtain⟨R,a⟩:∃R,x.ok=R:=⟨_,rfl⟩
 rw[a]
 unfold Asg.ok at a
 unfold Nd.val at g
 clear e i j
 generalize x.ex.formed=m at*
 generalize nameB x.cl=l at*
 generalize x.ex.d=d at*
 obtain⟨op,tb,nm,ix,vk,vi,vt⟩:=d
 simp only at*
 have h:=hid a
 clear a
 cases l
 all_goals
  go_enter Tryz.func123,Tryz.ntmps123
  go_wp2_with (first|(go_at_call 115;(with_reducible refine(k.out _ ((Ext.refl w).alloc _)).mono ?_);rintro _ _ ⟨rfl,rfl⟩)|(go_at_call 79;(with_reducible refine(g.out _ ((Ext.refl w).alloc _)).mono ?_);rintro _ o ⟨rfl,f⟩))
  go_ret
  first|exact⟨aa (by rw[←h.out];simp),((Ext.refl w).alloc _).trans f⟩|exact⟨aa (by rw[←h.out];simp),(Ext.refl w).alloc _⟩
theorem ent_asg:Ent 123:=fun _ _=>by kernel_rfl
theorem nc (s:St) (a:SA) (w:World) (b:StV w s a) (f:s.cols.length+s.keys.length+s.frs.length+s.chk.length≤1048576):
  Calls Tryz.prog 117 #[.agg #[.slice a.cols.A a.cols.n a.cols.c,.slice a.keys.A a.keys.n a.keys.c,.slice a.frs.A a.frs.n a.frs.c,.slice a.chk.A a.chk.n a.chk.c]] w fun r w'=>r= .returned (.bool s.noDef)∧Ext w w':=by
 have e:Hid (s.noDef=decide (a.cols.n+a.keys.n+a.frs.n+a.chk.n=0)):=by unfold Hid St.noDef;rw[b.cols.1,b.keys.1,b.frs.1,b.chk.1]
 rw[b.cols.1,b.keys.1,b.frs.1,b.chk.1]at f
 rw[e.out]
 clear b e
 generalize a.cols.n=g at*
 generalize a.keys.n=h at*
 generalize a.frs.n=i at*
 generalize a.chk.n=j at*
 go_enter Tryz.func117,Tryz.ntmps117
 go_wp2_with fail
 go_ret
 refine⟨aa ?_,(Ext.refl w).alloc _⟩
 rw[Bool.eq_iff_iff]
 simp only[beq_iff_eq,decide_eq_true_eq]
 omega
theorem def_any (s:St) (a:SA) (w:World) (o:Sh w) (g:StV w s a) (C:s.cols.length+s.keys.length+s.frs.length+s.chk.length≤1048576):
  Calls Tryz.prog 118 #[.agg #[.slice a.cols.A a.cols.n a.cols.c,.slice a.keys.A a.keys.n a.keys.c,.slice a.frs.A a.frs.n a.frs.c,.slice a.chk.A a.chk.n a.chk.c]] w fun r w'=>r= .returned (.bool s.defOk)∧Ext w w':=by
 have G:=hid (fun W (h:Ext w W)=>nc s a W (g.ext h) C)
 have y:=hid (fun W (h:Ext w W)=>wr_cd 186 ent_col Cd.ok s.cols a.cols.A a.cols.n a.cols.c W g.cols.1 g.cols.2.1 (g.cols.2.2.ext h) fun x _ m i k=>colok_any x m (o.ext (h.trans i)) k)
 have z:=hid (fun W (h:Ext w W)=>wr_key 184 ent_names namesB s.keys a.keys.A a.keys.n a.keys.c W g.keys.1 g.keys.2.1 (g.keys.2.2.ext h) fun x _ m i F Z O k=>jX x F Z O m (o.ext (h.trans i)) k.1 k.2.1 k.2.2)
 have B:=hid (fun W (h:Ext w W)=>wr_rf 183 ent_rf Rf.ok s.frs a.frs.A a.frs.n a.frs.c W g.frs.1 g.frs.2.1 (g.frs.2.2.ext h) fun x _ m i D X c1 E Y c2 k=>rfok_any x D X c1 E Y c2 m (o.ext (h.trans i)) k)
 have H:=hid (fun W (h:Ext w W)=>kj s.chk a.chk.A a.chk.n a.chk.c W (o.ext h) g.chk.1 g.chk.2.1 (g.chk.2.2.ext h))
 simp only[gR]at y z B
 have p:=hid (Blk.of_new w 29 [.slice a.cols.A a.cols.n a.cols.c,.slice a.keys.A a.keys.n a.keys.c,.slice a.frs.A a.frs.n a.frs.c,.slice a.chk.A a.chk.n a.chk.c])
 clear o g C
 obtain⟨R,t⟩:∃R,s.defOk=R:=⟨_,rfl⟩
 rw[t]
 unfold St.defOk at t
 generalize s.noDef=I at*
 generalize s.cols.all Cd.ok=J at*
 generalize s.keys.all namesB=K at*
 generalize s.frs.all Rf.ok=L at*
 generalize s.chk.all Ex.formed=b4 at*
 have l:=hid t
 clear t
 cases I<;>cases J<;>cases K<;>cases L
 all_goals
  go_enter Tryz.func118,Tryz.ntmps118
  go_wp2_with (first|(go_at_call 121;(with_reducible refine(H.out _ (((((Ext.refl w).alloc _).trans b).trans e|>.trans f).trans j)).mono ?_);rintro _ w6 ⟨rfl,u⟩)|(go_at_call 188;(with_reducible refine(B.out _ ((((Ext.refl w).alloc _).trans b).trans e|>.trans f)).mono ?_);rintro _ w5 ⟨rfl,j⟩;have V:=(p.ext (((b.trans e).trans f).trans j)).cell 3;simp only[List.getElem?_cons_succ,List.getElem?_cons_zero]at V)|(go_at_call 187;(with_reducible refine(z.out _ ((((Ext.refl w).alloc _).trans b).trans e)).mono ?_);rintro _ w4 ⟨rfl,f⟩;have U:=(p.ext ((b.trans e).trans f)).cell 2;simp only[List.getElem?_cons_succ,List.getElem?_cons_zero]at U)|(go_at_call 185;(with_reducible refine(y.out _ (((Ext.refl w).alloc _).trans b)).mono ?_);rintro _ w3 ⟨rfl,e⟩;have Q:=(p.ext (b.trans e)).cell 1;simp only[List.getElem?_cons_succ,List.getElem?_cons_zero]at Q)|(go_at_call 117;(with_reducible refine(G.out _ ((Ext.refl w).alloc _)).mono ?_);rintro _ w2 ⟨rfl,b⟩;have P:=(p.ext (b)).cell 0;simp only[List.getElem?_cons_succ,List.getElem?_cons_zero]at P))
  go_ret
  first|exact⟨aa (by rw[←l.out];simp),((((((Ext.refl w).alloc _).trans b).trans e).trans f).trans j).trans u⟩|exact⟨aa (by rw[←l.out];simp),(((((Ext.refl w).alloc _).trans b).trans e).trans f).trans j⟩|exact⟨aa (by rw[←l.out];simp),((((Ext.refl w).alloc _).trans b).trans e).trans f⟩|exact⟨aa (by rw[←l.out];simp),(((Ext.refl w).alloc _).trans b).trans e⟩|exact⟨aa (by rw[←l.out];simp),((Ext.refl w).alloc _).trans b⟩
theorem query_any (s:St) (a:SA) (w:World) (P:Sh w) (o:StV w s a):
  Calls Tryz.prog 124 #[s.val a] w fun r w'=>r= .returned (.bool s.qOk)∧Ext w w':=by
 have y:=hid (fun W (u:Ext w W)=>wr_itm 199 ent_itm Itm.ok s.itms a.itms.A a.itms.n a.itms.c W o.itms.1 o.itms.2.1 (o.itms.2.2.ext u) fun x _ D p Q V U E=>itmok_any x Q V U D (P.ext (u.trans p)) E)
 have z:=hid (fun W (u:Ext w W)=>wr_src 194 ent_src Src.ok s.frm a.frm.A a.frm.n a.frm.c W o.frm.1 o.frm.2.1 (o.frm.2.2.ext u) fun x _ D p E=>srcok_any x D (P.ext (u.trans p)) E)
 have B:=hid (fun W (u:Ext w W)=>wr_ex 195 ent_colx eo s.grp a.grp.A a.grp.n a.grp.c W o.grp.1 o.grp.2.1 (o.grp.2.2.ext u) fun x _ D p Q V U E=>colx_any x Q V U D (P.ext (u.trans p)) E)
 have C:=hid (fun W (u:Ext w W)=>wr_ord 196 ent_ord Ord'.ok s.ord a.ord.A a.ord.n a.ord.c W o.ord.1 o.ord.2.1 (o.ord.2.2.ext u) fun x _ D p E=>ordok_any x D E)
 have F:=hid (fun W=>dz s.lim 0 2147483648 W)
 simp only[gR]at y z B C
 have i:=hid (Blk.of_new w 40 (s.cells a))
 have H:=o.frm.1
 obtain⟨R,G⟩:∃R,s.qOk=R:=⟨_,rfl⟩
 rw[G]
 unfold St.qOk inB at G
 rw[H]at G
 clear P o H
 unfold St.val at*
 unfold St.cells at*
 unfold Sl.v at*
 generalize s.itms.all Itm.ok=Y at*
 generalize s.frm.all Src.ok=Z at*
 generalize s.grp.all eo=b3 at*
 generalize s.ord.all Ord'.ok=b4 at*
 generalize (decide (0≤s.lim) &&decide (s.lim≤2147483648))=b5 at*
 obtain⟨X,I⟩:∃b,decide (0<a.frm.n)=b:=⟨_,rfl⟩
 rw[I]at G
 have ac:decide ((0:Int)<(a.frm.n:Int))=X:=by rw[←I];simp
 have j:=hid G
 clear G
 cases Y
 ·go_enter Tryz.func124,Tryz.ntmps124
  go_wp2_with (first|(go_at_call 197;(with_reducible refine(F.out _).mono ?_);rintro _ _ ⟨rfl,rfl⟩)|(go_at_call 201;(with_reducible refine(C.out _ (((((Ext.refl w).alloc _).trans e).trans f).trans g)).mono ?_);rintro _ O ⟨rfl,h⟩;have m:=(i.ext (((e.trans f).trans g).trans h)).cell 20;simp only[List.getElem?_cons_succ,List.getElem?_cons_zero]at m)|(go_at_call 121;(with_reducible refine(B.out _ ((((Ext.refl w).alloc _).trans e).trans f)).mono ?_);rintro _ L ⟨rfl,g⟩;have l:=(i.ext ((e.trans f).trans g)).cell 19;simp only[List.getElem?_cons_succ,List.getElem?_cons_zero]at l)|(go_at_call 200;(with_reducible refine(z.out _ (((Ext.refl w).alloc _).trans e)).mono ?_);rintro _ K ⟨rfl,f⟩;have k:=(i.ext (e.trans f)).cell 18;simp only[List.getElem?_cons_succ,List.getElem?_cons_zero]at k)|(go_at_call 198;(with_reducible refine(y.out _ ((Ext.refl w).alloc _)).mono ?_);rintro _ J ⟨rfl,e⟩;have t:=(i.ext (e)).cell 9;simp only[List.getElem?_cons_succ,List.getElem?_cons_zero]at t))
  go_ret
  first|exact⟨aa (by rw[←j.out];simp),(((((Ext.refl w).alloc _).trans e).trans f).trans g).trans h⟩|exact⟨aa (by rw[←j.out];simp),((((Ext.refl w).alloc _).trans e).trans f).trans g⟩|exact⟨aa (by rw[←j.out];simp),(((Ext.refl w).alloc _).trans e).trans f⟩|exact⟨aa (by rw[←j.out];simp),((Ext.refl w).alloc _).trans e⟩
 ·cases X
  ·go_enter Tryz.func124,Tryz.ntmps124
   go_wp2_with (first|(go_at_call 197;(with_reducible refine(F.out _).mono ?_);rintro _ _ ⟨rfl,rfl⟩)|(go_at_call 201;(with_reducible refine(C.out _ (((((Ext.refl w).alloc _).trans e).trans f).trans g)).mono ?_);rintro _ O ⟨rfl,h⟩;have m:=(i.ext (((e.trans f).trans g).trans h)).cell 20;simp only[List.getElem?_cons_succ,List.getElem?_cons_zero]at m)|(go_at_call 121;(with_reducible refine(B.out _ ((((Ext.refl w).alloc _).trans e).trans f)).mono ?_);rintro _ L ⟨rfl,g⟩;have l:=(i.ext ((e.trans f).trans g)).cell 19;simp only[List.getElem?_cons_succ,List.getElem?_cons_zero]at l)|(go_at_call 200;(with_reducible refine(z.out _ (((Ext.refl w).alloc _).trans e)).mono ?_);rintro _ K ⟨rfl,f⟩;have k:=(i.ext (e.trans f)).cell 18;simp only[List.getElem?_cons_succ,List.getElem?_cons_zero]at k)|(go_at_call 198;(with_reducible refine(y.out _ ((Ext.refl w).alloc _)).mono ?_);rintro _ J ⟨rfl,e⟩;have t:=(i.ext (e)).cell 9;simp only[List.getElem?_cons_succ,List.getElem?_cons_zero]at t))
   go_ret
   first|exact⟨aa (by rw[←j.out];simp),(((((Ext.refl w).alloc _).trans e).trans f).trans g).trans h⟩|exact⟨aa (by rw[←j.out];simp),((((Ext.refl w).alloc _).trans e).trans f).trans g⟩|exact⟨aa (by rw[←j.out];simp),(((Ext.refl w).alloc _).trans e).trans f⟩|exact⟨aa (by rw[←j.out];simp),((Ext.refl w).alloc _).trans e⟩
  ·cases Z
   ·go_enter Tryz.func124,Tryz.ntmps124
    go_wp2_with (first|(go_at_call 197;(with_reducible refine(F.out _).mono ?_);rintro _ _ ⟨rfl,rfl⟩)|(go_at_call 201;(with_reducible refine(C.out _ (((((Ext.refl w).alloc _).trans e).trans f).trans g)).mono ?_);rintro _ O ⟨rfl,h⟩;have m:=(i.ext (((e.trans f).trans g).trans h)).cell 20;simp only[List.getElem?_cons_succ,List.getElem?_cons_zero]at m)|(go_at_call 121;(with_reducible refine(B.out _ ((((Ext.refl w).alloc _).trans e).trans f)).mono ?_);rintro _ L ⟨rfl,g⟩;have l:=(i.ext ((e.trans f).trans g)).cell 19;simp only[List.getElem?_cons_succ,List.getElem?_cons_zero]at l)|(go_at_call 200;(with_reducible refine(z.out _ (((Ext.refl w).alloc _).trans e)).mono ?_);rintro _ K ⟨rfl,f⟩;have k:=(i.ext (e.trans f)).cell 18;simp only[List.getElem?_cons_succ,List.getElem?_cons_zero]at k)|(go_at_call 198;(with_reducible refine(y.out _ ((Ext.refl w).alloc _)).mono ?_);rintro _ J ⟨rfl,e⟩;have t:=(i.ext (e)).cell 9;simp only[List.getElem?_cons_succ,List.getElem?_cons_zero]at t))
    go_ret
    first|exact⟨aa (by rw[←j.out];simp),(((((Ext.refl w).alloc _).trans e).trans f).trans g).trans h⟩|exact⟨aa (by rw[←j.out];simp),((((Ext.refl w).alloc _).trans e).trans f).trans g⟩|exact⟨aa (by rw[←j.out];simp),(((Ext.refl w).alloc _).trans e).trans f⟩|exact⟨aa (by rw[←j.out];simp),((Ext.refl w).alloc _).trans e⟩
   ·cases b3
    ·go_enter Tryz.func124,Tryz.ntmps124
     go_wp2_with (first|(go_at_call 197;(with_reducible refine(F.out _).mono ?_);rintro _ _ ⟨rfl,rfl⟩)|(go_at_call 201;(with_reducible refine(C.out _ (((((Ext.refl w).alloc _).trans e).trans f).trans g)).mono ?_);rintro _ O ⟨rfl,h⟩;have m:=(i.ext (((e.trans f).trans g).trans h)).cell 20;simp only[List.getElem?_cons_succ,List.getElem?_cons_zero]at m)|(go_at_call 121;(with_reducible refine(B.out _ ((((Ext.refl w).alloc _).trans e).trans f)).mono ?_);rintro _ L ⟨rfl,g⟩;have l:=(i.ext ((e.trans f).trans g)).cell 19;simp only[List.getElem?_cons_succ,List.getElem?_cons_zero]at l)|(go_at_call 200;(with_reducible refine(z.out _ (((Ext.refl w).alloc _).trans e)).mono ?_);rintro _ K ⟨rfl,f⟩;have k:=(i.ext (e.trans f)).cell 18;simp only[List.getElem?_cons_succ,List.getElem?_cons_zero]at k)|(go_at_call 198;(with_reducible refine(y.out _ ((Ext.refl w).alloc _)).mono ?_);rintro _ J ⟨rfl,e⟩;have t:=(i.ext (e)).cell 9;simp only[List.getElem?_cons_succ,List.getElem?_cons_zero]at t))
     go_ret
     first|exact⟨aa (by rw[←j.out];simp),(((((Ext.refl w).alloc _).trans e).trans f).trans g).trans h⟩|exact⟨aa (by rw[←j.out];simp),((((Ext.refl w).alloc _).trans e).trans f).trans g⟩|exact⟨aa (by rw[←j.out];simp),(((Ext.refl w).alloc _).trans e).trans f⟩|exact⟨aa (by rw[←j.out];simp),((Ext.refl w).alloc _).trans e⟩
    ·cases b4
     ·go_enter Tryz.func124,Tryz.ntmps124
      go_wp2_with (first|(go_at_call 197;(with_reducible refine(F.out _).mono ?_);rintro _ _ ⟨rfl,rfl⟩)|(go_at_call 201;(with_reducible refine(C.out _ (((((Ext.refl w).alloc _).trans e).trans f).trans g)).mono ?_);rintro _ O ⟨rfl,h⟩;have m:=(i.ext (((e.trans f).trans g).trans h)).cell 20;simp only[List.getElem?_cons_succ,List.getElem?_cons_zero]at m)|(go_at_call 121;(with_reducible refine(B.out _ ((((Ext.refl w).alloc _).trans e).trans f)).mono ?_);rintro _ L ⟨rfl,g⟩;have l:=(i.ext ((e.trans f).trans g)).cell 19;simp only[List.getElem?_cons_succ,List.getElem?_cons_zero]at l)|(go_at_call 200;(with_reducible refine(z.out _ (((Ext.refl w).alloc _).trans e)).mono ?_);rintro _ K ⟨rfl,f⟩;have k:=(i.ext (e.trans f)).cell 18;simp only[List.getElem?_cons_succ,List.getElem?_cons_zero]at k)|(go_at_call 198;(with_reducible refine(y.out _ ((Ext.refl w).alloc _)).mono ?_);rintro _ J ⟨rfl,e⟩;have t:=(i.ext (e)).cell 9;simp only[List.getElem?_cons_succ,List.getElem?_cons_zero]at t))
      go_ret
      first|exact⟨aa (by rw[←j.out];simp),(((((Ext.refl w).alloc _).trans e).trans f).trans g).trans h⟩|exact⟨aa (by rw[←j.out];simp),((((Ext.refl w).alloc _).trans e).trans f).trans g⟩|exact⟨aa (by rw[←j.out];simp),(((Ext.refl w).alloc _).trans e).trans f⟩|exact⟨aa (by rw[←j.out];simp),((Ext.refl w).alloc _).trans e⟩
     ·go_enter Tryz.func124,Tryz.ntmps124
      go_wp2_with (first|(go_at_call 197;(with_reducible refine(F.out _).mono ?_);rintro _ _ ⟨rfl,rfl⟩)|(go_at_call 201;(with_reducible refine(C.out _ (((((Ext.refl w).alloc _).trans e).trans f).trans g)).mono ?_);rintro _ O ⟨rfl,h⟩;have m:=(i.ext (((e.trans f).trans g).trans h)).cell 20;simp only[List.getElem?_cons_succ,List.getElem?_cons_zero]at m)|(go_at_call 121;(with_reducible refine(B.out _ ((((Ext.refl w).alloc _).trans e).trans f)).mono ?_);rintro _ L ⟨rfl,g⟩;have l:=(i.ext ((e.trans f).trans g)).cell 19;simp only[List.getElem?_cons_succ,List.getElem?_cons_zero]at l)|(go_at_call 200;(with_reducible refine(z.out _ (((Ext.refl w).alloc _).trans e)).mono ?_);rintro _ K ⟨rfl,f⟩;have k:=(i.ext (e.trans f)).cell 18;simp only[List.getElem?_cons_succ,List.getElem?_cons_zero]at k)|(go_at_call 198;(with_reducible refine(y.out _ ((Ext.refl w).alloc _)).mono ?_);rintro _ J ⟨rfl,e⟩;have t:=(i.ext (e)).cell 9;simp only[List.getElem?_cons_succ,List.getElem?_cons_zero]at t))
      go_ret
      first|exact⟨aa (by rw[←j.out];simp),(((((Ext.refl w).alloc _).trans e).trans f).trans g).trans h⟩|exact⟨aa (by rw[←j.out];simp),((((Ext.refl w).alloc _).trans e).trans f).trans g⟩|exact⟨aa (by rw[←j.out];simp),(((Ext.refl w).alloc _).trans e).trans f⟩|exact⟨aa (by rw[←j.out];simp),((Ext.refl w).alloc _).trans e⟩
end Go.Proofs.YtjigcpfjhfoheaaGreatDoor
