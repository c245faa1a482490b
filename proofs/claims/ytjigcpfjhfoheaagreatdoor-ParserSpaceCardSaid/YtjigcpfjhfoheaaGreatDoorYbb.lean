/- Walks: IndexFunc, ContainsFunc and wrong, for the slices of a statement; Walks: list, for the slices of a statement. -/
import Derived.Test.YtjigcpfjhfoheaaGreatDoorYaj
import Derived.Test.YtjigcpfjhfoheaaGreatDoorYaf
import Derived.Test.YtjigcpfjhfoheaaGreatDoorYba
import Derived.Test.YtjigcpfjhfoheaaGreatDoorYaa
namespace Go.Proofs.YtjigcpfjhfoheaaGreatDoor
open Go.RowKit
set_option maxHeartbeats 4000000
set_option maxRecDepth 100000
set_option linter.unusedVariables false
set_option linter.unusedSimpArgs false
theorem ix_str (F:FuncId) (K:Ent F) (p:ByteArray→Bool) (l:List ByteArray) (A:Option Addr) (n c:Nat) (w:World) (u:l.length=n) (P:n≤9223372036854775807) (z:aO w A l)
  (y:∀x∈l,∀(W:World),Ext w W→(x.size≤9223372036854775807)→Calls Tryz.prog F #[.string x] W fun r H=>r= .returned (.bool (p x))∧Ext W H):
  Calls Tryz.prog 267 #[.slice A n c,.func (Fn.func F) #[] #[]] w fun r w'=>ew (l.any p) r∧Ext w w':=by
 unfold Ent at K
 have B:=hid u
 have D:=hid z
 have L:=hid y
 clear u z y
 go_enter Tryz.func267,Tryz.ntmps267
 go_wp2_with fail
 go_loopw [5,8] (fun _ J wr=> ∃(k:Nat),k≤n∧J= .int .i64 k∧(l.take k).any p=false∧Ext w wr) (fun _ i _=>n- (intOf i).toNat)
 case atStart=>exact⟨0,Nat.zero_le _,rfl,rfl,Ext.refl w⟩
 case round=>
  obtain⟨k,C,rfl,q,a⟩:=hrel
  have e:=hid a
  have h:=hid q
  by_cases s:k<n
  ·obtain⟨x,o⟩:=aI B s
   obtain⟨E,b,G,rfl,O⟩:=(D.ext a) k x o
   have m:=hid (L x (List.mem_of_getElem? o) _ a E)
   have t:=hid o
   clear o a q
   cases g:p x
   ·rw[g]at m
    have j:Hid ((l.take (k+1)).any p=false):=aN t h g
    clear g
    go_wp2_with fail
    refine m.mono ?_
    rintro _ I ⟨rfl,f⟩
    go_wp2_with fail
    go_roundw
    case rel=>exact⟨k+1,by omega,by go_num,j,e.trans f⟩
    case measure=>simp[intOf];omega
   ·rw[g]at m
    have j:Hid (l.any p=true):=aQ t g
    clear g
    go_wp2_with fail
    refine m.mono ?_
    rintro _ I ⟨rfl,f⟩
    go_wp2_with fail
    go_ret
    exact⟨⟨k,⟨by omega,by omega⟩,rfl,by rw[j.out];simp⟩,e.trans f⟩
  ·obtain rfl:k=n:=by omega
   have j:Hid (l.any p=false):=cn B h
   clear q
   go_wp2_with fail
   go_ret
   exact⟨⟨-1,⟨by omega,by omega⟩,rfl,by rw[j.out];rfl⟩,e⟩
theorem co_str (F:FuncId) (j:Ent F) (p:ByteArray→Bool) (l:List ByteArray) (A:Option Addr) (n c:Nat) (w:World) (g:l.length=n) (m:n≤9223372036854775807) (f:aO w A l)
  (h:∀x∈l,∀(W:World),Ext w W→(x.size≤9223372036854775807)→Calls Tryz.prog F #[.string x] W fun r i=>r= .returned (.bool (p x))∧Ext W i):
  Calls Tryz.prog 237 #[.slice A n c,.func (Fn.func F) #[] #[]] w fun r w'=>r= .returned (.bool (l.any p))∧Ext w w':=by
 have k:=hid (ix_str F j p l A n c w g m f h)
 clear g f h
 go_enter Tryz.func237,Tryz.ntmps237
 go_wp2_with (go_at_call 267;refine k.mono ?_;rintro _ q ⟨⟨x,o,rfl,a⟩,b⟩;have e:=hid a;clear a)
 go_ret
 exact⟨ab e,b⟩
theorem ixp_cd (F:FuncId) (K:Ent F) (P:Value) (p:Cd→Bool) (l:List Cd) (A:Option Addr) (n c:Nat) (w:World) (u:l.length=n) (Y:n≤9223372036854775807) (z:gn w A l)
  (y:∀x∈l,∀(W:World),Ext w W→(x.nm.size≤9223372036854775807∧I64 x.ty∧I64 x.lo∧I64 x.hi∧I64 x.mx)→Calls Tryz.prog F #[.agg #[.string x.nm,.int .i64 x.ty,.int .i64 x.lo,.int .i64 x.hi,.int .i64 x.mx,.bool x.nn],P] W fun r H=>r= .returned (.bool (p x))∧Ext W H):
  Calls Tryz.prog 268 #[.slice A n c,.func (Fn.func F) #[] #[P]] w fun r w'=>ew (l.any p) r∧Ext w w':=by
 unfold Ent at K
 have B:=hid u
 have D:=hid z
 have L:=hid y
 clear u z y
 go_enter Tryz.func268,Tryz.ntmps268
 go_wp2_with fail
 go_loopw [5,8] (fun _ J wr=> ∃(k:Nat),k≤n∧J= .int .i64 k∧(l.take k).any p=false∧Ext w wr) (fun _ i _=>n- (intOf i).toNat)
 case atStart=>exact⟨0,Nat.zero_le _,rfl,rfl,Ext.refl w⟩
 case round=>
  obtain⟨k,C,rfl,q,a⟩:=hrel
  have e:=hid a
  have h:=hid q
  by_cases s:k<n
  ·obtain⟨x,o⟩:=aI B s
   obtain⟨E,b,G,rfl,V,U,R,Q,O,X⟩:=(D.ext a) k x o
   have m:=hid (L x (List.mem_of_getElem? o) _ a E)
   have t:=hid o
   clear o a q
   cases g:p x
   ·rw[g]at m
    have j:Hid ((l.take (k+1)).any p=false):=aN t h g
    clear g
    go_wp2_with fail
    refine m.mono ?_
    rintro _ I ⟨rfl,f⟩
    go_wp2_with fail
    go_roundw
    case rel=>exact⟨k+1,by omega,by go_num,j,e.trans f⟩
    case measure=>simp[intOf];omega
   ·rw[g]at m
    have j:Hid (l.any p=true):=aQ t g
    clear g
    go_wp2_with fail
    refine m.mono ?_
    rintro _ I ⟨rfl,f⟩
    go_wp2_with fail
    go_ret
    exact⟨⟨k,⟨by omega,by omega⟩,rfl,by rw[j.out];simp⟩,e.trans f⟩
  ·obtain rfl:k=n:=by omega
   have j:Hid (l.any p=false):=cn B h
   clear q
   go_wp2_with fail
   go_ret
   exact⟨⟨-1,⟨by omega,by omega⟩,rfl,by rw[j.out];rfl⟩,e⟩
theorem cop_cd (F:FuncId) (j:Ent F) (P:Value) (p:Cd→Bool) (l:List Cd) (A:Option Addr) (n c:Nat) (w:World) (g:l.length=n) (m:n≤9223372036854775807) (f:gn w A l)
  (h:∀x∈l,∀(W:World),Ext w W→(x.nm.size≤9223372036854775807∧I64 x.ty∧I64 x.lo∧I64 x.hi∧I64 x.mx)→Calls Tryz.prog F #[.agg #[.string x.nm,.int .i64 x.ty,.int .i64 x.lo,.int .i64 x.hi,.int .i64 x.mx,.bool x.nn],P] W fun r i=>r= .returned (.bool (p x))∧Ext W i):
  Calls Tryz.prog 239 #[.slice A n c,.func (Fn.func F) #[] #[P]] w fun r w'=>r= .returned (.bool (l.any p))∧Ext w w':=by
 have k:=hid (ixp_cd F j P p l A n c w g m f h)
 clear g f h
 go_enter Tryz.func239,Tryz.ntmps239
 go_wp2_with (go_at_call 268;refine k.mono ?_;rintro _ q ⟨⟨x,o,rfl,a⟩,b⟩;have e:=hid a;clear a)
 go_ret
 exact⟨ab e,b⟩
theorem ixp_key (F:FuncId) (R:Ent F) (P:Value) (p:(List ByteArray)→Bool) (l:List (List ByteArray)) (A:Option Addr) (n c:Nat) (w:World) (B:l.length=n) (Y:n≤9223372036854775807) (D:dX w A l)
  (C:∀x∈l,∀(W:World),Ext w W→∀(q:Option Addr) (h u:Nat),(x.length=h∧h≤9223372036854775807∧aO W q x)→Calls Tryz.prog F #[.slice q h u,P] W fun r J=>r= .returned (.bool (p x))∧Ext W J):
  Calls Tryz.prog 269 #[.slice A n c,.func (Fn.func F) #[] #[P]] w fun r w'=>ew (l.any p) r∧Ext w w':=by
 unfold Ent at R
 have E:=hid B
 have H:=hid D
 have V:=hid C
 clear B D C
 go_enter Tryz.func269,Tryz.ntmps269
 go_wp2_with fail
 go_loopw [5,8] (fun _ O wr=> ∃(k:Nat),k≤n∧O= .int .i64 k∧(l.take k).any p=false∧Ext w wr) (fun _ i _=>n- (intOf i).toNat)
 case atStart=>exact⟨0,Nat.zero_le _,rfl,rfl,Ext.refl w⟩
 case round=>
  obtain⟨k,G,rfl,t,a⟩:=hrel
  have e:=hid a
  have j:=hid t
  by_cases y:k<n
  ·obtain⟨x,s⟩:=aI E y
   obtain⟨b,I,q,h,u,rfl,X,U,Q,L⟩:=(H.ext a) k x s
   have o:=hid (V x (List.mem_of_getElem? s) _ a q h u ⟨U,Q,L⟩)
   have z:=hid s
   clear s a t
   cases g:p x
   ·rw[g]at o
    have m:Hid ((l.take (k+1)).any p=false):=aN z j g
    clear g
    go_wp2_with fail
    refine o.mono ?_
    rintro _ K ⟨rfl,f⟩
    go_wp2_with fail
    go_roundw
    case rel=>exact⟨k+1,by omega,by go_num,m,e.trans f⟩
    case measure=>simp[intOf];omega
   ·rw[g]at o
    have m:Hid (l.any p=true):=aQ z g
    clear g
    go_wp2_with fail
    refine o.mono ?_
    rintro _ K ⟨rfl,f⟩
    go_wp2_with fail
    go_ret
    exact⟨⟨k,⟨by omega,by omega⟩,rfl,by rw[m.out];simp⟩,e.trans f⟩
  ·obtain rfl:k=n:=by omega
   have m:Hid (l.any p=false):=cn E j
   clear t
   go_wp2_with fail
   go_ret
   exact⟨⟨-1,⟨by omega,by omega⟩,rfl,by rw[m.out];rfl⟩,e⟩
theorem cop_key (F:FuncId) (o:Ent F) (P:Value) (p:(List ByteArray)→Bool) (l:List (List ByteArray)) (A:Option Addr) (n c:Nat) (w:World) (h:l.length=n) (s:n≤9223372036854775807) (g:dX w A l)
  (i:∀x∈l,∀(W:World),Ext w W→∀(j:Option Addr) (b k:Nat),(x.length=b∧b≤9223372036854775807∧aO W j x)→Calls Tryz.prog F #[.slice j b k,P] W fun r m=>r= .returned (.bool (p x))∧Ext W m):
  Calls Tryz.prog 241 #[.slice A n c,.func (Fn.func F) #[] #[P]] w fun r w'=>r= .returned (.bool (l.any p))∧Ext w w':=by
 have q:=hid (ixp_key F o P p l A n c w h s g i)
 clear h g i
 go_enter Tryz.func241,Tryz.ntmps241
 go_wp2_with (go_at_call 269;refine q.mono ?_;rintro _ u ⟨⟨x,t,rfl,a⟩,e⟩;have f:=hid a;clear a)
 go_ret
 exact⟨ab f,e⟩
theorem ixp_rf (F:FuncId) (Y:Ent F) (P:Value) (p:Rf→Bool) (l:List Rf) (A:Option Addr) (n c:Nat) (w:World) (B:l.length=n) (hn:n≤9223372036854775807) (D:go w A l)
  (C:∀x∈l,∀(W:World),Ext w W→∀(q:Option Addr) (n1 c1:Nat) (s:Option Addr) (h c2:Nat),(x.tb.size≤9223372036854775807∧x.cs.length=n1∧n1≤9223372036854775807∧aO W q x.cs∧x.tg.length=h∧h≤9223372036854775807∧aO W s x.tg)→Calls Tryz.prog F #[.agg #[.slice q n1 c1,.string x.tb,.slice s h c2],P] W fun r Q=>r= .returned (.bool (p x))∧Ext W Q):
  Calls Tryz.prog 270 #[.slice A n c,.func (Fn.func F) #[] #[P]] w fun r w'=>ew (l.any p) r∧Ext w w':=by
 unfold Ent at Y
 have E:=hid B
 have I:=hid D
 have HF:=hid C
 clear B D C
 go_enter Tryz.func270,Tryz.ntmps270
 go_wp2_with fail
 go_loopw [5,8] (fun _ V wr=> ∃(k:Nat),k≤n∧V= .int .i64 k∧(l.take k).any p=false∧Ext w wr) (fun _ i _=>n- (intOf i).toNat)
 case atStart=>exact⟨0,Nat.zero_le _,rfl,rfl,Ext.refl w⟩
 case round=>
  obtain⟨k,G,rfl,u,a⟩:=hrel
  have e:=hid a
  have j:=hid u
  by_cases y:k<n
  ·obtain⟨x,t⟩:=aI E y
   obtain⟨O,b,L,q,n1,c1,s,h,c2,rfl,q0,q1,q2,Z,X,U,K,H,J⟩:=(I.ext a) k x t
   have o:=hid (HF x (List.mem_of_getElem? t) _ a q n1 c1 s h c2 ⟨O,Z,X,U,K,H,J⟩)
   have z:=hid t
   clear t a u
   cases g:p x
   ·rw[g]at o
    have m:Hid ((l.take (k+1)).any p=false):=aN z j g
    clear g
    go_wp2_with fail
    refine o.mono ?_
    rintro _ R ⟨rfl,f⟩
    go_wp2_with fail
    go_roundw
    case rel=>exact⟨k+1,by omega,by go_num,m,e.trans f⟩
    case measure=>simp[intOf];omega
   ·rw[g]at o
    have m:Hid (l.any p=true):=aQ z g
    clear g
    go_wp2_with fail
    refine o.mono ?_
    rintro _ R ⟨rfl,f⟩
    go_wp2_with fail
    go_ret
    exact⟨⟨k,⟨by omega,by omega⟩,rfl,by rw[m.out];simp⟩,e.trans f⟩
  ·obtain rfl:k=n:=by omega
   have m:Hid (l.any p=false):=cn E j
   clear u
   go_wp2_with fail
   go_ret
   exact⟨⟨-1,⟨by omega,by omega⟩,rfl,by rw[m.out];rfl⟩,e⟩
theorem cop_rf (F:FuncId) (o:Ent F) (P:Value) (p:Rf→Bool) (l:List Rf) (A:Option Addr) (n c:Nat) (w:World) (i:l.length=n) (s:n≤9223372036854775807) (h:go w A l)
  (k:∀x∈l,∀(W:World),Ext w W→∀(j:Option Addr) (n1 c1:Nat) (g:Option Addr) (e c2:Nat),(x.tb.size≤9223372036854775807∧x.cs.length=n1∧n1≤9223372036854775807∧aO W j x.cs∧x.tg.length=e∧e≤9223372036854775807∧aO W g x.tg)→Calls Tryz.prog F #[.agg #[.slice j n1 c1,.string x.tb,.slice g e c2],P] W fun r m=>r= .returned (.bool (p x))∧Ext W m):
  Calls Tryz.prog 243 #[.slice A n c,.func (Fn.func F) #[] #[P]] w fun r w'=>r= .returned (.bool (l.any p))∧Ext w w':=by
 have q:=hid (ixp_rf F o P p l A n c w i s h k)
 clear i h k
 go_enter Tryz.func243,Tryz.ntmps243
 go_wp2_with (go_at_call 270;refine q.mono ?_;rintro _ u ⟨⟨x,t,rfl,a⟩,b⟩;have f:=hid a;clear a)
 go_ret
 exact⟨ab f,b⟩
theorem ixp_row (F:FuncId) (Q:Ent F) (P:Value) (p:(List Ex)→Bool) (l:List (List Ex)) (A:Option Addr) (n c:Nat) (w:World) (B:l.length=n) (X:n≤9223372036854775807) (D:cV w A l)
  (C:∀x∈l,∀(W:World),Ext w W→∀(o:Option Addr) (q u:Nat),(x.length=q∧KidsAt W o x)→Calls Tryz.prog F #[.slice o q u,P] W fun r J=>r= .returned (.bool (p x))∧Ext W J):
  Calls Tryz.prog 245 #[.slice A n c,.func (Fn.func F) #[] #[P]] w fun r w'=>ew (l.any p) r∧Ext w w':=by
 unfold Ent at Q
 have E:=hid B
 have H:=hid D
 have U:=hid C
 clear B D C
 go_enter Tryz.func245,Tryz.ntmps245
 go_wp2_with fail
 go_loopw [5,8] (fun _ L wr=> ∃(k:Nat),k≤n∧L= .int .i64 k∧(l.take k).any p=false∧Ext w wr) (fun _ i _=>n- (intOf i).toNat)
 case atStart=>exact⟨0,Nat.zero_le _,rfl,rfl,Ext.refl w⟩
 case round=>
  obtain⟨k,G,rfl,t,a⟩:=hrel
  have e:=hid a
  have h:=hid t
  by_cases y:k<n
  ·obtain⟨x,s⟩:=aI E y
   obtain⟨b,I,o,q,u,rfl,V,R,O⟩:=(H.ext a) k x s
   have m:=hid (U x (List.mem_of_getElem? s) _ a o q u ⟨R,O⟩)
   have z:=hid s
   clear s a t
   cases g:p x
   ·rw[g]at m
    have j:Hid ((l.take (k+1)).any p=false):=aN z h g
    clear g
    go_wp2_with fail
    refine m.mono ?_
    rintro _ K ⟨rfl,f⟩
    go_wp2_with fail
    go_roundw
    case rel=>exact⟨k+1,by omega,by go_num,j,e.trans f⟩
    case measure=>simp[intOf];omega
   ·rw[g]at m
    have j:Hid (l.any p=true):=aQ z g
    clear g
    go_wp2_with fail
    refine m.mono ?_
    rintro _ K ⟨rfl,f⟩
    go_wp2_with fail
    go_ret
    exact⟨⟨k,⟨by omega,by omega⟩,rfl,by rw[j.out];simp⟩,e.trans f⟩
  ·obtain rfl:k=n:=by omega
   have j:Hid (l.any p=false):=cn E h
   clear t
   go_wp2_with fail
   go_ret
   exact⟨⟨-1,⟨by omega,by omega⟩,rfl,by rw[j.out];rfl⟩,e⟩
theorem cop_row (F:FuncId) (o:Ent F) (P:Value) (p:(List Ex)→Bool) (l:List (List Ex)) (A:Option Addr) (n c:Nat) (w:World) (h:l.length=n) (s:n≤9223372036854775807) (g:cV w A l)
  (i:∀x∈l,∀(W:World),Ext w W→∀(j:Option Addr) (f k:Nat),(x.length=f∧KidsAt W j x)→Calls Tryz.prog F #[.slice j f k,P] W fun r m=>r= .returned (.bool (p x))∧Ext W m):
  Calls Tryz.prog 189 #[.slice A n c,.func (Fn.func F) #[] #[P]] w fun r w'=>r= .returned (.bool (l.any p))∧Ext w w':=by
 have q:=hid (ixp_row F o P p l A n c w h s g i)
 clear h g i
 go_enter Tryz.func189,Tryz.ntmps189
 go_wp2_with (go_at_call 245;refine q.mono ?_;rintro _ u ⟨⟨x,t,rfl,a⟩,b⟩;have e:=hid a;clear a)
 go_ret
 exact⟨ab e,b⟩
theorem ixp_asg (F:FuncId) (O:Ent F) (P:Value) (p:Asg→Bool) (l:List Asg) (A:Option Addr) (n c:Nat) (w:World) (B:l.length=n) (hn:n≤9223372036854775807) (D:dF w A l)
  (C:∀x∈l,∀(W:World),Ext w W→∀(o:Option Addr) (q t:Nat),ExV W x.ex o q t→Calls Tryz.prog F #[.agg #[.string x.cl,.int .i64 x.ix,.int .i64 x.ex.d.op,.string x.ex.d.tb,.string x.ex.d.nm,.int .i64 x.ex.d.ix,.int .i64 x.ex.d.vk,.int .i64 x.ex.d.vi,.string x.ex.d.vt,.slice o q t],P] W fun r J=>r= .returned (.bool (p x))∧Ext W J):
  Calls Tryz.prog 246 #[.slice A n c,.func (Fn.func F) #[] #[P]] w fun r w'=>ew (l.any p) r∧Ext w w':=by
 unfold Ent at O
 have E:=hid B
 have H:=hid D
 have R:=hid C
 clear B D C
 go_enter Tryz.func246,Tryz.ntmps246
 go_wp2_with fail
 go_loopw [5,8] (fun _ L wr=> ∃(k:Nat),k≤n∧L= .int .i64 k∧(l.take k).any p=false∧Ext w wr) (fun _ i _=>n- (intOf i).toNat)
 case atStart=>exact⟨0,Nat.zero_le _,rfl,rfl,Ext.refl w⟩
 case round=>
  obtain⟨k,G,rfl,u,a⟩:=hrel
  have e:=hid a
  have h:=hid u
  by_cases y:k<n
  ·obtain⟨x,s⟩:=aI E y
   obtain⟨b,I,o,q,t,rfl,q0,q1,Y,X,V,q5,Z,q7,q8,U,Q⟩:=gp (H.ext a) s
   have m:=hid (R x (List.mem_of_getElem? s) _ a o q t Q)
   have z:=hid s
   clear s a u
   cases g:p x
   ·rw[g]at m
    have j:Hid ((l.take (k+1)).any p=false):=aN z h g
    clear g
    go_wp2_with fail
    refine m.mono ?_
    rintro _ K ⟨rfl,f⟩
    go_wp2_with fail
    go_roundw
    case rel=>exact⟨k+1,by omega,by go_num,j,e.trans f⟩
    case measure=>simp[intOf];omega
   ·rw[g]at m
    have j:Hid (l.any p=true):=aQ z g
    clear g
    go_wp2_with fail
    refine m.mono ?_
    rintro _ K ⟨rfl,f⟩
    go_wp2_with fail
    go_ret
    exact⟨⟨k,⟨by omega,by omega⟩,rfl,by rw[j.out];simp⟩,e.trans f⟩
  ·obtain rfl:k=n:=by omega
   have j:Hid (l.any p=false):=cn E h
   clear u
   go_wp2_with fail
   go_ret
   exact⟨⟨-1,⟨by omega,by omega⟩,rfl,by rw[j.out];rfl⟩,e⟩
theorem cop_asg (F:FuncId) (o:Ent F) (P:Value) (p:Asg→Bool) (l:List Asg) (A:Option Addr) (n c:Nat) (w:World) (i:l.length=n) (s:n≤9223372036854775807) (h:dF w A l)
  (j:∀x∈l,∀(W:World),Ext w W→∀(k:Option Addr) (g f:Nat),ExV W x.ex k g f→Calls Tryz.prog F #[.agg #[.string x.cl,.int .i64 x.ix,.int .i64 x.ex.d.op,.string x.ex.d.tb,.string x.ex.d.nm,.int .i64 x.ex.d.ix,.int .i64 x.ex.d.vk,.int .i64 x.ex.d.vi,.string x.ex.d.vt,.slice k g f],P] W fun r m=>r= .returned (.bool (p x))∧Ext W m):
  Calls Tryz.prog 192 #[.slice A n c,.func (Fn.func F) #[] #[P]] w fun r w'=>r= .returned (.bool (l.any p))∧Ext w w':=by
 have q:=hid (ixp_asg F o P p l A n c w i s h j)
 clear i h j
 go_enter Tryz.func192,Tryz.ntmps192
 go_wp2_with (go_at_call 246;refine q.mono ?_;rintro _ u ⟨⟨x,t,rfl,a⟩,b⟩;have e:=hid a;clear a)
 go_ret
 exact⟨ab e,b⟩
theorem ixp_itm (F:FuncId) (O:Ent F) (P:Value) (p:Itm→Bool) (l:List Itm) (A:Option Addr) (n c:Nat) (w:World) (B:l.length=n) (hn:n≤9223372036854775807) (D:dG w A l)
  (C:∀x∈l,∀(W:World),Ext w W→∀(o:Option Addr) (q t:Nat),ExV W x.ex o q t→Calls Tryz.prog F #[.agg #[.int .i64 x.ag,.int .i64 x.ex.d.op,.string x.ex.d.tb,.string x.ex.d.nm,.int .i64 x.ex.d.ix,.int .i64 x.ex.d.vk,.int .i64 x.ex.d.vi,.string x.ex.d.vt,.slice o q t],P] W fun r J=>r= .returned (.bool (p x))∧Ext W J):
  Calls Tryz.prog 271 #[.slice A n c,.func (Fn.func F) #[] #[P]] w fun r w'=>ew (l.any p) r∧Ext w w':=by
 unfold Ent at O
 have E:=hid B
 have H:=hid D
 have R:=hid C
 clear B D C
 go_enter Tryz.func271,Tryz.ntmps271
 go_wp2_with fail
 go_loopw [5,8] (fun _ L wr=> ∃(k:Nat),k≤n∧L= .int .i64 k∧(l.take k).any p=false∧Ext w wr) (fun _ i _=>n- (intOf i).toNat)
 case atStart=>exact⟨0,Nat.zero_le _,rfl,rfl,Ext.refl w⟩
 case round=>
  obtain⟨k,G,rfl,u,a⟩:=hrel
  have e:=hid a
  have h:=hid u
  by_cases y:k<n
  ·obtain⟨x,s⟩:=aI E y
   obtain⟨b,I,o,q,t,rfl,q0,q1,X,V,U,q5,Y,Z,q8,Q⟩:=gq (H.ext a) s
   have m:=hid (R x (List.mem_of_getElem? s) _ a o q t Q)
   have z:=hid s
   clear s a u
   cases g:p x
   ·rw[g]at m
    have j:Hid ((l.take (k+1)).any p=false):=aN z h g
    clear g
    go_wp2_with fail
    refine m.mono ?_
    rintro _ K ⟨rfl,f⟩
    go_wp2_with fail
    go_roundw
    case rel=>exact⟨k+1,by omega,by go_num,j,e.trans f⟩
    case measure=>simp[intOf];omega
   ·rw[g]at m
    have j:Hid (l.any p=true):=aQ z g
    clear g
    go_wp2_with fail
    refine m.mono ?_
    rintro _ K ⟨rfl,f⟩
    go_wp2_with fail
    go_ret
    exact⟨⟨k,⟨by omega,by omega⟩,rfl,by rw[j.out];simp⟩,e.trans f⟩
  ·obtain rfl:k=n:=by omega
   have j:Hid (l.any p=false):=cn E h
   clear u
   go_wp2_with fail
   go_ret
   exact⟨⟨-1,⟨by omega,by omega⟩,rfl,by rw[j.out];rfl⟩,e⟩
theorem cop_itm (F:FuncId) (o:Ent F) (P:Value) (p:Itm→Bool) (l:List Itm) (A:Option Addr) (n c:Nat) (w:World) (i:l.length=n) (s:n≤9223372036854775807) (h:dG w A l)
  (j:∀x∈l,∀(W:World),Ext w W→∀(k:Option Addr) (g f:Nat),ExV W x.ex k g f→Calls Tryz.prog F #[.agg #[.int .i64 x.ag,.int .i64 x.ex.d.op,.string x.ex.d.tb,.string x.ex.d.nm,.int .i64 x.ex.d.ix,.int .i64 x.ex.d.vk,.int .i64 x.ex.d.vi,.string x.ex.d.vt,.slice k g f],P] W fun r m=>r= .returned (.bool (p x))∧Ext W m):
  Calls Tryz.prog 247 #[.slice A n c,.func (Fn.func F) #[] #[P]] w fun r w'=>r= .returned (.bool (l.any p))∧Ext w w':=by
 have q:=hid (ixp_itm F o P p l A n c w i s h j)
 clear i h j
 go_enter Tryz.func247,Tryz.ntmps247
 go_wp2_with (go_at_call 271;refine q.mono ?_;rintro _ u ⟨⟨x,t,rfl,a⟩,b⟩;have e:=hid a;clear a)
 go_ret
 exact⟨ab e,b⟩
theorem ixp_src (F:FuncId) (K:Ent F) (P:Value) (p:Src→Bool) (l:List Src) (A:Option Addr) (n c:Nat) (w:World) (u:l.length=n) (R:n≤9223372036854775807) (z:dY w A l)
  (y:∀x∈l,∀(W:World),Ext w W→(x.tb.size≤9223372036854775807∧x.al.size≤9223372036854775807)→Calls Tryz.prog F #[.agg #[.string x.tb,.string x.al],P] W fun r H=>r= .returned (.bool (p x))∧Ext W H):
  Calls Tryz.prog 272 #[.slice A n c,.func (Fn.func F) #[] #[P]] w fun r w'=>ew (l.any p) r∧Ext w w':=by
 unfold Ent at K
 have B:=hid u
 have D:=hid z
 have L:=hid y
 clear u z y
 go_enter Tryz.func272,Tryz.ntmps272
 go_wp2_with fail
 go_loopw [5,8] (fun _ J wr=> ∃(k:Nat),k≤n∧J= .int .i64 k∧(l.take k).any p=false∧Ext w wr) (fun _ i _=>n- (intOf i).toNat)
 case atStart=>exact⟨0,Nat.zero_le _,rfl,rfl,Ext.refl w⟩
 case round=>
  obtain⟨k,C,rfl,q,a⟩:=hrel
  have e:=hid a
  have h:=hid q
  by_cases s:k<n
  ·obtain⟨x,o⟩:=aI B s
   obtain⟨E,b,G,rfl,Q,O⟩:=(D.ext a) k x o
   have m:=hid (L x (List.mem_of_getElem? o) _ a E)
   have t:=hid o
   clear o a q
   cases g:p x
   ·rw[g]at m
    have j:Hid ((l.take (k+1)).any p=false):=aN t h g
    clear g
    go_wp2_with fail
    refine m.mono ?_
    rintro _ I ⟨rfl,f⟩
    go_wp2_with fail
    go_roundw
    case rel=>exact⟨k+1,by omega,by go_num,j,e.trans f⟩
    case measure=>simp[intOf];omega
   ·rw[g]at m
    have j:Hid (l.any p=true):=aQ t g
    clear g
    go_wp2_with fail
    refine m.mono ?_
    rintro _ I ⟨rfl,f⟩
    go_wp2_with fail
    go_ret
    exact⟨⟨k,⟨by omega,by omega⟩,rfl,by rw[j.out];simp⟩,e.trans f⟩
  ·obtain rfl:k=n:=by omega
   have j:Hid (l.any p=false):=cn B h
   clear q
   go_wp2_with fail
   go_ret
   exact⟨⟨-1,⟨by omega,by omega⟩,rfl,by rw[j.out];rfl⟩,e⟩
theorem cop_src (F:FuncId) (j:Ent F) (P:Value) (p:Src→Bool) (l:List Src) (A:Option Addr) (n c:Nat) (w:World) (g:l.length=n) (m:n≤9223372036854775807) (f:dY w A l)
  (h:∀x∈l,∀(W:World),Ext w W→(x.tb.size≤9223372036854775807∧x.al.size≤9223372036854775807)→Calls Tryz.prog F #[.agg #[.string x.tb,.string x.al],P] W fun r i=>r= .returned (.bool (p x))∧Ext W i):
  Calls Tryz.prog 249 #[.slice A n c,.func (Fn.func F) #[] #[P]] w fun r w'=>r= .returned (.bool (l.any p))∧Ext w w':=by
 have k:=hid (ixp_src F j P p l A n c w g m f h)
 clear g f h
 go_enter Tryz.func249,Tryz.ntmps249
 go_wp2_with (go_at_call 272;refine k.mono ?_;rintro _ q ⟨⟨x,o,rfl,a⟩,b⟩;have e:=hid a;clear a)
 go_ret
 exact⟨ab e,b⟩
theorem ixp_ord (F:FuncId) (K:Ent F) (P:Value) (p:Ord'→Bool) (l:List Ord') (A:Option Addr) (n c:Nat) (w:World) (u:l.length=n) (R:n≤9223372036854775807) (z:dZ w A l)
  (y:∀x∈l,∀(W:World),Ext w W→I64 x.it→Calls Tryz.prog F #[.agg #[.int .i64 x.it,.bool x.ds],P] W fun r H=>r= .returned (.bool (p x))∧Ext W H):
  Calls Tryz.prog 273 #[.slice A n c,.func (Fn.func F) #[] #[P]] w fun r w'=>ew (l.any p) r∧Ext w w':=by
 unfold Ent at K
 have B:=hid u
 have D:=hid z
 have L:=hid y
 clear u z y
 go_enter Tryz.func273,Tryz.ntmps273
 go_wp2_with fail
 go_loopw [5,8] (fun _ J wr=> ∃(k:Nat),k≤n∧J= .int .i64 k∧(l.take k).any p=false∧Ext w wr) (fun _ i _=>n- (intOf i).toNat)
 case atStart=>exact⟨0,Nat.zero_le _,rfl,rfl,Ext.refl w⟩
 case round=>
  obtain⟨k,C,rfl,q,a⟩:=hrel
  have e:=hid a
  have h:=hid q
  by_cases s:k<n
  ·obtain⟨x,o⟩:=aI B s
   obtain⟨E,b,G,rfl,Q,O⟩:=(D.ext a) k x o
   have m:=hid (L x (List.mem_of_getElem? o) _ a E)
   have t:=hid o
   clear o a q
   cases g:p x
   ·rw[g]at m
    have j:Hid ((l.take (k+1)).any p=false):=aN t h g
    clear g
    go_wp2_with fail
    refine m.mono ?_
    rintro _ I ⟨rfl,f⟩
    go_wp2_with fail
    go_roundw
    case rel=>exact⟨k+1,by omega,by go_num,j,e.trans f⟩
    case measure=>simp[intOf];omega
   ·rw[g]at m
    have j:Hid (l.any p=true):=aQ t g
    clear g
    go_wp2_with fail
    refine m.mono ?_
    rintro _ I ⟨rfl,f⟩
    go_wp2_with fail
    go_ret
    exact⟨⟨k,⟨by omega,by omega⟩,rfl,by rw[j.out];simp⟩,e.trans f⟩
  ·obtain rfl:k=n:=by omega
   have j:Hid (l.any p=false):=cn B h
   clear q
   go_wp2_with fail
   go_ret
   exact⟨⟨-1,⟨by omega,by omega⟩,rfl,by rw[j.out];rfl⟩,e⟩
theorem cop_ord (F:FuncId) (j:Ent F) (P:Value) (p:Ord'→Bool) (l:List Ord') (A:Option Addr) (n c:Nat) (w:World) (g:l.length=n) (m:n≤9223372036854775807) (f:dZ w A l)
  (h:∀x∈l,∀(W:World),Ext w W→I64 x.it→Calls Tryz.prog F #[.agg #[.int .i64 x.it,.bool x.ds],P] W fun r i=>r= .returned (.bool (p x))∧Ext W i):
  Calls Tryz.prog 251 #[.slice A n c,.func (Fn.func F) #[] #[P]] w fun r w'=>r= .returned (.bool (l.any p))∧Ext w w':=by
 have k:=hid (ixp_ord F j P p l A n c w g m f h)
 clear g f h
 go_enter Tryz.func251,Tryz.ntmps251
 go_wp2_with (go_at_call 273;refine k.mono ?_;rintro _ q ⟨⟨x,o,rfl,a⟩,b⟩;have e:=hid a;clear a)
 go_ret
 exact⟨ab e,b⟩
theorem ixp_ex (F:FuncId) (O:Ent F) (P:Value) (p:Ex→Bool) (l:List Ex) (A:Option Addr) (n c:Nat) (w:World) (B:l.length=n) (hn:n≤9223372036854775807) (D:KidsAt w A l)
  (C:∀x∈l,∀(W:World),Ext w W→∀(o:Option Addr) (q t:Nat),ExV W x o q t→Calls Tryz.prog F #[x.d.val o q t,P] W fun r J=>r= .returned (.bool (p x))∧Ext W J):
  Calls Tryz.prog 179 #[.slice A n c,.func (Fn.func F) #[] #[P]] w fun r w'=>ew (l.any p) r∧Ext w w':=by
 unfold Ent at O
 have E:=hid B
 have H:=hid D
 have R:=hid C
 clear B D C
 go_enter Tryz.func179,Tryz.ntmps179
 go_wp2_with fail
 go_loopw [5,8] (fun _ L wr=> ∃(k:Nat),k≤n∧L= .int .i64 k∧(l.take k).any p=false∧Ext w wr) (fun _ i _=>n- (intOf i).toNat)
 case atStart=>exact⟨0,Nat.zero_le _,rfl,rfl,Ext.refl w⟩
 case round=>
  obtain⟨k,G,rfl,u,a⟩:=hrel
  have e:=hid a
  have j:=hid u
  by_cases y:k<n
  ·obtain⟨x,s⟩:=aI E y
   obtain⟨b,I,o,q,t,rfl,q0,q1,X,V,U,q5,Y,Z,Q⟩:=(H.ext a).get s
   have g:=hid (R x (List.mem_of_getElem? s) _ a o q t Q)
   have z:=hid s
   clear s a u
   cases h:p x
   ·rw[h]at g
    have m:Hid ((l.take (k+1)).any p=false):=aN z j h
    clear h
    unfold Nd.val at g
    go_wp2_with fail
    refine g.mono ?_
    rintro _ K ⟨rfl,f⟩
    go_wp2_with fail
    go_roundw
    case rel=>exact⟨k+1,by omega,by go_num,m,e.trans f⟩
    case measure=>simp[intOf];omega
   ·rw[h]at g
    have m:Hid (l.any p=true):=aQ z h
    clear h
    unfold Nd.val at g
    go_wp2_with fail
    refine g.mono ?_
    rintro _ K ⟨rfl,f⟩
    go_wp2_with fail
    go_ret
    exact⟨⟨k,⟨by omega,by omega⟩,rfl,by rw[m.out];simp⟩,e.trans f⟩
  ·obtain rfl:k=n:=by omega
   have m:Hid (l.any p=false):=cn E j
   clear u
   go_wp2_with fail
   go_ret
   exact⟨⟨-1,⟨by omega,by omega⟩,rfl,by rw[m.out];rfl⟩,e⟩
theorem cop_ex (F:FuncId) (o:Ent F) (P:Value) (p:Ex→Bool) (l:List Ex) (A:Option Addr) (n c:Nat) (w:World) (i:l.length=n) (s:n≤9223372036854775807) (h:KidsAt w A l)
  (j:∀x∈l,∀(W:World),Ext w W→∀(k:Option Addr) (g f:Nat),ExV W x k g f→Calls Tryz.prog F #[x.d.val k g f,P] W fun r m=>r= .returned (.bool (p x))∧Ext W m):
  Calls Tryz.prog 111 #[.slice A n c,.func (Fn.func F) #[] #[P]] w fun r w'=>r= .returned (.bool (l.any p))∧Ext w w':=by
 have q:=hid (ixp_ex F o P p l A n c w i s h j)
 clear i h j
 go_enter Tryz.func111,Tryz.ntmps111
 go_wp2_with (go_at_call 179;refine q.mono ?_;rintro _ u ⟨⟨x,t,rfl,a⟩,b⟩;have e:=hid a;clear a)
 go_ret
 exact⟨ab e,b⟩
theorem fx {α:Type} {l:List α} {i:Nat} {e:α} (h:l[i]? =some e):l.take (i+1)=l.take i++ [e]:=by
 obtain⟨hi,rfl⟩:=List.getElem?_eq_some_iff.1 h
 rw[List.take_succ_eq_append_getElem hi]
theorem bg (w:World) (v:Value) (e:TypeId):Reads (w.alloc (.cells #[v] e)) (w.heap.size+1) 1 (some ⟨w.heap.size,0,none⟩) 1 [v]:=
 ⟨by simp,fun _=>⟨_,rfl,Nat.lt_succ_self _,news_at w #[v] e w.heap.size rfl⟩⟩
theorem ca {w:World} {B e a n:Nat} {v:Value} {f:List Value} (h:w.ownsRow B e a v n f):∀q,v.ownBlock=some q→B≤q:=fun q b=> (h.lt q b).1
theorem dr:(Tryz.prog.info? 9).map (fun i=> (i.zero,i.size,i.bytes))=some (some (.string ⟨#[]⟩),1,16):=by kernel_rfl
def cQ (l:List ByteArray):List Value:=l.map Value.string
theorem strV_get {l:List ByteArray} {i:Nat} {s:ByteArray} (h:l[i]? =some s):(cQ l)[i]? =some (.string s):=by unfold cQ;rw[List.getElem?_map,h];rfl
theorem own_strs {w:World} {B n:Nat} {v:Value} {l:List ByteArray} (h:w.ownsRow B 9 1 v n (cQ l)) (b:∀s∈l,s.size≤9223372036854775807):∃A c,v= .slice A n c∧aO w A l∧l.length=n:=by
 have a:l.length=n:=by have:=h.1;simpa[cQ] using this
 rcases h.2 with ⟨rfl,hx⟩|⟨g,cap,cur,rfl,hb,hg,hrest⟩
 ·refine⟨none,0,?_,?_,a⟩
  ·have:l= []:=List.eq_nil_of_length_eq_zero (by simpa[a] using hx)
   subst this;subst a;rfl
  ·intro i s hs
   have:l= []:=List.eq_nil_of_length_eq_zero (by simpa[a] using hx)
   subst this;cases hs
 ·refine⟨_,_,rfl,fun i s hs=>⟨b s (List.mem_of_getElem? hs),g,0,rfl,?_⟩,a⟩
  have hi:i<l.length:=(List.getElem?_eq_some_iff.1 hs).1
  have:=h.cellAt i (by omega)
  rw[Nat.zero_add,this,strV_get hs]
theorem com_list:comS.data.toList= [44,32]:=rfl
theorem cma_join (x:ByteArray) (l:List ByteArray):(⟨(Lib.join ((x::l).map (·.data.toList)) comS.data.toList).toArray⟩:ByteArray)=cma (x::l):=by
 have h:=join_tail l x
 apply t_inj
 show _=(l.foldl _ x).data.toList
 rw[h,com_list]
 show Lib.join (x.data.toList::l.map (·.data.toList)) [44,32]=_
 rw[Lib.join_cons]
theorem iT (l:List ByteArray) (A:Option Addr) (n c:Nat) (w:World) (m:l.length=n) (u:n≤c) (k:aO w A l) (z:bL l≤1000000000):
  Calls Tryz.prog 203 #[.slice A n c,.string ⟨#[44,32]⟩] w fun r w'=>r= .returned (.string (cma l))∧Ext w w':=by
 cases l with
 |nil=>
  subst m
  exact(Tryz.strings_Join_none A c ⟨#[44,32]⟩ w).mono fun r w' ⟨e,h⟩=>⟨e,h ▸ Ext.refl w⟩
 |cons x l=>
  obtain⟨_,b,f,rfl,s⟩:=k 0 x rfl
  have a:∀(j:Nat) y,(x::l)[j]? =some y→w.cell? ⟨b,f+j,none⟩=some (.string y):=fun j y q=>by
   obtain⟨_,B,i,p,e⟩:=k j y q
   simp only[Option.some.injEq,Addr.mk.injEq,and_true]at p
   obtain⟨rfl,rfl⟩:=p
   exact e
  have hs:=sumS_len (x::l)
  have o:=cma_join x l
  have t:=a8 (x::l)
  have g:(Lib.join ((x::l).map (·.data.toList)) comS.data.toList).length=(cma (x::l)).size:=by
   rw[←o];show _=((Lib.join _ _).toArray).size;simp
  subst m
  refine(Tryz.strings_Join b f c (x::l) comS w a (fT s) (by omega) u (by rw[g];omega)).mono fun r w' ⟨e,h⟩=>⟨?_,h⟩
  rw[e,o]
theorem own_cap {w:World} {B e a n:Nat} {A:Option Addr} {m c:Nat} {b:List Value} (h:w.ownsRow B e a (.slice A m c) n b):n≤c:=by
 rcases h.2 with ⟨h1,hx⟩|⟨g,cap,cur,h1,hb,hg,hrest⟩
 ·simp only[Value.slice.injEq]at h1;omega
 ·simp only[Value.slice.injEq]at h1;obtain⟨_,_,rfl⟩:=h1;exact hrest.1
theorem dt (l:List ByteArray) (v:Value) (B n:Nat) (w:World) (h:w.ownsRow B 9 1 v n (cQ l)) (e:bL l≤1000000000):
  Calls Tryz.prog 203 #[v,.string ⟨#[44,32]⟩] w fun r w'=>r= .returned (.string (cma l))∧Ext w w':=by
 obtain⟨A,c,rfl,a,b⟩:=own_strs h fun s hs=>by have:=jI hs;omega
 exact iT l A n c w b (own_cap h) a e
theorem ls_ex (F:FuncId) (hE:Ent F) (p:Ex→ByteArray) (l:List Ex) (A:Option Addr) (n c:Nat) (w:World) (Q:l.length=n) (hn:n≤100000000) (V:KidsAt w A l) (U:bL (l.map p)≤1000000000)
  (R:∀x∈l,∀(W:World),Ext w W→∀(t:Option Addr) (u z:Nat),ExV W x t u z→Calls Tryz.prog F #[x.d.val t u z] W fun r W'=>r= .returned (.string (p x))∧Ext W W'):
  Calls Tryz.prog 204 #[.slice A n c,.func (Fn.func F) #[] #[]] w fun r w'=>r= .returned (.string (cma (l.map p)))∧Ext w w':=by
 unfold Ent at hE
 obtain⟨i0,hi,E,H,D⟩:=info_parts dr
 have X:=hid Q
 have HK:=hid V
 have HF:=hid R
 have HZ:=hid U
 clear Q V R U
 go_enter Tryz.func204,Tryz.ntmps204
 go_wp2_with fail
 go_loopw [5,10] (fun nv iv wr=> ∃(k:Nat),k≤n∧iv= .int .i64 k∧wr.ownsRow w.heap.size 9 1 nv k (cQ ((l.take k).map p))∧Ext w wr) (fun _ i _=>n- (intOf i).toNat)
 case atStart=>exact⟨0,Nat.zero_le _,rfl,World.ownsRow_nil _ _ _ _,Ext.refl w⟩
 case round=>
  obtain⟨k,Y,rfl,h,e⟩:=hrel
  have s:=hid h
  have o:=hid e
  clear h
  by_cases K:k<n
  ·obtain⟨x,y⟩:=aI X K
   obtain⟨b,ac,t,u,z,rfl,q0,q1,q2,q3,q4,q5,q6,q7,h1⟩:=(HK.ext e).get y
   have P:=hid (fun W (O:Ext wr W)=>HF x (List.mem_of_getElem? y) W (e.trans O) t u z (h1.ext O))
   have HT:Hid ((l.take (k+1)).map p=(l.take k).map p++ [p x]):=by unfold Hid;rw[fx y,List.map_append];rfl
   clear y e
   unfold Nd.val at P
   go_wp2_with fail
   refine(P _ ((Ext.refl wr).alloc _)).mono ?_
   rintro _ C ⟨rfl,f⟩
   have j:Hid (Ext wr C):=((Ext.refl wr).alloc _).trans f
   clear f
   have I:=hid ((ownN_ext s j).alloc (.cells #[.string (p x)] 9))
   have L:=hid (bg C (.string (p x)) 9)
   go_wp2_with (at_builtin;refine ap _ rfl (.tmp 14) (.tmp 18) 101 rfl w.heap.size 9 i0 _ 1 16 Tryz.underlying101 hi E H D rfl (by decide) _ k _ rfl I _ _ 1 1 [.string (p x)] rfl L (by simp[Value.oneCell']) (by unfold maxLen;omega) (by omega) (Nat.le_trans (o.trans j).size (by simp)) ?_;intro v1 w5 a g m;have J:=hid a;have G:=hid g;clear a g m)
   go_roundw
   case rel=>
    have B:=ca s
    refine⟨k+1,by omega,by go_num,?_,(((o.trans j).alloc _)).grown G fun q hq=>B q hq⟩
    rw[HT.out]
    unfold cQ
    rw[List.map_append]
    exact J
   case measure=>simp[intOf];omega
  ·obtain rfl:k=n:=by omega
   rw[List.take_of_length_le (Nat.le_of_eq X)]at s
   have Z:=hid (dt (l.map p) _ _ _ wr s HZ)
   go_wp2_with (go_at_call 203;refine Z.mono ?_;rintro _ C ⟨rfl,f⟩)
   go_ret
   exact⟨rfl,o.trans f⟩
theorem ls_row (F:FuncId) (hE:Ent F) (p:(List Ex)→ByteArray) (l:List (List Ex)) (A:Option Addr) (n c:Nat) (w:World) (P:l.length=n) (hn:n≤100000000) (U:cV w A l) (R:bL (l.map p)≤1000000000)
  (Q:∀x∈l,∀(W:World),Ext w W→∀(t:Option Addr) (u E:Nat),(x.length=u∧KidsAt W t x)→Calls Tryz.prog F #[.slice t u E] W fun r W'=>r= .returned (.string (p x))∧Ext W W'):
  Calls Tryz.prog 126 #[.slice A n c,.func (Fn.func F) #[] #[]] w fun r w'=>r= .returned (.string (cma (l.map p)))∧Ext w w':=by
 unfold Ent at hE
 obtain⟨Z,hi,D,H,C⟩:=info_parts dr
 have V:=hid P
 have HK:=hid U
 have HF:=hid Q
 have HZ:=hid R
 clear P U Q R
 go_enter Tryz.func126,Tryz.ntmps126
 go_wp2_with fail
 go_loopw [5,10] (fun nv iv wr=> ∃(k:Nat),k≤n∧iv= .int .i64 k∧wr.ownsRow w.heap.size 9 1 nv k (cQ ((l.take k).map p))∧Ext w wr) (fun _ i _=>n- (intOf i).toNat)
 case atStart=>exact⟨0,Nat.zero_le _,rfl,World.ownsRow_nil _ _ _ _,Ext.refl w⟩
 case round=>
  obtain⟨k,X,rfl,h,e⟩:=hrel
  have s:=hid h
  have o:=hid e
  clear h
  by_cases K:k<n
  ·obtain⟨x,y⟩:=aI V K
   obtain⟨b,ac,t,u,E,rfl,q0,h1,h2⟩:=(HK.ext e) k x y
   have HC:=hid (fun W (O:Ext wr W)=>HF x (List.mem_of_getElem? y) W (e.trans O) t u E ⟨h1,h2.ext O⟩)
   have HT:Hid ((l.take (k+1)).map p=(l.take k).map p++ [p x]):=by unfold Hid;rw[fx y,List.map_append];rfl
   clear y e
   go_wp2_with fail
   refine(HC _ (Ext.refl wr)).mono ?_
   rintro _ B ⟨rfl,f⟩
   have j:Hid (Ext wr B):=f
   clear f
   have I:=hid ((ownN_ext s j).alloc (.cells #[.string (p x)] 9))
   have L:=hid (bg B (.string (p x)) 9)
   go_wp2_with (at_builtin;refine ap _ rfl (.tmp 14) (.tmp 18) 101 rfl w.heap.size 9 Z _ 1 16 Tryz.underlying101 hi D H C rfl (by decide) _ k _ rfl I _ _ 1 1 [.string (p x)] rfl L (by simp[Value.oneCell']) (by unfold maxLen;omega) (by omega) (Nat.le_trans (o.trans j).size (by simp)) ?_;intro v1 w5 a g m;have J:=hid a;have G:=hid g;clear a g m)
   go_roundw
   case rel=>
    have z:=ca s
    refine⟨k+1,by omega,by go_num,?_,(((o.trans j).alloc _)).grown G fun q hq=>z q hq⟩
    rw[HT.out]
    unfold cQ
    rw[List.map_append]
    exact J
   case measure=>simp[intOf];omega
  ·obtain rfl:k=n:=by omega
   rw[List.take_of_length_le (Nat.le_of_eq V)]at s
   have Y:=hid (dt (l.map p) _ _ _ wr s HZ)
   go_wp2_with (go_at_call 203;refine Y.mono ?_;rintro _ B ⟨rfl,f⟩)
   go_ret
   exact⟨rfl,o.trans f⟩
theorem ls_asg (F:FuncId) (hE:Ent F) (p:Asg→ByteArray) (l:List Asg) (A:Option Addr) (n c:Nat) (w:World) (P:l.length=n) (hn:n≤100000000) (U:dF w A l) (R:bL (l.map p)≤1000000000)
  (Q:∀x∈l,∀(W:World),Ext w W→∀(t:Option Addr) (u z:Nat),ExV W x.ex t u z→Calls Tryz.prog F #[.agg #[.string x.cl,.int .i64 x.ix,.int .i64 x.ex.d.op,.string x.ex.d.tb,.string x.ex.d.nm,.int .i64 x.ex.d.ix,.int .i64 x.ex.d.vk,.int .i64 x.ex.d.vi,.string x.ex.d.vt,.slice t u z]] W fun r W'=>r= .returned (.string (p x))∧Ext W W'):
  Calls Tryz.prog 129 #[.slice A n c,.func (Fn.func F) #[] #[]] w fun r w'=>r= .returned (.string (cma (l.map p)))∧Ext w w':=by
 unfold Ent at hE
 obtain⟨Z,hi,E,H,D⟩:=info_parts dr
 have V:=hid P
 have HK:=hid U
 have HF:=hid Q
 have HZ:=hid R
 clear P U Q R
 go_enter Tryz.func129,Tryz.ntmps129
 go_wp2_with fail
 go_loopw [5,10] (fun nv iv wr=> ∃(k:Nat),k≤n∧iv= .int .i64 k∧wr.ownsRow w.heap.size 9 1 nv k (cQ ((l.take k).map p))∧Ext w wr) (fun _ i _=>n- (intOf i).toNat)
 case atStart=>exact⟨0,Nat.zero_le _,rfl,World.ownsRow_nil _ _ _ _,Ext.refl w⟩
 case round=>
  obtain⟨k,X,rfl,h,e⟩:=hrel
  have s:=hid h
  have o:=hid e
  clear h
  by_cases K:k<n
  ·obtain⟨x,y⟩:=aI V K
   obtain⟨b,ac,t,u,z,rfl,q0,q1,q2,q3,q4,q5,q6,q7,q8,q9,h1⟩:=gp (HK.ext e) y
   have HC:=hid (fun W (O:Ext wr W)=>HF x (List.mem_of_getElem? y) W (e.trans O) t u z (h1.ext O))
   have HT:Hid ((l.take (k+1)).map p=(l.take k).map p++ [p x]):=by unfold Hid;rw[fx y,List.map_append];rfl
   clear y e
   go_wp2_with fail
   refine(HC _ ((Ext.refl wr).alloc _)).mono ?_
   rintro _ C ⟨rfl,f⟩
   have j:Hid (Ext wr C):=((Ext.refl wr).alloc _).trans f
   clear f
   have I:=hid ((ownN_ext s j).alloc (.cells #[.string (p x)] 9))
   have L:=hid (bg C (.string (p x)) 9)
   go_wp2_with (at_builtin;refine ap _ rfl (.tmp 14) (.tmp 18) 101 rfl w.heap.size 9 Z _ 1 16 Tryz.underlying101 hi E H D rfl (by decide) _ k _ rfl I _ _ 1 1 [.string (p x)] rfl L (by simp[Value.oneCell']) (by unfold maxLen;omega) (by omega) (Nat.le_trans (o.trans j).size (by simp)) ?_;intro v1 w5 a g m;have J:=hid a;have G:=hid g;clear a g m)
   go_roundw
   case rel=>
    have B:=ca s
    refine⟨k+1,by omega,by go_num,?_,(((o.trans j).alloc _)).grown G fun q hq=>B q hq⟩
    rw[HT.out]
    unfold cQ
    rw[List.map_append]
    exact J
   case measure=>simp[intOf];omega
  ·obtain rfl:k=n:=by omega
   rw[List.take_of_length_le (Nat.le_of_eq V)]at s
   have Y:=hid (dt (l.map p) _ _ _ wr s HZ)
   go_wp2_with (go_at_call 203;refine Y.mono ?_;rintro _ C ⟨rfl,f⟩)
   go_ret
   exact⟨rfl,o.trans f⟩
theorem ls_itm (F:FuncId) (hE:Ent F) (p:Itm→ByteArray) (l:List Itm) (A:Option Addr) (n c:Nat) (w:World) (P:l.length=n) (hn:n≤100000000) (U:dG w A l) (R:bL (l.map p)≤1000000000)
  (Q:∀x∈l,∀(W:World),Ext w W→∀(t:Option Addr) (u z:Nat),ExV W x.ex t u z→Calls Tryz.prog F #[.agg #[.int .i64 x.ag,.int .i64 x.ex.d.op,.string x.ex.d.tb,.string x.ex.d.nm,.int .i64 x.ex.d.ix,.int .i64 x.ex.d.vk,.int .i64 x.ex.d.vi,.string x.ex.d.vt,.slice t u z]] W fun r W'=>r= .returned (.string (p x))∧Ext W W'):
  Calls Tryz.prog 208 #[.slice A n c,.func (Fn.func F) #[] #[]] w fun r w'=>r= .returned (.string (cma (l.map p)))∧Ext w w':=by
 unfold Ent at hE
 obtain⟨Z,hi,E,H,D⟩:=info_parts dr
 have V:=hid P
 have HK:=hid U
 have HF:=hid Q
 have HZ:=hid R
 clear P U Q R
 go_enter Tryz.func208,Tryz.ntmps208
 go_wp2_with fail
 go_loopw [5,10] (fun nv iv wr=> ∃(k:Nat),k≤n∧iv= .int .i64 k∧wr.ownsRow w.heap.size 9 1 nv k (cQ ((l.take k).map p))∧Ext w wr) (fun _ i _=>n- (intOf i).toNat)
 case atStart=>exact⟨0,Nat.zero_le _,rfl,World.ownsRow_nil _ _ _ _,Ext.refl w⟩
 case round=>
  obtain⟨k,X,rfl,h,e⟩:=hrel
  have s:=hid h
  have o:=hid e
  clear h
  by_cases K:k<n
  ·obtain⟨x,y⟩:=aI V K
   obtain⟨b,ac,t,u,z,rfl,q0,q1,q2,q3,q4,q5,q6,q7,q8,h1⟩:=gq (HK.ext e) y
   have HC:=hid (fun W (O:Ext wr W)=>HF x (List.mem_of_getElem? y) W (e.trans O) t u z (h1.ext O))
   have HT:Hid ((l.take (k+1)).map p=(l.take k).map p++ [p x]):=by unfold Hid;rw[fx y,List.map_append];rfl
   clear y e
   go_wp2_with fail
   refine(HC _ ((Ext.refl wr).alloc _)).mono ?_
   rintro _ C ⟨rfl,f⟩
   have j:Hid (Ext wr C):=((Ext.refl wr).alloc _).trans f
   clear f
   have I:=hid ((ownN_ext s j).alloc (.cells #[.string (p x)] 9))
   have L:=hid (bg C (.string (p x)) 9)
   go_wp2_with (at_builtin;refine ap _ rfl (.tmp 14) (.tmp 18) 101 rfl w.heap.size 9 Z _ 1 16 Tryz.underlying101 hi E H D rfl (by decide) _ k _ rfl I _ _ 1 1 [.string (p x)] rfl L (by simp[Value.oneCell']) (by unfold maxLen;omega) (by omega) (Nat.le_trans (o.trans j).size (by simp)) ?_;intro v1 w5 a g m;have J:=hid a;have G:=hid g;clear a g m)
   go_roundw
   case rel=>
    have B:=ca s
    refine⟨k+1,by omega,by go_num,?_,(((o.trans j).alloc _)).grown G fun q hq=>B q hq⟩
    rw[HT.out]
    unfold cQ
    rw[List.map_append]
    exact J
   case measure=>simp[intOf];omega
  ·obtain rfl:k=n:=by omega
   rw[List.take_of_length_le (Nat.le_of_eq V)]at s
   have Y:=hid (dt (l.map p) _ _ _ wr s HZ)
   go_wp2_with (go_at_call 203;refine Y.mono ?_;rintro _ C ⟨rfl,f⟩)
   go_ret
   exact⟨rfl,o.trans f⟩
theorem ls_src (F:FuncId) (hE:Ent F) (p:Src→ByteArray) (l:List Src) (A:Option Addr) (n c:Nat) (w:World) (J:l.length=n) (hn:n≤100000000) (O:dY w A l) (L:bL (l.map p)≤1000000000)
  (K:∀x∈l,∀(W:World),Ext w W→(x.tb.size≤9223372036854775807∧x.al.size≤9223372036854775807)→Calls Tryz.prog F #[.agg #[.string x.tb,.string x.al]] W fun r W'=>r= .returned (.string (p x))∧Ext W W'):
  Calls Tryz.prog 211 #[.slice A n c,.func (Fn.func F) #[] #[]] w fun r w'=>r= .returned (.string (cma (l.map p)))∧Ext w w':=by
 unfold Ent at hE
 obtain⟨U,hi,B,D,z⟩:=info_parts dr
 have P:=hid J
 have Y:=hid O
 have HF:=hid K
 have HZ:=hid L
 clear J O K L
 go_enter Tryz.func211,Tryz.ntmps211
 go_wp2_with fail
 go_loopw [5,10] (fun nv iv wr=> ∃(k:Nat),k≤n∧iv= .int .i64 k∧wr.ownsRow w.heap.size 9 1 nv k (cQ ((l.take k).map p))∧Ext w wr) (fun _ i _=>n- (intOf i).toNat)
 case atStart=>exact⟨0,Nat.zero_le _,rfl,World.ownsRow_nil _ _ _ _,Ext.refl w⟩
 case round=>
  obtain⟨k,Q,rfl,h,e⟩:=hrel
  have s:=hid h
  have o:=hid e
  clear h
  by_cases H:k<n
  ·obtain⟨x,t⟩:=aI P H
   obtain⟨Z,b,ac,rfl,q0,q1⟩:=(Y.ext e) k x t
   have X:=hid (fun W (V:Ext wr W)=>HF x (List.mem_of_getElem? t) W (e.trans V) Z)
   have HT:Hid ((l.take (k+1)).map p=(l.take k).map p++ [p x]):=by unfold Hid;rw[fx t,List.map_append];rfl
   clear t e
   go_wp2_with fail
   refine(X _ ((Ext.refl wr).alloc _)).mono ?_
   rintro _ y ⟨rfl,f⟩
   have j:Hid (Ext wr y):=((Ext.refl wr).alloc _).trans f
   clear f
   have E:=hid ((ownN_ext s j).alloc (.cells #[.string (p x)] 9))
   have I:=hid (bg y (.string (p x)) 9)
   go_wp2_with (at_builtin;refine ap _ rfl (.tmp 14) (.tmp 18) 101 rfl w.heap.size 9 U _ 1 16 Tryz.underlying101 hi B D z rfl (by decide) _ k _ rfl E _ _ 1 1 [.string (p x)] rfl I (by simp[Value.oneCell']) (by unfold maxLen;omega) (by omega) (Nat.le_trans (o.trans j).size (by simp)) ?_;intro v1 w5 a g m;have G:=hid a;have C:=hid g;clear a g m)
   go_roundw
   case rel=>
    have u:=ca s
    refine⟨k+1,by omega,by go_num,?_,(((o.trans j).alloc _)).grown C fun q hq=>u q hq⟩
    rw[HT.out]
    unfold cQ
    rw[List.map_append]
    exact G
   case measure=>simp[intOf];omega
  ·obtain rfl:k=n:=by omega
   rw[List.take_of_length_le (Nat.le_of_eq P)]at s
   have R:=hid (dt (l.map p) _ _ _ wr s HZ)
   go_wp2_with (go_at_call 203;refine R.mono ?_;rintro _ y ⟨rfl,f⟩)
   go_ret
   exact⟨rfl,o.trans f⟩
theorem ls_ord (F:FuncId) (hE:Ent F) (p:Ord'→ByteArray) (l:List Ord') (A:Option Addr) (n c:Nat) (w:World) (J:l.length=n) (hn:n≤100000000) (O:dZ w A l) (L:bL (l.map p)≤1000000000)
  (K:∀x∈l,∀(W:World),Ext w W→I64 x.it→Calls Tryz.prog F #[.agg #[.int .i64 x.it,.bool x.ds]] W fun r W'=>r= .returned (.string (p x))∧Ext W W'):
  Calls Tryz.prog 213 #[.slice A n c,.func (Fn.func F) #[] #[]] w fun r w'=>r= .returned (.string (cma (l.map p)))∧Ext w w':=by
 unfold Ent at hE
 obtain⟨U,hi,B,D,z⟩:=info_parts dr
 have P:=hid J
 have Y:=hid O
 have HF:=hid K
 have HZ:=hid L
 clear J O K L
 go_enter Tryz.func213,Tryz.ntmps213
 go_wp2_with fail
 go_loopw [5,10] (fun nv iv wr=> ∃(k:Nat),k≤n∧iv= .int .i64 k∧wr.ownsRow w.heap.size 9 1 nv k (cQ ((l.take k).map p))∧Ext w wr) (fun _ i _=>n- (intOf i).toNat)
 case atStart=>exact⟨0,Nat.zero_le _,rfl,World.ownsRow_nil _ _ _ _,Ext.refl w⟩
 case round=>
  obtain⟨k,Q,rfl,h,e⟩:=hrel
  have s:=hid h
  have o:=hid e
  clear h
  by_cases H:k<n
  ·obtain⟨x,t⟩:=aI P H
   obtain⟨Z,b,ac,rfl,q0,q1⟩:=(Y.ext e) k x t
   have X:=hid (fun W (V:Ext wr W)=>HF x (List.mem_of_getElem? t) W (e.trans V) Z)
   have HT:Hid ((l.take (k+1)).map p=(l.take k).map p++ [p x]):=by unfold Hid;rw[fx t,List.map_append];rfl
   clear t e
   go_wp2_with fail
   refine(X _ ((Ext.refl wr).alloc _)).mono ?_
   rintro _ y ⟨rfl,f⟩
   have j:Hid (Ext wr y):=((Ext.refl wr).alloc _).trans f
   clear f
   have E:=hid ((ownN_ext s j).alloc (.cells #[.string (p x)] 9))
   have I:=hid (bg y (.string (p x)) 9)
   go_wp2_with (at_builtin;refine ap _ rfl (.tmp 14) (.tmp 18) 101 rfl w.heap.size 9 U _ 1 16 Tryz.underlying101 hi B D z rfl (by decide) _ k _ rfl E _ _ 1 1 [.string (p x)] rfl I (by simp[Value.oneCell']) (by unfold maxLen;omega) (by omega) (Nat.le_trans (o.trans j).size (by simp)) ?_;intro v1 w5 a g m;have G:=hid a;have C:=hid g;clear a g m)
   go_roundw
   case rel=>
    have u:=ca s
    refine⟨k+1,by omega,by go_num,?_,(((o.trans j).alloc _)).grown C fun q hq=>u q hq⟩
    rw[HT.out]
    unfold cQ
    rw[List.map_append]
    exact G
   case measure=>simp[intOf];omega
  ·obtain rfl:k=n:=by omega
   rw[List.take_of_length_le (Nat.le_of_eq P)]at s
   have R:=hid (dt (l.map p) _ _ _ wr s HZ)
   go_wp2_with (go_at_call 203;refine R.mono ?_;rintro _ y ⟨rfl,f⟩)
   go_ret
   exact⟨rfl,o.trans f⟩
end Go.Proofs.YtjigcpfjhfoheaaGreatDoor
