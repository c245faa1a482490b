/- Walks: IndexFunc, ContainsFunc and wrong, for the slices of a statement; Walks: list, for the slices of a statement. -/
import Derived.Test.YtjigcpfjhfoheaaGreatDoorRaj
import Derived.Test.YtjigcpfjhfoheaaGreatDoorRaf
import Derived.Test.YtjigcpfjhfoheaaGreatDoorRba
import Derived.Test.YtjigcpfjhfoheaaGreatDoorRaa
namespace Go.Proofs.YtjigcpfjhfoheaaGreatDoor
open Go.RowKit
set_option maxHeartbeats 4000000
set_option maxRecDepth 100000
set_option linter.unusedVariables false
set_option linter.unusedSimpArgs false
theorem ix_str (F:FuncId) (H:Ent F) (p:ByteArray→Bool) (l:List ByteArray) (A:Option Addr) (n c:Nat) (w:World) (C:l.length=n) (P:n≤9223372036854775807) (B:aM w A l)
  (z:∀x∈l,∀(W:World),Ext w W→(x.size≤9223372036854775807)→Calls Tryz.prog F #[.string x] W fun r G=>r= .returned (.bool (p x))∧Ext W G):
  Calls Tryz.prog 267 #[.slice A n c,.func (Fn.func F) #[] #[]] w fun r w'=>gf (l.any p) r∧Ext w w':=by
 unfold Ent at H
 have y:=hid C
 have E:=hid B
 have D:=hid z
 clear C B z
 go_enter Tryz.func267,Tryz.ntmps267
 go_wp2_with fail
 go_loopw [5,8] (fun _ K wr=> ∃(k:Nat),k≤n∧K= .int .i64 k∧(l.take k).any p=false∧Ext w wr) (fun _ i _=>n- (intOf i).toNat)
 case atStart=>exact⟨0,Nat.zero_le _,rfl,rfl,Ext.refl w⟩
 case round=>
  obtain⟨k,J,rfl,t,a⟩:=hrel
  have e:=hid a
  have j:=hid t
  by_cases s:k<n
  ·obtain⟨x,o⟩:=aq y s
   obtain⟨I,b,L,rfl,Q⟩:=(E.ext a) k x o
   have m:=hid (D x (List.mem_of_getElem? o) _ a I)
   have u:=hid o
   clear o a t
   cases g:p x
   ·rw[g]at m
    have h:Hid ((l.take (k+1)).any p=false):=bM u j g
    clear g
    go_wp2_with fail
    refine m.mono ?_
    rintro _ O ⟨rfl,f⟩
    go_wp2_with fail
    go_roundw
    case rel=>exact⟨k+1,by omega,by go_num,h,e.trans f⟩
    case measure=>simp[intOf];omega
   ·rw[g]at m
    have h:Hid (l.any p=true):=bU u g
    clear g
    go_wp2_with fail
    refine m.mono ?_
    rintro _ O ⟨rfl,f⟩
    go_wp2_with fail
    go_ret
    exact⟨⟨k,⟨by omega,by omega⟩,rfl,by rw[h.out];simp⟩,e.trans f⟩
  ·obtain rfl:k=n:=by omega
   have h:Hid (l.any p=false):=cP y j
   clear t
   go_wp2_with fail
   go_ret
   exact⟨⟨-1,⟨by omega,by omega⟩,rfl,by rw[h.out];rfl⟩,e⟩
theorem co_str (F:FuncId) (k:Ent F) (p:ByteArray→Bool) (l:List ByteArray) (A:Option Addr) (n c:Nat) (w:World) (h:l.length=n) (m:n≤9223372036854775807) (g:aM w A l)
  (f:∀x∈l,∀(W:World),Ext w W→(x.size≤9223372036854775807)→Calls Tryz.prog F #[.string x] W fun r j=>r= .returned (.bool (p x))∧Ext W j):
  Calls Tryz.prog 237 #[.slice A n c,.func (Fn.func F) #[] #[]] w fun r w'=>r= .returned (.bool (l.any p))∧Ext w w':=by
 have i:=hid (ix_str F k p l A n c w h m g f)
 clear h g f
 go_enter Tryz.func237,Tryz.ntmps237
 go_wp2_with (go_at_call 267;refine i.mono ?_;rintro _ s ⟨⟨x,o,rfl,a⟩,e⟩;have b:=hid a;clear a)
 go_ret
 exact⟨aa b,e⟩
theorem ixp_cd (F:FuncId) (H:Ent F) (P:Value) (p:Cd→Bool) (l:List Cd) (A:Option Addr) (n c:Nat) (w:World) (C:l.length=n) (Q:n≤9223372036854775807) (B:gh w A l)
  (z:∀x∈l,∀(W:World),Ext w W→(x.nm.size≤9223372036854775807∧I64 x.ty∧I64 x.lo∧I64 x.hi∧I64 x.mx)→Calls Tryz.prog F #[.agg #[.string x.nm,.int .i64 x.ty,.int .i64 x.lo,.int .i64 x.hi,.int .i64 x.mx,.bool x.nn],P] W fun r G=>r= .returned (.bool (p x))∧Ext W G):
  Calls Tryz.prog 268 #[.slice A n c,.func (Fn.func F) #[] #[P]] w fun r w'=>gf (l.any p) r∧Ext w w':=by
 unfold Ent at H
 have y:=hid C
 have E:=hid B
 have D:=hid z
 clear C B z
 go_enter Tryz.func268,Tryz.ntmps268
 go_wp2_with fail
 go_loopw [5,8] (fun _ K wr=> ∃(k:Nat),k≤n∧K= .int .i64 k∧(l.take k).any p=false∧Ext w wr) (fun _ i _=>n- (intOf i).toNat)
 case atStart=>exact⟨0,Nat.zero_le _,rfl,rfl,Ext.refl w⟩
 case round=>
  obtain⟨k,J,rfl,t,a⟩:=hrel
  have e:=hid a
  have j:=hid t
  by_cases s:k<n
  ·obtain⟨x,o⟩:=aq y s
   obtain⟨I,b,L,rfl,R,U,V,X,Y,Z⟩:=(E.ext a) k x o
   have m:=hid (D x (List.mem_of_getElem? o) _ a I)
   have u:=hid o
   clear o a t
   cases g:p x
   ·rw[g]at m
    have h:Hid ((l.take (k+1)).any p=false):=bM u j g
    clear g
    go_wp2_with fail
    refine m.mono ?_
    rintro _ O ⟨rfl,f⟩
    go_wp2_with fail
    go_roundw
    case rel=>exact⟨k+1,by omega,by go_num,h,e.trans f⟩
    case measure=>simp[intOf];omega
   ·rw[g]at m
    have h:Hid (l.any p=true):=bU u g
    clear g
    go_wp2_with fail
    refine m.mono ?_
    rintro _ O ⟨rfl,f⟩
    go_wp2_with fail
    go_ret
    exact⟨⟨k,⟨by omega,by omega⟩,rfl,by rw[h.out];simp⟩,e.trans f⟩
  ·obtain rfl:k=n:=by omega
   have h:Hid (l.any p=false):=cP y j
   clear t
   go_wp2_with fail
   go_ret
   exact⟨⟨-1,⟨by omega,by omega⟩,rfl,by rw[h.out];rfl⟩,e⟩
theorem cop_cd (F:FuncId) (k:Ent F) (P:Value) (p:Cd→Bool) (l:List Cd) (A:Option Addr) (n c:Nat) (w:World) (h:l.length=n) (m:n≤9223372036854775807) (g:gh w A l)
  (f:∀x∈l,∀(W:World),Ext w W→(x.nm.size≤9223372036854775807∧I64 x.ty∧I64 x.lo∧I64 x.hi∧I64 x.mx)→Calls Tryz.prog F #[.agg #[.string x.nm,.int .i64 x.ty,.int .i64 x.lo,.int .i64 x.hi,.int .i64 x.mx,.bool x.nn],P] W fun r j=>r= .returned (.bool (p x))∧Ext W j):
  Calls Tryz.prog 239 #[.slice A n c,.func (Fn.func F) #[] #[P]] w fun r w'=>r= .returned (.bool (l.any p))∧Ext w w':=by
 have i:=hid (ixp_cd F k P p l A n c w h m g f)
 clear h g f
 go_enter Tryz.func239,Tryz.ntmps239
 go_wp2_with (go_at_call 268;refine i.mono ?_;rintro _ s ⟨⟨x,o,rfl,a⟩,e⟩;have b:=hid a;clear a)
 go_ret
 exact⟨aa b,e⟩
theorem ixp_key (F:FuncId) (Q:Ent F) (P:Value) (p:(List ByteArray)→Bool) (l:List (List ByteArray)) (A:Option Addr) (n c:Nat) (w:World) (G:l.length=n) (Y:n≤9223372036854775807) (E:en w A l)
  (D:∀x∈l,∀(W:World),Ext w W→∀(o:Option Addr) (m u:Nat),(x.length=m∧m≤9223372036854775807∧aM W o x)→Calls Tryz.prog F #[.slice o m u,P] W fun r J=>r= .returned (.bool (p x))∧Ext W J):
  Calls Tryz.prog 269 #[.slice A n c,.func (Fn.func F) #[] #[P]] w fun r w'=>gf (l.any p) r∧Ext w w':=by
 unfold Ent at Q
 have C:=hid G
 have I:=hid E
 have H:=hid D
 clear G E D
 go_enter Tryz.func269,Tryz.ntmps269
 go_wp2_with fail
 go_loopw [5,8] (fun _ U wr=> ∃(k:Nat),k≤n∧U= .int .i64 k∧(l.take k).any p=false∧Ext w wr) (fun _ i _=>n- (intOf i).toNat)
 case atStart=>exact⟨0,Nat.zero_le _,rfl,rfl,Ext.refl w⟩
 case round=>
  obtain⟨k,R,rfl,z,a⟩:=hrel
  have e:=hid a
  have j:=hid z
  by_cases y:k<n
  ·obtain⟨x,t⟩:=aq C y
   obtain⟨b,V,o,m,u,rfl,Z,K,L,O⟩:=(I.ext a) k x t
   have s:=hid (H x (List.mem_of_getElem? t) _ a o m u ⟨K,L,O⟩)
   have B:=hid t
   clear t a z
   cases g:p x
   ·rw[g]at s
    have h:Hid ((l.take (k+1)).any p=false):=bM B j g
    clear g
    go_wp2_with fail
    refine s.mono ?_
    rintro _ X ⟨rfl,f⟩
    go_wp2_with fail
    go_roundw
    case rel=>exact⟨k+1,by omega,by go_num,h,e.trans f⟩
    case measure=>simp[intOf];omega
   ·rw[g]at s
    have h:Hid (l.any p=true):=bU B g
    clear g
    go_wp2_with fail
    refine s.mono ?_
    rintro _ X ⟨rfl,f⟩
    go_wp2_with fail
    go_ret
    exact⟨⟨k,⟨by omega,by omega⟩,rfl,by rw[h.out];simp⟩,e.trans f⟩
  ·obtain rfl:k=n:=by omega
   have h:Hid (l.any p=false):=cP C j
   clear z
   go_wp2_with fail
   go_ret
   exact⟨⟨-1,⟨by omega,by omega⟩,rfl,by rw[h.out];rfl⟩,e⟩
theorem cop_key (F:FuncId) (s:Ent F) (P:Value) (p:(List ByteArray)→Bool) (l:List (List ByteArray)) (A:Option Addr) (n c:Nat) (w:World) (j:l.length=n) (t:n≤9223372036854775807) (i:en w A l)
  (h:∀x∈l,∀(W:World),Ext w W→∀(g:Option Addr) (f o:Nat),(x.length=f∧f≤9223372036854775807∧aM W g x)→Calls Tryz.prog F #[.slice g f o,P] W fun r m=>r= .returned (.bool (p x))∧Ext W m):
  Calls Tryz.prog 241 #[.slice A n c,.func (Fn.func F) #[] #[P]] w fun r w'=>r= .returned (.bool (l.any p))∧Ext w w':=by
 have k:=hid (ixp_key F s P p l A n c w j t i h)
 clear j i h
 go_enter Tryz.func241,Tryz.ntmps241
 go_wp2_with (go_at_call 269;refine k.mono ?_;rintro _ y ⟨⟨x,u,rfl,a⟩,e⟩;have b:=hid a;clear a)
 go_ret
 exact⟨aa b,e⟩
theorem ixp_rf (F:FuncId) (Y:Ent F) (P:Value) (p:Rf→Bool) (l:List Rf) (A:Option Addr) (n c:Nat) (w:World) (H:l.length=n) (hn:n≤9223372036854775807) (G:gi w A l)
  (E:∀x∈l,∀(W:World),Ext w W→∀(s:Option Addr) (m c1:Nat) (t:Option Addr) (o c2:Nat),(x.tb.size≤9223372036854775807∧x.cs.length=m∧m≤9223372036854775807∧aM W s x.cs∧x.tg.length=o∧o≤9223372036854775807∧aM W t x.tg)→Calls Tryz.prog F #[.agg #[.slice s m c1,.string x.tb,.slice t o c2],P] W fun r K=>r= .returned (.bool (p x))∧Ext W K):
  Calls Tryz.prog 270 #[.slice A n c,.func (Fn.func F) #[] #[P]] w fun r w'=>gf (l.any p) r∧Ext w w':=by
 unfold Ent at Y
 have D:=hid H
 have J:=hid G
 have I:=hid E
 clear H G E
 go_enter Tryz.func270,Tryz.ntmps270
 go_wp2_with fail
 go_loopw [5,8] (fun _ iv wr=> ∃(k:Nat),k≤n∧iv= .int .i64 k∧(l.take k).any p=false∧Ext w wr) (fun _ i _=>n- (intOf i).toNat)
 case atStart=>exact⟨0,Nat.zero_le _,rfl,rfl,Ext.refl w⟩
 case round=>
  obtain⟨k,Z,rfl,B,a⟩:=hrel
  have e:=hid a
  have j:=hid B
  by_cases z:k<n
  ·obtain⟨x,y⟩:=aq D z
   obtain⟨L,b,ac,s,m,c1,t,o,c2,rfl,q0,q1,q2,O,Q,R,U,V,X⟩:=(J.ext a) k x y
   have u:=hid (I x (List.mem_of_getElem? y) _ a s m c1 t o c2 ⟨L,O,Q,R,U,V,X⟩)
   have C:=hid y
   clear y a B
   cases g:p x
   ·rw[g]at u
    have h:Hid ((l.take (k+1)).any p=false):=bM C j g
    clear g
    go_wp2_with fail
    refine u.mono ?_
    rintro _ w2 ⟨rfl,f⟩
    go_wp2_with fail
    go_roundw
    case rel=>exact⟨k+1,by omega,by go_num,h,e.trans f⟩
    case measure=>simp[intOf];omega
   ·rw[g]at u
    have h:Hid (l.any p=true):=bU C g
    clear g
    go_wp2_with fail
    refine u.mono ?_
    rintro _ w2 ⟨rfl,f⟩
    go_wp2_with fail
    go_ret
    exact⟨⟨k,⟨by omega,by omega⟩,rfl,by rw[h.out];simp⟩,e.trans f⟩
  ·obtain rfl:k=n:=by omega
   have h:Hid (l.any p=false):=cP D j
   clear B
   go_wp2_with fail
   go_ret
   exact⟨⟨-1,⟨by omega,by omega⟩,rfl,by rw[h.out];rfl⟩,e⟩
theorem cop_rf (F:FuncId) (t:Ent F) (P:Value) (p:Rf→Bool) (l:List Rf) (A:Option Addr) (n c:Nat) (w:World) (m:l.length=n) (u:n≤9223372036854775807) (k:gi w A l)
  (j:∀x∈l,∀(W:World),Ext w W→∀(h:Option Addr) (f c1:Nat) (i:Option Addr) (g c2:Nat),(x.tb.size≤9223372036854775807∧x.cs.length=f∧f≤9223372036854775807∧aM W h x.cs∧x.tg.length=g∧g≤9223372036854775807∧aM W i x.tg)→Calls Tryz.prog F #[.agg #[.slice h f c1,.string x.tb,.slice i g c2],P] W fun r s=>r= .returned (.bool (p x))∧Ext W s):
  Calls Tryz.prog 243 #[.slice A n c,.func (Fn.func F) #[] #[P]] w fun r w'=>r= .returned (.bool (l.any p))∧Ext w w':=by
 have o:=hid (ixp_rf F t P p l A n c w m u k j)
 clear m k j
 go_enter Tryz.func243,Tryz.ntmps243
 go_wp2_with (go_at_call 270;refine o.mono ?_;rintro _ z ⟨⟨x,y,rfl,a⟩,e⟩;have b:=hid a;clear a)
 go_ret
 exact⟨aa b,e⟩
theorem ixp_row (F:FuncId) (O:Ent F) (P:Value) (p:(List Ex)→Bool) (l:List (List Ex)) (A:Option Addr) (n c:Nat) (w:World) (G:l.length=n) (X:n≤9223372036854775807) (E:dh w A l)
  (D:∀x∈l,∀(W:World),Ext w W→∀(m:Option Addr) (t u:Nat),(x.length=t∧KidsAt W m x)→Calls Tryz.prog F #[.slice m t u,P] W fun r J=>r= .returned (.bool (p x))∧Ext W J):
  Calls Tryz.prog 245 #[.slice A n c,.func (Fn.func F) #[] #[P]] w fun r w'=>gf (l.any p) r∧Ext w w':=by
 unfold Ent at O
 have C:=hid G
 have I:=hid E
 have H:=hid D
 clear G E D
 go_enter Tryz.func245,Tryz.ntmps245
 go_wp2_with fail
 go_loopw [5,8] (fun _ R wr=> ∃(k:Nat),k≤n∧R= .int .i64 k∧(l.take k).any p=false∧Ext w wr) (fun _ i _=>n- (intOf i).toNat)
 case atStart=>exact⟨0,Nat.zero_le _,rfl,rfl,Ext.refl w⟩
 case round=>
  obtain⟨k,Q,rfl,z,a⟩:=hrel
  have e:=hid a
  have j:=hid z
  by_cases y:k<n
  ·obtain⟨x,s⟩:=aq C y
   obtain⟨b,U,m,t,u,rfl,Y,K,L⟩:=(I.ext a) k x s
   have o:=hid (H x (List.mem_of_getElem? s) _ a m t u ⟨K,L⟩)
   have B:=hid s
   clear s a z
   cases g:p x
   ·rw[g]at o
    have h:Hid ((l.take (k+1)).any p=false):=bM B j g
    clear g
    go_wp2_with fail
    refine o.mono ?_
    rintro _ V ⟨rfl,f⟩
    go_wp2_with fail
    go_roundw
    case rel=>exact⟨k+1,by omega,by go_num,h,e.trans f⟩
    case measure=>simp[intOf];omega
   ·rw[g]at o
    have h:Hid (l.any p=true):=bU B g
    clear g
    go_wp2_with fail
    refine o.mono ?_
    rintro _ V ⟨rfl,f⟩
    go_wp2_with fail
    go_ret
    exact⟨⟨k,⟨by omega,by omega⟩,rfl,by rw[h.out];simp⟩,e.trans f⟩
  ·obtain rfl:k=n:=by omega
   have h:Hid (l.any p=false):=cP C j
   clear z
   go_wp2_with fail
   go_ret
   exact⟨⟨-1,⟨by omega,by omega⟩,rfl,by rw[h.out];rfl⟩,e⟩
theorem cop_row (F:FuncId) (s:Ent F) (P:Value) (p:(List Ex)→Bool) (l:List (List Ex)) (A:Option Addr) (n c:Nat) (w:World) (i:l.length=n) (t:n≤9223372036854775807) (h:dh w A l)
  (g:∀x∈l,∀(W:World),Ext w W→∀(f:Option Addr) (j o:Nat),(x.length=j∧KidsAt W f x)→Calls Tryz.prog F #[.slice f j o,P] W fun r m=>r= .returned (.bool (p x))∧Ext W m):
  Calls Tryz.prog 189 #[.slice A n c,.func (Fn.func F) #[] #[P]] w fun r w'=>r= .returned (.bool (l.any p))∧Ext w w':=by
 have k:=hid (ixp_row F s P p l A n c w i t h g)
 clear i h g
 go_enter Tryz.func189,Tryz.ntmps189
 go_wp2_with (go_at_call 245;refine k.mono ?_;rintro _ y ⟨⟨x,u,rfl,a⟩,e⟩;have b:=hid a;clear a)
 go_ret
 exact⟨aa b,e⟩
theorem ixp_asg (F:FuncId) (L:Ent F) (P:Value) (p:Asg→Bool) (l:List Asg) (A:Option Addr) (n c:Nat) (w:World) (G:l.length=n) (V:n≤9223372036854775807) (E:dM w A l)
  (D:∀x∈l,∀(W:World),Ext w W→∀(m:Option Addr) (u s:Nat),ExV W x.ex m u s→Calls Tryz.prog F #[.agg #[.string x.cl,.int .i64 x.ix,.int .i64 x.ex.d.op,.string x.ex.d.tb,.string x.ex.d.nm,.int .i64 x.ex.d.ix,.int .i64 x.ex.d.vk,.int .i64 x.ex.d.vi,.string x.ex.d.vt,.slice m u s],P] W fun r J=>r= .returned (.bool (p x))∧Ext W J):
  Calls Tryz.prog 246 #[.slice A n c,.func (Fn.func F) #[] #[P]] w fun r w'=>gf (l.any p) r∧Ext w w':=by
 unfold Ent at L
 have C:=hid G
 have I:=hid E
 have H:=hid D
 clear G E D
 go_enter Tryz.func246,Tryz.ntmps246
 go_wp2_with fail
 go_loopw [5,8] (fun _ Q wr=> ∃(k:Nat),k≤n∧Q= .int .i64 k∧(l.take k).any p=false∧Ext w wr) (fun _ i _=>n- (intOf i).toNat)
 case atStart=>exact⟨0,Nat.zero_le _,rfl,rfl,Ext.refl w⟩
 case round=>
  obtain⟨k,O,rfl,z,a⟩:=hrel
  have e:=hid a
  have j:=hid z
  by_cases y:k<n
  ·obtain⟨x,t⟩:=aq C y
   obtain⟨b,R,m,u,s,rfl,X,Y,Z,q3,q4,q5,q6,q7,q8,q9,K⟩:=eL (I.ext a) t
   have o:=hid (H x (List.mem_of_getElem? t) _ a m u s K)
   have B:=hid t
   clear t a z
   cases g:p x
   ·rw[g]at o
    have h:Hid ((l.take (k+1)).any p=false):=bM B j g
    clear g
    go_wp2_with fail
    refine o.mono ?_
    rintro _ U ⟨rfl,f⟩
    go_wp2_with fail
    go_roundw
    case rel=>exact⟨k+1,by omega,by go_num,h,e.trans f⟩
    case measure=>simp[intOf];omega
   ·rw[g]at o
    have h:Hid (l.any p=true):=bU B g
    clear g
    go_wp2_with fail
    refine o.mono ?_
    rintro _ U ⟨rfl,f⟩
    go_wp2_with fail
    go_ret
    exact⟨⟨k,⟨by omega,by omega⟩,rfl,by rw[h.out];simp⟩,e.trans f⟩
  ·obtain rfl:k=n:=by omega
   have h:Hid (l.any p=false):=cP C j
   clear z
   go_wp2_with fail
   go_ret
   exact⟨⟨-1,⟨by omega,by omega⟩,rfl,by rw[h.out];rfl⟩,e⟩
theorem cop_asg (F:FuncId) (s:Ent F) (P:Value) (p:Asg→Bool) (l:List Asg) (A:Option Addr) (n c:Nat) (w:World) (j:l.length=n) (t:n≤9223372036854775807) (i:dM w A l)
  (h:∀x∈l,∀(W:World),Ext w W→∀(f:Option Addr) (k g:Nat),ExV W x.ex f k g→Calls Tryz.prog F #[.agg #[.string x.cl,.int .i64 x.ix,.int .i64 x.ex.d.op,.string x.ex.d.tb,.string x.ex.d.nm,.int .i64 x.ex.d.ix,.int .i64 x.ex.d.vk,.int .i64 x.ex.d.vi,.string x.ex.d.vt,.slice f k g],P] W fun r o=>r= .returned (.bool (p x))∧Ext W o):
  Calls Tryz.prog 192 #[.slice A n c,.func (Fn.func F) #[] #[P]] w fun r w'=>r= .returned (.bool (l.any p))∧Ext w w':=by
 have m:=hid (ixp_asg F s P p l A n c w j t i h)
 clear j i h
 go_enter Tryz.func192,Tryz.ntmps192
 go_wp2_with (go_at_call 246;refine m.mono ?_;rintro _ y ⟨⟨x,u,rfl,a⟩,e⟩;have b:=hid a;clear a)
 go_ret
 exact⟨aa b,e⟩
theorem ixp_itm (F:FuncId) (L:Ent F) (P:Value) (p:Itm→Bool) (l:List Itm) (A:Option Addr) (n c:Nat) (w:World) (G:l.length=n) (V:n≤9223372036854775807) (E:dN w A l)
  (D:∀x∈l,∀(W:World),Ext w W→∀(m:Option Addr) (u s:Nat),ExV W x.ex m u s→Calls Tryz.prog F #[.agg #[.int .i64 x.ag,.int .i64 x.ex.d.op,.string x.ex.d.tb,.string x.ex.d.nm,.int .i64 x.ex.d.ix,.int .i64 x.ex.d.vk,.int .i64 x.ex.d.vi,.string x.ex.d.vt,.slice m u s],P] W fun r J=>r= .returned (.bool (p x))∧Ext W J):
  Calls Tryz.prog 271 #[.slice A n c,.func (Fn.func F) #[] #[P]] w fun r w'=>gf (l.any p) r∧Ext w w':=by
 unfold Ent at L
 have C:=hid G
 have I:=hid E
 have H:=hid D
 clear G E D
 go_enter Tryz.func271,Tryz.ntmps271
 go_wp2_with fail
 go_loopw [5,8] (fun _ Q wr=> ∃(k:Nat),k≤n∧Q= .int .i64 k∧(l.take k).any p=false∧Ext w wr) (fun _ i _=>n- (intOf i).toNat)
 case atStart=>exact⟨0,Nat.zero_le _,rfl,rfl,Ext.refl w⟩
 case round=>
  obtain⟨k,O,rfl,z,a⟩:=hrel
  have e:=hid a
  have j:=hid z
  by_cases y:k<n
  ·obtain⟨x,t⟩:=aq C y
   obtain⟨b,R,m,u,s,rfl,X,Y,Z,q3,q4,q5,q6,q7,q8,K⟩:=eM (I.ext a) t
   have o:=hid (H x (List.mem_of_getElem? t) _ a m u s K)
   have B:=hid t
   clear t a z
   cases g:p x
   ·rw[g]at o
    have h:Hid ((l.take (k+1)).any p=false):=bM B j g
    clear g
    go_wp2_with fail
    refine o.mono ?_
    rintro _ U ⟨rfl,f⟩
    go_wp2_with fail
    go_roundw
    case rel=>exact⟨k+1,by omega,by go_num,h,e.trans f⟩
    case measure=>simp[intOf];omega
   ·rw[g]at o
    have h:Hid (l.any p=true):=bU B g
    clear g
    go_wp2_with fail
    refine o.mono ?_
    rintro _ U ⟨rfl,f⟩
    go_wp2_with fail
    go_ret
    exact⟨⟨k,⟨by omega,by omega⟩,rfl,by rw[h.out];simp⟩,e.trans f⟩
  ·obtain rfl:k=n:=by omega
   have h:Hid (l.any p=false):=cP C j
   clear z
   go_wp2_with fail
   go_ret
   exact⟨⟨-1,⟨by omega,by omega⟩,rfl,by rw[h.out];rfl⟩,e⟩
theorem cop_itm (F:FuncId) (s:Ent F) (P:Value) (p:Itm→Bool) (l:List Itm) (A:Option Addr) (n c:Nat) (w:World) (j:l.length=n) (t:n≤9223372036854775807) (i:dN w A l)
  (h:∀x∈l,∀(W:World),Ext w W→∀(f:Option Addr) (k g:Nat),ExV W x.ex f k g→Calls Tryz.prog F #[.agg #[.int .i64 x.ag,.int .i64 x.ex.d.op,.string x.ex.d.tb,.string x.ex.d.nm,.int .i64 x.ex.d.ix,.int .i64 x.ex.d.vk,.int .i64 x.ex.d.vi,.string x.ex.d.vt,.slice f k g],P] W fun r o=>r= .returned (.bool (p x))∧Ext W o):
  Calls Tryz.prog 247 #[.slice A n c,.func (Fn.func F) #[] #[P]] w fun r w'=>r= .returned (.bool (l.any p))∧Ext w w':=by
 have m:=hid (ixp_itm F s P p l A n c w j t i h)
 clear j i h
 go_enter Tryz.func247,Tryz.ntmps247
 go_wp2_with (go_at_call 271;refine m.mono ?_;rintro _ y ⟨⟨x,u,rfl,a⟩,e⟩;have b:=hid a;clear a)
 go_ret
 exact⟨aa b,e⟩
theorem ixp_src (F:FuncId) (H:Ent F) (P:Value) (p:Src→Bool) (l:List Src) (A:Option Addr) (n c:Nat) (w:World) (C:l.length=n) (Q:n≤9223372036854775807) (B:eU w A l)
  (z:∀x∈l,∀(W:World),Ext w W→(x.tb.size≤9223372036854775807∧x.al.size≤9223372036854775807)→Calls Tryz.prog F #[.agg #[.string x.tb,.string x.al],P] W fun r G=>r= .returned (.bool (p x))∧Ext W G):
  Calls Tryz.prog 272 #[.slice A n c,.func (Fn.func F) #[] #[P]] w fun r w'=>gf (l.any p) r∧Ext w w':=by
 unfold Ent at H
 have y:=hid C
 have E:=hid B
 have D:=hid z
 clear C B z
 go_enter Tryz.func272,Tryz.ntmps272
 go_wp2_with fail
 go_loopw [5,8] (fun _ K wr=> ∃(k:Nat),k≤n∧K= .int .i64 k∧(l.take k).any p=false∧Ext w wr) (fun _ i _=>n- (intOf i).toNat)
 case atStart=>exact⟨0,Nat.zero_le _,rfl,rfl,Ext.refl w⟩
 case round=>
  obtain⟨k,J,rfl,t,a⟩:=hrel
  have e:=hid a
  have j:=hid t
  by_cases s:k<n
  ·obtain⟨x,o⟩:=aq y s
   obtain⟨I,b,L,rfl,R,U⟩:=(E.ext a) k x o
   have m:=hid (D x (List.mem_of_getElem? o) _ a I)
   have u:=hid o
   clear o a t
   cases g:p x
   ·rw[g]at m
    have h:Hid ((l.take (k+1)).any p=false):=bM u j g
    clear g
    go_wp2_with fail
    refine m.mono ?_
    rintro _ O ⟨rfl,f⟩
    go_wp2_with fail
    go_roundw
    case rel=>exact⟨k+1,by omega,by go_num,h,e.trans f⟩
    case measure=>simp[intOf];omega
   ·rw[g]at m
    have h:Hid (l.any p=true):=bU u g
    clear g
    go_wp2_with fail
    refine m.mono ?_
    rintro _ O ⟨rfl,f⟩
    go_wp2_with fail
    go_ret
    exact⟨⟨k,⟨by omega,by omega⟩,rfl,by rw[h.out];simp⟩,e.trans f⟩
  ·obtain rfl:k=n:=by omega
   have h:Hid (l.any p=false):=cP y j
   clear t
   go_wp2_with fail
   go_ret
   exact⟨⟨-1,⟨by omega,by omega⟩,rfl,by rw[h.out];rfl⟩,e⟩
theorem cop_src (F:FuncId) (k:Ent F) (P:Value) (p:Src→Bool) (l:List Src) (A:Option Addr) (n c:Nat) (w:World) (h:l.length=n) (m:n≤9223372036854775807) (g:eU w A l)
  (f:∀x∈l,∀(W:World),Ext w W→(x.tb.size≤9223372036854775807∧x.al.size≤9223372036854775807)→Calls Tryz.prog F #[.agg #[.string x.tb,.string x.al],P] W fun r j=>r= .returned (.bool (p x))∧Ext W j):
  Calls Tryz.prog 249 #[.slice A n c,.func (Fn.func F) #[] #[P]] w fun r w'=>r= .returned (.bool (l.any p))∧Ext w w':=by
 have i:=hid (ixp_src F k P p l A n c w h m g f)
 clear h g f
 go_enter Tryz.func249,Tryz.ntmps249
 go_wp2_with (go_at_call 272;refine i.mono ?_;rintro _ s ⟨⟨x,o,rfl,a⟩,e⟩;have b:=hid a;clear a)
 go_ret
 exact⟨aa b,e⟩
theorem ixp_ord (F:FuncId) (H:Ent F) (P:Value) (p:Ord'→Bool) (l:List Ord') (A:Option Addr) (n c:Nat) (w:World) (C:l.length=n) (Q:n≤9223372036854775807) (B:eV w A l)
  (z:∀x∈l,∀(W:World),Ext w W→I64 x.it→Calls Tryz.prog F #[.agg #[.int .i64 x.it,.bool x.ds],P] W fun r G=>r= .returned (.bool (p x))∧Ext W G):
  Calls Tryz.prog 273 #[.slice A n c,.func (Fn.func F) #[] #[P]] w fun r w'=>gf (l.any p) r∧Ext w w':=by
 unfold Ent at H
 have y:=hid C
 have E:=hid B
 have D:=hid z
 clear C B z
 go_enter Tryz.func273,Tryz.ntmps273
 go_wp2_with fail
 go_loopw [5,8] (fun _ K wr=> ∃(k:Nat),k≤n∧K= .int .i64 k∧(l.take k).any p=false∧Ext w wr) (fun _ i _=>n- (intOf i).toNat)
 case atStart=>exact⟨0,Nat.zero_le _,rfl,rfl,Ext.refl w⟩
 case round=>
  obtain⟨k,J,rfl,t,a⟩:=hrel
  have e:=hid a
  have j:=hid t
  by_cases s:k<n
  ·obtain⟨x,o⟩:=aq y s
   obtain⟨I,b,L,rfl,R,U⟩:=(E.ext a) k x o
   have m:=hid (D x (List.mem_of_getElem? o) _ a I)
   have u:=hid o
   clear o a t
   cases g:p x
   ·rw[g]at m
    have h:Hid ((l.take (k+1)).any p=false):=bM u j g
    clear g
    go_wp2_with fail
    refine m.mono ?_
    rintro _ O ⟨rfl,f⟩
    go_wp2_with fail
    go_roundw
    case rel=>exact⟨k+1,by omega,by go_num,h,e.trans f⟩
    case measure=>simp[intOf];omega
   ·rw[g]at m
    have h:Hid (l.any p=true):=bU u g
    clear g
    go_wp2_with fail
    refine m.mono ?_
    rintro _ O ⟨rfl,f⟩
    go_wp2_with fail
    go_ret
    exact⟨⟨k,⟨by omega,by omega⟩,rfl,by rw[h.out];simp⟩,e.trans f⟩
  ·obtain rfl:k=n:=by omega
   have h:Hid (l.any p=false):=cP y j
   clear t
   go_wp2_with fail
   go_ret
   exact⟨⟨-1,⟨by omega,by omega⟩,rfl,by rw[h.out];rfl⟩,e⟩
theorem cop_ord (F:FuncId) (k:Ent F) (P:Value) (p:Ord'→Bool) (l:List Ord') (A:Option Addr) (n c:Nat) (w:World) (h:l.length=n) (m:n≤9223372036854775807) (g:eV w A l)
  (f:∀x∈l,∀(W:World),Ext w W→I64 x.it→Calls Tryz.prog F #[.agg #[.int .i64 x.it,.bool x.ds],P] W fun r j=>r= .returned (.bool (p x))∧Ext W j):
  Calls Tryz.prog 251 #[.slice A n c,.func (Fn.func F) #[] #[P]] w fun r w'=>r= .returned (.bool (l.any p))∧Ext w w':=by
 have i:=hid (ixp_ord F k P p l A n c w h m g f)
 clear h g f
 go_enter Tryz.func251,Tryz.ntmps251
 go_wp2_with (go_at_call 273;refine i.mono ?_;rintro _ s ⟨⟨x,o,rfl,a⟩,e⟩;have b:=hid a;clear a)
 go_ret
 exact⟨aa b,e⟩
theorem ixp_ex (F:FuncId) (L:Ent F) (P:Value) (p:Ex→Bool) (l:List Ex) (A:Option Addr) (n c:Nat) (w:World) (G:l.length=n) (V:n≤9223372036854775807) (E:KidsAt w A l)
  (D:∀x∈l,∀(W:World),Ext w W→∀(o:Option Addr) (u s:Nat),ExV W x o u s→Calls Tryz.prog F #[x.d.val o u s,P] W fun r J=>r= .returned (.bool (p x))∧Ext W J):
  Calls Tryz.prog 179 #[.slice A n c,.func (Fn.func F) #[] #[P]] w fun r w'=>gf (l.any p) r∧Ext w w':=by
 unfold Ent at L
 have C:=hid G
 have I:=hid E
 have H:=hid D
 clear G E D
 go_enter Tryz.func179,Tryz.ntmps179
 go_wp2_with fail
 go_loopw [5,8] (fun _ Q wr=> ∃(k:Nat),k≤n∧Q= .int .i64 k∧(l.take k).any p=false∧Ext w wr) (fun _ i _=>n- (intOf i).toNat)
 case atStart=>exact⟨0,Nat.zero_le _,rfl,rfl,Ext.refl w⟩
 case round=>
  obtain⟨k,O,rfl,z,a⟩:=hrel
  have e:=hid a
  have m:=hid z
  by_cases y:k<n
  ·obtain⟨x,t⟩:=aq C y
   obtain⟨b,R,o,u,s,rfl,X,Y,Z,q3,q4,q5,q6,q7,K⟩:=(I.ext a).get t
   have g:=hid (H x (List.mem_of_getElem? t) _ a o u s K)
   have B:=hid t
   clear t a z
   cases h:p x
   ·rw[h]at g
    have j:Hid ((l.take (k+1)).any p=false):=bM B m h
    clear h
    unfold Nd.val at g
    go_wp2_with fail
    refine g.mono ?_
    rintro _ U ⟨rfl,f⟩
    go_wp2_with fail
    go_roundw
    case rel=>exact⟨k+1,by omega,by go_num,j,e.trans f⟩
    case measure=>simp[intOf];omega
   ·rw[h]at g
    have j:Hid (l.any p=true):=bU B h
    clear h
    unfold Nd.val at g
    go_wp2_with fail
    refine g.mono ?_
    rintro _ U ⟨rfl,f⟩
    go_wp2_with fail
    go_ret
    exact⟨⟨k,⟨by omega,by omega⟩,rfl,by rw[j.out];simp⟩,e.trans f⟩
  ·obtain rfl:k=n:=by omega
   have j:Hid (l.any p=false):=cP C m
   clear z
   go_wp2_with fail
   go_ret
   exact⟨⟨-1,⟨by omega,by omega⟩,rfl,by rw[j.out];rfl⟩,e⟩
theorem cop_ex (F:FuncId) (s:Ent F) (P:Value) (p:Ex→Bool) (l:List Ex) (A:Option Addr) (n c:Nat) (w:World) (j:l.length=n) (t:n≤9223372036854775807) (i:KidsAt w A l)
  (h:∀x∈l,∀(W:World),Ext w W→∀(f:Option Addr) (k g:Nat),ExV W x f k g→Calls Tryz.prog F #[x.d.val f k g,P] W fun r o=>r= .returned (.bool (p x))∧Ext W o):
  Calls Tryz.prog 111 #[.slice A n c,.func (Fn.func F) #[] #[P]] w fun r w'=>r= .returned (.bool (l.any p))∧Ext w w':=by
 have m:=hid (ixp_ex F s P p l A n c w j t i h)
 clear j i h
 go_enter Tryz.func111,Tryz.ntmps111
 go_wp2_with (go_at_call 179;refine m.mono ?_;rintro _ y ⟨⟨x,u,rfl,a⟩,e⟩;have b:=hid a;clear a)
 go_ret
 exact⟨aa b,e⟩
theorem bW {α:Type} {l:List α} {i:Nat} {e:α} (h:l[i]? =some e):l.take (i+1)=l.take i++ [e]:=by
 obtain⟨hi,rfl⟩:=List.getElem?_eq_some_iff.1 h
 rw[List.take_succ_eq_append_getElem hi]
theorem reads_new1 (w:World) (v:Value) (e:TypeId):Reads (w.alloc (.cells #[v] e)) (w.heap.size+1) 1 (some ⟨w.heap.size,0,none⟩) 1 [v]:=
 ⟨by simp,fun _=>⟨_,rfl,Nat.lt_succ_self _,news_at w #[v] e w.heap.size rfl⟩⟩
theorem aI {w:World} {B e b n:Nat} {v:Value} {f:List Value} (h:w.ownsRow B e b v n f):∀q,v.ownBlock=some q→B≤q:=fun q a=> (h.lt q a).1
theorem bX:(Tryz.prog.info? 9).map (fun i=> (i.zero,i.size,i.bytes))=some (some (.string ⟨#[]⟩),1,16):=by kernel_rfl
def cn (l:List ByteArray):List Value:=l.map Value.string
theorem strV_get {l:List ByteArray} {i:Nat} {s:ByteArray} (h:l[i]? =some s):(cn l)[i]? =some (.string s):=by unfold cn;rw[List.getElem?_map,h];rfl
theorem lU {w:World} {B n:Nat} {v:Value} {l:List ByteArray} (h:w.ownsRow B 9 1 v n (cn l)) (b:∀s∈l,s.size≤9223372036854775807):∃A c,v= .slice A n c∧aM w A l∧l.length=n:=by
 have a:l.length=n:=by have:=h.1;simpa[cn] using this
 rcases h.2 with ⟨rfl,hx⟩|⟨g,cap,cur,rfl,hb,hg,hrest⟩
 ·refine⟨none,0,?_,?_,a⟩
  ·have:l= []:=List.eq_nil_of_length_eq_zero (by simpa[a] using hx)
   subst this;subst a;rfl
  ·intro i s hs
   have:l= []:=List.eq_nil_of_length_eq_zero (by simpa[a] using hx)
   subst this;cases hs
 ·refine⟨_,_,rfl,fun i s hs=>⟨b s (List.mem_of_getElem? hs),g,0,rfl,?_⟩,a⟩
  have hi:i<l.length:=(List.getElem?_eq_some_iff.1 hs).1
  have:=h.cellAt i (by omega)
  rw[Nat.zero_add,this,strV_get hs]
theorem com_list:gk.data.toList= [44,32]:=rfl
theorem cma_join (x:ByteArray) (l:List ByteArray):(⟨(Lib.join ((x::l).map (·.data.toList)) gk.data.toList).toArray⟩:ByteArray)=cma (x::l):=by
 have h:=join_tail l x
 apply t_inj
 show _=(l.foldl _ x).data.toList
 rw[h,com_list]
 show Lib.join (x.data.toList::l.map (·.data.toList)) [44,32]=_
 rw[Lib.join_cons]
theorem kJ (l:List ByteArray) (A:Option Addr) (n c:Nat) (w:World) (o:l.length=n) (t:n≤c) (m:aM w A l) (C:bA l≤1000000000):
  Calls Tryz.prog 203 #[.slice A n c,.string ⟨#[44,32]⟩] w fun r w'=>r= .returned (.string (cma l))∧Ext w w':=by
 cases l with
 |nil=>
  subst o
  exact(Tryz.strings_Join_none A c ⟨#[44,32]⟩ w).mono fun r w' ⟨e,h⟩=>⟨e,h ▸ Ext.refl w⟩
 |cons x l=>
  obtain⟨_,b,g,rfl,s⟩:=m 0 x rfl
  have a:∀(j:Nat) y,(x::l)[j]? =some y→w.cell? ⟨b,g+j,none⟩=some (.string y):=fun j y u=>by
   obtain⟨_,B,p,i,e⟩:=m j y u
   simp only[Option.some.injEq,Addr.mk.injEq,and_true]at i
   obtain⟨rfl,rfl⟩:=i
   exact e
  have hs:=pw (x::l)
  have k:=cma_join x l
  have z:=aK (x::l)
  have f:(Lib.join ((x::l).map (·.data.toList)) gk.data.toList).length=(cma (x::l)).size:=by
   rw[←k];show _=((Lib.join _ _).toArray).size;simp
  subst o
  refine(Tryz.strings_Join b g c (x::l) gk w a (iO s) (by omega) t (by rw[f];omega)).mono fun r w' ⟨e,h⟩=>⟨?_,h⟩
  rw[e,k]
theorem own_cap {w:World} {B e a n:Nat} {A:Option Addr} {m c:Nat} {b:List Value} (h:w.ownsRow B e a (.slice A m c) n b):n≤c:=by
 rcases h.2 with ⟨h1,hx⟩|⟨g,cap,cur,h1,hb,hg,hrest⟩
 ·simp only[Value.slice.injEq]at h1;omega
 ·simp only[Value.slice.injEq]at h1;obtain⟨_,_,rfl⟩:=h1;exact hrest.1
theorem eu (l:List ByteArray) (v:Value) (B n:Nat) (w:World) (h:w.ownsRow B 9 1 v n (cn l)) (e:bA l≤1000000000):
  Calls Tryz.prog 203 #[v,.string ⟨#[44,32]⟩] w fun r w'=>r= .returned (.string (cma l))∧Ext w w':=by
 obtain⟨A,c,rfl,a,b⟩:=lU h fun s hs=>by have:=dJ hs;omega
 exact kJ l A n c w b (own_cap h) a e
theorem ls_ex (F:FuncId) (hE:Ent F) (p:Ex→ByteArray) (l:List Ex) (A:Option Addr) (n c:Nat) (w:World) (V:l.length=n) (hn:n≤100000000) (U:KidsAt w A l) (X:bA (l.map p)≤1000000000)
  (Q:∀x∈l,∀(W:World),Ext w W→∀(s:Option Addr) (z u:Nat),ExV W x s z u→Calls Tryz.prog F #[x.d.val s z u] W fun r W'=>r= .returned (.string (p x))∧Ext W W'):
  Calls Tryz.prog 204 #[.slice A n c,.func (Fn.func F) #[] #[]] w fun r w'=>r= .returned (.string (cma (l.map p)))∧Ext w w':=by
 unfold Ent at hE
 obtain⟨i0,hi,I,J,K⟩:=info_parts bX
 have P:=hid V
 have HK:=hid U
 have Y:=hid Q
 have HZ:=hid X
 clear V U Q X
 go_enter Tryz.func204,Tryz.ntmps204
 go_wp2_with fail
 go_loopw [5,10] (fun nv iv wr=> ∃(k:Nat),k≤n∧iv= .int .i64 k∧wr.ownsRow w.heap.size 9 1 nv k (cn ((l.take k).map p))∧Ext w wr) (fun _ i _=>n- (intOf i).toNat)
 case atStart=>exact⟨0,Nat.zero_le _,rfl,World.ownsRow_nil _ _ _ _,Ext.refl w⟩
 case round=>
  obtain⟨k,ac,rfl,h,f⟩:=hrel
  have t:=hid h
  have m:=hid f
  clear h
  by_cases H:k<n
  ·obtain⟨x,y⟩:=aq P H
   obtain⟨b,ad,s,z,u,rfl,q0,q1,q2,q3,q4,q5,q6,q7,h1⟩:=(HK.ext f).get y
   have O:=hid (fun W (R:Ext wr W)=>Y x (List.mem_of_getElem? y) W (f.trans R) s z u (h1.ext R))
   have HT:Hid ((l.take (k+1)).map p=(l.take k).map p++ [p x]):=by unfold Hid;rw[bW y,List.map_append];rfl
   clear y f
   unfold Nd.val at O
   go_wp2_with fail
   refine(O _ ((Ext.refl wr).alloc _)).mono ?_
   rintro _ L ⟨rfl,e⟩
   have j:Hid (Ext wr L):=((Ext.refl wr).alloc _).trans e
   clear e
   have C:=hid ((ownN_ext t j).alloc (.cells #[.string (p x)] 9))
   have E:=hid (reads_new1 L (.string (p x)) 9)
   go_wp2_with (at_builtin;refine wpList_append_any _ rfl (.tmp 14) (.tmp 18) 101 rfl w.heap.size 9 i0 _ 1 16 Tryz.underlying101 hi I J K rfl (by decide) _ k _ rfl C.out _ _ 1 1 [.string (p x)] rfl E.out (by simp[Value.oneCell']) (by unfold maxLen;omega) (by omega) (Nat.le_trans (m.out.trans j.out).size (by simp)) ?_;intro v1 w5 a g o;have D:=hid a;have B:=hid g;clear a g o)
   go_roundw
   case rel=>
    have G:=aI t
    refine⟨k+1,by omega,by go_num,?_,(((m.trans j).alloc _)).grown B fun q hq=>G q hq⟩
    rw[HT.out]
    unfold cn
    rw[List.map_append]
    exact D
   case measure=>simp[intOf];omega
  ·obtain rfl:k=n:=by omega
   rw[List.take_of_length_le (Nat.le_of_eq P)]at t
   have Z:=hid (eu (l.map p) _ _ _ wr t HZ)
   go_wp2_with (go_at_call 203;refine Z.mono ?_;rintro _ L ⟨rfl,e⟩)
   go_ret
   exact⟨rfl,m.trans e⟩
theorem ls_row (F:FuncId) (hE:Ent F) (p:(List Ex)→ByteArray) (l:List (List Ex)) (A:Option Addr) (n c:Nat) (w:World) (U:l.length=n) (hn:n≤100000000) (R:dh w A l) (V:bA (l.map p)≤1000000000)
  (P:∀x∈l,∀(W:World),Ext w W→∀(s:Option Addr) (y E:Nat),(x.length=y∧KidsAt W s x)→Calls Tryz.prog F #[.slice s y E] W fun r W'=>r= .returned (.string (p x))∧Ext W W'):
  Calls Tryz.prog 126 #[.slice A n c,.func (Fn.func F) #[] #[]] w fun r w'=>r= .returned (.string (cma (l.map p)))∧Ext w w':=by
 unfold Ent at hE
 obtain⟨i0,hi,I,J,K⟩:=info_parts bX
 have O:=hid U
 have HK:=hid R
 have Y:=hid P
 have HZ:=hid V
 clear U R P V
 go_enter Tryz.func126,Tryz.ntmps126
 go_wp2_with fail
 go_loopw [5,10] (fun nv iv wr=> ∃(k:Nat),k≤n∧iv= .int .i64 k∧wr.ownsRow w.heap.size 9 1 nv k (cn ((l.take k).map p))∧Ext w wr) (fun _ i _=>n- (intOf i).toNat)
 case atStart=>exact⟨0,Nat.zero_le _,rfl,World.ownsRow_nil _ _ _ _,Ext.refl w⟩
 case round=>
  obtain⟨k,ac,rfl,h,f⟩:=hrel
  have t:=hid h
  have m:=hid f
  clear h
  by_cases H:k<n
  ·obtain⟨x,u⟩:=aq O H
   obtain⟨b,ad,s,y,E,rfl,q0,h1,h2⟩:=(HK.ext f) k x u
   have X:=hid (fun W (Q:Ext wr W)=>Y x (List.mem_of_getElem? u) W (f.trans Q) s y E ⟨h1,h2.ext Q⟩)
   have HT:Hid ((l.take (k+1)).map p=(l.take k).map p++ [p x]):=by unfold Hid;rw[bW u,List.map_append];rfl
   clear u f
   go_wp2_with fail
   refine(X _ (Ext.refl wr)).mono ?_
   rintro _ L ⟨rfl,e⟩
   have j:Hid (Ext wr L):=e
   clear e
   have B:=hid ((ownN_ext t j).alloc (.cells #[.string (p x)] 9))
   have D:=hid (reads_new1 L (.string (p x)) 9)
   go_wp2_with (at_builtin;refine wpList_append_any _ rfl (.tmp 14) (.tmp 18) 101 rfl w.heap.size 9 i0 _ 1 16 Tryz.underlying101 hi I J K rfl (by decide) _ k _ rfl B.out _ _ 1 1 [.string (p x)] rfl D.out (by simp[Value.oneCell']) (by unfold maxLen;omega) (by omega) (Nat.le_trans (m.out.trans j.out).size (by simp)) ?_;intro v1 w5 a g o;have C:=hid a;have z:=hid g;clear a g o)
   go_roundw
   case rel=>
    have G:=aI t
    refine⟨k+1,by omega,by go_num,?_,(((m.trans j).alloc _)).grown z fun q hq=>G q hq⟩
    rw[HT.out]
    unfold cn
    rw[List.map_append]
    exact C
   case measure=>simp[intOf];omega
  ·obtain rfl:k=n:=by omega
   rw[List.take_of_length_le (Nat.le_of_eq O)]at t
   have Z:=hid (eu (l.map p) _ _ _ wr t HZ)
   go_wp2_with (go_at_call 203;refine Z.mono ?_;rintro _ L ⟨rfl,e⟩)
   go_ret
   exact⟨rfl,m.trans e⟩
theorem ls_asg (F:FuncId) (hE:Ent F) (p:Asg→ByteArray) (l:List Asg) (A:Option Addr) (n c:Nat) (w:World) (U:l.length=n) (hn:n≤100000000) (R:dM w A l) (V:bA (l.map p)≤1000000000)
  (P:∀x∈l,∀(W:World),Ext w W→∀(s:Option Addr) (z u:Nat),ExV W x.ex s z u→Calls Tryz.prog F #[.agg #[.string x.cl,.int .i64 x.ix,.int .i64 x.ex.d.op,.string x.ex.d.tb,.string x.ex.d.nm,.int .i64 x.ex.d.ix,.int .i64 x.ex.d.vk,.int .i64 x.ex.d.vi,.string x.ex.d.vt,.slice s z u]] W fun r W'=>r= .returned (.string (p x))∧Ext W W'):
  Calls Tryz.prog 129 #[.slice A n c,.func (Fn.func F) #[] #[]] w fun r w'=>r= .returned (.string (cma (l.map p)))∧Ext w w':=by
 unfold Ent at hE
 obtain⟨i0,hi,I,J,K⟩:=info_parts bX
 have O:=hid U
 have HK:=hid R
 have Y:=hid P
 have HZ:=hid V
 clear U R P V
 go_enter Tryz.func129,Tryz.ntmps129
 go_wp2_with fail
 go_loopw [5,10] (fun nv iv wr=> ∃(k:Nat),k≤n∧iv= .int .i64 k∧wr.ownsRow w.heap.size 9 1 nv k (cn ((l.take k).map p))∧Ext w wr) (fun _ i _=>n- (intOf i).toNat)
 case atStart=>exact⟨0,Nat.zero_le _,rfl,World.ownsRow_nil _ _ _ _,Ext.refl w⟩
 case round=>
  obtain⟨k,ac,rfl,h,f⟩:=hrel
  have t:=hid h
  have m:=hid f
  clear h
  by_cases H:k<n
  ·obtain⟨x,y⟩:=aq O H
   obtain⟨b,ad,s,z,u,rfl,q0,q1,q2,q3,q4,q5,q6,q7,q8,q9,h1⟩:=eL (HK.ext f) y
   have X:=hid (fun W (Q:Ext wr W)=>Y x (List.mem_of_getElem? y) W (f.trans Q) s z u (h1.ext Q))
   have HT:Hid ((l.take (k+1)).map p=(l.take k).map p++ [p x]):=by unfold Hid;rw[bW y,List.map_append];rfl
   clear y f
   go_wp2_with fail
   refine(X _ ((Ext.refl wr).alloc _)).mono ?_
   rintro _ L ⟨rfl,e⟩
   have j:Hid (Ext wr L):=((Ext.refl wr).alloc _).trans e
   clear e
   have C:=hid ((ownN_ext t j).alloc (.cells #[.string (p x)] 9))
   have E:=hid (reads_new1 L (.string (p x)) 9)
   go_wp2_with (at_builtin;refine wpList_append_any _ rfl (.tmp 14) (.tmp 18) 101 rfl w.heap.size 9 i0 _ 1 16 Tryz.underlying101 hi I J K rfl (by decide) _ k _ rfl C.out _ _ 1 1 [.string (p x)] rfl E.out (by simp[Value.oneCell']) (by unfold maxLen;omega) (by omega) (Nat.le_trans (m.out.trans j.out).size (by simp)) ?_;intro v1 w5 a g o;have D:=hid a;have B:=hid g;clear a g o)
   go_roundw
   case rel=>
    have G:=aI t
    refine⟨k+1,by omega,by go_num,?_,(((m.trans j).alloc _)).grown B fun q hq=>G q hq⟩
    rw[HT.out]
    unfold cn
    rw[List.map_append]
    exact D
   case measure=>simp[intOf];omega
  ·obtain rfl:k=n:=by omega
   rw[List.take_of_length_le (Nat.le_of_eq O)]at t
   have Z:=hid (eu (l.map p) _ _ _ wr t HZ)
   go_wp2_with (go_at_call 203;refine Z.mono ?_;rintro _ L ⟨rfl,e⟩)
   go_ret
   exact⟨rfl,m.trans e⟩
theorem ls_itm (F:FuncId) (hE:Ent F) (p:Itm→ByteArray) (l:List Itm) (A:Option Addr) (n c:Nat) (w:World) (U:l.length=n) (hn:n≤100000000) (R:dN w A l) (V:bA (l.map p)≤1000000000)
  (P:∀x∈l,∀(W:World),Ext w W→∀(s:Option Addr) (z u:Nat),ExV W x.ex s z u→Calls Tryz.prog F #[.agg #[.int .i64 x.ag,.int .i64 x.ex.d.op,.string x.ex.d.tb,.string x.ex.d.nm,.int .i64 x.ex.d.ix,.int .i64 x.ex.d.vk,.int .i64 x.ex.d.vi,.string x.ex.d.vt,.slice s z u]] W fun r W'=>r= .returned (.string (p x))∧Ext W W'):
  Calls Tryz.prog 208 #[.slice A n c,.func (Fn.func F) #[] #[]] w fun r w'=>r= .returned (.string (cma (l.map p)))∧Ext w w':=by
 unfold Ent at hE
 obtain⟨i0,hi,I,J,K⟩:=info_parts bX
 have O:=hid U
 have HK:=hid R
 have Y:=hid P
 have HZ:=hid V
 clear U R P V
 go_enter Tryz.func208,Tryz.ntmps208
 go_wp2_with fail
 go_loopw [5,10] (fun nv iv wr=> ∃(k:Nat),k≤n∧iv= .int .i64 k∧wr.ownsRow w.heap.size 9 1 nv k (cn ((l.take k).map p))∧Ext w wr) (fun _ i _=>n- (intOf i).toNat)
 case atStart=>exact⟨0,Nat.zero_le _,rfl,World.ownsRow_nil _ _ _ _,Ext.refl w⟩
 case round=>
  obtain⟨k,ac,rfl,h,f⟩:=hrel
  have t:=hid h
  have m:=hid f
  clear h
  by_cases H:k<n
  ·obtain⟨x,y⟩:=aq O H
   obtain⟨b,ad,s,z,u,rfl,q0,q1,q2,q3,q4,q5,q6,q7,q8,h1⟩:=eM (HK.ext f) y
   have X:=hid (fun W (Q:Ext wr W)=>Y x (List.mem_of_getElem? y) W (f.trans Q) s z u (h1.ext Q))
   have HT:Hid ((l.take (k+1)).map p=(l.take k).map p++ [p x]):=by unfold Hid;rw[bW y,List.map_append];rfl
   clear y f
   go_wp2_with fail
   refine(X _ ((Ext.refl wr).alloc _)).mono ?_
   rintro _ L ⟨rfl,e⟩
   have j:Hid (Ext wr L):=((Ext.refl wr).alloc _).trans e
   clear e
   have C:=hid ((ownN_ext t j).alloc (.cells #[.string (p x)] 9))
   have E:=hid (reads_new1 L (.string (p x)) 9)
   go_wp2_with (at_builtin;refine wpList_append_any _ rfl (.tmp 14) (.tmp 18) 101 rfl w.heap.size 9 i0 _ 1 16 Tryz.underlying101 hi I J K rfl (by decide) _ k _ rfl C.out _ _ 1 1 [.string (p x)] rfl E.out (by simp[Value.oneCell']) (by unfold maxLen;omega) (by omega) (Nat.le_trans (m.out.trans j.out).size (by simp)) ?_;intro v1 w5 a g o;have D:=hid a;have B:=hid g;clear a g o)
   go_roundw
   case rel=>
    have G:=aI t
    refine⟨k+1,by omega,by go_num,?_,(((m.trans j).alloc _)).grown B fun q hq=>G q hq⟩
    rw[HT.out]
    unfold cn
    rw[List.map_append]
    exact D
   case measure=>simp[intOf];omega
  ·obtain rfl:k=n:=by omega
   rw[List.take_of_length_le (Nat.le_of_eq O)]at t
   have Z:=hid (eu (l.map p) _ _ _ wr t HZ)
   go_wp2_with (go_at_call 203;refine Z.mono ?_;rintro _ L ⟨rfl,e⟩)
   go_ret
   exact⟨rfl,m.trans e⟩
theorem ls_src (F:FuncId) (hE:Ent F) (p:Src→ByteArray) (l:List Src) (A:Option Addr) (n c:Nat) (w:World) (O:l.length=n) (hn:n≤100000000) (L:eU w A l) (P:bA (l.map p)≤1000000000)
  (K:∀x∈l,∀(W:World),Ext w W→(x.tb.size≤9223372036854775807∧x.al.size≤9223372036854775807)→Calls Tryz.prog F #[.agg #[.string x.tb,.string x.al]] W fun r Z=>r= .returned (.string (p x))∧Ext W Z):
  Calls Tryz.prog 211 #[.slice A n c,.func (Fn.func F) #[] #[]] w fun r w'=>r= .returned (.string (cma (l.map p)))∧Ext w w':=by
 unfold Ent at hE
 obtain⟨i0,hi,E,G,H⟩:=info_parts bX
 have J:=hid O
 have V:=hid L
 have R:=hid K
 have Y:=hid P
 clear O L K P
 go_enter Tryz.func211,Tryz.ntmps211
 go_wp2_with fail
 go_loopw [5,10] (fun nv iv wr=> ∃(k:Nat),k≤n∧iv= .int .i64 k∧wr.ownsRow w.heap.size 9 1 nv k (cn ((l.take k).map p))∧Ext w wr) (fun _ i _=>n- (intOf i).toNat)
 case atStart=>exact⟨0,Nat.zero_le _,rfl,World.ownsRow_nil _ _ _ _,Ext.refl w⟩
 case round=>
  obtain⟨k,ac,rfl,h,f⟩:=hrel
  have s:=hid h
  have m:=hid f
  clear h
  by_cases D:k<n
  ·obtain⟨x,t⟩:=aq J D
   obtain⟨hc,b,ad,rfl,q0,q1⟩:=(V.ext f) k x t
   have Q:=hid (fun W (hW:Ext wr W)=>R x (List.mem_of_getElem? t) W (f.trans hW) hc)
   have X:Hid ((l.take (k+1)).map p=(l.take k).map p++ [p x]):=by unfold Hid;rw[bW t,List.map_append];rfl
   clear t f
   go_wp2_with fail
   refine(Q _ ((Ext.refl wr).alloc _)).mono ?_
   rintro _ I ⟨rfl,e⟩
   have j:Hid (Ext wr I):=((Ext.refl wr).alloc _).trans e
   clear e
   have y:=hid ((ownN_ext s j).alloc (.cells #[.string (p x)] 9))
   have B:=hid (reads_new1 I (.string (p x)) 9)
   go_wp2_with (at_builtin;refine wpList_append_any _ rfl (.tmp 14) (.tmp 18) 101 rfl w.heap.size 9 i0 _ 1 16 Tryz.underlying101 hi E G H rfl (by decide) _ k _ rfl y.out _ _ 1 1 [.string (p x)] rfl B.out (by simp[Value.oneCell']) (by unfold maxLen;omega) (by omega) (Nat.le_trans (m.out.trans j.out).size (by simp)) ?_;intro v1 w5 a g o;have z:=hid a;have u:=hid g;clear a g o)
   go_roundw
   case rel=>
    have C:=aI s
    refine⟨k+1,by omega,by go_num,?_,(((m.trans j).alloc _)).grown u fun q hq=>C q hq⟩
    rw[X.out]
    unfold cn
    rw[List.map_append]
    exact z
   case measure=>simp[intOf];omega
  ·obtain rfl:k=n:=by omega
   rw[List.take_of_length_le (Nat.le_of_eq J)]at s
   have U:=hid (eu (l.map p) _ _ _ wr s Y)
   go_wp2_with (go_at_call 203;refine U.mono ?_;rintro _ I ⟨rfl,e⟩)
   go_ret
   exact⟨rfl,m.trans e⟩
theorem ls_ord (F:FuncId) (hE:Ent F) (p:Ord'→ByteArray) (l:List Ord') (A:Option Addr) (n c:Nat) (w:World) (O:l.length=n) (hn:n≤100000000) (L:eV w A l) (P:bA (l.map p)≤1000000000)
  (K:∀x∈l,∀(W:World),Ext w W→I64 x.it→Calls Tryz.prog F #[.agg #[.int .i64 x.it,.bool x.ds]] W fun r Z=>r= .returned (.string (p x))∧Ext W Z):
  Calls Tryz.prog 213 #[.slice A n c,.func (Fn.func F) #[] #[]] w fun r w'=>r= .returned (.string (cma (l.map p)))∧Ext w w':=by
 unfold Ent at hE
 obtain⟨i0,hi,E,G,H⟩:=info_parts bX
 have J:=hid O
 have V:=hid L
 have R:=hid K
 have Y:=hid P
 clear O L K P
 go_enter Tryz.func213,Tryz.ntmps213
 go_wp2_with fail
 go_loopw [5,10] (fun nv iv wr=> ∃(k:Nat),k≤n∧iv= .int .i64 k∧wr.ownsRow w.heap.size 9 1 nv k (cn ((l.take k).map p))∧Ext w wr) (fun _ i _=>n- (intOf i).toNat)
 case atStart=>exact⟨0,Nat.zero_le _,rfl,World.ownsRow_nil _ _ _ _,Ext.refl w⟩
 case round=>
  obtain⟨k,ac,rfl,h,f⟩:=hrel
  have s:=hid h
  have m:=hid f
  clear h
  by_cases D:k<n
  ·obtain⟨x,t⟩:=aq J D
   obtain⟨hc,b,ad,rfl,q0,q1⟩:=(V.ext f) k x t
   have Q:=hid (fun W (hW:Ext wr W)=>R x (List.mem_of_getElem? t) W (f.trans hW) hc)
   have X:Hid ((l.take (k+1)).map p=(l.take k).map p++ [p x]):=by unfold Hid;rw[bW t,List.map_append];rfl
   clear t f
   go_wp2_with fail
   refine(Q _ ((Ext.refl wr).alloc _)).mono ?_
   rintro _ I ⟨rfl,e⟩
   have j:Hid (Ext wr I):=((Ext.refl wr).alloc _).trans e
   clear e
   have y:=hid ((ownN_ext s j).alloc (.cells #[.string (p x)] 9))
   have B:=hid (reads_new1 I (.string (p x)) 9)
   go_wp2_with (at_builtin;refine wpList_append_any _ rfl (.tmp 14) (.tmp 18) 101 rfl w.heap.size 9 i0 _ 1 16 Tryz.underlying101 hi E G H rfl (by decide) _ k _ rfl y.out _ _ 1 1 [.string (p x)] rfl B.out (by simp[Value.oneCell']) (by unfold maxLen;omega) (by omega) (Nat.le_trans (m.out.trans j.out).size (by simp)) ?_;intro v1 w5 a g o;have z:=hid a;have u:=hid g;clear a g o)
   go_roundw
   case rel=>
    have C:=aI s
    refine⟨k+1,by omega,by go_num,?_,(((m.trans j).alloc _)).grown u fun q hq=>C q hq⟩
    rw[X.out]
    unfold cn
    rw[List.map_append]
    exact z
   case measure=>simp[intOf];omega
  ·obtain rfl:k=n:=by omega
   rw[List.take_of_length_le (Nat.le_of_eq J)]at s
   have U:=hid (eu (l.map p) _ _ _ wr s Y)
   go_wp2_with (go_at_call 203;refine U.mono ?_;rintro _ I ⟨rfl,e⟩)
   go_ret
   exact⟨rfl,m.trans e⟩
end Go.Proofs.YtjigcpfjhfoheaaGreatDoor
