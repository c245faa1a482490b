/- Walks: Grow of a nil slice of expressions; Walks: Concat of slices of expressions; Statements: plain functions, and how they lie in memory; Opening a statement. -/
import Derived.Test.YtjigcpfjhfoheaaGreatDoorRah
import Derived.Test.YtjigcpfjhfoheaaGreatDoorRaa
namespace Go.Proofs.YtjigcpfjhfoheaaGreatDoor
open Go.RowKit
set_option maxHeartbeats 4000000
set_option maxRecDepth 100000
set_option linter.unusedVariables false
set_option linter.unusedSimpArgs false
theorem kI:(Tryz.prog.info? 37).map (fun i=> (i.zero,i.size,i.bytes))=some (some (.agg #[.int .i64 0,.string ⟨#[]⟩,.string ⟨#[]⟩,.int .i64 0,.int .i64 0,.int .i64 0,.string ⟨#[]⟩,.slice none 0 0]),8,104):=by kernel_rfl
theorem mZ (z:Array Value) (n:Nat):(Builtin.zeroCells z n).size=n*z.size:=by unfold Builtin.zeroCells;simp
theorem bl (w:World) (e b a n m:Nat) (B:Nat) (cs:Array Value) (f:B≤w.heap.size) (g:cs.size=a*b) (h:a≤maxLen):(w.alloc (.cells cs e)).ownsRow B e b (.slice (some ⟨w.heap.size,0,none⟩) 0 a) 0 []:=
 ⟨by simp,.inr ⟨w.heap.size,a,cs,rfl,f,by show(w.heap.push _)[w.heap.size]? =_;simp,Nat.zero_le _,h,g,by simp⟩⟩
theorem grow_nil (w:World) (T:Nat) (k:T≤1000000000):Calls Tryz.prog 180 #[.slice none 0 0,.int .i64 (T:Int)] w fun r w'=>
  ∃v,r= .returned v∧w'.ownsRow w.heap.size 37 8 v 0 []∧Ext w w':=by
 obtain⟨h,hi,a,g,b⟩:=info_parts kI
 have i:decide ((T:Int)<0)=false:=by simp
 by_cases e:0<T
 ·have j:decide ((0:Int)<(T:Int))=true:=by simp;omega
  go_enter Tryz.func180,Tryz.ntmps180
  go_wp2_with (at_builtin;refine ij _ rfl (.tmp 20) (.tmp 21) _ _ rfl 37 h _ Tryz.underlying27 Tryz.underlying3 hi a T rfl rfl e (by omega) (by rw[b];omega) ?_)
  go_ret
  refine⟨_,rfl,?_,((Ext.refl w).drew).alloc _⟩
  have f:=oM w T 0 37
  refine bl w.drew 37 8 (grownCap w T 0 37) T T w.heap.size _ (Nat.le_refl _) ?_ (grownCap_le_maxLen w T 0 37 (by unfold maxLen;omega))
  rw[Array.size_append,mZ,mZ,←Nat.add_mul]
  show(T+(grownCap w T 0 37-T))*8=_
  congr 1
  omega
 ·obtain rfl:T=0:=by omega
  go_enter Tryz.func180,Tryz.ntmps180
  go_wp2_with fail
  go_ret
  exact⟨_,rfl,⟨rfl,.inl ⟨rfl,rfl⟩⟩,Ext.refl w⟩
inductive LC (w:World):List Ex→List Value→Prop
 |nil:LC w [] []
 |cons {e:Ex} {es:List Ex} {cs rest:List Value} :ExC w e cs→LC w es rest→LC w (e::es) (cs++rest)
theorem nY {w:World} {e:Ex} {cs:List Value} (h:ExC w e cs):cs.length=8∧∀u∈cs,u.oneCell'=true:=by
 cases e with
 |mk d ks=>
  rw[ExC]at h
  obtain⟨_,_,A,c,rfl,_⟩:=h
  refine⟨rfl,fun u a=>?_⟩
  simp[Nd.cells]at a
  rcases a with rfl|rfl|rfl|rfl|rfl|rfl|rfl|rfl<;>rfl
theorem LC.len {w:World} {l:List Ex} {b:List Value} (h:LC w l b):b.length=l.length*8∧∀u∈b,u.oneCell'=true:=by
 induction h with
 |nil=>exact⟨rfl,by simp⟩
 |cons hc _ ih=>
  obtain⟨e,f⟩:=nY hc
  refine⟨by rw[List.length_append,e,ih.1,List.length_cons];omega,fun u a=>?_⟩
  rcases List.mem_append.1 a with a|a
  ·exact f u a
  ·exact ih.2 u a
theorem LC.app {w:World} {l m:List Ex} {a b:List Value} (h:LC w l a) (k:LC w m b):LC w (l++m) (a++b):=by
 induction h with
 |nil=>exact k
 |cons hc _ ih=>rw[List.cons_append,List.append_assoc];exact .cons hc ih
theorem LC.one {w:World} {e:Ex} {cs:List Value} (h:ExC w e cs):LC w [e] cs:=by
 have:=LC.cons h LC.nil
 rwa [List.append_nil]at this
theorem LC.ext {w w':World} {l:List Ex} {a:List Value} (h:LC w l a) (b:Ext w w'):LC w' l a:=by
 induction h with
 |nil=>exact .nil
 |cons hc _ ih=>exact .cons (exc_ext b _ _ hc) ih
theorem LC.get {w:World} {l:List Ex} {g:List Value} (h:LC w l g):∀(i:Nat) (e:Ex),l[i]? =some e→∃cs,ExC w e cs∧∀(j:Nat) (v:Value),cs[j]? =some v→g[i*8+j]? =some v:=by
 induction h with
 |nil=>intro i e h;simp at h
 | @cons e es cs rest hc hr ih=>
  intro i x f
  obtain⟨o,_⟩:=nY hc
  cases i with
  |zero=>
   simp at f
   subst f
   refine⟨cs,hc,fun j v a=>?_⟩
   have n:=(List.getElem?_eq_some_iff.1 a).1
   rw[Nat.zero_mul,Nat.zero_add,List.getElem?_append_left n]
   exact a
  |succ i=>
   obtain⟨b,k,m⟩:=ih i x (by simpa using f)
   refine⟨b,k,fun j v a=>?_⟩
   rw[List.getElem?_append_right (by omega),o,show(i+1)*8+j-8=i*8+j by omega]
   exact m j v a
theorem fC {w:World} {A:Option Addr} {l:List Ex} {n:Nat} (h:KidsAt w A l) (E:l.length=n):∃f,LC w l f∧Reads w w.heap.size 8 A n f:=by
 have B:∀(l:List Ex) (i:Nat),ExsAt w l A i→∃f,LC w l f∧(l≠[]→∃b a,A=some ⟨b,a,none⟩∧b<w.heap.size∧∀j u,f[j]? =some u→w.cell? ⟨b,a+(i*8+j),none⟩=some u):=by
  intro l
  induction l with
  |nil=>intro i _;exact⟨[],.nil,fun h=>absurd rfl h⟩
  |cons e es ih=>
   intro i h
   rw[ExsAt]at h
   obtain⟨⟨cs,⟨b,a,p,C⟩,D⟩,J⟩:=h
   obtain⟨f,m,r⟩:=ih (i+1) J
   obtain⟨x,_⟩:=nY D
   have G:0<cs.length:=by omega
   have t:b<w.heap.size:=iO (C 0 cs[0] (List.getElem?_eq_getElem G))
   refine⟨cs++f,.cons D m,fun _=>⟨b,a,p,t,fun j u g=>?_⟩⟩
   by_cases I:j<8
   ·rw[List.getElem?_append_left (by omega)]at g
    have:=C j u g
    rwa [Nat.add_assoc]at this
   ·rw[List.getElem?_append_right (by omega),x]at g
    have y:es≠[]:=by
     rintro rfl
     have:=m.len.1
     have z:f= []:=List.eq_nil_of_length_eq_zero (by simpa using this)
     rw[z]at g
     simp at g
    obtain⟨K,F,k,_,s⟩:=r y
    rw[p]at k
    simp only[Option.some.injEq,Addr.mk.injEq,and_true]at k
    obtain⟨rfl,rfl⟩:=k
    have:=s (j-8) u g
    rwa [show(i+1)*8+(j-8)=i*8+j by omega]at this
 obtain⟨f,m,r⟩:=B l 0 h
 refine⟨f,m,by rw[m.len.1,E],fun L=>?_⟩
 obtain⟨b,a,p,t,s⟩:=r (by rintro rfl;simp at E;omega)
 refine⟨⟨b,a,none⟩,p,t,fun j u g=>?_⟩
 have:=s j u g
 rw[Nat.zero_mul,Nat.zero_add]at this
 have o:(⟨b,a,none⟩:Addr).add j=⟨b,a+j,none⟩:=by unfold Addr.add;split<;>simp_all
 rw[o]
 exact this
theorem lG {w:World} {B e n:Nat} {v:Value} {l:List Ex} {r:List Value} (h:w.ownsRow B e 8 v n r) (o:LC w l r):∃A c,v= .slice A n c∧KidsAt w A l∧l.length=n:=by
 have p:l.length=n:=by have:=h.1;have:=o.len.1;omega
 have t:=fun g (x:v.ownBlock=some g)=>h.cells x
 have m:∀A,(∀i e,l[i]? =some e→∃cs,CellsAt w A (i*8) cs∧ExC w e cs)→KidsAt w A l:=by
  intro A s
  unfold KidsAt
  rw[cD]
  intro j e b
  obtain⟨cs,k,f⟩:=s j e b
  exact⟨cs,by rwa [Nat.zero_add],f⟩
 rcases h.2 with ⟨rfl,h0⟩|⟨g,cap,cur,rfl,_⟩
 ·refine⟨none,0,by rw[h0],m _ ?_,p⟩
  intro i e b
  have:l= []:=List.eq_nil_of_length_eq_zero (by omega)
  subst this
  simp at b
 ·refine⟨_,_,rfl,m _ ?_,p⟩
  intro i e b
  obtain⟨cs,k,f⟩:=o.get i e b
  refine⟨cs,⟨g,0,rfl,fun j u y=>?_⟩,k⟩
  have:=t g rfl (i*8+j) u (f j u y)
  have a:∀j,(⟨g,0,none⟩:Addr).add j=⟨g,0+j,none⟩:=fun j=>by unfold Addr.add;split<;>simp_all
  rwa [a,←Nat.add_assoc]at this
def dh (w:World) (A:Option Addr) (L:List (List Ex)):Prop:=
 ∀(i:Nat) (l:List Ex),L[i]? =some l→∃b off Ai ni ci,A=some ⟨b,off,none⟩∧w.cell? ⟨b,off+i,none⟩=some (.slice Ai ni ci)∧l.length=ni∧KidsAt w Ai l
theorem dh.ext {w w':World} {A:Option Addr} {L:List (List Ex)} (h:dh w A L) (e:Ext w w'):dh w' A L:=fun i l n=>by
 obtain⟨b,a,f,p,g,j,k,o,m⟩:=h i l n
 exact⟨b,a,f,p,g,j,e.keep k,o,m.ext e⟩
theorem aq {α:Type} {L:List α} {i n:Nat} (a:L.length=n) (h:i<n):∃e,L[i]? =some e:=⟨_,List.getElem?_eq_getElem (by omega)⟩
theorem jQ {α:Type} {L:List (List α)} {k:Nat} {l:List α} (h:L[k]? =some l):(L.take (k+1)).flatten=(L.take k).flatten++l:=by
 obtain⟨hi,rfl⟩:=List.getElem?_eq_some_iff.1 h
 rw[List.take_succ_eq_append_getElem hi,List.flatten_append]
 simp
theorem nZ {α:Type} (L:List (List α)) (k:Nat):(L.take k).flatten.length≤L.flatten.length:=by
 conv=>rhs;rw[←List.take_append_drop k L,List.flatten_append,List.length_append]
 omega
theorem lH (L:List (List Ex)) (A:Option Addr) (n c:Nat) (w:World) (g:L.length=n) (hn:n≤9223372036854775807) (hr:dh w A L) (hT:L.flatten.length≤1000000000):
  Calls Tryz.prog 114 #[.slice A n c] w fun r w'=>
   ∃v o,r= .returned v∧w'.ownsRow w.heap.size 37 8 v L.flatten.length o∧LC w L.flatten o∧Ext w w':=by
 obtain⟨i0,hi,an,ax,a0⟩:=info_parts kI
 have V:=hid g
 have HR:=hid hr
 have HT:=hid hT
 clear g hr
 go_enter Tryz.func114,Tryz.ntmps114
 go_wp2_with fail
 go_loop [3,5,11] (fun sv _ iv=> ∃(k s:Nat),k≤n∧s≤1000000000∧iv= .int .i64 k∧sv= .int .i64 s∧s=(L.take k).flatten.length) (fun _ _ i=>n- (intOf i).toNat)
 case atStart=>exact⟨0,0,Nat.zero_le _,Nat.zero_le _,rfl,rfl,rfl⟩
 case round=>
  obtain⟨k,s,hk,hs,rfl,rfl,hv⟩:=hrel
  have Z:=hid hv
  clear hv
  by_cases ad:k<n
  ·obtain⟨l,g⟩:=aq V ad
   obtain⟨b,a1,Ai,D,ci,rfl,hc,a,h⟩:=HR k l g
   have C:=hid (jQ g)
   have y:=hid a
   have a3:s+D≤1000000000:=by
    have h1:=nZ L (k+1)
    rw[C.out,List.length_append]at h1
    have:=Z.out
    have:=HT.out
    omega
   have d0:decide ((s:Int)+(D:Int)<0)=false:=by simp;omega
   clear g a h
   go_wp2_with fail
   go_round
   case rel=>exact⟨k+1,s+D,by omega,by omega,by go_num,by go_num,by rw[C.out,List.length_append,y.out,Z.out]⟩
   case measure=>simp[intOf];omega
  ·obtain rfl:k=n:=by omega
   have z:Hid (L.take k=L):=List.take_of_length_le (Nat.le_of_eq V)
   have a2:Hid (s=L.flatten.length):=by unfold Hid;rw[Z.out,z.out]
   go_wp2_with (go_at_call 180;refine(grow_nil _ s hs).mono ?_;rintro _ w2 ⟨v0,rfl,e,ag⟩;have X:=hid e;clear e)
   go_loopw [6,8,27] (fun nv _ iv wr=> ∃(j:Nat) (o:List Value),j≤k∧iv= .int .i64 j∧wr.ownsRow w.heap.size 37 8 nv (L.take j).flatten.length o∧LC w (L.take j).flatten o∧Ext w wr) (fun _ _ i _=>k- (intOf i).toNat)
   case atStart=>exact⟨0,[],Nat.zero_le _,rfl,X,.nil,ag⟩
   case round=>
    obtain⟨j,o,hj,rfl,u,J,m⟩:=hrel
    have Q:=hid u
    have E:=hid J
    have B:=hid m
    clear u J
    by_cases K:j<k
    ·obtain⟨l,g⟩:=aq V K
     obtain⟨b,a1,Ai,D,ci,rfl,I,a,h⟩:=HR j l g
     have hc:=m.keep I
     have C:=hid (jQ g)
     obtain⟨x,O,P⟩:=fC h a
     have F:=hid O
     have W:=hid (P.below m)
     have y:=hid a
     have ac:(L.take j).flatten.length+D≤1000000000:=by
      have h1:=nZ L (j+1)
      rw[C.out,List.length_append]at h1
      have:=HT.out
      omega
     obtain⟨p,R⟩:∃p,(L.take j).flatten.length=p:=⟨_,rfl⟩
     have HP:=hid R
     rw[R]at ac
     rw[R]at Q
     clear g a h O P I m R
     go_wp2_with (at_builtin;refine wpList_append_any _ rfl (.tmp 31) (.tmp 32) _ rfl w.heap.size 37 i0 _ 8 104 Tryz.underlying27 hi an ax a0 rfl (by decide) _ p o rfl Q.out w.heap.size Ai D ci x rfl W.out F.out.len.2 (by unfold maxLen;omega) (by omega) B.out.size ?_;intro v1 w3 f t G;have Y:=hid f;have U:=hid t;clear f t G)
     go_roundw
     case rel=>
      refine⟨j+1,o++x,by omega,by go_num,?_,?_,?_⟩
      ·rw[C.out,List.length_append,HP.out,y.out]
       exact Y
      ·rw[C.out]
       exact E.app F
      ·refine B.grown U fun q hq=> (Q.lt q hq).1
     case measure=>simp[intOf];omega
    ·obtain rfl:j=k:=by omega
     go_wp2_with fail
     go_ret
     refine⟨_,o,rfl,?_,?_,B⟩
     ·have:=Q.out
      rwa [z.out]at this
     ·have:=E.out
      rwa [z.out]at this
section
def St.all (s:St):List Ex:=s.chk++s.vals.flatten++s.grp++s.sets.map Asg.ex++s.itms.map Itm.ex++ [s.whr]
section
variable {w w':World}
def aM (w:World) (A:Option Addr) (l:List ByteArray):Prop:=
 ∀(i:Nat) (s:ByteArray),l[i]? =some s→s.size≤9223372036854775807∧∃b off,A=some ⟨b,off,none⟩∧w.cell? ⟨b,off+i,none⟩=some (.string s)
theorem aM.ext {A:Option Addr} {l:List ByteArray} (h:aM w A l) (j:Ext w w'):aM w' A l:=fun i s hs=>by
 obtain⟨e,b,a,f,g⟩:=h i s hs
 exact⟨e,b,a,f,j.keep g⟩
def gh (w:World) (A:Option Addr) (l:List Cd):Prop:=
 ∀(i:Nat) (x:Cd),l[i]? =some x→(x.nm.size≤9223372036854775807∧I64 x.ty∧I64 x.lo∧I64 x.hi∧I64 x.mx)∧∃b off,A=some ⟨b,off,none⟩∧w.cell? ⟨b,off+i*6,none⟩=some (.string x.nm)∧w.cell? ⟨b,off+i*6+1,none⟩=some (.int .i64 x.ty)∧
  w.cell? ⟨b,off+i*6+2,none⟩=some (.int .i64 x.lo)∧w.cell? ⟨b,off+i*6+3,none⟩=some (.int .i64 x.hi)∧w.cell? ⟨b,off+i*6+4,none⟩=some (.int .i64 x.mx)∧w.cell? ⟨b,off+i*6+5,none⟩=some (.bool x.nn)
theorem gh.ext {A:Option Addr} {l:List Cd} (h:gh w A l) (a:Ext w w'):gh w' A l:=fun i s hs=>by
 obtain⟨f,b,e,p,g,j,k,m,n,o⟩:=h i s hs
 exact⟨f,b,e,p,a.keep g,a.keep j,a.keep k,a.keep m,a.keep n,a.keep o⟩
def en (w:World) (A:Option Addr) (L:List (List ByteArray)):Prop:=
 ∀(i:Nat) (l:List ByteArray),L[i]? =some l→∃b off Ai ni ci,A=some ⟨b,off,none⟩∧w.cell? ⟨b,off+i,none⟩=some (.slice Ai ni ci)∧l.length=ni∧ni≤9223372036854775807∧aM w Ai l
theorem en.ext {A:Option Addr} {L:List (List ByteArray)} (h:en w A L) (e:Ext w w'):en w' A L:=fun i l n=>by
 obtain⟨b,a,f,r,g,j,k,p,o,m⟩:=h i l n
 exact⟨b,a,f,r,g,j,e.keep k,p,o,m.ext e⟩
def gi (w:World) (A:Option Addr) (l:List Rf):Prop:=
 ∀(i:Nat) (x:Rf),l[i]? =some x→x.tb.size≤9223372036854775807∧∃b off A1 n1 c1 A2 n2 c2,A=some ⟨b,off,none⟩∧w.cell? ⟨b,off+i*3,none⟩=some (.slice A1 n1 c1)∧w.cell? ⟨b,off+i*3+1,none⟩=some (.string x.tb)∧
  w.cell? ⟨b,off+i*3+2,none⟩=some (.slice A2 n2 c2)∧x.cs.length=n1∧n1≤9223372036854775807∧aM w A1 x.cs∧x.tg.length=n2∧n2≤9223372036854775807∧aM w A2 x.tg
theorem gi.ext {A:Option Addr} {l:List Rf} (h:gi w A l) (a:Ext w w'):gi w' A l:=fun i s hs=>by
 obtain⟨j,b,e,f,z,c1,g,B,c2,y,k,m,n,o,p,r,t,u,x⟩:=h i s hs
 exact⟨j,b,e,f,z,c1,g,B,c2,y,a.keep k,a.keep m,a.keep n,o,p,r.ext a,t,u,x.ext a⟩
def dM (w:World) (A:Option Addr) (l:List Asg):Prop:=
 ∀(i:Nat) (x:Asg),l[i]? =some x→(x.cl.size≤9223372036854775807∧I64 x.ix)∧∃b off A' n c,A=some ⟨b,off,none⟩∧w.cell? ⟨b,off+i*10,none⟩=some (.string x.cl)∧w.cell? ⟨b,off+i*10+1,none⟩=some (.int .i64 x.ix)∧cq w b (off+i*10+2) x.ex A' n c
theorem elt_ext {b o:Nat} {e:Ex} {A:Option Addr} {n c:Nat} (h:cq w b o e A n c) (a:Ext w w'):cq w' b o e A n c:=
 ⟨a.keep h.c0,a.keep h.c1,a.keep h.c2,a.keep h.c3,a.keep h.c4,a.keep h.c5,a.keep h.c6,a.keep h.c7,h.val.ext a⟩
theorem dM.ext {A:Option Addr} {l:List Asg} (h:dM w A l) (a:Ext w w'):dM w' A l:=fun i s hs=>by
 obtain⟨g,b,e,f,n,c,o,j,k,m⟩:=h i s hs
 exact⟨g,b,e,f,n,c,o,a.keep j,a.keep k,elt_ext m a⟩
def dN (w:World) (A:Option Addr) (l:List Itm):Prop:=
 ∀(i:Nat) (x:Itm),l[i]? =some x→I64 x.ag∧∃b off A' n c,A=some ⟨b,off,none⟩∧w.cell? ⟨b,off+i*9,none⟩=some (.int .i64 x.ag)∧cq w b (off+i*9+1) x.ex A' n c
theorem dN.ext {A:Option Addr} {l:List Itm} (h:dN w A l) (e:Ext w w'):dN w' A l:=fun i s hs=>by
 obtain⟨g,b,a,f,n,c,m,j,k⟩:=h i s hs
 exact⟨g,b,a,f,n,c,m,e.keep j,elt_ext k e⟩
def eU (w:World) (A:Option Addr) (l:List Src):Prop:=
 ∀(i:Nat) (x:Src),l[i]? =some x→(x.tb.size≤9223372036854775807∧x.al.size≤9223372036854775807)∧∃b off,A=some ⟨b,off,none⟩∧w.cell? ⟨b,off+i*2,none⟩=some (.string x.tb)∧w.cell? ⟨b,off+i*2+1,none⟩=some (.string x.al)
theorem eU.ext {A:Option Addr} {l:List Src} (h:eU w A l) (e:Ext w w'):eU w' A l:=fun i s hs=>by
 obtain⟨f,b,a,k,g,j⟩:=h i s hs
 exact⟨f,b,a,k,e.keep g,e.keep j⟩
def eV (w:World) (A:Option Addr) (l:List Ord'):Prop:=
 ∀(i:Nat) (x:Ord'),l[i]? =some x→I64 x.it∧∃b off,A=some ⟨b,off,none⟩∧w.cell? ⟨b,off+i*2,none⟩=some (.int .i64 x.it)∧w.cell? ⟨b,off+i*2+1,none⟩=some (.bool x.ds)
theorem eV.ext {A:Option Addr} {l:List Ord'} (h:eV w A l) (e:Ext w w'):eV w' A l:=fun i s hs=>by
 obtain⟨f,b,a,k,g,j⟩:=h i s hs
 exact⟨f,b,a,k,e.keep g,e.keep j⟩
end
structure Sl where
 A:Option Addr
 n:Nat
 c:Nat
def Sl.v (s:Sl):Value:= .slice s.A s.n s.c
structure SA where
 cols:Sl
 keys:Sl
 frs:Sl
 chk:Sl
 vals:Sl
 sets:Sl
 itms:Sl
 frm:Sl
 whr:Sl
 grp:Sl
 ord:Sl
def St.cells (s:St) (a:SA):List Value:=
 (sC (k:=s.kd) (t:=s.tb) (a:=a.cols.v) (b:=a.keys.v) (c:=a.frs.v) (d:=a.chk.v) (v:=a.vals.v) (s:=a.sets.v) (i:=a.itms.v) (f:=a.frm.v) (o:=s.whr.d.op) (q:=s.whr.d.tb) (m:=s.whr.d.nm) (x:=s.whr.d.ix) (y:=s.whr.d.vk) (z:=s.whr.d.vi) (u:=s.whr.d.vt) (e:=a.whr.v) (g:=a.grp.v) (r:=a.ord.v) (l:=s.lim) (n:=s.nm))
def St.val (s:St) (a:SA):Value:= .agg (s.cells a).toArray
structure StV (w:World) (s:St) (a:SA):Prop where
 kd:I64 s.kd
 tb:s.tb.size≤9223372036854775807
 lim:I64 s.lim
 nm:s.nm.size≤9223372036854775807
 cols:s.cols.length=a.cols.n∧a.cols.n≤9223372036854775807∧gh w a.cols.A s.cols
 keys:s.keys.length=a.keys.n∧a.keys.n≤9223372036854775807∧en w a.keys.A s.keys
 frs:s.frs.length=a.frs.n∧a.frs.n≤9223372036854775807∧gi w a.frs.A s.frs
 chk:s.chk.length=a.chk.n∧a.chk.n≤9223372036854775807∧KidsAt w a.chk.A s.chk
 vals:s.vals.length=a.vals.n∧a.vals.n≤9223372036854775807∧dh w a.vals.A s.vals
 valn:∀l∈s.vals,l.length≤9223372036854775807
 sets:s.sets.length=a.sets.n∧a.sets.n≤9223372036854775807∧dM w a.sets.A s.sets
 itms:s.itms.length=a.itms.n∧a.itms.n≤9223372036854775807∧dN w a.itms.A s.itms
 frm:s.frm.length=a.frm.n∧a.frm.n≤9223372036854775807∧eU w a.frm.A s.frm
 whr:ExV w s.whr a.whr.A a.whr.n a.whr.c
 grp:s.grp.length=a.grp.n∧a.grp.n≤9223372036854775807∧KidsAt w a.grp.A s.grp
 ord:s.ord.length=a.ord.n∧a.ord.n≤9223372036854775807∧eV w a.ord.A s.ord
theorem StV.ext {w w':World} {s:St} {a:SA} (h:StV w s a) (b:Ext w w'):StV w' s a:=
 ⟨h.kd,h.tb,h.lim,h.nm,⟨h.cols.1,h.cols.2.1,h.cols.2.2.ext b⟩,⟨h.keys.1,h.keys.2.1,h.keys.2.2.ext b⟩,⟨h.frs.1,h.frs.2.1,h.frs.2.2.ext b⟩,⟨h.chk.1,h.chk.2.1,h.chk.2.2.ext b⟩,⟨h.vals.1,h.vals.2.1,h.vals.2.2.ext b⟩,h.valn,
  ⟨h.sets.1,h.sets.2.1,h.sets.2.2.ext b⟩,⟨h.itms.1,h.itms.2.1,h.itms.2.2.ext b⟩,⟨h.frm.1,h.frm.2.1,h.frm.2.2.ext b⟩,h.whr.ext b,⟨h.grp.1,h.grp.2.1,h.grp.2.2.ext b⟩,⟨h.ord.1,h.ord.2.1,h.ord.2.2.ext b⟩⟩
end
section
open Go.ChangeShapes Go.WideShapes Go.Deep Go.RowKit
def sumB {α:Type} (bk:α→Nat):List α→Nat
 | []=>0
 |a::l=>bk a+sumB bk l
theorem bG {α:Type} {bk:α→Nat} (h:∀a,1≤bk a):∀l:List α,l.length≤sumB bk l
 | []=>Nat.le_refl _
 |a::l=>by have:=bG h l;have:=h a;rw[sumB,List.length_cons];omega
theorem sumB_size (l:List Ex):sumB Ex.size l=sizeL l:=by
 induction l with
 |nil=>rfl
 |cons e l ih=>rw[sumB,sizeL,ih]
theorem lst2 {α:Type} {l:List α} (h:l.length=2):∃c0 c1,l= [c0,c1]:=by
 match l,h with
 | [c0,c1],_=>exact⟨c0,c1,rfl⟩
theorem lst3 {α:Type} {l:List α} (h:l.length=3):∃c0 c1 c2,l= [c0,c1,c2]:=by
 match l,h with
 | [c0,c1,c2],_=>exact⟨c0,c1,c2,rfl⟩
theorem lst4 {α:Type} {l:List α} (h:l.length=4):∃c0 c1 c2 c3,l= [c0,c1,c2,c3]:=by
 match l,h with
 | [c0,c1,c2,c3],_=>exact⟨c0,c1,c2,c3,rfl⟩
theorem lst6 {α:Type} {l:List α} (h:l.length=6):∃c0 c1 c2 c3 c4 c5,l= [c0,c1,c2,c3,c4,c5]:=by
 match l,h with
 | [c0,c1,c2,c3,c4,c5],_=>exact⟨c0,c1,c2,c3,c4,c5,rfl⟩
theorem lst9 {α:Type} {l:List α} (h:l.length=9):∃c0 c1 c2 c3 c4 c5 c6 c7 a,l= [c0,c1,c2,c3,c4,c5,c6,c7,a]:=by
 match l,h with
 | [c0,c1,c2,c3,c4,c5,c6,c7,a],_=>exact⟨c0,c1,c2,c3,c4,c5,c6,c7,a,rfl⟩
theorem lst10 {α:Type} {l:List α} (h:l.length=10):∃c0 c1 c2 c3 c4 c5 c6 c7 a b,l= [c0,c1,c2,c3,c4,c5,c6,c7,a,b]:=by
 match l,h with
 | [c0,c1,c2,c3,c4,c5,c6,c7,a,b],_=>exact⟨c0,c1,c2,c3,c4,c5,c6,c7,a,b,rfl⟩
theorem lst12 {α:Type} {l:List α} (h:l.length=12):∃c0 c1 c2 c3 c4 c5 c6 c7 e f a b,l= [c0,c1,c2,c3,c4,c5,c6,c7,e,f,a,b]:=by
 match l,h with
 | [c0,c1,c2,c3,c4,c5,c6,c7,e,f,a,b],_=>exact⟨c0,c1,c2,c3,c4,c5,c6,c7,e,f,a,b,rfl⟩
theorem lst22 {α:Type} {l:List α} (h:l.length=22):∃c0 c1 c2 c3 c4 c5 c6 c7 r s a b e f g i j k m n o p,l= [c0,c1,c2,c3,c4,c5,c6,c7,r,s,a,b,e,f,g,i,j,k,m,n,o,p]:=by
 match l,h with
 | [c0,c1,c2,c3,c4,c5,c6,c7,r,s,a,b,e,f,g,i,j,k,m,n,o,p],_=>exact⟨c0,c1,c2,c3,c4,c5,c6,c7,r,s,a,b,e,f,g,i,j,k,m,n,o,p,rfl⟩
theorem lI:Tryz.prog.cellsOf 3=1:=by kernel_rfl
theorem cl_int64:Tryz.prog.cellsOf 2=1:=by kernel_rfl
theorem lJ:Tryz.prog.cellsOf 9=1:=by kernel_rfl
theorem cl_bool:Tryz.prog.cellsOf 4=1:=by kernel_rfl
theorem cl_strs:Tryz.prog.cellsOf 101=1:=by kernel_rfl
theorem pt:Tryz.prog.cellsOf 27=1:=by kernel_rfl
theorem oa:Tryz.prog.cellsOf 37=8:=by kernel_rfl
theorem cl_cols:Tryz.prog.cellsOf 24=1:=by kernel_rfl
theorem cl_keys:Tryz.prog.cellsOf 25=1:=by kernel_rfl
theorem cl_frs:Tryz.prog.cellsOf 26=1:=by kernel_rfl
theorem cl_rows:Tryz.prog.cellsOf 30=1:=by kernel_rfl
theorem cl_asgs:Tryz.prog.cellsOf 31=1:=by kernel_rfl
theorem cl_itms:Tryz.prog.cellsOf 32=1:=by kernel_rfl
theorem cl_srcs:Tryz.prog.cellsOf 33=1:=by kernel_rfl
theorem cl_ords:Tryz.prog.cellsOf 38=1:=by kernel_rfl
theorem cl_def:Tryz.prog.cellsOf 29=4:=by kernel_rfl
section
variable {H:Type}
theorem bV (d:DataW H):1≤Rows.uptoBulk d:=by
 cases d
 case lit l=>cases l<;>simp only[Rows.uptoBulk] <;> (try omega)
 all_goals (simp only[Rows.uptoBulk];try omega)
theorem sum_of {α:Type} {bk:α→Nat} :∀ {l:List α} {m:List (DataW H)},l.length=m.length→(∀(i:Nat) (e:α) (z:DataW H),l[i]? =some e→m[i]? =some z→bk e≤Rows.uptoBulk z)→sumB bk l≤Rows.uptoBulkAll m:=by
 intro l
 induction l with
 |nil=>intro m _ _;rw[sumB];omega
 |cons e l ih=>
  intro m a h
  cases m with
  |nil=>cases a
  |cons z m=>
   have g:=h 0 e z rfl rfl
   have j:=ih (m:=m) (by simpa using a) fun i e z b f=>h (i+1) e z (by simpa using b) (by simpa using f)
   rw[sumB,Rows.uptoBulkAll]
   omega
end
theorem m7 {α:Type} {f:Nat→α} {len i:Nat} {e:α} (a:((List.range len).map f)[i]? =some e):i<len∧e=f i:=by
 rw[List.getElem?_map]at a
 have b:i<len:=by
  by_cases h:i<len
  ·exact h
  ·rw[List.getElem?_eq_none (by simp;omega)]at a;cases a
 rw[List.getElem?_range b]at a
 simp only[Option.map_some,Option.some.injEq]at a
 exact⟨b,a.symm⟩
section
variable {H:Type} {enc:TypeId×Value→H} {w:World} {spare:Nat→Bool} {held:Bool} {base:Nat}
theorem bz {α:Type} [Inhabited α] {T E:TypeId} {s:Nat} (Z:Tryz.prog.underlying T=some (.slice E)) (Y:Tryz.prog.cellsOf E=s) (O:0<s) (P:α→List Value→Prop) (bk:α→Nat)
  (L:∀(k:Nat) (cs:List Value) (x:DataW H×List MemPlace),DataW.trod enc Tryz.prog w base spare held k E cs=some x→∃a,P a cs∧bk a≤Rows.uptoBulk x.1)
  {k:Nat} {v:Value} {x:DataW H×List MemPlace} (h:DataW.trod enc Tryz.prog w base spare held k T [v]=some x):
  ∃(l:List α) (A:Option Addr) (n c:Nat),v= .slice A n c∧l.length=n∧n≤9223372036854775807∧
   (∀(i:Nat) (a:α),l[i]? =some a→∃cs b p,P a cs∧A=some ⟨b,p,none⟩∧∀(j:Nat) (u:Value),cs[j]? =some u→w.cell? ⟨b,p+i*s+j,none⟩=some u)∧sumB bk l+1≤Rows.uptoBulk x.1:=by
 rcases DataW.trod_slice Z h with ⟨h7,_⟩|⟨a,len,cap,elems,rest,m,rfl,h7,hy,_,hl,hm,hlen,hel',_,_⟩
 ·simp only[List.cons.injEq,and_true]at h7
  subst h7
  exact⟨[],none,0,0,rfl,rfl,Nat.zero_le _,fun i a ha=>by simp at ha,by rw[sumB];exact bV _⟩
 ·simp only[List.cons.injEq,and_true]at h7
  subst h7
  have hk:∀i,∃e:α,i<len→∃g,(∀j,j<s→w.cell? ((a.add (i*s)).add j)=g[j]?)∧g.length=s∧P e g∧∃z,elems[i]? =some z∧bk e≤Rows.uptoBulk z.1:=by
   intro i
   by_cases hi:i<len
   ·have C:=hel' i hi
    obtain⟨z,J⟩:=dg hlen hi
    rw[J,Y,Option.bind_eq_some_iff]at C
    obtain⟨g,hc,ht⟩:=C
    obtain⟨_,F,t⟩:=World.cells?_some hc
    obtain⟨e,K,hb⟩:=L m g z ht
    exact⟨e,fun _=>⟨g,t,F,K,z,J,hb⟩⟩
   ·exact⟨default,fun h=>absurd h hi⟩
  obtain⟨f,y⟩:=Classical.axiomOfChoice hk
  refine⟨(List.range len).map f,some a,len,cap,rfl,by simp,by unfold maxLen at hm;omega,?_,?_⟩
  ·intro i e C
   obtain⟨B,rfl⟩:=m7 C
   obtain⟨g,t,F,K,_⟩:=y i B
   have G:a.spot=none:=by
    obtain⟨V,D,Q,_⟩:=y 0 (by omega)
    have U:=D 0 O
    have W:(a.add (0*s)).add 0=a:=by simp[Addr.add]
    rw[W,List.getElem?_eq_getElem (by omega)]at U
    exact mY U
   obtain⟨b,p,sp⟩:=a
   dsimp only at G
   subst G
   have r:∀(o j:Nat),(⟨b,o,none⟩:Addr).add j=⟨b,o+j,none⟩:=fun o j=>by unfold Addr.add;split<;>simp_all
   refine⟨g,b,p,K,rfl,fun j u R=>?_⟩
   have hj:j<s:=by have:=(List.getElem?_eq_some_iff.1 R).1;omega
   have:=t j hj
   rw[r,r,R]at this
   exact this
  ·have:=sum_of (bk:=bk) (l:=(List.range len).map f) (m:=elems.map (·.1)) (by simp[hlen]) fun i e z' C I=>by
    obtain⟨B,rfl⟩:=m7 C
    obtain⟨g,_,_,_,z,J,X⟩:=y i B
    rw[List.getElem?_map,J]at I
    obtain rfl:=Option.some.inj I
    exact X
   rw[hy]
   simp only[Rows.uptoBulk]
   omega
theorem lK {T E:TypeId} {b:Nat} {cs:List Value} {x:DataW H×List MemPlace} (f:Tryz.prog.cellsOf T=1) (h:DataW.trod enc Tryz.prog w base spare held b T cs=some x) (e:Tryz.prog.underlying T=some (.slice E):=by first|exact Tryz.underlying101|exact Tryz.underlying27):∃v,cs= [v]:=by
 rcases DataW.trod_slice e h with ⟨h7,_⟩|⟨a,len,cap,elems,rest,m,rfl,h7,_⟩
 ·exact⟨_,h7⟩
 ·exact⟨_,h7⟩
instance:Inhabited Ex:=⟨exZ⟩
def bkS (s:ByteArray):Nat:=s.size+1
theorem jR {a:Nat} {v:Value} {x:DataW H×List MemPlace} (h:DataW.trod enc Tryz.prog w base spare held a 101 [v]=some x):
  ∃(l:List ByteArray) (A:Option Addr) (n c:Nat),v= .slice A n c∧l.length=n∧n≤9223372036854775807∧aM w A l∧sumB bkS l+1≤Rows.uptoBulk x.1:=by
 obtain⟨l,A,n,c,g,j,k,m,o⟩:=bz (α:=ByteArray) Tryz.underlying101 (by kernel_rfl:Tryz.prog.cellsOf 9=1) (by decide) (fun s cs=>cs= [.string s]∧s.size≤9223372036854775807) bkS (fun a cs x h=>by obtain⟨s,e,y,hs⟩:=DataW.trod_string Tryz.underlying9 h;exact⟨s,⟨e,Nat.le_trans hs (by unfold maxLen;omega)⟩,by rw[y];simp[Rows.uptoBulk,bkS]⟩) h
 refine⟨l,A,n,c,g,j,k,?_,o⟩
 intro i s hs
 obtain⟨cs,b,f,⟨rfl,t⟩,p,r⟩:=m i s hs
 exact⟨t,b,f,p,by simpa using r 0 _ rfl⟩
theorem iy {a:Nat} {v:Value} {x:DataW H×List MemPlace} (h:DataW.trod enc Tryz.prog w base spare held a 27 [v]=some x):
  ∃(l:List Ex) (A:Option Addr) (n c:Nat),v= .slice A n c∧l.length=n∧n≤9223372036854775807∧KidsAt w A l∧sizeL l+1≤Rows.uptoBulk x.1:=by
 obtain⟨l,A,n,c,f,g,m,o,p⟩:=bz (α:=Ex) Tryz.underlying27 (by kernel_rfl:Tryz.prog.cellsOf 37=8) (by decide) (fun e cs=>ExC w e cs) Ex.size (fun a cs x h=>by obtain⟨e,f,_,g⟩:=i8 _ _ _ h;exact⟨e,f,g⟩) h
 refine⟨l,A,n,c,f,g,m,?_,by rw[←sumB_size];exact p⟩
 unfold KidsAt
 rw[cD]
 intro i e y
 obtain⟨cs,b,k,s,r,t⟩:=o i e y
 exact⟨cs,⟨b,k,r,fun j u z=>by rw[Nat.zero_add];exact t j u z⟩,s⟩
def bkK (l:List ByteArray):Nat:=sumB bkS l+1
theorem open_keys {a:Nat} {v:Value} {x:DataW H×List MemPlace} (h:DataW.trod enc Tryz.prog w base spare held a 25 [v]=some x):
  ∃(l:List (List ByteArray)) (A:Option Addr) (n c:Nat),v= .slice A n c∧l.length=n∧n≤9223372036854775807∧en w A l∧sumB bkK l+1≤Rows.uptoBulk x.1:=by
 obtain⟨l,A,n,c,r,j,k,m,o⟩:=bz (α:=(List ByteArray)) Tryz.underlying25 (by kernel_rfl:Tryz.prog.cellsOf 101=1) (by decide) (fun l cs=> ∃f e g,cs= [.slice f e g]∧l.length=e∧e≤9223372036854775807∧aM w f l) bkK (fun a cs x h=>by obtain⟨v,rfl⟩:=lK (by kernel_rfl:Tryz.prog.cellsOf 101=1) h;obtain⟨l,A,n,c,rfl,j,k,m,o⟩:=jR h;exact⟨l,⟨A,n,c,rfl,j,k,m⟩,o⟩) h
 refine⟨l,A,n,c,r,j,k,?_,o⟩
 intro i l y
 obtain⟨cs,b,p,⟨f,e,g,rfl,B,z,u⟩,s,t⟩:=m i l y
 exact⟨b,p,f,e,g,s,by simpa using t 0 _ rfl,B,z,u⟩
def bkR (l:List Ex):Nat:=sizeL l+1
theorem open_rows {a:Nat} {v:Value} {x:DataW H×List MemPlace} (h:DataW.trod enc Tryz.prog w base spare held a 30 [v]=some x):
  ∃(l:List (List Ex)) (A:Option Addr) (n c:Nat),v= .slice A n c∧l.length=n∧n≤9223372036854775807∧(dh w A l∧∀r∈l,r.length≤9223372036854775807)∧sumB bkR l+1≤Rows.uptoBulk x.1:=by
 obtain⟨l,A,n,c,B,m,o,k,p⟩:=bz (α:=List Ex) Tryz.underlying30 (by kernel_rfl:Tryz.prog.cellsOf 27=1) (by decide) (fun l cs=> ∃f e j,cs= [.slice f e j]∧l.length=e∧e≤9223372036854775807∧KidsAt w f l) bkR
  (fun a cs x h=>by obtain⟨v,rfl⟩:=lK (by kernel_rfl:Tryz.prog.cellsOf 27=1) h;obtain⟨l,A,n,c,rfl,m,o,k,p⟩:=iy h;exact⟨l,⟨A,n,c,rfl,m,o,k⟩,p⟩) h
 refine⟨l,A,n,c,B,m,o,⟨?_,?_⟩,p⟩
 ·intro i r s
  obtain⟨cs,b,g,⟨f,e,j,rfl,z,C,y⟩,t,u⟩:=k i r s
  exact⟨b,g,f,e,j,t,by simpa using u 0 _ rfl,z,y⟩
 ·intro r s
  obtain⟨i,hi,rfl⟩:=List.getElem_of_mem s
  obtain⟨cs,b,g,⟨f,e,j,rfl,z,C,y⟩,t,u⟩:=k i _ (List.getElem?_eq_getElem hi)
  omega
def eW (x:Cd):Nat:=x.nm.size+1
theorem open_cd {f:Nat} {cs:List Value} {x:DataW H×List MemPlace} (h:DataW.trod enc Tryz.prog w base spare held f 99 cs=some x):
  ∃a:Cd,(cs= [.string a.nm,.int .i64 a.ty,.int .i64 a.lo,.int .i64 a.hi,.int .i64 a.mx,.bool a.nn]∧a.nm.size≤9223372036854775807∧I64 a.ty∧I64 a.lo∧I64 a.hi∧I64 a.mx)∧eW a≤Rows.uptoBulk x.1:=by
 obtain⟨X,n,rfl,g,P,b,e⟩:=DataW.trod_struct Tryz.underlying99 h
 obtain⟨c0,c1,c2,c3,c4,c5,rfl⟩:=lst6 (P.trans (by kernel_rfl:Tryz.prog.cellsOf 99=6))
 have b:X.length=6:=b
 obtain⟨i,j,k,l,m,o,rfl⟩:=lst6 b
 have A:DataW.trod enc Tryz.prog w base spare held n 9 (List.take (Tryz.prog.cellsOf 9) (List.drop 0 [c0,c1,c2,c3,c4,c5]))=some i:=e 0 _ rfl
 have B:DataW.trod enc Tryz.prog w base spare held n 3 (List.take (Tryz.prog.cellsOf 3) (List.drop 1 [c0,c1,c2,c3,c4,c5]))=some j:=e 1 _ rfl
 have C:DataW.trod enc Tryz.prog w base spare held n 2 (List.take (Tryz.prog.cellsOf 2) (List.drop 2 [c0,c1,c2,c3,c4,c5]))=some k:=e 2 _ rfl
 have D:DataW.trod enc Tryz.prog w base spare held n 2 (List.take (Tryz.prog.cellsOf 2) (List.drop 3 [c0,c1,c2,c3,c4,c5]))=some l:=e 3 _ rfl
 have E:DataW.trod enc Tryz.prog w base spare held n 3 (List.take (Tryz.prog.cellsOf 3) (List.drop 4 [c0,c1,c2,c3,c4,c5]))=some m:=e 4 _ rfl
 have F:DataW.trod enc Tryz.prog w base spare held n 4 (List.take (Tryz.prog.cellsOf 4) (List.drop 5 [c0,c1,c2,c3,c4,c5]))=some o:=e 5 _ rfl
 simp only[cl_bool,lI,cl_int64,lJ,List.drop_zero,List.drop_succ_cons,List.take_succ_cons,List.take_zero]at A B C D E F
 have O:Rows.uptoBulk x.1=Rows.uptoBulk i.1+Rows.uptoBulk j.1+Rows.uptoBulk k.1+Rows.uptoBulk l.1+Rows.uptoBulk m.1+Rows.uptoBulk o.1+1:=by rw[g];simp[Rows.uptoBulk,Rows.uptoBulkAll];try omega
 obtain⟨p,r,Y,Q⟩:=DataW.trod_string Tryz.underlying9 A
 have Z:p.size+1≤Rows.uptoBulk i.1:=by rw[Y];simp[Rows.uptoBulk]
 obtain⟨G,s,_,R⟩:=DataW.trod_int Tryz.underlying3 B
 have p1:=bV j.1
 obtain⟨I,t,_,U⟩:=DataW.trod_int Tryz.underlying2 C
 have p2:=bV k.1
 obtain⟨J,u,_,V⟩:=DataW.trod_int Tryz.underlying2 D
 have p3:=bV l.1
 obtain⟨K,y,_,W⟩:=DataW.trod_int Tryz.underlying3 E
 have p4:=bV m.1
 obtain⟨L,z,_⟩:=DataW.trod_bool Tryz.underlying4 F
 have p5:=bV o.1
 simp only[List.cons.injEq,and_true]at r s t u y z
 subst r s t u y z
 exact⟨⟨p,G,I,J,K,L⟩,⟨rfl,Nat.le_trans Q (by unfold maxLen;omega),bounds_i64 R,bounds_i64 U,bounds_i64 V,bounds_i64 W⟩,by rw[O];unfold eW;dsimp only;omega⟩
instance:Inhabited Cd:=⟨⟨⟨#[]⟩,0,0,0,0,false⟩⟩
theorem open_cols {e:Nat} {v:Value} {x:DataW H×List MemPlace} (h:DataW.trod enc Tryz.prog w base spare held e 24 [v]=some x):
  ∃(l:List Cd) (A:Option Addr) (n c:Nat),v= .slice A n c∧l.length=n∧n≤9223372036854775807∧gh w A l∧sumB eW l+1≤Rows.uptoBulk x.1:=by
 obtain⟨l,A,n,c,j,k,m,o,p⟩:=bz (α:=Cd) Tryz.underlying24 (by kernel_rfl:Tryz.prog.cellsOf 99=6) (by decide) (fun a cs=>cs= [.string a.nm,.int .i64 a.ty,.int .i64 a.lo,.int .i64 a.hi,.int .i64 a.mx,.bool a.nn]∧a.nm.size≤9223372036854775807∧I64 a.ty∧I64 a.lo∧I64 a.hi∧I64 a.mx) eW (fun e cs x h=>open_cd h) h
 refine⟨l,A,n,c,j,k,m,?_,p⟩
 intro i a s
 obtain⟨cs,b,g,⟨rfl,t⟩,r,f⟩:=o i a s
 exact⟨t,b,g,r,by simpa using f 0 _ rfl,f 1 _ rfl,f 2 _ rfl,f 3 _ rfl,f 4 _ rfl,f 5 _ rfl⟩
def gj (x:Rf):Nat:=sumB bkS x.cs+sumB bkS x.tg+x.tb.size+1
theorem open_rf {e:Nat} {cs:List Value} {x:DataW H×List MemPlace} (h:DataW.trod enc Tryz.prog w base spare held e 103 cs=some x):
  ∃a:Rf,(∃m k c1 g f c2,cs= [.slice m k c1,.string a.tb,.slice g f c2]∧a.tb.size≤9223372036854775807∧a.cs.length=k∧k≤9223372036854775807∧aM w m a.cs∧a.tg.length=f∧f≤9223372036854775807∧aM w g a.tg)∧gj a≤Rows.uptoBulk x.1:=by
 obtain⟨V,n,rfl,j,F,b,i⟩:=DataW.trod_struct Tryz.underlying103 h
 obtain⟨c0,c1,c2,rfl⟩:=lst3 (F.trans (by kernel_rfl:Tryz.prog.cellsOf 103=3))
 have b:V.length=3:=b
 obtain⟨u,l,y,rfl⟩:=lst3 b
 have r:DataW.trod enc Tryz.prog w base spare held n 101 (List.take (Tryz.prog.cellsOf 101) (List.drop 0 [c0,c1,c2]))=some u:=i 0 _ rfl
 have s:DataW.trod enc Tryz.prog w base spare held n 9 (List.take (Tryz.prog.cellsOf 9) (List.drop 1 [c0,c1,c2]))=some l:=i 1 _ rfl
 have t:DataW.trod enc Tryz.prog w base spare held n 101 (List.take (Tryz.prog.cellsOf 101) (List.drop 2 [c0,c1,c2]))=some y:=i 2 _ rfl
 simp only[lJ,cl_strs,List.drop_zero,List.drop_succ_cons,List.take_succ_cons,List.take_zero]at r s t
 have E:Rows.uptoBulk x.1=Rows.uptoBulk u.1+Rows.uptoBulk l.1+Rows.uptoBulk y.1+1:=by rw[j];simp[Rows.uptoBulk,Rows.uptoBulkAll];try omega
 obtain⟨A,z,P,G,C,J,L,Q,X⟩:=jR r
 subst C
 obtain⟨o,p,W,U⟩:=DataW.trod_string Tryz.underlying9 s
 have Y:o.size+1≤Rows.uptoBulk l.1:=by rw[W];simp[Rows.uptoBulk]
 obtain⟨B,g,f,I,D,K,O,R,Z⟩:=jR t
 subst D
 simp only[List.cons.injEq,and_true]at p
 subst p
 exact⟨⟨A,o,B⟩,⟨z,P,G,g,f,I,rfl,Nat.le_trans U (by unfold maxLen;omega),J,L,Q,K,O,R⟩,by rw[E];unfold gj;dsimp only;omega⟩
instance:Inhabited Rf:=⟨⟨[],⟨#[]⟩,[]⟩⟩
theorem open_frs {e:Nat} {v:Value} {x:DataW H×List MemPlace} (h:DataW.trod enc Tryz.prog w base spare held e 26 [v]=some x):
  ∃(l:List Rf) (A:Option Addr) (n c:Nat),v= .slice A n c∧l.length=n∧n≤9223372036854775807∧gi w A l∧sumB gj l+1≤Rows.uptoBulk x.1:=by
 obtain⟨l,A,n,c,s,t,u,y,z⟩:=bz (α:=Rf) Tryz.underlying26 (by kernel_rfl:Tryz.prog.cellsOf 103=3) (by decide) (fun a cs=> ∃j f c1 k g c2,cs= [.slice j f c1,.string a.tb,.slice k g c2]∧a.tb.size≤9223372036854775807∧a.cs.length=f∧f≤9223372036854775807∧aM w j a.cs∧a.tg.length=g∧g≤9223372036854775807∧aM w k a.tg) gj (fun e cs x h=>open_rf h) h
 refine⟨l,A,n,c,s,t,u,?_,z⟩
 intro i a G
 obtain⟨cs,b,r,⟨j,f,c1,k,g,c2,rfl,I,o,B,C,D,E,m⟩,F,p⟩:=y i a G
 exact⟨I,b,r,j,f,c1,k,g,c2,F,by simpa using p 0 _ rfl,p 1 _ rfl,p 2 _ rfl,o,B,C,D,E,m⟩
def bkA (x:Asg):Nat:=x.cl.size+x.ex.size+1
def bkI (x:Itm):Nat:=x.ex.size+1
def bkF (x:Src):Nat:=x.tb.size+x.al.size+1
def bkO (_:Ord'):Nat:=1
theorem lL {w:World} {e:Ex} {c0 c1 c2 c3 c4 c5 c6 c7:Value} (h:ExC w e [c0,c1,c2,c3,c4,c5,c6,c7]):∃A n c,[c0,c1,c2,c3,c4,c5,c6,c7]=e.d.cells A n c∧ExV w e A n c:=by
 cases e with
 |mk d ks=>
  rw[ExC]at h
  obtain⟨a,b,A,c,f,g⟩:=h
  exact⟨A,ks.length,c,f,⟨rfl,b,a,g⟩⟩
theorem open_asg {e:Nat} {cs:List Value} {x:DataW H×List MemPlace} (h:DataW.trod enc Tryz.prog w base spare held e 82 cs=some x):
  ∃a:Asg,(∃A n c,cs= [.string a.cl,.int .i64 a.ix,.int .i64 a.ex.d.op,.string a.ex.d.tb,.string a.ex.d.nm,.int .i64 a.ex.d.ix,.int .i64 a.ex.d.vk,.int .i64 a.ex.d.vi,.string a.ex.d.vt,.slice A n c]∧ExV w a.ex A n c∧a.cl.size≤9223372036854775807∧I64 a.ix)∧bkA a≤Rows.uptoBulk x.1:=by
 obtain⟨K,n,rfl,k,D,b,j⟩:=DataW.trod_struct Tryz.underlying82 h
 obtain⟨c0,c1,c2,c3,c4,c5,c6,c7,f,g,rfl⟩:=lst10 (D.trans (by kernel_rfl:Tryz.prog.cellsOf 82=10))
 have b:K.length=3:=b
 obtain⟨l,m,y,rfl⟩:=lst3 b
 have s:DataW.trod enc Tryz.prog w base spare held n 9 (List.take (Tryz.prog.cellsOf 9) (List.drop 0 [c0,c1,c2,c3,c4,c5,c6,c7,f,g]))=some l:=j 0 _ rfl
 have t:DataW.trod enc Tryz.prog w base spare held n 3 (List.take (Tryz.prog.cellsOf 3) (List.drop 1 [c0,c1,c2,c3,c4,c5,c6,c7,f,g]))=some m:=j 1 _ rfl
 have u:DataW.trod enc Tryz.prog w base spare held n 37 (List.take (Tryz.prog.cellsOf 37) (List.drop 2 [c0,c1,c2,c3,c4,c5,c6,c7,f,g]))=some y:=j 2 _ rfl
 simp only[oa,lI,lJ,List.drop_zero,List.drop_succ_cons,List.take_succ_cons,List.take_zero]at s t u
 have C:Rows.uptoBulk x.1=Rows.uptoBulk l.1+Rows.uptoBulk m.1+Rows.uptoBulk y.1+1:=by rw[k];simp[Rows.uptoBulk,Rows.uptoBulkAll];try omega
 obtain⟨o,p,L,I⟩:=DataW.trod_string Tryz.underlying9 s
 have O:o.size+1≤Rows.uptoBulk l.1:=by rw[L];simp[Rows.uptoBulk]
 obtain⟨z,r,_,J⟩:=DataW.trod_int Tryz.underlying3 t
 have P:=bV m.1
 obtain⟨B,G,_,Q⟩:=i8 _ _ _ u
 simp only[List.cons.injEq,and_true]at p r
 subst p r
 obtain⟨A,F,c,i,E⟩:=lL G
 unfold Nd.cells at i
 simp only[List.cons.injEq,and_true]at i
 obtain⟨rfl,rfl,rfl,rfl,rfl,rfl,rfl,rfl⟩:=i
 exact⟨⟨o,z,B⟩,⟨A,F,c,rfl,E,Nat.le_trans I (by unfold maxLen;omega),bounds_i64 J⟩,by rw[C];unfold bkA;dsimp only;omega⟩
instance:Inhabited Asg:=⟨⟨⟨#[]⟩,0,exZ⟩⟩
theorem open_asgs {f:Nat} {v:Value} {x:DataW H×List MemPlace} (h:DataW.trod enc Tryz.prog w base spare held f 31 [v]=some x):
  ∃(l:List Asg) (A:Option Addr) (n c:Nat),v= .slice A n c∧l.length=n∧n≤9223372036854775807∧dM w A l∧sumB bkA l+1≤Rows.uptoBulk x.1:=by
 obtain⟨l,A,n,c,k,m,o,p,r⟩:=bz (α:=Asg) Tryz.underlying31 (by kernel_rfl:Tryz.prog.cellsOf 82=10) (by decide) (fun a cs=> ∃A n c,cs= [.string a.cl,.int .i64 a.ix,.int .i64 a.ex.d.op,.string a.ex.d.tb,.string a.ex.d.nm,.int .i64 a.ex.d.ix,.int .i64 a.ex.d.vk,.int .i64 a.ex.d.vi,.string a.ex.d.vt,.slice A n c]∧ExV w a.ex A n c∧a.cl.size≤9223372036854775807∧I64 a.ix) bkA (fun f cs x h=>open_asg h) h
 refine⟨l,A,n,c,k,m,o,?_,r⟩
 intro i a t
 obtain⟨cs,b,g,⟨j,z,c1,rfl,u,y⟩,s,e⟩:=p i a t
 exact⟨y,b,g,j,z,c1,s,by simpa using e 0 _ rfl,e 1 _ rfl,⟨e 2 _ rfl,e 3 _ rfl,e 4 _ rfl,e 5 _ rfl,e 6 _ rfl,e 7 _ rfl,e 8 _ rfl,e 9 _ rfl,u⟩⟩
theorem open_itm {e:Nat} {cs:List Value} {x:DataW H×List MemPlace} (h:DataW.trod enc Tryz.prog w base spare held e 84 cs=some x):
  ∃a:Itm,(∃A n c,cs= [.int .i64 a.ag,.int .i64 a.ex.d.op,.string a.ex.d.tb,.string a.ex.d.nm,.int .i64 a.ex.d.ix,.int .i64 a.ex.d.vk,.int .i64 a.ex.d.vi,.string a.ex.d.vt,.slice A n c]∧ExV w a.ex A n c∧I64 a.ag)∧bkI a≤Rows.uptoBulk x.1:=by
 obtain⟨D,n,rfl,g,u,b,o⟩:=DataW.trod_struct Tryz.underlying84 h
 obtain⟨c0,c1,c2,c3,c4,c5,c6,c7,j,rfl⟩:=lst9 (u.trans (by kernel_rfl:Tryz.prog.cellsOf 84=9))
 have b:D.length=2:=b
 obtain⟨i,p,rfl⟩:=lst2 b
 have l:DataW.trod enc Tryz.prog w base spare held n 3 (List.take (Tryz.prog.cellsOf 3) (List.drop 0 [c0,c1,c2,c3,c4,c5,c6,c7,j]))=some i:=o 0 _ rfl
 have m:DataW.trod enc Tryz.prog w base spare held n 37 (List.take (Tryz.prog.cellsOf 37) (List.drop 1 [c0,c1,c2,c3,c4,c5,c6,c7,j]))=some p:=o 1 _ rfl
 simp only[oa,lI,List.drop_zero,List.drop_succ_cons,List.take_succ_cons,List.take_zero]at l m
 have t:Rows.uptoBulk x.1=Rows.uptoBulk i.1+Rows.uptoBulk p.1+1:=by rw[g];simp[Rows.uptoBulk,Rows.uptoBulkAll];try omega
 obtain⟨r,k,_,C⟩:=DataW.trod_int Tryz.underlying3 l
 have E:=bV i.1
 obtain⟨s,B,_,F⟩:=i8 _ _ _ m
 simp only[List.cons.injEq,and_true]at k
 subst k
 obtain⟨A,z,c,f,y⟩:=lL B
 unfold Nd.cells at f
 simp only[List.cons.injEq,and_true]at f
 obtain⟨rfl,rfl,rfl,rfl,rfl,rfl,rfl,rfl⟩:=f
 exact⟨⟨r,s⟩,⟨A,z,c,rfl,y,bounds_i64 C⟩,by rw[t];unfold bkI;dsimp only;omega⟩
instance:Inhabited Itm:=⟨⟨0,exZ⟩⟩
theorem open_itms {f:Nat} {v:Value} {x:DataW H×List MemPlace} (h:DataW.trod enc Tryz.prog w base spare held f 32 [v]=some x):
  ∃(l:List Itm) (A:Option Addr) (n c:Nat),v= .slice A n c∧l.length=n∧n≤9223372036854775807∧dN w A l∧sumB bkI l+1≤Rows.uptoBulk x.1:=by
 obtain⟨l,A,n,c,k,m,o,p,r⟩:=bz (α:=Itm) Tryz.underlying32 (by kernel_rfl:Tryz.prog.cellsOf 84=9) (by decide) (fun a cs=> ∃A n c,cs= [.int .i64 a.ag,.int .i64 a.ex.d.op,.string a.ex.d.tb,.string a.ex.d.nm,.int .i64 a.ex.d.ix,.int .i64 a.ex.d.vk,.int .i64 a.ex.d.vi,.string a.ex.d.vt,.slice A n c]∧ExV w a.ex A n c∧I64 a.ag) bkI (fun f cs x h=>open_itm h) h
 refine⟨l,A,n,c,k,m,o,?_,r⟩
 intro i a t
 obtain⟨cs,b,g,⟨j,z,c1,rfl,u,y⟩,s,e⟩:=p i a t
 exact⟨y,b,g,j,z,c1,s,by simpa using e 0 _ rfl,⟨e 1 _ rfl,e 2 _ rfl,e 3 _ rfl,e 4 _ rfl,e 5 _ rfl,e 6 _ rfl,e 7 _ rfl,e 8 _ rfl,u⟩⟩
theorem open_src {e:Nat} {cs:List Value} {x:DataW H×List MemPlace} (h:DataW.trod enc Tryz.prog w base spare held e 86 cs=some x):
  ∃a:Src,(cs= [.string a.tb,.string a.al]∧a.tb.size≤9223372036854775807∧a.al.size≤9223372036854775807)∧bkF a≤Rows.uptoBulk x.1:=by
 obtain⟨z,n,rfl,f,t,b,r⟩:=DataW.trod_struct Tryz.underlying86 h
 obtain⟨c0,c1,rfl⟩:=lst2 (t.trans (by kernel_rfl:Tryz.prog.cellsOf 86=2))
 have b:z.length=2:=b
 obtain⟨g,i,rfl⟩:=lst2 b
 have o:DataW.trod enc Tryz.prog w base spare held n 9 (List.take (Tryz.prog.cellsOf 9) (List.drop 0 [c0,c1]))=some g:=r 0 _ rfl
 have p:DataW.trod enc Tryz.prog w base spare held n 9 (List.take (Tryz.prog.cellsOf 9) (List.drop 1 [c0,c1]))=some i:=r 1 _ rfl
 simp only[lJ,List.drop_zero,List.drop_succ_cons,List.take_succ_cons,List.take_zero]at o p
 have s:Rows.uptoBulk x.1=Rows.uptoBulk g.1+Rows.uptoBulk i.1+1:=by rw[f];simp[Rows.uptoBulk,Rows.uptoBulkAll];try omega
 obtain⟨j,l,A,u⟩:=DataW.trod_string Tryz.underlying9 o
 have C:j.size+1≤Rows.uptoBulk g.1:=by rw[A];simp[Rows.uptoBulk]
 obtain⟨k,m,B,y⟩:=DataW.trod_string Tryz.underlying9 p
 have D:k.size+1≤Rows.uptoBulk i.1:=by rw[B];simp[Rows.uptoBulk]
 simp only[List.cons.injEq,and_true]at l m
 subst l m
 exact⟨⟨j,k⟩,⟨rfl,Nat.le_trans u (by unfold maxLen;omega),Nat.le_trans y (by unfold maxLen;omega)⟩,by rw[s];unfold bkF;dsimp only;omega⟩
instance:Inhabited Src:=⟨⟨⟨#[]⟩,⟨#[]⟩⟩⟩
theorem open_srcs {e:Nat} {v:Value} {x:DataW H×List MemPlace} (h:DataW.trod enc Tryz.prog w base spare held e 33 [v]=some x):
  ∃(l:List Src) (A:Option Addr) (n c:Nat),v= .slice A n c∧l.length=n∧n≤9223372036854775807∧eU w A l∧sumB bkF l+1≤Rows.uptoBulk x.1:=by
 obtain⟨l,A,n,c,j,k,m,o,p⟩:=bz (α:=Src) Tryz.underlying33 (by kernel_rfl:Tryz.prog.cellsOf 86=2) (by decide) (fun a cs=>cs= [.string a.tb,.string a.al]∧a.tb.size≤9223372036854775807∧a.al.size≤9223372036854775807) bkF (fun e cs x h=>open_src h) h
 refine⟨l,A,n,c,j,k,m,?_,p⟩
 intro i a s
 obtain⟨cs,b,f,⟨rfl,t⟩,r,g⟩:=o i a s
 exact⟨t,b,f,r,by simpa using g 0 _ rfl,g 1 _ rfl⟩
theorem open_ord {e:Nat} {cs:List Value} {x:DataW H×List MemPlace} (h:DataW.trod enc Tryz.prog w base spare held e 88 cs=some x):
  ∃a:Ord',(cs= [.int .i64 a.it,.bool a.ds]∧I64 a.it)∧bkO a≤Rows.uptoBulk x.1:=by
 obtain⟨y,n,rfl,f,t,b,o⟩:=DataW.trod_struct Tryz.underlying88 h
 obtain⟨c0,c1,rfl⟩:=lst2 (t.trans (by kernel_rfl:Tryz.prog.cellsOf 88=2))
 have b:y.length=2:=b
 obtain⟨g,i,rfl⟩:=lst2 b
 have l:DataW.trod enc Tryz.prog w base spare held n 3 (List.take (Tryz.prog.cellsOf 3) (List.drop 0 [c0,c1]))=some g:=o 0 _ rfl
 have m:DataW.trod enc Tryz.prog w base spare held n 4 (List.take (Tryz.prog.cellsOf 4) (List.drop 1 [c0,c1]))=some i:=o 1 _ rfl
 simp only[cl_bool,lI,List.drop_zero,List.drop_succ_cons,List.take_succ_cons,List.take_zero]at l m
 have s:Rows.uptoBulk x.1=Rows.uptoBulk g.1+Rows.uptoBulk i.1+1:=by rw[f];simp[Rows.uptoBulk,Rows.uptoBulkAll];try omega
 obtain⟨p,j,_,u⟩:=DataW.trod_int Tryz.underlying3 l
 have z:=bV g.1
 obtain⟨r,k,_⟩:=DataW.trod_bool Tryz.underlying4 m
 have A:=bV i.1
 simp only[List.cons.injEq,and_true]at j k
 subst j k
 exact⟨⟨p,r⟩,⟨rfl,bounds_i64 u⟩,by rw[s];unfold bkO;omega⟩
instance:Inhabited Ord':=⟨⟨0,false⟩⟩
theorem open_ords {e:Nat} {v:Value} {x:DataW H×List MemPlace} (h:DataW.trod enc Tryz.prog w base spare held e 38 [v]=some x):
  ∃(l:List Ord') (A:Option Addr) (n c:Nat),v= .slice A n c∧l.length=n∧n≤9223372036854775807∧eV w A l∧sumB bkO l+1≤Rows.uptoBulk x.1:=by
 obtain⟨l,A,n,c,j,k,m,o,p⟩:=bz (α:=Ord') Tryz.underlying38 (by kernel_rfl:Tryz.prog.cellsOf 88=2) (by decide) (fun a cs=>cs= [.int .i64 a.it,.bool a.ds]∧I64 a.it) bkO (fun e cs x h=>open_ord h) h
 refine⟨l,A,n,c,j,k,m,?_,p⟩
 intro i a s
 obtain⟨cs,b,f,⟨rfl,t⟩,r,g⟩:=o i a s
 exact⟨t,b,f,r,by simpa using g 0 _ rfl,g 1 _ rfl⟩
theorem open_def {b:Nat} {cs:List Value} {x:DataW H×List MemPlace} (h:DataW.trod enc Tryz.prog w base spare held b 29 cs=some x):
  ∃(e:List Cd) (l1:List (List ByteArray)) (f:List Rf) (g:List Ex) (B1 B2 B3 B4:Sl),cs= [B1.v,B2.v,B3.v,B4.v]∧(e.length=B1.n∧B1.n≤9223372036854775807∧gh w B1.A e)∧(l1.length=B2.n∧B2.n≤9223372036854775807∧en w B2.A l1)∧(f.length=B3.n∧B3.n≤9223372036854775807∧gi w B3.A f)∧(g.length=B4.n∧B4.n≤9223372036854775807∧KidsAt w B4.A g)∧sumB eW e+sumB bkK l1+sumB gj f+sizeL g≤Rows.uptoBulk x.1:=by
 obtain⟨xs,n,rfl,j,O,a,i⟩:=DataW.trod_struct Tryz.underlying29 h
 obtain⟨c0,c1,c2,c3,rfl⟩:=lst4 (O.trans (by kernel_rfl:Tryz.prog.cellsOf 29=4))
 have a:xs.length=4:=a
 obtain⟨p,r,s,t,rfl⟩:=lst4 a
 have k:DataW.trod enc Tryz.prog w base spare held n 24 (List.take (Tryz.prog.cellsOf 24) (List.drop 0 [c0,c1,c2,c3]))=some p:=i 0 _ rfl
 have l:DataW.trod enc Tryz.prog w base spare held n 25 (List.take (Tryz.prog.cellsOf 25) (List.drop 1 [c0,c1,c2,c3]))=some r:=i 1 _ rfl
 have m:DataW.trod enc Tryz.prog w base spare held n 26 (List.take (Tryz.prog.cellsOf 26) (List.drop 2 [c0,c1,c2,c3]))=some s:=i 2 _ rfl
 have o:DataW.trod enc Tryz.prog w base spare held n 27 (List.take (Tryz.prog.cellsOf 27) (List.drop 3 [c0,c1,c2,c3]))=some t:=i 3 _ rfl
 simp only[cl_cols,pt,cl_frs,cl_keys,List.drop_zero,List.drop_succ_cons,List.take_succ_cons,List.take_zero]at k l m o
 have L:Rows.uptoBulk x.1=Rows.uptoBulk p.1+Rows.uptoBulk r.1+Rows.uptoBulk s.1+Rows.uptoBulk t.1+1:=by rw[j];simp[Rows.uptoBulk,Rows.uptoBulkAll];try omega
 obtain⟨C,u,Z,P,G,e,V,q0,p0⟩:=open_cols k
 subst G
 obtain⟨D,y,n1,Q,I,l1,W,q1,p1⟩:=open_keys l
 subst I
 obtain⟨E,z,n2,R,J,f,X,q2,p2⟩:=open_frs m
 subst J
 obtain⟨F,B,n3,U,K,g,Y,q3,p3⟩:=iy o
 subst K
 exact⟨C,D,E,F,⟨u,Z,P⟩,⟨y,n1,Q⟩,⟨z,n2,R⟩,⟨B,n3,U⟩,rfl,⟨e,V,q0⟩,⟨l1,W,q1⟩,⟨f,X,q2⟩,⟨g,Y,q3⟩,by rw[L];omega⟩
def St.bulk (s:St):Nat:=s.tb.size+(sumB eW s.cols+sumB bkK s.keys+sumB gj s.frs+sizeL s.chk)+sumB bkR s.vals+sumB bkA s.sets+sumB bkI s.itms+sumB bkF s.frm+s.whr.size+sizeL s.grp+sumB bkO s.ord+s.nm.size
theorem open_st {F:Nat} {cs:List Value} {x:DataW H×List MemPlace} (h:DataW.trod enc Tryz.prog w base spare held F 40 cs=some x):
  ∃(s:St) (a:SA),cs=s.cells a∧StV w s a∧s.bulk≤Rows.uptoBulk x.1:=by
 obtain⟨xs,n,rfl,L,hl,z,y⟩:=DataW.trod_struct Tryz.underlying40 h
 obtain⟨c0,c1,c2,c3,c4,c5,c6,c7,t,u,b,e,f,g,i,j,k,l,m,o,p,r,rfl⟩:=lst22 (hl.trans (by kernel_rfl:Tryz.prog.cellsOf 40=22))
 have z:xs.length=12:=z
 obtain⟨Q,R,x2,x3,x4,x5,x6,x7,x8,x9,A,B,rfl⟩:=lst12 z
 have Z:DataW.trod enc Tryz.prog w base spare held n 3 (List.take (Tryz.prog.cellsOf 3) (List.drop 0 [c0,c1,c2,c3,c4,c5,c6,c7,t,u,b,e,f,g,i,j,k,l,m,o,p,r]))=some Q:=y 0 _ rfl
 have h1:DataW.trod enc Tryz.prog w base spare held n 9 (List.take (Tryz.prog.cellsOf 9) (List.drop 1 [c0,c1,c2,c3,c4,c5,c6,c7,t,u,b,e,f,g,i,j,k,l,m,o,p,r]))=some R:=y 1 _ rfl
 have h2:DataW.trod enc Tryz.prog w base spare held n 29 (List.take (Tryz.prog.cellsOf 29) (List.drop 2 [c0,c1,c2,c3,c4,c5,c6,c7,t,u,b,e,f,g,i,j,k,l,m,o,p,r]))=some x2:=y 2 _ rfl
 have h3:DataW.trod enc Tryz.prog w base spare held n 30 (List.take (Tryz.prog.cellsOf 30) (List.drop 6 [c0,c1,c2,c3,c4,c5,c6,c7,t,u,b,e,f,g,i,j,k,l,m,o,p,r]))=some x3:=y 3 _ rfl
 have h4:DataW.trod enc Tryz.prog w base spare held n 31 (List.take (Tryz.prog.cellsOf 31) (List.drop 7 [c0,c1,c2,c3,c4,c5,c6,c7,t,u,b,e,f,g,i,j,k,l,m,o,p,r]))=some x4:=y 4 _ rfl
 have h5:DataW.trod enc Tryz.prog w base spare held n 32 (List.take (Tryz.prog.cellsOf 32) (List.drop 8 [c0,c1,c2,c3,c4,c5,c6,c7,t,u,b,e,f,g,i,j,k,l,m,o,p,r]))=some x5:=y 5 _ rfl
 have h6:DataW.trod enc Tryz.prog w base spare held n 33 (List.take (Tryz.prog.cellsOf 33) (List.drop 9 [c0,c1,c2,c3,c4,c5,c6,c7,t,u,b,e,f,g,i,j,k,l,m,o,p,r]))=some x6:=y 6 _ rfl
 have h7:DataW.trod enc Tryz.prog w base spare held n 37 (List.take (Tryz.prog.cellsOf 37) (List.drop 10 [c0,c1,c2,c3,c4,c5,c6,c7,t,u,b,e,f,g,i,j,k,l,m,o,p,r]))=some x7:=y 7 _ rfl
 have h8:DataW.trod enc Tryz.prog w base spare held n 27 (List.take (Tryz.prog.cellsOf 27) (List.drop 18 [c0,c1,c2,c3,c4,c5,c6,c7,t,u,b,e,f,g,i,j,k,l,m,o,p,r]))=some x8:=y 8 _ rfl
 have h9:DataW.trod enc Tryz.prog w base spare held n 38 (List.take (Tryz.prog.cellsOf 38) (List.drop 19 [c0,c1,c2,c3,c4,c5,c6,c7,t,u,b,e,f,g,i,j,k,l,m,o,p,r]))=some x9:=y 9 _ rfl
 have G:DataW.trod enc Tryz.prog w base spare held n 3 (List.take (Tryz.prog.cellsOf 3) (List.drop 20 [c0,c1,c2,c3,c4,c5,c6,c7,t,u,b,e,f,g,i,j,k,l,m,o,p,r]))=some A:=y 10 _ rfl
 have I:DataW.trod enc Tryz.prog w base spare held n 9 (List.take (Tryz.prog.cellsOf 9) (List.drop 21 [c0,c1,c2,c3,c4,c5,c6,c7,t,u,b,e,f,g,i,j,k,l,m,o,p,r]))=some B:=y 11 _ rfl
 simp only[cl_asgs,cl_def,oa,pt,lI,cl_itms,cl_ords,cl_rows,cl_srcs,lJ,List.drop_zero,List.drop_succ_cons,List.take_succ_cons,List.take_zero]at Z h1 h2 h3 h4 h5 h6 h7 h8 h9 G I
 have hb:Rows.uptoBulk x.1=Rows.uptoBulk Q.1+Rows.uptoBulk R.1+Rows.uptoBulk x2.1+Rows.uptoBulk x3.1+Rows.uptoBulk x4.1+Rows.uptoBulk x5.1+Rows.uptoBulk x6.1+Rows.uptoBulk x7.1+Rows.uptoBulk x8.1+Rows.uptoBulk x9.1+Rows.uptoBulk A.1+Rows.uptoBulk B.1+1:=by rw[L];simp[Rows.uptoBulk,Rows.uptoBulkAll];try omega
 obtain⟨a0,W,_,w0⟩:=DataW.trod_int Tryz.underlying3 Z
 have p0:=bV Q.1
 obtain⟨V,X,y1,w1⟩:=DataW.trod_string Tryz.underlying9 h1
 have p1:V.size+1≤Rows.uptoBulk R.1:=by rw[y1];simp[Rows.uptoBulk]
 obtain⟨l2,k2,m2,n2,B1,B2,B3,B4,Y,g2,i2,j2,o2,p2⟩:=open_def h2
 simp only[List.cons.injEq,and_true]at Y
 obtain⟨rfl,rfl,rfl,rfl⟩:=Y
 obtain⟨a3,A3,n3,k3,e3,l3,m3,q3,p3⟩:=open_rows h3
 subst e3
 obtain⟨a4,A4,n4,k4,e4,l4,m4,q4,p4⟩:=open_asgs h4
 subst e4
 obtain⟨a5,A5,n5,k5,e5,l5,m5,q5,p5⟩:=open_itms h5
 subst e5
 obtain⟨a6,A6,n6,k6,e6,l6,m6,q6,p6⟩:=open_srcs h6
 subst e6
 obtain⟨a7,q7,_,p7⟩:=i8 _ _ _ h7
 obtain⟨a8,A8,n8,k8,e8,l8,m8,q8,p8⟩:=iy h8
 subst e8
 obtain⟨a9,A9,n9,k9,e9,l9,m9,q9,p9⟩:=open_ords h9
 subst e9
 obtain⟨J,D,_,O⟩:=DataW.trod_int Tryz.underlying3 G
 have ac:=bV A.1
 obtain⟨C,E,U,P⟩:=DataW.trod_string Tryz.underlying9 I
 have ad:C.size+1≤Rows.uptoBulk B.1:=by rw[U];simp[Rows.uptoBulk]
 simp only[List.cons.injEq,and_true]at W X D E
 subst W X D E
 obtain⟨A7,n7,k7,K,hx⟩:=lL q7
 unfold Nd.cells at K
 simp only[List.cons.injEq,and_true]at K
 obtain⟨rfl,rfl,rfl,rfl,rfl,rfl,rfl,rfl⟩:=K
 refine⟨⟨a0,V,l2,k2,m2,n2,a3,a4,a5,a6,a7,a8,a9,J,C⟩,⟨B1,B2,B3,B4,⟨A3,n3,k3⟩,⟨A4,n4,k4⟩,⟨A5,n5,k5⟩,⟨A6,n6,k6⟩,⟨A7,n7,k7⟩,⟨A8,n8,k8⟩,⟨A9,n9,k9⟩⟩,rfl,?_,?_⟩
 ·exact⟨bounds_i64 w0,Nat.le_trans w1 (by unfold maxLen;omega),bounds_i64 O,Nat.le_trans P (by unfold maxLen;omega),g2,i2,j2,o2,⟨l3,m3,q3.1⟩,q3.2,⟨l4,m4,q4⟩,⟨l5,m5,q5⟩,⟨l6,m6,q6⟩,hx,⟨l8,m8,q8⟩,⟨l9,m9,q9⟩⟩
 ·rw[hb]
  unfold St.bulk
  dsimp only
  omega
end
theorem open_stmt {H:Type} {enc:TypeId×Value→H} {w:World} {base f:Nat} {r:Reach} {spare:Nat→Bool} {held:Bool} {v:Value} {d:DataW H} {p:List MemPlace} (m:Value.okWide Tryz.prog w r f 40 v)
  (h:DataW.Trod enc Tryz.prog w base spare held 40 v d p):∃(s:St) (a:SA),v=s.val a∧StV w s a∧s.bulk≤Rows.uptoBulk d:=by
 obtain⟨cs,rfl,k⟩:=okWide_struct Tryz.underlying40 m
 obtain⟨e,j⟩:=h
 obtain⟨s,a,b,g,i⟩:=open_st j
 refine⟨s,a,?_,g,i⟩
 obtain⟨l⟩:=cs
 have b:l=s.cells a:=b
 subst b
 rfl
end
end Go.Proofs.YtjigcpfjhfoheaaGreatDoor
