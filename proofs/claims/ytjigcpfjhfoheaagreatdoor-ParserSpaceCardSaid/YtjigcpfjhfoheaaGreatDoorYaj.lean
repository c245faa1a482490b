/- Walks: Grow of a nil slice of expressions; Walks: Concat of slices of expressions; Statements: plain functions, and how they lie in memory; Opening a statement; Opening a statement: its slices of strings are no longer than they ha. -/
import Derived.Test.YtjigcpfjhfoheaaGreatDoorYai
import Derived.Test.YtjigcpfjhfoheaaGreatDoorYaa
import Derived.Test.YtjigcpfjhfoheaaGreatDoorYae
import Derived.Deep.RegionHeld3
namespace Go.Proofs.YtjigcpfjhfoheaaGreatDoor
open Go.RowKit
set_option maxHeartbeats 4000000
set_option maxRecDepth 100000
set_option linter.unusedVariables false
set_option linter.unusedSimpArgs false
theorem lr:(Tryz.prog.info? 37).map (fun i=> (i.zero,i.size,i.bytes))=some (some (.agg #[.int .i64 0,.string ⟨#[]⟩,.string ⟨#[]⟩,.int .i64 0,.int .i64 0,.int .i64 0,.string ⟨#[]⟩,.slice none 0 0]),8,104):=by kernel_rfl
theorem kG (z:Array Value) (n:Nat):(Builtin.zeroCells z n).size=n*z.size:=by unfold Builtin.zeroCells;simp
theorem own_room (w:World) (e b a n m:Nat) (B:Nat) (cs:Array Value) (f:B≤w.heap.size) (h:cs.size=a*b) (g:a≤maxLen):(w.alloc (.cells cs e)).ownsRow B e b (.slice (some ⟨w.heap.size,0,none⟩) 0 a) 0 []:=
 ⟨by simp,.inr ⟨w.heap.size,a,cs,rfl,f,by show(w.heap.push _)[w.heap.size]? =_;simp,Nat.zero_le _,g,h,by simp⟩⟩
theorem grow_nil (w:World) (T:Nat) (i:T≤1000000000):Calls Tryz.prog 180 #[.slice none 0 0,.int .i64 (T:Int)] w fun r w'=>
  ∃v,r= .returned v∧w'.ownsRow w.heap.size 37 8 v 0 []∧Ext w w':=by
 obtain⟨e,hi,a,g,b⟩:=info_parts lr
 have k:decide ((T:Int)<0)=false:=by simp
 by_cases f:0<T
 ·have j:decide ((0:Int)<(T:Int))=true:=by simp;omega
  go_enter Tryz.func180,Tryz.ntmps180
  go_wp2_with (at_builtin;refine fz _ rfl (.tmp 20) (.tmp 21) _ _ rfl 37 e _ Tryz.underlying27 Tryz.underlying3 hi a T rfl rfl f (by omega) (by rw[b];omega) ?_)
  go_ret
  refine⟨_,rfl,?_,((Ext.refl w).drew).alloc _⟩
  have h:=lJ w T 0 37
  refine own_room w.drew 37 8 (grownCap w T 0 37) T T w.heap.size _ (Nat.le_refl _) ?_ (grownCap_le_maxLen w T 0 37 (by unfold maxLen;omega))
  rw[Array.size_append,kG,kG,←Nat.add_mul]
  show(T+(grownCap w T 0 37-T))*8=_
  congr 1
  omega
 ·obtain rfl:T=0:=by omega
  go_enter Tryz.func180,Tryz.ntmps180
  go_wp2_with fail
  go_ret
  exact⟨_,rfl,⟨rfl,.inl ⟨rfl,rfl⟩⟩,Ext.refl w⟩
inductive LC (w:World):List Ex→List Value→Prop
 |nil:LC w [] []
 |cons {e:Ex} {es:List Ex} {cs rest:List Value} :ExC w e cs→LC w es rest→LC w (e::es) (cs++rest)
theorem ls {w:World} {e:Ex} {cs:List Value} (h:ExC w e cs):cs.length=8∧∀u∈cs,u.oneCell'=true:=by
 cases e with
 |mk d ks=>
  rw[ExC]at h
  obtain⟨_,_,A,c,rfl,_⟩:=h
  refine⟨rfl,fun u a=>?_⟩
  simp[Nd.cells]at a
  rcases a with rfl|rfl|rfl|rfl|rfl|rfl|rfl|rfl<;>rfl
theorem LC.len {w:World} {l:List Ex} {b:List Value} (h:LC w l b):b.length=l.length*8∧∀u∈b,u.oneCell'=true:=by
 induction h with
 |nil=>exact⟨rfl,by simp⟩
 |cons hc _ ih=>
  obtain⟨f,e⟩:=ls hc
  refine⟨by rw[List.length_append,f,ih.1,List.length_cons];omega,fun u a=>?_⟩
  rcases List.mem_append.1 a with a|a
  ·exact e u a
  ·exact ih.2 u a
theorem LC.app {w:World} {l m:List Ex} {b a:List Value} (h:LC w l b) (k:LC w m a):LC w (l++m) (b++a):=by
 induction h with
 |nil=>exact k
 |cons hc _ ih=>rw[List.cons_append,List.append_assoc];exact .cons hc ih
theorem LC.one {w:World} {e:Ex} {cs:List Value} (h:ExC w e cs):LC w [e] cs:=by
 have:=LC.cons h LC.nil
 rwa [List.append_nil]at this
theorem LC.ext {w w':World} {l:List Ex} {a:List Value} (h:LC w l a) (b:Ext w w'):LC w' l a:=by
 induction h with
 |nil=>exact .nil
 |cons hc _ ih=>exact .cons (exc_ext b _ _ hc) ih
theorem LC.get {w:World} {l:List Ex} {g:List Value} (h:LC w l g):∀(i:Nat) (e:Ex),l[i]? =some e→∃cs,ExC w e cs∧∀(j:Nat) (v:Value),cs[j]? =some v→g[i*8+j]? =some v:=by
 induction h with
 |nil=>intro i e h;simp at h
 | @cons e es cs rest hc hr ih=>
  intro i x f
  obtain⟨m,_⟩:=ls hc
  cases i with
  |zero=>
   simp at f
   subst f
   refine⟨cs,hc,fun j v a=>?_⟩
   have o:=(List.getElem?_eq_some_iff.1 a).1
   rw[Nat.zero_mul,Nat.zero_add,List.getElem?_append_left o]
   exact a
  |succ i=>
   obtain⟨b,n,k⟩:=ih i x (by simpa using f)
   refine⟨b,n,fun j v a=>?_⟩
   rw[List.getElem?_append_right (by omega),m,show(i+1)*8+j-8=i*8+j by omega]
   exact k j v a
theorem nO {w:World} {A:Option Addr} {l:List Ex} {n:Nat} (h:KidsAt w A l) (D:l.length=n):∃f,LC w l f∧Reads w w.heap.size 8 A n f:=by
 have r:∀(l:List Ex) (i:Nat),ExsAt w l A i→∃f,LC w l f∧(l≠[]→∃b a,A=some ⟨b,a,none⟩∧b<w.heap.size∧∀j u,f[j]? =some u→w.cell? ⟨b,a+(i*8+j),none⟩=some u):=by
  intro l
  induction l with
  |nil=>intro i _;exact⟨[],.nil,fun h=>absurd rfl h⟩
  |cons e es ih=>
   intro i h
   rw[ExsAt]at h
   obtain⟨⟨cs,⟨b,a,p,C⟩,E⟩,F⟩:=h
   obtain⟨f,o,y⟩:=ih (i+1) F
   obtain⟨t,_⟩:=ls E
   have G:0<cs.length:=by omega
   have z:b<w.heap.size:=fT (C 0 cs[0] (List.getElem?_eq_getElem G))
   refine⟨cs++f,.cons E o,fun _=>⟨b,a,p,z,fun j u g=>?_⟩⟩
   by_cases I:j<8
   ·rw[List.getElem?_append_left (by omega)]at g
    have:=C j u g
    rwa [Nat.add_assoc]at this
   ·rw[List.getElem?_append_right (by omega),t]at g
    have q:es≠[]:=by
     rintro rfl
     have:=o.len.1
     have s:f= []:=List.eq_nil_of_length_eq_zero (by simpa using this)
     rw[s]at g
     simp at g
    obtain⟨J,B,k,_,x⟩:=y q
    rw[p]at k
    simp only[Option.some.injEq,Addr.mk.injEq,and_true]at k
    obtain⟨rfl,rfl⟩:=k
    have:=x (j-8) u g
    rwa [show(i+1)*8+(j-8)=i*8+j by omega]at this
 obtain⟨f,o,y⟩:=r l 0 h
 refine⟨f,o,by rw[o.len.1,D],fun K=>?_⟩
 obtain⟨b,a,p,z,x⟩:=y (by rintro rfl;simp at D;omega)
 refine⟨⟨b,a,none⟩,p,z,fun j u g=>?_⟩
 have:=x j u g
 rw[Nat.zero_mul,Nat.zero_add]at this
 have m:(⟨b,a,none⟩:Addr).add j=⟨b,a+j,none⟩:=by unfold Addr.add;split<;>simp_all
 rw[m]
 exact this
theorem my {w:World} {B e n:Nat} {v:Value} {l:List Ex} {q:List Value} (h:w.ownsRow B e 8 v n q) (m:LC w l q):∃A c,v= .slice A n c∧KidsAt w A l∧l.length=n:=by
 have p:l.length=n:=by have:=h.1;have:=m.len.1;omega
 have x:=fun g (r:v.ownBlock=some g)=>h.cells r
 have k:∀A,(∀i e,l[i]? =some e→∃cs,CellsAt w A (i*8) cs∧ExC w e cs)→KidsAt w A l:=by
  intro A t
  unfold KidsAt
  rw[cJ]
  intro j e a
  obtain⟨cs,o,f⟩:=t j e a
  exact⟨cs,by rwa [Nat.zero_add],f⟩
 rcases h.2 with ⟨rfl,h0⟩|⟨g,cap,cur,rfl,_⟩
 ·refine⟨none,0,by rw[h0],k _ ?_,p⟩
  intro i e a
  have:l= []:=List.eq_nil_of_length_eq_zero (by omega)
  subst this
  simp at a
 ·refine⟨_,_,rfl,k _ ?_,p⟩
  intro i e a
  obtain⟨cs,o,f⟩:=m.get i e a
  refine⟨cs,⟨g,0,rfl,fun j u s=>?_⟩,o⟩
  have:=x g rfl (i*8+j) u (f j u s)
  have b:∀j,(⟨g,0,none⟩:Addr).add j=⟨g,0+j,none⟩:=fun j=>by unfold Addr.add;split<;>simp_all
  rwa [b,←Nat.add_assoc]at this
def cV (w:World) (A:Option Addr) (L:List (List Ex)):Prop:=
 ∀(i:Nat) (l:List Ex),L[i]? =some l→∃b off Ai ni ci,A=some ⟨b,off,none⟩∧w.cell? ⟨b,off+i,none⟩=some (.slice Ai ni ci)∧l.length=ni∧KidsAt w Ai l
theorem cV.ext {w w':World} {A:Option Addr} {L:List (List Ex)} (h:cV w A L) (e:Ext w w'):cV w' A L:=fun i l k=>by
 obtain⟨b,a,m,g,f,n,p,o,j⟩:=h i l k
 exact⟨b,a,m,g,f,n,e.keep p,o,j.ext e⟩
theorem aI {α:Type} {L:List α} {i n:Nat} (a:L.length=n) (h:i<n):∃e,L[i]? =some e:=⟨_,List.getElem?_eq_getElem (by omega)⟩
theorem kH {α:Type} {L:List (List α)} {k:Nat} {l:List α} (h:L[k]? =some l):(L.take (k+1)).flatten=(L.take k).flatten++l:=by
 obtain⟨hi,rfl⟩:=List.getElem?_eq_some_iff.1 h
 rw[List.take_succ_eq_append_getElem hi,List.flatten_append]
 simp
theorem flat_le {α:Type} (L:List (List α)) (k:Nat):(L.take k).flatten.length≤L.flatten.length:=by
 conv=>rhs;rw[←List.take_append_drop k L,List.flatten_append,List.length_append]
 omega
theorem jF (L:List (List Ex)) (A:Option Addr) (n c:Nat) (w:World) (g:L.length=n) (hn:n≤9223372036854775807) (hr:cV w A L) (hT:L.flatten.length≤1000000000):
  Calls Tryz.prog 114 #[.slice A n c] w fun r w'=>
   ∃v m,r= .returned v∧w'.ownsRow w.heap.size 37 8 v L.flatten.length m∧LC w L.flatten m∧Ext w w':=by
 obtain⟨i0,hi,ax,a0,ad⟩:=info_parts lr
 have HL:=hid g
 have HR:=hid hr
 have HT:=hid hT
 clear g hr
 go_enter Tryz.func114,Tryz.ntmps114
 go_wp2_with fail
 go_loop [3,5,11] (fun sv _ iv=> ∃(k s:Nat),k≤n∧s≤1000000000∧iv= .int .i64 k∧sv= .int .i64 s∧s=(L.take k).flatten.length) (fun _ _ i=>n- (intOf i).toNat)
 case atStart=>exact⟨0,0,Nat.zero_le _,Nat.zero_le _,rfl,rfl,rfl⟩
 case round=>
  obtain⟨k,s,hk,hs,rfl,rfl,hv⟩:=hrel
  have W:=hid hv
  clear hv
  by_cases an:k<n
  ·obtain⟨l,g⟩:=aI HL an
   obtain⟨b,ac,Ai,D,ci,rfl,hc,a,o⟩:=HR k l g
   have C:=hid (kH g)
   have y:=hid a
   have a2:s+D≤1000000000:=by
    have h1:=flat_le L (k+1)
    rw[C.out,List.length_append]at h1
    have:=W.out
    have:=HT.out
    omega
   have d0:decide ((s:Int)+(D:Int)<0)=false:=by simp;omega
   clear g a o
   go_wp2_with fail
   go_round
   case rel=>exact⟨k+1,s+D,by omega,by omega,by go_num,by go_num,by rw[C.out,List.length_append,y.out,W.out]⟩
   case measure=>simp[intOf];omega
  ·obtain rfl:k=n:=by omega
   have B:Hid (L.take k=L):=List.take_of_length_le (Nat.le_of_eq HL)
   have a1:Hid (s=L.flatten.length):=by unfold Hid;rw[W.out,B.out]
   go_wp2_with (go_at_call 180;refine(grow_nil _ s hs).mono ?_;rintro _ w2 ⟨v0,rfl,f,Z⟩;have V:=hid f;clear f)
   go_loopw [6,8,27] (fun nv _ iv wr=> ∃(j:Nat) (m:List Value),j≤k∧iv= .int .i64 j∧wr.ownsRow w.heap.size 37 8 nv (L.take j).flatten.length m∧LC w (L.take j).flatten m∧Ext w wr) (fun _ _ i _=>k- (intOf i).toNat)
   case atStart=>exact⟨0,[],Nat.zero_le _,rfl,V,.nil,Z⟩
   case round=>
    obtain⟨j,m,hj,rfl,x,K,h⟩:=hrel
    have R:=hid x
    have I:=hid K
    have z:=hid h
    clear x K
    by_cases P:j<k
    ·obtain⟨l,g⟩:=aI HL P
     obtain⟨b,ac,Ai,D,ci,rfl,J,a,o⟩:=HR j l g
     have hc:=h.keep J
     have C:=hid (kH g)
     obtain⟨t,O,E⟩:=nO o a
     have G:=hid O
     have U:=hid (E.below h)
     have y:=hid a
     have ag:(L.take j).flatten.length+D≤1000000000:=by
      have h1:=flat_le L (j+1)
      rw[C.out,List.length_append]at h1
      have:=HT.out
      omega
     obtain⟨p,Q⟩:∃p,(L.take j).flatten.length=p:=⟨_,rfl⟩
     have HP:=hid Q
     rw[Q]at ag
     rw[Q]at R
     clear g a o O E J h Q
     go_wp2_with (at_builtin;refine ap _ rfl (.tmp 31) (.tmp 32) _ rfl w.heap.size 37 i0 _ 8 104 Tryz.underlying27 hi ax a0 ad rfl (by decide) _ p m rfl R w.heap.size Ai D ci t rfl U G.len.2 (by unfold maxLen;omega) (by omega) z.size ?_;intro v1 w3 e u F;have X:=hid e;have Y:=hid u;clear e u F)
     go_roundw
     case rel=>
      refine⟨j+1,m++t,by omega,by go_num,?_,?_,?_⟩
      ·rw[C.out,List.length_append,HP.out,y.out]
       exact X
      ·rw[C.out]
       exact I.app G
      ·refine z.grown Y fun q hq=> (R.lt q hq).1
     case measure=>simp[intOf];omega
    ·obtain rfl:j=k:=by omega
     go_wp2_with fail
     go_ret
     refine⟨_,m,rfl,?_,?_,z⟩
     ·have:=R.out
      rwa [B.out]at this
     ·have:=I.out
      rwa [B.out]at this
section
def St.all (s:St):List Ex:=s.chk++s.vals.flatten++s.grp++s.sets.map Asg.ex++s.itms.map Itm.ex++ [s.whr]
section
variable {w w':World}
def aO (w:World) (A:Option Addr) (l:List ByteArray):Prop:=
 ∀(i:Nat) (s:ByteArray),l[i]? =some s→s.size≤9223372036854775807∧∃b off,A=some ⟨b,off,none⟩∧w.cell? ⟨b,off+i,none⟩=some (.string s)
theorem aO.ext {A:Option Addr} {l:List ByteArray} (h:aO w A l) (g:Ext w w'):aO w' A l:=fun i s hs=>by
 obtain⟨e,b,a,f,j⟩:=h i s hs
 exact⟨e,b,a,f,g.keep j⟩
def gn (w:World) (A:Option Addr) (l:List Cd):Prop:=
 ∀(i:Nat) (x:Cd),l[i]? =some x→(x.nm.size≤9223372036854775807∧I64 x.ty∧I64 x.lo∧I64 x.hi∧I64 x.mx)∧∃b off,A=some ⟨b,off,none⟩∧w.cell? ⟨b,off+i*6,none⟩=some (.string x.nm)∧w.cell? ⟨b,off+i*6+1,none⟩=some (.int .i64 x.ty)∧
  w.cell? ⟨b,off+i*6+2,none⟩=some (.int .i64 x.lo)∧w.cell? ⟨b,off+i*6+3,none⟩=some (.int .i64 x.hi)∧w.cell? ⟨b,off+i*6+4,none⟩=some (.int .i64 x.mx)∧w.cell? ⟨b,off+i*6+5,none⟩=some (.bool x.nn)
theorem gn.ext {A:Option Addr} {l:List Cd} (h:gn w A l) (a:Ext w w'):gn w' A l:=fun i s hs=>by
 obtain⟨g,b,e,n,j,f,k,p,m,o⟩:=h i s hs
 exact⟨g,b,e,n,a.keep j,a.keep f,a.keep k,a.keep p,a.keep m,a.keep o⟩
def dX (w:World) (A:Option Addr) (L:List (List ByteArray)):Prop:=
 ∀(i:Nat) (l:List ByteArray),L[i]? =some l→∃b off Ai ni ci,A=some ⟨b,off,none⟩∧w.cell? ⟨b,off+i,none⟩=some (.slice Ai ni ci)∧l.length=ni∧ni≤9223372036854775807∧aO w Ai l
theorem dX.ext {A:Option Addr} {L:List (List ByteArray)} (h:dX w A L) (e:Ext w w'):dX w' A L:=fun i l k=>by
 obtain⟨b,a,n,g,f,o,q,p,m,j⟩:=h i l k
 exact⟨b,a,n,g,f,o,e.keep q,p,m,j.ext e⟩
def go (w:World) (A:Option Addr) (l:List Rf):Prop:=
 ∀(i:Nat) (x:Rf),l[i]? =some x→x.tb.size≤9223372036854775807∧∃b off A1 n1 c1 A2 n2 c2,A=some ⟨b,off,none⟩∧w.cell? ⟨b,off+i*3,none⟩=some (.slice A1 n1 c1)∧w.cell? ⟨b,off+i*3+1,none⟩=some (.string x.tb)∧
  w.cell? ⟨b,off+i*3+2,none⟩=some (.slice A2 n2 c2)∧x.cs.length=n1∧n1≤9223372036854775807∧aO w A1 x.cs∧x.tg.length=n2∧n2≤9223372036854775807∧aO w A2 x.tg
theorem go.ext {A:Option Addr} {l:List Rf} (h:go w A l) (a:Ext w w'):go w' A l:=fun i s hs=>by
 obtain⟨j,b,e,k,n1,c1,x,q,c2,r,m,f,p,y,o,u,t,n,g⟩:=h i s hs
 exact⟨j,b,e,k,n1,c1,x,q,c2,r,a.keep m,a.keep f,a.keep p,y,o,u.ext a,t,n,g.ext a⟩
def dF (w:World) (A:Option Addr) (l:List Asg):Prop:=
 ∀(i:Nat) (x:Asg),l[i]? =some x→(x.cl.size≤9223372036854775807∧I64 x.ix)∧∃b off A' n c,A=some ⟨b,off,none⟩∧w.cell? ⟨b,off+i*10,none⟩=some (.string x.cl)∧w.cell? ⟨b,off+i*10+1,none⟩=some (.int .i64 x.ix)∧bP w b (off+i*10+2) x.ex A' n c
theorem elt_ext {b o:Nat} {e:Ex} {A:Option Addr} {n c:Nat} (h:bP w b o e A n c) (a:Ext w w'):bP w' b o e A n c:=
 ⟨a.keep h.c0,a.keep h.c1,a.keep h.c2,a.keep h.c3,a.keep h.c4,a.keep h.c5,a.keep h.c6,a.keep h.c7,h.val.ext a⟩
theorem dF.ext {A:Option Addr} {l:List Asg} (h:dF w A l) (a:Ext w w'):dF w' A l:=fun i s hs=>by
 obtain⟨g,b,e,k,n,c,o,j,f,m⟩:=h i s hs
 exact⟨g,b,e,k,n,c,o,a.keep j,a.keep f,elt_ext m a⟩
def dG (w:World) (A:Option Addr) (l:List Itm):Prop:=
 ∀(i:Nat) (x:Itm),l[i]? =some x→I64 x.ag∧∃b off A' n c,A=some ⟨b,off,none⟩∧w.cell? ⟨b,off+i*9,none⟩=some (.int .i64 x.ag)∧bP w b (off+i*9+1) x.ex A' n c
theorem dG.ext {A:Option Addr} {l:List Itm} (h:dG w A l) (e:Ext w w'):dG w' A l:=fun i s hs=>by
 obtain⟨g,b,a,k,n,c,m,j,f⟩:=h i s hs
 exact⟨g,b,a,k,n,c,m,e.keep j,elt_ext f e⟩
def dY (w:World) (A:Option Addr) (l:List Src):Prop:=
 ∀(i:Nat) (x:Src),l[i]? =some x→(x.tb.size≤9223372036854775807∧x.al.size≤9223372036854775807)∧∃b off,A=some ⟨b,off,none⟩∧w.cell? ⟨b,off+i*2,none⟩=some (.string x.tb)∧w.cell? ⟨b,off+i*2+1,none⟩=some (.string x.al)
theorem dY.ext {A:Option Addr} {l:List Src} (h:dY w A l) (e:Ext w w'):dY w' A l:=fun i s hs=>by
 obtain⟨g,b,a,k,j,f⟩:=h i s hs
 exact⟨g,b,a,k,e.keep j,e.keep f⟩
def dZ (w:World) (A:Option Addr) (l:List Ord'):Prop:=
 ∀(i:Nat) (x:Ord'),l[i]? =some x→I64 x.it∧∃b off,A=some ⟨b,off,none⟩∧w.cell? ⟨b,off+i*2,none⟩=some (.int .i64 x.it)∧w.cell? ⟨b,off+i*2+1,none⟩=some (.bool x.ds)
theorem dZ.ext {A:Option Addr} {l:List Ord'} (h:dZ w A l) (e:Ext w w'):dZ w' A l:=fun i s hs=>by
 obtain⟨g,b,a,k,j,f⟩:=h i s hs
 exact⟨g,b,a,k,e.keep j,e.keep f⟩
end
structure Sl where
 A:Option Addr
 n:Nat
 c:Nat
def Sl.v (s:Sl):Value:= .slice s.A s.n s.c
structure SA where
 cols:Sl
 keys:Sl
 frs:Sl
 chk:Sl
 vals:Sl
 sets:Sl
 itms:Sl
 frm:Sl
 whr:Sl
 grp:Sl
 ord:Sl
def St.cells (s:St) (a:SA):List Value:=
 (sC (k:=s.kd) (t:=s.tb) (a:=a.cols.v) (b:=a.keys.v) (c:=a.frs.v) (d:=a.chk.v) (v:=a.vals.v) (s:=a.sets.v) (i:=a.itms.v) (f:=a.frm.v) (o:=s.whr.d.op) (q:=s.whr.d.tb) (m:=s.whr.d.nm) (x:=s.whr.d.ix) (y:=s.whr.d.vk) (z:=s.whr.d.vi) (u:=s.whr.d.vt) (e:=a.whr.v) (g:=a.grp.v) (r:=a.ord.v) (l:=s.lim) (n:=s.nm))
def St.val (s:St) (a:SA):Value:= .agg (s.cells a).toArray
structure StV (w:World) (s:St) (a:SA):Prop where
 kd:I64 s.kd
 tb:s.tb.size≤9223372036854775807
 lim:I64 s.lim
 nm:s.nm.size≤9223372036854775807
 cols:s.cols.length=a.cols.n∧a.cols.n≤9223372036854775807∧gn w a.cols.A s.cols
 keys:s.keys.length=a.keys.n∧a.keys.n≤9223372036854775807∧dX w a.keys.A s.keys
 frs:s.frs.length=a.frs.n∧a.frs.n≤9223372036854775807∧go w a.frs.A s.frs
 chk:s.chk.length=a.chk.n∧a.chk.n≤9223372036854775807∧KidsAt w a.chk.A s.chk
 vals:s.vals.length=a.vals.n∧a.vals.n≤9223372036854775807∧cV w a.vals.A s.vals
 valn:∀l∈s.vals,l.length≤9223372036854775807
 sets:s.sets.length=a.sets.n∧a.sets.n≤9223372036854775807∧dF w a.sets.A s.sets
 itms:s.itms.length=a.itms.n∧a.itms.n≤9223372036854775807∧dG w a.itms.A s.itms
 frm:s.frm.length=a.frm.n∧a.frm.n≤9223372036854775807∧dY w a.frm.A s.frm
 whr:ExV w s.whr a.whr.A a.whr.n a.whr.c
 grp:s.grp.length=a.grp.n∧a.grp.n≤9223372036854775807∧KidsAt w a.grp.A s.grp
 ord:s.ord.length=a.ord.n∧a.ord.n≤9223372036854775807∧dZ w a.ord.A s.ord
theorem StV.ext {w w':World} {s:St} {a:SA} (h:StV w s a) (b:Ext w w'):StV w' s a:=
 ⟨h.kd,h.tb,h.lim,h.nm,⟨h.cols.1,h.cols.2.1,h.cols.2.2.ext b⟩,⟨h.keys.1,h.keys.2.1,h.keys.2.2.ext b⟩,⟨h.frs.1,h.frs.2.1,h.frs.2.2.ext b⟩,⟨h.chk.1,h.chk.2.1,h.chk.2.2.ext b⟩,⟨h.vals.1,h.vals.2.1,h.vals.2.2.ext b⟩,h.valn,
  ⟨h.sets.1,h.sets.2.1,h.sets.2.2.ext b⟩,⟨h.itms.1,h.itms.2.1,h.itms.2.2.ext b⟩,⟨h.frm.1,h.frm.2.1,h.frm.2.2.ext b⟩,h.whr.ext b,⟨h.grp.1,h.grp.2.1,h.grp.2.2.ext b⟩,⟨h.ord.1,h.ord.2.1,h.ord.2.2.ext b⟩⟩
end
section
open Go.ChangeShapes Go.WideShapes Go.Deep Go.RowKit
def sumB {α:Type} (bk:α→Nat):List α→Nat
 | []=>0
 |a::l=>bk a+sumB bk l
theorem bv {α:Type} {bk:α→Nat} (h:∀a,1≤bk a):∀l:List α,l.length≤sumB bk l
 | []=>Nat.le_refl _
 |a::l=>by have:=bv h l;have:=h a;rw[sumB,List.length_cons];omega
section
variable {H:Type}
end
section
variable {H:Type} {enc:TypeId×Value→H} {w:World} {spare:Nat→Bool} {held:Bool} {base:Nat}
instance:Inhabited Ex:=⟨exZ⟩
def bkS (s:ByteArray):Nat:=s.size+1
def bkK (l:List ByteArray):Nat:=sumB bkS l+1
def bkR (l:List Ex):Nat:=sizeL l+1
def fq (x:Cd):Nat:=x.nm.size+1
instance:Inhabited Cd:=⟨⟨⟨#[]⟩,0,0,0,0,false⟩⟩
def iE (x:Rf):Nat:=sumB bkS x.cs+sumB bkS x.tg+x.tb.size+1
instance:Inhabited Rf:=⟨⟨[],⟨#[]⟩,[]⟩⟩
def bkA (x:Asg):Nat:=x.cl.size+x.ex.size+1
def bkI (x:Itm):Nat:=x.ex.size+1
def bkF (x:Src):Nat:=x.tb.size+x.al.size+1
def bkO (_:Ord'):Nat:=1
instance:Inhabited Asg:=⟨⟨⟨#[]⟩,0,exZ⟩⟩
instance:Inhabited Itm:=⟨⟨0,exZ⟩⟩
instance:Inhabited Src:=⟨⟨⟨#[]⟩,⟨#[]⟩⟩⟩
instance:Inhabited Ord':=⟨⟨0,false⟩⟩
def St.bulk (s:St):Nat:=s.tb.size+(sumB fq s.cols+sumB bkK s.keys+sumB iE s.frs+sizeL s.chk)+sumB bkR s.vals+sumB bkA s.sets+sumB bkI s.itms+sumB bkF s.frm+s.whr.size+sizeL s.grp+sumB bkO s.ord+s.nm.size
end
end
section
open Go.ChangeShapes Go.WideShapes Go.Deep Go.RowKit
def CapK (w:World) (A:Option Addr) (n:Nat):Prop:=∀i,i<n→∃b off Ai ni ci,A=some ⟨b,off,none⟩∧w.cell? ⟨b,off+i,none⟩=some (.slice Ai ni ci)∧ni≤ci
def CapR (w:World) (A:Option Addr) (n:Nat):Prop:=∀i,i<n→∃b off A1 n1 c1 A2 n2 c2,A=some ⟨b,off,none⟩∧w.cell? ⟨b,off+i*3,none⟩=some (.slice A1 n1 c1)∧n1≤c1∧w.cell? ⟨b,off+i*3+2,none⟩=some (.slice A2 n2 c2)∧n2≤c2
theorem CapK.ext {w w':World} {A:Option Addr} {n:Nat} (h:CapK w A n) (m:Ext w w'):CapK w' A n:=fun i hi=>by
 obtain⟨b,a,l,g,e,j,f,k⟩:=h i hi
 exact⟨b,a,l,g,e,j,m.keep f,k⟩
theorem CapR.ext {w w':World} {A:Option Addr} {n:Nat} (h:CapR w A n) (e:Ext w w'):CapR w' A n:=fun i hi=>by
 obtain⟨b,a,g,n1,c1,o,m,c2,j,f,l,p,k⟩:=h i hi
 exact⟨b,a,g,n1,c1,o,m,c2,j,e.keep f,l,e.keep p,k⟩
theorem CapK.at {w:World} {b a n i:Nat} (h:CapK w (some ⟨b,a,none⟩) n) (hi:i<n) {m:Option Addr} {g f:Nat} (o:w.cell? ⟨b,a+i,none⟩=some (.slice m g f)):g≤f:=by
 obtain⟨s,k,r,p,q,j,e,l⟩:=h i hi
 simp only[Option.some.injEq,Addr.mk.injEq,and_true]at j
 obtain⟨rfl,rfl⟩:=j
 rw[o]at e
 simp only[Option.some.injEq,Value.slice.injEq]at e
 obtain⟨_,rfl,rfl⟩:=e
 exact l
theorem CapR.at {w:World} {b a n i:Nat} (h:CapR w (some ⟨b,a,none⟩) n) (hi:i<n) {q:Option Addr} {n1 c1:Nat} (p:w.cell? ⟨b,a+i*3,none⟩=some (.slice q n1 c1))
  {s:Option Addr} {g c2:Nat} (hd:w.cell? ⟨b,a+i*3+2,none⟩=some (.slice s g c2)):n1≤c1∧g≤c2:=by
 obtain⟨z,j,y,r,u,t,l,m,k,f,x,e,o⟩:=h i hi
 simp only[Option.some.injEq,Addr.mk.injEq,and_true]at k
 obtain⟨rfl,rfl⟩:=k
 rw[p]at f
 rw[hd]at e
 simp only[Option.some.injEq,Value.slice.injEq]at f e
 obtain⟨_,rfl,rfl⟩:=f
 obtain⟨_,rfl,rfl⟩:=e
 exact⟨x,o⟩
section
variable {H:Type} {enc:TypeId×Value→H} {w:World} {spare:Nat→Bool} {held:Bool} {base:Nat}
instance:Inhabited Sl:=⟨⟨none,0,0⟩⟩
end
end
theorem ownN_ext {w w':World} {B e b n:Nat} {v:Value} {f:List Value} (h:w.ownsRow B e b v n f) (j:Ext w w'):w'.ownsRow B e b v n f:=by
 obtain⟨i,a⟩:=h
 refine⟨i,?_⟩
 rcases a with a|⟨g,cap,cur,hv,hg,hh,r⟩
 ·exact .inl a
 ·exact .inr ⟨g,cap,cur,hv,hg,(Below.block j g (Array.getElem?_eq_some_iff.1 hh).1).trans hh,r⟩
theorem news_at (w:World) (cs:Array Value) (e:TypeId) (n:Nat) (a:n=w.heap.size):∀(j:Nat) (u:Value),cs.toList[j]? =some u→(w.alloc (.cells cs e)).cell? ((⟨n,0,none⟩:Addr).add j)=some u:=by
 subst a
 exact fV w cs e
theorem gW {w:World} {e:Ex} {A:Option Addr} {n c:Nat} (h:ExV w e A n c):ExC w e (e.d.cells A n c):=by
 obtain⟨d,ks⟩:=e
 rw[ExC]
 have a:=h.len
 have a:ks.length=n:=a
 subst a
 exact⟨h.fit,h.le,A,c,rfl,h.kids⟩
theorem mz {α β:Type} {l:List α} {k:Nat} {x:α} (f:α→β) (h:l[k]? =some x):(l.take (k+1)).map f=(l.take k).map f++ [f x]:=by
 obtain⟨hi,rfl⟩:=List.getElem?_eq_some_iff.1 h
 rw[List.take_succ_eq_append_getElem hi,List.map_append]
 rfl
theorem mA (L:List (List Ex)) (A:Option Addr) (n c:Nat) (w:World) (j:L.length=n) (l:n≤9223372036854775807) (e:cV w A L) (g:L.flatten.length≤1000000000):
  Calls Tryz.prog 114 #[.slice A n c] w fun r w'=> ∃a b,r= .returned (.slice a L.flatten.length b)∧KidsAt w' a L.flatten∧Ext w w':=
 (jF L A n c w j l e g).mono fun r w' ⟨v,o,e,h,m,f⟩=>by
  obtain⟨a,b,rfl,k,i⟩:=my h (m.ext f)
  exact⟨a,b,e,k,f⟩
theorem rows3 {w:World} {g t:Nat} {f n e:Option Addr} {n1 k b c1 c2 c3:Nat} {o m h:List Ex} (j:Blk w g t [.slice f n1 c1,.slice n k c2,.slice e b c3])
  (q:o.length=n1∧KidsAt w f o) (p:m.length=k∧KidsAt w n m) (r:h.length=b∧KidsAt w e h):cV w (some ⟨g,0,none⟩) [o,m,h]:=by
 intro i l a
 match i with
 |0=>simp at a;subst a;exact⟨g,0,f,n1,c1,rfl,by simpa using j.cell 0,q.1,q.2⟩
 |1=>simp at a;subst a;exact⟨g,0,n,k,c2,rfl,by simpa using j.cell 1,p.1,p.2⟩
 |2=>simp at a;subst a;exact⟨g,0,e,b,c3,rfl,by simpa using j.cell 2,r.1,r.2⟩
 |i+3=>simp at a
theorem gp {w:World} {A:Option Addr} {l:List Asg} (h:dF w A l) {i:Nat} {x:Asg} (m:l[i]? =some x):∃b a f n c,A=some ⟨b,a,none⟩∧w.cell? ⟨b,a+i*10,none⟩=some (.string x.cl)∧w.cell? ⟨b,a+i*10+1,none⟩=some (.int .i64 x.ix)∧
  w.cell? ⟨b,a+i*10+2,none⟩=some (.int .i64 x.ex.d.op)∧w.cell? ⟨b,a+i*10+3,none⟩=some (.string x.ex.d.tb)∧w.cell? ⟨b,a+i*10+4,none⟩=some (.string x.ex.d.nm)∧w.cell? ⟨b,a+i*10+5,none⟩=some (.int .i64 x.ex.d.ix)∧
  w.cell? ⟨b,a+i*10+6,none⟩=some (.int .i64 x.ex.d.vk)∧w.cell? ⟨b,a+i*10+7,none⟩=some (.int .i64 x.ex.d.vi)∧w.cell? ⟨b,a+i*10+8,none⟩=some (.string x.ex.d.vt)∧w.cell? ⟨b,a+i*10+9,none⟩=some (.slice f n c)∧ExV w x.ex f n c:=by
 obtain⟨_,b,a,f,n,c,k,j,g,e⟩:=h i x m
 exact⟨b,a,f,n,c,k,j,g,e.c0,e.c1,e.c2,e.c3,e.c4,e.c5,e.c6,e.c7,e.val⟩
theorem gq {w:World} {A:Option Addr} {l:List Itm} (h:dG w A l) {i:Nat} {x:Itm} (k:l[i]? =some x):∃b a f n c,A=some ⟨b,a,none⟩∧w.cell? ⟨b,a+i*9,none⟩=some (.int .i64 x.ag)∧
  w.cell? ⟨b,a+i*9+1,none⟩=some (.int .i64 x.ex.d.op)∧w.cell? ⟨b,a+i*9+2,none⟩=some (.string x.ex.d.tb)∧w.cell? ⟨b,a+i*9+3,none⟩=some (.string x.ex.d.nm)∧w.cell? ⟨b,a+i*9+4,none⟩=some (.int .i64 x.ex.d.ix)∧
  w.cell? ⟨b,a+i*9+5,none⟩=some (.int .i64 x.ex.d.vk)∧w.cell? ⟨b,a+i*9+6,none⟩=some (.int .i64 x.ex.d.vi)∧w.cell? ⟨b,a+i*9+7,none⟩=some (.string x.ex.d.vt)∧w.cell? ⟨b,a+i*9+8,none⟩=some (.slice f n c)∧ExV w x.ex f n c:=by
 obtain⟨_,b,a,f,n,c,j,g,e⟩:=h i x k
 exact⟨b,a,f,n,c,j,g,e.c0,e.c1,e.c2,e.c3,e.c4,e.c5,e.c6,e.c7,e.val⟩
theorem fL (d:Nd) (A:Option Addr) (n c:Nat):∀u∈d.cells A n c,u.oneCell'=true:=by
 intro u a
 simp[Nd.cells]at a
 rcases a with rfl|rfl|rfl|rfl|rfl|rfl|rfl|rfl<;>rfl
theorem all_any (s:St) (a:SA) (w:World) (J:StV w s a) (hT:s.all.length≤100000000):
  Calls Tryz.prog 63 #[s.val a] w fun r w'=> ∃A c,r= .returned (.slice A s.all.length c)∧KidsAt w' A s.all∧Ext w w':=by
 obtain⟨i0,hi,ag,a0,X⟩:=info_parts lr
 have Q:=hid J
 have cd:=hid hT
 have HB:=hid (Blk.of_new w 40 (s.cells a))
 have HX:=hid ((Ext.refl w).alloc (.cells (s.cells a).toArray 40))
 have cc:=J.sets.2.1
 have b3:=J.itms.2.1
 have a2:s.vals.flatten.length≤100000000∧(s.chk++s.vals.flatten++s.grp).length≤100000000∧(s.chk++s.vals.flatten++s.grp++s.sets.map Asg.ex).length≤100000000∧(s.chk++s.vals.flatten++s.grp++s.sets.map Asg.ex++s.itms.map Itm.ex).length<100000000:=by
  unfold St.all at hT
  simp only[List.length_append,List.length_singleton]at*
  omega
 have Y:=hid a2
 have a9:=hid (fun W (hW:Ext w W)=>mA s.vals a.vals.A a.vals.n a.vals.c W J.vals.1 J.vals.2.1 (J.vals.2.2.ext hW) (by omega))
 have a3:Hid (∀(W:World) (g':Nat) (G:Option Addr) (P:Nat),Ext w W→KidsAt W G s.vals.flatten→Blk W g' 27 [.slice a.chk.A a.chk.n a.chk.c,.slice G s.vals.flatten.length P,.slice a.grp.A a.grp.n a.grp.c]→
   Calls Tryz.prog 114 #[.slice (some ⟨g',0,none⟩) 3 3] W fun r w'=> ∃v t,r= .returned v∧w'.ownsRow W.heap.size 37 8 v (s.chk++s.vals.flatten++s.grp).length t∧LC W (s.chk++s.vals.flatten++s.grp) t∧Ext W w'):=by
  intro W g' G P hW hk hb
  have he: [s.chk,s.vals.flatten,s.grp].flatten=s.chk++s.vals.flatten++s.grp:=by simp
  have:=jF [s.chk,s.vals.flatten,s.grp] _ 3 3 W rfl (by omega) (rows3 hb ⟨J.chk.1,J.chk.2.2.ext hW⟩ ⟨rfl,hk⟩ ⟨J.grp.1,J.grp.2.2.ext hW⟩) (by rw[he];omega)
  rwa [he]at this
 clear J hT a2
 unfold St.val
 unfold St.cells at*
 unfold Sl.v at*
 have ax:=hid Q.sets.2.2
 have an:=hid Q.itms.2.2
 generalize a.sets.A=P1 at*
 generalize a.itms.A=P2 at*
 go_enter Tryz.func63,Tryz.ntmps63
 go_wp2_with fail
 generalize w.alloc (.cells _ 40)=w1 at*
 generalize w.heap.size=g at*
 obtain⟨-,-,-,-,-,c5,c6,-,-,-,-,-,-,-,-,-,-,-,ad,-⟩:=cls HB
 generalize s.vals.flatten.length=V at*
 go_region_held3 (fun w'=>w'.cell? ⟨g,5,none⟩=some (.slice a.chk.A a.chk.n a.chk.c)∧w'.cell? ⟨g,6,none⟩=some (.slice a.vals.A a.vals.n a.vals.c)∧w'.cell? ⟨g,18,none⟩=some (.slice a.grp.A a.grp.n a.grp.c))
  (first|go_keep|exact⟨l.keep c5,l.keep c6,l.keep ad⟩|exact⟨B.keep (((Ext.refl w2).alloc _).keep (l.keep c5)),B.keep (((Ext.refl w2).alloc _).keep (l.keep c6)),B.keep (((Ext.refl w2).alloc _).keep (l.keep ad))⟩)
  (first
   |(go_at_call 114;(with_reducible refine(a9.out _ HX.out.drew).mono ?_);rintro _ w2 ⟨A1,c1,rfl,bd,l⟩)
   |(go_at_call 114;(with_reducible refine(a3.out _ _ A1 c1 ((HX.out.drew.trans l).alloc _) (bd.ext ((Ext.refl w2).alloc _)) (Blk.of_new w2 _ _)).mono ?_);rintro _ w3 ⟨v3,bN,rfl,E,U,B⟩))
 have bY:=Blk.of_new w2 27 [.slice a.chk.A a.chk.n a.chk.c,.slice A1 V c1,.slice a.grp.A a.grp.n a.grp.c]
 have R:=hid ((HX.drew.trans l).alloc (.cells #[.slice a.chk.A a.chk.n a.chk.c,.slice A1 V c1,.slice a.grp.A a.grp.n a.grp.c] 27))
 have ac:=hid ((HB.ext (((Ext.refl w1).drew.trans l).alloc (.cells #[.slice a.chk.A a.chk.n a.chk.c,.slice A1 V c1,.slice a.grp.A a.grp.n a.grp.c] 27))))
 have bk:=hid E
 have bf:=hid U
 rename_i hHeld
 clear hHeld E U bY a9 a3 c5 c6 ad bd
 generalize w2.alloc (.cells #[.slice a.chk.A a.chk.n a.chk.c,.slice A1 V c1,.slice a.grp.A a.grp.n a.grp.c] 27)=D at*
 generalize a1:s.chk++s.vals.flatten++s.grp=L0 at*
 have c7:=(ac.ext B).cell 7
 simp only[List.getElem?_cons_succ,List.getElem?_cons_zero]at c7
 have bx:=hid B
 clear l B
 go_wp2_with fail
 go_loopw [3,21] (fun V iv wr=> ∃(k:Nat) (t:List Value),k≤a.sets.n∧iv= .int .i64 k∧wr.ownsRow D.heap.size 37 8 V (L0++(s.sets.take k).map Asg.ex).length t∧LC D (L0++(s.sets.take k).map Asg.ex) t∧Ext D wr) (fun _ i _=>a.sets.n- (intOf i).toNat)
 case atStart=>exact⟨0,bN,Nat.zero_le _,rfl,by simpa using bk.out,by simpa using bf.out,bx⟩
 case round=>
  obtain⟨k,t,hk,rfl,u,L,e⟩:=hrel
  have z:=hid u
  have y:=hid L
  have m:=hid e
  clear u L
  by_cases Z:k<a.sets.n
  ·obtain⟨x,hx⟩:=aI Q.sets.1 Z
   obtain⟨b,bn,G,n',P,rfl,q0,q1,q2,q3,q4,q5,q6,q7,q8,q9,O⟩:=gp (ax.ext R) hx
   replace q0:=e.keep q0
   replace q1:=e.keep q1
   replace q2:=e.keep q2
   replace q3:=e.keep q3
   replace q4:=e.keep q4
   replace q5:=e.keep q5
   replace q6:=e.keep q6
   replace q7:=e.keep q7
   replace q8:=e.keep q8
   replace q9:=e.keep q9
   have o:=hid (gW O)
   have K:=hid (mz Asg.ex hx)
   have j:=hid (fL x.ex.d G n' P)
   obtain⟨p,C⟩:∃p,(L0++(s.sets.take k).map Asg.ex).length=p:=⟨_,rfl⟩
   have HP:=hid C
   rw[C]at z
   have a6:p+1≤100000000:=by
    have h1:=Y.2.2.1
    have h2:(s.sets.take (k+1)).length≤s.sets.length:=by rw[List.length_take];omega
    rw[←C]
    simp only[List.length_append,List.length_map,List.length_take]at*
    have:=Q.sets.1
    omega
   clear hx O C e
   unfold Nd.cells at o j
   generalize hd:x.ex.d=d at*
   obtain⟨op,tb,nm,ix,vk,vi,vt⟩:=d
   simp only at*
   clear hd
   go_wp2_with (at_builtin;refine wpList_append_own _ rfl (.tmp 25) (.tmp 28) 27 rfl D.heap.size 37 i0 _ 8 104 Tryz.underlying27 hi ag a0 X rfl (by decide) _ p t rfl (ownN_ext z (((Ext.refl wr).alloc _).alloc _)) ⟨_,0,none⟩ 1 1 (eC op tb nm ix vk vi vt G n' P) rfl rfl (news_at _ _ _ _ (by simp)) j (by unfold maxLen;omega) (by omega) (by simp;have:=m.size;omega) ?_;intro v1 w5 f h _;have I:=hid f;have F:=hid h;clear f h)
   go_roundw
   case rel=>
    refine⟨k+1,t++(eC op tb nm ix vk vi vt G n' P),by omega,by go_num,?_,?_,?_⟩
    ·rw[K.out,←List.append_assoc,List.length_append,HP.out]
     exact I
    ·rw[K.out,←List.append_assoc]
     exact y.app (LC.one o)
    ·refine((m.alloc _).alloc _).grown F fun q hq=> (z.lt q hq).1
   case measure=>simp[intOf];omega
  ·obtain rfl:k=a.sets.n:=by omega
   have bw:Hid (s.sets.take a.sets.n=s.sets):=List.take_of_length_le (Nat.le_of_eq Q.sets.1)
   rw[bw.out]at z y
   generalize a5:L0++s.sets.map Asg.ex=L1 at*
   have c8:=(ac.ext e).cell 8
   simp only[List.getElem?_cons_succ,List.getElem?_cons_zero]at c8
   clear e
   go_wp2_with fail
   go_loopw [3,34] (fun V iv wr=> ∃(k:Nat) (t:List Value),k≤a.itms.n∧iv= .int .i64 k∧wr.ownsRow D.heap.size 37 8 V (L1++(s.itms.take k).map Itm.ex).length t∧LC D (L1++(s.itms.take k).map Itm.ex) t∧Ext D wr) (fun _ i _=>a.itms.n- (intOf i).toNat)
   case atStart=>exact⟨0,t,Nat.zero_le _,rfl,by simpa using z.out,by simpa using y.out,m⟩
   case round=>
    clear z y m
    obtain⟨k,t,hk,rfl,u,L,e⟩:=hrel
    have z:=hid u
    have y:=hid L
    have m:=hid e
    clear u L
    by_cases Z:k<a.itms.n
    ·obtain⟨x,hx⟩:=aI Q.itms.1 Z
     obtain⟨b,bn,G,n',P,rfl,q0,q1,q2,q3,q4,q5,q6,q7,q8,O⟩:=gq (an.ext R) hx
     replace q0:=e.keep q0
     replace q1:=e.keep q1
     replace q2:=e.keep q2
     replace q3:=e.keep q3
     replace q4:=e.keep q4
     replace q5:=e.keep q5
     replace q6:=e.keep q6
     replace q7:=e.keep q7
     replace q8:=e.keep q8
     have o:=hid (gW O)
     have K:=hid (mz Itm.ex hx)
     have j:=hid (fL x.ex.d G n' P)
     obtain⟨p,C⟩:∃p,(L1++(s.itms.take k).map Itm.ex).length=p:=⟨_,rfl⟩
     have HP:=hid C
     rw[C]at z
     have a6:p+1≤100000000:=by
      have h1:=Y.2.2.2
      have h2:(s.itms.take (k+1)).length≤s.itms.length:=by rw[List.length_take];omega
      rw[←C]
      simp only[List.length_append,List.length_map,List.length_take]at*
      have:=Q.itms.1
      omega
     clear hx O C e
     unfold Nd.cells at o j
     generalize hd:x.ex.d=d at*
     obtain⟨op,tb,nm,ix,vk,vi,vt⟩:=d
     simp only at*
     clear hd
     go_wp2_with (at_builtin;refine wpList_append_own _ rfl (.tmp 38) (.tmp 41) 27 rfl D.heap.size 37 i0 _ 8 104 Tryz.underlying27 hi ag a0 X rfl (by decide) _ p t rfl (ownN_ext z (((Ext.refl wr).alloc _).alloc _)) ⟨_,0,none⟩ 1 1 (eC op tb nm ix vk vi vt G n' P) rfl rfl (news_at _ _ _ _ (by simp)) j (by unfold maxLen;omega) (by omega) (by simp;have:=m.size;omega) ?_;intro v1 w5 f h _;have I:=hid f;have F:=hid h;clear f h)
     go_roundw
     case rel=>
      refine⟨k+1,t++(eC op tb nm ix vk vi vt G n' P),by omega,by go_num,?_,?_,?_⟩
      ·rw[K.out,←List.append_assoc,List.length_append,HP.out]
       exact I
      ·rw[K.out,←List.append_assoc]
       exact y.app (LC.one o)
      ·refine((m.alloc _).alloc _).grown F fun q hq=> (z.lt q hq).1
     case measure=>simp[intOf];omega
    ·obtain rfl:k=a.itms.n:=by omega
     have bm:Hid (s.itms.take a.itms.n=s.itms):=List.take_of_length_le (Nat.le_of_eq Q.itms.1)
     rw[bm.out]at z y
     have hb:=ac.ext e
     obtain⟨-,-,-,-,-,-,-,-,-,-,cb,b5,b2,b6,b9,b7,cf,b4,-⟩:=cls hb
     have o:=hid (gW (Q.whr.ext R))
     have j:=hid (fL s.whr.d a.whr.A a.whr.n a.whr.c)
     obtain⟨p,C⟩:∃p,(L1++s.itms.map Itm.ex).length=p:=⟨_,rfl⟩
     have HP:=hid C
     rw[C]at z
     have a6:p+1≤100000000:=by
      have h1:=Y.2.2.2
      omega
     have a4:Hid (s.all=L1++s.itms.map Itm.ex++ [s.whr]):=by unfold Hid St.all;rw[a1,a5]
     clear hb e C a1 a5
     unfold Nd.cells at o j
     generalize hd:s.whr.d=d at*
     obtain⟨op,tb,nm,ix,vk,vi,vt⟩:=d
     simp only at*
     clear hd
     go_wp2_with (at_builtin;refine wpList_append_own _ rfl (.tmp 44) (.tmp 47) 27 rfl D.heap.size 37 i0 _ 8 104 Tryz.underlying27 hi ag a0 X rfl (by decide) _ p t rfl (ownN_ext z ((Ext.refl wr).alloc _)) ⟨_,0,none⟩ 1 1 (eC op tb nm ix vk vi vt a.whr.A a.whr.n a.whr.c) rfl rfl (news_at _ _ _ _ (by simp)) j (by unfold maxLen;omega) (by omega) (by simp;have:=m.size;omega) ?_;intro v1 w5 f h _;have I:=hid f;have F:=hid h;clear f h)
     go_ret
     have be:Ext D w5:=(m.alloc _).grown F fun q hq=> (z.lt q hq).1
     have ba:LC D s.all (t++(eC op tb nm ix vk vi vt a.whr.A a.whr.n a.whr.c)):=by rw[a4.out];exact y.app (LC.one o)
     obtain⟨A5,c5,rfl,b0,b1⟩:=my I (ba.ext be)
     rw[b1]
     exact⟨A5,c5,rfl,b0,R.trans be⟩
def sWhere:ByteArray:=⟨#[32,87,72,69,82,69,32]⟩
def iS:ByteArray:=⟨#[68,69,76,69,84,69,32,70,82,79,77,32]⟩
mutual
def Ex.num (n:Int):Ex→Ex
 | .mk d ks=> .mk { d with ix:=n } (numL n ks)
def numL (n:Int):List Ex→List Ex
 | []=> []
 |e::es=>e.num n::numL n es
end
def Same (lo hi:Nat) (skip:Option Nat) (w w2:World):Prop:=∀b,lo≤b→b<hi→some b≠skip→w2.heap[b]? =w.heap[b]?
end Go.Proofs.YtjigcpfjhfoheaaGreatDoor
