/- Walks: Grow of a nil slice of expressions; Walks: Concat of slices of expressions; Statements: plain functions, and how they lie in memory; Opening a statement; Opening a statement: its slices of strings are no longer than they ha. -/
import Derived.Test.YtjigcpfjhfoheaaGreatDoorVaf
import Derived.Deep.RegionHeld3
namespace Go.Proofs.YtjigcpfjhfoheaaGreatDoor
open Go.RowKit List Go.Proofs.Tryz
set_option maxHeartbeats 4000000
set_option maxRecDepth 100000
set_option linter.unusedVariables false
set_option linter.unusedSimpArgs false
theorem oU:(prog.info? 37).map (fun i=> (i.zero,i.size,i.bytes))=some (some (.agg #[i4 0,.string ⟨#[]⟩,.string ⟨#[]⟩,i4 0,i4 0,i4 0,.string ⟨#[]⟩,.slice none 0 0]),8,104):=by kernel_rfl
theorem rk (z:Array Value) (n:Nat):(Builtin.zeroCells z n).size=n*z.size:=by unfold Builtin.zeroCells;simp
theorem fF (w:World) (e sz a n m:Nat) (B:Nat) (cs:Array Value) (b:B≤w.heap.size) (f:cs.size=a*sz) (g:a≤maxLen):(w.alloc (.cells cs e)).ownsRow B e sz (.slice (some ⟨w.heap.size,0,none⟩) 0 a) 0 []:=
 ⟨by simp,.inr ⟨w.heap.size,a,cs,rfl,b,by show(w.heap.push _)[w.heap.size]? =_;simp,Nat.zero_le _,g,f,by simp⟩⟩
theorem grow_nil (w:World) (T:Nat) (k:T≤1000000000):Cl 180 #[.slice none 0 0,i4 (T:Int)] w fun r w'=>
  ∃v,r= .returned v∧w'.ownsRow w.heap.size 37 8 v 0 []∧Ext w w':=by
 obtain⟨h,hi,a,g,b⟩:=info_parts oU
 have i:decide ((T:Int)<0)=false:=by simp
 by_cases e:0<T
 ·have j:decide ((0:Int)<(T:Int))=true:=by simp;omega
  go_enter func180,ntmps180
  go_wp2_with (at_builtin;refine lh _ rfl (.tmp 20) (.tmp 21) _ _ rfl 37 h _ underlying27 underlying3 hi a T rfl rfl e (by omega) (by rw[b];omega) ?_)
  go_ret
  refine⟨_,rfl,?_,((Ext.refl w).drew).alloc _⟩
  have f:=ub w T 0 37
  refine fF w.drew 37 8 (grownCap w T 0 37) T T w.heap.size _ (Nat.le_refl _) ?_ (grownCap_le_maxLen w T 0 37 (by unfold maxLen;omega))
  rw[Array.size_append,rk,rk,←Nat.add_mul]
  show(T+(grownCap w T 0 37-T))*8=_
  congr 1
  omega
 ·obtain rfl:T=0:=by omega
  go_enter func180,ntmps180
  go_wp2_with fail
  go_ret
  exact⟨_,rfl,⟨rfl,.inl ⟨rfl,rfl⟩⟩,Ext.refl w⟩
inductive LC (w:World):List Ex→LV→Prop
 |nil:LC w [] []
 |cons {e:Ex} {es:List Ex} {cs rest:LV} :ExC w e cs→LC w es rest→LC w (e::es) (cs++rest)
theorem sT {w:World} {e:Ex} {cs:LV} (h:ExC w e cs):cs.length=8∧∀u∈cs,u.oneCell'=true:=by
 cases e with
 |mk d ks=>
  rw[ExC]at h
  obtain⟨_,_,A,c,rfl,_⟩:=h
  refine⟨rfl,fun u a=>?_⟩
  simp[Nd.cells]at a
  rcases a with rfl|rfl|rfl|rfl|rfl|rfl|rfl|rfl<;>rfl
theorem LC.len {w:World} {l:List Ex} {b:LV} (h:LC w l b):b.length=l.length*8∧∀u∈b,u.oneCell'=true:=by
 induction h with
 |nil=>exact⟨rfl,by simp⟩
 |cons hc _ ih=>
  obtain⟨e,f⟩:=sT hc
  refine⟨by rw[length_append,e,ih.1,length_cons];omega,fun u a=>?_⟩
  rcases List.mem_append.1 a with a|a
  ·exact f u a
  ·exact ih.2 u a
theorem LC.app {w:World} {l m:List Ex} {a b:LV} (h:LC w l a) (k:LC w m b):LC w (l++m) (a++b):=by
 induction h with
 |nil=>exact k
 |cons hc _ ih=>rw[cons_append,append_assoc];exact .cons hc ih
theorem LC.one {w:World} {e:Ex} {cs:LV} (h:ExC w e cs):LC w [e] cs:=by
 have:=LC.cons h LC.nil
 rwa [append_nil]at this
theorem LC.ext {w w':World} {l:List Ex} {a:LV} (h:LC w l a) (b:Ext w w'):LC w' l a:=by
 induction h with
 |nil=>exact .nil
 |cons hc _ ih=>exact .cons (exc_ext b _ _ hc) ih
theorem LC.get {w:World} {l:List Ex} {g:LV} (h:LC w l g):∀(i:Nat) (e:Ex),l[i]? =some e→∃cs,ExC w e cs∧∀(j:Nat) (v:Value),cs[j]? =some v→g[i*8+j]? =some v:=by
 induction h with
 |nil=>intro i e h;simp at h
 | @cons e es cs rest hc hr ih=>
  intro i x f
  obtain⟨o,_⟩:=sT hc
  cases i with
  |zero=>
   simp at f
   subst f
   refine⟨cs,hc,fun j v a=>?_⟩
   have n:=(List.getElem?_eq_some_iff.1 a).1
   rw[Nat.zero_mul,Nat.zero_add,getElem?_append_left n]
   exact a
  |succ i=>
   obtain⟨b,k,m⟩:=ih i x (by simpa using f)
   refine⟨b,k,fun j v a=>?_⟩
   rw[getElem?_append_right (by omega),o,show(i+1)*8+j-8=i*8+j by omega]
   exact m j v a
theorem je {w:World} {A:OA} {l:List Ex} {n:Nat} (h:KidsAt w A l) (E:l.length=n):∃f,LC w l f∧Reads w w.heap.size 8 A n f:=by
 have B:∀(l:List Ex) (i:Nat),ExsAt w l A i→∃f,LC w l f∧(l≠[]→∃b a,A=some ⟨b,a,none⟩∧b<w.heap.size∧∀j u,f[j]? =some u→w.cell? ⟨b,a+(i*8+j),none⟩=some u):=by
  intro l
  induction l with
  |nil=>intro i _;exact⟨[],.nil,fun h=>absurd rfl h⟩
  |cons e es ih=>
   intro i h
   rw[ExsAt]at h
   obtain⟨⟨cs,⟨b,a,p,C⟩,D⟩,J⟩:=h
   obtain⟨f,m,r⟩:=ih (i+1) J
   obtain⟨x,_⟩:=sT D
   have G:0<cs.length:=by omega
   have t:b<w.heap.size:=lT (C 0 cs[0] (getElem?_eq_getElem G))
   refine⟨cs++f,.cons D m,fun _=>⟨b,a,p,t,fun j u g=>?_⟩⟩
   by_cases I:j<8
   ·rw[getElem?_append_left (by omega)]at g
    have:=C j u g
    rwa [Nat.add_assoc]at this
   ·rw[getElem?_append_right (by omega),x]at g
    have y:es≠[]:=by
     rintro rfl
     have:=m.len.1
     have z:f= []:=eq_nil_of_length_eq_zero (by simpa using this)
     rw[z]at g
     simp at g
    obtain⟨K,F,k,_,s⟩:=r y
    rw[p]at k
    simp only[Option.some.injEq,Addr.mk.injEq,and_true]at k
    obtain⟨rfl,rfl⟩:=k
    have:=s (j-8) u g
    rwa [show(i+1)*8+(j-8)=i*8+j by omega]at this
 obtain⟨f,m,r⟩:=B l 0 h
 refine⟨f,m,by rw[m.len.1,E],fun L=>?_⟩
 obtain⟨b,a,p,t,s⟩:=r (by rintro rfl;simp at E;omega)
 refine⟨⟨b,a,none⟩,p,t,fun j u g=>?_⟩
 have:=s j u g
 rw[Nat.zero_mul,Nat.zero_add]at this
 have o:(⟨b,a,none⟩:Addr).add j=⟨b,a+j,none⟩:=by unfold Addr.add;split<;>simp_all
 rw[o]
 exact this
theorem pH {w:World} {B e n:Nat} {v:Value} {l:List Ex} {r:LV} (h:w.ownsRow B e 8 v n r) (o:LC w l r):∃A c,v= .slice A n c∧KidsAt w A l∧l.length=n:=by
 have p:l.length=n:=by have:=h.1;have:=o.len.1;omega
 have t:=fun g (x:v.ownBlock=some g)=>h.cells x
 have m:∀A,(∀i e,l[i]? =some e→∃cs,CellsAt w A (i*8) cs∧ExC w e cs)→KidsAt w A l:=by
  intro A s
  unfold KidsAt
  rw[dO]
  intro j e b
  obtain⟨cs,k,f⟩:=s j e b
  exact⟨cs,by rwa [Nat.zero_add],f⟩
 rcases h.2 with ⟨rfl,h0⟩|⟨g,cap,cur,rfl,_⟩
 ·refine⟨none,0,by rw[h0],m _ ?_,p⟩
  intro i e b
  have:l= []:=eq_nil_of_length_eq_zero (by omega)
  subst this
  simp at b
 ·refine⟨_,_,rfl,m _ ?_,p⟩
  intro i e b
  obtain⟨cs,k,f⟩:=o.get i e b
  refine⟨cs,⟨g,0,rfl,fun j u y=>?_⟩,k⟩
  have:=t g rfl (i*8+j) u (f j u y)
  have a:∀j,(⟨g,0,none⟩:Addr).add j=⟨g,0+j,none⟩:=fun j=>by unfold Addr.add;split<;>simp_all
  rwa [a,←Nat.add_assoc]at this
def ep (w:World) (A:OA) (L:List (List Ex)):Prop:=
 ∀(i:Nat) (l:List Ex),L[i]? =some l→∃b off Ai ni ci,A=some ⟨b,off,none⟩∧w.cell? ⟨b,off+i,none⟩=some (.slice Ai ni ci)∧l.length=ni∧KidsAt w Ai l
theorem ep.ext {w w':World} {A:OA} {L:List (List Ex)} (h:ep w A L) (e:Ext w w'):ep w' A L:=fun i l n=>by
 obtain⟨b,a,f,p,g,j,k,o,m⟩:=h i l n
 exact⟨b,a,f,p,g,j,e.keep k,o,m.ext e⟩
theorem aC {α:Type} {L:List α} {i n:Nat} (a:L.length=n) (h:i<n):∃e,L[i]? =some e:=⟨_,getElem?_eq_getElem (by omega)⟩
theorem nF {α:Type} {L:List (List α)} {k:Nat} {l:List α} (h:L[k]? =some l):(L.take (k+1)).flatten=(L.take k).flatten++l:=by
 obtain⟨hi,rfl⟩:=List.getElem?_eq_some_iff.1 h
 rw[take_succ_eq_append_getElem hi,flatten_append]
 simp
theorem sU {α:Type} (L:List (List α)) (k:Nat):(L.take k).flatten.length≤L.flatten.length:=by
 conv=>rhs;rw[←take_append_drop k L,flatten_append,length_append]
 omega
theorem pI (L:List (List Ex)) (A:OA) (n c:Nat) (w:World) (g:L.length=n) (hn:n≤9223372036854775807) (hr:ep w A L) (hT:L.flatten.length≤1000000000):
  Cl 114 #[.slice A n c] w fun r w'=>
   ∃v o,r= .returned v∧w'.ownsRow w.heap.size 37 8 v L.flatten.length o∧LC w L.flatten o∧Ext w w':=by
 obtain⟨i0,hi,an,ax,aS⟩:=info_parts oU
 have V:=hid g
 have HR:=hid hr
 have HT:=hid hT
 clear g hr
 go_enter func114,ntmps114
 go_wp2_with fail
 go_loop [3,5,11] (fun sv _ iv=> ∃(k s:Nat),k≤n∧s≤1000000000∧iv= i4 k∧sv= i4 s∧s=(L.take k).flatten.length) (fun _ _ i=>n- (intOf i).toNat)
 case atStart=>exact⟨0,0,Nat.zero_le _,Nat.zero_le _,rfl,rfl,rfl⟩
 case round=>
  obtain⟨k,s,hk,hs,rfl,rfl,hv⟩:=hrel
  have Z:=hid hv
  clear hv
  by_cases ad:k<n
  ·obtain⟨l,g⟩:=aC V ad
   obtain⟨b,a0,Ai,D,ci,rfl,hc,a,h⟩:=HR k l g
   have C:=hid (nF g)
   have y:=hid a
   have a2:s+D≤1000000000:=by
    have h1:=sU L (k+1)
    rw[C.out,length_append]at h1
    have:=Z.out
    have:=HT.out
    omega
   have d0:decide ((s:Int)+(D:Int)<0)=false:=by simp;omega
   clear g a h
   go_wp2_with fail
   go_round
   case rel=>exact⟨k+1,s+D,by omega,by omega,by go_num,by go_num,by rw[C.out,length_append,y.out,Z.out]⟩
   case measure=>simp[intOf];omega
  ·obtain rfl:k=n:=by omega
   have z:Hid (L.take k=L):=take_of_length_le (Nat.le_of_eq V)
   have a1:Hid (s=L.flatten.length):=by unfold Hid;rw[Z.out,z.out]
   go_wp2_with (go_at_call 180;refine(grow_nil _ s hs).mono ?_;rintro _ w2 ⟨v0,rfl,e,ag⟩;have X:=hid e;clear e)
   go_loopw [6,8,27] (fun nv _ iv wr=> ∃(j:Nat) (o:LV),j≤k∧iv= i4 j∧wr.ownsRow w.heap.size 37 8 nv (L.take j).flatten.length o∧LC w (L.take j).flatten o∧Ext w wr) (fun _ _ i _=>k- (intOf i).toNat)
   case atStart=>exact⟨0,[],Nat.zero_le _,rfl,X,.nil,ag⟩
   case round=>
    obtain⟨j,o,hj,rfl,u,J,m⟩:=hrel
    have Q:=hid u
    have E:=hid J
    have B:=hid m
    clear u J
    by_cases K:j<k
    ·obtain⟨l,g⟩:=aC V K
     obtain⟨b,a0,Ai,D,ci,rfl,I,a,h⟩:=HR j l g
     have hc:=m.keep I
     have C:=hid (nF g)
     obtain⟨x,O,P⟩:=je h a
     have F:=hid O
     have W:=hid (P.below m)
     have y:=hid a
     have ac:(L.take j).flatten.length+D≤1000000000:=by
      have h1:=sU L (j+1)
      rw[C.out,length_append]at h1
      have:=HT.out
      omega
     obtain⟨p,R⟩:∃p,(L.take j).flatten.length=p:=⟨_,rfl⟩
     have HP:=hid R
     rw[R]at ac
     rw[R]at Q
     clear g a h O P I m R
     go_wp2_with (at_builtin;refine wpList_append_any _ rfl (.tmp 31) (.tmp 32) _ rfl w.heap.size 37 i0 _ 8 104 underlying27 hi an ax aS rfl (by decide) _ p o rfl Q.out w.heap.size Ai D ci x rfl W.out F.out.len.2 (by unfold maxLen;omega) (by omega) B.out.size ?_;intro v1 w3 f t G;have Y:=hid f;have U:=hid t;clear f t G)
     go_roundw
     case rel=>
      refine⟨j+1,o++x,by omega,by go_num,?_,?_,?_⟩
      ·rw[C.out,length_append,HP.out,y.out]
       exact Y
      ·rw[C.out]
       exact E.app F
      ·refine B.grown U fun q hq=> (Q.lt q hq).1
     case measure=>simp[intOf];omega
    ·obtain rfl:j=k:=by omega
     go_wp2_with fail
     go_ret
     refine⟨_,o,rfl,?_,?_,B⟩
     ·have:=Q.out
      rwa [z.out]at this
     ·have:=E.out
      rwa [z.out]at this
section
def St.all (s:St):List Ex:=s.chk++s.vals.flatten++s.grp++s.sets.map Asg.ex++s.itms.map Itm.ex++ [s.whr]
section
variable {w w':World}
def bi (w:World) (A:OA) (l:List BA):Prop:=
 ∀(i:Nat) (s:BA),l[i]? =some s→s.size≤9223372036854775807∧∃b off,A=some ⟨b,off,none⟩∧w.cell? ⟨b,off+i,none⟩=some (.string s)
theorem bi.ext {A:OA} {l:List BA} (h:bi w A l) (j:Ext w w'):bi w' A l:=fun i s hs=>by
 obtain⟨e,b,a,f,g⟩:=h i s hs
 exact⟨e,b,a,f,j.keep g⟩
def jz (w:World) (A:OA) (l:List Cd):Prop:=
 ∀(i:Nat) (x:Cd),l[i]? =some x→(x.nm.size≤9223372036854775807∧I64 x.ty∧I64 x.lo∧I64 x.hi∧I64 x.mx)∧∃b off,A=some ⟨b,off,none⟩∧w.cell? ⟨b,off+i*6,none⟩=some (.string x.nm)∧w.cell? ⟨b,off+i*6+1,none⟩=some (i4 x.ty)∧
  w.cell? ⟨b,off+i*6+2,none⟩=some (i4 x.lo)∧w.cell? ⟨b,off+i*6+3,none⟩=some (i4 x.hi)∧w.cell? ⟨b,off+i*6+4,none⟩=some (i4 x.mx)∧w.cell? ⟨b,off+i*6+5,none⟩=some (.bool x.nn)
theorem jz.ext {A:OA} {l:List Cd} (h:jz w A l) (a:Ext w w'):jz w' A l:=fun i s hs=>by
 obtain⟨f,b,e,p,g,j,k,m,n,o⟩:=h i s hs
 exact⟨f,b,e,p,a.keep g,a.keep j,a.keep k,a.keep m,a.keep n,a.keep o⟩
def fL (w:World) (A:OA) (L:List (List BA)):Prop:=
 ∀(i:Nat) (l:List BA),L[i]? =some l→∃b off Ai ni ci,A=some ⟨b,off,none⟩∧w.cell? ⟨b,off+i,none⟩=some (.slice Ai ni ci)∧l.length=ni∧ni≤9223372036854775807∧bi w Ai l
theorem fL.ext {A:OA} {L:List (List BA)} (h:fL w A L) (e:Ext w w'):fL w' A L:=fun i l n=>by
 obtain⟨b,a,f,r,g,j,k,p,o,m⟩:=h i l n
 exact⟨b,a,f,r,g,j,e.keep k,p,o,m.ext e⟩
def jA (w:World) (A:OA) (l:List Rf):Prop:=
 ∀(i:Nat) (x:Rf),l[i]? =some x→x.tb.size≤9223372036854775807∧∃b off A1 n1 c1 A2 n2 c2,A=some ⟨b,off,none⟩∧w.cell? ⟨b,off+i*3,none⟩=some (.slice A1 n1 c1)∧w.cell? ⟨b,off+i*3+1,none⟩=some (.string x.tb)∧
  w.cell? ⟨b,off+i*3+2,none⟩=some (.slice A2 n2 c2)∧x.cs.length=n1∧n1≤9223372036854775807∧bi w A1 x.cs∧x.tg.length=n2∧n2≤9223372036854775807∧bi w A2 x.tg
theorem jA.ext {A:OA} {l:List Rf} (h:jA w A l) (a:Ext w w'):jA w' A l:=fun i s hs=>by
 obtain⟨j,b,e,f,z,c1,g,B,c2,y,k,m,n,o,p,r,t,u,x⟩:=h i s hs
 exact⟨j,b,e,f,z,c1,g,B,c2,y,a.keep k,a.keep m,a.keep n,o,p,r.ext a,t,u,x.ext a⟩
def fM (w:World) (A:OA) (l:List Asg):Prop:=
 ∀(i:Nat) (x:Asg),l[i]? =some x→(x.cl.size≤9223372036854775807∧I64 x.ix)∧∃b off A' n c,A=some ⟨b,off,none⟩∧w.cell? ⟨b,off+i*10,none⟩=some (.string x.cl)∧w.cell? ⟨b,off+i*10+1,none⟩=some (i4 x.ix)∧dI w b (off+i*10+2) x.ex A' n c
theorem elt_ext {b o:Nat} {e:Ex} {A:OA} {n c:Nat} (h:dI w b o e A n c) (a:Ext w w'):dI w' b o e A n c:=
 ⟨a.keep h.c0,a.keep h.c1,a.keep h.c2,a.keep h.c3,a.keep h.c4,a.keep h.c5,a.keep h.c6,a.keep h.c7,h.val.ext a⟩
theorem fM.ext {A:OA} {l:List Asg} (h:fM w A l) (a:Ext w w'):fM w' A l:=fun i s hs=>by
 obtain⟨g,b,e,f,n,c,o,j,k,m⟩:=h i s hs
 exact⟨g,b,e,f,n,c,o,a.keep j,a.keep k,elt_ext m a⟩
def fN (w:World) (A:OA) (l:List Itm):Prop:=
 ∀(i:Nat) (x:Itm),l[i]? =some x→I64 x.ag∧∃b off A' n c,A=some ⟨b,off,none⟩∧w.cell? ⟨b,off+i*9,none⟩=some (i4 x.ag)∧dI w b (off+i*9+1) x.ex A' n c
theorem fN.ext {A:OA} {l:List Itm} (h:fN w A l) (e:Ext w w'):fN w' A l:=fun i s hs=>by
 obtain⟨g,b,a,f,n,c,m,j,k⟩:=h i s hs
 exact⟨g,b,a,f,n,c,m,e.keep j,elt_ext k e⟩
def iz (w:World) (A:OA) (l:List Src):Prop:=
 ∀(i:Nat) (x:Src),l[i]? =some x→(x.tb.size≤9223372036854775807∧x.al.size≤9223372036854775807)∧∃b off,A=some ⟨b,off,none⟩∧w.cell? ⟨b,off+i*2,none⟩=some (.string x.tb)∧w.cell? ⟨b,off+i*2+1,none⟩=some (.string x.al)
theorem iz.ext {A:OA} {l:List Src} (h:iz w A l) (e:Ext w w'):iz w' A l:=fun i s hs=>by
 obtain⟨f,b,a,k,g,j⟩:=h i s hs
 exact⟨f,b,a,k,e.keep g,e.keep j⟩
def iA (w:World) (A:OA) (l:List Ord'):Prop:=
 ∀(i:Nat) (x:Ord'),l[i]? =some x→I64 x.it∧∃b off,A=some ⟨b,off,none⟩∧w.cell? ⟨b,off+i*2,none⟩=some (i4 x.it)∧w.cell? ⟨b,off+i*2+1,none⟩=some (.bool x.ds)
theorem iA.ext {A:OA} {l:List Ord'} (h:iA w A l) (e:Ext w w'):iA w' A l:=fun i s hs=>by
 obtain⟨f,b,a,k,g,j⟩:=h i s hs
 exact⟨f,b,a,k,e.keep g,e.keep j⟩
end
structure Sl where
 A:OA
 n:Nat
 c:Nat
def Sl.v (s:Sl):Value:= .slice s.A s.n s.c
structure SA where
 cols:Sl
 keys:Sl
 frs:Sl
 chk:Sl
 vals:Sl
 sets:Sl
 itms:Sl
 frm:Sl
 whr:Sl
 grp:Sl
 ord:Sl
def St.cells (s:St) (a:SA):LV:=
 (sC (k:=s.kd) (t:=s.tb) (a:=a.cols.v) (b:=a.keys.v) (c:=a.frs.v) (d:=a.chk.v) (v:=a.vals.v) (s:=a.sets.v) (i:=a.itms.v) (f:=a.frm.v) (o:=s.whr.d.op) (q:=s.whr.d.tb) (m:=s.whr.d.nm) (x:=s.whr.d.ix) (y:=s.whr.d.vk) (z:=s.whr.d.vi) (u:=s.whr.d.vt) (e:=a.whr.v) (g:=a.grp.v) (r:=a.ord.v) (l:=s.lim) (n:=s.nm))
def St.val (s:St) (a:SA):Value:= .agg (s.cells a).toArray
structure StV (w:World) (s:St) (a:SA):Prop where
 kd:I64 s.kd
 tb:s.tb.size≤9223372036854775807
 lim:I64 s.lim
 nm:s.nm.size≤9223372036854775807
 cols:s.cols.length=a.cols.n∧a.cols.n≤9223372036854775807∧jz w a.cols.A s.cols
 keys:s.keys.length=a.keys.n∧a.keys.n≤9223372036854775807∧fL w a.keys.A s.keys
 frs:s.frs.length=a.frs.n∧a.frs.n≤9223372036854775807∧jA w a.frs.A s.frs
 chk:s.chk.length=a.chk.n∧a.chk.n≤9223372036854775807∧KidsAt w a.chk.A s.chk
 vals:s.vals.length=a.vals.n∧a.vals.n≤9223372036854775807∧ep w a.vals.A s.vals
 valn:∀l∈s.vals,l.length≤9223372036854775807
 sets:s.sets.length=a.sets.n∧a.sets.n≤9223372036854775807∧fM w a.sets.A s.sets
 itms:s.itms.length=a.itms.n∧a.itms.n≤9223372036854775807∧fN w a.itms.A s.itms
 frm:s.frm.length=a.frm.n∧a.frm.n≤9223372036854775807∧iz w a.frm.A s.frm
 whr:ExV w s.whr a.whr.A a.whr.n a.whr.c
 grp:s.grp.length=a.grp.n∧a.grp.n≤9223372036854775807∧KidsAt w a.grp.A s.grp
 ord:s.ord.length=a.ord.n∧a.ord.n≤9223372036854775807∧iA w a.ord.A s.ord
theorem StV.ext {w w':World} {s:St} {a:SA} (h:StV w s a) (b:Ext w w'):StV w' s a:=
 ⟨h.kd,h.tb,h.lim,h.nm,⟨h.cols.1,h.cols.2.1,h.cols.2.2.ext b⟩,⟨h.keys.1,h.keys.2.1,h.keys.2.2.ext b⟩,⟨h.frs.1,h.frs.2.1,h.frs.2.2.ext b⟩,⟨h.chk.1,h.chk.2.1,h.chk.2.2.ext b⟩,⟨h.vals.1,h.vals.2.1,h.vals.2.2.ext b⟩,h.valn,
  ⟨h.sets.1,h.sets.2.1,h.sets.2.2.ext b⟩,⟨h.itms.1,h.itms.2.1,h.itms.2.2.ext b⟩,⟨h.frm.1,h.frm.2.1,h.frm.2.2.ext b⟩,h.whr.ext b,⟨h.grp.1,h.grp.2.1,h.grp.2.2.ext b⟩,⟨h.ord.1,h.ord.2.1,h.ord.2.2.ext b⟩⟩
end
section
open Go.ChangeShapes Go.WideShapes Go.Deep Go.RowKit
def sumB {α:Type} (bk:α→Nat):List α→Nat
 | []=>0
 |a::l=>bk a+sumB bk l
theorem bW {α:Type} {bk:α→Nat} (h:∀a,1≤bk a):∀l:List α,l.length≤sumB bk l
 | []=>Nat.le_refl _
 |a::l=>by have:=bW h l;have:=h a;rw[sumB,length_cons];omega
section
variable {H:Type} {enc:TypeId×Value→H} {w:World} {spare:Nat→Bool} {held:Bool} {base:Nat}
instance:Inhabited Ex:=⟨exZ⟩
def bkS (s:BA):Nat:=s.size+1
def bkK (l:List BA):Nat:=sumB bkS l+1
def bkR (l:List Ex):Nat:=sizeL l+1
def iB (x:Cd):Nat:=x.nm.size+1
instance:Inhabited Cd:=⟨⟨⟨#[]⟩,0,0,0,0,false⟩⟩
def jP (x:Rf):Nat:=sumB bkS x.cs+sumB bkS x.tg+x.tb.size+1
instance:Inhabited Rf:=⟨⟨[],⟨#[]⟩,[]⟩⟩
def bkA (x:Asg):Nat:=x.cl.size+x.ex.size+1
def bkI (x:Itm):Nat:=x.ex.size+1
def bkF (x:Src):Nat:=x.tb.size+x.al.size+1
def bkO (_:Ord'):Nat:=1
instance:Inhabited Asg:=⟨⟨⟨#[]⟩,0,exZ⟩⟩
instance:Inhabited Itm:=⟨⟨0,exZ⟩⟩
instance:Inhabited Src:=⟨⟨⟨#[]⟩,⟨#[]⟩⟩⟩
instance:Inhabited Ord':=⟨⟨0,false⟩⟩
def St.bulk (s:St):Nat:=s.tb.size+(sumB iB s.cols+sumB bkK s.keys+sumB jP s.frs+sizeL s.chk)+sumB bkR s.vals+sumB bkA s.sets+sumB bkI s.itms+sumB bkF s.frm+s.whr.size+sizeL s.grp+sumB bkO s.ord+s.nm.size
end
end
section
open Go.ChangeShapes Go.WideShapes Go.Deep Go.RowKit
def nG (w:World) (A:OA) (n:Nat):Prop:=∀i,i<n→∃b off Ai ni ci,A=some ⟨b,off,none⟩∧w.cell? ⟨b,off+i,none⟩=some (.slice Ai ni ci)∧ni≤ci
def nH (w:World) (A:OA) (n:Nat):Prop:=∀i,i<n→∃b off A1 n1 c1 A2 n2 c2,A=some ⟨b,off,none⟩∧w.cell? ⟨b,off+i*3,none⟩=some (.slice A1 n1 c1)∧n1≤c1∧w.cell? ⟨b,off+i*3+2,none⟩=some (.slice A2 n2 c2)∧n2≤c2
theorem nG.ext {w w':World} {A:OA} {n:Nat} (h:nG w A n) (l:Ext w w'):nG w' A n:=fun i hi=>by
 obtain⟨b,a,e,m,f,g,j,k⟩:=h i hi
 exact⟨b,a,e,m,f,g,l.keep j,k⟩
theorem nH.ext {w w':World} {A:OA} {n:Nat} (h:nH w A n) (e:Ext w w'):nH w' A n:=fun i hi=>by
 obtain⟨b,a,f,p,c1,g,r,c2,j,k,l,m,o⟩:=h i hi
 exact⟨b,a,f,p,c1,g,r,c2,j,e.keep k,l,e.keep m,o⟩
theorem nG.at {w:World} {b a n i:Nat} (h:nG w (some ⟨b,a,none⟩) n) (hi:i<n) {l:OA} {j f:Nat} (o:w.cell? ⟨b,a+i,none⟩=some (.slice l j f)):j≤f:=by
 obtain⟨r,k,p,s,c',g,e,m⟩:=h i hi
 simp only[Option.some.injEq,Addr.mk.injEq,and_true]at g
 obtain⟨rfl,rfl⟩:=g
 rw[o]at e
 simp only[Option.some.injEq,Value.slice.injEq]at e
 obtain⟨_,rfl,rfl⟩:=e
 exact m
theorem nH.at {w:World} {b a n i:Nat} (h:nH w (some ⟨b,a,none⟩) n) (hi:i<n) {m:OA} {j c1:Nat} (y:w.cell? ⟨b,a+i*3,none⟩=some (.slice m j c1))
  {p:OA} {k c2:Nat} (hd:w.cell? ⟨b,a+i*3+2,none⟩=some (.slice p k c2)):j≤c1∧k≤c2:=by
 obtain⟨B,l,o,z,s,r,A,t,g,e,u,f,x⟩:=h i hi
 simp only[Option.some.injEq,Addr.mk.injEq,and_true]at g
 obtain⟨rfl,rfl⟩:=g
 rw[y]at e
 rw[hd]at f
 simp only[Option.some.injEq,Value.slice.injEq]at e f
 obtain⟨_,rfl,rfl⟩:=e
 obtain⟨_,rfl,rfl⟩:=f
 exact⟨u,x⟩
section
variable {H:Type} {enc:TypeId×Value→H} {w:World} {spare:Nat→Bool} {held:Bool} {base:Nat}
instance:Inhabited Sl:=⟨⟨none,0,0⟩⟩
end
end
theorem ownN_ext {w w':World} {B e sz n:Nat} {v:Value} {b:LV} (h:w.ownsRow B e sz v n b) (i:Ext w w'):w'.ownsRow B e sz v n b:=by
 obtain⟨f,a⟩:=h
 refine⟨f,?_⟩
 rcases a with a|⟨g,cap,cur,hv,hg,hh,r⟩
 ·exact .inl a
 ·exact .inr ⟨g,cap,cur,hv,hg,(Below.block i g (Array.getElem?_eq_some_iff.1 hh).1).trans hh,r⟩
theorem news_at (w:World) (cs:Array Value) (e:TypeId) (n:Nat) (a:n=w.heap.size):∀(j:Nat) (u:Value),cs.toList[j]? =some u→(w.alloc (.cells cs e)).cell? ((⟨n,0,none⟩:Addr).add j)=some u:=by
 subst a
 exact lV w cs e
theorem gl {w:World} {e:Ex} {A:OA} {n c:Nat} (h:ExV w e A n c):ExC w e (e.d.cells A n c):=by
 obtain⟨d,ks⟩:=e
 rw[ExC]
 have a:=h.len
 have a:ks.length=n:=a
 subst a
 exact⟨h.fit,h.le,A,c,rfl,h.kids⟩
theorem mn {α β:Type} {l:List α} {k:Nat} {x:α} (f:α→β) (h:l[k]? =some x):(l.take (k+1)).map f=(l.take k).map f++ [f x]:=by
 obtain⟨hi,rfl⟩:=List.getElem?_eq_some_iff.1 h
 rw[take_succ_eq_append_getElem hi,map_append]
 rfl
theorem uG (L:List (List Ex)) (A:OA) (n c:Nat) (w:World) (i:L.length=n) (j:n≤9223372036854775807) (b:ep w A L) (f:L.flatten.length≤1000000000):
  Cl 114 #[.slice A n c] w fun r w'=> ∃a c',r= .returned (.slice a L.flatten.length c')∧KidsAt w' a L.flatten∧Ext w w':=
 (pI L A n c w i j b f).mono fun r w' ⟨v,m,b,l,g,e⟩=>by
  obtain⟨a,c',rfl,h,k⟩:=pH l (g.ext e)
  exact⟨a,c',b,h,e⟩
theorem rows3 {w:World} {g t:Nat} {b e f:OA} {m n o c1 c2 c3:Nat} {l1 j k:List Ex} (h:Blk w g t [.slice b m c1,.slice e n c2,.slice f o c3])
  (p:l1.length=m∧KidsAt w b l1) (r:j.length=n∧KidsAt w e j) (s:k.length=o∧KidsAt w f k):ep w (some ⟨g,0,none⟩) [l1,j,k]:=by
 intro i l a
 match i with
 |0=>simp at a;subst a;exact⟨g,0,b,m,c1,rfl,by simpa using h.cell 0,p.1,p.2⟩
 |1=>simp at a;subst a;exact⟨g,0,e,n,c2,rfl,by simpa using h.cell 1,r.1,r.2⟩
 |2=>simp at a;subst a;exact⟨g,0,f,o,c3,rfl,by simpa using h.cell 2,s.1,s.2⟩
 |i+3=>simp at a
theorem fV {w:World} {A:OA} {l:List Asg} (h:fM w A l) {i:Nat} {x:Asg} (m:l[i]? =some x):∃b a f n c,A=some ⟨b,a,none⟩∧w.cell? ⟨b,a+i*10,none⟩=some (.string x.cl)∧w.cell? ⟨b,a+i*10+1,none⟩=some (i4 x.ix)∧
  w.cell? ⟨b,a+i*10+2,none⟩=some (i4 x.ex.d.op)∧w.cell? ⟨b,a+i*10+3,none⟩=some (.string x.ex.d.tb)∧w.cell? ⟨b,a+i*10+4,none⟩=some (.string x.ex.d.nm)∧w.cell? ⟨b,a+i*10+5,none⟩=some (i4 x.ex.d.ix)∧
  w.cell? ⟨b,a+i*10+6,none⟩=some (i4 x.ex.d.vk)∧w.cell? ⟨b,a+i*10+7,none⟩=some (i4 x.ex.d.vi)∧w.cell? ⟨b,a+i*10+8,none⟩=some (.string x.ex.d.vt)∧w.cell? ⟨b,a+i*10+9,none⟩=some (.slice f n c)∧ExV w x.ex f n c:=by
 obtain⟨_,b,a,f,n,c,k,g,j,e⟩:=h i x m
 exact⟨b,a,f,n,c,k,g,j,e.c0,e.c1,e.c2,e.c3,e.c4,e.c5,e.c6,e.c7,e.val⟩
theorem fW {w:World} {A:OA} {l:List Itm} (h:fN w A l) {i:Nat} {x:Itm} (k:l[i]? =some x):∃b a f n c,A=some ⟨b,a,none⟩∧w.cell? ⟨b,a+i*9,none⟩=some (i4 x.ag)∧
  w.cell? ⟨b,a+i*9+1,none⟩=some (i4 x.ex.d.op)∧w.cell? ⟨b,a+i*9+2,none⟩=some (.string x.ex.d.tb)∧w.cell? ⟨b,a+i*9+3,none⟩=some (.string x.ex.d.nm)∧w.cell? ⟨b,a+i*9+4,none⟩=some (i4 x.ex.d.ix)∧
  w.cell? ⟨b,a+i*9+5,none⟩=some (i4 x.ex.d.vk)∧w.cell? ⟨b,a+i*9+6,none⟩=some (i4 x.ex.d.vi)∧w.cell? ⟨b,a+i*9+7,none⟩=some (.string x.ex.d.vt)∧w.cell? ⟨b,a+i*9+8,none⟩=some (.slice f n c)∧ExV w x.ex f n c:=by
 obtain⟨_,b,a,f,n,c,j,g,e⟩:=h i x k
 exact⟨b,a,f,n,c,j,g,e.c0,e.c1,e.c2,e.c3,e.c4,e.c5,e.c6,e.c7,e.val⟩
theorem ft (d:Nd) (A:OA) (n c:Nat):∀u∈d.cells A n c,u.oneCell'=true:=by
 intro u a
 simp[Nd.cells]at a
 rcases a with rfl|rfl|rfl|rfl|rfl|rfl|rfl|rfl<;>rfl
theorem all_any (s:St) (a:SA) (w:World) (L:StV w s a) (hT:s.all.length≤100000000):
  Cl 63 #[s.val a] w fun r w'=> ∃A c,r= .returned (.slice A s.all.length c)∧KidsAt w' A s.all∧Ext w w':=by
 obtain⟨i0,hi,ag,an,ax⟩:=info_parts oU
 have P:=hid L
 have bx:=hid hT
 have HB:=hid (Blk.of_new w 40 (s.cells a))
 have HX:=hid (x10 w (.cells (s.cells a).toArray 40))
 have b7:=L.sets.2.1
 have b6:=L.itms.2.1
 have a5:s.vals.flatten.length≤100000000∧(s.chk++s.vals.flatten++s.grp).length≤100000000∧(s.chk++s.vals.flatten++s.grp++s.sets.map Asg.ex).length≤100000000∧(s.chk++s.vals.flatten++s.grp++s.sets.map Asg.ex++s.itms.map Itm.ex).length<100000000:=by
  unfold St.all at hT
  simp only[length_append,length_singleton]at*
  omega
 have X:=hid a5
 have a0:=hid (fun W (hW:Ext w W)=>uG s.vals a.vals.A a.vals.n a.vals.c W L.vals.1 L.vals.2.1 (L.vals.2.2.ext hW) (by omega))
 have a1:Hid (∀(W:World) (g':Nat) (D:OA) (c':Nat),Ext w W→KidsAt W D s.vals.flatten→Blk W g' 27 [.slice a.chk.A a.chk.n a.chk.c,.slice D s.vals.flatten.length c',.slice a.grp.A a.grp.n a.grp.c]→
   Cl 114 #[.slice (some ⟨g',0,none⟩) 3 3] W fun r w'=> ∃v y,r= .returned v∧w'.ownsRow W.heap.size 37 8 v (s.chk++s.vals.flatten++s.grp).length y∧LC W (s.chk++s.vals.flatten++s.grp) y∧Ext W w'):=by
  intro W g' D c' hW hk hb
  have he: [s.chk,s.vals.flatten,s.grp].flatten=s.chk++s.vals.flatten++s.grp:=by simp
  have:=pI [s.chk,s.vals.flatten,s.grp] _ 3 3 W rfl (by omega) (rows3 hb ⟨L.chk.1,L.chk.2.2.ext hW⟩ ⟨rfl,hk⟩ ⟨L.grp.1,L.grp.2.2.ext hW⟩) (by rw[he];omega)
  rwa [he]at this
 clear L hT a5
 unfold St.val
 unfold St.cells at*
 unfold Sl.v at*
 have Z:=hid P.sets.2.2
 have Y:=hid P.itms.2.2
 generalize a.sets.A=P1 at*
 generalize a.itms.A=P2 at*
 go_enter func63,ntmps63
 go_wp2_with fail
 generalize w.alloc (.cells _ 40)=w1 at*
 generalize w.heap.size=g at*
 obtain⟨-,-,-,-,-,c5,c6,-,-,-,-,-,-,-,-,-,-,-,ac,-⟩:=cls HB
 generalize s.vals.flatten.length=U at*
 go_region_held3 (fun w'=>w'.cell? ⟨g,5,none⟩=some (.slice a.chk.A a.chk.n a.chk.c)∧w'.cell? ⟨g,6,none⟩=some (.slice a.vals.A a.vals.n a.vals.c)∧w'.cell? ⟨g,18,none⟩=some (.slice a.grp.A a.grp.n a.grp.c))
  (first|go_keep|exact⟨l.keep c5,l.keep c6,l.keep ac⟩|exact⟨C.keep ((x10 w2 _).keep (l.keep c5)),C.keep ((x10 w2 _).keep (l.keep c6)),C.keep ((x10 w2 _).keep (l.keep ac))⟩)
  (first
   |(go_at_call 114;(with_reducible refine(a0.out _ HX.out.drew).mono ?_);rintro _ w2 ⟨A1,c1,rfl,a6,l⟩)
   |(go_at_call 114;(with_reducible refine(a1.out _ _ A1 c1 ((HX.out.drew.trans l).alloc _) (a6.ext (x10 w2 _)) (Blk.of_new w2 _ _)).mono ?_);rintro _ w3 ⟨v3,bw,rfl,K,R,C⟩))
 have bm:=Blk.of_new w2 27 [.slice a.chk.A a.chk.n a.chk.c,.slice A1 U c1,.slice a.grp.A a.grp.n a.grp.c]
 have Q:=hid ((HX.drew.trans l).alloc (.cells #[.slice a.chk.A a.chk.n a.chk.c,.slice A1 U c1,.slice a.grp.A a.grp.n a.grp.c] 27))
 have V:=hid ((HB.ext (((Ext.refl w1).drew.trans l).alloc (.cells #[.slice a.chk.A a.chk.n a.chk.c,.slice A1 U c1,.slice a.grp.A a.grp.n a.grp.c] 27))))
 have ba:=hid K
 have a2:=hid R
 rename_i hHeld
 clear hHeld K R bm a0 a1 c5 c6 ac a6
 generalize w2.alloc (.cells #[.slice a.chk.A a.chk.n a.chk.c,.slice A1 U c1,.slice a.grp.A a.grp.n a.grp.c] 27)=I at*
 generalize a3:s.chk++s.vals.flatten++s.grp=L0 at*
 have c7:=(V.ext C).cell 7
 simp only[g10,g11]at c7
 have bf:=hid C
 clear l C
 go_wp2_with fail
 go_loopw [3,21] (fun U iv wr=> ∃(k:Nat) (y:LV),k≤a.sets.n∧iv= i4 k∧wr.ownsRow I.heap.size 37 8 U (L0++(s.sets.take k).map Asg.ex).length y∧LC I (L0++(s.sets.take k).map Asg.ex) y∧Ext I wr) (fun _ i _=>a.sets.n- (intOf i).toNat)
 case atStart=>exact⟨0,bw,Nat.zero_le _,rfl,by simpa using ba.out,by simpa using a2.out,bf⟩
 case round=>
  obtain⟨k,y,hk,rfl,u,J,e⟩:=hrel
  have z:=hid u
  have t:=hid J
  have m:=hid e
  clear u J
  by_cases ad:k<a.sets.n
  ·obtain⟨x,hx⟩:=aC P.sets.1 ad
   obtain⟨b,bv,D,n',c',rfl,q0,q1,q2,q3,q4,q5,q6,q7,q8,q9,O⟩:=fV (Z.ext Q) hx
   replace q0:=e.keep q0
   replace q1:=e.keep q1
   replace q2:=e.keep q2
   replace q3:=e.keep q3
   replace q4:=e.keep q4
   replace q5:=e.keep q5
   replace q6:=e.keep q6
   replace q7:=e.keep q7
   replace q8:=e.keep q8
   replace q9:=e.keep q9
   have o:=hid (gl O)
   have F:=hid (mn Asg.ex hx)
   have h:=hid (ft x.ex.d D n' c')
   obtain⟨p,B⟩:∃p,(L0++(s.sets.take k).map Asg.ex).length=p:=⟨_,rfl⟩
   have HP:=hid B
   rw[B]at z
   have a8:p+1≤100000000:=by
    have h1:=X.2.2.1
    have h2:(s.sets.take (k+1)).length≤s.sets.length:=by rw[length_take];omega
    rw[←B]
    simp only[length_append,length_map,length_take]at*
    have:=P.sets.1
    omega
   clear hx O B e
   unfold Nd.cells at o h
   generalize hd:x.ex.d=d at*
   obtain⟨op,tb,nm,ix,vk,vi,vt⟩:=d
   simp only at*
   clear hd
   go_wp2_with (at_builtin;refine wpList_append_own _ rfl (.tmp 25) (.tmp 28) 27 rfl I.heap.size 37 i0 _ 8 104 underlying27 hi ag an ax rfl (by decide) _ p y rfl (ownN_ext z.out ((x10 wr _).alloc _)) ⟨_,0,none⟩ 1 1 (eC op tb nm ix vk vi vt D n' c') rfl rfl (news_at _ _ _ _ (by simp)) h.out (by unfold maxLen;omega) (by omega) (by simp;have:=m.out.size;omega) ?_;intro v1 w5 f j _;have G:=hid f;have E:=hid j;clear f j)
   go_roundw
   case rel=>
    refine⟨k+1,y++(eC op tb nm ix vk vi vt D n' c'),by omega,by go_num,?_,?_,?_⟩
    ·rw[F.out,←append_assoc,length_append,HP.out]
     exact G
    ·rw[F.out,←append_assoc]
     exact t.app (LC.one o)
    ·refine((m.alloc _).alloc _).grown E fun q hq=> (z.lt q hq).1
   case measure=>simp[intOf];omega
  ·obtain rfl:k=a.sets.n:=by omega
   have be:Hid (s.sets.take a.sets.n=s.sets):=take_of_length_le (Nat.le_of_eq P.sets.1)
   rw[be.out]at z t
   generalize a4:L0++s.sets.map Asg.ex=L1 at*
   have c8:=(V.ext e).cell 8
   simp only[g10,g11]at c8
   clear e
   go_wp2_with fail
   go_loopw [3,34] (fun U iv wr=> ∃(k:Nat) (y:LV),k≤a.itms.n∧iv= i4 k∧wr.ownsRow I.heap.size 37 8 U (L1++(s.itms.take k).map Itm.ex).length y∧LC I (L1++(s.itms.take k).map Itm.ex) y∧Ext I wr) (fun _ i _=>a.itms.n- (intOf i).toNat)
   case atStart=>exact⟨0,y,Nat.zero_le _,rfl,by simpa using z.out,by simpa using t.out,m⟩
   case round=>
    clear z t m
    obtain⟨k,y,hk,rfl,u,J,e⟩:=hrel
    have z:=hid u
    have t:=hid J
    have m:=hid e
    clear u J
    by_cases ad:k<a.itms.n
    ·obtain⟨x,hx⟩:=aC P.itms.1 ad
     obtain⟨b,bv,D,n',c',rfl,q0,q1,q2,q3,q4,q5,q6,q7,q8,O⟩:=fW (Y.ext Q) hx
     replace q0:=e.keep q0
     replace q1:=e.keep q1
     replace q2:=e.keep q2
     replace q3:=e.keep q3
     replace q4:=e.keep q4
     replace q5:=e.keep q5
     replace q6:=e.keep q6
     replace q7:=e.keep q7
     replace q8:=e.keep q8
     have o:=hid (gl O)
     have F:=hid (mn Itm.ex hx)
     have h:=hid (ft x.ex.d D n' c')
     obtain⟨p,B⟩:∃p,(L1++(s.itms.take k).map Itm.ex).length=p:=⟨_,rfl⟩
     have HP:=hid B
     rw[B]at z
     have a8:p+1≤100000000:=by
      have h1:=X.2.2.2
      have h2:(s.itms.take (k+1)).length≤s.itms.length:=by rw[length_take];omega
      rw[←B]
      simp only[length_append,length_map,length_take]at*
      have:=P.itms.1
      omega
     clear hx O B e
     unfold Nd.cells at o h
     generalize hd:x.ex.d=d at*
     obtain⟨op,tb,nm,ix,vk,vi,vt⟩:=d
     simp only at*
     clear hd
     go_wp2_with (at_builtin;refine wpList_append_own _ rfl (.tmp 38) (.tmp 41) 27 rfl I.heap.size 37 i0 _ 8 104 underlying27 hi ag an ax rfl (by decide) _ p y rfl (ownN_ext z.out ((x10 wr _).alloc _)) ⟨_,0,none⟩ 1 1 (eC op tb nm ix vk vi vt D n' c') rfl rfl (news_at _ _ _ _ (by simp)) h.out (by unfold maxLen;omega) (by omega) (by simp;have:=m.out.size;omega) ?_;intro v1 w5 f j _;have G:=hid f;have E:=hid j;clear f j)
     go_roundw
     case rel=>
      refine⟨k+1,y++(eC op tb nm ix vk vi vt D n' c'),by omega,by go_num,?_,?_,?_⟩
      ·rw[F.out,←append_assoc,length_append,HP.out]
       exact G
      ·rw[F.out,←append_assoc]
       exact t.app (LC.one o)
      ·refine((m.alloc _).alloc _).grown E fun q hq=> (z.lt q hq).1
     case measure=>simp[intOf];omega
    ·obtain rfl:k=a.itms.n:=by omega
     have bd:Hid (s.itms.take a.itms.n=s.itms):=take_of_length_le (Nat.le_of_eq P.itms.1)
     rw[bd.out]at z t
     have hb:=V.ext e
     obtain⟨-,-,-,-,-,-,-,-,-,-,bN,bY,b0,b1,b2,b3,b4,b5,-⟩:=cls hb
     have o:=hid (gl (P.whr.ext Q))
     have h:=hid (ft s.whr.d a.whr.A a.whr.n a.whr.c)
     obtain⟨p,B⟩:∃p,(L1++s.itms.map Itm.ex).length=p:=⟨_,rfl⟩
     have HP:=hid B
     rw[B]at z
     have a8:p+1≤100000000:=by
      have h1:=X.2.2.2
      omega
     have aS:Hid (s.all=L1++s.itms.map Itm.ex++ [s.whr]):=by unfold Hid St.all;rw[a3,a4]
     clear hb e B a3 a4
     unfold Nd.cells at o h
     generalize hd:s.whr.d=d at*
     obtain⟨op,tb,nm,ix,vk,vi,vt⟩:=d
     simp only at*
     clear hd
     go_wp2_with (at_builtin;refine wpList_append_own _ rfl (.tmp 44) (.tmp 47) 27 rfl I.heap.size 37 i0 _ 8 104 underlying27 hi ag an ax rfl (by decide) _ p y rfl (ownN_ext z.out (x10 wr _)) ⟨_,0,none⟩ 1 1 (eC op tb nm ix vk vi vt a.whr.A a.whr.n a.whr.c) rfl rfl (news_at _ _ _ _ (by simp)) h.out (by unfold maxLen;omega) (by omega) (by simp;have:=m.out.size;omega) ?_;intro v1 w5 f j _;have G:=hid f;have E:=hid j;clear f j)
     go_ret
     have a9:Ext I w5:=(m.alloc _).grown E fun q hq=> (z.lt q hq).1
     have a7:LC I s.all (y++(eC op tb nm ix vk vi vt a.whr.A a.whr.n a.whr.c)):=by rw[aS.out];exact t.app (LC.one o)
     obtain⟨A5,c5,rfl,bn,bo⟩:=pH G (a7.ext a9)
     rw[bo]
     exact⟨A5,c5,rfl,bn,Q.trans a9⟩
def nI:BA:=⟨#[32,87,72,69,82,69,32]⟩
def fX:BA:=⟨#[68,69,76,69,84,69,32,70,82,79,77,32]⟩
mutual
def Ex.num (n:Int):Ex→Ex
 | .mk d ks=> .mk { d with ix:=n } (numL n ks)
def numL (n:Int):List Ex→List Ex
 | []=> []
 |e::es=>e.num n::numL n es
end
theorem nJ (w:World) (cs:LV) (e:TypeId) (a:cs.length=8):Reads (w.alloc (.cells cs.toArray e)) (w.heap.size+1) 8 (some ⟨w.heap.size,0,none⟩) 1 cs:=
 ⟨by omega,fun _=>⟨_,rfl,Nat.lt_succ_self _,news_at w cs.toArray e w.heap.size rfl⟩⟩
def St.rall (s:St):List Ex:=s.chk++s.vals.flatten++s.sets.map Asg.ex++s.itms.map Itm.ex++ [s.whr]++s.grp
theorem uH (s:St) (a:SA) (w:World) (O:StV w s a) (hT:s.rall.length≤100000000):
  Cl 46 #[s.val a] w fun r w'=> ∃A c,r= .returned (.slice A s.rall.length c)∧KidsAt w' A s.rall∧Ext w w':=by
 obtain⟨i0,hi,U,V,W⟩:=info_parts oU
 have HV:=hid O
 have HB:=hid (Blk.of_new w 40 (s.cells a))
 have y:=hid (x10 w (.cells (s.cells a).toArray 40))
 have d2:=O.vals.2.1
 have d1:=O.sets.2.1
 have d0:=O.itms.2.1
 have dx:=O.grp.2.1
 have cx:=O.chk.1
 have cH:=O.grp.1
 obtain⟨L1,a0⟩:∃L1,s.chk++s.vals.flatten=L1:=⟨_,rfl⟩
 obtain⟨L2,a1⟩:∃L2,L1++s.sets.map Asg.ex=L2:=⟨_,rfl⟩
 obtain⟨L3,a2⟩:∃L3,L2++s.itms.map Itm.ex=L3:=⟨_,rfl⟩
 have cz:s.chk.length≤100000000∧s.chk.length+s.vals.flatten.length≤100000000∧L1.length+s.sets.length≤100000000∧L2.length+s.itms.length≤100000000∧L3.length+1+s.grp.length≤100000000:=by
  unfold St.rall at hT
  rw[a0,a1,a2]at hT
  have h1:=congrArg List.length a0
  have h2:=congrArg List.length a1
  have h3:=congrArg List.length a2
  simp only[length_append,length_singleton,length_map]at*
  omega
 have a6:=hid cz
 have bN:Hid (s.rall=L3++ [s.whr]++s.grp):=by unfold Hid St.rall;rw[a0,a1,a2]
 have b6:=hid a0
 have b7:=hid a1
 have b9:=hid a2
 obtain⟨xc,be,bn⟩:=je O.chk.2.2 O.chk.1
 have ax:=hid be
 have aS:=hid bn
 obtain⟨xg,bf,bo⟩:=je O.grp.2.2 O.grp.1
 have a9:=hid bf
 have R:=hid bo
 have bv:=hid O.vals
 have I:=hid O.sets
 have G:=hid O.itms
 have bY:=hid (gl O.whr)
 have b0:=hid (ft s.whr.d a.whr.A a.whr.n a.whr.c)
 have c2:Hid (L3.length+1≤100000000):=by unfold Hid;omega
 clear O hT be bn bf bo a0 a1 a2
 unfold Nd.cells at bY b0
 unfold St.val
 unfold St.cells at*
 unfold Sl.v at*
 generalize s.whr.d=dw at*
 obtain⟨Z,ac,Y,X,ag,ad,an⟩:=dw
 simp only at*
 generalize a.sets.A=P1 at*
 generalize a.itms.A=P2 at*
 generalize a.vals.A=P3 at*
 go_enter func46,ntmps46
 go_upto_region 1 with fail
 generalize w.alloc (.cells _ 40)=E at*
 generalize hg:w.heap.size=g at*
 have a7:=hid (fF E 37 8 0 0 0 E.heap.size #[] (Nat.le_refl _) rfl (by decide))
 have c5:=(HB.ext (x10 E (.cells #[] 37))).cell 5
 simp only[g10,g11]at c5
 have m:=hid (Ext.refl E)
 rw[←hg]at aS R
 go_wp2_with (at_builtin;refine wpList_append_any _ rfl (.tmp 7) (.tmp 10) 27 rfl E.heap.size 37 i0 _ 8 104 underlying27 hi U V W rfl (by decide) _ 0 [] rfl (a7.out) _ _ _ _ xc rfl (aS.out.below (y.out.alloc _)) (ax.out.len.2) (by unfold maxLen;omega) (by omega) ((m.out.alloc _).size) ?_;intro v1 w5 f j _;have u:=hid f;have t:=hid j;clear f j;have c6:=((HB.out.ext (x10 E (.cells #[] 37))).grown t.out (fun h=>by have:=a7.out.lt _ h.symm;have:=y.out.size;have:=HB.out.lt;omega)).cell 6;simp only[g10,g11]at c6)
 have ck:Hid (w5.ownsRow E.heap.size 37 8 v1 (s.chk++(s.vals.take 0).flatten).length xc):=by unfold Hid;simpa[cx] using u.out
 have cc:Hid (LC w (s.chk++(s.vals.take 0).flatten) xc):=by unfold Hid;simpa using ax.out
 have cv:=hid ((x10 E (.cells #[] 37)).grown t fun q P=>dH a7 P)
 clear u t a7 ax aS c5 c6
 rw[hg]at R
 go_loopw [3,4] (fun nv iv wr=> ∃(k:Nat) (K:LV),k≤a.vals.n∧iv= i4 k∧wr.ownsRow E.heap.size 37 8 nv (s.chk++(s.vals.take k).flatten).length K∧LC w (s.chk++(s.vals.take k).flatten) K∧Ext E wr) (fun _ i _=>a.vals.n- (intOf i).toNat)
 case atStart=>exact⟨0,_,Nat.zero_le _,rfl,ck,cc,cv⟩
 case round=>
  obtain⟨k,K,hk,rfl,o,z,e⟩:=hrel
  have C:=hid o
  have B:=hid z
  have m:=hid e
  have cb:=(HB.ext e).cell 6
  simp only[g10,g11]at cb
  clear o z
  by_cases a3:k<a.vals.n
  ·obtain⟨l,hl⟩:=aC bv.1 a3
   obtain⟨b,b4,Ai,ni,ci,hA,q0,bx,b1⟩:=bv.2.2 k l hl
   subst hA
   replace q0:=(y.trans e).keep q0
   obtain⟨xn,bm,b2⟩:=je b1 bx
   have D:=hid bm
   have cl:=hid b2
   have F:Hid (s.chk++(s.vals.take (k+1)).flatten=(s.chk++(s.vals.take k).flatten)++l):=by unfold Hid;rw[nF hl,append_assoc]
   obtain⟨p,J⟩:∃p,(s.chk++(s.vals.take k).flatten).length=p:=⟨_,rfl⟩
   have HP:=hid J
   have a8:p+ni≤100000000:=by
    have h1:=a6.2.1
    have h2:=sU s.vals (k+1)
    have h3:=congrArg List.length F
    rw[length_append,length_append (bs:=l),J]at h3
    omega
   have cd:=hid bx
   rw[J]at C
   clear hl b1 bm b2 bx J e
   go_wp2_with (at_builtin;refine wpList_append_any _ rfl (.tmp 19) (.tmp 24) 27 rfl E.heap.size 37 i0 _ 8 104 underlying27 hi U V W rfl (by decide) _ p K rfl (C.out) _ _ _ _ xn rfl (cl.out.below (y.out.trans m.out)) (D.out.len.2) (by unfold maxLen;omega) (by omega) (m.out.size) ?_;intro v1 w5 f j _;have u:=hid f;have t:=hid j;clear f j)
   go_roundw
   case rel=>
    refine⟨k+1,K++xn,by omega,by go_num,?_,?_,?_⟩
    ·rw[F.out,length_append (bs:=l),HP.out,cd.out];exact u
    ·rw[F.out];exact B.app D
    ·exact(m).grown t fun q P=>dH C P
   case measure=>simp[intOf];omega
  ·obtain rfl:k=a.vals.n:=by omega
   have ct:Hid (s.chk++(s.vals.take a.vals.n).flatten=L1):=by unfold Hid;rw[take_of_length_le (Nat.le_of_eq bv.1),b6.out]
   rw[ct.out]at C B
   clear e
   go_wp2_with fail
   go_loopw [3,5] (fun nv iv wr=> ∃(k:Nat) (K:LV),k≤a.sets.n∧iv= i4 k∧wr.ownsRow E.heap.size 37 8 nv (L1++(s.sets.take k).map Asg.ex).length K∧LC w (L1++(s.sets.take k).map Asg.ex) K∧Ext E wr) (fun _ i _=>a.sets.n- (intOf i).toNat)
   case atStart=>exact⟨0,_,Nat.zero_le _,rfl,by simpa using C.out,by simpa using B.out,m⟩
   case round=>
    obtain⟨k,K,hk,rfl,o,z,e⟩:=hrel
    have C:=hid o
    have B:=hid z
    have m:=hid e
    have cb:=(HB.ext e).cell 7
    simp only[g10,g11]at cb
    clear o z
    by_cases a3:k<a.sets.n
    ·obtain⟨x,hx⟩:=aC I.1 a3
     obtain⟨b,b4,A',n',c',hA,q0,q1,q2,q3,q4,q5,q6,q7,q8,q9,a5⟩:=fV I.2.2 hx
     subst hA
     replace q0:=(y.trans e).keep q0
     replace q1:=(y.trans e).keep q1
     replace q2:=(y.trans e).keep q2
     replace q3:=(y.trans e).keep q3
     replace q4:=(y.trans e).keep q4
     replace q5:=(y.trans e).keep q5
     replace q6:=(y.trans e).keep q6
     replace q7:=(y.trans e).keep q7
     replace q8:=(y.trans e).keep q8
     replace q9:=(y.trans e).keep q9
     have D:=hid (LC.one (gl a5))
     have F:Hid (L1++(s.sets.take (k+1)).map Asg.ex=(L1++(s.sets.take k).map Asg.ex)++ [x.ex]):=by unfold Hid;rw[mn Asg.ex hx,append_assoc]
     have L:=hid (ft x.ex.d A' n' c')
     obtain⟨p,J⟩:∃p,(L1++(s.sets.take k).map Asg.ex).length=p:=⟨_,rfl⟩
     have HP:=hid J
     have a8:p+1≤100000000:=by
      have h1:=a6.2.2.1
      have h2:(s.sets.take (k+1)).length≤s.sets.length:=by rw[length_take];omega
      rw[←J]
      simp only[length_append,length_map,length_take]at*
      have:=I.1
      omega
     rw[J]at C
     clear hx a5 J e
     unfold Nd.cells at D L
     generalize hd:x.ex.d=d at*
     obtain⟨op,tb,nm,ix,vk,vi,vt⟩:=d
     simp only at*
     clear hd
     obtain⟨xn,Q⟩:∃xn:LV,(eC op tb nm ix vk vi vt A' n' c')=xn:=⟨_,rfl⟩
     have bw:=hid Q
     rw[Q]at D
     clear Q
     go_wp2_with (at_builtin;refine wpList_append_any _ rfl (.tmp 33) (.tmp 40) 27 rfl E.heap.size 37 i0 _ 8 104 underlying27 hi U V W rfl (by decide) _ p K rfl (ownN_ext C.out (x10 wr _)) _ _ _ _ (eC op tb nm ix vk vi vt A' n' c') rfl (nJ wr (eC op tb nm ix vk vi vt A' n' c') 37 rfl) (L.out) (by unfold maxLen;omega) (by omega) ((m.out.alloc _).size) ?_;intro v1 w5 f j _;have u:=hid f;have t:=hid j;clear f j)
     rw[bw.out]at u
     go_roundw
     case rel=>
      refine⟨k+1,K++xn,by omega,by go_num,?_,?_,?_⟩
      ·rw[F.out,length_append (bs:= [x.ex]),HP.out];exact u
      ·rw[F.out];exact B.app D
      ·exact(m.alloc _).grown t fun q P=>dH C P
     case measure=>simp[intOf];omega
    ·obtain rfl:k=a.sets.n:=by omega
     have cs:Hid (L1++(s.sets.take a.sets.n).map Asg.ex=L2):=by unfold Hid;rw[take_of_length_le (Nat.le_of_eq I.1),b7.out]
     rw[cs.out]at C B
     clear e
     go_wp2_with fail
     go_loopw [3,6] (fun nv iv wr=> ∃(k:Nat) (K:LV),k≤a.itms.n∧iv= i4 k∧wr.ownsRow E.heap.size 37 8 nv (L2++(s.itms.take k).map Itm.ex).length K∧LC w (L2++(s.itms.take k).map Itm.ex) K∧Ext E wr) (fun _ i _=>a.itms.n- (intOf i).toNat)
     case atStart=>exact⟨0,_,Nat.zero_le _,rfl,by simpa using C.out,by simpa using B.out,m⟩
     case round=>
      obtain⟨k,K,hk,rfl,o,z,e⟩:=hrel
      have C:=hid o
      have B:=hid z
      have m:=hid e
      have cb:=(HB.ext e).cell 8
      simp only[g10,g11]at cb
      clear o z
      by_cases a3:k<a.itms.n
      ·obtain⟨x,hx⟩:=aC G.1 a3
       obtain⟨b,b4,A',n',c',hA,q0,q1,q2,q3,q4,q5,q6,q7,q8,a5⟩:=fW G.2.2 hx
       subst hA
       replace q0:=(y.trans e).keep q0
       replace q1:=(y.trans e).keep q1
       replace q2:=(y.trans e).keep q2
       replace q3:=(y.trans e).keep q3
       replace q4:=(y.trans e).keep q4
       replace q5:=(y.trans e).keep q5
       replace q6:=(y.trans e).keep q6
       replace q7:=(y.trans e).keep q7
       replace q8:=(y.trans e).keep q8
       have D:=hid (LC.one (gl a5))
       have F:Hid (L2++(s.itms.take (k+1)).map Itm.ex=(L2++(s.itms.take k).map Itm.ex)++ [x.ex]):=by unfold Hid;rw[mn Itm.ex hx,append_assoc]
       have L:=hid (ft x.ex.d A' n' c')
       obtain⟨p,J⟩:∃p,(L2++(s.itms.take k).map Itm.ex).length=p:=⟨_,rfl⟩
       have HP:=hid J
       have a8:p+1≤100000000:=by
        have h1:=a6.2.2.2.1
        have h2:(s.itms.take (k+1)).length≤s.itms.length:=by rw[length_take];omega
        rw[←J]
        simp only[length_append,length_map,length_take]at*
        have:=G.1
        omega
       rw[J]at C
       clear hx a5 J e
       unfold Nd.cells at D L
       generalize hd:x.ex.d=d at*
       obtain⟨op,tb,nm,ix,vk,vi,vt⟩:=d
       simp only at*
       clear hd
       obtain⟨xn,Q⟩:∃xn:LV,(eC op tb nm ix vk vi vt A' n' c')=xn:=⟨_,rfl⟩
       have bw:=hid Q
       rw[Q]at D
       clear Q
       go_wp2_with (at_builtin;refine wpList_append_any _ rfl (.tmp 49) (.tmp 56) 27 rfl E.heap.size 37 i0 _ 8 104 underlying27 hi U V W rfl (by decide) _ p K rfl (ownN_ext C.out (x10 wr _)) _ _ _ _ (eC op tb nm ix vk vi vt A' n' c') rfl (nJ wr (eC op tb nm ix vk vi vt A' n' c') 37 rfl) (L.out) (by unfold maxLen;omega) (by omega) ((m.out.alloc _).size) ?_;intro v1 w5 f j _;have u:=hid f;have t:=hid j;clear f j)
       rw[bw.out]at u
       go_roundw
       case rel=>
        refine⟨k+1,K++xn,by omega,by go_num,?_,?_,?_⟩
        ·rw[F.out,length_append (bs:= [x.ex]),HP.out];exact u
        ·rw[F.out];exact B.app D
        ·exact(m.alloc _).grown t fun q P=>dH C P
       case measure=>simp[intOf];omega
      ·obtain rfl:k=a.itms.n:=by omega
       have cp:Hid (L2++(s.itms.take a.itms.n).map Itm.ex=L3):=by unfold Hid;rw[take_of_length_le (Nat.le_of_eq G.1),b9.out]
       rw[cp.out]at C B
       have hb:=HB.ext e
       obtain⟨-,-,-,-,-,-,-,-,-,-,c3,c4,c7,c8,c9,df,dp,ds,-⟩:=cls hb
       obtain⟨p,J⟩:∃p,L3.length=p:=⟨_,rfl⟩
       have HP:=hid J
       have a8:p+1+s.grp.length≤100000000:=by have:=a6.2.2.2.2;omega
       rw[J]at C
       rw[cH]at a8
       rw[←hg]at R
       clear hb e J
       go_wp2_with (first|(at_builtin;refine wpList_append_any _ rfl (.tmp 58) (.tmp 61) 27 rfl E.heap.size 37 i0 _ 8 104 underlying27 hi U V W rfl (by decide) _ p K rfl (ownN_ext C.out (x10 wr _)) _ _ _ _ (eC Z ac Y X ag ad an a.whr.A a.whr.n a.whr.c) rfl (nJ wr (eC Z ac Y X ag ad an a.whr.A a.whr.n a.whr.c) 37 rfl) (b0.out) (by unfold maxLen;omega) (by omega) ((m.out.alloc _).size) ?_;intro v1 w5 f j _;have u:=hid f;have t:=hid j;clear f j;have cw:=((HB.out.ext (m.out.alloc (.cells #[i4 Z,.string ac,.string Y,i4 X,i4 ag,i4 ad,.string an,.slice a.whr.A a.whr.n a.whr.c] 37))).grown t.out (fun h=>by have:=dH C.out h.symm;have:=y.out.size;have:=HB.out.lt;omega)).cell 18;simp only[g10,g11]at cw)|(at_builtin;refine wpList_append_any _ rfl (.tmp 63) (.tmp 65) 27 rfl E.heap.size 37 i0 _ 8 104 underlying27 hi U V W rfl (by decide) _ (p+1) _ rfl u.out _ _ _ _ xg rfl (R.out.below (y.out.trans ((m.out.alloc (.cells #[i4 Z,.string ac,.string Y,i4 X,i4 ag,i4 ad,.string an,.slice a.whr.A a.whr.n a.whr.c] 37)).grown t.out fun q P=>dH C.out P))) a9.out.len.2 (by unfold maxLen;omega) (by omega) (((m.out.alloc (.cells #[i4 Z,.string ac,.string Y,i4 X,i4 ag,i4 ad,.string an,.slice a.whr.A a.whr.n a.whr.c] 37)).grown t.out fun q P=>dH C.out P)).size ?_;intro v2 w6 a4 ba _;have cj:=hid a4;have b5:=hid ba;clear a4 ba))
       go_ret
       have b3:Ext E w6:=((m.alloc (.cells #[i4 Z,.string ac,.string Y,i4 X,i4 ag,i4 ad,.string an,.slice a.whr.A a.whr.n a.whr.c] 37)).grown t fun q P=>dH C P).grown b5 fun q P=>dH u P
       have bd:=(B.app (LC.one bY)).app a9
       rw[←bN.out]at bd
       obtain⟨A6,c6,rfl,c0,c1⟩:=pH cj (bd.ext (y.trans b3))
       rw[c1]
       exact⟨A6,c6,rfl,c0,y.trans b3⟩
end Go.Proofs.YtjigcpfjhfoheaaGreatDoor
