/- Opening a statement: its slices of strings are no longer than they have room for; Walks: all, the expressions of a statement; Walks: a DELETE statement, valid and formatted; Walks: numbered; Walks: wide; all of the reference; Walk. -/
import Derived.Test.YtjigcpfjhfoheaaGreatDoorRai
import Derived.Deep.RegionHeld3
import Derived.Test.YtjigcpfjhfoheaaGreatDoorRae
import Derived.Test.YtjigcpfjhfoheaaGreatDoorRah
namespace Go.Proofs.YtjigcpfjhfoheaaGreatDoor
open Go.RowKit
set_option maxHeartbeats 4000000
set_option maxRecDepth 100000
set_option linter.unusedVariables false
set_option linter.unusedSimpArgs false
section
open Go.ChangeShapes Go.WideShapes Go.Deep Go.RowKit
def jS (w:World) (A:Option Addr) (n:Nat):Prop:=∀i,i<n→∃b off Ai ni ci,A=some ⟨b,off,none⟩∧w.cell? ⟨b,off+i,none⟩=some (.slice Ai ni ci)∧ni≤ci
def jT (w:World) (A:Option Addr) (n:Nat):Prop:=∀i,i<n→∃b off A1 n1 c1 A2 n2 c2,A=some ⟨b,off,none⟩∧w.cell? ⟨b,off+i*3,none⟩=some (.slice A1 n1 c1)∧n1≤c1∧w.cell? ⟨b,off+i*3+2,none⟩=some (.slice A2 n2 c2)∧n2≤c2
theorem jS.ext {w w':World} {A:Option Addr} {n:Nat} (h:jS w A n) (l:Ext w w'):jS w' A n:=fun i hi=>by
 obtain⟨b,a,e,m,f,g,j,k⟩:=h i hi
 exact⟨b,a,e,m,f,g,l.keep j,k⟩
theorem jT.ext {w w':World} {A:Option Addr} {n:Nat} (h:jT w A n) (e:Ext w w'):jT w' A n:=fun i hi=>by
 obtain⟨b,a,f,p,c1,g,r,c2,j,k,l,m,o⟩:=h i hi
 exact⟨b,a,f,p,c1,g,r,c2,j,e.keep k,l,e.keep m,o⟩
theorem jS.at {w:World} {b a n i:Nat} (h:jS w (some ⟨b,a,none⟩) n) (hi:i<n) {l:Option Addr} {j f:Nat} (o:w.cell? ⟨b,a+i,none⟩=some (.slice l j f)):j≤f:=by
 obtain⟨r,k,p,s,c',g,e,m⟩:=h i hi
 simp only[Option.some.injEq,Addr.mk.injEq,and_true]at g
 obtain⟨rfl,rfl⟩:=g
 rw[o]at e
 simp only[Option.some.injEq,Value.slice.injEq]at e
 obtain⟨_,rfl,rfl⟩:=e
 exact m
theorem jT.at {w:World} {b a n i:Nat} (h:jT w (some ⟨b,a,none⟩) n) (hi:i<n) {m:Option Addr} {j c1:Nat} (y:w.cell? ⟨b,a+i*3,none⟩=some (.slice m j c1))
  {p:Option Addr} {k c2:Nat} (hd:w.cell? ⟨b,a+i*3+2,none⟩=some (.slice p k c2)):j≤c1∧k≤c2:=by
 obtain⟨B,l,o,z,s,r,A,t,g,e,u,f,x⟩:=h i hi
 simp only[Option.some.injEq,Addr.mk.injEq,and_true]at g
 obtain⟨rfl,rfl⟩:=g
 rw[y]at e
 rw[hd]at f
 simp only[Option.some.injEq,Value.slice.injEq]at e f
 obtain⟨_,rfl,rfl⟩:=e
 obtain⟨_,rfl,rfl⟩:=f
 exact⟨u,x⟩
section
variable {H:Type} {enc:TypeId×Value→H} {w:World} {spare:Nat→Bool} {held:Bool} {base:Nat}
theorem lM {b:Nat} {v:Value} {x:DataW H×List MemPlace} (h:DataW.trod enc Tryz.prog w base spare held b 101 [v]=some x):∃(A:Option Addr) (n c:Nat),v= .slice A n c∧n≤c:=by
 rcases DataW.trod_slice Tryz.underlying101 h with ⟨h7,_⟩|⟨a,len,cap,elems,rest,m,rfl,h7,hy,_,hl,hm,hlen,hel',_,_⟩
 ·simp only[List.cons.injEq,and_true]at h7
  exact⟨none,0,0,h7,Nat.le_refl _⟩
 ·simp only[List.cons.injEq,and_true]at h7
  exact⟨_,_,_,h7,hl⟩
instance:Inhabited Sl:=⟨⟨none,0,0⟩⟩
theorem cap_keys {a:Nat} {A:Option Addr} {n c:Nat} {x:DataW H×List MemPlace} (h:DataW.trod enc Tryz.prog w base spare held a 25 [.slice A n c]=some x):jS w A n:=by
 obtain⟨l,o,t,c',g,p,r,j,s⟩:=bz (α:=Sl) Tryz.underlying25 (by kernel_rfl:Tryz.prog.cellsOf 101=1) (by decide) (fun l cs=>cs= [.slice l.A l.n l.c]∧l.n≤l.c) (fun _=>0)
  (fun a cs x h=>by
   obtain⟨v,rfl⟩:=lK (by kernel_rfl:Tryz.prog.cellsOf 101=1) h
   obtain⟨A,n,c,rfl,e⟩:=lM h
   exact⟨⟨A,n,c⟩,⟨rfl,e⟩,Nat.zero_le _⟩) h
 simp only[Value.slice.injEq]at g
 obtain⟨rfl,rfl,rfl⟩:=g
 intro i hi
 obtain⟨cs,b,f,⟨rfl,m⟩,k,e⟩:=j i _ (List.getElem?_eq_getElem (by omega))
 exact⟨b,f,_,_,_,k,by simpa using e 0 _ rfl,m⟩
theorem cap_frs {a:Nat} {A:Option Addr} {n c:Nat} {x:DataW H×List MemPlace} (h:DataW.trod enc Tryz.prog w base spare held a 26 [.slice A n c]=some x):jT w A n:=by
 obtain⟨l,O,R,c',o,f,P,z,Q⟩:=bz (α:=Sl×Value×Sl) Tryz.underlying26 (by kernel_rfl:Tryz.prog.cellsOf 103=3) (by decide) (fun l cs=>cs= [.slice l.1.A l.1.n l.1.c,l.2.1,.slice l.2.2.A l.2.2.n l.2.2.c]∧l.1.n≤l.1.c∧l.2.2.n≤l.2.2.c) (fun _=>0)
  (fun a cs x h=>by
   obtain⟨L,n,rfl,D,C,e,r⟩:=DataW.trod_struct Tryz.underlying103 h
   obtain⟨c0,c1,c2,rfl⟩:=lst3 (C.trans (by kernel_rfl:Tryz.prog.cellsOf 103=3))
   have e:L.length=3:=e
   obtain⟨J,U,K,rfl⟩:=lst3 e
   have m:DataW.trod enc Tryz.prog w base spare held n 101 (List.take (Tryz.prog.cellsOf 101) (List.drop 0 [c0,c1,c2]))=some J:=r 0 _ rfl
   have f:DataW.trod enc Tryz.prog w base spare held n 101 (List.take (Tryz.prog.cellsOf 101) (List.drop 2 [c0,c1,c2]))=some K:=r 2 _ rfl
   simp only[cl_strs,List.drop_zero,List.drop_succ_cons,List.take_succ_cons,List.take_zero]at m f
   obtain⟨s,G,E,rfl,u⟩:=lM m
   obtain⟨t,I,F,rfl,y⟩:=lM f
   exact⟨⟨⟨s,G,E⟩,c1,⟨t,I,F⟩⟩,⟨rfl,u,y⟩,Nat.zero_le _⟩) h
 simp only[Value.slice.injEq]at o
 obtain⟨rfl,rfl,rfl⟩:=o
 intro i hi
 obtain⟨cs,b,k,⟨rfl,g,j⟩,B,p⟩:=z i _ (List.getElem?_eq_getElem (by omega))
 exact⟨b,k,_,_,_,_,_,_,B,by simpa using p 0 _ rfl,g,p 2 _ rfl,j⟩
theorem cap_st {e:Nat} {s:St} {a:SA} {x:DataW H×List MemPlace} (h:DataW.trod enc Tryz.prog w base spare held e 40 (s.cells a)=some x):jS w a.keys.A a.keys.n∧jT w a.frs.A a.frs.n:=by
 obtain⟨j,n,rfl,i,m,b,f⟩:=DataW.trod_struct Tryz.underlying40 h
 have b:j.length=12:=b
 obtain⟨t,u,r,y,z,B,C,D,E,F,o,p,rfl⟩:=lst12 b
 have g:DataW.trod enc Tryz.prog w base spare held n 29 (List.take (Tryz.prog.cellsOf 29) (List.drop 2 (s.cells a)))=some r:=f 2 _ rfl
 unfold St.cells Sl.v at g
 simp only[cl_def,List.drop_succ_cons,List.drop_zero,List.take_succ_cons,List.take_zero]at g
 obtain⟨j,n,rfl,i,m,b,f⟩:=DataW.trod_struct Tryz.underlying29 g
 have b:j.length=4:=b
 obtain⟨G,I,J,K,rfl⟩:=lst4 b
 have k:=f 1 _ rfl
 have l:=f 2 _ rfl
 exact⟨cap_keys k,cap_frs l⟩
end
theorem open_caps {H:Type} {enc:TypeId×Value→H} {w:World} {base f:Nat} {spare:Nat→Bool} {held:Bool} {s:St} {a:SA} {d:DataW H} {p:List MemPlace}
  (h:DataW.Trod enc Tryz.prog w base spare held 40 (s.val a) d p):jS w a.keys.A a.keys.n∧jT w a.frs.A a.frs.n:=by
 obtain⟨b,e⟩:=h
 exact cap_st e
end
theorem ownN_ext {w w':World} {B e b n:Nat} {v:Value} {f:List Value} (h:w.ownsRow B e b v n f) (j:Ext w w'):w'.ownsRow B e b v n f:=by
 obtain⟨i,a⟩:=h
 refine⟨i,?_⟩
 rcases a with a|⟨g,cap,cur,hv,hg,hh,r⟩
 ·exact .inl a
 ·exact .inr ⟨g,cap,cur,hv,hg,(Below.block j g (Array.getElem?_eq_some_iff.1 hh).1).trans hh,r⟩
theorem news_at (w:World) (cs:Array Value) (e:TypeId) (n:Nat) (a:n=w.heap.size):∀(j:Nat) (u:Value),cs.toList[j]? =some u→(w.alloc (.cells cs e)).cell? ((⟨n,0,none⟩:Addr).add j)=some u:=by
 subst a
 exact iQ w cs e
theorem dY {w:World} {e:Ex} {A:Option Addr} {n c:Nat} (h:ExV w e A n c):ExC w e (e.d.cells A n c):=by
 obtain⟨d,ks⟩:=e
 rw[ExC]
 have a:=h.len
 have a:ks.length=n:=a
 subst a
 exact⟨h.fit,h.le,A,c,rfl,h.kids⟩
theorem ja {α β:Type} {l:List α} {k:Nat} {x:α} (f:α→β) (h:l[k]? =some x):(l.take (k+1)).map f=(l.take k).map f++ [f x]:=by
 obtain⟨hi,rfl⟩:=List.getElem?_eq_some_iff.1 h
 rw[List.take_succ_eq_append_getElem hi,List.map_append]
 rfl
theorem pu (L:List (List Ex)) (A:Option Addr) (n c:Nat) (w:World) (i:L.length=n) (j:n≤9223372036854775807) (b:dh w A L) (f:L.flatten.length≤1000000000):
  Calls Tryz.prog 114 #[.slice A n c] w fun r w'=> ∃a c',r= .returned (.slice a L.flatten.length c')∧KidsAt w' a L.flatten∧Ext w w':=
 (lH L A n c w i j b f).mono fun r w' ⟨v,m,b,l,g,e⟩=>by
  obtain⟨a,c',rfl,h,k⟩:=lG l (g.ext e)
  exact⟨a,c',b,h,e⟩
theorem rows3 {w:World} {g t:Nat} {b e f:Option Addr} {m n o c1 c2 c3:Nat} {l1 j k:List Ex} (h:Blk w g t [.slice b m c1,.slice e n c2,.slice f o c3])
  (p:l1.length=m∧KidsAt w b l1) (r:j.length=n∧KidsAt w e j) (s:k.length=o∧KidsAt w f k):dh w (some ⟨g,0,none⟩) [l1,j,k]:=by
 intro i l a
 match i with
 |0=>simp at a;subst a;exact⟨g,0,b,m,c1,rfl,by simpa using h.cell 0,p.1,p.2⟩
 |1=>simp at a;subst a;exact⟨g,0,e,n,c2,rfl,by simpa using h.cell 1,r.1,r.2⟩
 |2=>simp at a;subst a;exact⟨g,0,f,o,c3,rfl,by simpa using h.cell 2,s.1,s.2⟩
 |i+3=>simp at a
theorem eL {w:World} {A:Option Addr} {l:List Asg} (h:dM w A l) {i:Nat} {x:Asg} (m:l[i]? =some x):∃b a f n c,A=some ⟨b,a,none⟩∧w.cell? ⟨b,a+i*10,none⟩=some (.string x.cl)∧w.cell? ⟨b,a+i*10+1,none⟩=some (.int .i64 x.ix)∧
  w.cell? ⟨b,a+i*10+2,none⟩=some (.int .i64 x.ex.d.op)∧w.cell? ⟨b,a+i*10+3,none⟩=some (.string x.ex.d.tb)∧w.cell? ⟨b,a+i*10+4,none⟩=some (.string x.ex.d.nm)∧w.cell? ⟨b,a+i*10+5,none⟩=some (.int .i64 x.ex.d.ix)∧
  w.cell? ⟨b,a+i*10+6,none⟩=some (.int .i64 x.ex.d.vk)∧w.cell? ⟨b,a+i*10+7,none⟩=some (.int .i64 x.ex.d.vi)∧w.cell? ⟨b,a+i*10+8,none⟩=some (.string x.ex.d.vt)∧w.cell? ⟨b,a+i*10+9,none⟩=some (.slice f n c)∧ExV w x.ex f n c:=by
 obtain⟨_,b,a,f,n,c,k,g,j,e⟩:=h i x m
 exact⟨b,a,f,n,c,k,g,j,e.c0,e.c1,e.c2,e.c3,e.c4,e.c5,e.c6,e.c7,e.val⟩
theorem eM {w:World} {A:Option Addr} {l:List Itm} (h:dN w A l) {i:Nat} {x:Itm} (k:l[i]? =some x):∃b a f n c,A=some ⟨b,a,none⟩∧w.cell? ⟨b,a+i*9,none⟩=some (.int .i64 x.ag)∧
  w.cell? ⟨b,a+i*9+1,none⟩=some (.int .i64 x.ex.d.op)∧w.cell? ⟨b,a+i*9+2,none⟩=some (.string x.ex.d.tb)∧w.cell? ⟨b,a+i*9+3,none⟩=some (.string x.ex.d.nm)∧w.cell? ⟨b,a+i*9+4,none⟩=some (.int .i64 x.ex.d.ix)∧
  w.cell? ⟨b,a+i*9+5,none⟩=some (.int .i64 x.ex.d.vk)∧w.cell? ⟨b,a+i*9+6,none⟩=some (.int .i64 x.ex.d.vi)∧w.cell? ⟨b,a+i*9+7,none⟩=some (.string x.ex.d.vt)∧w.cell? ⟨b,a+i*9+8,none⟩=some (.slice f n c)∧ExV w x.ex f n c:=by
 obtain⟨_,b,a,f,n,c,j,g,e⟩:=h i x k
 exact⟨b,a,f,n,c,j,g,e.c0,e.c1,e.c2,e.c3,e.c4,e.c5,e.c6,e.c7,e.val⟩
theorem dC (d:Nd) (A:Option Addr) (n c:Nat):∀u∈d.cells A n c,u.oneCell'=true:=by
 intro u a
 simp[Nd.cells]at a
 rcases a with rfl|rfl|rfl|rfl|rfl|rfl|rfl|rfl<;>rfl
theorem all_any (s:St) (a:SA) (w:World) (L:StV w s a) (hT:s.all.length≤100000000):
  Calls Tryz.prog 63 #[s.val a] w fun r w'=> ∃A c,r= .returned (.slice A s.all.length c)∧KidsAt w' A s.all∧Ext w w':=by
 obtain⟨i0,hi,ag,an,ax⟩:=info_parts kI
 have P:=hid L
 have b0:=hid hT
 have HB:=hid (Blk.of_new w 40 (s.cells a))
 have HX:=hid ((Ext.refl w).alloc (.cells (s.cells a).toArray 40))
 have cc:=L.sets.2.1
 have cb:=L.itms.2.1
 have a6:s.vals.flatten.length≤100000000∧(s.chk++s.vals.flatten++s.grp).length≤100000000∧(s.chk++s.vals.flatten++s.grp++s.sets.map Asg.ex).length≤100000000∧(s.chk++s.vals.flatten++s.grp++s.sets.map Asg.ex++s.itms.map Itm.ex).length<100000000:=by
  unfold St.all at hT
  simp only[List.length_append,List.length_singleton]at*
  omega
 have X:=hid a6
 have a1:=hid (fun W (hW:Ext w W)=>pu s.vals a.vals.A a.vals.n a.vals.c W L.vals.1 L.vals.2.1 (L.vals.2.2.ext hW) (by omega))
 have a2:Hid (∀(W:World) (g':Nat) (D:Option Addr) (c':Nat),Ext w W→KidsAt W D s.vals.flatten→Blk W g' 27 [.slice a.chk.A a.chk.n a.chk.c,.slice D s.vals.flatten.length c',.slice a.grp.A a.grp.n a.grp.c]→
   Calls Tryz.prog 114 #[.slice (some ⟨g',0,none⟩) 3 3] W fun r w'=> ∃v y,r= .returned v∧w'.ownsRow W.heap.size 37 8 v (s.chk++s.vals.flatten++s.grp).length y∧LC W (s.chk++s.vals.flatten++s.grp) y∧Ext W w'):=by
  intro W g' D c' hW hk hb
  have he: [s.chk,s.vals.flatten,s.grp].flatten=s.chk++s.vals.flatten++s.grp:=by simp
  have:=lH [s.chk,s.vals.flatten,s.grp] _ 3 3 W rfl (by omega) (rows3 hb ⟨L.chk.1,L.chk.2.2.ext hW⟩ ⟨rfl,hk⟩ ⟨L.grp.1,L.grp.2.2.ext hW⟩) (by rw[he];omega)
  rwa [he]at this
 clear L hT a6
 unfold St.val
 unfold St.cells at*
 unfold Sl.v at*
 have Z:=hid P.sets.2.2
 have Y:=hid P.itms.2.2
 generalize a.sets.A=P1 at*
 generalize a.itms.A=P2 at*
 go_enter Tryz.func63,Tryz.ntmps63
 go_wp2_with fail
 generalize w.alloc (.cells _ 40)=w1 at*
 generalize w.heap.size=g at*
 obtain⟨-,-,-,-,-,c5,c6,-,-,-,-,-,-,-,-,-,-,-,ac,-⟩:=cls HB
 generalize s.vals.flatten.length=U at*
 go_region_held3 (fun w'=>w'.cell? ⟨g,5,none⟩=some (.slice a.chk.A a.chk.n a.chk.c)∧w'.cell? ⟨g,6,none⟩=some (.slice a.vals.A a.vals.n a.vals.c)∧w'.cell? ⟨g,18,none⟩=some (.slice a.grp.A a.grp.n a.grp.c))
  (first|go_keep|exact⟨l.keep c5,l.keep c6,l.keep ac⟩|exact⟨C.keep (((Ext.refl w2).alloc _).keep (l.keep c5)),C.keep (((Ext.refl w2).alloc _).keep (l.keep c6)),C.keep (((Ext.refl w2).alloc _).keep (l.keep ac))⟩)
  (first
   |(go_at_call 114;(with_reducible refine(a1.out _ HX.out.drew).mono ?_);rintro _ w2 ⟨A1,c1,rfl,a7,l⟩)
   |(go_at_call 114;(with_reducible refine(a2.out _ _ A1 c1 ((HX.out.drew.trans l).alloc _) (a7.ext ((Ext.refl w2).alloc _)) (Blk.of_new w2 _ _)).mono ?_);rintro _ w3 ⟨v3,bY,rfl,K,R,C⟩))
 have bn:=Blk.of_new w2 27 [.slice a.chk.A a.chk.n a.chk.c,.slice A1 U c1,.slice a.grp.A a.grp.n a.grp.c]
 have Q:=hid ((HX.drew.trans l).alloc (.cells #[.slice a.chk.A a.chk.n a.chk.c,.slice A1 U c1,.slice a.grp.A a.grp.n a.grp.c] 27))
 have V:=hid ((HB.ext (((Ext.refl w1).drew.trans l).alloc (.cells #[.slice a.chk.A a.chk.n a.chk.c,.slice A1 U c1,.slice a.grp.A a.grp.n a.grp.c] 27))))
 have bd:=hid K
 have a3:=hid R
 rename_i hHeld
 clear hHeld K R bn a1 a2 c5 c6 ac a7
 generalize w2.alloc (.cells #[.slice a.chk.A a.chk.n a.chk.c,.slice A1 U c1,.slice a.grp.A a.grp.n a.grp.c] 27)=I at*
 generalize a4:s.chk++s.vals.flatten++s.grp=L0 at*
 have c7:=(V.ext C).cell 7
 simp only[List.getElem?_cons_succ,List.getElem?_cons_zero]at c7
 have bm:=hid C
 clear l C
 go_wp2_with fail
 go_loopw [3,21] (fun U iv wr=> ∃(k:Nat) (y:List Value),k≤a.sets.n∧iv= .int .i64 k∧wr.ownsRow I.heap.size 37 8 U (L0++(s.sets.take k).map Asg.ex).length y∧LC I (L0++(s.sets.take k).map Asg.ex) y∧Ext I wr) (fun _ i _=>a.sets.n- (intOf i).toNat)
 case atStart=>exact⟨0,bY,Nat.zero_le _,rfl,by simpa using bd.out,by simpa using a3.out,bm⟩
 case round=>
  obtain⟨k,y,hk,rfl,u,J,e⟩:=hrel
  have z:=hid u
  have t:=hid J
  have m:=hid e
  clear u J
  by_cases ad:k<a.sets.n
  ·obtain⟨x,hx⟩:=aq P.sets.1 ad
   obtain⟨b,bN,D,n',c',rfl,q0,q1,q2,q3,q4,q5,q6,q7,q8,q9,O⟩:=eL (Z.ext Q) hx
   replace q0:=e.keep q0
   replace q1:=e.keep q1
   replace q2:=e.keep q2
   replace q3:=e.keep q3
   replace q4:=e.keep q4
   replace q5:=e.keep q5
   replace q6:=e.keep q6
   replace q7:=e.keep q7
   replace q8:=e.keep q8
   replace q9:=e.keep q9
   have o:=hid (dY O)
   have F:=hid (ja Asg.ex hx)
   have h:=hid (dC x.ex.d D n' c')
   obtain⟨p,B⟩:∃p,(L0++(s.sets.take k).map Asg.ex).length=p:=⟨_,rfl⟩
   have HP:=hid B
   rw[B]at z
   have a9:p+1≤100000000:=by
    have h1:=X.2.2.1
    have h2:(s.sets.take (k+1)).length≤s.sets.length:=by rw[List.length_take];omega
    rw[←B]
    simp only[List.length_append,List.length_map,List.length_take]at*
    have:=P.sets.1
    omega
   clear hx O B e
   unfold Nd.cells at o h
   generalize hd:x.ex.d=d at*
   obtain⟨op,tb,nm,ix,vk,vi,vt⟩:=d
   simp only at*
   clear hd
   go_wp2_with (at_builtin;refine wpList_append_own _ rfl (.tmp 25) (.tmp 28) 27 rfl I.heap.size 37 i0 _ 8 104 Tryz.underlying27 hi ag an ax rfl (by decide) _ p y rfl (ownN_ext z.out (((Ext.refl wr).alloc _).alloc _)) ⟨_,0,none⟩ 1 1 (eC op tb nm ix vk vi vt D n' c') rfl rfl (news_at _ _ _ _ (by simp)) h.out (by unfold maxLen;omega) (by omega) (by simp;have:=m.out.size;omega) ?_;intro v1 w5 f j _;have G:=hid f;have E:=hid j;clear f j)
   go_roundw
   case rel=>
    refine⟨k+1,y++(eC op tb nm ix vk vi vt D n' c'),by omega,by go_num,?_,?_,?_⟩
    ·rw[F.out,←List.append_assoc,List.length_append,HP.out]
     exact G
    ·rw[F.out,←List.append_assoc]
     exact t.app (LC.one o)
    ·refine((m.alloc _).alloc _).grown E fun q hq=> (z.lt q hq).1
   case measure=>simp[intOf];omega
  ·obtain rfl:k=a.sets.n:=by omega
   have bf:Hid (s.sets.take a.sets.n=s.sets):=List.take_of_length_le (Nat.le_of_eq P.sets.1)
   rw[bf.out]at z t
   generalize a5:L0++s.sets.map Asg.ex=L1 at*
   have c8:=(V.ext e).cell 8
   simp only[List.getElem?_cons_succ,List.getElem?_cons_zero]at c8
   clear e
   go_wp2_with fail
   go_loopw [3,34] (fun U iv wr=> ∃(k:Nat) (y:List Value),k≤a.itms.n∧iv= .int .i64 k∧wr.ownsRow I.heap.size 37 8 U (L1++(s.itms.take k).map Itm.ex).length y∧LC I (L1++(s.itms.take k).map Itm.ex) y∧Ext I wr) (fun _ i _=>a.itms.n- (intOf i).toNat)
   case atStart=>exact⟨0,y,Nat.zero_le _,rfl,by simpa using z.out,by simpa using t.out,m⟩
   case round=>
    clear z t m
    obtain⟨k,y,hk,rfl,u,J,e⟩:=hrel
    have z:=hid u
    have t:=hid J
    have m:=hid e
    clear u J
    by_cases ad:k<a.itms.n
    ·obtain⟨x,hx⟩:=aq P.itms.1 ad
     obtain⟨b,bN,D,n',c',rfl,q0,q1,q2,q3,q4,q5,q6,q7,q8,O⟩:=eM (Y.ext Q) hx
     replace q0:=e.keep q0
     replace q1:=e.keep q1
     replace q2:=e.keep q2
     replace q3:=e.keep q3
     replace q4:=e.keep q4
     replace q5:=e.keep q5
     replace q6:=e.keep q6
     replace q7:=e.keep q7
     replace q8:=e.keep q8
     have o:=hid (dY O)
     have F:=hid (ja Itm.ex hx)
     have h:=hid (dC x.ex.d D n' c')
     obtain⟨p,B⟩:∃p,(L1++(s.itms.take k).map Itm.ex).length=p:=⟨_,rfl⟩
     have HP:=hid B
     rw[B]at z
     have a9:p+1≤100000000:=by
      have h1:=X.2.2.2
      have h2:(s.itms.take (k+1)).length≤s.itms.length:=by rw[List.length_take];omega
      rw[←B]
      simp only[List.length_append,List.length_map,List.length_take]at*
      have:=P.itms.1
      omega
     clear hx O B e
     unfold Nd.cells at o h
     generalize hd:x.ex.d=d at*
     obtain⟨op,tb,nm,ix,vk,vi,vt⟩:=d
     simp only at*
     clear hd
     go_wp2_with (at_builtin;refine wpList_append_own _ rfl (.tmp 38) (.tmp 41) 27 rfl I.heap.size 37 i0 _ 8 104 Tryz.underlying27 hi ag an ax rfl (by decide) _ p y rfl (ownN_ext z.out (((Ext.refl wr).alloc _).alloc _)) ⟨_,0,none⟩ 1 1 (eC op tb nm ix vk vi vt D n' c') rfl rfl (news_at _ _ _ _ (by simp)) h.out (by unfold maxLen;omega) (by omega) (by simp;have:=m.out.size;omega) ?_;intro v1 w5 f j _;have G:=hid f;have E:=hid j;clear f j)
     go_roundw
     case rel=>
      refine⟨k+1,y++(eC op tb nm ix vk vi vt D n' c'),by omega,by go_num,?_,?_,?_⟩
      ·rw[F.out,←List.append_assoc,List.length_append,HP.out]
       exact G
      ·rw[F.out,←List.append_assoc]
       exact t.app (LC.one o)
      ·refine((m.alloc _).alloc _).grown E fun q hq=> (z.lt q hq).1
     case measure=>simp[intOf];omega
    ·obtain rfl:k=a.itms.n:=by omega
     have be:Hid (s.itms.take a.itms.n=s.itms):=List.take_of_length_le (Nat.le_of_eq P.itms.1)
     rw[be.out]at z t
     have hb:=V.ext e
     obtain⟨-,-,-,-,-,-,-,-,-,-,b1,b2,b3,b4,b5,b6,b7,b9,-⟩:=cls hb
     have o:=hid (dY (P.whr.ext Q))
     have h:=hid (dC s.whr.d a.whr.A a.whr.n a.whr.c)
     obtain⟨p,B⟩:∃p,(L1++s.itms.map Itm.ex).length=p:=⟨_,rfl⟩
     have HP:=hid B
     rw[B]at z
     have a9:p+1≤100000000:=by
      have h1:=X.2.2.2
      omega
     have a0:Hid (s.all=L1++s.itms.map Itm.ex++ [s.whr]):=by unfold Hid St.all;rw[a4,a5]
     clear hb e B a4 a5
     unfold Nd.cells at o h
     generalize hd:s.whr.d=d at*
     obtain⟨op,tb,nm,ix,vk,vi,vt⟩:=d
     simp only at*
     clear hd
     go_wp2_with (at_builtin;refine wpList_append_own _ rfl (.tmp 44) (.tmp 47) 27 rfl I.heap.size 37 i0 _ 8 104 Tryz.underlying27 hi ag an ax rfl (by decide) _ p y rfl (ownN_ext z.out ((Ext.refl wr).alloc _)) ⟨_,0,none⟩ 1 1 (eC op tb nm ix vk vi vt a.whr.A a.whr.n a.whr.c) rfl rfl (news_at _ _ _ _ (by simp)) h.out (by unfold maxLen;omega) (by omega) (by simp;have:=m.out.size;omega) ?_;intro v1 w5 f j _;have G:=hid f;have E:=hid j;clear f j)
     go_ret
     have ba:Ext I w5:=(m.alloc _).grown E fun q hq=> (z.lt q hq).1
     have a8:LC I s.all (y++(eC op tb nm ix vk vi vt a.whr.A a.whr.n a.whr.c)):=by rw[a0.out];exact t.app (LC.one o)
     obtain⟨A5,c5,rfl,bw,bx⟩:=lG G (a8.ext ba)
     rw[bx]
     exact⟨A5,c5,rfl,bw,Q.trans ba⟩
def jU:ByteArray:=⟨#[32,87,72,69,82,69,32]⟩
def fD:ByteArray:=⟨#[68,69,76,69,84,69,32,70,82,79,77,32]⟩
mutual
def Ex.num (n:Int):Ex→Ex
 | .mk d ks=> .mk { d with ix:=n } (numL n ks)
def numL (n:Int):List Ex→List Ex
 | []=> []
 |e::es=>e.num n::numL n es
end
def Same (lo hi:Nat) (skip:Option Nat) (w w2:World):Prop:=∀b,lo≤b→b<hi→some b≠skip→w2.heap[b]? =w.heap[b]?
theorem jV (w:World) (cs:List Value) (e:TypeId) (a:cs.length=8):Reads (w.alloc (.cells cs.toArray e)) (w.heap.size+1) 8 (some ⟨w.heap.size,0,none⟩) 1 cs:=
 ⟨by omega,fun _=>⟨_,rfl,Nat.lt_succ_self _,news_at w cs.toArray e w.heap.size rfl⟩⟩
def jc (l:List ByteArray):Int:=l.foldl (fun acc s=>wrap64 (acc+(s.size:Int))) (l.length:Int)
def wideK (l:List ByteArray) (k:Nat):Int:=(l.take k).foldl (fun acc s=>wrap64 (acc+(s.size:Int))) (l.length:Int)
theorem qA {l:List ByteArray} {k:Nat} {s:ByteArray} (h:l[k]? =some s):wideK l (k+1)=wrap64 (wideK l k+(s.size:Int)):=by
 obtain⟨hi,rfl⟩:=List.getElem?_eq_some_iff.1 h
 unfold wideK
 rw[List.take_succ_eq_append_getElem hi,List.foldl_append]
 rfl
theorem lN (l:List ByteArray) (A:Option Addr) (n c:Nat) (w:World) (h:l.length=n) (B:n≤9223372036854775807) (hs:aM w A l):
  Calls Tryz.prog 48 #[.slice A n c] w fun r w'=>r= .returned (.int .i64 (jc l))∧Ext w w':=by
 have f:=hid h
 have m:=hid hs
 clear h hs
 go_enter Tryz.func48,Tryz.ntmps48
 go_wp2_with fail
 go_loopw [3,4] (fun u t wr=> ∃(k:Nat),k≤n∧t= .int .i64 k∧u= .int .i64 (wideK l k)∧Ext w wr) (fun _ i _=>n- (intOf i).toNat)
 case atStart=>exact⟨0,Nat.zero_le _,rfl,by unfold wideK;rw[f.out];rfl,Ext.refl w⟩
 case round=>
  obtain⟨k,z,rfl,rfl,e⟩:=hrel
  have a:=hid e
  by_cases g:k<n
  ·obtain⟨s,hs⟩:=aq f g
   obtain⟨p,b,y,rfl,C⟩:=(m.ext e) k s hs
   have j:=hid (qA hs)
   clear hs
   generalize wideK l k=x at*
   go_wp2_with fail
   go_roundw
   case rel=>exact⟨k+1,by omega,by go_num,by rw[j.out],a⟩
   case measure=>simp[intOf];omega
  ·obtain rfl:k=n:=by omega
   have o:Hid (wideK l k=jc l):=by unfold Hid wideK jc;rw[←f.out,List.take_length]
   rw[o.out]
   go_wp2_with fail
   go_ret
   exact⟨rfl,a⟩
def St.rall (s:St):List Ex:=s.chk++s.vals.flatten++s.sets.map Asg.ex++s.itms.map Itm.ex++ [s.whr]++s.grp
theorem pv (s:St) (a:SA) (w:World) (O:StV w s a) (hT:s.rall.length≤100000000):
  Calls Tryz.prog 46 #[s.val a] w fun r w'=> ∃A c,r= .returned (.slice A s.rall.length c)∧KidsAt w' A s.rall∧Ext w w':=by
 obtain⟨i0,hi,U,V,W⟩:=info_parts kI
 have HV:=hid O
 have HB:=hid (Blk.of_new w 40 (s.cells a))
 have y:=hid ((Ext.refl w).alloc (.cells (s.cells a).toArray 40))
 have d7:=O.vals.2.1
 have d6:=O.sets.2.1
 have d5:=O.itms.2.1
 have d4:=O.grp.2.1
 have c1:=O.chk.1
 have c3:=O.grp.1
 obtain⟨L1,a1⟩:∃L1,s.chk++s.vals.flatten=L1:=⟨_,rfl⟩
 obtain⟨L2,a2⟩:∃L2,L1++s.sets.map Asg.ex=L2:=⟨_,rfl⟩
 obtain⟨L3,a3⟩:∃L3,L2++s.itms.map Itm.ex=L3:=⟨_,rfl⟩
 have c2:s.chk.length≤100000000∧s.chk.length+s.vals.flatten.length≤100000000∧L1.length+s.sets.length≤100000000∧L2.length+s.itms.length≤100000000∧L3.length+1+s.grp.length≤100000000:=by
  unfold St.rall at hT
  rw[a1,a2,a3]at hT
  have h1:=congrArg List.length a1
  have h2:=congrArg List.length a2
  have h3:=congrArg List.length a3
  simp only[List.length_append,List.length_singleton,List.length_map]at*
  omega
 have a7:=hid c2
 have b1:Hid (s.rall=L3++ [s.whr]++s.grp):=by unfold Hid St.rall;rw[a1,a2,a3]
 have cc:=hid a1
 have cd:=hid a2
 have cj:=hid a3
 obtain⟨xc,bf,bw⟩:=fC O.chk.2.2 O.chk.1
 have ax:=hid bf
 have a0:=hid bw
 obtain⟨xg,bm,bx⟩:=fC O.grp.2.2 O.grp.1
 have ba:=hid bm
 have R:=hid bx
 have bN:=hid O.vals
 have I:=hid O.sets
 have G:=hid O.itms
 have b2:=hid (dY O.whr)
 have b3:=hid (dC s.whr.d a.whr.A a.whr.n a.whr.c)
 have c8:Hid (L3.length+1≤100000000):=by unfold Hid;omega
 clear O hT bf bw bm bx a1 a2 a3
 unfold Nd.cells at b2 b3
 unfold St.val
 unfold St.cells at*
 unfold Sl.v at*
 generalize s.whr.d=dw at*
 obtain⟨Z,ac,Y,X,ag,ad,an⟩:=dw
 simp only at*
 generalize a.sets.A=P1 at*
 generalize a.itms.A=P2 at*
 generalize a.vals.A=P3 at*
 go_enter Tryz.func46,Tryz.ntmps46
 go_upto_region 1 with fail
 generalize w.alloc (.cells _ 40)=E at*
 generalize hg:w.heap.size=g at*
 have a8:=hid (bl E 37 8 0 0 0 E.heap.size #[] (Nat.le_refl _) rfl (by decide))
 have c5:=(HB.ext ((Ext.refl E).alloc (.cells #[] 37))).cell 5
 simp only[List.getElem?_cons_succ,List.getElem?_cons_zero]at c5
 have m:=hid (Ext.refl E)
 rw[←hg]at a0 R
 go_wp2_with (at_builtin;refine wpList_append_any _ rfl (.tmp 7) (.tmp 10) 27 rfl E.heap.size 37 i0 _ 8 104 Tryz.underlying27 hi U V W rfl (by decide) _ 0 [] rfl (a8.out) _ _ _ _ xc rfl (a0.out.below (y.out.alloc _)) (ax.out.len.2) (by unfold maxLen;omega) (by omega) ((m.out.alloc _).size) ?_;intro v1 w5 f j _;have u:=hid f;have t:=hid j;clear f j;have c6:=((HB.out.ext ((Ext.refl E).alloc (.cells #[] 37))).grown t.out (fun h=>by have:=a8.out.lt _ h.symm;have:=y.out.size;have:=HB.out.lt;omega)).cell 6;simp only[List.getElem?_cons_succ,List.getElem?_cons_zero]at c6)
 have cs:Hid (w5.ownsRow E.heap.size 37 8 v1 (s.chk++(s.vals.take 0).flatten).length xc):=by unfold Hid;simpa[c1] using u.out
 have ck:Hid (LC w (s.chk++(s.vals.take 0).flatten) xc):=by unfold Hid;simpa using ax.out
 have cH:=hid (((Ext.refl E).alloc (.cells #[] 37)).grown t fun q P=>cT a8 P)
 clear u t a8 ax a0 c5 c6
 rw[hg]at R
 go_loopw [3,4] (fun nv iv wr=> ∃(k:Nat) (K:List Value),k≤a.vals.n∧iv= .int .i64 k∧wr.ownsRow E.heap.size 37 8 nv (s.chk++(s.vals.take k).flatten).length K∧LC w (s.chk++(s.vals.take k).flatten) K∧Ext E wr) (fun _ i _=>a.vals.n- (intOf i).toNat)
 case atStart=>exact⟨0,_,Nat.zero_le _,rfl,cs,ck,cH⟩
 case round=>
  obtain⟨k,K,hk,rfl,o,z,e⟩:=hrel
  have C:=hid o
  have B:=hid z
  have m:=hid e
  have cb:=(HB.ext e).cell 6
  simp only[List.getElem?_cons_succ,List.getElem?_cons_zero]at cb
  clear o z
  by_cases a4:k<a.vals.n
  ·obtain⟨l,hl⟩:=aq bN.1 a4
   obtain⟨b,b7,Ai,ni,ci,hA,q0,b0,b4⟩:=bN.2.2 k l hl
   subst hA
   replace q0:=(y.trans e).keep q0
   obtain⟨xn,bn,b5⟩:=fC b4 b0
   have D:=hid bn
   have cv:=hid b5
   have F:Hid (s.chk++(s.vals.take (k+1)).flatten=(s.chk++(s.vals.take k).flatten)++l):=by unfold Hid;rw[jQ hl,List.append_assoc]
   obtain⟨p,J⟩:∃p,(s.chk++(s.vals.take k).flatten).length=p:=⟨_,rfl⟩
   have HP:=hid J
   have a9:p+ni≤100000000:=by
    have h1:=a7.2.1
    have h2:=nZ s.vals (k+1)
    have h3:=congrArg List.length F
    rw[List.length_append,List.length_append (bs:=l),J]at h3
    omega
   have cl:=hid b0
   rw[J]at C
   clear hl b4 bn b5 b0 J e
   go_wp2_with (at_builtin;refine wpList_append_any _ rfl (.tmp 19) (.tmp 24) 27 rfl E.heap.size 37 i0 _ 8 104 Tryz.underlying27 hi U V W rfl (by decide) _ p K rfl (C.out) _ _ _ _ xn rfl (cv.out.below (y.out.trans m.out)) (D.out.len.2) (by unfold maxLen;omega) (by omega) (m.out.size) ?_;intro v1 w5 f j _;have u:=hid f;have t:=hid j;clear f j)
   go_roundw
   case rel=>
    refine⟨k+1,K++xn,by omega,by go_num,?_,?_,?_⟩
    ·rw[F.out,List.length_append (bs:=l),HP.out,cl.out];exact u
    ·rw[F.out];exact B.app D
    ·exact(m).grown t fun q P=>cT C P
   case measure=>simp[intOf];omega
  ·obtain rfl:k=a.vals.n:=by omega
   have cz:Hid (s.chk++(s.vals.take a.vals.n).flatten=L1):=by unfold Hid;rw[List.take_of_length_le (Nat.le_of_eq bN.1),cc.out]
   rw[cz.out]at C B
   clear e
   go_wp2_with fail
   go_loopw [3,5] (fun nv iv wr=> ∃(k:Nat) (K:List Value),k≤a.sets.n∧iv= .int .i64 k∧wr.ownsRow E.heap.size 37 8 nv (L1++(s.sets.take k).map Asg.ex).length K∧LC w (L1++(s.sets.take k).map Asg.ex) K∧Ext E wr) (fun _ i _=>a.sets.n- (intOf i).toNat)
   case atStart=>exact⟨0,_,Nat.zero_le _,rfl,by simpa using C.out,by simpa using B.out,m⟩
   case round=>
    obtain⟨k,K,hk,rfl,o,z,e⟩:=hrel
    have C:=hid o
    have B:=hid z
    have m:=hid e
    have cb:=(HB.ext e).cell 7
    simp only[List.getElem?_cons_succ,List.getElem?_cons_zero]at cb
    clear o z
    by_cases a4:k<a.sets.n
    ·obtain⟨x,hx⟩:=aq I.1 a4
     obtain⟨b,b7,A',n',c',hA,q0,q1,q2,q3,q4,q5,q6,q7,q8,q9,a6⟩:=eL I.2.2 hx
     subst hA
     replace q0:=(y.trans e).keep q0
     replace q1:=(y.trans e).keep q1
     replace q2:=(y.trans e).keep q2
     replace q3:=(y.trans e).keep q3
     replace q4:=(y.trans e).keep q4
     replace q5:=(y.trans e).keep q5
     replace q6:=(y.trans e).keep q6
     replace q7:=(y.trans e).keep q7
     replace q8:=(y.trans e).keep q8
     replace q9:=(y.trans e).keep q9
     have D:=hid (LC.one (dY a6))
     have F:Hid (L1++(s.sets.take (k+1)).map Asg.ex=(L1++(s.sets.take k).map Asg.ex)++ [x.ex]):=by unfold Hid;rw[ja Asg.ex hx,List.append_assoc]
     have L:=hid (dC x.ex.d A' n' c')
     obtain⟨p,J⟩:∃p,(L1++(s.sets.take k).map Asg.ex).length=p:=⟨_,rfl⟩
     have HP:=hid J
     have a9:p+1≤100000000:=by
      have h1:=a7.2.2.1
      have h2:(s.sets.take (k+1)).length≤s.sets.length:=by rw[List.length_take];omega
      rw[←J]
      simp only[List.length_append,List.length_map,List.length_take]at*
      have:=I.1
      omega
     rw[J]at C
     clear hx a6 J e
     unfold Nd.cells at D L
     generalize hd:x.ex.d=d at*
     obtain⟨op,tb,nm,ix,vk,vi,vt⟩:=d
     simp only at*
     clear hd
     obtain⟨xn,Q⟩:∃xn:List Value,(eC op tb nm ix vk vi vt A' n' c')=xn:=⟨_,rfl⟩
     have bY:=hid Q
     rw[Q]at D
     clear Q
     go_wp2_with (at_builtin;refine wpList_append_any _ rfl (.tmp 33) (.tmp 40) 27 rfl E.heap.size 37 i0 _ 8 104 Tryz.underlying27 hi U V W rfl (by decide) _ p K rfl (ownN_ext C.out ((Ext.refl wr).alloc _)) _ _ _ _ (eC op tb nm ix vk vi vt A' n' c') rfl (jV wr (eC op tb nm ix vk vi vt A' n' c') 37 rfl) (L.out) (by unfold maxLen;omega) (by omega) ((m.out.alloc _).size) ?_;intro v1 w5 f j _;have u:=hid f;have t:=hid j;clear f j)
     rw[bY.out]at u
     go_roundw
     case rel=>
      refine⟨k+1,K++xn,by omega,by go_num,?_,?_,?_⟩
      ·rw[F.out,List.length_append (bs:= [x.ex]),HP.out];exact u
      ·rw[F.out];exact B.app D
      ·exact(m.alloc _).grown t fun q P=>cT C P
     case measure=>simp[intOf];omega
    ·obtain rfl:k=a.sets.n:=by omega
     have cx:Hid (L1++(s.sets.take a.sets.n).map Asg.ex=L2):=by unfold Hid;rw[List.take_of_length_le (Nat.le_of_eq I.1),cd.out]
     rw[cx.out]at C B
     clear e
     go_wp2_with fail
     go_loopw [3,6] (fun nv iv wr=> ∃(k:Nat) (K:List Value),k≤a.itms.n∧iv= .int .i64 k∧wr.ownsRow E.heap.size 37 8 nv (L2++(s.itms.take k).map Itm.ex).length K∧LC w (L2++(s.itms.take k).map Itm.ex) K∧Ext E wr) (fun _ i _=>a.itms.n- (intOf i).toNat)
     case atStart=>exact⟨0,_,Nat.zero_le _,rfl,by simpa using C.out,by simpa using B.out,m⟩
     case round=>
      obtain⟨k,K,hk,rfl,o,z,e⟩:=hrel
      have C:=hid o
      have B:=hid z
      have m:=hid e
      have cb:=(HB.ext e).cell 8
      simp only[List.getElem?_cons_succ,List.getElem?_cons_zero]at cb
      clear o z
      by_cases a4:k<a.itms.n
      ·obtain⟨x,hx⟩:=aq G.1 a4
       obtain⟨b,b7,A',n',c',hA,q0,q1,q2,q3,q4,q5,q6,q7,q8,a6⟩:=eM G.2.2 hx
       subst hA
       replace q0:=(y.trans e).keep q0
       replace q1:=(y.trans e).keep q1
       replace q2:=(y.trans e).keep q2
       replace q3:=(y.trans e).keep q3
       replace q4:=(y.trans e).keep q4
       replace q5:=(y.trans e).keep q5
       replace q6:=(y.trans e).keep q6
       replace q7:=(y.trans e).keep q7
       replace q8:=(y.trans e).keep q8
       have D:=hid (LC.one (dY a6))
       have F:Hid (L2++(s.itms.take (k+1)).map Itm.ex=(L2++(s.itms.take k).map Itm.ex)++ [x.ex]):=by unfold Hid;rw[ja Itm.ex hx,List.append_assoc]
       have L:=hid (dC x.ex.d A' n' c')
       obtain⟨p,J⟩:∃p,(L2++(s.itms.take k).map Itm.ex).length=p:=⟨_,rfl⟩
       have HP:=hid J
       have a9:p+1≤100000000:=by
        have h1:=a7.2.2.2.1
        have h2:(s.itms.take (k+1)).length≤s.itms.length:=by rw[List.length_take];omega
        rw[←J]
        simp only[List.length_append,List.length_map,List.length_take]at*
        have:=G.1
        omega
       rw[J]at C
       clear hx a6 J e
       unfold Nd.cells at D L
       generalize hd:x.ex.d=d at*
       obtain⟨op,tb,nm,ix,vk,vi,vt⟩:=d
       simp only at*
       clear hd
       obtain⟨xn,Q⟩:∃xn:List Value,(eC op tb nm ix vk vi vt A' n' c')=xn:=⟨_,rfl⟩
       have bY:=hid Q
       rw[Q]at D
       clear Q
       go_wp2_with (at_builtin;refine wpList_append_any _ rfl (.tmp 49) (.tmp 56) 27 rfl E.heap.size 37 i0 _ 8 104 Tryz.underlying27 hi U V W rfl (by decide) _ p K rfl (ownN_ext C.out ((Ext.refl wr).alloc _)) _ _ _ _ (eC op tb nm ix vk vi vt A' n' c') rfl (jV wr (eC op tb nm ix vk vi vt A' n' c') 37 rfl) (L.out) (by unfold maxLen;omega) (by omega) ((m.out.alloc _).size) ?_;intro v1 w5 f j _;have u:=hid f;have t:=hid j;clear f j)
       rw[bY.out]at u
       go_roundw
       case rel=>
        refine⟨k+1,K++xn,by omega,by go_num,?_,?_,?_⟩
        ·rw[F.out,List.length_append (bs:= [x.ex]),HP.out];exact u
        ·rw[F.out];exact B.app D
        ·exact(m.alloc _).grown t fun q P=>cT C P
       case measure=>simp[intOf];omega
      ·obtain rfl:k=a.itms.n:=by omega
       have cw:Hid (L2++(s.itms.take a.itms.n).map Itm.ex=L3):=by unfold Hid;rw[List.take_of_length_le (Nat.le_of_eq G.1),cj.out]
       rw[cw.out]at C B
       have hb:=HB.ext e
       obtain⟨-,-,-,-,-,-,-,-,-,-,c9,df,ds,dx,d0,d1,d2,d3,-⟩:=cls hb
       obtain⟨p,J⟩:∃p,L3.length=p:=⟨_,rfl⟩
       have HP:=hid J
       have a9:p+1+s.grp.length≤100000000:=by have:=a7.2.2.2.2;omega
       rw[J]at C
       rw[c3]at a9
       rw[←hg]at R
       clear hb e J
       go_wp2_with (first|(at_builtin;refine wpList_append_any _ rfl (.tmp 58) (.tmp 61) 27 rfl E.heap.size 37 i0 _ 8 104 Tryz.underlying27 hi U V W rfl (by decide) _ p K rfl (ownN_ext C.out ((Ext.refl wr).alloc _)) _ _ _ _ (eC Z ac Y X ag ad an a.whr.A a.whr.n a.whr.c) rfl (jV wr (eC Z ac Y X ag ad an a.whr.A a.whr.n a.whr.c) 37 rfl) (b3.out) (by unfold maxLen;omega) (by omega) ((m.out.alloc _).size) ?_;intro v1 w5 f j _;have u:=hid f;have t:=hid j;clear f j;have c0:=((HB.out.ext (m.out.alloc (.cells #[.int .i64 Z,.string ac,.string Y,.int .i64 X,.int .i64 ag,.int .i64 ad,.string an,.slice a.whr.A a.whr.n a.whr.c] 37))).grown t.out (fun h=>by have:=cT C.out h.symm;have:=y.out.size;have:=HB.out.lt;omega)).cell 18;simp only[List.getElem?_cons_succ,List.getElem?_cons_zero]at c0)|(at_builtin;refine wpList_append_any _ rfl (.tmp 63) (.tmp 65) 27 rfl E.heap.size 37 i0 _ 8 104 Tryz.underlying27 hi U V W rfl (by decide) _ (p+1) _ rfl u.out _ _ _ _ xg rfl (R.out.below (y.out.trans ((m.out.alloc (.cells #[.int .i64 Z,.string ac,.string Y,.int .i64 X,.int .i64 ag,.int .i64 ad,.string an,.slice a.whr.A a.whr.n a.whr.c] 37)).grown t.out fun q P=>cT C.out P))) ba.out.len.2 (by unfold maxLen;omega) (by omega) (((m.out.alloc (.cells #[.int .i64 Z,.string ac,.string Y,.int .i64 X,.int .i64 ag,.int .i64 ad,.string an,.slice a.whr.A a.whr.n a.whr.c] 37)).grown t.out fun q P=>cT C.out P)).size ?_;intro v2 w6 a5 bd _;have cp:=hid a5;have b9:=hid bd;clear a5 bd))
       go_ret
       have b6:Ext E w6:=((m.alloc (.cells #[.int .i64 Z,.string ac,.string Y,.int .i64 X,.int .i64 ag,.int .i64 ad,.string an,.slice a.whr.A a.whr.n a.whr.c] 37)).grown t fun q P=>cT C P).grown b9 fun q P=>cT u P
       have be:=(B.app (LC.one b2)).app ba
       rw[←b1.out]at be
       obtain⟨A6,c6,rfl,c4,c7⟩:=lG cp (be.ext (y.trans b6))
       rw[c7]
       exact⟨A6,c6,rfl,c4,y.trans b6⟩
def sT1 (n:Int) (e:Ex):Int:=wrap64 (n+e.wt)
def sT2 (n:Int) (x:Asg):Int:=wrap64 (n+(x.cl.size:Int))
def sT3 (n:Int) (x:Src):Int:=wrap64 (n+wrap64 ((x.tb.size:Int)+(x.al.size:Int)))
def sT4 (n:Int) (x:Cd):Int:=wrap64 (n+(x.nm.size:Int))
def sT5 (n:Int) (x:List ByteArray):Int:=wrap64 (n+jc x)
def sT6 (n:Int) (x:Rf):Int:=wrap64 (n+wrap64 (wrap64 (jc x.cs+(x.tb.size:Int))+jc x.tg))
theorem dZ {α:Type} {T:Int→α→Int} {l:List α} {k:Nat} {x:α} {n:Int} (h:l[k]? =some x):(l.take (k+1)).foldl T n=T ((l.take k).foldl T n) x:=by
 obtain⟨hi,rfl⟩:=List.getElem?_eq_some_iff.1 h
 rw[List.take_succ_eq_append_getElem hi,List.foldl_append]
 rfl
def sN0 (s:St):Int:=wrap64 (wrap64 (wrap64 (wrap64 (wrap64 (wrap64 (wrap64 ((s.tb.size:Int)+(s.nm.size:Int))+(s.vals.length:Int))+(s.frm.length:Int))+(s.ord.length:Int))+(s.cols.length:Int))+(s.keys.length:Int))+(s.frs.length:Int))
def St.small (s:St):Bool:=if 200<sN0 s then false else decide (s.frs.foldl sT6 (s.keys.foldl sT5 (s.cols.foldl sT4 (s.frm.foldl sT3 (s.sets.foldl sT2 (s.rall.foldl sT1 (sN0 s))))))≤1200)
theorem qB (s:St) (a:SA) (w:World) (E:StV w s a) (hT:s.rall.length≤100000000):
  Calls Tryz.prog 23 #[s.val a] w fun r w'=>r= .returned (.bool s.small)∧Ext w w':=by
 have HV:=hid E
 have HR:Hid (s.small=if 200<sN0 s then false else decide (s.frs.foldl sT6 (s.keys.foldl sT5 (s.cols.foldl sT4 (s.frm.foldl sT3 (s.sets.foldl sT2 (s.rall.foldl sT1 (sN0 s))))))≤1200)):=rfl
 have a3:Hid (sN0 s=wrap64 (wrap64 (wrap64 (wrap64 (wrap64 (wrap64 (wrap64 ((s.tb.size:Int)+(s.nm.size:Int))+(a.vals.n:Int))+(a.frm.n:Int))+(a.ord.n:Int))+(a.cols.n:Int))+(a.keys.n:Int))+(a.frs.n:Int))):=by
  unfold Hid sN0;rw[E.vals.1,E.frm.1,E.ord.1,E.cols.1,E.keys.1,E.frs.1]
 generalize sN0 s=n1 at*
 generalize s.small=SB at*
 have ax:=hid (fun W (hW:Ext w W)=>pv s a W (E.ext hW) hT)
 have HB:=hid (Blk.of_new w 40 (s.cells a))
 have HX:=hid ((Ext.refl w).alloc (.cells (s.cells a).toArray 40))
 have a9:s.rall.length≤100000000:=hT
 have cd:=E.sets.2.1
 have b7:=E.frm.2.1
 have b6:=E.cols.2.1
 have b9:=E.keys.2.1
 have cc:=E.frs.2.1
 obtain⟨R,hR⟩:∃R,s.rall=R:=⟨_,rfl⟩
 rw[hR]at ax a9 HR
 clear E hT hR
 obtain⟨N0,a0⟩:∃N0,R.length=N0:=⟨_,rfl⟩
 have a2:=hid a0
 rw[a0]at a9 ax
 clear a0
 unfold St.val at*
 unfold St.cells at*
 unfold Sl.v at*
 have B:=hid HV.sets
 have I:=hid HV.frm
 have u:=hid HV.cols
 have x:=hid HV.keys
 have J:=hid HV.frs
 generalize a.sets.A=P1 at*
 generalize a.frm.A=P2 at*
 generalize a.cols.A=P3 at*
 generalize a.keys.A=P4 at*
 generalize a.frs.A=P5 at*
 generalize s.whr.d=dw at*
 obtain⟨cl,cp,ck,cj,cw,cv,cx⟩:=dw
 simp only at*
 go_enter Tryz.func23,Tryz.ntmps23
 go_upto_region 1 with fail
 generalize bd:w.alloc (.cells _ 40)=w1 at*
 have b4:Hid (w1.heap.size=w.heap.size+1):=by unfold Hid;rw[←bd];simp
 clear bd
 generalize w.heap.size=g at*
 obtain⟨-,-,c2,c3,c4,c5,-⟩:=cls HB
 go_upto_region 2 with fail
 have a1:=hid (Blk.of_new w1 29 [.slice P3 a.cols.n a.cols.c,.slice P4 a.keys.n a.keys.c,.slice P5 a.frs.n a.frs.c,.slice a.chk.A a.chk.n a.chk.c])
 have P:=hid ((Ext.refl w1).alloc (.cells #[.slice P3 a.cols.n a.cols.c,.slice P4 a.keys.n a.keys.c,.slice P5 a.frs.n a.frs.c,.slice a.chk.A a.chk.n a.chk.c] 29))
 clear c2 c3 c4 c5
 generalize w1.alloc (.cells #[.slice P3 a.cols.n a.cols.c,.slice P4 a.keys.n a.keys.c,.slice P5 a.frs.n a.frs.c,.slice a.chk.A a.chk.n a.chk.c] 29)=w2 at*
 generalize w1.heap.size=g2 at*
 have G:=hid (HX.trans P)
 obtain⟨-,c1,-,-,-,-,c6,-,-,c9,-,-,-,-,-,-,-,-,-,bY,-,b0,-⟩:=cls (HB.ext P)
 obtain⟨d0,d1,d2,-⟩:=cls a1
 go_cut [4] from 12 to 45 (fun F wx=>F= .int .i64 n1∧wx=w2)
 case first=>
  go_wp2_with fail
  go_meet
  exact⟨by rw[a3.out],rfl⟩
 case rest=>
  obtain⟨rfl,rfl⟩:=hcut
  clear a3
  by_cases b2:(200:Int)<n1
  ·go_wp2_with fail
   go_ret
   exact⟨aa (by rw[HR.out,if_pos b2]),G⟩
  ·clear c1 c6 c9 bY b0 d0 d1 d2
   go_wp2_with (first|(refine am rfl 40 (.tmp 1) rfl g rfl 40 _ _ (HB.ext P) Tryz.underlying40 rfl (by kernel_rfl) ?_)|(go_at_call 46;refine(ax _ G).mono ?_;rintro _ w3 ⟨A3,b5,rfl,a8,U⟩))
   have V:=hid ((HB.ext P).ext U)
   have X:=hid (a1.ext U)
   have l:=hid (G.trans U)
   have bm:=hid a8
   clear U a8
   go_loopw [4,6] (fun F L wr=> ∃(k:Nat),k≤N0∧L= .int .i64 k∧F= .int .i64 ((R.take k).foldl sT1 n1)∧Ext w3 wr) (fun _ i _=>N0- (intOf i).toNat)
   case atStart=>exact⟨0,Nat.zero_le _,rfl,by rw[List.take_zero,List.foldl_nil],Ext.refl w3⟩
   case round=>
    obtain⟨k,hk,rfl,rfl,f⟩:=hrel
    generalize j:(R.take k).foldl sT1 n1=x1 at*
    have Y:=hid j
    clear j
    have h:=hid f
    have p:=(V.ext f).cell 7
    simp only[List.getElem?_cons_succ,List.getElem?_cons_zero]at p
    by_cases o:k<N0
    ·obtain⟨e,he⟩:=dI a2 o
     have m:=hid he
     obtain⟨b,O,A',n',c',rfl,D,q1,q2,q3,q4,q5,q6,q7,ba⟩:=(bm.ext f).get he
     have HW:=hid (qz e A' n' c' wr ba)
     clear he ba
     unfold Nd.val at HW
     generalize a4:e.wt=y at*
     have bn:=hid a4
     clear a4
     generalize e.d=d at*
     obtain⟨op,tb,nm,ix,vk,vi,vt⟩:=d
     simp only at*
     go_wp2_with (go_at_call 47;refine HW.mono ?_;rintro _ w7 ⟨rfl,C⟩)
     go_roundw
     case rel=>exact⟨k+1,by omega,by go_num,by rw[dZ m.out,Y.out];unfold sT1;rw[bn.out],h.trans C⟩
     case measure=>simp[intOf];omega
    ·obtain rfl:k=N0:=by omega
     rw[List.take_of_length_le (Nat.le_of_eq a2)]at Y
     go_wp2_with fail
     clear f p
     go_loopw [4,7] (fun F L wr=> ∃(k:Nat),k≤a.sets.n∧L= .int .i64 k∧F= .int .i64 ((s.sets.take k).foldl sT2 x1)∧Ext w3 wr) (fun _ i _=>a.sets.n- (intOf i).toNat)
     case atStart=>exact⟨0,Nat.zero_le _,rfl,by rw[List.take_zero,List.foldl_nil],h⟩
     case round=>
      obtain⟨k,hk,rfl,rfl,f⟩:=hrel
      generalize j:(s.sets.take k).foldl sT2 x1=x2 at*
      have Z:=hid j
      clear j
      have h:=hid f
      have p:=(V.ext f).cell 7
      simp only[List.getElem?_cons_succ,List.getElem?_cons_zero]at p
      by_cases o:k<a.sets.n
      ·obtain⟨y,t⟩:=aq B.1 o
       have m:=hid t
       obtain⟨_,b,O,A',n',c',Q,D,_,_⟩:=B.2.2 k y t
       subst Q
       replace D:=(l.trans f).keep D
       go_wp2_with fail
       go_roundw
       case rel=>exact⟨k+1,by omega,by go_num,by rw[dZ m.out,Z.out];unfold sT2;with_reducible rfl,h.out⟩
       case measure=>simp[intOf];omega
      ·obtain rfl:k=a.sets.n:=by omega
       rw[List.take_of_length_le (Nat.le_of_eq B.1)]at Z
       go_wp2_with fail
       clear f p
       go_loopw [4,8] (fun F L wr=> ∃(k:Nat),k≤a.frm.n∧L= .int .i64 k∧F= .int .i64 ((s.frm.take k).foldl sT3 x2)∧Ext w3 wr) (fun _ i _=>a.frm.n- (intOf i).toNat)
       case atStart=>exact⟨0,Nat.zero_le _,rfl,by rw[List.take_zero,List.foldl_nil],h⟩
       case round=>
        obtain⟨k,hk,rfl,rfl,f⟩:=hrel
        generalize j:(s.frm.take k).foldl sT3 x2=x3 at*
        have ac:=hid j
        clear j
        have h:=hid f
        have p:=(V.ext f).cell 9
        simp only[List.getElem?_cons_succ,List.getElem?_cons_zero]at p
        by_cases o:k<a.frm.n
        ·obtain⟨y,t⟩:=aq I.1 o
         have m:=hid t
         obtain⟨_,b,O,Q,D,q1⟩:=I.2.2 k y t
         subst Q
         replace D:=ae.keep ((l.trans f).keep D)
         replace q1:=ae.keep ((l.trans f).keep q1)
         clear t
         have i0:(0:Int)≤(k:Int):=by omega
         have i1:(k:Int)<(a.frm.n:Int):=by omega
         have b1:=ae.keep p
         go_wp2_with fail
         refine ab (by kernel_rfl) (by kernel_rfl) ?_
         repeat (go_big_quiet_step (fail))
         refine wpQuiet_nil ?_
         intro w7 K
         have C:=ah K
         clear K
         go_wp2_with fail
         go_roundw
         case rel=>exact⟨k+1,by omega,by go_num,by rw[dZ m.out,ac.out];unfold sT3;with_reducible rfl,h.out.trans C⟩
         case measure=>simp[intOf];omega
        ·obtain rfl:k=a.frm.n:=by omega
         rw[List.take_of_length_le (Nat.le_of_eq I.1)]at ac
         go_wp2_with fail
         clear f p
         go_loopw [4,9] (fun F L wr=> ∃(k:Nat),k≤a.cols.n∧L= .int .i64 k∧F= .int .i64 ((s.cols.take k).foldl sT4 x3)∧Ext w3 wr) (fun _ i _=>a.cols.n- (intOf i).toNat)
         case atStart=>exact⟨0,Nat.zero_le _,rfl,by rw[List.take_zero,List.foldl_nil],h⟩
         case round=>
          obtain⟨k,hk,rfl,rfl,f⟩:=hrel
          generalize j:(s.cols.take k).foldl sT4 x3=x4 at*
          have ad:=hid j
          clear j
          have h:=hid f
          have p:=(X.ext f).cell 0
          simp only[List.getElem?_cons_succ,List.getElem?_cons_zero]at p
          by_cases o:k<a.cols.n
          ·obtain⟨y,t⟩:=aq u.1 o
           have m:=hid t
           obtain⟨_,b,O,Q,D,_⟩:=u.2.2 k y t
           subst Q
           replace D:=(l.trans f).keep D
           go_wp2_with fail
           go_roundw
           case rel=>exact⟨k+1,by omega,by go_num,by rw[dZ m.out,ad.out];unfold sT4;with_reducible rfl,h.out⟩
           case measure=>simp[intOf];omega
          ·obtain rfl:k=a.cols.n:=by omega
           rw[List.take_of_length_le (Nat.le_of_eq u.1)]at ad
           go_wp2_with fail
           clear f p
           go_loopw [4,10] (fun F L wr=> ∃(k:Nat),k≤a.keys.n∧L= .int .i64 k∧F= .int .i64 ((s.keys.take k).foldl sT5 x4)∧Ext w3 wr) (fun _ i _=>a.keys.n- (intOf i).toNat)
           case atStart=>exact⟨0,Nat.zero_le _,rfl,by rw[List.take_zero,List.foldl_nil],h⟩
           case round=>
            obtain⟨k,hk,rfl,rfl,f⟩:=hrel
            generalize j:(s.keys.take k).foldl sT5 x4=x5 at*
            have ag:=hid j
            clear j
            have h:=hid f
            have p:=(X.ext f).cell 1
            simp only[List.getElem?_cons_succ,List.getElem?_cons_zero]at p
            by_cases o:k<a.keys.n
            ·obtain⟨y,t⟩:=aq x.1 o
             have m:=hid t
             obtain⟨b,O,Ai,ni,ci,Q,D,be,b3,bf⟩:=x.2.2 k y t
             subst Q
             replace D:=(l.trans f).keep D
             have HW:=hid (lN y Ai ni ci wr be b3 (bf.ext (l.trans f)))
             clear t be bf
             generalize a5:jc y=z at*
             have bw:=hid a5
             clear a5
             go_wp2_with (go_at_call 48;refine HW.mono ?_;rintro _ w7 ⟨rfl,C⟩)
             go_roundw
             case rel=>exact⟨k+1,by omega,by go_num,by rw[dZ m.out,ag.out];unfold sT5;rw[bw.out],h.trans C⟩
             case measure=>simp[intOf];omega
            ·obtain rfl:k=a.keys.n:=by omega
             rw[List.take_of_length_le (Nat.le_of_eq x.1)]at ag
             go_wp2_with fail
             clear f p
             go_loopw [4,11] (fun F L wr=> ∃(k:Nat),k≤a.frs.n∧L= .int .i64 k∧F= .int .i64 ((s.frs.take k).foldl sT6 x5)∧Ext w3 wr) (fun _ i _=>a.frs.n- (intOf i).toNat)
             case atStart=>exact⟨0,Nat.zero_le _,rfl,by rw[List.take_zero,List.foldl_nil],h⟩
             case round=>
              obtain⟨k,hk,rfl,rfl,f⟩:=hrel
              generalize j:(s.frs.take k).foldl sT6 x5=x6 at*
              have an:=hid j
              clear j
              have h:=hid f
              have p:=(X.ext f).cell 2
              simp only[List.getElem?_cons_succ,List.getElem?_cons_zero]at p
              by_cases o:k<a.frs.n
              ·obtain⟨y,t⟩:=aq J.1 o
               have m:=hid t
               obtain⟨_,b,O,A1,n1,c1,A2,n2,c2,Q,D,q1,q2,h1,h2,h3,h4,h5,h6⟩:=J.2.2 k y t
               subst Q
               replace D:=ae.keep ((l.trans f).keep D)
               replace q1:=ae.keep ((l.trans f).keep q1)
               replace q2:=ae.keep ((l.trans f).keep q2)
               have H1:Hid (∀z:ae wr,Calls Tryz.prog 48 #[.slice A1 n1 c1] z.now _):=fun z=>lN y.cs A1 n1 c1 z.now h1 h2 (h3.ext ((l.trans f).trans z.ext))
               have H2:Hid (∀z:ae wr,Calls Tryz.prog 48 #[.slice A2 n2 c2] z.now _):=fun z=>lN y.tg A2 n2 c2 z.now h4 h5 (h6.ext ((l.trans f).trans z.ext))
               clear t h1 h2 h3 h4 h5 h6
               generalize a6:jc y.cs=z1 at*
               have bx:=hid a6
               clear a6
               generalize a7:jc y.tg=z2 at*
               have bN:=hid a7
               clear a7
               have i0:(0:Int)≤(k:Int):=by omega
               have i1:(k:Int)<(a.frs.n:Int):=by omega
               have b1:=ae.keep p
               go_wp2_with fail
               refine ab (by kernel_rfl) (by kernel_rfl) ?_
               repeat (go_big_quiet_step (first|(go_at_call 48;with_reducible exact ak (H1.out _))|(go_at_call 48;with_reducible exact ak (H2.out _))))
               refine wpQuiet_nil ?_
               intro w7 K
               have C:=ah K
               clear K
               go_wp2_with fail
               go_roundw
               case rel=>exact⟨k+1,by omega,by go_num,by rw[dZ m.out,an.out];unfold sT6;rw[bx.out,bN.out],h.trans C⟩
               case measure=>simp[intOf];omega
              ·obtain rfl:k=a.frs.n:=by omega
               rw[List.take_of_length_le (Nat.le_of_eq J.1)]at an
               go_wp2_with fail
               go_ret
               exact⟨aa (by rw[HR.out,if_neg (by omega),Y.out,Z.out,ac.out,ad.out,ag.out,an.out]),l.trans h⟩
end Go.Proofs.YtjigcpfjhfoheaaGreatDoor
