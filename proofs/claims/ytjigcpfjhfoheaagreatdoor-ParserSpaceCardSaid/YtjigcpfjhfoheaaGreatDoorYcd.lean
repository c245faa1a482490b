/- Walk: the definition of a column; A definition under way: four rows of the call's own, each with blocks of its own; the set of names of primary keys. -/
import Derived.Test.YtjigcpfjhfoheaaGreatDoorYcc
import Derived.Maps.OwnSet
namespace Go.Proofs.YtjigcpfjhfoheaaGreatDoor
open Go.RowKit
set_option maxHeartbeats 2000000
set_option maxRecDepth 100000
set_option linter.unusedVariables false
set_option linter.unusedSimpArgs false
section
open Lx (Tk)
def Elcol (a:Cd) (v:Value):Prop:=v= .agg #[.string a.nm,.int .i64 a.ty,.int .i64 a.lo,.int .i64 a.hi,.int .i64 a.mx,.bool a.nn]∧a.nm.size≤9223372036854775807∧I64 a.ty∧I64 a.lo∧I64 a.hi∧I64 a.mx
section
variable {P c:Nat} {A:Option Addr} {L:List Tk} {w0 w:World} {s:Ps}
theorem bnd_i64 {T:Nat} (h:PsAt T P A c L w0 w s) (f:TkL L) (a:isS dU s=true→0≤(numP s.next).1∧(numP s.next).1≤2147483648):I64 (bndP s).1:=by
 unfold bndP ifM
 split
 ·next hs=>
  have:=a hs
  show I64 (-(numP s.next).1)
  unfold I64
  omega
 ·have:=h.num_le f
  unfold I64
  omega
theorem num_any {L:List Tk} (h:TkL L) (s:Ps) (hs:∀a∈s.r,a∈L):0≤(numP s).1∧(numP s).1≤2147483648:=by
 unfold numP takP
 split
 ·next hk=>
  obtain⟨_,a,l,f,g,_⟩:=eV (by decide) hk
  have hd:s.hd=a:=by unfold Ps.hd;rw[f];rfl
  rw[hd]
  exact⟨by unfold eh;omega,(h.num a (hs a (by rw[f];exact List.mem_cons_self ..)) g).2.2.1⟩
 ·show(0:Int)≤0∧(0:Int)≤2147483648
  omega
theorem PsAt.sub {T:Nat} (h:PsAt T P A c L w0 w s):∀a∈s.r,a∈L:=fun a f=>by
 rw[h.suf]at f
 exact List.mem_of_mem_drop f
theorem bnd_64 {T:Nat} (h:PsAt T P A c L w0 w s) (f:TkL L):I64 (bndP s).1:=
 bnd_i64 h f fun _=>num_any f s.next fun a g=>h.sub a (List.mem_of_mem_tail g)
theorem kj (hE:Er w0) (hp:PsAt 68 P A c L w0 w s) (hL:TkL L):
  Calls Tryz.prog 177 #[.pointer (some ⟨P,0,none⟩)] w (Ran 68 P A c L w0 w (cX s).2 fun v w'=>Elcol (cX s).1 v):=by
 have c6:=(Ext.refl w).alloc (.cells #[.string ⟨#[]⟩,.int .i64 0,.int .i64 0,.int .i64 0,.int .i64 0,.bool false] 99)
 have dx:=hid (hp.ext c6)
 have d2:Hid (P<w.heap.size):=hp.lt
 have dk:=hid (Blk.of_new w 99 [.string ⟨#[]⟩,.int .i64 0,.int .i64 0,.int .i64 0,.int .i64 0,.bool false])
 have ee:=hid (Chg.of (P:=P) c6)
 have HM:Hid (cX s=if isS kNOT (typP (takP 1 s).2).2=true then (⟨(takP 1 s).1,(typP (takP 1 s).2).1.1,(typP (takP 1 s).2).1.2.1,(typP (takP 1 s).2).1.2.2.1,(typP (takP 1 s).2).1.2.2.2,true⟩,needP kNULL (typP (takP 1 s).2).2.next)else (⟨(takP 1 s).1,(typP (takP 1 s).2).1.1,(typP (takP 1 s).2).1.2.1,(typP (takP 1 s).2).1.2.2.1,(typP (takP 1 s).2).1.2.2.2,false⟩,(typP (takP 1 s).2).2)):=rfl
 have e2:Hid (w.heap.size≤(w.alloc (.cells #[.string ⟨#[]⟩,.int .i64 0,.int .i64 0,.int .i64 0,.int .i64 0,.bool false] 99)).heap.size):=c6.size
 obtain⟨R,hR⟩:∃R,cX s=R:=⟨_,rfl⟩
 rw[hR]at HM ⊢
 clear hp c6 hR
 go_enter Tryz.func177,Tryz.ntmps177
 go_upto_region 1 with fail
 generalize w.alloc (.cells #[.string ⟨#[]⟩,.int .i64 0,.int .i64 0,.int .i64 0,.int .i64 0,.bool false] 99)=wz at*
 obtain⟨g0,E⟩:∃g,w.heap.size=g:=⟨_,rfl⟩
 have F:=hid E
 rw[E]at d2 dk e2 ⊢
 clear E
 have u:=d2
 have bY:=hid (dx.tak_size hL 1)
 go_wp2_with fail
 refine(bV dx hL).mono ?_
 rintro _ w1 ⟨v,rfl,p,f,rfl⟩
 have d0:=hid p
 have ds:=hid (f.blk dk (by have:=u.out;omega))
 have d7:=hid (ee.trans f)
 clear p f
 clear dk ee dx
 obtain⟨X,hX⟩:∃x,(takP 1 s).1=x:=⟨_,rfl⟩
 obtain⟨h,df⟩:∃x,(takP 1 s).2=x:=⟨_,rfl⟩
 rw[hX,df]at HM
 rw[hX]at bY ⊢
 rw[df]at d0
 clear hX df
 go_upto_region 2 with fail
 have hx:=(Ext.refl w1).alloc (.cells #[.string X,.int .i64 0,.int .i64 0,.int .i64 0,.int .i64 0,.bool false] 99)
 have d5:=hid (ds.ext hx)
 have d6:=hid (d7.ext hx)
 have eb:=hid (d0.ext hx)
 have cy:=hid (Blk.of_new w1 99 [.string X,.int .i64 0,.int .i64 0,.int .i64 0,.int .i64 0,.bool false])
 have j:Hid (g0<w1.heap.size):=ds.lt
 clear hx
 clear ds d7 d0
 generalize w1.alloc (.cells #[.string X,.int .i64 0,.int .i64 0,.int .i64 0,.int .i64 0,.bool false] 99)=w2 at*
 generalize w1.heap.size=I at*
 have cb:Hid (typP h=if isS dJ h=true then (if isS yLp h.next=true then ((1,(bndP h.next.next).1,(bndP (needP yCm (bndP h.next.next).2)).1,0),needP yRp (bndP (needP yCm (bndP h.next.next).2)).2)else ((1,-2147483648,2147483647,0),h.next))
   else (if isS yLp (needP kTEXT h)=true then ((2,0,0,(numP (needP kTEXT h).next).1),needP yRp (numP (needP kTEXT h).next).2)else ((2,0,0,16),needP kTEXT h))):=rfl
 go_wp2_with fail
 refine(ai eb hL dJ).mono ?_
 rintro _ w3 ⟨v,rfl,p,f,rfl⟩
 have cs:=hid p
 have c4:=hid (f.blk d5 (by have:=u.out;omega))
 have c5:=hid (d6.trans f)
 have ad:=hid (f.blk cy (by have:=u.out;have:=j.out;omega))
 clear p f
 clear d5 d6 eb cy
 cases cv:isS dJ h
 ·have e:(aq dJ h).2=h:=by simp[aq,cv]
  rw[e]at cs
  clear e
  go_wp2_with fail
  refine(az (cs.ext ((Ext.refl w3).alloc (.cells #[.string kTEXT] 9))) hL kTEXT w3.heap.size (by simp[World.cell?_alloc_new])).mono ?_
  rintro _ w4 ⟨v,rfl,p,f,_⟩
  replace f:Chg P w3 w4:=(Chg.of ((Ext.refl w3).alloc (.cells #[.string kTEXT] 9))).trans f
  have cx:=hid p
  have c1:=hid (f.blk c4 (by have:=u.out;omega))
  have c0:=hid (c5.trans f)
  have U:=hid (f.blk ad (by have:=u.out;have:=j.out;omega))
  clear p f
  clear c4 c5 cs ad
  have a:=ext_grown (Ext.refl w4) (some I)
  have z0:=U.cell_some (i:=1) rfl
  have y0:=U.frozen 1
  have r:=U.set 1 (.int .i64 2)
  have E:=World.grownBy.trans a (ak I [.int .i64 2] w4 1)
  clear a
  have a:=E
  clear E
  simp only[sts]at a
  have z1:=r.cell_some (i:=4) rfl
  have y1:=r.frozen 4
  have a6:=r.set 4 (.int .i64 16)
  have cH:=World.grownBy.trans a (ak I [.int .i64 16] (w4.setCell ⟨I,1,none⟩ (.int .i64 2)) 4)
  clear a
  have a:=cH
  clear cH
  simp only[sts]at a
  have bn:=hid (cx.grown a (fun q m=>by have:=Option.some.inj m;have:=u.out;have:=j.out;omega))
  have cl:=hid (c1.grown a (fun e=>by have:=Option.some.inj e;have:=j.out;omega))
  have cj:=hid (c0.own a (fun q m=>by have:=Option.some.inj m;have:=j.out;rw[F.out];omega))
  have K:=hid a6
  clear a r a6
  clear c1 c0 cx U
  go_upto_region 11 with fail
  generalize (w4.setCell ⟨I,1,none⟩ (.int .i64 2)).setCell ⟨I,4,none⟩ (.int .i64 16)=w5 at*
  clear z0 y0 z1 y1
  go_wp2_with fail
  refine(ai bn hL yLp).mono ?_
  rintro _ w6 ⟨v,rfl,p,f,rfl⟩
  have H:=hid p
  have ac:=hid (f.blk cl (by have:=u.out;omega))
  have ba:=hid (cj.trans f)
  have t:=hid (f.blk K (by have:=u.out;have:=j.out;omega))
  clear p f
  clear cl cj bn K
  cases a2:isS yLp (needP kTEXT h)
  ·have e:(aq yLp (needP kTEXT h)).2=(needP kTEXT h):=by simp[aq,a2]
   rw[e]at H
   clear e
   have a4:=hid (i64_2)
   have a5:=hid (bG)
   have bd:=hid (bG)
   have a9:=hid ((by unfold I64;omega:I64 16))
   have be:typP h=((2,0,0,16),(needP kTEXT h)):=by
    rw[cb.out,cv,a2]
    rfl
   rw[be]at HM
   clear be cb
   go_wp2_with fail
   refine(ai H hL kNOT).mono ?_
   rintro _ w7 ⟨v,rfl,p,f,rfl⟩
   have Z:=hid p
   have Y:=hid (f.blk ac (by have:=u.out;omega))
   have a0:=hid (ba.trans f)
   have o:=hid (f.blk t (by have:=u.out;have:=j.out;omega))
   clear p f
   clear ac ba H t
   cases cw:isS kNOT (needP kTEXT h)
   ·have e:(aq kNOT (needP kTEXT h)).2=(needP kTEXT h):=by simp[aq,cw]
    rw[e]at Z
    clear e
    obtain⟨b0,b1,b2,b3,b4,b5,-⟩:=cls o
    have O:Hid (R.1=⟨X,2,0,0,16,false⟩):=by
     rw[HM.out,cw]
     rfl
    have J:Hid (R.2=(needP kTEXT h)):=by
     rw[HM.out,cw]
     rfl
    obtain⟨z0,z1,z2,z3,z4,z5,-⟩:=cls Y
    obtain⟨y0,y1,y2,y3,y4,y5,-⟩:=frz Y
    have Q:=aE Y [.string X,.int .i64 2,.int .i64 0,.int .i64 0,.int .i64 16,.bool false] rfl
    have z:=hid (ak g0 [.string X,.int .i64 2,.int .i64 0,.int .i64 0,.int .i64 16,.bool false] w7 0)
    simp only[sts]at Q
    have HZ:=hid Q
    clear Q
    go_wp2_with fail
    obtain⟨q0,q1,q2,q3,q4,q5,-⟩:=cls HZ
    exact bodyPost_ret (v:= .agg #[.string X,.int .i64 2,.int .i64 0,.int .i64 0,.int .i64 16,.bool false]) (by simp[results,Tryz.results177,go_sem,q0,q1,q2,q3,q4,q5]) rfl ⟨_,rfl,by rw[J.out];exact Z.grown z (fun q m=>by have:=u.out;have:=Option.some.inj m;omega),a0.own z (fun q m=>by have:=Option.some.inj m;rw[F.out];omega),by rw[O.out];exact⟨rfl,by have:=bY.out;show X.size≤_;omega,a4,a5,bd,a9⟩⟩
   ·have e:(aq kNOT (needP kTEXT h)).2=(needP kTEXT h).next:=by simp[aq,cw]
    rw[e]at Z
    clear e
    go_wp2_with fail
    refine(az (Z.ext ((Ext.refl w7).alloc (.cells #[.string kNULL] 9))) hL kNULL w7.heap.size (by simp[World.cell?_alloc_new])).mono ?_
    rintro _ w8 ⟨v,rfl,p,f,_⟩
    replace f:Chg P w7 w8:=(Chg.of ((Ext.refl w7).alloc (.cells #[.string kNULL] 9))).trans f
    have a3:=hid p
    have ax:=hid (f.blk Y (by have:=u.out;omega))
    have bm:=hid (a0.trans f)
    have y:=hid (f.blk o (by have:=u.out;have:=j.out;omega))
    clear p f
    clear Y a0 Z o
    have z9:=y.cell_some (i:=5) rfl
    have y9:=y.frozen 5
    have a:=ak I [.bool true] w8 5
    simp only[sts]at a
    have ck:=hid (a3.grown a (fun q m=>by have:=Option.some.inj m;have:=u.out;have:=j.out;omega))
    have b6:=hid (ax.grown a (fun e=>by have:=Option.some.inj e;have:=j.out;omega))
    have cf:=hid (bm.own a (fun q m=>by have:=Option.some.inj m;have:=j.out;rw[F.out];omega))
    have B:=hid (y.set 5 (.bool true))
    clear a
    clear ax bm a3 y
    go_upto_region 17 with fail
    generalize w8.setCell ⟨I,5,none⟩ (.bool true)=w9 at*
    clear z9 y9
    obtain⟨b0,b1,b2,b3,b4,b5,-⟩:=cls B
    have O:Hid (R.1=⟨X,2,0,0,16,true⟩):=by
     rw[HM.out,cw]
     rfl
    have J:Hid (R.2=(needP kNULL (needP kTEXT h).next)):=by
     rw[HM.out,cw]
     rfl
    obtain⟨z0,z1,z2,z3,z4,z5,-⟩:=cls b6
    obtain⟨y0,y1,y2,y3,y4,y5,-⟩:=frz b6
    have Q:=aE b6 [.string X,.int .i64 2,.int .i64 0,.int .i64 0,.int .i64 16,.bool true] rfl
    have z:=hid (ak g0 [.string X,.int .i64 2,.int .i64 0,.int .i64 0,.int .i64 16,.bool true] w9 0)
    simp only[sts]at Q
    have HZ:=hid Q
    clear Q
    go_wp2_with fail
    obtain⟨q0,q1,q2,q3,q4,q5,-⟩:=cls HZ
    exact bodyPost_ret (v:= .agg #[.string X,.int .i64 2,.int .i64 0,.int .i64 0,.int .i64 16,.bool true]) (by simp[results,Tryz.results177,go_sem,q0,q1,q2,q3,q4,q5]) rfl ⟨_,rfl,by rw[J.out];exact ck.grown z (fun q m=>by have:=u.out;have:=Option.some.inj m;omega),cf.own z (fun q m=>by have:=Option.some.inj m;rw[F.out];omega),by rw[O.out];exact⟨rfl,by have:=bY.out;show X.size≤_;omega,a4,a5,bd,a9⟩⟩
  ·have e:(aq yLp (needP kTEXT h)).2=(needP kTEXT h).next:=by simp[aq,a2]
   rw[e]at H
   clear e
   have e0:=hid (H.num_le hL)
   go_wp2_with fail
   refine(ct H hL hE).mono ?_
   rintro _ w7 ⟨v,rfl,p,f,rfl⟩
   have Z:=hid p
   have Y:=hid (f.blk ac (by have:=u.out;omega))
   have a0:=hid (ba.trans f)
   have o:=hid (f.blk t (by have:=u.out;have:=j.out;omega))
   clear p f
   clear ac ba H t
   have a:=ext_grown (Ext.refl w7) (some I)
   have z0:=o.cell_some (i:=4) rfl
   have y0:=o.frozen 4
   have r:=o.set 4 (.int .i64 (numP (needP kTEXT h).next).1)
   have E:=World.grownBy.trans a (ak I [.int .i64 (numP (needP kTEXT h).next).1] w7 4)
   clear a
   have a:=E
   clear E
   simp only[sts]at a
   have a3:=hid (Z.grown a (fun q m=>by have:=Option.some.inj m;have:=u.out;have:=j.out;omega))
   have ax:=hid (Y.grown a (fun e=>by have:=Option.some.inj e;have:=j.out;omega))
   have bm:=hid (a0.own a (fun q m=>by have:=Option.some.inj m;have:=j.out;rw[F.out];omega))
   have y:=hid r
   clear a r
   clear Y a0 Z o
   go_upto_region 13 with fail
   generalize w7.setCell ⟨I,4,none⟩ (.int .i64 (numP (needP kTEXT h).next).1)=w8 at*
   clear z0 y0
   go_wp2_with fail
   refine(az (a3.ext ((Ext.refl w8).alloc (.cells #[.string yRp] 9))) hL yRp w8.heap.size (by simp[World.cell?_alloc_new])).mono ?_
   rintro _ w9 ⟨v,rfl,p,f,_⟩
   replace f:Chg P w8 w9:=(Chg.of ((Ext.refl w8).alloc (.cells #[.string yRp] 9))).trans f
   have ck:=hid p
   have b6:=hid (f.blk ax (by have:=u.out;omega))
   have cf:=hid (bm.trans f)
   have B:=hid (f.blk y (by have:=u.out;have:=j.out;omega))
   clear p f
   clear ax bm a3 y
   have a4:=hid (i64_2)
   have a5:=hid (bG)
   have bd:=hid (bG)
   have a9:=hid ((by have:=e0.out;unfold I64;omega:I64 (numP (needP kTEXT h).next).1))
   have be:typP h=((2,0,0,(numP (needP kTEXT h).next).1),(needP yRp (numP (needP kTEXT h).next).2)):=by
    rw[cb.out,cv,a2]
    rfl
   rw[be]at HM
   clear be cb
   go_wp2_with fail
   refine(ai ck hL kNOT).mono ?_
   rintro _ bk ⟨v,rfl,p,f,rfl⟩
   have ag:=hid p
   have an:=hid (f.blk b6 (by have:=u.out;omega))
   have bw:=hid (cf.trans f)
   have G:=hid (f.blk B (by have:=u.out;have:=j.out;omega))
   clear p f
   clear b6 cf ck B
   cases bN:isS kNOT (needP yRp (numP (needP kTEXT h).next).2)
   ·have e:(aq kNOT (needP yRp (numP (needP kTEXT h).next).2)).2=(needP yRp (numP (needP kTEXT h).next).2):=by simp[aq,bN]
    rw[e]at ag
    clear e
    obtain⟨b0,b1,b2,b3,b4,b5,-⟩:=cls G
    have O:Hid (R.1=⟨X,2,0,0,(numP (needP kTEXT h).next).1,false⟩):=by
     rw[HM.out,bN]
     rfl
    have J:Hid (R.2=(needP yRp (numP (needP kTEXT h).next).2)):=by
     rw[HM.out,bN]
     rfl
    obtain⟨z0,z1,z2,z3,z4,z5,-⟩:=cls an
    obtain⟨y0,y1,y2,y3,y4,y5,-⟩:=frz an
    have Q:=aE an [.string X,.int .i64 2,.int .i64 0,.int .i64 0,.int .i64 (numP (needP kTEXT h).next).1,.bool false] rfl
    have z:=hid (ak g0 [.string X,.int .i64 2,.int .i64 0,.int .i64 0,.int .i64 (numP (needP kTEXT h).next).1,.bool false] bk 0)
    simp only[sts]at Q
    have HZ:=hid Q
    clear Q
    go_wp2_with fail
    obtain⟨q0,q1,q2,q3,q4,q5,-⟩:=cls HZ
    exact bodyPost_ret (v:= .agg #[.string X,.int .i64 2,.int .i64 0,.int .i64 0,.int .i64 (numP (needP kTEXT h).next).1,.bool false]) (by simp[results,Tryz.results177,go_sem,q0,q1,q2,q3,q4,q5]) rfl ⟨_,rfl,by rw[J.out];exact ag.grown z (fun q m=>by have:=u.out;have:=Option.some.inj m;omega),bw.own z (fun q m=>by have:=Option.some.inj m;rw[F.out];omega),by rw[O.out];exact⟨rfl,by have:=bY.out;show X.size≤_;omega,a4,a5,bd,a9⟩⟩
   ·have e:(aq kNOT (needP yRp (numP (needP kTEXT h).next).2)).2=(needP yRp (numP (needP kTEXT h).next).2).next:=by simp[aq,bN]
    rw[e]at ag
    clear e
    go_wp2_with fail
    refine(az (ag.ext ((Ext.refl bk).alloc (.cells #[.string kNULL] 9))) hL kNULL bk.heap.size (by simp[World.cell?_alloc_new])).mono ?_
    rintro _ c2 ⟨v,rfl,p,f,_⟩
    replace f:Chg P bk c2:=(Chg.of ((Ext.refl bk).alloc (.cells #[.string kNULL] 9))).trans f
    have b7:=hid p
    have cd:=hid (f.blk an (by have:=u.out;omega))
    have cc:=hid (bw.trans f)
    have C:=hid (f.blk G (by have:=u.out;have:=j.out;omega))
    clear p f
    clear an bw ag G
    have z9:=C.cell_some (i:=5) rfl
    have y9:=C.frozen 5
    have a:=ak I [.bool true] c2 5
    simp only[sts]at a
    have bf:=hid (b7.grown a (fun q m=>by have:=Option.some.inj m;have:=u.out;have:=j.out;omega))
    have W:=hid (cd.grown a (fun e=>by have:=Option.some.inj e;have:=j.out;omega))
    have b9:=hid (cc.own a (fun q m=>by have:=Option.some.inj m;have:=j.out;rw[F.out];omega))
    have V:=hid (C.set 5 (.bool true))
    clear a
    clear cd cc b7 C
    go_upto_region 17 with fail
    generalize c2.setCell ⟨I,5,none⟩ (.bool true)=ci at*
    clear z9 y9
    obtain⟨b0,b1,b2,b3,b4,b5,-⟩:=cls V
    have O:Hid (R.1=⟨X,2,0,0,(numP (needP kTEXT h).next).1,true⟩):=by
     rw[HM.out,bN]
     rfl
    have J:Hid (R.2=(needP kNULL (needP yRp (numP (needP kTEXT h).next).2).next)):=by
     rw[HM.out,bN]
     rfl
    obtain⟨z0,z1,z2,z3,z4,z5,-⟩:=cls W
    obtain⟨y0,y1,y2,y3,y4,y5,-⟩:=frz W
    have Q:=aE W [.string X,.int .i64 2,.int .i64 0,.int .i64 0,.int .i64 (numP (needP kTEXT h).next).1,.bool true] rfl
    have z:=hid (ak g0 [.string X,.int .i64 2,.int .i64 0,.int .i64 0,.int .i64 (numP (needP kTEXT h).next).1,.bool true] ci 0)
    simp only[sts]at Q
    have HZ:=hid Q
    clear Q
    go_wp2_with fail
    obtain⟨q0,q1,q2,q3,q4,q5,-⟩:=cls HZ
    exact bodyPost_ret (v:= .agg #[.string X,.int .i64 2,.int .i64 0,.int .i64 0,.int .i64 (numP (needP kTEXT h).next).1,.bool true]) (by simp[results,Tryz.results177,go_sem,q0,q1,q2,q3,q4,q5]) rfl ⟨_,rfl,by rw[J.out];exact bf.grown z (fun q m=>by have:=u.out;have:=Option.some.inj m;omega),b9.own z (fun q m=>by have:=Option.some.inj m;rw[F.out];omega),by rw[O.out];exact⟨rfl,by have:=bY.out;show X.size≤_;omega,a4,a5,bd,a9⟩⟩
 ·have e:(aq dJ h).2=h.next:=by simp[aq,cv]
  rw[e]at cs
  clear e
  have a:=ext_grown (Ext.refl w3) (some I)
  have z0:=ad.cell_some (i:=1) rfl
  have y0:=ad.frozen 1
  have r:=ad.set 1 (.int .i64 1)
  have E:=World.grownBy.trans a (ak I [.int .i64 1] w3 1)
  clear a
  have a:=E
  clear E
  simp only[sts]at a
  have z1:=r.cell_some (i:=2) rfl
  have y1:=r.frozen 2
  have a6:=r.set 2 (.int .i64 (-2147483648))
  have cH:=World.grownBy.trans a (ak I [.int .i64 (-2147483648)] (w3.setCell ⟨I,1,none⟩ (.int .i64 1)) 2)
  clear a
  have a:=cH
  clear cH
  simp only[sts]at a
  have z2:=a6.cell_some (i:=3) rfl
  have y2:=a6.frozen 3
  have c9:=a6.set 3 (.int .i64 2147483647)
  have d4:=World.grownBy.trans a (ak I [.int .i64 2147483647] ((w3.setCell ⟨I,1,none⟩ (.int .i64 1)).setCell ⟨I,2,none⟩ (.int .i64 (-2147483648))) 3)
  clear a
  have a:=d4
  clear d4
  simp only[sts]at a
  have cx:=hid (cs.grown a (fun q m=>by have:=Option.some.inj m;have:=u.out;have:=j.out;omega))
  have c1:=hid (c4.grown a (fun e=>by have:=Option.some.inj e;have:=j.out;omega))
  have c0:=hid (c5.own a (fun q m=>by have:=Option.some.inj m;have:=j.out;rw[F.out];omega))
  have U:=hid c9
  clear a r a6 c9
  clear c4 c5 cs ad
  go_upto_region 4 with fail
  generalize ((w3.setCell ⟨I,1,none⟩ (.int .i64 1)).setCell ⟨I,2,none⟩ (.int .i64 (-2147483648))).setCell ⟨I,3,none⟩ (.int .i64 2147483647)=w4 at*
  clear z0 y0 z1 y1 z2 y2
  go_wp2_with fail
  refine(ai cx hL yLp).mono ?_
  rintro _ w5 ⟨v,rfl,p,f,rfl⟩
  have bn:=hid p
  have cl:=hid (f.blk c1 (by have:=u.out;omega))
  have cj:=hid (c0.trans f)
  have K:=hid (f.blk U (by have:=u.out;have:=j.out;omega))
  clear p f
  clear c1 c0 cx U
  cases c7:isS yLp h.next
  ·have e:(aq yLp h.next).2=h.next:=by simp[aq,c7]
   rw[e]at bn
   clear e
   have a4:=hid (i64_1)
   have a5:=hid ((by unfold I64;omega:I64 (-2147483648)))
   have bd:=hid ((by unfold I64;omega:I64 2147483647))
   have a9:=hid (bG)
   have be:typP h=((1,(-2147483648),2147483647,0),h.next):=by
    rw[cb.out,cv,c7]
    rfl
   rw[be]at HM
   clear be cb
   go_wp2_with fail
   refine(ai bn hL kNOT).mono ?_
   rintro _ w6 ⟨v,rfl,p,f,rfl⟩
   have H:=hid p
   have ac:=hid (f.blk cl (by have:=u.out;omega))
   have ba:=hid (cj.trans f)
   have t:=hid (f.blk K (by have:=u.out;have:=j.out;omega))
   clear p f
   clear cl cj bn K
   cases a2:isS kNOT h.next
   ·have e:(aq kNOT h.next).2=h.next:=by simp[aq,a2]
    rw[e]at H
    clear e
    obtain⟨b0,b1,b2,b3,b4,b5,-⟩:=cls t
    have O:Hid (R.1=⟨X,1,(-2147483648),2147483647,0,false⟩):=by
     rw[HM.out,a2]
     rfl
    have J:Hid (R.2=h.next):=by
     rw[HM.out,a2]
     rfl
    obtain⟨z0,z1,z2,z3,z4,z5,-⟩:=cls ac
    obtain⟨y0,y1,y2,y3,y4,y5,-⟩:=frz ac
    have Q:=aE ac [.string X,.int .i64 1,.int .i64 (-2147483648),.int .i64 2147483647,.int .i64 0,.bool false] rfl
    have z:=hid (ak g0 [.string X,.int .i64 1,.int .i64 (-2147483648),.int .i64 2147483647,.int .i64 0,.bool false] w6 0)
    simp only[sts]at Q
    have HZ:=hid Q
    clear Q
    go_wp2_with fail
    obtain⟨q0,q1,q2,q3,q4,q5,-⟩:=cls HZ
    exact bodyPost_ret (v:= .agg #[.string X,.int .i64 1,.int .i64 (-2147483648),.int .i64 2147483647,.int .i64 0,.bool false]) (by simp[results,Tryz.results177,go_sem,q0,q1,q2,q3,q4,q5]) rfl ⟨_,rfl,by rw[J.out];exact H.grown z (fun q m=>by have:=u.out;have:=Option.some.inj m;omega),ba.own z (fun q m=>by have:=Option.some.inj m;rw[F.out];omega),by rw[O.out];exact⟨rfl,by have:=bY.out;show X.size≤_;omega,a4,a5,bd,a9⟩⟩
   ·have e:(aq kNOT h.next).2=h.next.next:=by simp[aq,a2]
    rw[e]at H
    clear e
    go_wp2_with fail
    refine(az (H.ext ((Ext.refl w6).alloc (.cells #[.string kNULL] 9))) hL kNULL w6.heap.size (by simp[World.cell?_alloc_new])).mono ?_
    rintro _ w7 ⟨v,rfl,p,f,_⟩
    replace f:Chg P w6 w7:=(Chg.of ((Ext.refl w6).alloc (.cells #[.string kNULL] 9))).trans f
    have Z:=hid p
    have Y:=hid (f.blk ac (by have:=u.out;omega))
    have a0:=hid (ba.trans f)
    have o:=hid (f.blk t (by have:=u.out;have:=j.out;omega))
    clear p f
    clear ac ba H t
    have z9:=o.cell_some (i:=5) rfl
    have y9:=o.frozen 5
    have a:=ak I [.bool true] w7 5
    simp only[sts]at a
    have a3:=hid (Z.grown a (fun q m=>by have:=Option.some.inj m;have:=u.out;have:=j.out;omega))
    have ax:=hid (Y.grown a (fun e=>by have:=Option.some.inj e;have:=j.out;omega))
    have bm:=hid (a0.own a (fun q m=>by have:=Option.some.inj m;have:=j.out;rw[F.out];omega))
    have y:=hid (o.set 5 (.bool true))
    clear a
    clear Y a0 Z o
    go_upto_region 17 with fail
    generalize w7.setCell ⟨I,5,none⟩ (.bool true)=w8 at*
    clear z9 y9
    obtain⟨b0,b1,b2,b3,b4,b5,-⟩:=cls y
    have O:Hid (R.1=⟨X,1,(-2147483648),2147483647,0,true⟩):=by
     rw[HM.out,a2]
     rfl
    have J:Hid (R.2=(needP kNULL h.next.next)):=by
     rw[HM.out,a2]
     rfl
    obtain⟨z0,z1,z2,z3,z4,z5,-⟩:=cls ax
    obtain⟨y0,y1,y2,y3,y4,y5,-⟩:=frz ax
    have Q:=aE ax [.string X,.int .i64 1,.int .i64 (-2147483648),.int .i64 2147483647,.int .i64 0,.bool true] rfl
    have z:=hid (ak g0 [.string X,.int .i64 1,.int .i64 (-2147483648),.int .i64 2147483647,.int .i64 0,.bool true] w8 0)
    simp only[sts]at Q
    have HZ:=hid Q
    clear Q
    go_wp2_with fail
    obtain⟨q0,q1,q2,q3,q4,q5,-⟩:=cls HZ
    exact bodyPost_ret (v:= .agg #[.string X,.int .i64 1,.int .i64 (-2147483648),.int .i64 2147483647,.int .i64 0,.bool true]) (by simp[results,Tryz.results177,go_sem,q0,q1,q2,q3,q4,q5]) rfl ⟨_,rfl,by rw[J.out];exact a3.grown z (fun q m=>by have:=u.out;have:=Option.some.inj m;omega),bm.own z (fun q m=>by have:=Option.some.inj m;rw[F.out];omega),by rw[O.out];exact⟨rfl,by have:=bY.out;show X.size≤_;omega,a4,a5,bd,a9⟩⟩
  ·have e:(aq yLp h.next).2=h.next.next:=by simp[aq,c7]
   rw[e]at bn
   clear e
   have ex:=hid (bnd_64 bn hL)
   go_wp2_with fail
   refine(kO bn hL hE).mono ?_
   rintro _ w6 ⟨v,rfl,p,f,rfl⟩
   have H:=hid p
   have ac:=hid (f.blk cl (by have:=u.out;omega))
   have ba:=hid (cj.trans f)
   have t:=hid (f.blk K (by have:=u.out;have:=j.out;omega))
   clear p f
   clear cl cj bn K
   have a:=ext_grown (Ext.refl w6) (some I)
   have z0:=t.cell_some (i:=2) rfl
   have y0:=t.frozen 2
   have r:=t.set 2 (.int .i64 (bndP h.next.next).1)
   have E:=World.grownBy.trans a (ak I [.int .i64 (bndP h.next.next).1] w6 2)
   clear a
   have a:=E
   clear E
   simp only[sts]at a
   have Z:=hid (H.grown a (fun q m=>by have:=Option.some.inj m;have:=u.out;have:=j.out;omega))
   have Y:=hid (ac.grown a (fun e=>by have:=Option.some.inj e;have:=j.out;omega))
   have a0:=hid (ba.own a (fun q m=>by have:=Option.some.inj m;have:=j.out;rw[F.out];omega))
   have o:=hid r
   clear a r
   clear ac ba H t
   go_upto_region 6 with fail
   generalize w6.setCell ⟨I,2,none⟩ (.int .i64 (bndP h.next.next).1)=w7 at*
   clear z0 y0
   go_wp2_with fail
   refine(az (Z.ext ((Ext.refl w7).alloc (.cells #[.string yCm] 9))) hL yCm w7.heap.size (by simp[World.cell?_alloc_new])).mono ?_
   rintro _ w8 ⟨v,rfl,p,f,_⟩
   replace f:Chg P w7 w8:=(Chg.of ((Ext.refl w7).alloc (.cells #[.string yCm] 9))).trans f
   have a3:=hid p
   have ax:=hid (f.blk Y (by have:=u.out;omega))
   have bm:=hid (a0.trans f)
   have y:=hid (f.blk o (by have:=u.out;have:=j.out;omega))
   clear p f
   clear Y a0 Z o
   have es:=hid (bnd_64 a3 hL)
   go_wp2_with fail
   refine(kO a3 hL hE).mono ?_
   rintro _ w9 ⟨v,rfl,p,f,rfl⟩
   have ck:=hid p
   have b6:=hid (f.blk ax (by have:=u.out;omega))
   have cf:=hid (bm.trans f)
   have B:=hid (f.blk y (by have:=u.out;have:=j.out;omega))
   clear p f
   clear ax bm a3 y
   have a:=ext_grown (Ext.refl w9) (some I)
   have z0:=B.cell_some (i:=3) rfl
   have y0:=B.frozen 3
   have r:=B.set 3 (.int .i64 (bndP (needP yCm (bndP h.next.next).2)).1)
   have E:=World.grownBy.trans a (ak I [.int .i64 (bndP (needP yCm (bndP h.next.next).2)).1] w9 3)
   clear a
   have a:=E
   clear E
   simp only[sts]at a
   have ag:=hid (ck.grown a (fun q m=>by have:=Option.some.inj m;have:=u.out;have:=j.out;omega))
   have an:=hid (b6.grown a (fun e=>by have:=Option.some.inj e;have:=j.out;omega))
   have bw:=hid (cf.own a (fun q m=>by have:=Option.some.inj m;have:=j.out;rw[F.out];omega))
   have G:=hid r
   clear a r
   clear b6 cf ck B
   go_upto_region 8 with fail
   generalize w9.setCell ⟨I,3,none⟩ (.int .i64 (bndP (needP yCm (bndP h.next.next).2)).1)=bk at*
   clear z0 y0
   go_wp2_with fail
   refine(az (ag.ext ((Ext.refl bk).alloc (.cells #[.string yRp] 9))) hL yRp bk.heap.size (by simp[World.cell?_alloc_new])).mono ?_
   rintro _ c2 ⟨v,rfl,p,f,_⟩
   replace f:Chg P bk c2:=(Chg.of ((Ext.refl bk).alloc (.cells #[.string yRp] 9))).trans f
   have b7:=hid p
   have cd:=hid (f.blk an (by have:=u.out;omega))
   have cc:=hid (bw.trans f)
   have C:=hid (f.blk G (by have:=u.out;have:=j.out;omega))
   clear p f
   clear an bw ag G
   have a4:=hid (i64_1)
   have a5:=hid (ex)
   have bd:=hid (es)
   have a9:=hid (bG)
   have be:typP h=((1,(bndP h.next.next).1,(bndP (needP yCm (bndP h.next.next).2)).1,0),(needP yRp (bndP (needP yCm (bndP h.next.next).2)).2)):=by
    rw[cb.out,cv,c7]
    rfl
   rw[be]at HM
   clear be cb
   go_wp2_with fail
   refine(ai b7 hL kNOT).mono ?_
   rintro _ ci ⟨v,rfl,p,f,rfl⟩
   have bf:=hid p
   have W:=hid (f.blk cd (by have:=u.out;omega))
   have b9:=hid (cc.trans f)
   have V:=hid (f.blk C (by have:=u.out;have:=j.out;omega))
   clear p f
   clear cd cc b7 C
   cases bx:isS kNOT (needP yRp (bndP (needP yCm (bndP h.next.next).2)).2)
   ·have e:(aq kNOT (needP yRp (bndP (needP yCm (bndP h.next.next).2)).2)).2=(needP yRp (bndP (needP yCm (bndP h.next.next).2)).2):=by simp[aq,bx]
    rw[e]at bf
    clear e
    obtain⟨b0,b1,b2,b3,b4,b5,-⟩:=cls V
    have O:Hid (R.1=⟨X,1,(bndP h.next.next).1,(bndP (needP yCm (bndP h.next.next).2)).1,0,false⟩):=by
     rw[HM.out,bx]
     rfl
    have J:Hid (R.2=(needP yRp (bndP (needP yCm (bndP h.next.next).2)).2)):=by
     rw[HM.out,bx]
     rfl
    obtain⟨z0,z1,z2,z3,z4,z5,-⟩:=cls W
    obtain⟨y0,y1,y2,y3,y4,y5,-⟩:=frz W
    have Q:=aE W [.string X,.int .i64 1,.int .i64 (bndP h.next.next).1,.int .i64 (bndP (needP yCm (bndP h.next.next).2)).1,.int .i64 0,.bool false] rfl
    have z:=hid (ak g0 [.string X,.int .i64 1,.int .i64 (bndP h.next.next).1,.int .i64 (bndP (needP yCm (bndP h.next.next).2)).1,.int .i64 0,.bool false] ci 0)
    simp only[sts]at Q
    have HZ:=hid Q
    clear Q
    go_wp2_with fail
    obtain⟨q0,q1,q2,q3,q4,q5,-⟩:=cls HZ
    exact bodyPost_ret (v:= .agg #[.string X,.int .i64 1,.int .i64 (bndP h.next.next).1,.int .i64 (bndP (needP yCm (bndP h.next.next).2)).1,.int .i64 0,.bool false]) (by simp[results,Tryz.results177,go_sem,q0,q1,q2,q3,q4,q5]) rfl ⟨_,rfl,by rw[J.out];exact bf.grown z (fun q m=>by have:=u.out;have:=Option.some.inj m;omega),b9.own z (fun q m=>by have:=Option.some.inj m;rw[F.out];omega),by rw[O.out];exact⟨rfl,by have:=bY.out;show X.size≤_;omega,a4,a5,bd,a9⟩⟩
   ·have e:(aq kNOT (needP yRp (bndP (needP yCm (bndP h.next.next).2)).2)).2=(needP yRp (bndP (needP yCm (bndP h.next.next).2)).2).next:=by simp[aq,bx]
    rw[e]at bf
    clear e
    go_wp2_with fail
    refine(az (bf.ext ((Ext.refl ci).alloc (.cells #[.string kNULL] 9))) hL kNULL ci.heap.size (by simp[World.cell?_alloc_new])).mono ?_
    rintro _ d1 ⟨v,rfl,p,f,_⟩
    replace f:Chg P ci d1:=(Chg.of ((Ext.refl ci).alloc (.cells #[.string kNULL] 9))).trans f
    have dc:=hid p
    have dd:=hid (f.blk W (by have:=u.out;omega))
    have c8:=hid (b9.trans f)
    have a1:=hid (f.blk V (by have:=u.out;have:=j.out;omega))
    clear p f
    clear W b9 bf V
    have z9:=a1.cell_some (i:=5) rfl
    have y9:=a1.frozen 5
    have a:=ak I [.bool true] d1 5
    simp only[sts]at a
    have el:=hid (dc.grown a (fun q m=>by have:=Option.some.inj m;have:=u.out;have:=j.out;omega))
    have cA:=hid (dd.grown a (fun e=>by have:=Option.some.inj e;have:=j.out;omega))
    have d3:=hid (c8.own a (fun q m=>by have:=Option.some.inj m;have:=j.out;rw[F.out];omega))
    have c3:=hid (a1.set 5 (.bool true))
    clear a
    clear dd c8 dc a1
    go_upto_region 17 with fail
    generalize d1.setCell ⟨I,5,none⟩ (.bool true)=e1 at*
    clear z9 y9
    obtain⟨b0,b1,b2,b3,b4,b5,-⟩:=cls c3
    have O:Hid (R.1=⟨X,1,(bndP h.next.next).1,(bndP (needP yCm (bndP h.next.next).2)).1,0,true⟩):=by
     rw[HM.out,bx]
     rfl
    have J:Hid (R.2=(needP kNULL (needP yRp (bndP (needP yCm (bndP h.next.next).2)).2).next)):=by
     rw[HM.out,bx]
     rfl
    obtain⟨z0,z1,z2,z3,z4,z5,-⟩:=cls cA
    obtain⟨y0,y1,y2,y3,y4,y5,-⟩:=frz cA
    have Q:=aE cA [.string X,.int .i64 1,.int .i64 (bndP h.next.next).1,.int .i64 (bndP (needP yCm (bndP h.next.next).2)).1,.int .i64 0,.bool true] rfl
    have z:=hid (ak g0 [.string X,.int .i64 1,.int .i64 (bndP h.next.next).1,.int .i64 (bndP (needP yCm (bndP h.next.next).2)).1,.int .i64 0,.bool true] e1 0)
    simp only[sts]at Q
    have HZ:=hid Q
    clear Q
    go_wp2_with fail
    obtain⟨q0,q1,q2,q3,q4,q5,-⟩:=cls HZ
    exact bodyPost_ret (v:= .agg #[.string X,.int .i64 1,.int .i64 (bndP h.next.next).1,.int .i64 (bndP (needP yCm (bndP h.next.next).2)).1,.int .i64 0,.bool true]) (by simp[results,Tryz.results177,go_sem,q0,q1,q2,q3,q4,q5]) rfl ⟨_,rfl,by rw[J.out];exact el.grown z (fun q m=>by have:=u.out;have:=Option.some.inj m;omega),d3.own z (fun q m=>by have:=Option.some.inj m;rw[F.out];omega),by rw[O.out];exact⟨rfl,by have:=bY.out;show X.size≤_;omega,a4,a5,bd,a9⟩⟩
end
end
section
open Lx (Tk)
theorem ba_beq (a b:ByteArray):(a==b)=decide (a=b):=by
 cases a with|mk a=>cases b with|mk b=>
 show(a==b)=_
 rw[Bool.eq_iff_iff]
 simp
def StrMap (w:World) (P:Program) (k e:TypeId) (M n:Nat) (l:List ByteArray):Prop:=
 ∃D:DataW Unit,w.ownsMap P k (plainElem P e) M n D∧Maps.IsMap D∧∀s:ByteArray,D.atKey (.string s.data.toList) (.lit (.bool false))= .lit (.bool (l.contains s))
section
variable {P:Program} {w w':World} {k e M n:Nat} {l:List ByteArray}
theorem StrMap.made (w:World) (P:Program) (k e:TypeId):StrMap (w.alloc (.map #[] 0)) P k e w.heap.size 0 []:=
 ⟨_,World.ownsMap_made w P k _,Maps.isMap_empty,fun s=>rfl⟩
theorem StrMap.lt (h:StrMap w P k e M n l):M<w.heap.size:=by
 obtain⟨D,h,_⟩:=h
 exact h.lt
theorem StrMap.mono (h:StrMap w P k e M n l) {m:Nat} (f:n≤m):StrMap w P k e M m l:=by
 obtain⟨D,h,a⟩:=h
 exact⟨D,h.mono f,a⟩
theorem StrMap.kept (h:StrMap w P k e M n l) {row:Option Nat} (g:w.grownBy w' row) (a:some M≠row):StrMap w' P k e M n l:=by
 obtain⟨D,h,f⟩:=h
 exact⟨D,h.kept g a,f⟩
theorem StrMap.ext (h:StrMap w P k e M n l) (a:Ext w w'):StrMap w' P k e M n l:=h.kept (row:=none) (ext_grown a none) (by simp)
theorem StrMap.look (h:StrMap w P k e M n l) {t:TypeId} (g:P.underlying k=some .string) (o:P.underlying t=some (.map k e)) (i:P.underlying e=some .bool) (m:(zeroValue e).run P w= .ok (.bool false) w)
  (s:ByteArray) (hs:s.size≤maxLen):(Instr.lookup t (.map (some M)) (.string s) false).run P w= .ok (.bool (l.contains s)) w:=by
 obtain⟨D,h,p,j⟩:=h
 obtain⟨v,ps,a,f⟩:=h.lookup (Maps.string_keyed g) o m (plainElem_bool i false) (WideMaps.keyOf_string_mk g hs)
 rw[j s]at f
 have:v= .bool (l.contains s):=by
  unfold plainElem at f
  rw[i]at f
  cases v<;>simp at f
  rw[f.1]
 rw[a,this]
theorem StrMap.add (h:StrMap w P k e M n l) {t:TypeId} (j:P.underlying k=some .string) (r:P.underlying t=some (.map k e)) (a:P.underlying e=some .bool) (q:n<maxLen)
  (s:ByteArray) (hs:s.size≤maxLen):∃w',(Instr.mapUpdate t (.map (some M)) (.string s) (.bool true)).run P w= .ok () w'∧StrMap w' P k e M (n+1) (l++ [s])∧w.grownBy w' (some M):=by
 obtain⟨D,h,i,o⟩:=h
 obtain⟨w',f,m,p⟩:=h.update (Maps.string_keyed j) r q (WideMaps.keyOf_string_mk j hs) (plainElem_bool a true)
 refine⟨w',f,⟨_,m,i.put _ _,fun x=>?_⟩,p⟩
 by_cases g:x=s
 ·subst g
  rw[Maps.atKey_put_same i (by simp[WideAt.IsKeyLit])]
  simp[ba_beq]
 ·rw[Maps.atKey_put_other (by
   intro a
   apply g
   injection a with a
   cases x;cases s
   simp at a
   simp[a]),o]
  simp[g,ba_beq]
theorem mU {o:Oper} {ops:Array Oper} {rest:List Oper} {a:Act} {Q:Exit→Act→World→Prop} (u:o.guard=none) (m x v:Operand) (t:TypeId) (i:o.op=Op.mapUpdate t m x v)
  (q:P.underlying k=some .string) (F:P.underlying t=some (.map k e)) (B:P.underlying e=some .bool)
  (r:a.eval m= .map (some M)) (h:StrMap w P k e M n l) (C:n<maxLen) (s:ByteArray) (hs:s.size≤maxLen) (z:a.eval x= .string s) (E:a.eval v= .bool true)
  (y:∀w',StrMap w' P k e M (n+1) (l++ [s])→w.grownBy w' (some M)→wpList P ops Q rest (a.put o.dst undef) w'):
  wpList P ops Q (o::rest) a w:=by
 refine wpList_plain u fun G g=>?_
 obtain⟨w',f,p,j⟩:=h.add q F B C s hs
 unfold Oper.wp
 simp[execOp,i,r,z,E,f,Result.andThen]
 exact g _ _ (y w' p j)
end
theorem Stb.turn {S S':Nat→Prop} {w w':World} {Φ:World→Prop} {b:Option Nat} (h:Stb S w Φ) (m:w.grownBy w' b) (g:∀q,q<w.heap.size→S q→b≠some q∧S' q):Stb S' w' Φ:=by
 have j:=(h.weak (S':=fun q=>S' q∧b≠some q) fun q a hs=>⟨(g q a hs).2,(g q a hs).1⟩).grown m fun q a=>a.2
 intro p f i
 exact j p f fun q a o=>i q a o.1
structure cU {α:Type} (Φ:α→List Value→World→Prop) (T sz n0:Nat) (S:Nat→Prop) (w:World) (v:Value) (l:List α) (css:List (List Value)):Prop where
 len:css.length=l.length
 each:∀cs∈css,cs.length=sz
 own:w.ownsRow n0 T sz v l.length css.flatten
 at_:∀(i:Nat) (a:α) (cs:List Value),l[i]? =some a→css[i]? =some cs→Stb S w (Φ a cs)
section
variable {α:Type} {Φ:α→List Value→World→Prop} {T sz n0 P:Nat} {S S':Nat→Prop} {w w':World} {v v':Value} {l:List α} {css:List (List Value)} {b:Option Nat}
theorem cU.turn (h:cU Φ T sz n0 S w v l css) (g:w.grownBy w' b) (m:v.ownBlock=none∨v.ownBlock≠b) (j:∀q,q<w.heap.size→S q→b≠some q∧S' q):cU Φ T sz n0 S' w' v l css:=
 ⟨h.len,h.each,h.own.kept g m,fun i a cs hi f=> (h.at_ i a cs hi f).turn g j⟩
theorem cU.push (h:cU Φ T sz n0 S w v l css) {a:α} {cs:List Value} (t:cs.length=sz) (p:w'.ownsRow n0 T sz v' (l.length+1) (css.flatten++cs)) (o:w.grownBy w' v.ownBlock)
  (m:∀q,q<w.heap.size→S q→v.ownBlock≠some q∧S' q) (r:Stb S w (Φ a cs)):cU Φ T sz n0 S' w' v' (l++ [a]) (css++ [cs]):=by
 refine⟨by simp[h.len],fun x j=>?_,by simpa using p,fun i b ds hi f=>?_⟩
 ·rcases List.mem_append.1 j with j|j
  ·exact h.each x j
  ·rw[List.mem_singleton.1 j];exact t
 ·by_cases g:i<l.length
  ·rw[List.getElem?_append_left g]at hi
   rw[List.getElem?_append_left (by rw[h.len];exact g)]at f
   exact(h.at_ i b ds hi f).turn o m
  ·have u:=(List.getElem?_eq_some_iff.1 hi).1
   rw[List.length_append,List.length_singleton]at u
   obtain rfl:i=l.length:=by omega
   rw[List.getElem?_append_right (Nat.le_refl _),Nat.sub_self]at hi
   rw[←h.len,List.getElem?_append_right (Nat.le_refl _),Nat.sub_self]at f
   simp at hi f
   subst hi f
   exact r.turn o m
theorem cU.nil (Φ:α→List Value→World→Prop) (T sz n0:Nat) (S:Nat→Prop) (w:World):cU Φ T sz n0 S w (.slice none 0 0) [] []:=
 ⟨rfl,fun _ h=>by simp at h,World.ownsRow_nil _ _ _ _,fun i a cs h=>by simp at h⟩
theorem cU.fin (h:cU Φ T sz n0 S w v l css) (z:∀q,S q→n0≤q):∃A c,v= .slice A l.length c∧Stb (n0≤·) w (fun m=>Lst Φ sz m A l):=by
 rcases h.own.2 with ⟨hv,h0⟩|⟨g,cap,cur,hv,hg,hh,hnc,hcm,hcs,htk⟩
 ·refine⟨none,0,by rw[hv,h0],fun m _ _ i a hi=>?_⟩
  have:=(List.getElem?_eq_some_iff.1 hi).1
  omega
 ·refine⟨some ⟨g,0,none⟩,cap,hv,fun m hs y i a hi=>?_⟩
  have t:=(List.getElem?_eq_some_iff.1 hi).1
  obtain⟨cs,x⟩:∃cs,css[i]? =some cs:=⟨_,List.getElem?_eq_getElem (by rw[h.len];exact t)⟩
  have o:g<w.heap.size:=(Array.getElem?_eq_some_iff.1 hh).1
  refine⟨cs,h.each cs (List.mem_of_getElem? x),⟨g,0,rfl,fun j u B=>?_⟩,(h.at_ i a cs hi x) m hs fun q C r=>y q C (z q r)⟩
  have f:=bH css h.each i j cs u x B
  rw[←htk,List.getElem?_take]at f
  have p:=(y g o hg).trans hh
  split at f
  ·rw[Nat.zero_add]
   simp[World.cell?,p]
   simpa using f
  ·cases f
end
def hZ (a:Cd) (cs:List Value) (w:World):Prop:=cs= [.string a.nm,.int .i64 a.ty,.int .i64 a.lo,.int .i64 a.hi,.int .i64 a.mx,.bool a.nn]∧a.nm.size≤9223372036854775807∧I64 a.ty∧I64 a.lo∧I64 a.hi∧I64 a.mx
def j5 (a:List ByteArray) (cs:List Value) (w:World):Prop:=∃B k,cs= [.slice B a.length k]∧(a.length≤20001∧a.length≤k)∧aO w B a
def ia (a:Rf) (cs:List Value) (w:World):Prop:=∃B k B2 k2,cs= [.slice B a.cs.length k,.string a.tb,.slice B2 a.tg.length k2]∧a.tb.size≤9223372036854775807∧(a.cs.length≤20001∧a.cs.length≤k)∧(a.tg.length≤20001∧a.tg.length≤k2)∧aO w B a.cs∧aO w B2 a.tg
structure DV where
 vc:Value
 vk:Value
 vf:Value
 vx:Value
 cc:List (List Value)
 ck:List (List Value)
 cf:List (List Value)
 cx:List (List Value)
structure Sf (n0:Nat) (bs:List Nat) (D:DV) (q:Nat):Prop where
 ge:n0≤q
 c:D.vc.ownBlock≠some q
 k:D.vk.ownBlock≠some q
 f:D.vf.ownBlock≠some q
 x:D.vx.ownBlock≠some q
 b:q∉bs
structure Dfw (n0:Nat) (bs:List Nat) (w:World) (D:DV) (d:Df):Prop where
 c:cU hZ 99 6 n0 (Sf n0 bs D) w D.vc d.cols D.cc
 k:cU j5 101 1 n0 (Sf n0 bs D) w D.vk d.keys D.ck
 f:cU ia 103 3 n0 (Sf n0 bs D) w D.vf d.frs D.cf
 x:cU cu 37 8 n0 (Sf n0 bs D) w D.vx d.chk D.cx
 dc:∀q,D.vc.ownBlock=some q→D.vk.ownBlock≠some q∧D.vf.ownBlock≠some q∧D.vx.ownBlock≠some q∧q∉bs
 dk:∀q,D.vk.ownBlock=some q→D.vf.ownBlock≠some q∧D.vx.ownBlock≠some q∧q∉bs
 df:∀q,D.vf.ownBlock=some q→D.vx.ownBlock≠some q∧q∉bs
 dx:∀q,D.vx.ownBlock=some q→q∉bs
def dv0:DV:=⟨.slice none 0 0,.slice none 0 0,.slice none 0 0,.slice none 0 0,[],[],[],[]⟩
section
variable {n0:Nat} {bs bs':List Nat} {w w':World} {D:DV} {d:Df} {b:Option Nat}
theorem Dfw.start (n0:Nat) (bs:List Nat) (w:World):Dfw n0 bs w dv0 ⟨[],[],[],[]⟩:=
 ⟨cU.nil _ _ _ _ _ _,cU.nil _ _ _ _ _ _,cU.nil _ _ _ _ _ _,cU.nil _ _ _ _ _ _,(fun q h=>nomatch h),(fun q h=>nomatch h),(fun q h=>nomatch h),(fun q h=>nomatch h)⟩
theorem Dfw.turn (h:Dfw n0 bs w D d) (m:w.grownBy w' b) (u:∀q,b=some q→q<n0∨q∈bs) (i:∀q∈bs',q∈bs∨w.heap.size≤q):Dfw n0 bs' w' D d:=by
 have g:∀ {v:Value} {T sz n:Nat} {p:List Value},w.ownsRow n0 T sz v n p→(∀q,v.ownBlock=some q→q∉bs)→v.ownBlock=none∨v.ownBlock≠b:=fun {v T sz n p} r hd=>by
  cases y:v.ownBlock with
  |none=>exact .inl rfl
  |some q=>
   refine .inr fun e=>?_
   rcases u q e.symm with h1|h1
   ·have:=(r.lt q y).1
    omega
   ·exact hd q y h1
 have j:∀q,q<w.heap.size→Sf n0 bs D q→b≠some q∧Sf n0 bs' D q:=fun q a hs=>
  ⟨fun e=>by
   rcases u q e with h1|h1
   ·have:=hs.ge
    omega
   ·exact hs.b h1,hs.ge,hs.c,hs.k,hs.f,hs.x,fun t=>by
   rcases i q t with h1|h1
   ·exact hs.b h1
   ·omega⟩
 have o:∀ {v:Value} {T sz n:Nat} {p:List Value},w.ownsRow n0 T sz v n p→(∀q,v.ownBlock=some q→q∉bs)→∀q,v.ownBlock=some q→q∉bs':=fun r hd q a t=>by
  rcases i q t with h1|h1
  ·exact hd q a h1
  ·have:=(r.lt q a).2
   omega
 exact⟨h.c.turn m (g h.c.own fun q a=> (h.dc q a).2.2.2) j,h.k.turn m (g h.k.own fun q a=> (h.dk q a).2.2) j,h.f.turn m (g h.f.own fun q a=> (h.df q a).2) j,h.x.turn m (g h.x.own h.dx) j,
  fun q a=>⟨(h.dc q a).1,(h.dc q a).2.1,(h.dc q a).2.2.1,o h.c.own (fun q a=> (h.dc q a).2.2.2) q a⟩,fun q a=>⟨(h.dk q a).1,(h.dk q a).2.1,o h.k.own (fun q a=> (h.dk q a).2.2) q a⟩,
  fun q a=>⟨(h.df q a).1,o h.f.own (fun q a=> (h.df q a).2) q a⟩,fun q a=>o h.x.own h.dx q a⟩
theorem Dfw.ext (h:Dfw n0 bs w D d) (f:Ext w w'):Dfw n0 bs w' D d:=h.turn (ext_grown f none) (fun q e=>by cases e) fun q a=> .inl a
theorem Dfw.chg {P:Nat} (h:Dfw n0 bs w D d) (f:Chg P w w') (a:P<n0):Dfw n0 bs w' D d:=h.turn f (fun q e=> .inl (by rw[←Option.some.inj e];exact a)) fun q g=> .inl g
theorem Dfw.fresh (h:Dfw n0 bs w D d) (a:∀q∈bs,q<w.heap.size) (g:n0≤w.heap.size) {q:Nat} (i:w.heap.size≤q):Sf n0 bs D q:=
 ⟨Nat.le_trans g i,fun e=>by have:=(h.c.own.lt q e).2;omega,fun e=>by have:=(h.k.own.lt q e).2;omega,fun e=>by have:=(h.f.own.lt q e).2;omega,fun e=>by have:=(h.x.own.lt q e).2;omega,fun e=>by have:=a q e;omega⟩
theorem Dfw.fine (h:Dfw n0 bs w D d) (a:∀q∈bs,q<w.heap.size) (g:n0≤w.heap.size) {f:World} {Φ:World→Prop} (hs:Stb (w.heap.size≤·) f Φ):Stb (Sf n0 bs D) f Φ:=hs.weak fun q _ i=>h.fresh a g i
theorem Dfw.pushc (h:Dfw n0 bs w D d) {y:Cd} {cs:List Value} {v':Value} (C:cs.length=6) (z:w'.ownsRow n0 99 6 v' (d.cols.length+1) (D.cc.flatten++cs)) (p:w.grownBy w' D.vc.ownBlock)
  (i:v'.ownBlock=D.vc.ownBlock∨v'.ownBlock=some w.heap.size) (t:∀q∈bs,q<w.heap.size) (B:Stb (Sf n0 bs D) w (hZ y cs)):Dfw n0 bs w' { D with vc:=v',cc:=D.cc++ [cs] } { d with cols:=d.cols++ [y] } :=by
 have r:∀q,q<w.heap.size→D.vc.ownBlock≠some q→v'.ownBlock≠some q:=fun q a hs e=>by
  rcases i with i|i
  ·exact hs (i.symm.trans e)
  ·rw[i]at e
   have:=Option.some.inj e
   omega
 have o:∀q,q<w.heap.size→Sf n0 bs D q→D.vc.ownBlock≠some q∧Sf n0 bs { D with vc:=v',cc:=D.cc++ [cs] } q:=fun q a hs=>
  ⟨hs.c,hs.ge,r q a hs.c,hs.k,hs.f,hs.x,hs.b⟩
 have g:∀q,v'.ownBlock=some q→D.vc.ownBlock=some q∨q=w.heap.size:=fun q e=>by
  rcases i with i|i
  ·exact .inl (i.symm.trans e)
  ·exact .inr (Option.some.inj (i.symm.trans e)).symm
 have u:D.vk.ownBlock=none∨D.vk.ownBlock≠D.vc.ownBlock:=by
  cases j:D.vk.ownBlock with
  |none=>exact .inl rfl
  |some q=>exact .inr fun e=> (fun e=> (h.dc q e).1 j) e.symm
 have F:D.vf.ownBlock=none∨D.vf.ownBlock≠D.vc.ownBlock:=by
  cases j:D.vf.ownBlock with
  |none=>exact .inl rfl
  |some q=>exact .inr fun e=> (fun e=> (h.dc q e).2.1 j) e.symm
 have G:D.vx.ownBlock=none∨D.vx.ownBlock≠D.vc.ownBlock:=by
  cases j:D.vx.ownBlock with
  |none=>exact .inl rfl
  |some q=>exact .inr fun e=> (fun e=> (h.dc q e).2.2.1 j) e.symm
 exact⟨h.c.push C z p o B,h.k.turn p u o,h.f.turn p F o,h.x.turn p G o,fun q a=>⟨((g q a).elim (fun e=> (h.dc q e).1) fun e m=>by have:=(h.k.own.lt q m).2;omega),((g q a).elim (fun e=> (h.dc q e).2.1) fun e m=>by have:=(h.f.own.lt q m).2;omega),((g q a).elim (fun e=> (h.dc q e).2.2.1) fun e m=>by have:=(h.x.own.lt q m).2;omega),((g q a).elim (fun e=> (h.dc q e).2.2.2) fun e E=>by have:=t q E;omega)⟩,fun q a=>⟨(h.dk q a).1,(h.dk q a).2.1,(h.dk q a).2.2⟩,fun q a=>⟨(h.df q a).1,(h.df q a).2⟩,fun q a=> (h.dx q a)⟩
theorem Dfw.pushk (h:Dfw n0 bs w D d) {y:List ByteArray} {cs:List Value} {v':Value} (B:cs.length=1) (u:w'.ownsRow n0 101 1 v' (d.keys.length+1) (D.ck.flatten++cs)) (p:w.grownBy w' D.vk.ownBlock)
  (i:v'.ownBlock=D.vk.ownBlock∨v'.ownBlock=some w.heap.size) (t:∀q∈bs,q<w.heap.size) (z:Stb (Sf n0 bs D) w (j5 y cs)):Dfw n0 bs w' { D with vk:=v',ck:=D.ck++ [cs] } { d with keys:=d.keys++ [y] } :=by
 have r:∀q,q<w.heap.size→D.vk.ownBlock≠some q→v'.ownBlock≠some q:=fun q a hs e=>by
  rcases i with i|i
  ·exact hs (i.symm.trans e)
  ·rw[i]at e
   have:=Option.some.inj e
   omega
 have o:∀q,q<w.heap.size→Sf n0 bs D q→D.vk.ownBlock≠some q∧Sf n0 bs { D with vk:=v',ck:=D.ck++ [cs] } q:=fun q a hs=>
  ⟨hs.k,hs.ge,hs.c,r q a hs.k,hs.f,hs.x,hs.b⟩
 have g:∀q,v'.ownBlock=some q→D.vk.ownBlock=some q∨q=w.heap.size:=fun q e=>by
  rcases i with i|i
  ·exact .inl (i.symm.trans e)
  ·exact .inr (Option.some.inj (i.symm.trans e)).symm
 have F:D.vc.ownBlock=none∨D.vc.ownBlock≠D.vk.ownBlock:=by
  cases j:D.vc.ownBlock with
  |none=>exact .inl rfl
  |some q=>exact .inr fun e=> (h.dc q j).1 e.symm
 have E:D.vf.ownBlock=none∨D.vf.ownBlock≠D.vk.ownBlock:=by
  cases j:D.vf.ownBlock with
  |none=>exact .inl rfl
  |some q=>exact .inr fun e=> (fun e=> (h.dk q e).1 j) e.symm
 have G:D.vx.ownBlock=none∨D.vx.ownBlock≠D.vk.ownBlock:=by
  cases j:D.vx.ownBlock with
  |none=>exact .inl rfl
  |some q=>exact .inr fun e=> (fun e=> (h.dk q e).2.1 j) e.symm
 exact⟨h.c.turn p F o,h.k.push B u p o z,h.f.turn p E o,h.x.turn p G o,fun q a=>⟨(fun m=> (g q m).elim (fun e=> (h.dc q a).1 e) fun e=>by have:=(h.c.own.lt q a).2;omega),(h.dc q a).2.1,(h.dc q a).2.2.1,(h.dc q a).2.2.2⟩,fun q a=>⟨((g q a).elim (fun e=> (h.dk q e).1) fun e m=>by have:=(h.f.own.lt q m).2;omega),((g q a).elim (fun e=> (h.dk q e).2.1) fun e m=>by have:=(h.x.own.lt q m).2;omega),((g q a).elim (fun e=> (h.dk q e).2.2) fun e C=>by have:=t q C;omega)⟩,fun q a=>⟨(h.df q a).1,(h.df q a).2⟩,fun q a=> (h.dx q a)⟩
theorem Dfw.pushf (h:Dfw n0 bs w D d) {y:Rf} {cs:List Value} {v':Value} (C:cs.length=3) (z:w'.ownsRow n0 103 3 v' (d.frs.length+1) (D.cf.flatten++cs)) (p:w.grownBy w' D.vf.ownBlock)
  (i:v'.ownBlock=D.vf.ownBlock∨v'.ownBlock=some w.heap.size) (t:∀q∈bs,q<w.heap.size) (B:Stb (Sf n0 bs D) w (ia y cs)):Dfw n0 bs w' { D with vf:=v',cf:=D.cf++ [cs] } { d with frs:=d.frs++ [y] } :=by
 have r:∀q,q<w.heap.size→D.vf.ownBlock≠some q→v'.ownBlock≠some q:=fun q a hs e=>by
  rcases i with i|i
  ·exact hs (i.symm.trans e)
  ·rw[i]at e
   have:=Option.some.inj e
   omega
 have o:∀q,q<w.heap.size→Sf n0 bs D q→D.vf.ownBlock≠some q∧Sf n0 bs { D with vf:=v',cf:=D.cf++ [cs] } q:=fun q a hs=>
  ⟨hs.f,hs.ge,hs.c,hs.k,r q a hs.f,hs.x,hs.b⟩
 have g:∀q,v'.ownBlock=some q→D.vf.ownBlock=some q∨q=w.heap.size:=fun q e=>by
  rcases i with i|i
  ·exact .inl (i.symm.trans e)
  ·exact .inr (Option.some.inj (i.symm.trans e)).symm
 have F:D.vc.ownBlock=none∨D.vc.ownBlock≠D.vf.ownBlock:=by
  cases j:D.vc.ownBlock with
  |none=>exact .inl rfl
  |some q=>exact .inr fun e=> (h.dc q j).2.1 e.symm
 have u:D.vk.ownBlock=none∨D.vk.ownBlock≠D.vf.ownBlock:=by
  cases j:D.vk.ownBlock with
  |none=>exact .inl rfl
  |some q=>exact .inr fun e=> (h.dk q j).1 e.symm
 have G:D.vx.ownBlock=none∨D.vx.ownBlock≠D.vf.ownBlock:=by
  cases j:D.vx.ownBlock with
  |none=>exact .inl rfl
  |some q=>exact .inr fun e=> (fun e=> (h.df q e).1 j) e.symm
 exact⟨h.c.turn p F o,h.k.turn p u o,h.f.push C z p o B,h.x.turn p G o,fun q a=>⟨(h.dc q a).1,(fun m=> (g q m).elim (fun e=> (h.dc q a).2.1 e) fun e=>by have:=(h.c.own.lt q a).2;omega),(h.dc q a).2.2.1,(h.dc q a).2.2.2⟩,fun q a=>⟨(fun m=> (g q m).elim (fun e=> (h.dk q a).1 e) fun e=>by have:=(h.k.own.lt q a).2;omega),(h.dk q a).2.1,(h.dk q a).2.2⟩,fun q a=>⟨((g q a).elim (fun e=> (h.df q e).1) fun e m=>by have:=(h.x.own.lt q m).2;omega),((g q a).elim (fun e=> (h.df q e).2) fun e E=>by have:=t q E;omega)⟩,fun q a=> (h.dx q a)⟩
theorem Dfw.pushx (h:Dfw n0 bs w D d) {y:Ex} {cs:List Value} {v':Value} (C:cs.length=8) (z:w'.ownsRow n0 37 8 v' (d.chk.length+1) (D.cx.flatten++cs)) (p:w.grownBy w' D.vx.ownBlock)
  (i:v'.ownBlock=D.vx.ownBlock∨v'.ownBlock=some w.heap.size) (t:∀q∈bs,q<w.heap.size) (B:Stb (Sf n0 bs D) w (cu y cs)):Dfw n0 bs w' { D with vx:=v',cx:=D.cx++ [cs] } { d with chk:=d.chk++ [y] } :=by
 have r:∀q,q<w.heap.size→D.vx.ownBlock≠some q→v'.ownBlock≠some q:=fun q a hs e=>by
  rcases i with i|i
  ·exact hs (i.symm.trans e)
  ·rw[i]at e
   have:=Option.some.inj e
   omega
 have o:∀q,q<w.heap.size→Sf n0 bs D q→D.vx.ownBlock≠some q∧Sf n0 bs { D with vx:=v',cx:=D.cx++ [cs] } q:=fun q a hs=>
  ⟨hs.x,hs.ge,hs.c,hs.k,hs.f,r q a hs.x,hs.b⟩
 have g:∀q,v'.ownBlock=some q→D.vx.ownBlock=some q∨q=w.heap.size:=fun q e=>by
  rcases i with i|i
  ·exact .inl (i.symm.trans e)
  ·exact .inr (Option.some.inj (i.symm.trans e)).symm
 have G:D.vc.ownBlock=none∨D.vc.ownBlock≠D.vx.ownBlock:=by
  cases j:D.vc.ownBlock with
  |none=>exact .inl rfl
  |some q=>exact .inr fun e=> (h.dc q j).2.2.1 e.symm
 have u:D.vk.ownBlock=none∨D.vk.ownBlock≠D.vx.ownBlock:=by
  cases j:D.vk.ownBlock with
  |none=>exact .inl rfl
  |some q=>exact .inr fun e=> (h.dk q j).2.1 e.symm
 have F:D.vf.ownBlock=none∨D.vf.ownBlock≠D.vx.ownBlock:=by
  cases j:D.vf.ownBlock with
  |none=>exact .inl rfl
  |some q=>exact .inr fun e=> (h.df q j).1 e.symm
 exact⟨h.c.turn p G o,h.k.turn p u o,h.f.turn p F o,h.x.push C z p o B,fun q a=>⟨(h.dc q a).1,(h.dc q a).2.1,(fun m=> (g q m).elim (fun e=> (h.dc q a).2.2.1 e) fun e=>by have:=(h.c.own.lt q a).2;omega),(h.dc q a).2.2.2⟩,fun q a=>⟨(h.dk q a).1,(fun m=> (g q m).elim (fun e=> (h.dk q a).2.1 e) fun e=>by have:=(h.k.own.lt q a).2;omega),(h.dk q a).2.2⟩,fun q a=>⟨(fun m=> (g q m).elim (fun e=> (h.df q a).1 e) fun e=>by have:=(h.f.own.lt q a).2;omega),(h.df q a).2⟩,fun q a=> ((g q a).elim (fun e=> (h.dx q e)) fun e E=>by have:=t q E;omega)⟩
end
theorem mV {ex:M Ex} (d:Df) (l:List ByteArray) (s:Ps):(elemP ex d l s).1.1.cols.length≤d.cols.length+1∧(elemP ex d l s).1.1.keys.length≤d.keys.length+1∧(elemP ex d l s).1.1.frs.length≤d.frs.length+1∧(elemP ex d l s).1.1.chk.length≤d.chk.length+1:=by
 unfold elemP ifM
 repeat' split
 all_goals simp[aB,bb]
theorem mW {w:World} {B T sz n c g:Nat} {p:List Value} (h:w.ownsRow B T sz (.slice (some ⟨g,0,none⟩) n c) n p) {j:Nat} (r:j<p.length) (u:Value):(w.setCell ⟨g,j,none⟩ u).ownsRow B T sz (.slice (some ⟨g,0,none⟩) n c) n (p.set j u):=by
 obtain⟨q,m⟩:=h
 refine⟨by simpa using q,?_⟩
 rcases m with ⟨m,_⟩|⟨g2,cap,cur,hv,hg,hh,hn,hc,hs,ht⟩
 ·cases m
 ·simp only[Value.slice.injEq,Option.some.injEq,Addr.mk.injEq,and_true,true_and]at hv
  obtain⟨rfl,rfl⟩:=hv
  refine .inr ⟨g,c,cur.setIfInBounds j u,rfl,hg,?_,hn,hc,by simpa using hs,?_⟩
  ·simp[World.setCell,Array.getElem?_modify,hh]
  ·rw[←ht]
   apply List.ext_getElem?
   intro i
   rw[List.getElem?_take,List.getElem?_set]
   have f:j<n*sz:=by omega
   have o:j<cur.size:=by
    have:=congrArg List.length ht
    simp at this
    omega
   by_cases hi:i<n*sz
   ·rw[if_pos hi]
    by_cases a:j=i
    ·subst a
     simp[o,f]
     try omega
    ·simp[a,List.getElem?_take,hi,List.getElem?_set]
   ·rw[if_neg hi,if_neg (by omega),List.getElem?_take,if_neg hi]
theorem iy {w:World} {B T sz n c g:Nat} {a:List Value} (h:w.ownsRow B T sz (.slice (some ⟨g,0,none⟩) n c) n a) (j:Nat):w.frozen? ⟨g,j,none⟩=false:=by
 rcases h.2 with ⟨h2,_⟩|⟨g2,cap,cur,hv,hg,hh,_⟩
 ·cases h2
 ·simp only[Value.slice.injEq,Option.some.injEq,Addr.mk.injEq,and_true,true_and]at hv
  obtain⟨rfl,rfl⟩:=hv
  simp[World.frozen?,hh]
end
end Go.Proofs.YtjigcpfjhfoheaaGreatDoor
