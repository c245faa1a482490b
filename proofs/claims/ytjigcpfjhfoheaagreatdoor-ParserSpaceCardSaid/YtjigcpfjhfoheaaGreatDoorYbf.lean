/- Walks: the reference's comparison of definitions; Walks: the reference's Same. -/
import Derived.Test.YtjigcpfjhfoheaaGreatDoorYbe
namespace Go.Proofs.YtjigcpfjhfoheaaGreatDoor
open Go.RowKit
set_option maxHeartbeats 4000000
set_option maxRecDepth 100000
set_option linter.unusedVariables false
set_option linter.unusedSimpArgs false
theorem g9 (l m:List ByteArray) (A B:Option Addr) (n p c Z:Nat) (w:World) (O:l.length=n) (U:m.length=p) (hn:n≤9223372036854775807) (hp:p≤9223372036854775807) (Q:aO w A l) (j:aO w B m):
  Calls Tryz.prog 76 #[.slice A n c,.slice B p Z] w fun r w'=>r= .returned (.bool (allS sN l m))∧Ext w w':=by
 have E:=hid O
 have H:=hid U
 have X:=hid Q
 have C:=hid j
 clear O U Q j
 obtain⟨R,z⟩:∃R,allS sN l m=R:=⟨_,rfl⟩
 have G:=hid z
 rw[z]
 clear z
 by_cases o:n=p
 ·subst o
  have bN:((n:Int) !=(n:Int))=false:=by simp
  go_enter Tryz.func76,Tryz.ntmps76
  go_wp2_with fail
  go_loopw [5] (fun iv wr=> ∃(k:Nat),k≤n∧iv= .int .i64 k∧STo sN l m k∧Ext w wr) (fun i _=>n- (intOf i).toNat)
  case atStart=>exact⟨0,Nat.zero_le _,rfl,STo.zero _ l m,Ext.refl w⟩
  case round=>
   obtain⟨k,W,rfl,L,e⟩:=hrel
   have f:=hid e
   have s:=hid L
   by_cases u:k<n
   ·obtain⟨x,F⟩:=aI E u
    obtain⟨y,D⟩:=aI H u
    obtain⟨_,b,Y,rfl,V⟩:=(X.ext e) k x F
    obtain⟨_,b2,J,rfl,P⟩:=(C.ext e) k y D
    have i0:(0:Int)≤(k:Int):=by omega
    have i1:(k:Int)<(n:Int):=by omega
    have K:=hid F
    have h:=hid D
    replace V:=ae.keep V
    replace P:=ae.keep P
    clear F D e L
    obtain⟨b0,q⟩:∃b,(x.toList==y.toList)=b:=⟨_,rfl⟩
    cases b0
    ·have I:Hid (sN x y=false):=by unfold Hid sN;simp[←aV,q]
     have t:Hid (allS sN l m=false):=bi K h I
     go_wp2_with fail
     refine aa (by kernel_rfl) (by kernel_rfl) ?_
     repeat (go_big_quiet_step (fail))
     refine wpQuiet_nil ?_
     intro w2 a
     have g:=af a
     clear a
     go_wp2_with fail
     go_ret
     exact⟨ab (by rw[←G.out,t.out]),f.trans g⟩
    ·have I:Hid (sN x y=true):=by unfold Hid sN;simp[←aV,q]
     go_wp2_with fail
     refine aa (by kernel_rfl) (by kernel_rfl) ?_
     repeat (go_big_quiet_step (fail))
     refine wpQuiet_nil ?_
     intro w2 a
     have g:=af a
     clear a
     go_wp2_with fail
     go_roundw
     case rel=>exact⟨k+1,by omega,by go_num,s.succ K h I,f.trans g⟩
     case measure=>simp[intOf];omega
   ·obtain rfl:k=n:=by omega
    have t:Hid (allS sN l m=true):=cE E H s
    go_wp2_with fail
    go_ret
    exact⟨ab (by rw[←G.out,t.out]),f⟩
 ·have bN:((n:Int) !=(p:Int))=true:=by simp;omega
  have t:Hid (allS sN l m=false):=cD (by rw[E.out,H.out];exact o)
  go_enter Tryz.func76,Tryz.ntmps76
  go_wp2_with fail
  go_ret
  exact⟨ab (by rw[←G.out,t.out]),Ext.refl w⟩
theorem rdef_any (s t:St) (a b:SA) (w:World) (hv:StV w s a) (ad:StV w t b):
  Calls Tryz.prog 36 #[.agg #[.slice a.cols.A a.cols.n a.cols.c,.slice a.keys.A a.keys.n a.keys.c,.slice a.frs.A a.frs.n a.frs.c,.slice a.chk.A a.chk.n a.chk.c],.agg #[.slice b.cols.A b.cols.n b.cols.c,.slice b.keys.A b.keys.n b.keys.c,.slice b.frs.A b.frs.n b.frs.c,.slice b.chk.A b.chk.n b.chk.c]] w fun r w'=>r= .returned (.bool (allS Cd.same s.cols t.cols&&allS (allS sN) s.keys t.keys&&allS Rf.same s.frs t.frs&&sameL s.chk t.chk))∧Ext w w':=by
 have HS:=hid hv
 have HT:=hid ad
 have H0:=hid (fun W (hW:Ext w W)=>fM s.chk t.chk a.chk.A b.chk.A a.chk.n b.chk.n a.chk.c b.chk.c W hv.chk.1 ad.chk.1 hv.chk.2.1 ad.chk.2.1 (hv.chk.2.2.ext hW) (ad.chk.2.2.ext hW))
 have HB:=hid ((Blk.of_new w 29 [.slice a.cols.A a.cols.n a.cols.c,.slice a.keys.A a.keys.n a.keys.c,.slice a.frs.A a.frs.n a.frs.c,.slice a.chk.A a.chk.n a.chk.c]).ext ((Ext.refl _).alloc (.cells #[.slice b.cols.A b.cols.n b.cols.c,.slice b.keys.A b.keys.n b.keys.c,.slice b.frs.A b.frs.n b.frs.c,.slice b.chk.A b.chk.n b.chk.c] 29)))
 have q:=Blk.of_new (w.alloc (.cells #[.slice a.cols.A a.cols.n a.cols.c,.slice a.keys.A a.keys.n a.keys.c,.slice a.frs.A a.frs.n a.frs.c,.slice a.chk.A a.chk.n a.chk.c] 29)) 29 [.slice b.cols.A b.cols.n b.cols.c,.slice b.keys.A b.keys.n b.keys.c,.slice b.frs.A b.frs.n b.frs.c,.slice b.chk.A b.chk.n b.chk.c]
 have h:=hid (((Ext.refl w).alloc (.cells #[.slice a.cols.A a.cols.n a.cols.c,.slice a.keys.A a.keys.n a.keys.c,.slice a.frs.A a.frs.n a.frs.c,.slice a.chk.A a.chk.n a.chk.c] 29)).alloc (.cells #[.slice b.cols.A b.cols.n b.cols.c,.slice b.keys.A b.keys.n b.keys.c,.slice b.frs.A b.frs.n b.frs.c,.slice b.chk.A b.chk.n b.chk.c] 29))
 rw[show(w.alloc (.cells #[.slice a.cols.A a.cols.n a.cols.c,.slice a.keys.A a.keys.n a.keys.c,.slice a.frs.A a.frs.n a.frs.c,.slice a.chk.A a.chk.n a.chk.c] 29)).heap.size=w.heap.size+1 by simp]at q
 have HC:=hid q
 have m1:=hv.cols.2.1
 have m2:=hv.keys.2.1
 have m3:=hv.frs.2.1
 clear q hv ad
 generalize sameL s.chk t.chk=a5 at*
 obtain⟨R,hR⟩:∃R,(allS Cd.same s.cols t.cols&&allS (allS sN) s.keys t.keys&&allS Rf.same s.frs t.frs&&a5)=R:=⟨_,rfl⟩
 rw[hR]
 have F:=hid hR
 clear hR
 go_enter Tryz.func36,Tryz.ntmps36
 go_upto_region 1 with fail
 generalize (w.alloc (.cells #[.slice a.cols.A a.cols.n a.cols.c,.slice a.keys.A a.keys.n a.keys.c,.slice a.frs.A a.frs.n a.frs.c,.slice a.chk.A a.chk.n a.chk.c] 29)).alloc (.cells #[.slice b.cols.A b.cols.n b.cols.c,.slice b.keys.A b.keys.n b.keys.c,.slice b.frs.A b.frs.n b.frs.c,.slice b.chk.A b.chk.n b.chk.c] 29)=w1 at*
 generalize w.heap.size+1=g2 at*
 generalize w.heap.size=g at*
 have p0:=HB.cell 0
 have q0:=HC.cell 0
 have p1:=HB.cell 1
 have q1:=HC.cell 1
 have p2:=HB.cell 2
 have q2:=HC.cell 2
 have p3:=HB.cell 3
 have q3:=HC.cell 3
 simp only[List.getElem?_cons_succ,List.getElem?_cons_zero]at p0 p1 p2 p3 q0 q1 q2 q3
 by_cases ax:a.cols.n=b.cols.n
 ·have e1:((a.cols.n:Int) !=(b.cols.n:Int))=false:=by simp[ax]
  have U:=hid ax
  clear ax
  by_cases a2:a.keys.n=b.keys.n
  ·have e2:((a.keys.n:Int) !=(b.keys.n:Int))=false:=by simp[a2]
   have P:=hid a2
   clear a2
   by_cases a1:a.frs.n=b.frs.n
   ·have e3:((a.frs.n:Int) !=(b.frs.n:Int))=false:=by simp[a1]
    have V:=hid a1
    clear a1
    cases a5
    ·go_wp2_with (go_at_call 37;(with_reducible refine(H0.out _ h.out).mono ?_);rintro _ I ⟨rfl,e⟩)
     go_ret
     exact⟨ab (by rw[←F.out];simp),h.trans e⟩
    ·go_wp2_with (go_at_call 37;(with_reducible refine(H0.out _ h.out).mono ?_);rintro _ I ⟨rfl,e⟩)
     clear p0 p1 p2 p3 q0 q1 q2 q3 e1 e2 e3
     go_loopw [5] (fun iv wr=> ∃(k:Nat),k≤a.cols.n∧iv= .int .i64 k∧STo Cd.same s.cols t.cols k∧Ext w1 wr) (fun i _=>a.cols.n- (intOf i).toNat)
     case atStart=>exact⟨0,Nat.zero_le _,rfl,STo.zero _ _ _,e⟩
     case round=>
      obtain⟨k,bf,rfl,hr,f⟩:=hrel
      have m:=hid f
      have K:=hid hr
      have cb:=(HB.ext f).cell 0
      have cc:=(HC.ext f).cell 0
      simp only[List.getElem?_cons_succ,List.getElem?_cons_zero]at cb cc
      by_cases an:k<a.cols.n
      ·obtain⟨x,hx⟩:=aI HS.cols.1 an
       obtain⟨y,hy⟩:=aI HT.cols.1 (show k<b.cols.n by have:=U.out;have:=P.out;have:=V.out;omega)
       have i0:(0:Int)≤(k:Int):=by omega
       have i1:(k:Int)<(a.cols.n:Int):=by omega
       have i2:(k:Int)<(b.cols.n:Int):=by have:=U.out;have:=P.out;have:=V.out;omega
       have Q:=hid hx
       have o:=hid hy
       obtain⟨_,eb,Y,ac,q0,q1,q2,q3,q4,q5⟩:=HS.cols.2.2 k x hx
       obtain⟨_,Z,E,X,s0,s1,s2,s3,s4,s5⟩:=HT.cols.2.2 k y hy
       rw[ac]at cb
       rw[X]at cc
       replace q0:=ae.keep ((h.trans f).keep q0)
       replace s0:=ae.keep ((h.trans f).keep s0)
       replace q1:=ae.keep ((h.trans f).keep q1)
       replace s1:=ae.keep ((h.trans f).keep s1)
       replace q2:=ae.keep ((h.trans f).keep q2)
       replace s2:=ae.keep ((h.trans f).keep s2)
       replace q3:=ae.keep ((h.trans f).keep q3)
       replace s3:=ae.keep ((h.trans f).keep s3)
       replace q4:=ae.keep ((h.trans f).keep q4)
       replace s4:=ae.keep ((h.trans f).keep s4)
       replace q5:=ae.keep ((h.trans f).keep q5)
       replace s5:=ae.keep ((h.trans f).keep s5)
       have bw:=ae.keep cb
       have bn:=ae.keep cc
       clear hx hy f hr
       obtain⟨x0,x1,x2,x3,x4,x5⟩:=x
       obtain⟨y0,y1,y2,y3,y4,y5⟩:=y
       simp only at*
       obtain⟨b0,l⟩:∃b,(x0.toList==y0.toList)=b:=⟨_,rfl⟩
       cases b0
       ·have u:Hid (Cd.same ⟨x0,x1,x2,x3,x4,x5⟩ ⟨y0,y1,y2,y3,y4,y5⟩=false):=by unfold Hid Cd.same sN;simp[←aV,l]
        have p:Hid (allS Cd.same s.cols t.cols=false):=bi Q o u
        go_wp2_with fail
        refine aa (by kernel_rfl) (by kernel_rfl) ?_
        repeat (go_big_quiet_step (fail))
        refine wpQuiet_nil ?_
        intro I e
        have j:=af e
        clear e
        go_wp2_with fail
        go_ret
        exact⟨ab (by rw[←F.out,p.out];simp),h.trans (m.trans j)⟩
       ·obtain⟨b1,C⟩:∃b,(x1==y1)=b:=⟨_,rfl⟩
        cases b1
        ·have u:Hid (Cd.same ⟨x0,x1,x2,x3,x4,x5⟩ ⟨y0,y1,y2,y3,y4,y5⟩=false):=by unfold Hid Cd.same sN;simp[←aV,l,C]
         have p:Hid (allS Cd.same s.cols t.cols=false):=bi Q o u
         go_wp2_with fail
         refine aa (by kernel_rfl) (by kernel_rfl) ?_
         repeat (go_big_quiet_step (fail))
         refine wpQuiet_nil ?_
         intro I e
         have j:=af e
         clear e
         go_wp2_with fail
         go_ret
         exact⟨ab (by rw[←F.out,p.out];simp),h.trans (m.trans j)⟩
        ·obtain⟨b2,q⟩:∃b,(x2==y2)=b:=⟨_,rfl⟩
         cases b2
         ·have u:Hid (Cd.same ⟨x0,x1,x2,x3,x4,x5⟩ ⟨y0,y1,y2,y3,y4,y5⟩=false):=by unfold Hid Cd.same sN;simp[←aV,l,C,q]
          have p:Hid (allS Cd.same s.cols t.cols=false):=bi Q o u
          go_wp2_with fail
          refine aa (by kernel_rfl) (by kernel_rfl) ?_
          repeat (go_big_quiet_step (fail))
          refine wpQuiet_nil ?_
          intro I e
          have j:=af e
          clear e
          go_wp2_with fail
          go_ret
          exact⟨ab (by rw[←F.out,p.out];simp),h.trans (m.trans j)⟩
         ·obtain⟨b3,a0⟩:∃b,(x3==y3)=b:=⟨_,rfl⟩
          cases b3
          ·have u:Hid (Cd.same ⟨x0,x1,x2,x3,x4,x5⟩ ⟨y0,y1,y2,y3,y4,y5⟩=false):=by unfold Hid Cd.same sN;simp[←aV,l,C,q,a0]
           have p:Hid (allS Cd.same s.cols t.cols=false):=bi Q o u
           go_wp2_with fail
           refine aa (by kernel_rfl) (by kernel_rfl) ?_
           repeat (go_big_quiet_step (fail))
           refine wpQuiet_nil ?_
           intro I e
           have j:=af e
           clear e
           go_wp2_with fail
           go_ret
           exact⟨ab (by rw[←F.out,p.out];simp),h.trans (m.trans j)⟩
          ·obtain⟨b4,a4⟩:∃b,(x4==y4)=b:=⟨_,rfl⟩
           cases b4
           ·have u:Hid (Cd.same ⟨x0,x1,x2,x3,x4,x5⟩ ⟨y0,y1,y2,y3,y4,y5⟩=false):=by unfold Hid Cd.same sN;simp[←aV,l,C,q,a0,a4]
            have p:Hid (allS Cd.same s.cols t.cols=false):=bi Q o u
            go_wp2_with fail
            refine aa (by kernel_rfl) (by kernel_rfl) ?_
            repeat (go_big_quiet_step (fail))
            refine wpQuiet_nil ?_
            intro I e
            have j:=af e
            clear e
            go_wp2_with fail
            go_ret
            exact⟨ab (by rw[←F.out,p.out];simp),h.trans (m.trans j)⟩
           ·obtain⟨b5,bm⟩:∃b,(x5==y5)=b:=⟨_,rfl⟩
            cases b5
            ·have u:Hid (Cd.same ⟨x0,x1,x2,x3,x4,x5⟩ ⟨y0,y1,y2,y3,y4,y5⟩=false):=by unfold Hid Cd.same sN;simp[←aV,l,C,q,a0,a4,bm]
             have p:Hid (allS Cd.same s.cols t.cols=false):=bi Q o u
             go_wp2_with fail
             refine aa (by kernel_rfl) (by kernel_rfl) ?_
             repeat (go_big_quiet_step (fail))
             refine wpQuiet_nil ?_
             intro I e
             have j:=af e
             clear e
             go_wp2_with fail
             go_ret
             exact⟨ab (by rw[←F.out,p.out];simp),h.trans (m.trans j)⟩
            ·have u:Hid (Cd.same ⟨x0,x1,x2,x3,x4,x5⟩ ⟨y0,y1,y2,y3,y4,y5⟩=true):=by unfold Hid Cd.same sN;simp[←aV,l,C,q,a0,a4,bm]
             go_wp2_with fail
             refine aa (by kernel_rfl) (by kernel_rfl) ?_
             repeat (go_big_quiet_step (fail))
             refine wpQuiet_nil ?_
             intro I e
             have j:=af e
             clear e
             go_wp2_with fail
             go_roundw
             case rel=>exact⟨k+1,by omega,by go_num,K.succ Q o u,m.trans j⟩
             case measure=>simp[intOf];omega
      ·obtain ag:k=a.cols.n:=by omega
       subst ag
       have bN:Hid (allS Cd.same s.cols t.cols=true):=cE HS.cols.1 (HT.cols.1.trans U.symm) K
       go_wp2_with fail
       go_loopw [6] (fun iv wr=> ∃(k:Nat),k≤a.keys.n∧iv= .int .i64 k∧STo (allS sN) s.keys t.keys k∧Ext w1 wr) (fun i _=>a.keys.n- (intOf i).toNat)
       case atStart=>exact⟨0,Nat.zero_le _,rfl,STo.zero _ _ _,m⟩
       case round=>
        obtain⟨k,bf,rfl,hr,f⟩:=hrel
        have m:=hid f
        have K:=hid hr
        have cb:=(HB.ext f).cell 1
        have cc:=(HC.ext f).cell 1
        simp only[List.getElem?_cons_succ,List.getElem?_cons_zero]at cb cc
        by_cases an:k<a.keys.n
        ·obtain⟨x,hx⟩:=aI HS.keys.1 an
         obtain⟨y,hy⟩:=aI HT.keys.1 (show k<b.keys.n by have:=U.out;have:=P.out;have:=V.out;omega)
         have i0:(0:Int)≤(k:Int):=by omega
         have i1:(k:Int)<(a.keys.n:Int):=by omega
         have i2:(k:Int)<(b.keys.n:Int):=by have:=U.out;have:=P.out;have:=V.out;omega
         have Q:=hid hx
         have o:=hid hy
         obtain⟨eb,Y,Ai,ni,ci,ac,q0,be,b7,bk⟩:=HS.keys.2.2 k x hx
         obtain⟨Z,E,Aj,nj,cj,X,s0,a6,bY,ba⟩:=HT.keys.2.2 k y hy
         rw[ac]at cb
         rw[X]at cc
         replace q0:=ae.keep ((h.trans f).keep q0)
         replace s0:=ae.keep ((h.trans f).keep s0)
         have bw:=ae.keep cb
         have bn:=ae.keep cc
         have H1:Hid (∀z:ae wr,Calls Tryz.prog 76 #[.slice Ai ni ci,.slice Aj nj cj] z.now _):=fun z=>g9 x y Ai Aj ni nj ci cj z.now be a6 b7 bY (bk.ext ((h.trans f).trans z.ext)) (ba.ext ((h.trans f).trans z.ext))
         clear hx hy f hr be a6 bk ba
         obtain⟨b0,l⟩:∃b,(allS sN x y)=b:=⟨_,rfl⟩
         rw[l]at H1
         cases b0
         ·have u:Hid (allS sN x y=false):=by exact l
          have p:Hid (allS (allS sN) s.keys t.keys=false):=bi Q o u
          go_wp2_with fail
          refine aa (by kernel_rfl) (by kernel_rfl) ?_
          repeat (go_big_quiet_step ((go_at_call 76;with_reducible exact am (H1.out _))))
          refine wpQuiet_nil ?_
          intro I e
          have j:=af e
          clear e
          go_wp2_with fail
          go_ret
          exact⟨ab (by rw[←F.out,p.out];simp),h.trans (m.trans j)⟩
         ·have u:Hid (allS sN x y=true):=by exact l
          go_wp2_with fail
          refine aa (by kernel_rfl) (by kernel_rfl) ?_
          repeat (go_big_quiet_step ((go_at_call 76;with_reducible exact am (H1.out _))))
          refine wpQuiet_nil ?_
          intro I e
          have j:=af e
          clear e
          go_wp2_with fail
          go_roundw
          case rel=>exact⟨k+1,by omega,by go_num,K.succ Q o u,m.trans j⟩
          case measure=>simp[intOf];omega
        ·obtain ag:k=a.keys.n:=by omega
         subst ag
         have b6:Hid (allS (allS sN) s.keys t.keys=true):=cE HS.keys.1 (HT.keys.1.trans P.symm) K
         go_wp2_with fail
         go_loopw [7] (fun iv wr=> ∃(k:Nat),k≤a.frs.n∧iv= .int .i64 k∧STo Rf.same s.frs t.frs k∧Ext w1 wr) (fun i _=>a.frs.n- (intOf i).toNat)
         case atStart=>exact⟨0,Nat.zero_le _,rfl,STo.zero _ _ _,m⟩
         case round=>
          obtain⟨k,bf,rfl,hr,f⟩:=hrel
          have m:=hid f
          have K:=hid hr
          have cb:=(HB.ext f).cell 2
          have cc:=(HC.ext f).cell 2
          simp only[List.getElem?_cons_succ,List.getElem?_cons_zero]at cb cc
          by_cases an:k<a.frs.n
          ·obtain⟨x,hx⟩:=aI HS.frs.1 an
           obtain⟨y,hy⟩:=aI HT.frs.1 (show k<b.frs.n by have:=U.out;have:=P.out;have:=V.out;omega)
           have i0:(0:Int)≤(k:Int):=by omega
           have i1:(k:Int)<(a.frs.n:Int):=by omega
           have i2:(k:Int)<(b.frs.n:Int):=by have:=U.out;have:=P.out;have:=V.out;omega
           have Q:=hid hx
           have o:=hid hy
           obtain⟨_,eb,Y,A1,n1,c1,A2,n2,c2,ac,q0,q1,q2,g1,g3,g4,g5,g6,g7⟩:=HS.frs.2.2 k x hx
           obtain⟨_,Z,E,B1,m1,H,B2,m2,J,X,s0,s1,s2,h1,h3,h4,h5,h6,h7⟩:=HT.frs.2.2 k y hy
           rw[ac]at cb
           rw[X]at cc
           replace q0:=(h.trans f).keep q0
           replace s0:=(h.trans f).keep s0
           replace q1:=(h.trans f).keep q1
           replace s1:=(h.trans f).keep s1
           replace q2:=(h.trans f).keep q2
           replace s2:=(h.trans f).keep s2
           have H1:=hid (fun W (hW:Ext w W)=>g9 x.cs y.cs A1 B1 n1 m1 c1 H W g1 h1 g3 h3 (g4.ext hW) (h4.ext hW))
           have H2:=hid (fun W (hW:Ext w W)=>g9 x.tg y.tg A2 B2 n2 m2 c2 J W g5 h5 g6 h6 (g7.ext hW) (h7.ext hW))
           clear hx hy f hr g1 g4 g5 g7 h1 h4 h5 h7 ac X
           go_upto_region 16 with fail
           go_cut [8,9] from 80 to 117 (fun u8 u9 wx=> ∃ga gb,u8= .pointer (some ⟨ga,0,none⟩)∧u9= .pointer (some ⟨gb,0,none⟩)∧Blk wx ga 103 [.slice A1 n1 c1,.string x.tb,.slice A2 n2 c2]∧Blk wx gb 103 [.slice B1 m1 H,.string y.tb,.slice B2 m2 J]∧Ext wr wx)
           case first=>
            go_region_held3 (fun w'=>w'.cell? ⟨g,2,none⟩=some (.slice (some ⟨eb,Y,none⟩) a.frs.n a.frs.c)∧w'.cell? ⟨g2,2,none⟩=some (.slice (some ⟨Z,E,none⟩) b.frs.n b.frs.c)∧w'.cell? ⟨eb,Y+k*3,none⟩=some (.slice A1 n1 c1)∧w'.cell? ⟨eb,Y+k*3+1,none⟩=some (.string x.tb)∧w'.cell? ⟨eb,Y+k*3+2,none⟩=some (.slice A2 n2 c2)∧w'.cell? ⟨Z,E+k*3,none⟩=some (.slice B1 m1 H)∧w'.cell? ⟨Z,E+k*3+1,none⟩=some (.string y.tb)∧w'.cell? ⟨Z,E+k*3+2,none⟩=some (.slice B2 m2 J))
             (first|go_keep)
             (first|fail)
            ·have hb:=Blk.of_new (wr.alloc (.cells #[.slice A1 n1 c1,.string x.tb,.slice A2 n2 c2] 103)) 103 [.slice B1 m1 H,.string y.tb,.slice B2 m2 J]
             rw[show(wr.alloc (.cells #[.slice A1 n1 c1,.string x.tb,.slice A2 n2 c2] 103)).heap.size=wr.heap.size+1 by simp]at hb
             go_wp2_with fail
             go_meet
             exact⟨_,_,rfl,rfl,((Blk.of_new wr 103 [.slice A1 n1 c1,.string x.tb,.slice A2 n2 c2]).ext ((Ext.refl _).alloc _)).drew,hb.drew,(((Ext.refl wr).alloc _).alloc _).drew⟩
            ·have hb:=Blk.of_new (wr.alloc (.cells #[.slice B1 m1 H,.string y.tb,.slice B2 m2 J] 103)) 103 [.slice A1 n1 c1,.string x.tb,.slice A2 n2 c2]
             rw[show(wr.alloc (.cells #[.slice B1 m1 H,.string y.tb,.slice B2 m2 J] 103)).heap.size=wr.heap.size+1 by simp]at hb
             go_wp2_with fail
             go_meet
             exact⟨_,_,rfl,rfl,hb.drew,((Blk.of_new wr 103 [.slice B1 m1 H,.string y.tb,.slice B2 m2 J]).ext ((Ext.refl _).alloc _)).drew,(((Ext.refl wr).alloc _).alloc _).drew⟩
           case rest=>
            obtain⟨ga,gb,rfl,rfl,bd,a9,a3⟩:=hcut
            generalize wc=we at*
            have O:=hid (m.trans a3)
            have G:=hid (h.trans (m.trans a3))
            have D:=hid bd
            have B:=hid a9
            clear a3 bd a9 q0 q1 q2 s0 s1 s2 cb cc
            have d0:=(D).cell 0
            have e0:=(B).cell 0
            simp only[List.getElem?_cons_succ,List.getElem?_cons_zero]at d0 e0
            have H:=(D).cell 1
            have e1:=(B).cell 1
            simp only[List.getElem?_cons_succ,List.getElem?_cons_zero]at H e1
            have J:=(D).cell 2
            have e2:=(B).cell 2
            simp only[List.getElem?_cons_succ,List.getElem?_cons_zero]at J e2
            obtain⟨b0,l⟩:∃b,(allS sN x.cs y.cs)=b:=⟨_,rfl⟩
            rw[l]at H1
            cases b0
            ·have u:Hid (Rf.same x y=false):=by unfold Hid Rf.same;rw[gA x.tb];simp[←aV,l]
             have p:Hid (allS Rf.same s.frs t.frs=false):=bi Q o u
             go_wp2_with (first|(go_at_call 76;(with_reducible refine(H2.out _ ((G.out).trans e)).mono ?_);rintro _ w3 ⟨rfl,L⟩)|(go_at_call 76;(with_reducible refine(H1.out _ G.out).mono ?_);rintro _ I ⟨rfl,e⟩;have H:=(D.ext (e)).cell 1;have e1:=(B.ext (e)).cell 1;simp only[List.getElem?_cons_succ,List.getElem?_cons_zero]at H e1;have J:=(D.ext (e)).cell 2;have e2:=(B.ext (e)).cell 2;simp only[List.getElem?_cons_succ,List.getElem?_cons_zero]at J e2))
             go_wp2_with fail
             go_ret
             first|exact⟨ab (by rw[←F.out,p.out];simp),h.trans (O.trans (e.trans L))⟩|exact⟨ab (by rw[←F.out,p.out];simp),h.trans (O.trans e)⟩
            ·obtain⟨b1,C⟩:∃b,(x.tb.toList==y.tb.toList)=b:=⟨_,rfl⟩
             have n1:(x.tb.toList !=y.tb.toList)=!b1:=by rw[bne,C]
             cases b1
             ·have u:Hid (Rf.same x y=false):=by unfold Hid Rf.same;rw[gA x.tb];simp[←aV,l,C]
              have p:Hid (allS Rf.same s.frs t.frs=false):=bi Q o u
              go_wp2_with (first|(go_at_call 76;(with_reducible refine(H2.out _ ((G.out).trans e)).mono ?_);rintro _ w3 ⟨rfl,L⟩)|(go_at_call 76;(with_reducible refine(H1.out _ G.out).mono ?_);rintro _ I ⟨rfl,e⟩;have H:=(D.ext (e)).cell 1;have e1:=(B.ext (e)).cell 1;simp only[List.getElem?_cons_succ,List.getElem?_cons_zero]at H e1;have J:=(D.ext (e)).cell 2;have e2:=(B.ext (e)).cell 2;simp only[List.getElem?_cons_succ,List.getElem?_cons_zero]at J e2))
              go_wp2_with fail
              go_ret
              first|exact⟨ab (by rw[←F.out,p.out];simp),h.trans (O.trans (e.trans L))⟩|exact⟨ab (by rw[←F.out,p.out];simp),h.trans (O.trans e)⟩
             ·obtain⟨b2,q⟩:∃b,(allS sN x.tg y.tg)=b:=⟨_,rfl⟩
              rw[q]at H2
              cases b2
              ·have u:Hid (Rf.same x y=false):=by unfold Hid Rf.same;rw[gA x.tb];simp[←aV,l,C,q]
               have p:Hid (allS Rf.same s.frs t.frs=false):=bi Q o u
               go_wp2_with (first|(go_at_call 76;(with_reducible refine(H2.out _ ((G.out).trans e)).mono ?_);rintro _ w3 ⟨rfl,L⟩)|(go_at_call 76;(with_reducible refine(H1.out _ G.out).mono ?_);rintro _ I ⟨rfl,e⟩;have H:=(D.ext (e)).cell 1;have e1:=(B.ext (e)).cell 1;simp only[List.getElem?_cons_succ,List.getElem?_cons_zero]at H e1;have J:=(D.ext (e)).cell 2;have e2:=(B.ext (e)).cell 2;simp only[List.getElem?_cons_succ,List.getElem?_cons_zero]at J e2))
               go_wp2_with fail
               go_ret
               first|exact⟨ab (by rw[←F.out,p.out];simp),h.trans (O.trans (e.trans L))⟩|exact⟨ab (by rw[←F.out,p.out];simp),h.trans (O.trans e)⟩
              ·have u:Hid (Rf.same x y=true):=by unfold Hid Rf.same;rw[gA x.tb];simp[←aV,l,C,q]
               go_wp2_with (first|(go_at_call 76;(with_reducible refine(H2.out _ ((G.out).trans e)).mono ?_);rintro _ w3 ⟨rfl,L⟩)|(go_at_call 76;(with_reducible refine(H1.out _ G.out).mono ?_);rintro _ I ⟨rfl,e⟩;have H:=(D.ext (e)).cell 1;have e1:=(B.ext (e)).cell 1;simp only[List.getElem?_cons_succ,List.getElem?_cons_zero]at H e1;have J:=(D.ext (e)).cell 2;have e2:=(B.ext (e)).cell 2;simp only[List.getElem?_cons_succ,List.getElem?_cons_zero]at J e2))
               go_wp2_with fail
               go_roundw
               case rel=>exact⟨k+1,by omega,by go_num,K.succ Q o u,O.trans (e.trans L)⟩
               case measure=>simp[intOf];omega
          ·obtain ag:k=a.frs.n:=by omega
           subst ag
           have bx:Hid (allS Rf.same s.frs t.frs=true):=cE HS.frs.1 (HT.frs.1.trans V.symm) K
           go_wp2_with fail
           go_ret
           exact⟨ab (by rw[←F.out,bN.out,b6.out,bx.out];rfl),h.trans m⟩
   ·have e3:((a.frs.n:Int) !=(b.frs.n:Int))=true:=by simp;omega
    have p:Hid (allS Rf.same s.frs t.frs=false):=cD (by rw[HS.out.frs.1,HT.out.frs.1];exact a1)
    go_wp2_with (go_at_call 37;(with_reducible refine(H0.out _ h.out).mono ?_);rintro _ I ⟨rfl,e⟩)
    go_ret
    exact⟨ab (by rw[←F.out,p.out];simp),h⟩
  ·have e2:((a.keys.n:Int) !=(b.keys.n:Int))=true:=by simp;omega
   have p:Hid (allS (allS sN) s.keys t.keys=false):=cD (by rw[HS.out.keys.1,HT.out.keys.1];exact a2)
   go_wp2_with (go_at_call 37;(with_reducible refine(H0.out _ h.out).mono ?_);rintro _ I ⟨rfl,e⟩)
   go_ret
   exact⟨ab (by rw[←F.out,p.out];simp),h⟩
 ·have e1:((a.cols.n:Int) !=(b.cols.n:Int))=true:=by simp;omega
  have p:Hid (allS Cd.same s.cols t.cols=false):=cD (by rw[HS.out.cols.1,HT.out.cols.1];exact ax)
  go_wp2_with (go_at_call 37;(with_reducible refine(H0.out _ h.out).mono ?_);rintro _ I ⟨rfl,e⟩)
  go_ret
  exact⟨ab (by rw[←F.out,p.out];simp),h⟩
theorem mH (s t:St) (a b:SA) (w:World) (hv:StV w s a) (B:StV w t b):
  Calls Tryz.prog 15 #[s.val a,t.val b] w fun r w'=>r= .returned (.bool (s.same t))∧Ext w w':=by
 have H:=hid hv
 have F:=hid B
 have HB:=hid ((Blk.of_new w 40 (s.cells a)).ext ((Ext.refl _).alloc (.cells (t.cells b).toArray 40)))
 have ad:=Blk.of_new (w.alloc (.cells (s.cells a).toArray 40)) 40 (t.cells b)
 have HX:=hid (((Ext.refl w).alloc (.cells (s.cells a).toArray 40)).alloc (.cells (t.cells b).toArray 40))
 rw[show(w.alloc (.cells (s.cells a).toArray 40)).heap.size=w.heap.size+1 by simp]at ad
 have HC:=hid ad
 clear ad
 have Q:=hid (fun W (hW:Ext w W)=>rdef_any s t a b W (hv.ext hW) (B.ext hW))
 have H2:=hid (fun W (hW:Ext w W)=>fd s.whr t.whr a.whr.A b.whr.A a.whr.n b.whr.n a.whr.c b.whr.c W (hv.whr.ext hW) (B.whr.ext hW))
 have H3:=hid (fun W (hW:Ext w W)=>fM s.grp t.grp a.grp.A b.grp.A a.grp.n b.grp.n a.grp.c b.grp.c W hv.grp.1 B.grp.1 hv.grp.2.1 B.grp.2.1 (hv.grp.2.2.ext hW) (B.grp.2.2.ext hW))
 have m1:=hv.vals.2.1
 have m2:=hv.sets.2.1
 have m3:=hv.itms.2.1
 have m4:=hv.frm.2.1
 have m5:=hv.ord.2.1
 clear hv B
 obtain⟨R,hR⟩:∃R,s.same t=R:=⟨_,rfl⟩
 rw[hR]
 replace hR:((s.kd==t.kd) && (s.tb.toList==t.tb.toList) && (s.nm.toList==t.nm.toList) && (s.lim==t.lim) &&s.whr.same t.whr&&allS Src.same s.frm t.frm&&allS Ord'.same s.ord t.ord&&sameL s.grp t.grp&&allS sameL s.vals t.vals&&allS Asg.same s.sets t.sets&&allS Itm.same s.itms t.itms&& (allS Cd.same s.cols t.cols&&allS (allS sN) s.keys t.keys&&allS Rf.same s.frs t.frs&&sameL s.chk t.chk))=R:=by
  rw[←hR]
  unfold St.same St.sb SB.all
  rw[←gA,←gA]
  simp only[Bool.and_assoc]
 unfold St.val St.cells Sl.v at*
 unfold Nd.val at H2
 generalize (allS Cd.same s.cols t.cols&&allS (allS sN) s.keys t.keys&&allS Rf.same s.frs t.frs&&sameL s.chk t.chk)=ds at*
 generalize s.whr.same t.whr=b5 at*
 generalize sameL s.grp t.grp=b8 at*
 generalize s.whr.d=d at*
 generalize t.whr.d=d' at*
 obtain⟨op,tb,nm,ix,vk,vi,vt⟩:=d
 obtain⟨gm,gr,gv,gk,gt,gs,gl⟩:=d'
 simp only at*
 obtain⟨b1,q⟩:∃b,(s.kd==t.kd)=b:=⟨_,rfl⟩
 obtain⟨b2,ad⟩:∃b,(s.tb.toList==t.tb.toList)=b:=⟨_,rfl⟩
 obtain⟨b3,cA⟩:∃b,(s.nm.toList==t.nm.toList)=b:=⟨_,rfl⟩
 obtain⟨b4,c0⟩:∃b,(s.lim==t.lim)=b:=⟨_,rfl⟩
 have n1:(s.kd !=t.kd)=!b1:=by rw[bne,q]
 have n2:(s.tb.toList !=t.tb.toList)=!b2:=by rw[bne,ad]
 have n3:(s.nm.toList !=t.nm.toList)=!b3:=by rw[bne,cA]
 have n4:(s.lim !=t.lim)=!b4:=by rw[bne,c0]
 rw[q,ad,cA,c0]at hR
 have E:=hid hR
 clear hR
 go_enter Tryz.func15,Tryz.ntmps15
 go_upto_region 1 with fail
 dsimp only[List.append]
 generalize (w.alloc (.cells _ 40)).alloc (.cells _ 40)=w1 at*
 generalize w.heap.size+1=g2 at*
 generalize w.heap.size=g at*
 obtain⟨p0,p1,p2,p3,p4,p5,p6,p7,p8,p9,f2,d1,el,fn,e4,f0,es,gd,e2,f4,gb,df,-⟩:=cls (HB)
 obtain⟨X,q1,q2,q3,q4,q5,q6,q7,q8,q9,f1,fr,dd,d3,ee,e3,gc,ga,d0,c9,dx,f3,-⟩:=cls (HC)
 cases b1
 have HL:Hid (R=false):=by unfold Hid;rw[←E.out];simp
 rotate_left
 cases b2
 have HL:Hid (R=false):=by unfold Hid;rw[←E.out];simp
 rotate_left
 cases ds
 have HL:Hid (R=false):=by unfold Hid;rw[←E.out];simp
 rotate_left
 by_cases bd:a.vals.n=b.vals.n
 rotate_left
 have l1:((a.vals.n:Int) !=(b.vals.n:Int))=true:=by simp;omega
 have D:Hid (allS sameL s.vals t.vals=false):=cD (by rw[H.out.vals.1,F.out.vals.1];exact bd)
 have HL:Hid (R=false):=by unfold Hid;rw[←E.out,D.out];simp
 rotate_right
 have l1:((a.vals.n:Int) !=(b.vals.n:Int))=false:=by simp[bd]
 have ck:=hid bd
 clear bd
 by_cases bn:a.sets.n=b.sets.n
 rotate_left
 have l2:((a.sets.n:Int) !=(b.sets.n:Int))=true:=by simp;omega
 have D:Hid (allS Asg.same s.sets t.sets=false):=cD (by rw[H.out.sets.1,F.out.sets.1];exact bn)
 have HL:Hid (R=false):=by unfold Hid;rw[←E.out,D.out];simp
 rotate_right
 have l2:((a.sets.n:Int) !=(b.sets.n:Int))=false:=by simp[bn]
 have b6:=hid bn
 clear bn
 by_cases bk:a.itms.n=b.itms.n
 rotate_left
 have l3:((a.itms.n:Int) !=(b.itms.n:Int))=true:=by simp;omega
 have D:Hid (allS Itm.same s.itms t.itms=false):=cD (by rw[H.out.itms.1,F.out.itms.1];exact bk)
 have HL:Hid (R=false):=by unfold Hid;rw[←E.out,D.out];simp
 rotate_right
 have l3:((a.itms.n:Int) !=(b.itms.n:Int))=false:=by simp[bk]
 have cs:=hid bk
 clear bk
 by_cases bw:a.frm.n=b.frm.n
 rotate_left
 have l4:((a.frm.n:Int) !=(b.frm.n:Int))=true:=by simp;omega
 have D:Hid (allS Src.same s.frm t.frm=false):=cD (by rw[H.out.frm.1,F.out.frm.1];exact bw)
 have HL:Hid (R=false):=by unfold Hid;rw[←E.out,D.out];simp
 rotate_right
 have l4:((a.frm.n:Int) !=(b.frm.n:Int))=false:=by simp[bw]
 have b7:=hid bw
 clear bw
 cases b5
 have HL:Hid (R=false):=by unfold Hid;rw[←E.out];simp
 rotate_left
 cases b8
 have HL:Hid (R=false):=by unfold Hid;rw[←E.out];simp
 rotate_left
 by_cases bN:a.ord.n=b.ord.n
 rotate_left
 have l5:((a.ord.n:Int) !=(b.ord.n:Int))=true:=by simp;omega
 have D:Hid (allS Ord'.same s.ord t.ord=false):=cD (by rw[H.out.ord.1,F.out.ord.1];exact bN)
 have HL:Hid (R=false):=by unfold Hid;rw[←E.out,D.out];simp
 rotate_right
 have l5:((a.ord.n:Int) !=(b.ord.n:Int))=false:=by simp[bN]
 have b9:=hid bN
 clear bN
 cases b4
 have HL:Hid (R=false):=by unfold Hid;rw[←E.out];simp
 rotate_left
 cases b3
 have HL:Hid (R=false):=by unfold Hid;rw[←E.out];simp
 rotate_left
 ·simp only[Bool.not_true,Bool.not_false]at n1 n2 n3 n4
  go_wp2_with (first|(go_at_call 37;(with_reducible refine(H3.out _ ((HX.out.trans f).trans p)).mono ?_);rintro _ w4 ⟨rfl,G⟩;obtain⟨-,-,-,-,-,-,-,-,-,-,-,-,-,-,-,-,-,-,-,a5,a0,a3,-⟩:=cls (HB.ext ((f.trans p).trans G));obtain⟨-,-,-,-,-,-,-,-,-,-,-,-,-,-,-,-,-,-,-,a4,a1,a6,-⟩:=cls (HC.ext ((f.trans p).trans G)))|(go_at_call 19;(with_reducible refine(H2.out _ (HX.out.trans f)).mono ?_);rintro _ w3 ⟨rfl,p⟩;obtain⟨-,-,-,-,-,-,-,-,-,-,-,-,-,-,-,-,-,-,cd,a5,a0,a3,-⟩:=cls (HB.ext (f.trans p));obtain⟨-,-,-,-,-,-,-,-,-,-,-,-,-,-,-,-,-,-,cf,a4,a1,a6,-⟩:=cls (HC.ext (f.trans p)))|(go_at_call 36;(with_reducible refine(Q.out _ (HX.out)).mono ?_);rintro _ Y ⟨rfl,f⟩;obtain⟨-,-,-,-,-,-,e6,e7,e8,e9,fs,d2,e1,d6,d4,d5,fA,e5,cd,a5,a0,a3,-⟩:=cls (HB.ext (f));obtain⟨-,-,-,-,-,-,f6,f7,f8,f9,f10,dc,f12,d7,c7,dk,e0,c8,cf,a4,a1,a6,-⟩:=cls (HC.ext (f))))
  have h:=hid (((HX.trans f).trans p).trans G)
  replace HB:=hid (HB.ext ((f.trans p).trans G))
  replace HC:=hid (HC.ext ((f.trans p).trans G))
  clear f p G n1 n2 n3 n4 l1 l2 l3 l4 l5 p0 X p1 q1 p2 q2 p3 q3 p4 q4 p5 q5 p6 q6 p7 q7 p8 q8 p9 q9 f2 f1 d1 fr el dd fn d3 e4 ee f0 e3 es gc gd ga e2 d0 f4 c9 gb dx df f3 Q H2 H3
  go_loopw [5] (fun iv wr=> ∃(k:Nat),k≤a.vals.n∧iv= .int .i64 k∧STo sameL s.vals t.vals k∧Ext w4 wr) (fun i _=>a.vals.n- (intOf i).toNat)
  case atStart=>exact⟨0,Nat.zero_le _,rfl,STo.zero _ _ _,Ext.refl w4⟩
  case round=>
   obtain⟨k,bm,rfl,hr,e⟩:=hrel
   have l:=hid e
   have u:=hid hr
   have L:=(HB.ext e).cell 6
   have cc:=(HC.ext e).cell 6
   simp only[List.getElem?_cons_succ,List.getElem?_cons_zero]at L cc
   by_cases P:k<a.vals.n
   ·obtain⟨x,J⟩:=aI H.vals.1 P
    obtain⟨y,I⟩:=aI F.vals.1 (show k<b.vals.n by have:=ck.out;omega)
    have i0:(0:Int)≤(k:Int):=by omega
    have i1:(k:Int)<(a.vals.n:Int):=by omega
    have i2:(k:Int)<(b.vals.n:Int):=by have:=ck.out;omega
    have V:=hid J
    have o:=hid I
    obtain⟨eb,be,Ai,ni,ci,U,X,cH,c5⟩:=H.vals.2.2 k x J
    obtain⟨bf,ac,Aj,nj,cj,O,Z,cx,cy⟩:=F.vals.2.2 k y I
    rw[U]at L
    rw[O]at cc
    replace X:=ae.keep ((h.trans e).keep X)
    replace Z:=ae.keep ((h.trans e).keep Z)
    have ba:=ae.keep L
    have a9:=ae.keep cc
    have bx:=H.valn x (List.mem_of_getElem? J)
    have bY:=F.valn y (List.mem_of_getElem? I)
    have Q:Hid (∀z:ae wr,Calls Tryz.prog 37 #[.slice Ai ni ci,.slice Aj nj cj] z.now _):=fun z=>fM x y Ai Aj ni nj ci cj z.now cH cx (by omega) (by omega) (c5.ext ((h.trans e).trans z.ext)) (cy.ext ((h.trans e).trans z.ext))
    clear J I e hr cH cx c5 cy bx bY
    obtain⟨b0,m⟩:∃b,(sameL x y)=b:=⟨_,rfl⟩
    rw[m]at Q
    cases b0
    ·have C:Hid (sameL x y=false):=by exact m
     have D:Hid (allS sameL s.vals t.vals=false):=bi V o C
     go_wp2_with fail
     refine aa (by kernel_rfl) (by kernel_rfl) ?_
     repeat (go_big_quiet_step ((go_at_call 37;with_reducible exact am (Q.out _))))
     refine wpQuiet_nil ?_
     intro Y f
     have j:=af f
     clear f
     go_wp2_with fail
     go_ret
     exact⟨ab (by rw[←E.out,D.out];simp),h.trans (l.trans j)⟩
    ·have C:Hid (sameL x y=true):=by exact m
     go_wp2_with fail
     refine aa (by kernel_rfl) (by kernel_rfl) ?_
     repeat (go_big_quiet_step ((go_at_call 37;with_reducible exact am (Q.out _))))
     refine wpQuiet_nil ?_
     intro Y f
     have j:=af f
     clear f
     go_wp2_with fail
     go_roundw
     case rel=>exact⟨k+1,by omega,by go_num,u.succ V o C,l.trans j⟩
     case measure=>simp[intOf];omega
   ·obtain K:k=a.vals.n:=by omega
    subst K
    have cw:Hid (allS sameL s.vals t.vals=true):=cE H.vals.1 (F.vals.1.trans ck.symm) u
    go_wp2_with fail
    go_loopw [6] (fun iv wr=> ∃(k:Nat),k≤a.sets.n∧iv= .int .i64 k∧STo Asg.same s.sets t.sets k∧Ext w4 wr) (fun i _=>a.sets.n- (intOf i).toNat)
    case atStart=>exact⟨0,Nat.zero_le _,rfl,STo.zero _ _ _,l⟩
    case round=>
     obtain⟨k,bm,rfl,hr,e⟩:=hrel
     have l:=hid e
     have u:=hid hr
     have L:=(HB.ext e).cell 7
     have cc:=(HC.ext e).cell 7
     simp only[List.getElem?_cons_succ,List.getElem?_cons_zero]at L cc
     by_cases P:k<a.sets.n
     ·obtain⟨x,J⟩:=aI H.sets.1 P
      obtain⟨y,I⟩:=aI F.sets.1 (show k<b.sets.n by have:=b6.out;omega)
      have i0:(0:Int)≤(k:Int):=by omega
      have i1:(k:Int)<(a.sets.n:Int):=by omega
      have i2:(k:Int)<(b.sets.n:Int):=by have:=b6.out;omega
      have V:=hid J
      have o:=hid I
      obtain⟨eb,be,A1,a2,c1,U,X,q1,q2,q3,q4,q5,q6,q7,q8,q9,ax⟩:=gp H.sets.2.2 J
      obtain⟨bf,ac,A2,an,c2,O,Z,s1,s2,s3,s4,s5,s6,s7,s8,s9,B⟩:=gp F.sets.2.2 I
      rw[U]at L
      rw[O]at cc
      replace X:=ae.keep ((h.trans e).keep X)
      replace Z:=ae.keep ((h.trans e).keep Z)
      replace q1:=ae.keep ((h.trans e).keep q1)
      replace s1:=ae.keep ((h.trans e).keep s1)
      replace q2:=ae.keep ((h.trans e).keep q2)
      replace s2:=ae.keep ((h.trans e).keep s2)
      replace q3:=ae.keep ((h.trans e).keep q3)
      replace s3:=ae.keep ((h.trans e).keep s3)
      replace q4:=ae.keep ((h.trans e).keep q4)
      replace s4:=ae.keep ((h.trans e).keep s4)
      replace q5:=ae.keep ((h.trans e).keep q5)
      replace s5:=ae.keep ((h.trans e).keep s5)
      replace q6:=ae.keep ((h.trans e).keep q6)
      replace s6:=ae.keep ((h.trans e).keep s6)
      replace q7:=ae.keep ((h.trans e).keep q7)
      replace s7:=ae.keep ((h.trans e).keep s7)
      replace q8:=ae.keep ((h.trans e).keep q8)
      replace s8:=ae.keep ((h.trans e).keep s8)
      replace q9:=ae.keep ((h.trans e).keep q9)
      replace s9:=ae.keep ((h.trans e).keep s9)
      have ba:=ae.keep L
      have a9:=ae.keep cc
      have Q:Hid (∀z:ae wr,Calls Tryz.prog 19 #[x.ex.d.val A1 a2 c1,y.ex.d.val A2 an c2] z.now _):=fun z=>fd x.ex y.ex A1 A2 a2 an c1 c2 z.now (ax.ext ((h.trans e).trans z.ext)) (B.ext ((h.trans e).trans z.ext))
      unfold Nd.val at Q
      clear J I e hr ax B
      obtain⟨b0,m⟩:∃b,(x.cl.toList==y.cl.toList)=b:=⟨_,rfl⟩
      have nb:(x.cl.toList !=y.cl.toList)=!b0:=by rw[bne,m]
      cases b0
      ·have C:Hid (Asg.same x y=false):=by unfold Hid Asg.same;rw[gA x.cl];simp[←aV,m]
       have D:Hid (allS Asg.same s.sets t.sets=false):=bi V o C
       go_wp2_with fail
       refine aa (by kernel_rfl) (by kernel_rfl) ?_
       repeat (go_big_quiet_step ((go_at_call 19;with_reducible exact am (Q.out _))))
       refine wpQuiet_nil ?_
       intro Y f
       have j:=af f
       clear f
       go_wp2_with fail
       go_ret
       exact⟨ab (by rw[←E.out,D.out];simp),h.trans (l.trans j)⟩
      ·obtain⟨b1,q⟩:∃b,(x.ex.same y.ex)=b:=⟨_,rfl⟩
       rw[q]at Q
       cases b1
       ·have C:Hid (Asg.same x y=false):=by unfold Hid Asg.same;rw[gA x.cl];simp[←aV,m,q]
        have D:Hid (allS Asg.same s.sets t.sets=false):=bi V o C
        go_wp2_with fail
        refine aa (by kernel_rfl) (by kernel_rfl) ?_
        repeat (go_big_quiet_step ((go_at_call 19;with_reducible exact am (Q.out _))))
        refine wpQuiet_nil ?_
        intro Y f
        have j:=af f
        clear f
        go_wp2_with fail
        go_ret
        exact⟨ab (by rw[←E.out,D.out];simp),h.trans (l.trans j)⟩
       ·have C:Hid (Asg.same x y=true):=by unfold Hid Asg.same;rw[gA x.cl];simp[←aV,m,q]
        go_wp2_with fail
        refine aa (by kernel_rfl) (by kernel_rfl) ?_
        repeat (go_big_quiet_step ((go_at_call 19;with_reducible exact am (Q.out _))))
        refine wpQuiet_nil ?_
        intro Y f
        have j:=af f
        clear f
        go_wp2_with fail
        go_roundw
        case rel=>exact⟨k+1,by omega,by go_num,u.succ V o C,l.trans j⟩
        case measure=>simp[intOf];omega
     ·obtain K:k=a.sets.n:=by omega
      subst K
      have c4:Hid (allS Asg.same s.sets t.sets=true):=cE H.sets.1 (F.sets.1.trans b6.symm) u
      go_wp2_with fail
      go_loopw [7] (fun iv wr=> ∃(k:Nat),k≤a.itms.n∧iv= .int .i64 k∧STo Itm.same s.itms t.itms k∧Ext w4 wr) (fun i _=>a.itms.n- (intOf i).toNat)
      case atStart=>exact⟨0,Nat.zero_le _,rfl,STo.zero _ _ _,l⟩
      case round=>
       obtain⟨k,bm,rfl,hr,e⟩:=hrel
       have l:=hid e
       have u:=hid hr
       have L:=(HB.ext e).cell 8
       have cc:=(HC.ext e).cell 8
       simp only[List.getElem?_cons_succ,List.getElem?_cons_zero]at L cc
       by_cases P:k<a.itms.n
       ·obtain⟨x,J⟩:=aI H.itms.1 P
        obtain⟨y,I⟩:=aI F.itms.1 (show k<b.itms.n by have:=cs.out;omega)
        have i0:(0:Int)≤(k:Int):=by omega
        have i1:(k:Int)<(a.itms.n:Int):=by omega
        have i2:(k:Int)<(b.itms.n:Int):=by have:=cs.out;omega
        have V:=hid J
        have o:=hid I
        obtain⟨eb,be,A1,a2,c1,U,X,q1,q2,q3,q4,q5,q6,q7,q8,ax⟩:=gq H.itms.2.2 J
        obtain⟨bf,ac,A2,an,c2,O,Z,s1,s2,s3,s4,s5,s6,s7,s8,B⟩:=gq F.itms.2.2 I
        rw[U]at L
        rw[O]at cc
        replace X:=ae.keep ((h.trans e).keep X)
        replace Z:=ae.keep ((h.trans e).keep Z)
        replace q1:=ae.keep ((h.trans e).keep q1)
        replace s1:=ae.keep ((h.trans e).keep s1)
        replace q2:=ae.keep ((h.trans e).keep q2)
        replace s2:=ae.keep ((h.trans e).keep s2)
        replace q3:=ae.keep ((h.trans e).keep q3)
        replace s3:=ae.keep ((h.trans e).keep s3)
        replace q4:=ae.keep ((h.trans e).keep q4)
        replace s4:=ae.keep ((h.trans e).keep s4)
        replace q5:=ae.keep ((h.trans e).keep q5)
        replace s5:=ae.keep ((h.trans e).keep s5)
        replace q6:=ae.keep ((h.trans e).keep q6)
        replace s6:=ae.keep ((h.trans e).keep s6)
        replace q7:=ae.keep ((h.trans e).keep q7)
        replace s7:=ae.keep ((h.trans e).keep s7)
        replace q8:=ae.keep ((h.trans e).keep q8)
        replace s8:=ae.keep ((h.trans e).keep s8)
        have ba:=ae.keep L
        have a9:=ae.keep cc
        have Q:Hid (∀z:ae wr,Calls Tryz.prog 19 #[x.ex.d.val A1 a2 c1,y.ex.d.val A2 an c2] z.now _):=fun z=>fd x.ex y.ex A1 A2 a2 an c1 c2 z.now (ax.ext ((h.trans e).trans z.ext)) (B.ext ((h.trans e).trans z.ext))
        unfold Nd.val at Q
        clear J I e hr ax B
        obtain⟨b0,m⟩:∃b,(x.ag==y.ag)=b:=⟨_,rfl⟩
        have nb:(x.ag !=y.ag)=!b0:=by rw[bne,m]
        cases b0
        ·have C:Hid (Itm.same x y=false):=by unfold Hid Itm.same;simp[←aV,m]
         have D:Hid (allS Itm.same s.itms t.itms=false):=bi V o C
         go_wp2_with fail
         refine aa (by kernel_rfl) (by kernel_rfl) ?_
         repeat (go_big_quiet_step ((go_at_call 19;with_reducible exact am (Q.out _))))
         refine wpQuiet_nil ?_
         intro Y f
         have j:=af f
         clear f
         go_wp2_with fail
         go_ret
         exact⟨ab (by rw[←E.out,D.out];simp),h.trans (l.trans j)⟩
        ·obtain⟨b1,q⟩:∃b,(x.ex.same y.ex)=b:=⟨_,rfl⟩
         rw[q]at Q
         cases b1
         ·have C:Hid (Itm.same x y=false):=by unfold Hid Itm.same;simp[←aV,m,q]
          have D:Hid (allS Itm.same s.itms t.itms=false):=bi V o C
          go_wp2_with fail
          refine aa (by kernel_rfl) (by kernel_rfl) ?_
          repeat (go_big_quiet_step ((go_at_call 19;with_reducible exact am (Q.out _))))
          refine wpQuiet_nil ?_
          intro Y f
          have j:=af f
          clear f
          go_wp2_with fail
          go_ret
          exact⟨ab (by rw[←E.out,D.out];simp),h.trans (l.trans j)⟩
         ·have C:Hid (Itm.same x y=true):=by unfold Hid Itm.same;simp[←aV,m,q]
          go_wp2_with fail
          refine aa (by kernel_rfl) (by kernel_rfl) ?_
          repeat (go_big_quiet_step ((go_at_call 19;with_reducible exact am (Q.out _))))
          refine wpQuiet_nil ?_
          intro Y f
          have j:=af f
          clear f
          go_wp2_with fail
          go_roundw
          case rel=>exact⟨k+1,by omega,by go_num,u.succ V o C,l.trans j⟩
          case measure=>simp[intOf];omega
       ·obtain K:k=a.itms.n:=by omega
        subst K
        have c6:Hid (allS Itm.same s.itms t.itms=true):=cE H.itms.1 (F.itms.1.trans cs.symm) u
        go_wp2_with fail
        go_loopw [8] (fun iv wr=> ∃(k:Nat),k≤a.frm.n∧iv= .int .i64 k∧STo Src.same s.frm t.frm k∧Ext w4 wr) (fun i _=>a.frm.n- (intOf i).toNat)
        case atStart=>exact⟨0,Nat.zero_le _,rfl,STo.zero _ _ _,l⟩
        case round=>
         obtain⟨k,bm,rfl,hr,e⟩:=hrel
         have l:=hid e
         have u:=hid hr
         have L:=(HB.ext e).cell 9
         have cc:=(HC.ext e).cell 9
         simp only[List.getElem?_cons_succ,List.getElem?_cons_zero]at L cc
         by_cases P:k<a.frm.n
         ·obtain⟨x,J⟩:=aI H.frm.1 P
          obtain⟨y,I⟩:=aI F.frm.1 (show k<b.frm.n by have:=b7.out;omega)
          have i0:(0:Int)≤(k:Int):=by omega
          have i1:(k:Int)<(a.frm.n:Int):=by omega
          have i2:(k:Int)<(b.frm.n:Int):=by have:=b7.out;omega
          have V:=hid J
          have o:=hid I
          obtain⟨_,eb,be,U,X,q1⟩:=H.frm.2.2 k x J
          obtain⟨_,bf,ac,O,Z,s1⟩:=F.frm.2.2 k y I
          rw[U]at L
          rw[O]at cc
          replace X:=ae.keep ((h.trans e).keep X)
          replace Z:=ae.keep ((h.trans e).keep Z)
          replace q1:=ae.keep ((h.trans e).keep q1)
          replace s1:=ae.keep ((h.trans e).keep s1)
          have ba:=ae.keep L
          have a9:=ae.keep cc
          clear J I e hr
          obtain⟨x0,x1⟩:=x
          obtain⟨y0,y1⟩:=y
          simp only at*
          obtain⟨b0,m⟩:∃b,(x0.toList==y0.toList)=b:=⟨_,rfl⟩
          cases b0
          ·have C:Hid (Src.same ⟨x0,x1⟩ ⟨y0,y1⟩=false):=by unfold Hid Src.same sN;simp[←aV,m]
           have D:Hid (allS Src.same s.frm t.frm=false):=bi V o C
           go_wp2_with fail
           refine aa (by kernel_rfl) (by kernel_rfl) ?_
           repeat (go_big_quiet_step (fail))
           refine wpQuiet_nil ?_
           intro Y f
           have j:=af f
           clear f
           go_wp2_with fail
           go_ret
           exact⟨ab (by rw[←E.out,D.out];simp),h.trans (l.trans j)⟩
          ·obtain⟨b1,q⟩:∃b,(x1.toList==y1.toList)=b:=⟨_,rfl⟩
           cases b1
           ·have C:Hid (Src.same ⟨x0,x1⟩ ⟨y0,y1⟩=false):=by unfold Hid Src.same sN;simp[←aV,m,q]
            have D:Hid (allS Src.same s.frm t.frm=false):=bi V o C
            go_wp2_with fail
            refine aa (by kernel_rfl) (by kernel_rfl) ?_
            repeat (go_big_quiet_step (fail))
            refine wpQuiet_nil ?_
            intro Y f
            have j:=af f
            clear f
            go_wp2_with fail
            go_ret
            exact⟨ab (by rw[←E.out,D.out];simp),h.trans (l.trans j)⟩
           ·have C:Hid (Src.same ⟨x0,x1⟩ ⟨y0,y1⟩=true):=by unfold Hid Src.same sN;simp[←aV,m,q]
            go_wp2_with fail
            refine aa (by kernel_rfl) (by kernel_rfl) ?_
            repeat (go_big_quiet_step (fail))
            refine wpQuiet_nil ?_
            intro Y f
            have j:=af f
            clear f
            go_wp2_with fail
            go_roundw
            case rel=>exact⟨k+1,by omega,by go_num,u.succ V o C,l.trans j⟩
            case measure=>simp[intOf];omega
         ·obtain K:k=a.frm.n:=by omega
          subst K
          have c3:Hid (allS Src.same s.frm t.frm=true):=cE H.frm.1 (F.frm.1.trans b7.symm) u
          go_wp2_with fail
          go_loopw [9] (fun iv wr=> ∃(k:Nat),k≤a.ord.n∧iv= .int .i64 k∧STo Ord'.same s.ord t.ord k∧Ext w4 wr) (fun i _=>a.ord.n- (intOf i).toNat)
          case atStart=>exact⟨0,Nat.zero_le _,rfl,STo.zero _ _ _,l⟩
          case round=>
           obtain⟨k,bm,rfl,hr,e⟩:=hrel
           have l:=hid e
           have u:=hid hr
           have L:=(HB.ext e).cell 19
           have cc:=(HC.ext e).cell 19
           simp only[List.getElem?_cons_succ,List.getElem?_cons_zero]at L cc
           by_cases P:k<a.ord.n
           ·obtain⟨x,J⟩:=aI H.ord.1 P
            obtain⟨y,I⟩:=aI F.ord.1 (show k<b.ord.n by have:=b9.out;omega)
            have i0:(0:Int)≤(k:Int):=by omega
            have i1:(k:Int)<(a.ord.n:Int):=by omega
            have i2:(k:Int)<(b.ord.n:Int):=by have:=b9.out;omega
            have V:=hid J
            have o:=hid I
            obtain⟨_,eb,be,U,X,q1⟩:=H.ord.2.2 k x J
            obtain⟨_,bf,ac,O,Z,s1⟩:=F.ord.2.2 k y I
            rw[U]at L
            rw[O]at cc
            replace X:=ae.keep ((h.trans e).keep X)
            replace Z:=ae.keep ((h.trans e).keep Z)
            replace q1:=ae.keep ((h.trans e).keep q1)
            replace s1:=ae.keep ((h.trans e).keep s1)
            have ba:=ae.keep L
            have a9:=ae.keep cc
            clear J I e hr
            obtain⟨x0,x1⟩:=x
            obtain⟨y0,y1⟩:=y
            simp only at*
            obtain⟨b0,m⟩:∃b,(x0==y0)=b:=⟨_,rfl⟩
            cases b0
            ·have C:Hid (Ord'.same ⟨x0,x1⟩ ⟨y0,y1⟩=false):=by unfold Hid Ord'.same;simp[←aV,m]
             have D:Hid (allS Ord'.same s.ord t.ord=false):=bi V o C
             go_wp2_with fail
             refine aa (by kernel_rfl) (by kernel_rfl) ?_
             repeat (go_big_quiet_step (fail))
             refine wpQuiet_nil ?_
             intro Y f
             have j:=af f
             clear f
             go_wp2_with fail
             go_ret
             exact⟨ab (by rw[←E.out,D.out];simp),h.trans (l.trans j)⟩
            ·obtain⟨b1,q⟩:∃b,(x1==y1)=b:=⟨_,rfl⟩
             cases b1
             ·have C:Hid (Ord'.same ⟨x0,x1⟩ ⟨y0,y1⟩=false):=by unfold Hid Ord'.same;simp[←aV,m,q]
              have D:Hid (allS Ord'.same s.ord t.ord=false):=bi V o C
              go_wp2_with fail
              refine aa (by kernel_rfl) (by kernel_rfl) ?_
              repeat (go_big_quiet_step (fail))
              refine wpQuiet_nil ?_
              intro Y f
              have j:=af f
              clear f
              go_wp2_with fail
              go_ret
              exact⟨ab (by rw[←E.out,D.out];simp),h.trans (l.trans j)⟩
             ·have C:Hid (Ord'.same ⟨x0,x1⟩ ⟨y0,y1⟩=true):=by unfold Hid Ord'.same;simp[←aV,m,q]
              go_wp2_with fail
              refine aa (by kernel_rfl) (by kernel_rfl) ?_
              repeat (go_big_quiet_step (fail))
              refine wpQuiet_nil ?_
              intro Y f
              have j:=af f
              clear f
              go_wp2_with fail
              go_roundw
              case rel=>exact⟨k+1,by omega,by go_num,u.succ V o C,l.trans j⟩
              case measure=>simp[intOf];omega
           ·obtain K:k=a.ord.n:=by omega
            subst K
            have cv:Hid (allS Ord'.same s.ord t.ord=true):=cE H.ord.1 (F.ord.1.trans b9.symm) u
            go_wp2_with fail
            go_ret
            exact⟨ab (by rw[←E.out,cw.out,c4.out,c6.out,c3.out,cv.out];rfl),h.trans l⟩
 all_goals
  simp only[Bool.not_true,Bool.not_false]at n1 n2 n3 n4
  go_wp2_with (first|(go_at_call 37;(with_reducible refine(H3.out _ ((HX.out.trans f).trans p)).mono ?_);rintro _ w4 ⟨rfl,G⟩;obtain⟨-,-,-,-,-,-,-,-,-,-,-,-,-,-,-,-,-,-,-,a5,a0,a3,-⟩:=cls (HB.ext ((f.trans p).trans G));obtain⟨-,-,-,-,-,-,-,-,-,-,-,-,-,-,-,-,-,-,-,a4,a1,a6,-⟩:=cls (HC.ext ((f.trans p).trans G)))|(go_at_call 19;(with_reducible refine(H2.out _ (HX.out.trans f)).mono ?_);rintro _ w3 ⟨rfl,p⟩;obtain⟨-,-,-,-,-,-,-,-,-,-,-,-,-,-,-,-,-,-,cd,a5,a0,a3,-⟩:=cls (HB.ext (f.trans p));obtain⟨-,-,-,-,-,-,-,-,-,-,-,-,-,-,-,-,-,-,cf,a4,a1,a6,-⟩:=cls (HC.ext (f.trans p)))|(go_at_call 36;(with_reducible refine(Q.out _ (HX.out)).mono ?_);rintro _ Y ⟨rfl,f⟩;obtain⟨-,-,-,-,-,-,e6,e7,e8,e9,fs,d2,e1,d6,d4,d5,fA,e5,cd,a5,a0,a3,-⟩:=cls (HB.ext (f));obtain⟨-,-,-,-,-,-,f6,f7,f8,f9,f10,dc,f12,d7,c7,dk,e0,c8,cf,a4,a1,a6,-⟩:=cls (HC.ext (f))))
  go_ret
  refine⟨ab ?_,?_⟩
  ·first|(rw[HL.out];done)|(rw[HL.out];simp)
  ·first|exact((HX.trans f).trans p).trans G|exact(HX.trans f).trans p|exact HX.trans f|exact HX
end Go.Proofs.YtjigcpfjhfoheaaGreatDoor
