/- Walks: the reference's Same; Walks: Valid and Text of a statement, the reference's. -/
import Derived.Test.YtjigcpfjhfoheaaGreatDoorRbh
namespace Go.Proofs.YtjigcpfjhfoheaaGreatDoor
open Go.RowKit
set_option maxHeartbeats 4000000
set_option maxRecDepth 100000
set_option linter.unusedVariables false
set_option linter.unusedSimpArgs false
theorem pB (s t:St) (a b:SA) (w:World) (hv:StV w s a) (E:StV w t b):
  Calls Tryz.prog 15 #[s.val a,t.val b] w fun r w'=>r= .returned (.bool (s.same t))∧Ext w w':=by
 have G:=hid hv
 have H:=hid E
 have HB:=hid ((Blk.of_new w 40 (s.cells a)).ext ((Ext.refl _).alloc (.cells (t.cells b).toArray 40)))
 have ad:=Blk.of_new (w.alloc (.cells (s.cells a).toArray 40)) 40 (t.cells b)
 have HX:=hid (((Ext.refl w).alloc (.cells (s.cells a).toArray 40)).alloc (.cells (t.cells b).toArray 40))
 rw[show(w.alloc (.cells (s.cells a).toArray 40)).heap.size=w.heap.size+1 by simp]at ad
 have HC:=hid ad
 clear ad
 have L:=hid (fun W (hW:Ext w W)=>rdef_any s t a b W (hv.ext hW) (E.ext hW))
 have H2:=hid (fun W (hW:Ext w W)=>gQ s.whr t.whr a.whr.A b.whr.A a.whr.n b.whr.n a.whr.c b.whr.c W (hv.whr.ext hW) (E.whr.ext hW))
 have H3:=hid (fun W (hW:Ext w W)=>iA s.grp t.grp a.grp.A b.grp.A a.grp.n b.grp.n a.grp.c b.grp.c W hv.grp.1 E.grp.1 hv.grp.2.1 E.grp.2.1 (hv.grp.2.2.ext hW) (E.grp.2.2.ext hW))
 have m1:=hv.vals.2.1
 have m2:=hv.sets.2.1
 have m3:=hv.itms.2.1
 have m4:=hv.frm.2.1
 have m5:=hv.ord.2.1
 clear hv E
 obtain⟨R,hR⟩:∃R,s.same t=R:=⟨_,rfl⟩
 rw[hR]
 replace hR:((s.kd==t.kd) && (s.tb.toList==t.tb.toList) && (s.nm.toList==t.nm.toList) && (s.lim==t.lim) &&s.whr.same t.whr&&allS Src.same s.frm t.frm&&allS Ord'.same s.ord t.ord&&sameL s.grp t.grp&&allS sameL s.vals t.vals&&allS Asg.same s.sets t.sets&&allS Itm.same s.itms t.itms&& (allS Cd.same s.cols t.cols&&allS (allS sN) s.keys t.keys&&allS Rf.same s.frs t.frs&&sameL s.chk t.chk))=R:=by
  rw[←hR]
  unfold St.same St.sb SB.all
  rw[←jf,←jf]
  simp only[Bool.and_assoc]
 unfold St.val St.cells Sl.v at*
 unfold Nd.val at H2
 generalize (allS Cd.same s.cols t.cols&&allS (allS sN) s.keys t.keys&&allS Rf.same s.frs t.frs&&sameL s.chk t.chk)=c7 at*
 generalize s.whr.same t.whr=b5 at*
 generalize sameL s.grp t.grp=b8 at*
 generalize s.whr.d=d at*
 generalize t.whr.d=d' at*
 obtain⟨op,tb,nm,ix,vk,vi,vt⟩:=d
 obtain⟨gs,gt,gr,ge,gy,gv,g0⟩:=d'
 simp only at*
 obtain⟨b1,u⟩:∃b,(s.kd==t.kd)=b:=⟨_,rfl⟩
 obtain⟨b2,ad⟩:∃b,(s.tb.toList==t.tb.toList)=b:=⟨_,rfl⟩
 obtain⟨b3,cH⟩:∃b,(s.nm.toList==t.nm.toList)=b:=⟨_,rfl⟩
 obtain⟨b4,c0⟩:∃b,(s.lim==t.lim)=b:=⟨_,rfl⟩
 have n1:(s.kd !=t.kd)=!b1:=by rw[bne,u]
 have n2:(s.tb.toList !=t.tb.toList)=!b2:=by rw[bne,ad]
 have n3:(s.nm.toList !=t.nm.toList)=!b3:=by rw[bne,cH]
 have n4:(s.lim !=t.lim)=!b4:=by rw[bne,c0]
 rw[u,ad,cH,c0]at hR
 have F:=hid hR
 clear hR
 go_enter Tryz.func15,Tryz.ntmps15
 go_upto_region 1 with fail
 dsimp only[List.append]
 generalize (w.alloc (.cells _ 40)).alloc (.cells _ 40)=w1 at*
 generalize w.heap.size+1=g2 at*
 generalize w.heap.size=g at*
 obtain⟨p0,p1,p2,p3,p4,p5,p6,p7,p8,p9,d8,d9,ee,el,es,e0,e1,e2,e3,e4,e5,fe,-⟩:=cls (HB)
 obtain⟨Z,q1,q2,q3,q4,q5,q6,q7,q8,q9,fn,fr,fs,fw,fA,f1,f2,f3,f4,ga,gb,gd,-⟩:=cls (HC)
 cases b1
 have HL:Hid (R=false):=by unfold Hid;rw[←F.out];simp
 rotate_left
 cases b2
 have HL:Hid (R=false):=by unfold Hid;rw[←F.out];simp
 rotate_left
 cases c7
 have HL:Hid (R=false):=by unfold Hid;rw[←F.out];simp
 rotate_left
 by_cases bd:a.vals.n=b.vals.n
 rotate_left
 have l1:((a.vals.n:Int) !=(b.vals.n:Int))=true:=by simp;omega
 have D:Hid (allS sameL s.vals t.vals=false):=di (by rw[G.out.vals.1,H.out.vals.1];exact bd)
 have HL:Hid (R=false):=by unfold Hid;rw[←F.out,D.out];simp
 rotate_right
 have l1:((a.vals.n:Int) !=(b.vals.n:Int))=false:=by simp[bd]
 have bN:=hid bd
 clear bd
 by_cases be:a.sets.n=b.sets.n
 rotate_left
 have l2:((a.sets.n:Int) !=(b.sets.n:Int))=true:=by simp;omega
 have D:Hid (allS Asg.same s.sets t.sets=false):=di (by rw[G.out.sets.1,H.out.sets.1];exact be)
 have HL:Hid (R=false):=by unfold Hid;rw[←F.out,D.out];simp
 rotate_right
 have l2:((a.sets.n:Int) !=(b.sets.n:Int))=false:=by simp[be]
 have b6:=hid be
 clear be
 by_cases bf:a.itms.n=b.itms.n
 rotate_left
 have l3:((a.itms.n:Int) !=(b.itms.n:Int))=true:=by simp;omega
 have D:Hid (allS Itm.same s.itms t.itms=false):=di (by rw[G.out.itms.1,H.out.itms.1];exact bf)
 have HL:Hid (R=false):=by unfold Hid;rw[←F.out,D.out];simp
 rotate_right
 have l3:((a.itms.n:Int) !=(b.itms.n:Int))=false:=by simp[bf]
 have b7:=hid bf
 clear bf
 by_cases bm:a.frm.n=b.frm.n
 rotate_left
 have l4:((a.frm.n:Int) !=(b.frm.n:Int))=true:=by simp;omega
 have D:Hid (allS Src.same s.frm t.frm=false):=di (by rw[G.out.frm.1,H.out.frm.1];exact bm)
 have HL:Hid (R=false):=by unfold Hid;rw[←F.out,D.out];simp
 rotate_right
 have l4:((a.frm.n:Int) !=(b.frm.n:Int))=false:=by simp[bm]
 have b9:=hid bm
 clear bm
 cases b5
 have HL:Hid (R=false):=by unfold Hid;rw[←F.out];simp
 rotate_left
 cases b8
 have HL:Hid (R=false):=by unfold Hid;rw[←F.out];simp
 rotate_left
 by_cases bn:a.ord.n=b.ord.n
 rotate_left
 have l5:((a.ord.n:Int) !=(b.ord.n:Int))=true:=by simp;omega
 have D:Hid (allS Ord'.same s.ord t.ord=false):=di (by rw[G.out.ord.1,H.out.ord.1];exact bn)
 have HL:Hid (R=false):=by unfold Hid;rw[←F.out,D.out];simp
 rotate_right
 have l5:((a.ord.n:Int) !=(b.ord.n:Int))=false:=by simp[bn]
 have cd:=hid bn
 clear bn
 cases b4
 have HL:Hid (R=false):=by unfold Hid;rw[←F.out];simp
 rotate_left
 cases b3
 have HL:Hid (R=false):=by unfold Hid;rw[←F.out];simp
 rotate_left
 ·simp only[Bool.not_true,Bool.not_false]at n1 n2 n3 n4
  go_wp2_with (first|(go_at_call 37;(with_reducible refine(H3.out _ ((HX.out.trans f).trans p)).mono ?_);rintro _ w4 ⟨rfl,I⟩;obtain⟨-,-,-,-,-,-,-,-,-,-,-,-,-,-,-,-,-,-,-,an,ax,a0,-⟩:=cls (HB.ext ((f.trans p).trans I));obtain⟨-,-,-,-,-,-,-,-,-,-,-,-,-,-,-,-,-,-,-,a1,a2,a3,-⟩:=cls (HC.ext ((f.trans p).trans I)))|(go_at_call 19;(with_reducible refine(H2.out _ (HX.out.trans f)).mono ?_);rintro _ w3 ⟨rfl,p⟩;obtain⟨-,-,-,-,-,-,-,-,-,-,-,-,-,-,-,-,-,-,ck,an,ax,a0,-⟩:=cls (HB.ext (f.trans p));obtain⟨-,-,-,-,-,-,-,-,-,-,-,-,-,-,-,-,-,-,cp,a1,a2,a3,-⟩:=cls (HC.ext (f.trans p)))|(go_at_call 36;(with_reducible refine(L.out _ (HX.out)).mono ?_);rintro _ w2 ⟨rfl,f⟩;obtain⟨-,-,-,-,-,-,e6,e7,e8,e9,c8,c9,df,ds,dw,dx,d0,d1,ck,an,ax,a0,-⟩:=cls (HB.ext (f));obtain⟨-,-,-,-,-,-,f6,f7,f8,f9,f10,d2,f12,d3,d4,d5,d6,d7,cp,a1,a2,a3,-⟩:=cls (HC.ext (f))))
  have h:=hid (((HX.trans f).trans p).trans I)
  replace HB:=hid (HB.ext ((f.trans p).trans I))
  replace HC:=hid (HC.ext ((f.trans p).trans I))
  clear f p I n1 n2 n3 n4 l1 l2 l3 l4 l5 p0 Z p1 q1 p2 q2 p3 q3 p4 q4 p5 q5 p6 q6 p7 q7 p8 q8 p9 q9 d8 fn d9 fr ee fs el fw es fA e0 f1 e1 f2 e2 f3 e3 f4 e4 ga e5 gb fe gd L H2 H3
  go_loopw [5] (fun iv wr=> ∃(k:Nat),k≤a.vals.n∧iv= .int .i64 k∧STo sameL s.vals t.vals k∧Ext w4 wr) (fun i _=>a.vals.n- (intOf i).toNat)
  case atStart=>exact⟨0,Nat.zero_le _,rfl,STo.zero _ _ _,Ext.refl w4⟩
  case round=>
   obtain⟨k,ba,rfl,hr,e⟩:=hrel
   have l:=hid e
   have B:=hid hr
   have O:=(HB.ext e).cell 6
   have P:=(HC.ext e).cell 6
   simp only[List.getElem?_cons_succ,List.getElem?_cons_zero]at O P
   by_cases X:k<a.vals.n
   ·obtain⟨x,J⟩:=aq G.vals.1 X
    obtain⟨y,K⟩:=aq H.vals.1 (show k<b.vals.n by have:=bN.out;omega)
    have i0:(0:Int)≤(k:Int):=by omega
    have i1:(k:Int)<(a.vals.n:Int):=by omega
    have i2:(k:Int)<(b.vals.n:Int):=by have:=bN.out;omega
    have Y:=hid J
    have o:=hid K
    obtain⟨eb,bw,Ai,ni,ci,Q,Z,c5,c3⟩:=G.vals.2.2 k x J
    obtain⟨a9,ac,Aj,nj,cj,U,s0,c6,c4⟩:=H.vals.2.2 k y K
    rw[Q]at O
    rw[U]at P
    replace Z:=ae.keep ((h.trans e).keep Z)
    replace s0:=ae.keep ((h.trans e).keep s0)
    have a7:=ae.keep O
    have a8:=ae.keep P
    have bx:=G.valn x (List.mem_of_getElem? J)
    have bY:=H.valn y (List.mem_of_getElem? K)
    have L:Hid (∀z:ae wr,Calls Tryz.prog 37 #[.slice Ai ni ci,.slice Aj nj cj] z.now _):=fun z=>iA x y Ai Aj ni nj ci cj z.now c5 c6 (by omega) (by omega) (c3.ext ((h.trans e).trans z.ext)) (c4.ext ((h.trans e).trans z.ext))
    clear J K e hr c5 c6 c3 c4 bx bY
    obtain⟨b0,m⟩:∃b,(sameL x y)=b:=⟨_,rfl⟩
    rw[m]at L
    cases b0
    ·have C:Hid (sameL x y=false):=by exact m
     have D:Hid (allS sameL s.vals t.vals=false):=br Y o C
     go_wp2_with fail
     refine ab (by kernel_rfl) (by kernel_rfl) ?_
     repeat (go_big_quiet_step ((go_at_call 37;with_reducible exact ak (L.out _))))
     refine wpQuiet_nil ?_
     intro w2 f
     have j:=ah f
     clear f
     go_wp2_with fail
     go_ret
     exact⟨aa (by rw[←F.out,D.out];simp),h.trans (l.trans j)⟩
    ·have C:Hid (sameL x y=true):=by exact m
     go_wp2_with fail
     refine ab (by kernel_rfl) (by kernel_rfl) ?_
     repeat (go_big_quiet_step ((go_at_call 37;with_reducible exact ak (L.out _))))
     refine wpQuiet_nil ?_
     intro w2 f
     have j:=ah f
     clear f
     go_wp2_with fail
     go_roundw
     case rel=>exact⟨k+1,by omega,by go_num,B.succ Y o C,l.trans j⟩
     case measure=>simp[intOf];omega
   ·obtain V:k=a.vals.n:=by omega
    subst V
    have cs:Hid (allS sameL s.vals t.vals=true):=dj G.vals.1 (H.vals.1.trans bN.symm) B
    go_wp2_with fail
    go_loopw [6] (fun iv wr=> ∃(k:Nat),k≤a.sets.n∧iv= .int .i64 k∧STo Asg.same s.sets t.sets k∧Ext w4 wr) (fun i _=>a.sets.n- (intOf i).toNat)
    case atStart=>exact⟨0,Nat.zero_le _,rfl,STo.zero _ _ _,l⟩
    case round=>
     obtain⟨k,ba,rfl,hr,e⟩:=hrel
     have l:=hid e
     have B:=hid hr
     have O:=(HB.ext e).cell 7
     have P:=(HC.ext e).cell 7
     simp only[List.getElem?_cons_succ,List.getElem?_cons_zero]at O P
     by_cases X:k<a.sets.n
     ·obtain⟨x,J⟩:=aq G.sets.1 X
      obtain⟨y,K⟩:=aq H.sets.1 (show k<b.sets.n by have:=b6.out;omega)
      have i0:(0:Int)≤(k:Int):=by omega
      have i1:(k:Int)<(a.sets.n:Int):=by omega
      have i2:(k:Int)<(b.sets.n:Int):=by have:=b6.out;omega
      have Y:=hid J
      have o:=hid K
      obtain⟨eb,bw,A1,a5,c1,Q,Z,q1,q2,q3,q4,q5,q6,q7,q8,q9,a4⟩:=eL G.sets.2.2 J
      obtain⟨a9,ac,A2,a6,c2,U,s0,s1,s2,s3,s4,s5,s6,s7,s8,s9,E⟩:=eL H.sets.2.2 K
      rw[Q]at O
      rw[U]at P
      replace Z:=ae.keep ((h.trans e).keep Z)
      replace s0:=ae.keep ((h.trans e).keep s0)
      replace q1:=ae.keep ((h.trans e).keep q1)
      replace s1:=ae.keep ((h.trans e).keep s1)
      replace q2:=ae.keep ((h.trans e).keep q2)
      replace s2:=ae.keep ((h.trans e).keep s2)
      replace q3:=ae.keep ((h.trans e).keep q3)
      replace s3:=ae.keep ((h.trans e).keep s3)
      replace q4:=ae.keep ((h.trans e).keep q4)
      replace s4:=ae.keep ((h.trans e).keep s4)
      replace q5:=ae.keep ((h.trans e).keep q5)
      replace s5:=ae.keep ((h.trans e).keep s5)
      replace q6:=ae.keep ((h.trans e).keep q6)
      replace s6:=ae.keep ((h.trans e).keep s6)
      replace q7:=ae.keep ((h.trans e).keep q7)
      replace s7:=ae.keep ((h.trans e).keep s7)
      replace q8:=ae.keep ((h.trans e).keep q8)
      replace s8:=ae.keep ((h.trans e).keep s8)
      replace q9:=ae.keep ((h.trans e).keep q9)
      replace s9:=ae.keep ((h.trans e).keep s9)
      have a7:=ae.keep O
      have a8:=ae.keep P
      have L:Hid (∀z:ae wr,Calls Tryz.prog 19 #[x.ex.d.val A1 a5 c1,y.ex.d.val A2 a6 c2] z.now _):=fun z=>gQ x.ex y.ex A1 A2 a5 a6 c1 c2 z.now (a4.ext ((h.trans e).trans z.ext)) (E.ext ((h.trans e).trans z.ext))
      unfold Nd.val at L
      clear J K e hr a4 E
      obtain⟨b0,m⟩:∃b,(x.cl.toList==y.cl.toList)=b:=⟨_,rfl⟩
      have nb:(x.cl.toList !=y.cl.toList)=!b0:=by rw[bne,m]
      cases b0
      ·have C:Hid (Asg.same x y=false):=by unfold Hid Asg.same;rw[jf x.cl];simp[←bc,m]
       have D:Hid (allS Asg.same s.sets t.sets=false):=br Y o C
       go_wp2_with fail
       refine ab (by kernel_rfl) (by kernel_rfl) ?_
       repeat (go_big_quiet_step ((go_at_call 19;with_reducible exact ak (L.out _))))
       refine wpQuiet_nil ?_
       intro w2 f
       have j:=ah f
       clear f
       go_wp2_with fail
       go_ret
       exact⟨aa (by rw[←F.out,D.out];simp),h.trans (l.trans j)⟩
      ·obtain⟨b1,u⟩:∃b,(x.ex.same y.ex)=b:=⟨_,rfl⟩
       rw[u]at L
       cases b1
       ·have C:Hid (Asg.same x y=false):=by unfold Hid Asg.same;rw[jf x.cl];simp[←bc,m,u]
        have D:Hid (allS Asg.same s.sets t.sets=false):=br Y o C
        go_wp2_with fail
        refine ab (by kernel_rfl) (by kernel_rfl) ?_
        repeat (go_big_quiet_step ((go_at_call 19;with_reducible exact ak (L.out _))))
        refine wpQuiet_nil ?_
        intro w2 f
        have j:=ah f
        clear f
        go_wp2_with fail
        go_ret
        exact⟨aa (by rw[←F.out,D.out];simp),h.trans (l.trans j)⟩
       ·have C:Hid (Asg.same x y=true):=by unfold Hid Asg.same;rw[jf x.cl];simp[←bc,m,u]
        go_wp2_with fail
        refine ab (by kernel_rfl) (by kernel_rfl) ?_
        repeat (go_big_quiet_step ((go_at_call 19;with_reducible exact ak (L.out _))))
        refine wpQuiet_nil ?_
        intro w2 f
        have j:=ah f
        clear f
        go_wp2_with fail
        go_roundw
        case rel=>exact⟨k+1,by omega,by go_num,B.succ Y o C,l.trans j⟩
        case measure=>simp[intOf];omega
     ·obtain V:k=a.sets.n:=by omega
      subst V
      have cv:Hid (allS Asg.same s.sets t.sets=true):=dj G.sets.1 (H.sets.1.trans b6.symm) B
      go_wp2_with fail
      go_loopw [7] (fun iv wr=> ∃(k:Nat),k≤a.itms.n∧iv= .int .i64 k∧STo Itm.same s.itms t.itms k∧Ext w4 wr) (fun i _=>a.itms.n- (intOf i).toNat)
      case atStart=>exact⟨0,Nat.zero_le _,rfl,STo.zero _ _ _,l⟩
      case round=>
       obtain⟨k,ba,rfl,hr,e⟩:=hrel
       have l:=hid e
       have B:=hid hr
       have O:=(HB.ext e).cell 8
       have P:=(HC.ext e).cell 8
       simp only[List.getElem?_cons_succ,List.getElem?_cons_zero]at O P
       by_cases X:k<a.itms.n
       ·obtain⟨x,J⟩:=aq G.itms.1 X
        obtain⟨y,K⟩:=aq H.itms.1 (show k<b.itms.n by have:=b7.out;omega)
        have i0:(0:Int)≤(k:Int):=by omega
        have i1:(k:Int)<(a.itms.n:Int):=by omega
        have i2:(k:Int)<(b.itms.n:Int):=by have:=b7.out;omega
        have Y:=hid J
        have o:=hid K
        obtain⟨eb,bw,A1,a5,c1,Q,Z,q1,q2,q3,q4,q5,q6,q7,q8,a4⟩:=eM G.itms.2.2 J
        obtain⟨a9,ac,A2,a6,c2,U,s0,s1,s2,s3,s4,s5,s6,s7,s8,E⟩:=eM H.itms.2.2 K
        rw[Q]at O
        rw[U]at P
        replace Z:=ae.keep ((h.trans e).keep Z)
        replace s0:=ae.keep ((h.trans e).keep s0)
        replace q1:=ae.keep ((h.trans e).keep q1)
        replace s1:=ae.keep ((h.trans e).keep s1)
        replace q2:=ae.keep ((h.trans e).keep q2)
        replace s2:=ae.keep ((h.trans e).keep s2)
        replace q3:=ae.keep ((h.trans e).keep q3)
        replace s3:=ae.keep ((h.trans e).keep s3)
        replace q4:=ae.keep ((h.trans e).keep q4)
        replace s4:=ae.keep ((h.trans e).keep s4)
        replace q5:=ae.keep ((h.trans e).keep q5)
        replace s5:=ae.keep ((h.trans e).keep s5)
        replace q6:=ae.keep ((h.trans e).keep q6)
        replace s6:=ae.keep ((h.trans e).keep s6)
        replace q7:=ae.keep ((h.trans e).keep q7)
        replace s7:=ae.keep ((h.trans e).keep s7)
        replace q8:=ae.keep ((h.trans e).keep q8)
        replace s8:=ae.keep ((h.trans e).keep s8)
        have a7:=ae.keep O
        have a8:=ae.keep P
        have L:Hid (∀z:ae wr,Calls Tryz.prog 19 #[x.ex.d.val A1 a5 c1,y.ex.d.val A2 a6 c2] z.now _):=fun z=>gQ x.ex y.ex A1 A2 a5 a6 c1 c2 z.now (a4.ext ((h.trans e).trans z.ext)) (E.ext ((h.trans e).trans z.ext))
        unfold Nd.val at L
        clear J K e hr a4 E
        obtain⟨b0,m⟩:∃b,(x.ag==y.ag)=b:=⟨_,rfl⟩
        have nb:(x.ag !=y.ag)=!b0:=by rw[bne,m]
        cases b0
        ·have C:Hid (Itm.same x y=false):=by unfold Hid Itm.same;simp[←bc,m]
         have D:Hid (allS Itm.same s.itms t.itms=false):=br Y o C
         go_wp2_with fail
         refine ab (by kernel_rfl) (by kernel_rfl) ?_
         repeat (go_big_quiet_step ((go_at_call 19;with_reducible exact ak (L.out _))))
         refine wpQuiet_nil ?_
         intro w2 f
         have j:=ah f
         clear f
         go_wp2_with fail
         go_ret
         exact⟨aa (by rw[←F.out,D.out];simp),h.trans (l.trans j)⟩
        ·obtain⟨b1,u⟩:∃b,(x.ex.same y.ex)=b:=⟨_,rfl⟩
         rw[u]at L
         cases b1
         ·have C:Hid (Itm.same x y=false):=by unfold Hid Itm.same;simp[←bc,m,u]
          have D:Hid (allS Itm.same s.itms t.itms=false):=br Y o C
          go_wp2_with fail
          refine ab (by kernel_rfl) (by kernel_rfl) ?_
          repeat (go_big_quiet_step ((go_at_call 19;with_reducible exact ak (L.out _))))
          refine wpQuiet_nil ?_
          intro w2 f
          have j:=ah f
          clear f
          go_wp2_with fail
          go_ret
          exact⟨aa (by rw[←F.out,D.out];simp),h.trans (l.trans j)⟩
         ·have C:Hid (Itm.same x y=true):=by unfold Hid Itm.same;simp[←bc,m,u]
          go_wp2_with fail
          refine ab (by kernel_rfl) (by kernel_rfl) ?_
          repeat (go_big_quiet_step ((go_at_call 19;with_reducible exact ak (L.out _))))
          refine wpQuiet_nil ?_
          intro w2 f
          have j:=ah f
          clear f
          go_wp2_with fail
          go_roundw
          case rel=>exact⟨k+1,by omega,by go_num,B.succ Y o C,l.trans j⟩
          case measure=>simp[intOf];omega
       ·obtain V:k=a.itms.n:=by omega
        subst V
        have cw:Hid (allS Itm.same s.itms t.itms=true):=dj G.itms.1 (H.itms.1.trans b7.symm) B
        go_wp2_with fail
        go_loopw [8] (fun iv wr=> ∃(k:Nat),k≤a.frm.n∧iv= .int .i64 k∧STo Src.same s.frm t.frm k∧Ext w4 wr) (fun i _=>a.frm.n- (intOf i).toNat)
        case atStart=>exact⟨0,Nat.zero_le _,rfl,STo.zero _ _ _,l⟩
        case round=>
         obtain⟨k,ba,rfl,hr,e⟩:=hrel
         have l:=hid e
         have B:=hid hr
         have O:=(HB.ext e).cell 9
         have P:=(HC.ext e).cell 9
         simp only[List.getElem?_cons_succ,List.getElem?_cons_zero]at O P
         by_cases X:k<a.frm.n
         ·obtain⟨x,J⟩:=aq G.frm.1 X
          obtain⟨y,K⟩:=aq H.frm.1 (show k<b.frm.n by have:=b9.out;omega)
          have i0:(0:Int)≤(k:Int):=by omega
          have i1:(k:Int)<(a.frm.n:Int):=by omega
          have i2:(k:Int)<(b.frm.n:Int):=by have:=b9.out;omega
          have Y:=hid J
          have o:=hid K
          obtain⟨_,eb,bw,Q,Z,q1⟩:=G.frm.2.2 k x J
          obtain⟨_,a9,ac,U,s0,s1⟩:=H.frm.2.2 k y K
          rw[Q]at O
          rw[U]at P
          replace Z:=ae.keep ((h.trans e).keep Z)
          replace s0:=ae.keep ((h.trans e).keep s0)
          replace q1:=ae.keep ((h.trans e).keep q1)
          replace s1:=ae.keep ((h.trans e).keep s1)
          have a7:=ae.keep O
          have a8:=ae.keep P
          clear J K e hr
          obtain⟨x0,x1⟩:=x
          obtain⟨y0,y1⟩:=y
          simp only at*
          obtain⟨b0,m⟩:∃b,(x0.toList==y0.toList)=b:=⟨_,rfl⟩
          cases b0
          ·have C:Hid (Src.same ⟨x0,x1⟩ ⟨y0,y1⟩=false):=by unfold Hid Src.same sN;simp[←bc,m]
           have D:Hid (allS Src.same s.frm t.frm=false):=br Y o C
           go_wp2_with fail
           refine ab (by kernel_rfl) (by kernel_rfl) ?_
           repeat (go_big_quiet_step (fail))
           refine wpQuiet_nil ?_
           intro w2 f
           have j:=ah f
           clear f
           go_wp2_with fail
           go_ret
           exact⟨aa (by rw[←F.out,D.out];simp),h.trans (l.trans j)⟩
          ·obtain⟨b1,u⟩:∃b,(x1.toList==y1.toList)=b:=⟨_,rfl⟩
           cases b1
           ·have C:Hid (Src.same ⟨x0,x1⟩ ⟨y0,y1⟩=false):=by unfold Hid Src.same sN;simp[←bc,m,u]
            have D:Hid (allS Src.same s.frm t.frm=false):=br Y o C
            go_wp2_with fail
            refine ab (by kernel_rfl) (by kernel_rfl) ?_
            repeat (go_big_quiet_step (fail))
            refine wpQuiet_nil ?_
            intro w2 f
            have j:=ah f
            clear f
            go_wp2_with fail
            go_ret
            exact⟨aa (by rw[←F.out,D.out];simp),h.trans (l.trans j)⟩
           ·have C:Hid (Src.same ⟨x0,x1⟩ ⟨y0,y1⟩=true):=by unfold Hid Src.same sN;simp[←bc,m,u]
            go_wp2_with fail
            refine ab (by kernel_rfl) (by kernel_rfl) ?_
            repeat (go_big_quiet_step (fail))
            refine wpQuiet_nil ?_
            intro w2 f
            have j:=ah f
            clear f
            go_wp2_with fail
            go_roundw
            case rel=>exact⟨k+1,by omega,by go_num,B.succ Y o C,l.trans j⟩
            case measure=>simp[intOf];omega
         ·obtain V:k=a.frm.n:=by omega
          subst V
          have cx:Hid (allS Src.same s.frm t.frm=true):=dj G.frm.1 (H.frm.1.trans b9.symm) B
          go_wp2_with fail
          go_loopw [9] (fun iv wr=> ∃(k:Nat),k≤a.ord.n∧iv= .int .i64 k∧STo Ord'.same s.ord t.ord k∧Ext w4 wr) (fun i _=>a.ord.n- (intOf i).toNat)
          case atStart=>exact⟨0,Nat.zero_le _,rfl,STo.zero _ _ _,l⟩
          case round=>
           obtain⟨k,ba,rfl,hr,e⟩:=hrel
           have l:=hid e
           have B:=hid hr
           have O:=(HB.ext e).cell 19
           have P:=(HC.ext e).cell 19
           simp only[List.getElem?_cons_succ,List.getElem?_cons_zero]at O P
           by_cases X:k<a.ord.n
           ·obtain⟨x,J⟩:=aq G.ord.1 X
            obtain⟨y,K⟩:=aq H.ord.1 (show k<b.ord.n by have:=cd.out;omega)
            have i0:(0:Int)≤(k:Int):=by omega
            have i1:(k:Int)<(a.ord.n:Int):=by omega
            have i2:(k:Int)<(b.ord.n:Int):=by have:=cd.out;omega
            have Y:=hid J
            have o:=hid K
            obtain⟨_,eb,bw,Q,Z,q1⟩:=G.ord.2.2 k x J
            obtain⟨_,a9,ac,U,s0,s1⟩:=H.ord.2.2 k y K
            rw[Q]at O
            rw[U]at P
            replace Z:=ae.keep ((h.trans e).keep Z)
            replace s0:=ae.keep ((h.trans e).keep s0)
            replace q1:=ae.keep ((h.trans e).keep q1)
            replace s1:=ae.keep ((h.trans e).keep s1)
            have a7:=ae.keep O
            have a8:=ae.keep P
            clear J K e hr
            obtain⟨x0,x1⟩:=x
            obtain⟨y0,y1⟩:=y
            simp only at*
            obtain⟨b0,m⟩:∃b,(x0==y0)=b:=⟨_,rfl⟩
            cases b0
            ·have C:Hid (Ord'.same ⟨x0,x1⟩ ⟨y0,y1⟩=false):=by unfold Hid Ord'.same;simp[←bc,m]
             have D:Hid (allS Ord'.same s.ord t.ord=false):=br Y o C
             go_wp2_with fail
             refine ab (by kernel_rfl) (by kernel_rfl) ?_
             repeat (go_big_quiet_step (fail))
             refine wpQuiet_nil ?_
             intro w2 f
             have j:=ah f
             clear f
             go_wp2_with fail
             go_ret
             exact⟨aa (by rw[←F.out,D.out];simp),h.trans (l.trans j)⟩
            ·obtain⟨b1,u⟩:∃b,(x1==y1)=b:=⟨_,rfl⟩
             cases b1
             ·have C:Hid (Ord'.same ⟨x0,x1⟩ ⟨y0,y1⟩=false):=by unfold Hid Ord'.same;simp[←bc,m,u]
              have D:Hid (allS Ord'.same s.ord t.ord=false):=br Y o C
              go_wp2_with fail
              refine ab (by kernel_rfl) (by kernel_rfl) ?_
              repeat (go_big_quiet_step (fail))
              refine wpQuiet_nil ?_
              intro w2 f
              have j:=ah f
              clear f
              go_wp2_with fail
              go_ret
              exact⟨aa (by rw[←F.out,D.out];simp),h.trans (l.trans j)⟩
             ·have C:Hid (Ord'.same ⟨x0,x1⟩ ⟨y0,y1⟩=true):=by unfold Hid Ord'.same;simp[←bc,m,u]
              go_wp2_with fail
              refine ab (by kernel_rfl) (by kernel_rfl) ?_
              repeat (go_big_quiet_step (fail))
              refine wpQuiet_nil ?_
              intro w2 f
              have j:=ah f
              clear f
              go_wp2_with fail
              go_roundw
              case rel=>exact⟨k+1,by omega,by go_num,B.succ Y o C,l.trans j⟩
              case measure=>simp[intOf];omega
           ·obtain V:k=a.ord.n:=by omega
            subst V
            have cz:Hid (allS Ord'.same s.ord t.ord=true):=dj G.ord.1 (H.ord.1.trans cd.symm) B
            go_wp2_with fail
            go_ret
            exact⟨aa (by rw[←F.out,cs.out,cv.out,cw.out,cx.out,cz.out];rfl),h.trans l⟩
 all_goals
  simp only[Bool.not_true,Bool.not_false]at n1 n2 n3 n4
  go_wp2_with (first|(go_at_call 37;(with_reducible refine(H3.out _ ((HX.out.trans f).trans p)).mono ?_);rintro _ w4 ⟨rfl,I⟩;obtain⟨-,-,-,-,-,-,-,-,-,-,-,-,-,-,-,-,-,-,-,an,ax,a0,-⟩:=cls (HB.ext ((f.trans p).trans I));obtain⟨-,-,-,-,-,-,-,-,-,-,-,-,-,-,-,-,-,-,-,a1,a2,a3,-⟩:=cls (HC.ext ((f.trans p).trans I)))|(go_at_call 19;(with_reducible refine(H2.out _ (HX.out.trans f)).mono ?_);rintro _ w3 ⟨rfl,p⟩;obtain⟨-,-,-,-,-,-,-,-,-,-,-,-,-,-,-,-,-,-,ck,an,ax,a0,-⟩:=cls (HB.ext (f.trans p));obtain⟨-,-,-,-,-,-,-,-,-,-,-,-,-,-,-,-,-,-,cp,a1,a2,a3,-⟩:=cls (HC.ext (f.trans p)))|(go_at_call 36;(with_reducible refine(L.out _ (HX.out)).mono ?_);rintro _ w2 ⟨rfl,f⟩;obtain⟨-,-,-,-,-,-,e6,e7,e8,e9,c8,c9,df,ds,dw,dx,d0,d1,ck,an,ax,a0,-⟩:=cls (HB.ext (f));obtain⟨-,-,-,-,-,-,f6,f7,f8,f9,f10,d2,f12,d3,d4,d5,d6,d7,cp,a1,a2,a3,-⟩:=cls (HC.ext (f))))
  go_ret
  refine⟨aa ?_,?_⟩
  ·first|(rw[HL.out];done)|(rw[HL.out];simp)
  ·first|exact((HX.trans f).trans p).trans I|exact(HX.trans f).trans p|exact HX.trans f|exact HX
def minL:List Ex→Nat
 | []=>0
 |e::es=>min e.nodes 401+minL es
theorem pC (a b:List Ex):minL (a++b)=minL a+minL b:=by
 induction a with
 |nil=>simp[minL]
 |cons e a ih=>rw[List.cons_append,minL,minL,ih];omega
theorem minL_le (l:List Ex):minL l≤nodesL l:=by
 induction l with
 |nil=>exact Nat.le_refl _
 |cons e l ih=>rw[minL,nodesL];omega
theorem minL_eq {l:List Ex} (h:minL l≤400):minL l=nodesL l:=by
 induction l with
 |nil=>rfl
 |cons e l ih=>rw[minL]at h ⊢;rw[nodesL];have:=ih (by omega);omega
theorem minL_take {l:List Ex} {k:Nat} {e:Ex} (h:l[k]? =some e):minL (l.take (k+1))=minL (l.take k)+min e.nodes 401:=by
 rw[bW h,pC,minL,minL,Nat.add_zero]
theorem minL_part (l:List Ex) (k:Nat):minL (l.take k)≤minL l:=by
 conv=>rhs;rw[←List.take_append_drop k l,pC]
 omega
theorem oh {l:List Ex} {k:Nat} (h:400<minL (l.take k)):largeB l=true:=by
 have:=minL_part l k
 have:=minL_le l
 unfold largeB
 rw[decide_eq_true (show 400<nodesL l by omega)]
 rfl
theorem mI {l:List Ex} {k:Nat} {e:Ex} (h:l[k]? =some e) (hd:50<e.depth):largeB l=true:=by
 unfold largeB
 have:(l.any fun e=>decide (50<e.depth))=true:=List.any_eq_true.2 ⟨e,List.mem_of_getElem? h,by simpa using hd⟩
 rw[this,Bool.or_true]
theorem large_no {l:List Ex} (h:minL l≤400) (hd:(l.any fun e=>decide (50<e.depth))=false):largeB l=false:=by
 unfold largeB
 rw[hd,←minL_eq h,decide_eq_false (by omega)]
 rfl
theorem pD (s:St) (a:SA) (w:World) (hv:StV w s a) (U:s.bulk≤1048576):
  Calls Tryz.prog 35 #[s.val a] w fun r w'=>r= .returned (.int .i64 (validS s))∧Ext w w':=by
 have J:=cZ s U
 have p:=nr s U
 have H1:=hid (fun W (I:Ext w W)=>pv s a W (hv.ext I) p)
 have Q:=hid (fun W (I:Ext w W)=>qJ s a W (hv.ext I) J.1 J.2.2.2)
 have H4:=hid (fun W (I:Ext w W) (hf:s.formed=true) (A:s.Fits)=>nq s a W (hv.ext I) hf A U)
 have h:Hid (validS s=if largeB s.rall=true then 3 else if s.formed=false then 1 else if 16384<s.body.size then 3 else 0):=by unfold Hid;rw[lY];rfl
 have R:Hid (largeB s.rall=false→s.formed=true→s.Fits):=fun z h2=>od h2 (eN (by rw[←lY];exact z))
 have HS:Hid (s.formed=true→s.Fits→s.body.size≤1000000000):=fun z h2=>nt s z h2 U
 have u:=hid (Blk.of_new w 40 (s.cells a))
 have n:=hid ((Ext.refl w).alloc (.cells (s.cells a).toArray 40))
 clear hv U J
 unfold St.val at*
 unfold St.cells Sl.v at*
 generalize validS s=V at*
 go_enter Tryz.func35,Tryz.ntmps35
 go_upto_region 1 with fail
 generalize w.alloc (.cells _ 40)=w1 at*
 generalize w.heap.size=g at*
 go_wp2_with (first|(refine am rfl 40 (.tmp 1) rfl g rfl 40 _ _ u Tryz.underlying40 rfl (by kernel_rfl) ?_)|(go_at_call 46;(with_reducible refine(H1.out _ n.out).mono ?_);rintro _ w2 ⟨A1,c1,rfl,X,K⟩))
 replace u:=hid (u.ext K)
 replace n:=hid (n.trans K)
 have HK:=hid X
 clear X K H1
 obtain⟨l,hl⟩:∃l,s.rall=l:=⟨_,rfl⟩
 rw[hl]at p h R HK ⊢
 clear hl
 obtain⟨L,hL⟩:∃L,l.length=L:=⟨_,rfl⟩
 rw[hL]at p ⊢
 have HL:=hid hL
 clear hL
 go_loopw [4,5] (fun nv iv wr=> ∃(k:Nat),k≤L∧iv= .int .i64 k∧nv= .int .i64 ((minL (l.take k):Nat):Int)∧minL (l.take k)≤801∧Ext w2 wr) (fun _ i _=>L- (intOf i).toNat)
 case atStart=>exact⟨0,Nat.zero_le _,rfl,rfl,by simp[minL],Ext.refl _⟩
 case round=>
  obtain⟨k,a3,rfl,rfl,hm,D⟩:=hrel
  have G:=hid D
  by_cases ac:minL (l.take k)≤400
  ·have ad:decide (((minL (l.take k):Nat):Int)≤400)=true:=by simp;omega
   have E:decide ((400:Int)<((minL (l.take k):Nat):Int))=false:=by simp;omega
   by_cases Y:k<L
   ·obtain⟨x,F⟩:=aq HL Y
    obtain⟨b,a0,Ai,ni,ci,rfl,q0,q1,q2,q3,q4,q5,q6,q7,z⟩:=(HK.ext D).get F
    have P:Hid (Calls Tryz.prog 73 #[x.d.val Ai ni ci,.int .i64 400] wr fun r w'=>r= .returned (.int .i64 ((min x.nodes 401:Nat):Int))∧Ext wr w'):=ph x Ai ni ci 400 wr z (by omega)
    have HT:=hid (minL_take F)
    have an:minL (l.take k)+min x.nodes 401≤801:=by omega
    clear F D z
    unfold Nd.val at P
    generalize minL (l.take k)=m at*
    generalize min x.nodes 401=mx at*
    go_wp2_with (go_at_call 73;(with_reducible refine P.out.mono ?_);rintro _ w3 ⟨rfl,t⟩)
    go_roundw
    case rel=>exact⟨k+1,by omega,by go_num,by rw[HT.out];go_num,by rw[HT.out];exact an,G.trans t⟩
    case measure=>simp[intOf];omega
   ·obtain rfl:k=L:=by omega
    rw[List.take_of_length_le (Nat.le_of_eq HL)]at ac ad E hm ⊢
    have HM:=hid ac
    clear hm
    go_wp2_with fail
    clear D
    go_loopw [6] (fun iv wr=> ∃(j:Nat),j≤k∧iv= .int .i64 j∧(l.take j).any (fun e=>decide (50<e.depth))=false∧Ext w2 wr) (fun i _=>k- (intOf i).toNat)
    case atStart=>exact⟨0,Nat.zero_le _,rfl,rfl,G⟩
    case round=>
     obtain⟨j,a2,rfl,hd,C⟩:=hrel
     have y:=hid C
     have HD:=hid hd
     clear hd
     by_cases Z:j<k
     ·obtain⟨x,F⟩:=aq HL Z
      obtain⟨b,a0,Ai,ni,ci,rfl,q0,q1,q2,q3,q4,q5,q6,q7,z⟩:=(HK.ext C).get F
      have ag:x.nodes≤400:=by have:=lS (List.mem_of_getElem? F);rw[←minL_eq HM.out]at this;omega
      have P:=hid (ll x Ai ni ci wr z (by omega))
      have HE:=hid F
      have a1:x.depth≤400:=Nat.le_trans ((dq [x]).2 x (by simp)) ag
      clear F C z ag
      unfold Nd.val at P
      by_cases hd:50<x.depth
      ·have ax:decide ((50:Int)<(x.depth:Int))=true:=by simp;omega
       have o:=h.out
       rw[mI HE.out hd,if_pos rfl]at o
       subst o
       clear hd
       generalize x.depth=dx at*
       go_wp2_with (go_at_call 74;(with_reducible refine P.out.mono ?_);rintro _ w3 ⟨rfl,t⟩)
       go_ret
       exact⟨rfl,n.trans (y.trans t)⟩
      ·have ax:decide ((50:Int)<(x.depth:Int))=false:=by simp;omega
       have HP:Hid ((l.take (j+1)).any (fun e=>decide (50<e.depth))=false):=by unfold Hid;rw[bW HE.out,List.any_append,HD.out];simpa using hd
       clear hd
       generalize x.depth=dx at*
       go_wp2_with (go_at_call 74;(with_reducible refine P.out.mono ?_);rintro _ w3 ⟨rfl,t⟩)
       go_roundw
       case rel=>exact⟨j+1,by omega,by go_num,HP,y.trans t⟩
       case measure=>simp[intOf];omega
     ·obtain rfl:j=k:=by omega
      rw[List.take_of_length_le (Nat.le_of_eq HL)]at HD
      have B:=large_no HM HD
      rw[B]at h
      simp only[Bool.false_eq_true,if_false]at h
      replace u:=hid (u.ext y)
      replace n:=hid (n.trans y)
      clear C
      cases A:s.formed
      ·rw[A]at Q h
       simp only[if_true]at h
       have o:=h.out
       subst o
       clear H4 HS h R B A
       go_wp2_with (first|(refine am rfl 40 (.tmp 1) rfl g rfl 40 _ _ u Tryz.underlying40 rfl (by kernel_rfl) ?_)|(go_at_call 75;(with_reducible refine(Q.out _ n.out).mono ?_);rintro _ w4 ⟨rfl,f⟩))
       go_ret
       exact⟨rfl,n.trans f⟩
      ·have H:=R B A
       have hz:=HS A H
       have H5:=hid (fun W (I:Ext w W)=>H4 W I A H)
       rw[A]at Q h
       simp only[Bool.true_eq_false,if_false]at h
       clear H4 HS R B A H
       generalize s.body=TB at*
       by_cases hs:16384<TB.size
       ·rw[if_pos hs]at h
        have o:=h.out
        subst o
        have hd:decide ((16384:Int)<(TB.size:Int))=true:=by simp;omega
        clear h
        go_wp2_with (first|(refine am rfl 40 (.tmp 1) rfl g rfl 40 _ _ u Tryz.underlying40 rfl (by kernel_rfl) ?_)|(refine am rfl 40 (.tmp 1) rfl g rfl 40 _ _ (u.ext f) Tryz.underlying40 rfl (by kernel_rfl) ?_)|(go_at_call 75;(with_reducible refine(Q.out _ n.out).mono ?_);rintro _ w4 ⟨rfl,f⟩)|(go_at_call 49;(with_reducible refine(H5.out _ (n.out.trans f)).mono ?_);rintro _ w5 ⟨rfl,O⟩))
        go_ret
        exact⟨rfl,n.trans (f.trans O)⟩
       ·rw[if_neg hs]at h
        have o:=h.out
        subst o
        have hd:decide ((16384:Int)<(TB.size:Int))=false:=by simp;omega
        clear h
        go_wp2_with (first|(refine am rfl 40 (.tmp 1) rfl g rfl 40 _ _ u Tryz.underlying40 rfl (by kernel_rfl) ?_)|(refine am rfl 40 (.tmp 1) rfl g rfl 40 _ _ (u.ext f) Tryz.underlying40 rfl (by kernel_rfl) ?_)|(go_at_call 75;(with_reducible refine(Q.out _ n.out).mono ?_);rintro _ w4 ⟨rfl,f⟩)|(go_at_call 49;(with_reducible refine(H5.out _ (n.out.trans f)).mono ?_);rintro _ w5 ⟨rfl,O⟩))
        go_ret
        exact⟨rfl,n.trans (f.trans O)⟩
  ·have ad:decide (((minL (l.take k):Nat):Int)≤400)=false:=by simp;omega
   have E:decide ((400:Int)<((minL (l.take k):Nat):Int))=true:=by simp;omega
   have o:=h.out
   rw[oh (k:=k) (by omega),if_pos rfl]at o
   subst o
   generalize minL (l.take k)=m at*
   clear h R
   by_cases Y:k<L
   all_goals
    go_wp2_with fail
    go_ret
    exact⟨rfl,n.trans G⟩
theorem qL (s:St) (a:SA) (w:World) (n:StV w s a) (m:s.bulk≤1048576):
  Calls Tryz.prog 24 #[s.val a] w fun r w'=>r= .returned (.tuple #[.string (textS s),.int .i64 (validS s)])∧Ext w w':=by
 have p:=hid (fun W (i:Ext w W)=>pD s a W (n.ext i) m)
 have k:=hid (fun W (i:Ext w W) (h:validS s=0)=>nq s a W (n.ext i) (je h).1 (je h).2 m)
 have j:Hid (textS s=if validS s=0 then s.body else ⟨#[]⟩):=rfl
 have l:=hid (Blk.of_new w 40 (s.cells a))
 have e:=hid ((Ext.refl w).alloc (.cells (s.cells a).toArray 40))
 clear n m
 unfold St.val at*
 unfold St.cells Sl.v at*
 generalize textS s=T at*
 generalize s.body=x at*
 generalize validS s=V at*
 go_enter Tryz.func24,Tryz.ntmps24
 go_upto_region 1 with fail
 generalize w.alloc (.cells _ 40)=y at*
 generalize w.heap.size=g at*
 by_cases h:V=0
 ·subst h
  have f:=j.out
  simp only[if_true]at f
  subst f
  have t:=hid (fun W (i:Ext w W)=>k W i rfl)
  clear k j
  go_wp2_with (first|(refine am rfl 40 (.tmp 1) rfl g rfl 40 _ _ l Tryz.underlying40 rfl (by kernel_rfl) ?_)|(refine am rfl 40 (.tmp 1) rfl g rfl 40 _ _ (l.ext b) Tryz.underlying40 rfl (by kernel_rfl) ?_)|(go_at_call 35;(with_reducible refine(p.out _ e.out).mono ?_);rintro _ u ⟨rfl,b⟩)|(go_at_call 49;(with_reducible refine(t.out _ (e.out.trans b)).mono ?_);rintro _ z ⟨rfl,o⟩))
  go_ret2
  exact⟨rfl,e.trans (b.trans o)⟩
 ·have f:=j.out
  rw[if_neg h]at f
  subst f
  have hd:(V !=0)=true:=by simpa using h
  clear k j h
  go_wp2_with (first|(refine am rfl 40 (.tmp 1) rfl g rfl 40 _ _ l Tryz.underlying40 rfl (by kernel_rfl) ?_)|(go_at_call 35;(with_reducible refine(p.out _ e.out).mono ?_);rintro _ u ⟨rfl,b⟩))
  go_ret2
  exact⟨rfl,e.trans b⟩
end Go.Proofs.YtjigcpfjhfoheaaGreatDoor
