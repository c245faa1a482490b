/- Walks: a well-formed statement; Walks: the texts of the elements of lists; exprs and where; Walks: where, and the elements of a definition. -/
import Derived.Test.YtjigcpfjhfoheaaGreatDoorRbc
import Derived.Test.YtjigcpfjhfoheaaGreatDoorRae
import Derived.Test.YtjigcpfjhfoheaaGreatDoorRbb
import Derived.Test.YtjigcpfjhfoheaaGreatDoorRaj
import Derived.Deep.RegionHeldLaw
namespace Go.Proofs.YtjigcpfjhfoheaaGreatDoor
open Go.RowKit
set_option maxHeartbeats 4000000
set_option maxRecDepth 100000
set_option linter.unusedVariables false
set_option linter.unusedSimpArgs false
theorem f5 (a f e nd ne b:Bool):((a==!f) && (!a||e) && (nd==!ne) && (!nd||b))=!((a !=!f)||(a&&!e)||(nd !=!ne)||(nd&&!b)):=by
 cases a<;>cases f<;>cases e<;>cases nd<;>cases ne<;>cases b<;>rfl
theorem f8 (a e b:Bool):(a||e&&b)=!(!a&& (!e||!b)):=by cases a<;>cases e<;>cases b<;>rfl
theorem f10 (a e b v g s h f:Bool):((a==!e) && (b==v) && (g==s) && (h==f))=!((a !=!e)||(b !=v)||(g !=s)||(h !=f)):=by
 cases a<;>cases e<;>cases b<;>cases v<;>cases g<;>cases s<;>cases h<;>cases f<;>rfl
theorem f12 (a z l:Bool):(a||z&&l)=!(!a&& (!z||!l)):=by cases a<;>cases z<;>cases l<;>rfl
theorem mG (s:St) (a:SA) (w:World) (L:Sh w) (h:StV w s a) (hb:s.cols.length+s.keys.length+s.frs.length+s.chk.length≤1048576) (bw:s.itms.length+s.grp.length+s.ord.length≤1048576):
  Calls Tryz.prog 64 #[s.val a] w fun r w'=>r= .returned (.bool s.formed)∧Ext w w':=by
 have H1:=hid (fun W (k:Ext w W)=>name_any s.tb W (L.ext k) h.tb)
 have H2:=hid (fun W (k:Ext w W)=>name_any s.nm W (L.ext k) h.nm)
 have H3:=hid (fun W (k:Ext w W)=>iw s.whr a.whr.A a.whr.n a.whr.c W (h.whr.ext k))
 have H4:=hid (fun W (k:Ext w W)=>dA s.whr a.whr.A a.whr.n a.whr.c W (h.whr.ext k) (L.ext k))
 have H5:=hid (fun W (k:Ext w W)=>nc s a W (h.ext k) hb)
 have H6:=hid (fun W (k:Ext w W)=>def_any s a W (L.ext k) (h.ext k) hb)
 have H7:=hid (fun W (k:Ext w W)=>wr_row 120 ent_row rowOk s.vals a.vals.A a.vals.n a.vals.c W h.vals.1 h.vals.2.1 (h.vals.2.2.ext k) fun x hx W2 U Ai ni ci hc=>rowok_any x Ai ni ci W2 (L.ext (k.trans U)) (by have:=h.valn x hx;omega) hc)
 have H8:=hid (fun W (k:Ext w W)=>wr_asg 123 ent_asg Asg.ok s.sets a.sets.A a.sets.n a.sets.c W h.sets.1 h.sets.2.1 (h.sets.2.2.ext k) fun x hx W2 U Ai ni ci hc=>asgok_any x Ai ni ci W2 (L.ext (k.trans U)) (by obtain⟨i,hi,rfl⟩:=List.getElem_of_mem hx;exact(h.sets.2.2 i _ (List.getElem?_eq_getElem hi)).1.1) hc)
 have H9:=hid (fun W (k:Ext w W)=>query_any s a W (L.ext k) (h.ext k))
 simp only[gR]at H7 H8
 have l:=hid (Blk.of_new w 40 (s.cells a))
 have P:=hid ((Ext.refl w).alloc (.cells (s.cells a).toArray 40))
 obtain⟨R,G⟩:∃R,s.formed=R:=⟨_,rfl⟩
 rw[G]
 unfold St.formed at G
 dsimp only at G
 rw[h.vals.1,h.sets.1,h.frm.1,h.itms.1,h.grp.1,h.ord.1]at G
 rw[h.itms.1,h.grp.1,h.ord.1]at bw
 simp only[←beq_iff_eq (a:=s.kd)]at G
 clear L h hb
 unfold St.val at*
 unfold St.cells Sl.v at*
 unfold Nd.val at H3 H4
 generalize s.whr.absent=ba at*
 generalize s.whr.formed=bf at*
 generalize nameB s.tb=bn at*
 generalize nameB s.nm=bm at*
 generalize s.noDef=e0 at*
 generalize s.defOk=q1 at*
 generalize s.vals.all rowOk=q2 at*
 generalize s.sets.all Asg.ok=q3 at*
 generalize s.qOk=q5 at*
 obtain⟨te,b7⟩:∃b,s.tb.toList.isEmpty=b:=⟨_,rfl⟩
 obtain⟨ne,b5⟩:∃b,s.nm.toList.isEmpty=b:=⟨_,rfl⟩
 obtain⟨X,b6⟩:∃b,decide (s.kd≤4)=b:=⟨_,rfl⟩
 obtain⟨c1,bx⟩:∃b,decide (s.kd<1)=b:=⟨_,rfl⟩
 obtain⟨c2,bN⟩:∃b,decide (11<s.kd)=b:=⟨_,rfl⟩
 have d1:decide (1≤s.kd)=!c1:=by rw[←bx,Bool.eq_iff_iff];simp
 have d2:decide (s.kd≤11)=!c2:=by rw[←bN,Bool.eq_iff_iff];simp
 obtain⟨Y,bY⟩:∃b,(s.kd==1)=b:=⟨_,rfl⟩
 obtain⟨Z,b0⟩:∃b,(s.kd==2)=b:=⟨_,rfl⟩
 obtain⟨H,b1⟩:∃b,(s.kd==3)=b:=⟨_,rfl⟩
 obtain⟨k4,b2⟩:∃b,(s.kd==4)=b:=⟨_,rfl⟩
 obtain⟨o,I⟩:∃b,(s.kd==5)=b:=⟨_,rfl⟩
 obtain⟨n9,b4⟩:∃b,(s.kd==9)=b:=⟨_,rfl⟩
 obtain⟨D,ag⟩:∃b,(s.kd==10)=b:=⟨_,rfl⟩
 obtain⟨E,an⟩:∃b,(s.kd==11)=b:=⟨_,rfl⟩
 obtain⟨v0,a0⟩:∃b,decide (0<a.vals.n)=b:=⟨_,rfl⟩
 obtain⟨s0,ax⟩:∃b,decide (0<a.sets.n)=b:=⟨_,rfl⟩
 obtain⟨f0,ac⟩:∃b,decide (0<a.frm.n)=b:=⟨_,rfl⟩
 obtain⟨z0,a1⟩:∃b,decide (a.itms.n+a.grp.n+a.ord.n=0)=b:=⟨_,rfl⟩
 obtain⟨l0,ad⟩:∃b,(s.lim==0)=b:=⟨_,rfl⟩
 rw[b7,b5,b6,d1,d2,bY,b0,b1,b2,I,b4,ag,an,a0,ax,ac,a1,ad]at G
 replace G:(!(c1||c2) &&!((X !=!te)||(X&&!bn)||((n9||D||E) !=!ne)||((n9||D||E) &&!bm)) &&!(!ba&& (!(H||k4||o)||!bf)) &&!((Y !=!e0)||(Z !=v0)||(H !=s0)||(o !=f0)) &&!(!o&& (!z0||!l0)) && (if Y=true then q1 else if Z=true then q2 else if H=true then q3 else if o=true then q5 else true))=R:=by
  rw[←G,←f5,←f8,←f10,←f12,Bool.not_or]
  simp only[Bool.and_assoc]
 have F:=hid G
 clear G d1 d2
 have cH:(s.kd !=5)=!o:=by rw[bne,I]
 have c0:(s.lim !=0)=!l0:=by rw[bne,ad]
 go_enter Tryz.func64,Tryz.ntmps64
 go_upto_region 1 with fail
 generalize w.alloc (.cells _ 40)=w1 at*
 generalize w.heap.size=g at*
 have V:=(l).cell 0
 have p1:=(l).cell 1
 have K:=(l).cell 20
 have bd:=(l).cell 21
 have a2:=(l).cell 10
 have a3:=(l).cell 11
 have a4:=(l).cell 12
 have a5:=(l).cell 13
 have a6:=(l).cell 14
 have a7:=(l).cell 15
 have a8:=(l).cell 16
 have a9:=(l).cell 17
 simp only[List.getElem?_cons_succ,List.getElem?_cons_zero]at V p1 K bd a2 a3 a4 a5 a6 a7 a8 a9
 go_cut [13] from 6 to 12 (fun p t=>p= .bool (c1||c2)∧w1=t)
 case first=>
  cases c1<;>cases c2
  all_goals
   go_wp2_with fail
   go_meet
   exact⟨rfl,rfl⟩
 case rest=>
  obtain⟨rfl,rfl⟩:=hcut
  generalize (c1||c2)=C1 at*
  cases C1
  ·go_upto_region 4 with fail
   go_cut [4] from 17 to 29 (fun p t=>p= .bool (n9||D||E)∧w1=t)
   case first=>
    cases n9<;>cases D<;>cases E
    all_goals
     go_wp2_with fail
     go_meet
     exact⟨rfl,rfl⟩
   case rest=>
    obtain⟨rfl,rfl⟩:=hcut
    generalize (n9||D||E)=nd at*
    go_upto_region 5 with fail
    go_cut [59] from 30 to 58 (fun p t=>p= .bool ((X !=!te)||(X&&!bn)||(nd !=!ne)||(nd&&!bm))∧w1=t)
    case first=>
     cases X<;>cases te<;>cases bn<;>cases nd<;>cases ne<;>cases bm
     all_goals
      go_wp2_with (first|(go_at_call 115;(with_reducible refine(H1.out _ P.out).mono ?_);rintro _ _ ⟨rfl,rfl⟩)|(go_at_call 115;(with_reducible refine(H2.out _ P.out).mono ?_);rintro _ _ ⟨rfl,rfl⟩))
      go_meet
      exact⟨rfl,rfl⟩
    case rest=>
     obtain⟨rfl,rfl⟩:=hcut
     generalize ((X !=!te)||(X&&!bn)||(nd !=!ne)||(nd&&!bm))=C5 at*
     cases C5
     ·go_upto_region 7 with fail
      go_cut [5] from 60 to 72 (fun p t=>p= .bool (H||k4||o)∧w1=t)
      case first=>
       cases H<;>cases k4<;>cases o
       all_goals
        go_wp2_with fail
        go_meet
        exact⟨rfl,rfl⟩
      case rest=>
       obtain⟨rfl,rfl⟩:=hcut
       generalize (H||k4||o)=cd at*
       go_upto_region 8 with fail
       go_cut [86] from 73 to 85 (fun p t=>p= .bool (!ba&& (!cd||!bf))∧Ext w1 t)
       case first=>
        cases ba<;>cases cd
        all_goals
         go_wp2_with (first|(go_at_call 116;(with_reducible refine(H3.out _ P.out).mono ?_);rintro _ w2 ⟨rfl,J⟩;obtain⟨-,-,-,-,-,-,-,-,-,-,cj,ck,cl,cp,cs,cw,cx,cz,-⟩:=cls (l.ext J))|(go_at_call 79;(with_reducible refine(H4.out _ (P.out.trans J)).mono ?_);rintro _ w3 ⟨rfl,b9⟩))
         go_meet
         first|exact⟨rfl,J.trans b9⟩|exact⟨rfl,J⟩
       case rest=>
        obtain⟨rfl,m⟩:=hcut
        generalize wc=wa at*
        have Q:=hid (P.trans m)
        replace l:=hid (l.ext m)
        clear m V p1 K bd a2 a3 a4 a5 a6 a7 a8 a9 H1 H2 H3 H4
        generalize (!ba&& (!cd||!bf))=C8 at*
        cases C8
        ·have V:=l.cell 0
         simp only[List.getElem?_cons_zero]at V
         go_upto_region 10 with fail
         go_cut [124] from 87 to 123 (fun p t=>p= .bool ((Y !=!e0)||(Z !=v0)||(H !=s0)||(o !=f0))∧Ext wa t)
         case first=>
          have HE:Hid (∀z:ae wa,Calls Tryz.prog 117 _ z.now _):=fun z=>H5 z.now (Q.trans z.ext)
          have c5:decide ((0:Int)<(a.vals.n:Int))=v0:=by rw[←a0];simp
          have c4:decide ((0:Int)<(a.sets.n:Int))=s0:=by rw[←ax];simp
          have c3:decide ((0:Int)<(a.frm.n:Int))=f0:=by rw[←ac];simp
          obtain⟨y1,u⟩:∃b,(Y==!e0)=b:=⟨_,rfl⟩
          obtain⟨y2,y⟩:∃b,(Z==v0)=b:=⟨_,rfl⟩
          obtain⟨y3,B⟩:∃b,(H==s0)=b:=⟨_,rfl⟩
          obtain⟨y4,C⟩:∃b,(o==f0)=b:=⟨_,rfl⟩
          obtain⟨r0,-,r2,r3,r4,r5,r6,r7,-,r9,-⟩:=lks l
          cases y1
          ·refine ab (by kernel_rfl) (by kernel_rfl) ?_
           repeat (go_big_quiet_step ((go_at_call 117;with_reducible exact ak (HE.out _))))
           refine wpQuiet_nil ?_
           intro O f
           have e:=ah f
           clear f
           go_wp2_with fail
           go_meet
           exact⟨by simp only[bne,u,y,B,C] <;>rfl,e⟩
          ·cases y2
           ·refine ab (by kernel_rfl) (by kernel_rfl) ?_
            repeat (go_big_quiet_step ((go_at_call 117;with_reducible exact ak (HE.out _))))
            refine wpQuiet_nil ?_
            intro O f
            have e:=ah f
            clear f
            go_wp2_with fail
            go_meet
            exact⟨by simp only[bne,u,y,B,C] <;>rfl,e⟩
           ·cases y3
            ·refine ab (by kernel_rfl) (by kernel_rfl) ?_
             repeat (go_big_quiet_step ((go_at_call 117;with_reducible exact ak (HE.out _))))
             refine wpQuiet_nil ?_
             intro O f
             have e:=ah f
             clear f
             go_wp2_with fail
             go_meet
             exact⟨by simp only[bne,u,y,B,C] <;>rfl,e⟩
            ·cases y4
             ·refine ab (by kernel_rfl) (by kernel_rfl) ?_
              repeat (go_big_quiet_step ((go_at_call 117;with_reducible exact ak (HE.out _))))
              refine wpQuiet_nil ?_
              intro O f
              have e:=ah f
              clear f
              go_wp2_with fail
              go_meet
              exact⟨by simp only[bne,u,y,B,C] <;>rfl,e⟩
             ·refine ab (by kernel_rfl) (by kernel_rfl) ?_
              repeat (go_big_quiet_step ((go_at_call 117;with_reducible exact ak (HE.out _))))
              refine wpQuiet_nil ?_
              intro O f
              have e:=ah f
              clear f
              go_wp2_with fail
              go_meet
              exact⟨by simp only[bne,u,y,B,C] <;>rfl,e⟩
         case rest=>
          obtain⟨rfl,m⟩:=hcut
          generalize wc=wb at*
          have j:=hid (Q.trans m)
          replace l:=hid (l.ext m)
          clear m V H5
          generalize ((Y !=!e0)||(Z !=v0)||(H !=s0)||(o !=f0))=C10 at*
          cases C10
          ·obtain⟨V,-,p2,p3,p4,p5,p6,p7,p8,-,-,-,-,-,-,-,-,-,cb,cc,K,-⟩:=cls (l)
           go_upto_region 12 with fail
           have c6:decide ((0:Int)<(a.itms.n:Int)+(a.grp.n:Int)+(a.ord.n:Int))=!z0:=by rw[←a1,Bool.eq_iff_iff];simp;omega
           go_cut [146] from 125 to 145 (fun p t=>p= .bool (!o&& (!z0||!l0))∧wb=t)
           case first=>
            cases o<;>cases z0<;>cases l0
            all_goals
             go_wp2_with fail
             go_meet
             exact⟨rfl,rfl⟩
           case rest=>
            obtain⟨rfl,rfl⟩:=hcut
            generalize (!o&& (!z0||!l0))=be at*
            cases be
            ·cases Y
             ·cases Z
              ·cases H
               ·cases o
                ·go_wp2_with fail
                 go_ret
                 exact⟨aa (by rw[←F.out];simp),j⟩
                ·go_upto_region 21 with fail
                 have b3:decide (s.kd=5)=true:=by simpa using I
                 clear I
                 clear V p2 p3 p4 p5 p6 p7 p8 cb cc K
                 go_upto_region 22 with fail
                 rotate_left
                 ·exfalso
                  have e5:= ‹(s.kd==5)=false›
                  rw[of_decide_eq_true b3]at e5
                  cases e5
                 go_wp2_with (first|(refine am rfl 40 (.tmp 1) rfl g rfl 40 _ _ l Tryz.underlying40 rfl (by kernel_rfl) ?_)|(go_at_call 124;(with_reducible refine(H9.out _ j.out).mono ?_);rintro _ O ⟨rfl,e⟩))
                 go_ret
                 exact⟨aa (by rw[←F.out];simp),j.trans e⟩
               ·go_wp2_with (go_at_call 122;(with_reducible refine(H8.out _ j.out).mono ?_);rintro _ O ⟨rfl,e⟩)
                go_ret
                exact⟨aa (by rw[←F.out];simp),j.trans e⟩
              ·go_wp2_with (go_at_call 119;(with_reducible refine(H7.out _ j.out).mono ?_);rintro _ O ⟨rfl,e⟩)
               go_ret
               exact⟨aa (by rw[←F.out];simp),j.trans e⟩
             ·go_wp2_with (go_at_call 118;(with_reducible refine(H6.out _ j.out).mono ?_);rintro _ O ⟨rfl,e⟩)
              go_ret
              exact⟨aa (by rw[←F.out];simp),j.trans e⟩
            ·go_wp2_with fail
             go_ret
             exact⟨aa (by rw[←F.out];simp),j⟩
          ·go_wp2_with fail
           go_ret
           exact⟨aa (by rw[←F.out];simp),j⟩
        ·go_wp2_with fail
         go_ret
         exact⟨aa (by rw[←F.out];simp),Q⟩
     ·go_wp2_with fail
      go_ret
      exact⟨aa (by rw[←F.out];simp),P⟩
  ·go_wp2_with fail
   go_ret
   exact⟨aa (by rw[←F.out];simp),P⟩
theorem exs1_any (x:Ex) (A:Option Addr) (n c:Nat) (w:World) (f:Gd w) (g:ExV w x A n c) (e:x.formed=true) (hs:x.size≤1000):
  Calls Tryz.prog 205 #[x.d.val A n c] w fun r w'=>r= .returned (.string (x.tx 1))∧Ext w w':=by
 have h:=hid (fun W (b:Ext w W)=>gg x 1 A n c W (g.ext b) e hs (f.ext b))
 clear f g e hs
 unfold Nd.val at*
 generalize x.tx 1=T at*
 generalize x.d=d at*
 obtain⟨op,tb,nm,ix,vk,vi,vt⟩:=d
 simp only at*
 go_enter Tryz.func205,Tryz.ntmps205
 go_wp2_with (go_at_call 131;refine(h _ ((Ext.refl w).alloc _)).mono ?_;rintro _ i ⟨rfl,a⟩)
 go_ret
 exact⟨rfl,((Ext.refl w).alloc _).trans a⟩
theorem ent_exs1:Ent 205:=fun _ _=>by kernel_rfl
theorem nf (l:List Ex) (A:Option Addr) (n c:Nat) (w:World) (g:Gd w) (i:l.length=n) (h:KidsAt w A l) (b:l.all Ex.formed=true) (hs:sizeL l≤1000):
  Calls Tryz.prog 128 #[.slice A n c] w fun r w'=>r= .returned (.string (exsT l))∧Ext w w':=by
 have t:l.length≤sizeL l:=by rw[←fE];exact bG (fun a=>cJ a) l
 have m:=hid (ls_ex 205 ent_exs1 (fun e=>e.tx 1) l A n c w i (by omega) h (Nat.le_trans (eq b) (by omega)) fun x j W p k u o s=>exs1_any x k u o W (g.ext p) s (List.all_eq_true.1 b x j) (Nat.le_trans (dU j) hs))
 unfold exsT
 generalize cma (l.map fun e=>e.tx 1)=T at*
 clear g i h b hs t
 go_enter Tryz.func128,Tryz.ntmps128
 go_wp2_with (go_at_call 204;refine m.mono ?_;rintro _ y ⟨rfl,f⟩)
 go_ret
 exact⟨rfl,f⟩
theorem rowt_any (l:List Ex) (A:Option Addr) (n c:Nat) (w:World) (e:Gd w) (g:l.length=n) (f:KidsAt w A l) (a:l.all Ex.formed=true) (hs:sizeL l≤1000):
  Calls Tryz.prog 127 #[.slice A n c] w fun r w'=>r= .returned (.string (cM l))∧Ext w w':=by
 have h:=hid (nf l A n c w e g f a hs)
 have i:(exsT l).size≤100000:=Nat.le_trans (aK _) (Nat.le_trans (eq a) (by omega))
 unfold cM
 generalize exsT l=T at*
 clear e g f a hs
 go_enter Tryz.func127,Tryz.ntmps127
 go_wp2_with (go_at_call 128;refine h.mono ?_;rintro _ j ⟨rfl,b⟩)
 go_ret
 exact⟨rfl,b⟩
theorem ent_rowt:Ent 127:=fun _ _=>by kernel_rfl
theorem asgt_any (x:Asg) (A:Option Addr) (n c:Nat) (w:World) (i:Gd w) (s:x.cl.size≤1000) (j:ExV w x.ex A n c) (b:x.ex.formed=true) (hs:x.ex.size≤1000):
  Calls Tryz.prog 130 #[.agg #[.string x.cl,.int .i64 x.ix,.int .i64 x.ex.d.op,.string x.ex.d.tb,.string x.ex.d.nm,.int .i64 x.ex.d.ix,.int .i64 x.ex.d.vk,.int .i64 x.ex.d.vi,.string x.ex.d.vt,.slice A n c]] w fun r w'=>r= .returned (.string x.tx)∧Ext w w':=by
 have m:=hid (fun W (h:Ext w W)=>gg x.ex 1 A n c W (j.ext h) b hs (i.ext h))
 have o:(x.ex.tx 1).size≤100000:=by have:=bJ x.ex 1 b;omega
 unfold Asg.tx
 clear i j b hs
 unfold Nd.val at*
 generalize x.ex.tx 1=T at*
 generalize x.ex.d=d at*
 obtain⟨op,tb,nm,ix,vk,vi,vt⟩:=d
 simp only at*
 have l:=hid (Blk.of_new w 82 [.string x.cl,.int .i64 x.ix,.int .i64 op,.string tb,.string nm,.int .i64 ix,.int .i64 vk,.int .i64 vi,.string vt,.slice A n c])
 have f:=hid ((Ext.refl w).alloc (.cells #[.string x.cl,.int .i64 x.ix,.int .i64 op,.string tb,.string nm,.int .i64 ix,.int .i64 vk,.int .i64 vi,.string vt,.slice A n c] 82))
 go_enter Tryz.func130,Tryz.ntmps130
 go_wp2_with fail
 generalize w.alloc (.cells _ 82)=p at*
 generalize w.heap.size=g at*
 have k:Hid (∀z:ae p,Calls Tryz.prog 131 _ z.now _):=fun z=>m z.now (f.trans z.ext)
 obtain⟨t,-,u,y,B,C,D,E,F,G,-⟩:=lks l
 refine ab (by kernel_rfl) (by kernel_rfl) ?_
 repeat (go_big_quiet_step ((go_at_call 131;with_reducible exact ak (k.out _))))
 refine wpQuiet_nil ?_
 intro H a
 have e:=ah a
 clear a
 go_wp2_with fail
 go_ret
 exact⟨rfl,f.trans e⟩
theorem ent_asgt:Ent 130:=fun _ _=>by kernel_rfl
theorem words_any (n:Int) (w:World) (h:2≤n∧n≤5):Calls Tryz.prog 210 #[.int .i64 n] w fun r w'=>r= .returned (.string (agW n))∧Ext w w':=by
 have b:n=2∨n=3∨n=4∨n=5:=by omega
 clear h
 rcases b with rfl|rfl|rfl|rfl
 ·have a:∀w:World,(Instr.index 214 (.agg #[.string ⟨#[]⟩,.string ⟨#[]⟩,.string ⟨#[67,79,85,78,84]⟩,.string ⟨#[83,85,77]⟩,.string ⟨#[77,73,78]⟩,.string ⟨#[77,65,88]⟩]) (.int .i64 2)).run Tryz.prog w= .ok (.string ⟨#[67,79,85,78,84]⟩) w:=fun _=>by kernel_rfl
  go_enter Tryz.func210,Tryz.ntmps210
  go_wp2_with fail
  go_ret
  exact⟨rfl,Ext.refl w⟩
 ·have a:∀w:World,(Instr.index 214 (.agg #[.string ⟨#[]⟩,.string ⟨#[]⟩,.string ⟨#[67,79,85,78,84]⟩,.string ⟨#[83,85,77]⟩,.string ⟨#[77,73,78]⟩,.string ⟨#[77,65,88]⟩]) (.int .i64 3)).run Tryz.prog w= .ok (.string ⟨#[83,85,77]⟩) w:=fun _=>by kernel_rfl
  go_enter Tryz.func210,Tryz.ntmps210
  go_wp2_with fail
  go_ret
  exact⟨rfl,Ext.refl w⟩
 ·have a:∀w:World,(Instr.index 214 (.agg #[.string ⟨#[]⟩,.string ⟨#[]⟩,.string ⟨#[67,79,85,78,84]⟩,.string ⟨#[83,85,77]⟩,.string ⟨#[77,73,78]⟩,.string ⟨#[77,65,88]⟩]) (.int .i64 4)).run Tryz.prog w= .ok (.string ⟨#[77,73,78]⟩) w:=fun _=>by kernel_rfl
  go_enter Tryz.func210,Tryz.ntmps210
  go_wp2_with fail
  go_ret
  exact⟨rfl,Ext.refl w⟩
 ·have a:∀w:World,(Instr.index 214 (.agg #[.string ⟨#[]⟩,.string ⟨#[]⟩,.string ⟨#[67,79,85,78,84]⟩,.string ⟨#[83,85,77]⟩,.string ⟨#[77,73,78]⟩,.string ⟨#[77,65,88]⟩]) (.int .i64 5)).run Tryz.prog w= .ok (.string ⟨#[77,65,88]⟩) w:=fun _=>by kernel_rfl
  go_enter Tryz.func210,Tryz.ntmps210
  go_wp2_with fail
  go_ret
  exact⟨rfl,Ext.refl w⟩
theorem itmt_any (x:Itm) (A:Option Addr) (n c:Nat) (w:World) (y:Gd w) (h:ExV w x.ex A n c) (a:x.ok=true) (hs:x.ex.size≤1000):
  Calls Tryz.prog 209 #[.agg #[.int .i64 x.ag,.int .i64 x.ex.d.op,.string x.ex.d.tb,.string x.ex.d.nm,.int .i64 x.ex.d.ix,.int .i64 x.ex.d.vk,.int .i64 x.ex.d.vi,.string x.ex.d.vt,.slice A n c]] w fun r w'=>r= .returned (.string x.tx)∧Ext w w':=by
 obtain⟨ag,ex⟩:=x
 unfold Itm.ok at a
 unfold Itm.tx
 simp only at*
 by_cases b:ag=1
 ·subst b
  clear a hs h
  generalize ex.d=d at*
  obtain⟨op,tb,nm,ix,vk,vi,vt⟩:=d
  simp only at*
  go_enter Tryz.func209,Tryz.ntmps209
  go_wp2_with fail
  go_ret
  exact⟨rfl,(Ext.refl w).alloc _⟩
 ·rw[if_neg (by simpa using b)]at a
  rw[if_neg b]
  simp only[Bool.and_eq_true,decide_eq_true_eq]at a
  have k:=hid (fun W (m:Ext w W)=>gg ex 1 A n c W (h.ext m) a.2 hs (y.ext m))
  have B:(ex.tx 1).size≤100000:=by have:=bJ ex 1 a.2;omega
  by_cases f:ag=0
  ·subst f
   clear a hs h b
   unfold Nd.val at*
   generalize ex.tx 1=T at*
   generalize ex.d=d at*
   obtain⟨op,tb,nm,ix,vk,vi,vt⟩:=d
   simp only at*
   go_enter Tryz.func209,Tryz.ntmps209
   go_wp2_with (go_at_call 131;refine(k _ ((Ext.refl w).alloc _)).mono ?_;rintro _ Q ⟨rfl,i⟩)
   go_ret
   exact⟨rfl,((Ext.refl w).alloc _).trans i⟩
  ·rw[if_neg f]
   have u:=hid (fun W=>words_any ag W ⟨by omega,a.1.2⟩)
   have C:=Nat.le_trans (px ag) (show 5≤1000 by omega)
   have E:(ag==1)=false:=by simpa using b
   have D:(ag==0)=false:=by simpa using f
   clear a hs h b f
   unfold Nd.val at*
   generalize agW ag=V at*
   generalize ex.tx 1=T at*
   generalize ex.d=d at*
   obtain⟨op,tb,nm,ix,vk,vi,vt⟩:=d
   simp only at*
   have t:=hid (Blk.of_new w 84 [.int .i64 ag,.int .i64 op,.string tb,.string nm,.int .i64 ix,.int .i64 vk,.int .i64 vi,.string vt,.slice A n c])
   have l:=hid ((Ext.refl w).alloc (.cells #[.int .i64 ag,.int .i64 op,.string tb,.string nm,.int .i64 ix,.int .i64 vk,.int .i64 vi,.string vt,.slice A n c] 84))
   go_enter Tryz.func209,Tryz.ntmps209
   go_wp2_with fail
   generalize w.alloc (.cells _ 84)=o at*
   generalize w.heap.size=g at*
   have p:Hid (∀z:ae o,Calls Tryz.prog 131 _ z.now _):=fun z=>k z.now (l.trans z.ext)
   have s:Hid (∀z:ae o,Calls Tryz.prog 210 _ z.now _):=fun z=>u z.now
   obtain⟨F,G,H,I,J,K,L,O,P,-⟩:=lks t
   refine ab (by kernel_rfl) (by kernel_rfl) ?_
   repeat (go_big_quiet_step (first|(go_at_call 131;with_reducible exact ak (p.out _))|(go_at_call 210;with_reducible exact ak (s.out _))))
   refine wpQuiet_nil ?_
   intro R e
   have j:=ah e
   clear e
   go_wp2_with fail
   go_ret
   exact⟨rfl,l.trans j⟩
theorem ent_itmt:Ent 209:=fun _ _=>by kernel_rfl
theorem srct_any (x:Src) (w:World) (b:x.tb.size≤1000∧x.al.size≤1000):
  Calls Tryz.prog 212 #[.agg #[.string x.tb,.string x.al]] w fun r w'=>r= .returned (.string x.tx)∧Ext w w':=by
 obtain⟨tb,al⟩:=x
 unfold Src.tx
 simp only at*
 obtain⟨e,f⟩:=b
 by_cases a:al.size=0
 ·rw[if_pos a]
  obtain rfl:=bi a
  go_enter Tryz.func212,Tryz.ntmps212
  go_wp2_with fail
  go_ret
  exact⟨rfl,(Ext.refl w).alloc _⟩
 ·rw[if_neg a]
  have g:=bB a
  have h:=bo a
  clear a
  go_enter Tryz.func212,Tryz.ntmps212
  go_wp2_with fail
  go_ret
  exact⟨rfl,(Ext.refl w).alloc _⟩
theorem ent_srct:Ent 212:=fun _ _=>by kernel_rfl
theorem ordt_any (x:Ord') (w:World) (e:Gd w) (a:x.ok=true):
  Calls Tryz.prog 214 #[.agg #[.int .i64 x.it,.bool x.ds]] w fun r w'=>r= .returned (.string x.tx)∧Ext w w':=by
 obtain⟨it,ds⟩:=x
 unfold Ord'.tx
 unfold Ord'.ok at a
 rw[ch]at a
 simp only at*
 have f:=hid (fun W (g:Ext w W)=>number_any it W ((e.ext g).can ⟨by omega,by omega⟩))
 have h:=Nat.le_trans (bh it (by omega) (by omega)) (show 21≤1000 by omega)
 generalize itoB it=T at*
 clear e a
 cases ds
 all_goals
  go_enter Tryz.func214,Tryz.ntmps214
  go_wp2_with (go_at_call 202;refine(f _ ((Ext.refl w).alloc _)).mono ?_;rintro _ i ⟨rfl,b⟩)
  go_ret
  exact⟨rfl,((Ext.refl w).alloc _).trans b⟩
theorem ent_ordt:Ent 214:=fun _ _=>by kernel_rfl
theorem nh (s:St) (a:SA) (w:World) (l:Gd w) (j:ExV w s.whr a.whr.A a.whr.n a.whr.c) (k:s.whr.absent=true∨s.whr.formed=true) (hs:s.whr.size≤1000):
  Calls Tryz.prog 132 #[s.val a] w fun r w'=>r= .returned (.string s.whT)∧Ext w w':=by
 have g:=hid (fun W (i:Ext w W)=>iw s.whr a.whr.A a.whr.n a.whr.c W (j.ext i))
 unfold St.whT
 have p:=hid (Blk.of_new w 40 (s.cells a))
 have h:=hid ((Ext.refl w).alloc (.cells (s.cells a).toArray 40))
 unfold St.val at*
 unfold St.cells Sl.v at*
 unfold Nd.val at g
 cases b:s.whr.absent
 ·have f:=k.resolve_left (by rw[b];simp)
  have o:=hid (fun W (i:Ext w W)=>gg s.whr 1 a.whr.A a.whr.n a.whr.c W (j.ext i) f hs (l.ext i))
  have E:(s.whr.tx 1).size≤100000:=by have:=bJ s.whr 1 f;omega
  unfold Nd.val at o
  rw[b]at g
  clear l j k hs b f
  unfold jU
  simp only[Bool.false_eq_true,if_false]
  generalize s.whr.tx 1=T at*
  go_enter Tryz.func132,Tryz.ntmps132
  go_wp2_with (first|(go_at_call 116;refine(g _ h).mono ?_;rintro _ F ⟨rfl,e⟩;obtain⟨-,-,-,-,-,-,-,-,-,-,t,u,x,y,z,B,C,D,-⟩:=cls (p.ext e))|(go_at_call 131;refine(o _ (h.trans e)).mono ?_;rintro _ G ⟨rfl,m⟩))
  go_ret
  exact⟨rfl,(h.trans e).trans m⟩
 ·rw[b]at g
  clear l j k hs b
  simp only[if_true]
  go_enter Tryz.func132,Tryz.ntmps132
  go_wp2_with (go_at_call 116;refine(g _ h).mono ?_;rintro _ F ⟨rfl,e⟩)
  go_ret
  exact⟨rfl,h.trans e⟩
theorem aT (l:List ByteArray) (x:ByteArray):cn (l++ [x])=cn l++ [.string x]:=by unfold cn;rw[List.map_append];rfl
theorem fi (l:List ByteArray):bA l≤(cma l).size+2:=by
 cases l with
 |nil=>exact Nat.zero_le _
 |cons x l=>show bA (x::l)≤(l.foldl _ x).size+2;rw[lO,bA];omega
theorem own_ne {w:World} {B e b n:Nat} {v:Value} {f:List Value} (h:w.ownsRow B e b v n f):some w.heap.size≠v.ownBlock:=fun a=>by have:=(h.lt _ a.symm).2;omega
theorem blk3 {w:World} {g t:Nat} {x y z:Value} (h:Blk w g t [x,y,z]):w.cell? ⟨g,0,none⟩=some x∧w.cell? ⟨g,1,none⟩=some y∧w.cell? ⟨g,2,none⟩=some z:=
 ⟨h.cell_some (i:=0) rfl,h.cell_some (i:=1) rfl,h.cell_some (i:=2) rfl⟩
set_option maxHeartbeats 8000000 in
theorem oe (s:St) (a:SA) (w:World) (hg:Gd w) (Y:StV w s a) (hk:jS w a.keys.A a.keys.n) (hr:jT w a.frs.A a.frs.n) (C:s.defOk=true) (hb:s.cols.length+s.keys.length+s.frs.length+s.chk.length≤1048576) (hz:bA s.elts≤400000000) (hs:sizeL s.chk≤1000):
  Calls Tryz.prog 125 #[.agg #[a.cols.v,a.keys.v,a.frs.v,a.chk.v]] w fun r w'=>r= .returned (.string (cma s.elts))∧Ext w w':=by
 obtain⟨i0,hi,R,U,V⟩:=info_parts bX
 have HX:=hid ((Ext.refl w).alloc (.cells #[.slice a.cols.A a.cols.n a.cols.c,.slice a.keys.A a.keys.n a.keys.c,.slice a.frs.A a.frs.n a.frs.c,.slice a.chk.A a.chk.n a.chk.c] 29))
 have a7:=hid Y.cols.1
 have a8:=hid Y.keys.1
 have a9:=hid Y.frs.1
 have ba:=hid Y.chk.1
 have b3:=hid (Y.cols.2.2.ext HX)
 have b4:=hid (Y.keys.2.2.ext HX)
 have b5:=hid (Y.frs.2.2.ext HX)
 have b6:=hid (Y.chk.2.2.ext HX)
 have bY:=hid (hk.ext HX)
 have b0:=hid (hr.ext HX)
 have an:=hid (hg.ext HX)
 have bx:=hid hs
 have HZ:=hid hz
 rw[Y.cols.1,Y.keys.1,Y.frs.1,Y.chk.1]at hb
 unfold St.defOk at C
 simp only[Bool.and_eq_true]at C
 have bm:=hid C.1.1.1.2
 have bn:=hid C.1.2
 have bw:=hid C.2
 have b7:Hid (∀x∈s.keys,keyT x∈s.elts):=fun x D=>by unfold St.elts;simp only[List.mem_append];exact .inl (.inl (.inr (List.mem_map_of_mem D)))
 have b9:Hid (∀x∈s.frs,Rf.tx x∈s.elts):=fun x D=>by unfold St.elts;simp only[List.mem_append];exact .inl (.inr (List.mem_map_of_mem D))
 have HB:=hid (Blk.of_new w 29 [.slice a.cols.A a.cols.n a.cols.c,.slice a.keys.A a.keys.n a.keys.c,.slice a.frs.A a.frs.n a.frs.c,.slice a.chk.A a.chk.n a.chk.c])
 clear hg Y hk hr C hz hs
 unfold Sl.v
 generalize a.cols.A=cA at*
 generalize a.keys.A=kA at*
 generalize a.frs.A=fA at*
 generalize a.chk.A=xA at*
 go_enter Tryz.func125,Tryz.ntmps125
 go_wp2_with fail
 generalize w.alloc (.cells _ 29)=J at*
 go_loopw [3,16] (fun nv iv wr=> ∃(k:Nat),k≤a.cols.n∧iv= .int .i64 k∧wr.ownsRow J.heap.size 9 1 nv (k) (cn ((s.cols.take k).map Cd.tx))∧Ext J wr) (fun _ i _=>a.cols.n- (intOf i).toNat)
 case atStart=>exact⟨0,Nat.zero_le _,rfl,World.ownsRow_nil _ _ _ _,Ext.refl J⟩
 case round=>
  obtain⟨k,a2,rfl,p,l⟩:=hrel
  have t:=hid p
  have h:=hid l
  clear p
  by_cases I:k<a.cols.n
  ·obtain⟨x,D⟩:=aq a7 I
   obtain⟨⟨ck,cl,ax,a0,a1⟩,b,a6,rfl,q0,q1,q2,q3,q4,q5⟩:=(b3.ext l) k x D
   have K:Hid ((s.cols.take (k+1)).map Cd.tx=((s.cols.take k).map Cd.tx)++ [Cd.tx x]):=by unfold Hid;rw[bW D,List.map_append];rfl
   have C:=List.all_eq_true.1 bm x (List.mem_of_getElem? D)
   have c6:x.nm.size≤1000:=Nat.le_trans (cd_nm C) (by omega)
   have cw:=cd_ty C
   have c4:=Nat.le_trans (bh x.lo ax.1 ax.2) (show 21≤1000 by omega)
   have c3:=Nat.le_trans (bh x.hi a0.1 a0.2) (show 21≤1000 by omega)
   have c5:=Nat.le_trans (bh x.mx a1.1 a1.2) (show 21≤1000 by omega)
   have bd:=hid (fun W (hW:Ext J W)=>number_any x.lo W ((an.ext hW).can ax))
   have be:=hid (fun W (hW:Ext J W)=>number_any x.hi W ((an.ext hW).can a0))
   have bf:=hid (fun W (hW:Ext J W)=>number_any x.mx W ((an.ext hW).can a1))
   have o:Hid (Cd.tx x=if x.nn=true then (if x.ty=1 then x.nm++⟨#[32,73,78,84,69,71,69,82,40]⟩++itoB x.lo++⟨#[44,32]⟩++itoB x.hi++⟨#[41]⟩else x.nm++⟨#[32,84,69,88,84,40]⟩++itoB x.mx++⟨#[41]⟩)++⟨#[32,78,79,84,32,78,85,76,76]⟩else (if x.ty=1 then x.nm++⟨#[32,73,78,84,69,71,69,82,40]⟩++itoB x.lo++⟨#[44,32]⟩++itoB x.hi++⟨#[41]⟩else x.nm++⟨#[32,84,69,88,84,40]⟩++itoB x.mx++⟨#[41]⟩)):=rfl
   clear D l ck cl ax a0 a1 C
   generalize Cd.tx x=TX at*
   generalize itoB x.lo=T1 at*
   generalize itoB x.hi=T2 at*
   generalize itoB x.mx=T3 at*
   obtain⟨nm,ty,lo,bN,mx,nn⟩:=x
   simp only at*
   have m:=hid (Blk.of_new wr 99 [.string nm,.int .i64 ty,.int .i64 lo,.int .i64 bN,.int .i64 mx,.bool nn])
   have f:=hid ((Ext.refl wr).alloc (.cells #[.string nm,.int .i64 ty,.int .i64 lo,.int .i64 bN,.int .i64 mx,.bool nn] 99))
   go_wp2_with fail
   generalize wr.alloc (.cells _ 99)=w2 at*
   generalize wr.heap.size=g2 at*
   have H1:Hid (∀z:ae w2,Calls Tryz.prog 202 _ z.now _):=fun z=>bd z.now (h.trans (f.trans z.ext))
   have H2:Hid (∀z:ae w2,Calls Tryz.prog 202 _ z.now _):=fun z=>be z.now (h.trans (f.trans z.ext))
   obtain⟨l0,l1,l2,l3,l4,l5,-⟩:=lks m
   refine ab (by kernel_rfl) (by kernel_rfl) ?_
   repeat (go_big_quiet_step (first|(go_at_call 202;with_reducible exact ak (H1.out _))|(go_at_call 202;with_reducible exact ak (H2.out _))))
   refine wpQuiet_nil ?_
   intro w3 L
   have F:=ah L
   clear L
   clear l0 l1 l2 l3 l4 l5 H1 H2 bd be q0 q1 q2 q3 q4 q5
   replace m:=hid (m.ext F)
   replace f:=hid (f.trans F)
   clear F
   have c0:(nm++⟨#[32,73,78,84,69,71,69,82,40]⟩++T1++⟨#[44,32]⟩++T2++⟨#[41]⟩).size≤10000:=by simp only[ByteArray.size_append];show nm.size+9+T1.size+2+T2.size+1≤_;omega
   generalize nm++⟨#[32,73,78,84,69,71,69,82,40]⟩++T1++⟨#[44,32]⟩++T2++⟨#[41]⟩=TB at*
   rcases cw with rfl|rfl
   ·cases nn
    ·have E:=o.out
     clear o
     simp only[if_true,Bool.false_eq_true,if_false,(by decide:¬(2:Int)=1)]at E
     rw[E]at K
     clear E
     obtain⟨e0,e1,e2,e3,e4,e5,-⟩:=cls (m)
     have O:=hid ((ownN_ext t f).alloc (.cells #[.string TB] 9))
     have P:=hid (reads_new1 w3 (.string TB) 9)
     go_wp2_with (at_builtin;refine wpList_append_any _ rfl (.tmp 48) (.tmp 50) 101 rfl J.heap.size 9 i0 _ 1 16 Tryz.underlying101 hi R U V rfl (by decide) _ (k) _ rfl O.out _ _ 1 1 [.string TB] rfl P.out (by simp[Value.oneCell']) (by unfold maxLen;omega) (by omega) (Nat.le_trans (h.out.trans f.out).size (by simp)) ?_;intro v1 w5 e g j;have y:=hid e;have u:=hid g;clear e g j)
     go_roundw
     case rel=>
      have B:=aI t
      refine⟨k+1,by omega,by go_num,?_,((h.trans f).alloc _).grown u fun q X=>B q X⟩
      rw[K.out,aT]
      exact y
     case measure=>simp[intOf];omega
    ·have E:=o.out
     clear o
     simp only[if_true,Bool.false_eq_true,if_false,(by decide:¬(2:Int)=1)]at E
     rw[E]at K
     clear E
     obtain⟨e0,e1,e2,e3,e4,e5,-⟩:=cls (m)
     have O:=hid ((ownN_ext t f).alloc (.cells #[.string (TB++⟨#[32,78,79,84,32,78,85,76,76]⟩)] 9))
     have P:=hid (reads_new1 w3 (.string (TB++⟨#[32,78,79,84,32,78,85,76,76]⟩)) 9)
     go_wp2_with (at_builtin;refine wpList_append_any _ rfl (.tmp 48) (.tmp 50) 101 rfl J.heap.size 9 i0 _ 1 16 Tryz.underlying101 hi R U V rfl (by decide) _ (k) _ rfl O.out _ _ 1 1 [.string (TB++⟨#[32,78,79,84,32,78,85,76,76]⟩)] rfl P.out (by simp[Value.oneCell']) (by unfold maxLen;omega) (by omega) (Nat.le_trans (h.out.trans f.out).size (by simp)) ?_;intro v1 w5 e g j;have y:=hid e;have u:=hid g;clear e g j)
     go_roundw
     case rel=>
      have B:=aI t
      refine⟨k+1,by omega,by go_num,?_,((h.trans f).alloc _).grown u fun q X=>B q X⟩
      rw[K.out,aT]
      exact y
     case measure=>simp[intOf];omega
   ·cases nn
    ·have E:=o.out
     clear o
     simp only[if_true,Bool.false_eq_true,if_false,(by decide:¬(2:Int)=1)]at E
     rw[E]at K
     clear E
     obtain⟨e0,e1,e2,e3,e4,e5,-⟩:=cls (m)
     go_wp2_with fail
     clear e0 e1 e2 e3 e4 e5
     have H3:Hid (∀z:ae w3,Calls Tryz.prog 202 _ z.now _):=fun z=>bf z.now (h.trans (f.trans z.ext))
     obtain⟨l0,l1,l2,l3,l4,l5,-⟩:=lks m
     refine ab (by kernel_rfl) (by kernel_rfl) ?_
     repeat (go_big_quiet_step ((go_at_call 202;with_reducible exact ak (H3.out _))))
     refine wpQuiet_nil ?_
     intro w4 L
     have F:=ah L
     clear L
     have cp:(nm++⟨#[32,84,69,88,84,40]⟩++T3++⟨#[41]⟩).size≤10000:=by simp only[ByteArray.size_append];show nm.size+6+T3.size+1≤_;omega
     generalize nm++⟨#[32,84,69,88,84,40]⟩++T3++⟨#[41]⟩=TC at*
     clear l0 l1 l2 l3 l4 l5 H3
     replace m:=hid (m.ext F)
     replace f:=hid (f.trans F)
     clear F
     obtain⟨e0,e1,e2,e3,e4,e5,-⟩:=cls (m)
     have O:=hid ((ownN_ext t f).alloc (.cells #[.string TC] 9))
     have P:=hid (reads_new1 w4 (.string TC) 9)
     go_wp2_with (at_builtin;refine wpList_append_any _ rfl (.tmp 48) (.tmp 50) 101 rfl J.heap.size 9 i0 _ 1 16 Tryz.underlying101 hi R U V rfl (by decide) _ (k) _ rfl O.out _ _ 1 1 [.string TC] rfl P.out (by simp[Value.oneCell']) (by unfold maxLen;omega) (by omega) (Nat.le_trans (h.out.trans f.out).size (by simp)) ?_;intro v1 w5 e g j;have y:=hid e;have u:=hid g;clear e g j)
     go_roundw
     case rel=>
      have B:=aI t
      refine⟨k+1,by omega,by go_num,?_,((h.trans f).alloc _).grown u fun q X=>B q X⟩
      rw[K.out,aT]
      exact y
     case measure=>simp[intOf];omega
    ·have E:=o.out
     clear o
     simp only[if_true,Bool.false_eq_true,if_false,(by decide:¬(2:Int)=1)]at E
     rw[E]at K
     clear E
     obtain⟨e0,e1,e2,e3,e4,e5,-⟩:=cls (m)
     go_wp2_with fail
     clear e0 e1 e2 e3 e4 e5
     have H3:Hid (∀z:ae w3,Calls Tryz.prog 202 _ z.now _):=fun z=>bf z.now (h.trans (f.trans z.ext))
     obtain⟨l0,l1,l2,l3,l4,l5,-⟩:=lks m
     refine ab (by kernel_rfl) (by kernel_rfl) ?_
     repeat (go_big_quiet_step ((go_at_call 202;with_reducible exact ak (H3.out _))))
     refine wpQuiet_nil ?_
     intro w4 L
     have F:=ah L
     clear L
     have cp:(nm++⟨#[32,84,69,88,84,40]⟩++T3++⟨#[41]⟩).size≤10000:=by simp only[ByteArray.size_append];show nm.size+6+T3.size+1≤_;omega
     generalize nm++⟨#[32,84,69,88,84,40]⟩++T3++⟨#[41]⟩=TC at*
     clear l0 l1 l2 l3 l4 l5 H3
     replace m:=hid (m.ext F)
     replace f:=hid (f.trans F)
     clear F
     obtain⟨e0,e1,e2,e3,e4,e5,-⟩:=cls (m)
     have O:=hid ((ownN_ext t f).alloc (.cells #[.string (TC++⟨#[32,78,79,84,32,78,85,76,76]⟩)] 9))
     have P:=hid (reads_new1 w4 (.string (TC++⟨#[32,78,79,84,32,78,85,76,76]⟩)) 9)
     go_wp2_with (at_builtin;refine wpList_append_any _ rfl (.tmp 48) (.tmp 50) 101 rfl J.heap.size 9 i0 _ 1 16 Tryz.underlying101 hi R U V rfl (by decide) _ (k) _ rfl O.out _ _ 1 1 [.string (TC++⟨#[32,78,79,84,32,78,85,76,76]⟩)] rfl P.out (by simp[Value.oneCell']) (by unfold maxLen;omega) (by omega) (Nat.le_trans (h.out.trans f.out).size (by simp)) ?_;intro v1 w5 e g j;have y:=hid e;have u:=hid g;clear e g j)
     go_roundw
     case rel=>
      have B:=aI t
      refine⟨k+1,by omega,by go_num,?_,((h.trans f).alloc _).grown u fun q X=>B q X⟩
      rw[K.out,aT]
      exact y
     case measure=>simp[intOf];omega
  ·obtain rfl:k=a.cols.n:=by omega
   rw[List.take_of_length_le (Nat.le_of_eq a7)]at t
   have cb:=(HB.ext l).cell 1
   simp only[List.getElem?_cons_succ,List.getElem?_cons_zero]at cb
   go_wp2_with fail
   clear cb l
   have ac:=t
   have ad:=h
   clear t h
   go_loopw [3,56] (fun nv iv wr=> ∃(k:Nat),k≤a.keys.n∧iv= .int .i64 k∧wr.ownsRow J.heap.size 9 1 nv (a.cols.n+k) (cn (s.cols.map Cd.tx++(s.keys.take k).map keyT))∧Ext J wr) (fun _ i _=>a.keys.n- (intOf i).toNat)
   case atStart=>exact⟨0,Nat.zero_le _,rfl,by simpa using ac.out,ad⟩
   case round=>
    obtain⟨k,a2,rfl,p,l⟩:=hrel
    have t:=hid p
    have h:=hid l
    clear p
    by_cases I:k<a.keys.n
    ·obtain⟨x,D⟩:=aq a8 I
     obtain⟨b,a6,Ai,ni,ci,hA,q0,h1,h2,h3⟩:=(b4.ext l) k x D
     have Q:=bY.ext l
     rw[hA]at Q
     have H:=Q.at I q0
     have K:Hid (s.cols.map Cd.tx++(s.keys.take (k+1)).map keyT=(s.cols.map Cd.tx++(s.keys.take k).map keyT)++ [keyT x]):=by unfold Hid;rw[bW D,List.map_append];exact(List.append_assoc _ _ _).symm
     have a5:=dJ (b7 x (List.mem_of_getElem? D))
     have a4:bA x≤(cma x).size+2:=fi x
     have a3:(keyT x).size=8+(cma x).size+1:=by unfold keyT;rw[ByteArray.size_append,ByteArray.size_append];rfl
     have cj:(cma x).size≤1000000000:=by have:=HZ.out;omega
     have HJ:=hid (kJ x Ai ni ci wr h1 H h3 (by have:=HZ.out;omega))
     have o:Hid (keyT x=⟨#[85,78,73,81,85,69,32,40]⟩++cma x++⟨#[41]⟩):=rfl
     clear D l h1 h2 h3 Q H a5 a4 a3
     generalize cma x=T1 at*
     subst hA
     have E:=o.out
     clear o
     rw[E]at K
     clear E
     have f:Hid (Ext wr wr):=Ext.refl wr
     go_wp2_with (first|(go_at_call 203;refine HJ.out.mono ?_;rintro _ w2 ⟨rfl,ag⟩;replace f:Hid (Ext wr w2):=ag)|(at_builtin;generalize ⟨#[85,78,73,81,85,69,32,40]⟩++T1++⟨#[41]⟩=TB at*;refine wpList_append_any _ rfl (.tmp 60) (.tmp 65) 101 rfl J.heap.size 9 i0 _ 1 16 Tryz.underlying101 hi R U V rfl (by decide) _ (a.cols.n+k) _ rfl ((ownN_ext t.out f.out).alloc _) _ _ 1 1 [.string TB] rfl (reads_new1 w2 _ _) (by simp[Value.oneCell']) (by unfold maxLen;omega) (by omega) (Nat.le_trans (h.out.trans f.out).size (by simp)) ?_;intro v1 w5 e g j;have y:=hid e;have u:=hid g;clear e g j))
     go_roundw
     case rel=>
      have B:=aI t
      refine⟨k+1,by omega,by go_num,?_,((h.trans f).alloc _).grown u fun q X=>B q X⟩
      rw[K.out,aT]
      exact y
     case measure=>simp[intOf];omega
    ·obtain rfl:k=a.keys.n:=by omega
     rw[List.take_of_length_le (Nat.le_of_eq a8)]at t
     have cb:=(HB.ext l).cell 2
     simp only[List.getElem?_cons_succ,List.getElem?_cons_zero]at cb
     go_wp2_with fail
     clear cb l
     have ac:=t
     have ad:=h
     clear t h
     go_loopw [3,71] (fun nv iv wr=> ∃(k:Nat),k≤a.frs.n∧iv= .int .i64 k∧wr.ownsRow J.heap.size 9 1 nv (a.cols.n+a.keys.n+k) (cn (s.cols.map Cd.tx++s.keys.map keyT++(s.frs.take k).map Rf.tx))∧Ext J wr) (fun _ i _=>a.frs.n- (intOf i).toNat)
     case atStart=>exact⟨0,Nat.zero_le _,rfl,by simpa using ac.out,ad⟩
     case round=>
      obtain⟨k,a2,rfl,p,l⟩:=hrel
      have t:=hid p
      have h:=hid l
      clear p
      by_cases I:k<a.frs.n
      ·obtain⟨x,D⟩:=aq a9 I
       obtain⟨h0,b,a6,A1,n1,c1,A2,n2,c2,hA,q0,q1,q2,h1,h2,h3,h4,h5,h6⟩:=(b5.ext l) k x D
       have Q:=b0.ext l
       rw[hA]at Q
       have H:=Q.at I q0 q2
       have K:Hid (s.cols.map Cd.tx++s.keys.map keyT++(s.frs.take (k+1)).map Rf.tx=(s.cols.map Cd.tx++s.keys.map keyT++(s.frs.take k).map Rf.tx)++ [Rf.tx x]):=by unfold Hid;rw[bW D,List.map_append];exact(List.append_assoc _ _ _).symm
       have a5:=dJ (b9 x (List.mem_of_getElem? D))
       have C:=List.all_eq_true.1 bn x (List.mem_of_getElem? D)
       have cv:bA x.cs≤(cma x.cs).size+2:=fi x.cs
       have a4:bA x.tg≤(cma x.tg).size+2:=fi x.tg
       have c7:x.tb.size≤1000:=Nat.le_trans (rf_nm C) (by omega)
       have a3:x.tx.size=13+(cma x.cs).size+13+x.tb.size+2+(cma x.tg).size+1:=by unfold Rf.tx;simp only[ByteArray.size_append];rfl
       have cz:(cma x.cs).size≤500000000:=by have:=HZ.out;omega
       have cH:(cma x.tg).size≤500000000:=by have:=HZ.out;omega
       have b1:=hid (fun W (hW:Ext wr W)=>kJ x.cs A1 n1 c1 W h1 H.1 (h3.ext hW) (by omega))
       have b2:=hid (fun W (hW:Ext wr W)=>kJ x.tg A2 n2 c2 W h4 H.2 (h6.ext hW) (by omega))
       have o:Hid (Rf.tx x=⟨#[70,79,82,69,73,71,78,32,75,69,89,32,40]⟩++cma x.cs++⟨#[41,32,82,69,70,69,82,69,78,67,69,83,32]⟩++x.tb++⟨#[32,40]⟩++cma x.tg++⟨#[41]⟩):=rfl
       clear D l h0 h1 h2 h3 h4 h5 h6 Q H a5 cv a4 a3 C
       generalize cma x.cs=T1 at*
       generalize cma x.tg=T2 at*
       generalize x.tb=tb at*
       subst hA
       have E:=o.out
       clear o
       rw[E]at K
       clear E
       have m:=hid (Blk.of_new wr 103 [.slice A1 n1 c1,.string tb,.slice A2 n2 c2])
       have f:=hid ((Ext.refl wr).alloc (.cells #[.slice A1 n1 c1,.string tb,.slice A2 n2 c2] 103))
       have cd:=hid (ownN_ext t f)
       have cc:=hid (own_ne t)
       go_wp2_with fail
       generalize wr.alloc (.cells _ 103)=w2 at*
       generalize wr.heap.size=g2 at*
       obtain⟨e0,e1,e2,-⟩:=cls (m)
       go_region_held_law (fun w'=>w'.cell? ⟨g2,0,none⟩=some (.slice A1 n1 c1)∧w'.cell? ⟨g2,1,none⟩=some (.string tb)∧w'.cell? ⟨g2,2,none⟩=some (.slice A2 n2 c2))
        (first|go_keep|exact blk3 (m.ext G)|exact blk3 ((m.ext G).ext Z)|exact blk3 (((m.ext G).ext Z).ext ((Ext.refl _).alloc _))|exact blk3 ((((m.ext G).ext Z).ext ((Ext.refl _).alloc _)).grown g cc))
        (first
         |(go_at_call 203;(with_reducible refine(b2.out _ (f.out.trans G)).mono ?_);rintro _ w4 ⟨rfl,Z⟩)
         |(go_at_call 203;(with_reducible refine(b1.out _ f.out.drew).mono ?_);rintro _ w3 ⟨rfl,G⟩;replace G:Ext w2 w3:=(Ext.refl w2).drew.trans G)
         |(generalize ⟨#[70,79,82,69,73,71,78,32,75,69,89,32,40]⟩++T1++⟨#[41,32,82,69,70,69,82,69,78,67,69,83,32]⟩++tb++⟨#[32,40]⟩++T2++⟨#[41]⟩=TB at*;refine dK _ rfl (.tmp 75) (.tmp 90) 101 rfl J.heap.size 9 i0 _ 1 16 Tryz.underlying101 hi R U V rfl (by decide) _ (a.cols.n+a.keys.n+k) _ rfl ((ownN_ext cd (G.trans Z)).alloc _) _ _ 1 1 [.string TB] rfl (reads_new1 w4 _ _) (by simp[Value.oneCell']) (by unfold maxLen;omega) (by omega) (Nat.le_trans (h.trans (f.trans (G.trans Z))).size (by simp)) ?_;intro v1 w5 e g j))
       all_goals
        have y:=hid e
        have u:=hid g
        replace f:=hid (f.trans (G.trans Z))
        rename_i hHeld
        clear hHeld e g j e0 e1 e2
        go_wp2_with fail
        go_roundw
        case rel=>
         have B:=aI t
         refine⟨k+1,by omega,by go_num,?_,((h.trans f).alloc _).grown u fun q X=>B q X⟩
         rw[K.out,aT]
         exact y
        case measure=>simp[intOf];omega
      ·obtain rfl:k=a.frs.n:=by omega
       rw[List.take_of_length_le (Nat.le_of_eq a9)]at t
       have cb:=(HB.ext l).cell 3
       simp only[List.getElem?_cons_succ,List.getElem?_cons_zero]at cb
       go_wp2_with fail
       clear cb l
       have ac:=t
       have ad:=h
       clear t h
       go_loopw [3,96] (fun nv iv wr=> ∃(k:Nat),k≤a.chk.n∧iv= .int .i64 k∧wr.ownsRow J.heap.size 9 1 nv (a.cols.n+a.keys.n+a.frs.n+k) (cn (s.cols.map Cd.tx++s.keys.map keyT++s.frs.map Rf.tx++(s.chk.take k).map ep))∧Ext J wr) (fun _ i _=>a.chk.n- (intOf i).toNat)
       case atStart=>exact⟨0,Nat.zero_le _,rfl,by simpa using ac.out,ad⟩
       case round=>
        obtain⟨k,a2,rfl,p,l⟩:=hrel
        have t:=hid p
        have h:=hid l
        clear p
        by_cases I:k<a.chk.n
        ·obtain⟨x,D⟩:=aq ba I
         obtain⟨b,a6,Ai,ni,ci,rfl,q0,q1,q2,q3,q4,q5,q6,q7,h1⟩:=(b6.ext l).get D
         have K:Hid (s.cols.map Cd.tx++s.keys.map keyT++s.frs.map Rf.tx++(s.chk.take (k+1)).map ep=(s.cols.map Cd.tx++s.keys.map keyT++s.frs.map Rf.tx++(s.chk.take k).map ep)++ [ep x]):=by unfold Hid;rw[bW D,List.map_append];exact(List.append_assoc _ _ _).symm
         have hf:=List.all_eq_true.1 bw x (List.mem_of_getElem? D)
         have cx:=dU (List.mem_of_getElem? D)
         have HE:=hid (fun W (hW:Ext wr W)=>gg x 1 Ai ni ci W (h1.ext hW) hf (by have:=bx.out;omega) (an.ext (h.trans hW)))
         have cj:(x.tx 1).size≤100000:=by have:=bJ x 1 hf;have:=bx.out;omega
         have o:Hid (ep x=⟨#[67,72,69,67,75,32,40]⟩++x.tx 1++⟨#[41]⟩):=rfl
         clear D l h1 hf cx
         unfold Nd.val at HE
         generalize x.tx 1=T1 at*
         have E:=o.out
         clear o
         rw[E]at K
         clear E
         generalize x.d=d at*
         obtain⟨op,tb,nm,ix,vk,vi,vt⟩:=d
         simp only at*
         go_wp2_with (first|(go_at_call 131;(with_reducible refine(HE.out _ ((Ext.refl wr).alloc _)).mono ?_);rintro _ w2 ⟨rfl,ag⟩;have f:Hid (Ext wr w2):=((Ext.refl wr).alloc _).trans ag)|(at_builtin;generalize ⟨#[67,72,69,67,75,32,40]⟩++T1++⟨#[41]⟩=TB at*;refine wpList_append_any _ rfl (.tmp 100) (.tmp 105) 101 rfl J.heap.size 9 i0 _ 1 16 Tryz.underlying101 hi R U V rfl (by decide) _ (a.cols.n+a.keys.n+a.frs.n+k) _ rfl ((ownN_ext t.out f.out).alloc _) _ _ 1 1 [.string TB] rfl (reads_new1 w2 _ _) (by simp[Value.oneCell']) (by unfold maxLen;omega) (by omega) (Nat.le_trans (h.out.trans f.out).size (by simp)) ?_;intro v1 w5 e g j;have y:=hid e;have u:=hid g;clear e g j))
         go_roundw
         case rel=>
          have B:=aI t
          refine⟨k+1,by omega,by go_num,?_,((h.trans f).alloc _).grown u fun q X=>B q X⟩
          rw[K.out,aT]
          exact y
         case measure=>simp[intOf];omega
        ·obtain rfl:k=a.chk.n:=by omega
         rw[List.take_of_length_le (Nat.le_of_eq ba)]at t
         have HJ:=hid (eu s.elts _ _ _ wr t (by have:=HZ.out;exact Nat.le_trans this (by omega)))
         go_wp2_with (go_at_call 203;refine HJ.mono ?_;rintro _ w2 ⟨rfl,ag⟩)
         go_ret
         exact⟨rfl,HX.trans (h.trans ag)⟩
end Go.Proofs.YtjigcpfjhfoheaaGreatDoor
