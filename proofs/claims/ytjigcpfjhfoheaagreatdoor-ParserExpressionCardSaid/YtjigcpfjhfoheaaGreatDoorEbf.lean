/- Walks: a well-formed statement; Walks: the texts of the elements of lists; exprs and where; Walks: where, and the elements of a definition. -/
import Derived.Test.YtjigcpfjhfoheaaGreatDoorEbe
import Derived.Test.YtjigcpfjhfoheaaGreatDoorEag
import Derived.Test.YtjigcpfjhfoheaaGreatDoorEbd
import Derived.Test.YtjigcpfjhfoheaaGreatDoorEbb
import Derived.Deep.RegionHeldLaw
namespace Go.Proofs.YtjigcpfjhfoheaaGreatDoor
open Go.RowKit
set_option maxHeartbeats 4000000
set_option maxRecDepth 100000
set_option linter.unusedVariables false
set_option linter.unusedSimpArgs false
theorem f5 (td te bn nd ne bm:Bool):((td==!te) && (!td||bn) && (nd==!ne) && (!nd||bm))=!((td !=!te)||(td&&!bn)||(nd !=!ne)||(nd&&!bm)):=by
 cases td<;>cases te<;>cases bn<;>cases nd<;>cases ne<;>cases bm<;>rfl
theorem f8 (ba cd bf:Bool):(ba||cd&&bf)=!(!ba&& (!cd||!bf)):=by cases ba<;>cases cd<;>cases bf<;>rfl
theorem f10 (k1 e k2 v k3 s k5 f:Bool):((k1==!e) && (k2==v) && (k3==s) && (k5==f))=!((k1 !=!e)||(k2 !=v)||(k3 !=s)||(k5 !=f)):=by
 cases k1<;>cases e<;>cases k2<;>cases v<;>cases k3<;>cases s<;>cases k5<;>cases f<;>rfl
theorem f12 (k5 z l:Bool):(k5||z&&l)=!(!k5&& (!z||!l)):=by cases k5<;>cases z<;>cases l<;>rfl
theorem statement_any (s:St) (a:SA) (w:World) (hw:Sh w) (hv:StV w s a) (hb:s.cols.length+s.keys.length+s.frs.length+s.chk.length≤1048576) (hb2:s.itms.length+s.grp.length+s.ord.length≤1048576):
  Calls Tryz.prog 64 #[s.val a] w fun r w'=>r= .returned (.bool s.formed)∧Ext w w':=by
 have H1:=hid (fun W (hW:Ext w W)=>name_any s.tb W (hw.ext hW) hv.tb)
 have H2:=hid (fun W (hW:Ext w W)=>name_any s.nm W (hw.ext hW) hv.nm)
 have H3:=hid (fun W (hW:Ext w W)=>absent_any s.whr a.whr.A a.whr.n a.whr.c W (hv.whr.ext hW))
 have H4:=hid (fun W (hW:Ext w W)=>formed_any s.whr a.whr.A a.whr.n a.whr.c W (hv.whr.ext hW) (hw.ext hW))
 have H5:=hid (fun W (hW:Ext w W)=>empty_any s a W (hv.ext hW) hb)
 have H6:=hid (fun W (hW:Ext w W)=>def_any s a W (hw.ext hW) (hv.ext hW) hb)
 have H7:=hid (fun W (hW:Ext w W)=>wr_row 120 ent_row rowOk s.vals a.vals.A a.vals.n a.vals.c W hv.vals.1 hv.vals.2.1 (hv.vals.2.2.ext hW) fun x hx W2 hW2 Ai ni ci hc=>rowok_any x Ai ni ci W2 (hw.ext (hW.trans hW2)) (by have:=hv.valn x hx;omega) hc)
 have H8:=hid (fun W (hW:Ext w W)=>wr_asg 123 ent_asg Asg.ok s.sets a.sets.A a.sets.n a.sets.c W hv.sets.1 hv.sets.2.1 (hv.sets.2.2.ext hW) fun x hx W2 hW2 Ai ni ci hc=>asgok_any x Ai ni ci W2 (hw.ext (hW.trans hW2)) (by obtain⟨i,hi,rfl⟩:=List.getElem_of_mem hx;exact(hv.sets.2.2 i _ (List.getElem?_eq_getElem hi)).1.1) hc)
 have H9:=hid (fun W (hW:Ext w W)=>query_any s a W (hw.ext hW) (hv.ext hW))
 simp only[any_not]at H7 H8
 have HB:=hid (Blk.of_new w 40 (s.cells a))
 have HX:=hid ((Ext.refl w).alloc (.cells (s.cells a).toArray 40))
 obtain⟨R,hR⟩:∃R,s.formed=R:=⟨_,rfl⟩
 rw[hR]
 unfold St.formed at hR
 dsimp only at hR
 rw[hv.vals.1,hv.sets.1,hv.frm.1,hv.itms.1,hv.grp.1,hv.ord.1]at hR
 rw[hv.itms.1,hv.grp.1,hv.ord.1]at hb2
 simp only[←beq_iff_eq (a:=s.kd)]at hR
 clear hw hv hb
 unfold St.val at*
 unfold St.cells Sl.v at*
 unfold Nd.val at H3 H4
 generalize s.whr.absent=ba at*
 generalize s.whr.formed=bf at*
 generalize nameB s.tb=bn at*
 generalize nameB s.nm=bm at*
 generalize s.noDef=e0 at*
 generalize s.defOk=q1 at*
 generalize s.vals.all rowOk=q2 at*
 generalize s.sets.all Asg.ok=q3 at*
 generalize s.qOk=q5 at*
 obtain⟨te,hte⟩:∃b,s.tb.toList.isEmpty=b:=⟨_,rfl⟩
 obtain⟨ne,hne⟩:∃b,s.nm.toList.isEmpty=b:=⟨_,rfl⟩
 obtain⟨td,htd⟩:∃b,decide (s.kd≤4)=b:=⟨_,rfl⟩
 obtain⟨c1,hc1⟩:∃b,decide (s.kd<1)=b:=⟨_,rfl⟩
 obtain⟨c2,hc2⟩:∃b,decide (11<s.kd)=b:=⟨_,rfl⟩
 have d1:decide (1≤s.kd)=!c1:=by rw[←hc1,Bool.eq_iff_iff];simp
 have d2:decide (s.kd≤11)=!c2:=by rw[←hc2,Bool.eq_iff_iff];simp
 obtain⟨k1,hk1⟩:∃b,(s.kd==1)=b:=⟨_,rfl⟩
 obtain⟨k2,hk2⟩:∃b,(s.kd==2)=b:=⟨_,rfl⟩
 obtain⟨k3,hk3⟩:∃b,(s.kd==3)=b:=⟨_,rfl⟩
 obtain⟨k4,hk4⟩:∃b,(s.kd==4)=b:=⟨_,rfl⟩
 obtain⟨k5,hk5⟩:∃b,(s.kd==5)=b:=⟨_,rfl⟩
 obtain⟨n9,hn9⟩:∃b,(s.kd==9)=b:=⟨_,rfl⟩
 obtain⟨n10,hn10⟩:∃b,(s.kd==10)=b:=⟨_,rfl⟩
 obtain⟨n11,hn11⟩:∃b,(s.kd==11)=b:=⟨_,rfl⟩
 obtain⟨v0,hv0⟩:∃b,decide (0<a.vals.n)=b:=⟨_,rfl⟩
 obtain⟨s0,hs0⟩:∃b,decide (0<a.sets.n)=b:=⟨_,rfl⟩
 obtain⟨f0,hf0⟩:∃b,decide (0<a.frm.n)=b:=⟨_,rfl⟩
 obtain⟨z0,hz0⟩:∃b,decide (a.itms.n+a.grp.n+a.ord.n=0)=b:=⟨_,rfl⟩
 obtain⟨l0,hl0⟩:∃b,(s.lim==0)=b:=⟨_,rfl⟩
 rw[hte,hne,htd,d1,d2,hk1,hk2,hk3,hk4,hk5,hn9,hn10,hn11,hv0,hs0,hf0,hz0,hl0]at hR
 replace hR:(!(c1||c2) &&!((td !=!te)||(td&&!bn)||((n9||n10||n11) !=!ne)||((n9||n10||n11) &&!bm)) &&!(!ba&& (!(k3||k4||k5)||!bf)) &&!((k1 !=!e0)||(k2 !=v0)||(k3 !=s0)||(k5 !=f0)) &&!(!k5&& (!z0||!l0)) && (if k1=true then q1 else if k2=true then q2 else if k3=true then q3 else if k5=true then q5 else true))=R:=by
  rw[←hR,←f5,←f8,←f10,←f12,Bool.not_or]
  simp only[Bool.and_assoc]
 have HR:=hid hR
 clear hR d1 d2
 have hkz:(s.kd !=5)=!k5:=by rw[bne,hk5]
 have hlz:(s.lim !=0)=!l0:=by rw[bne,hl0]
 go_enter Tryz.func64,Tryz.ntmps64
 go_upto_region 1 with fail
 generalize w.alloc (.cells _ 40)=w1 at*
 generalize w.heap.size=g at*
 have p0:=(HB.out).cell 0
 have p1:=(HB.out).cell 1
 have p20:=(HB.out).cell 20
 have p21:=(HB.out).cell 21
 have p10:=(HB.out).cell 10
 have p11:=(HB.out).cell 11
 have p12:=(HB.out).cell 12
 have p13:=(HB.out).cell 13
 have p14:=(HB.out).cell 14
 have p15:=(HB.out).cell 15
 have p16:=(HB.out).cell 16
 have p17:=(HB.out).cell 17
 simp only[List.getElem?_cons_succ,List.getElem?_cons_zero]at p0 p1 p20 p21 p10 p11 p12 p13 p14 p15 p16 p17
 go_cut [13] from 6 to 12 (fun cv wx=>cv= .bool (c1||c2)∧w1=wx)
 case first=>
  cases c1<;>cases c2
  all_goals
   go_wp2_with fail
   go_meet
   exact⟨rfl,rfl⟩
 case rest=>
  obtain⟨rfl,rfl⟩:=hcut
  generalize (c1||c2)=C1 at*
  cases C1
  ·go_upto_region 4 with fail
   go_cut [4] from 17 to 29 (fun cv wx=>cv= .bool (n9||n10||n11)∧w1=wx)
   case first=>
    cases n9<;>cases n10<;>cases n11
    all_goals
     go_wp2_with fail
     go_meet
     exact⟨rfl,rfl⟩
   case rest=>
    obtain⟨rfl,rfl⟩:=hcut
    generalize (n9||n10||n11)=nd at*
    go_upto_region 5 with fail
    go_cut [59] from 30 to 58 (fun cv wx=>cv= .bool ((td !=!te)||(td&&!bn)||(nd !=!ne)||(nd&&!bm))∧w1=wx)
    case first=>
     cases td<;>cases te<;>cases bn<;>cases nd<;>cases ne<;>cases bm
     all_goals
      go_wp2_with (first|(go_at_call 115;(with_reducible refine(H1.out _ HX.out).mono ?_);rintro _ _ ⟨rfl,rfl⟩)|(go_at_call 115;(with_reducible refine(H2.out _ HX.out).mono ?_);rintro _ _ ⟨rfl,rfl⟩))
      go_meet
      exact⟨rfl,rfl⟩
    case rest=>
     obtain⟨rfl,rfl⟩:=hcut
     generalize ((td !=!te)||(td&&!bn)||(nd !=!ne)||(nd&&!bm))=C5 at*
     cases C5
     ·go_upto_region 7 with fail
      go_cut [5] from 60 to 72 (fun cv wx=>cv= .bool (k3||k4||k5)∧w1=wx)
      case first=>
       cases k3<;>cases k4<;>cases k5
       all_goals
        go_wp2_with fail
        go_meet
        exact⟨rfl,rfl⟩
      case rest=>
       obtain⟨rfl,rfl⟩:=hcut
       generalize (k3||k4||k5)=cd at*
       go_upto_region 8 with fail
       go_cut [86] from 73 to 85 (fun cv wx=>cv= .bool (!ba&& (!cd||!bf))∧Ext w1 wx)
       case first=>
        cases ba<;>cases cd
        all_goals
         go_wp2_with (first|(go_at_call 116;(with_reducible refine(H3.out _ HX.out).mono ?_);rintro _ w2 ⟨rfl,hx2⟩;obtain⟨-,-,-,-,-,-,-,-,-,-,e10,e11,e12,e13,e14,e15,e16,e17,-⟩:=cls (HB.out.ext hx2))|(go_at_call 79;(with_reducible refine(H4.out _ (HX.out.trans hx2)).mono ?_);rintro _ w3 ⟨rfl,hx3⟩))
         go_meet
         first|exact⟨rfl,hx2.trans hx3⟩|exact⟨rfl,hx2⟩
       case rest=>
        obtain⟨rfl,hxN⟩:=hcut
        generalize wc=wa at*
        have HXa:=hid (HX.out.trans hxN)
        replace HB:=hid (HB.out.ext hxN)
        clear hxN p0 p1 p20 p21 p10 p11 p12 p13 p14 p15 p16 p17 H1 H2 H3 H4
        generalize (!ba&& (!cd||!bf))=C8 at*
        cases C8
        ·have p0:=HB.out.cell 0
         simp only[List.getElem?_cons_zero]at p0
         go_upto_region 10 with fail
         go_cut [124] from 87 to 123 (fun cv wx=>cv= .bool ((k1 !=!e0)||(k2 !=v0)||(k3 !=s0)||(k5 !=f0))∧Ext wa wx)
         case first=>
          have HE:Hid (∀z:Later wa,Calls Tryz.prog 117 _ z.now _):=fun z=>H5.out z.now (HXa.out.trans z.ext)
          have iv0:decide ((0:Int)<(a.vals.n:Int))=v0:=by rw[←hv0];simp
          have is0:decide ((0:Int)<(a.sets.n:Int))=s0:=by rw[←hs0];simp
          have if0:decide ((0:Int)<(a.frm.n:Int))=f0:=by rw[←hf0];simp
          obtain⟨y1,hy1⟩:∃b,(k1==!e0)=b:=⟨_,rfl⟩
          obtain⟨y2,hy2⟩:∃b,(k2==v0)=b:=⟨_,rfl⟩
          obtain⟨y3,hy3⟩:∃b,(k3==s0)=b:=⟨_,rfl⟩
          obtain⟨y4,hy4⟩:∃b,(k5==f0)=b:=⟨_,rfl⟩
          obtain⟨r0,-,r2,r3,r4,r5,r6,r7,-,r9,-⟩:=lks HB.out
          cases y1
          ·refine wp_region_later (by kernel_rfl) (by kernel_rfl) ?_
           repeat (go_big_quiet_step ((go_at_call 117;with_reducible exact later_of (HE.out _))))
           refine wpQuiet_nil ?_
           intro w5 hw5
           have hx5:=later_out hw5
           clear hw5
           go_wp2_with fail
           go_meet
           exact⟨by simp only[bne,hy1,hy2,hy3,hy4] <;>rfl,hx5⟩
          ·cases y2
           ·refine wp_region_later (by kernel_rfl) (by kernel_rfl) ?_
            repeat (go_big_quiet_step ((go_at_call 117;with_reducible exact later_of (HE.out _))))
            refine wpQuiet_nil ?_
            intro w5 hw5
            have hx5:=later_out hw5
            clear hw5
            go_wp2_with fail
            go_meet
            exact⟨by simp only[bne,hy1,hy2,hy3,hy4] <;>rfl,hx5⟩
           ·cases y3
            ·refine wp_region_later (by kernel_rfl) (by kernel_rfl) ?_
             repeat (go_big_quiet_step ((go_at_call 117;with_reducible exact later_of (HE.out _))))
             refine wpQuiet_nil ?_
             intro w5 hw5
             have hx5:=later_out hw5
             clear hw5
             go_wp2_with fail
             go_meet
             exact⟨by simp only[bne,hy1,hy2,hy3,hy4] <;>rfl,hx5⟩
            ·cases y4
             ·refine wp_region_later (by kernel_rfl) (by kernel_rfl) ?_
              repeat (go_big_quiet_step ((go_at_call 117;with_reducible exact later_of (HE.out _))))
              refine wpQuiet_nil ?_
              intro w5 hw5
              have hx5:=later_out hw5
              clear hw5
              go_wp2_with fail
              go_meet
              exact⟨by simp only[bne,hy1,hy2,hy3,hy4] <;>rfl,hx5⟩
             ·refine wp_region_later (by kernel_rfl) (by kernel_rfl) ?_
              repeat (go_big_quiet_step ((go_at_call 117;with_reducible exact later_of (HE.out _))))
              refine wpQuiet_nil ?_
              intro w5 hw5
              have hx5:=later_out hw5
              clear hw5
              go_wp2_with fail
              go_meet
              exact⟨by simp only[bne,hy1,hy2,hy3,hy4] <;>rfl,hx5⟩
         case rest=>
          obtain⟨rfl,hxN⟩:=hcut
          generalize wc=wb at*
          have HXb:=hid (HXa.out.trans hxN)
          replace HB:=hid (HB.out.ext hxN)
          clear hxN p0 H5
          generalize ((k1 !=!e0)||(k2 !=v0)||(k3 !=s0)||(k5 !=f0))=C10 at*
          cases C10
          ·obtain⟨p0,-,p2,p3,p4,p5,p6,p7,p8,-,-,-,-,-,-,-,-,-,p18,p19,p20,-⟩:=cls (HB.out)
           go_upto_region 12 with fail
           have iz0:decide ((0:Int)<(a.itms.n:Int)+(a.grp.n:Int)+(a.ord.n:Int))=!z0:=by rw[←hz0,Bool.eq_iff_iff];simp;omega
           go_cut [146] from 125 to 145 (fun cv wx=>cv= .bool (!k5&& (!z0||!l0))∧wb=wx)
           case first=>
            cases k5<;>cases z0<;>cases l0
            all_goals
             go_wp2_with fail
             go_meet
             exact⟨rfl,rfl⟩
           case rest=>
            obtain⟨rfl,rfl⟩:=hcut
            generalize (!k5&& (!z0||!l0))=C12 at*
            cases C12
            ·cases k1
             ·cases k2
              ·cases k3
               ·cases k5
                ·go_wp2_with fail
                 go_ret
                 exact⟨ret_bool (by rw[←HR.out];simp),HXb.out⟩
                ·go_upto_region 21 with fail
                 have hk6:decide (s.kd=5)=true:=by simpa using hk5
                 clear hk5
                 clear p0 p2 p3 p4 p5 p6 p7 p8 p18 p19 p20
                 go_upto_region 22 with fail
                 rotate_left
                 ·exfalso
                  have e5:= ‹(s.kd==5)=false›
                  rw[of_decide_eq_true hk6]at e5
                  cases e5
                 go_wp2_with (first|(refine wpList_load_blk rfl 40 (.tmp 1) rfl g rfl 40 _ _ HB.out Tryz.underlying40 rfl (by kernel_rfl) ?_)|(go_at_call 124;(with_reducible refine(H9.out _ HXb.out).mono ?_);rintro _ w5 ⟨rfl,hx5⟩))
                 go_ret
                 exact⟨ret_bool (by rw[←HR.out];simp),HXb.out.trans hx5⟩
               ·go_wp2_with (go_at_call 122;(with_reducible refine(H8.out _ HXb.out).mono ?_);rintro _ w5 ⟨rfl,hx5⟩)
                go_ret
                exact⟨ret_bool (by rw[←HR.out];simp),HXb.out.trans hx5⟩
              ·go_wp2_with (go_at_call 119;(with_reducible refine(H7.out _ HXb.out).mono ?_);rintro _ w5 ⟨rfl,hx5⟩)
               go_ret
               exact⟨ret_bool (by rw[←HR.out];simp),HXb.out.trans hx5⟩
             ·go_wp2_with (go_at_call 118;(with_reducible refine(H6.out _ HXb.out).mono ?_);rintro _ w5 ⟨rfl,hx5⟩)
              go_ret
              exact⟨ret_bool (by rw[←HR.out];simp),HXb.out.trans hx5⟩
            ·go_wp2_with fail
             go_ret
             exact⟨ret_bool (by rw[←HR.out];simp),HXb.out⟩
          ·go_wp2_with fail
           go_ret
           exact⟨ret_bool (by rw[←HR.out];simp),HXb.out⟩
        ·go_wp2_with fail
         go_ret
         exact⟨ret_bool (by rw[←HR.out];simp),HXa.out⟩
     ·go_wp2_with fail
      go_ret
      exact⟨ret_bool (by rw[←HR.out];simp),HX.out⟩
  ·go_wp2_with fail
   go_ret
   exact⟨ret_bool (by rw[←HR.out];simp),HX.out⟩
theorem exs1_any (x:Ex) (A:Option Addr) (n c:Nat) (w:World) (hg:Gd w) (hv:ExV w x A n c) (hf:x.formed=true) (hs:x.size≤1000):
  Calls Tryz.prog 205 #[x.d.val A n c] w fun r w'=>r= .returned (.string (x.tx 1))∧Ext w w':=by
 have HE:=hid (fun W (hW:Ext w W)=>expr_any x 1 A n c W (hv.ext hW) hf hs (hg.ext hW))
 clear hg hv hf hs
 unfold Nd.val at*
 generalize x.tx 1=T at*
 generalize x.d=d at*
 obtain⟨op,tb,nm,ix,vk,vi,vt⟩:=d
 simp only at*
 go_enter Tryz.func205,Tryz.ntmps205
 go_wp2_with (go_at_call 131;refine(HE.out _ ((Ext.refl w).alloc _)).mono ?_;rintro _ w2 ⟨rfl,hx2⟩)
 go_ret
 exact⟨rfl,((Ext.refl w).alloc _).trans hx2⟩
theorem ent_exs1:Ent 205:=fun _ _=>by kernel_rfl
theorem exprs_any (l:List Ex) (A:Option Addr) (n c:Nat) (w:World) (hg:Gd w) (hl:l.length=n) (hk:KidsAt w A l) (hf:l.all Ex.formed=true) (hs:sizeL l≤1000):
  Calls Tryz.prog 128 #[.slice A n c] w fun r w'=>r= .returned (.string (exsT l))∧Ext w w':=by
 have hn:l.length≤sizeL l:=by rw[←sumB_ex];exact sumB_len (fun a=>size_pos a) l
 have HC:=hid (ls_ex 205 ent_exs1 (fun e=>e.tx 1) l A n c w hl (by omega) hk (Nat.le_trans (exs_size hf) (by omega)) fun x hx W hW Ai ni ci hc=>exs1_any x Ai ni ci W (hg.ext hW) hc (List.all_eq_true.1 hf x hx) (Nat.le_trans (sizeL_mem hx) hs))
 unfold exsT
 generalize cma (l.map fun e=>e.tx 1)=T at*
 clear hg hl hk hf hs hn
 go_enter Tryz.func128,Tryz.ntmps128
 go_wp2_with (go_at_call 204;refine HC.out.mono ?_;rintro _ w2 ⟨rfl,hx2⟩)
 go_ret
 exact⟨rfl,hx2⟩
theorem rowt_any (l:List Ex) (A:Option Addr) (n c:Nat) (w:World) (hg:Gd w) (hl:l.length=n) (hk:KidsAt w A l) (hf:l.all Ex.formed=true) (hs:sizeL l≤1000):
  Calls Tryz.prog 127 #[.slice A n c] w fun r w'=>r= .returned (.string (rowT l))∧Ext w w':=by
 have HC:=hid (exprs_any l A n c w hg hl hk hf hs)
 have hz:(exsT l).size≤100000:=Nat.le_trans (cma_size _) (Nat.le_trans (exs_size hf) (by omega))
 unfold rowT
 generalize exsT l=T at*
 clear hg hl hk hf hs
 go_enter Tryz.func127,Tryz.ntmps127
 go_wp2_with (go_at_call 128;refine HC.out.mono ?_;rintro _ w2 ⟨rfl,hx2⟩)
 go_ret
 exact⟨rfl,hx2⟩
theorem ent_rowt:Ent 127:=fun _ _=>by kernel_rfl
theorem asgt_any (x:Asg) (A:Option Addr) (n c:Nat) (w:World) (hg:Gd w) (hz:x.cl.size≤1000) (hv:ExV w x.ex A n c) (hf:x.ex.formed=true) (hs:x.ex.size≤1000):
  Calls Tryz.prog 130 #[.agg #[.string x.cl,.int .i64 x.ix,.int .i64 x.ex.d.op,.string x.ex.d.tb,.string x.ex.d.nm,.int .i64 x.ex.d.ix,.int .i64 x.ex.d.vk,.int .i64 x.ex.d.vi,.string x.ex.d.vt,.slice A n c]] w fun r w'=>r= .returned (.string x.tx)∧Ext w w':=by
 have HE:=hid (fun W (hW:Ext w W)=>expr_any x.ex 1 A n c W (hv.ext hW) hf hs (hg.ext hW))
 have hts:(x.ex.tx 1).size≤100000:=by have:=tx_size x.ex 1 hf;omega
 unfold Asg.tx
 clear hg hv hf hs
 unfold Nd.val at*
 generalize x.ex.tx 1=T at*
 generalize x.ex.d=d at*
 obtain⟨op,tb,nm,ix,vk,vi,vt⟩:=d
 simp only at*
 have HB:=hid (Blk.of_new w 82 [.string x.cl,.int .i64 x.ix,.int .i64 op,.string tb,.string nm,.int .i64 ix,.int .i64 vk,.int .i64 vi,.string vt,.slice A n c])
 have HX:=hid ((Ext.refl w).alloc (.cells #[.string x.cl,.int .i64 x.ix,.int .i64 op,.string tb,.string nm,.int .i64 ix,.int .i64 vk,.int .i64 vi,.string vt,.slice A n c] 82))
 go_enter Tryz.func130,Tryz.ntmps130
 go_wp2_with fail
 generalize w.alloc (.cells _ 82)=w1 at*
 generalize w.heap.size=g at*
 have H1:Hid (∀z:Later w1,Calls Tryz.prog 131 _ z.now _):=fun z=>HE.out z.now (HX.out.trans z.ext)
 obtain⟨k0,-,k2,k3,k4,k5,k6,k7,k8,k9,-⟩:=lks HB.out
 refine wp_region_later (by kernel_rfl) (by kernel_rfl) ?_
 repeat (go_big_quiet_step ((go_at_call 131;with_reducible exact later_of (H1.out _))))
 refine wpQuiet_nil ?_
 intro w5 hw5
 have hx5:=later_out hw5
 clear hw5
 go_wp2_with fail
 go_ret
 exact⟨rfl,HX.out.trans hx5⟩
theorem ent_asgt:Ent 130:=fun _ _=>by kernel_rfl
theorem words_any (n:Int) (w:World) (h:2≤n∧n≤5):Calls Tryz.prog 210 #[.int .i64 n] w fun r w'=>r= .returned (.string (agW n))∧Ext w w':=by
 have h4:n=2∨n=3∨n=4∨n=5:=by omega
 clear h
 rcases h4 with rfl|rfl|rfl|rfl
 ·have x0:∀w:World,(Instr.index 214 (.agg #[.string ⟨#[]⟩,.string ⟨#[]⟩,.string ⟨#[67,79,85,78,84]⟩,.string ⟨#[83,85,77]⟩,.string ⟨#[77,73,78]⟩,.string ⟨#[77,65,88]⟩]) (.int .i64 2)).run Tryz.prog w= .ok (.string ⟨#[67,79,85,78,84]⟩) w:=fun _=>by kernel_rfl
  go_enter Tryz.func210,Tryz.ntmps210
  go_wp2_with fail
  go_ret
  exact⟨rfl,Ext.refl w⟩
 ·have x0:∀w:World,(Instr.index 214 (.agg #[.string ⟨#[]⟩,.string ⟨#[]⟩,.string ⟨#[67,79,85,78,84]⟩,.string ⟨#[83,85,77]⟩,.string ⟨#[77,73,78]⟩,.string ⟨#[77,65,88]⟩]) (.int .i64 3)).run Tryz.prog w= .ok (.string ⟨#[83,85,77]⟩) w:=fun _=>by kernel_rfl
  go_enter Tryz.func210,Tryz.ntmps210
  go_wp2_with fail
  go_ret
  exact⟨rfl,Ext.refl w⟩
 ·have x0:∀w:World,(Instr.index 214 (.agg #[.string ⟨#[]⟩,.string ⟨#[]⟩,.string ⟨#[67,79,85,78,84]⟩,.string ⟨#[83,85,77]⟩,.string ⟨#[77,73,78]⟩,.string ⟨#[77,65,88]⟩]) (.int .i64 4)).run Tryz.prog w= .ok (.string ⟨#[77,73,78]⟩) w:=fun _=>by kernel_rfl
  go_enter Tryz.func210,Tryz.ntmps210
  go_wp2_with fail
  go_ret
  exact⟨rfl,Ext.refl w⟩
 ·have x0:∀w:World,(Instr.index 214 (.agg #[.string ⟨#[]⟩,.string ⟨#[]⟩,.string ⟨#[67,79,85,78,84]⟩,.string ⟨#[83,85,77]⟩,.string ⟨#[77,73,78]⟩,.string ⟨#[77,65,88]⟩]) (.int .i64 5)).run Tryz.prog w= .ok (.string ⟨#[77,65,88]⟩) w:=fun _=>by kernel_rfl
  go_enter Tryz.func210,Tryz.ntmps210
  go_wp2_with fail
  go_ret
  exact⟨rfl,Ext.refl w⟩
theorem itmt_any (x:Itm) (A:Option Addr) (n c:Nat) (w:World) (hg:Gd w) (hv:ExV w x.ex A n c) (hf:x.ok=true) (hs:x.ex.size≤1000):
  Calls Tryz.prog 209 #[.agg #[.int .i64 x.ag,.int .i64 x.ex.d.op,.string x.ex.d.tb,.string x.ex.d.nm,.int .i64 x.ex.d.ix,.int .i64 x.ex.d.vk,.int .i64 x.ex.d.vi,.string x.ex.d.vt,.slice A n c]] w fun r w'=>r= .returned (.string x.tx)∧Ext w w':=by
 obtain⟨ag,ex⟩:=x
 unfold Itm.ok at hf
 unfold Itm.tx
 simp only at*
 by_cases h1:ag=1
 ·subst h1
  clear hf hs hv
  generalize ex.d=d at*
  obtain⟨op,tb,nm,ix,vk,vi,vt⟩:=d
  simp only at*
  go_enter Tryz.func209,Tryz.ntmps209
  go_wp2_with fail
  go_ret
  exact⟨rfl,(Ext.refl w).alloc _⟩
 ·rw[if_neg (by simpa using h1)]at hf
  rw[if_neg h1]
  simp only[Bool.and_eq_true,decide_eq_true_eq]at hf
  have HE:=hid (fun W (hW:Ext w W)=>expr_any ex 1 A n c W (hv.ext hW) hf.2 hs (hg.ext hW))
  have hts:(ex.tx 1).size≤100000:=by have:=tx_size ex 1 hf.2;omega
  by_cases h0:ag=0
  ·subst h0
   clear hf hs hv h1
   unfold Nd.val at*
   generalize ex.tx 1=T at*
   generalize ex.d=d at*
   obtain⟨op,tb,nm,ix,vk,vi,vt⟩:=d
   simp only at*
   go_enter Tryz.func209,Tryz.ntmps209
   go_wp2_with (go_at_call 131;refine(HE.out _ ((Ext.refl w).alloc _)).mono ?_;rintro _ w2 ⟨rfl,hx2⟩)
   go_ret
   exact⟨rfl,((Ext.refl w).alloc _).trans hx2⟩
  ·rw[if_neg h0]
   have HW:=hid (fun W=>words_any ag W ⟨by omega,hf.1.2⟩)
   have hws:=Nat.le_trans (agW_size ag) (show 5≤1000 by omega)
   have e1:(ag==1)=false:=by simpa using h1
   have e0:(ag==0)=false:=by simpa using h0
   clear hf hs hv h1 h0
   unfold Nd.val at*
   generalize agW ag=V at*
   generalize ex.tx 1=T at*
   generalize ex.d=d at*
   obtain⟨op,tb,nm,ix,vk,vi,vt⟩:=d
   simp only at*
   have HB:=hid (Blk.of_new w 84 [.int .i64 ag,.int .i64 op,.string tb,.string nm,.int .i64 ix,.int .i64 vk,.int .i64 vi,.string vt,.slice A n c])
   have HX:=hid ((Ext.refl w).alloc (.cells #[.int .i64 ag,.int .i64 op,.string tb,.string nm,.int .i64 ix,.int .i64 vk,.int .i64 vi,.string vt,.slice A n c] 84))
   go_enter Tryz.func209,Tryz.ntmps209
   go_wp2_with fail
   generalize w.alloc (.cells _ 84)=w1 at*
   generalize w.heap.size=g at*
   have H1:Hid (∀z:Later w1,Calls Tryz.prog 131 _ z.now _):=fun z=>HE.out z.now (HX.out.trans z.ext)
   have H2:Hid (∀z:Later w1,Calls Tryz.prog 210 _ z.now _):=fun z=>HW.out z.now
   obtain⟨k0,k1,k2,k3,k4,k5,k6,k7,k8,-⟩:=lks HB.out
   refine wp_region_later (by kernel_rfl) (by kernel_rfl) ?_
   repeat (go_big_quiet_step (first|(go_at_call 131;with_reducible exact later_of (H1.out _))|(go_at_call 210;with_reducible exact later_of (H2.out _))))
   refine wpQuiet_nil ?_
   intro w5 hw5
   have hx5:=later_out hw5
   clear hw5
   go_wp2_with fail
   go_ret
   exact⟨rfl,HX.out.trans hx5⟩
theorem ent_itmt:Ent 209:=fun _ _=>by kernel_rfl
theorem srct_any (x:Src) (w:World) (hc:x.tb.size≤1000∧x.al.size≤1000):
  Calls Tryz.prog 212 #[.agg #[.string x.tb,.string x.al]] w fun r w'=>r= .returned (.string x.tx)∧Ext w w':=by
 obtain⟨tb,al⟩:=x
 unfold Src.tx
 simp only at*
 obtain⟨h1,h2⟩:=hc
 by_cases h0:al.size=0
 ·rw[if_pos h0]
  obtain rfl:=empty_yes h0
  go_enter Tryz.func212,Tryz.ntmps212
  go_wp2_with fail
  go_ret
  exact⟨rfl,(Ext.refl w).alloc _⟩
 ·rw[if_neg h0]
  have t1:=empty_no h0
  have t2:=empty_no2 h0
  clear h0
  go_enter Tryz.func212,Tryz.ntmps212
  go_wp2_with fail
  go_ret
  exact⟨rfl,(Ext.refl w).alloc _⟩
theorem ent_srct:Ent 212:=fun _ _=>by kernel_rfl
theorem ordt_any (x:Ord') (w:World) (hg:Gd w) (hf:x.ok=true):
  Calls Tryz.prog 214 #[.agg #[.int .i64 x.it,.bool x.ds]] w fun r w'=>r= .returned (.string x.tx)∧Ext w w':=by
 obtain⟨it,ds⟩:=x
 unfold Ord'.tx
 unfold Ord'.ok at hf
 rw[inB_iff]at hf
 simp only at*
 have HN:=hid (fun W (hW:Ext w W)=>number_any it W ((hg.ext hW).can ⟨by omega,by omega⟩))
 have hz:=Nat.le_trans (itoB_size it (by omega) (by omega)) (show 21≤1000 by omega)
 generalize itoB it=T at*
 clear hg hf
 cases ds
 all_goals
  go_enter Tryz.func214,Tryz.ntmps214
  go_wp2_with (go_at_call 202;refine(HN.out _ ((Ext.refl w).alloc _)).mono ?_;rintro _ w2 ⟨rfl,hx2⟩)
  go_ret
  exact⟨rfl,((Ext.refl w).alloc _).trans hx2⟩
theorem ent_ordt:Ent 214:=fun _ _=>by kernel_rfl
theorem where_any (s:St) (a:SA) (w:World) (hg:Gd w) (hv:ExV w s.whr a.whr.A a.whr.n a.whr.c) (hf:s.whr.absent=true∨s.whr.formed=true) (hs:s.whr.size≤1000):
  Calls Tryz.prog 132 #[s.val a] w fun r w'=>r= .returned (.string s.whT)∧Ext w w':=by
 have HA:=hid (fun W (hW:Ext w W)=>absent_any s.whr a.whr.A a.whr.n a.whr.c W (hv.ext hW))
 unfold St.whT
 have HB:=hid (Blk.of_new w 40 (s.cells a))
 have HX:=hid ((Ext.refl w).alloc (.cells (s.cells a).toArray 40))
 unfold St.val at*
 unfold St.cells Sl.v at*
 unfold Nd.val at HA
 cases hab:s.whr.absent
 ·have hf2:=hf.resolve_left (by rw[hab];simp)
  have HE:=hid (fun W (hW:Ext w W)=>expr_any s.whr 1 a.whr.A a.whr.n a.whr.c W (hv.ext hW) hf2 hs (hg.ext hW))
  have hts:(s.whr.tx 1).size≤100000:=by have:=tx_size s.whr 1 hf2;omega
  unfold Nd.val at HE
  rw[hab]at HA
  clear hg hv hf hs hab hf2
  unfold sWhere
  simp only[Bool.false_eq_true,if_false]
  generalize s.whr.tx 1=T at*
  go_enter Tryz.func132,Tryz.ntmps132
  go_wp2_with (first|(go_at_call 116;refine(HA.out _ HX.out).mono ?_;rintro _ w3 ⟨rfl,hx3⟩;obtain⟨-,-,-,-,-,-,-,-,-,-,c10,c11,c12,c13,c14,c15,c16,c17,-⟩:=cls (HB.out.ext hx3))|(go_at_call 131;refine(HE.out _ (HX.out.trans hx3)).mono ?_;rintro _ w4 ⟨rfl,hx4⟩))
  go_ret
  exact⟨rfl,(HX.out.trans hx3).trans hx4⟩
 ·rw[hab]at HA
  clear hg hv hf hs hab
  simp only[if_true]
  go_enter Tryz.func132,Tryz.ntmps132
  go_wp2_with (go_at_call 116;refine(HA.out _ HX.out).mono ?_;rintro _ w3 ⟨rfl,hx3⟩)
  go_ret
  exact⟨rfl,HX.out.trans hx3⟩
theorem strV_app (l:List ByteArray) (x:ByteArray):strV (l++ [x])=strV l++ [.string x]:=by unfold strV;rw[List.map_append];rfl
theorem sumS_cma (l:List ByteArray):sumS l≤(cma l).size+2:=by
 cases l with
 |nil=>exact Nat.zero_le _
 |cons x l=>show sumS (x::l)≤(l.foldl _ x).size+2;rw[foldl_size,sumS];omega
theorem own_ne {w:World} {B e sz n:Nat} {v:Value} {xs:List Value} (h:w.ownsRow B e sz v n xs):some w.heap.size≠v.ownBlock:=fun he=>by have:=(h.lt _ he.symm).2;omega
theorem blk3 {w:World} {g t:Nat} {x y z:Value} (h:Blk w g t [x,y,z]):w.cell? ⟨g,0,none⟩=some x∧w.cell? ⟨g,1,none⟩=some y∧w.cell? ⟨g,2,none⟩=some z:=
 ⟨h.cell_some (i:=0) rfl,h.cell_some (i:=1) rfl,h.cell_some (i:=2) rfl⟩
set_option maxHeartbeats 8000000 in
theorem elements_any (s:St) (a:SA) (w:World) (hg:Gd w) (hv:StV w s a) (hk:CapK w a.keys.A a.keys.n) (hr:CapR w a.frs.A a.frs.n) (hok:s.defOk=true) (hb:s.cols.length+s.keys.length+s.frs.length+s.chk.length≤1048576) (hz:sumS s.elts≤400000000) (hs:sizeL s.chk≤1000):
  Calls Tryz.prog 125 #[.agg #[a.cols.v,a.keys.v,a.frs.v,a.chk.v]] w fun r w'=>r= .returned (.string (cma s.elts))∧Ext w w':=by
 obtain⟨i0,hi,hz0,hz1,hz2⟩:=info_parts info_str
 have HX:=hid ((Ext.refl w).alloc (.cells #[.slice a.cols.A a.cols.n a.cols.c,.slice a.keys.A a.keys.n a.keys.c,.slice a.frs.A a.frs.n a.frs.c,.slice a.chk.A a.chk.n a.chk.c] 29))
 have HL1:=hid hv.cols.1
 have HL2:=hid hv.keys.1
 have HL3:=hid hv.frs.1
 have HL4:=hid hv.chk.1
 have HK1:=hid (hv.cols.2.2.ext HX.out)
 have HK2:=hid (hv.keys.2.2.ext HX.out)
 have HK3:=hid (hv.frs.2.2.ext HX.out)
 have HK4:=hid (hv.chk.2.2.ext HX.out)
 have HCK:=hid (hk.ext HX.out)
 have HCR:=hid (hr.ext HX.out)
 have HGd:=hid (hg.ext HX.out)
 have HS4:=hid hs
 have HZ:=hid hz
 rw[hv.cols.1,hv.keys.1,hv.frs.1,hv.chk.1]at hb
 unfold St.defOk at hok
 simp only[Bool.and_eq_true]at hok
 have HOK1:=hid hok.1.1.1.2
 have HOK3:=hid hok.1.2
 have HOK4:=hid hok.2
 have HMK:Hid (∀x∈s.keys,keyT x∈s.elts):=fun x hx=>by unfold St.elts;simp only[List.mem_append];exact .inl (.inl (.inr (List.mem_map_of_mem hx)))
 have HMR:Hid (∀x∈s.frs,Rf.tx x∈s.elts):=fun x hx=>by unfold St.elts;simp only[List.mem_append];exact .inl (.inr (List.mem_map_of_mem hx))
 have HB:=hid (Blk.of_new w 29 [.slice a.cols.A a.cols.n a.cols.c,.slice a.keys.A a.keys.n a.keys.c,.slice a.frs.A a.frs.n a.frs.c,.slice a.chk.A a.chk.n a.chk.c])
 clear hg hv hk hr hok hz hs
 unfold Sl.v
 generalize a.cols.A=cA at*
 generalize a.keys.A=kA at*
 generalize a.frs.A=fA at*
 generalize a.chk.A=xA at*
 go_enter Tryz.func125,Tryz.ntmps125
 go_wp2_with fail
 generalize w.alloc (.cells _ 29)=w1 at*
 go_loopw [3,16] (fun nv iv wr=> ∃(k:Nat),k≤a.cols.n∧iv= .int .i64 k∧wr.ownsRow w1.heap.size 9 1 nv (k) (strV ((s.cols.take k).map Cd.tx))∧Ext w1 wr) (fun _ i _=>a.cols.n- (intOf i).toNat)
 case atStart=>exact⟨0,Nat.zero_le _,rfl,World.ownsRow_nil _ _ _ _,Ext.refl w1⟩
 case round=>
  obtain⟨k,hkn,rfl,hown,hxr⟩:=hrel
  have HO:=hid hown
  have HXr:=hid hxr
  clear hown
  by_cases hlt:k<a.cols.n
  ·obtain⟨x,hx⟩:=rat_lt HL1.out hlt
   obtain⟨⟨hc1,hc2,hc3,hc4,hc5⟩,b,off,rfl,q0,q1,q2,q3,q4,q5⟩:=(HK1.out.ext hxr) k x hx
   have HT:Hid ((s.cols.take (k+1)).map Cd.tx=((s.cols.take k).map Cd.tx)++ [Cd.tx x]):=by unfold Hid;rw[takeA hx,List.map_append];rfl
   have hok:=List.all_eq_true.1 HOK1.out x (List.mem_of_getElem? hx)
   have hnm:x.nm.size≤1000:=Nat.le_trans (cd_nm hok) (by omega)
   have hty:=cd_ty hok
   have hlo:=Nat.le_trans (itoB_size x.lo hc3.1 hc3.2) (show 21≤1000 by omega)
   have hhi:=Nat.le_trans (itoB_size x.hi hc4.1 hc4.2) (show 21≤1000 by omega)
   have hmx:=Nat.le_trans (itoB_size x.mx hc5.1 hc5.2) (show 21≤1000 by omega)
   have HN1:=hid (fun W (hW:Ext w1 W)=>number_any x.lo W ((HGd.out.ext hW).can hc3))
   have HN2:=hid (fun W (hW:Ext w1 W)=>number_any x.hi W ((HGd.out.ext hW).can hc4))
   have HN3:=hid (fun W (hW:Ext w1 W)=>number_any x.mx W ((HGd.out.ext hW).can hc5))
   have HTx:Hid (Cd.tx x=if x.nn=true then (if x.ty=1 then x.nm++⟨#[32,73,78,84,69,71,69,82,40]⟩++itoB x.lo++⟨#[44,32]⟩++itoB x.hi++⟨#[41]⟩else x.nm++⟨#[32,84,69,88,84,40]⟩++itoB x.mx++⟨#[41]⟩)++⟨#[32,78,79,84,32,78,85,76,76]⟩else (if x.ty=1 then x.nm++⟨#[32,73,78,84,69,71,69,82,40]⟩++itoB x.lo++⟨#[44,32]⟩++itoB x.hi++⟨#[41]⟩else x.nm++⟨#[32,84,69,88,84,40]⟩++itoB x.mx++⟨#[41]⟩)):=rfl
   clear hx hxr hc1 hc2 hc3 hc4 hc5 hok
   generalize Cd.tx x=TX at*
   generalize itoB x.lo=T1 at*
   generalize itoB x.hi=T2 at*
   generalize itoB x.mx=T3 at*
   obtain⟨nm,ty,lo,hi',mx,nn⟩:=x
   simp only at*
   have HB2:=hid (Blk.of_new wr 99 [.string nm,.int .i64 ty,.int .i64 lo,.int .i64 hi',.int .i64 mx,.bool nn])
   have HX2:=hid ((Ext.refl wr).alloc (.cells #[.string nm,.int .i64 ty,.int .i64 lo,.int .i64 hi',.int .i64 mx,.bool nn] 99))
   go_wp2_with fail
   generalize wr.alloc (.cells _ 99)=w2 at*
   generalize wr.heap.size=g2 at*
   have H1:Hid (∀z:Later w2,Calls Tryz.prog 202 _ z.now _):=fun z=>HN1.out z.now (HXr.out.trans (HX2.out.trans z.ext))
   have H2:Hid (∀z:Later w2,Calls Tryz.prog 202 _ z.now _):=fun z=>HN2.out z.now (HXr.out.trans (HX2.out.trans z.ext))
   obtain⟨l0,l1,l2,l3,l4,l5,-⟩:=lks HB2.out
   refine wp_region_later (by kernel_rfl) (by kernel_rfl) ?_
   repeat (go_big_quiet_step (first|(go_at_call 202;with_reducible exact later_of (H1.out _))|(go_at_call 202;with_reducible exact later_of (H2.out _))))
   refine wpQuiet_nil ?_
   intro w3 hw9
   have hx9:=later_out hw9
   clear hw9
   clear l0 l1 l2 l3 l4 l5 H1 H2 HN1 HN2 q0 q1 q2 q3 q4 q5
   replace HB2:=hid (HB2.out.ext hx9)
   replace HX2:=hid (HX2.out.trans hx9)
   clear hx9
   have hbz:(nm++⟨#[32,73,78,84,69,71,69,82,40]⟩++T1++⟨#[44,32]⟩++T2++⟨#[41]⟩).size≤10000:=by simp only[ByteArray.size_append];show nm.size+9+T1.size+2+T2.size+1≤_;omega
   generalize nm++⟨#[32,73,78,84,69,71,69,82,40]⟩++T1++⟨#[44,32]⟩++T2++⟨#[41]⟩=TB at*
   rcases hty with rfl|rfl
   ·cases nn
    ·have hT:=HTx.out
     clear HTx
     simp only[if_true,Bool.false_eq_true,if_false,(by decide:¬(2:Int)=1)]at hT
     rw[hT]at HT
     clear hT
     obtain⟨e0,e1,e2,e3,e4,e5,-⟩:=cls (HB2.out)
     have HO1:=hid ((ownN_ext HO.out HX2.out).alloc (.cells #[.string TB] 9))
     have HRd:=hid (reads_new1 w3 (.string TB) 9)
     go_wp2_with (at_builtin;refine wpList_append_any _ rfl (.tmp 48) (.tmp 50) 101 rfl w1.heap.size 9 i0 _ 1 16 Tryz.underlying101 hi hz0 hz1 hz2 rfl (by decide) _ (k) _ rfl HO1.out _ _ 1 1 [.string TB] rfl HRd.out (by simp[Value.oneCell']) (by unfold maxLen;omega) (by omega) (Nat.le_trans (HXr.out.trans HX2.out).size (by simp)) ?_;intro v1 w5 hown5 hgr5 hblk5;have HO5:=hid hown5;have HG5:=hid hgr5;clear hown5 hgr5 hblk5)
     go_roundw
     case rel=>
      have hge:=own_atN HO.out
      refine⟨k+1,by omega,by go_num,?_,((HXr.out.trans HX2.out).alloc _).grown HG5.out fun q hq=>hge q hq⟩
      rw[HT.out,strV_app]
      exact HO5.out
     case measure=>simp[intOf];omega
    ·have hT:=HTx.out
     clear HTx
     simp only[if_true,Bool.false_eq_true,if_false,(by decide:¬(2:Int)=1)]at hT
     rw[hT]at HT
     clear hT
     obtain⟨e0,e1,e2,e3,e4,e5,-⟩:=cls (HB2.out)
     have HO1:=hid ((ownN_ext HO.out HX2.out).alloc (.cells #[.string (TB++⟨#[32,78,79,84,32,78,85,76,76]⟩)] 9))
     have HRd:=hid (reads_new1 w3 (.string (TB++⟨#[32,78,79,84,32,78,85,76,76]⟩)) 9)
     go_wp2_with (at_builtin;refine wpList_append_any _ rfl (.tmp 48) (.tmp 50) 101 rfl w1.heap.size 9 i0 _ 1 16 Tryz.underlying101 hi hz0 hz1 hz2 rfl (by decide) _ (k) _ rfl HO1.out _ _ 1 1 [.string (TB++⟨#[32,78,79,84,32,78,85,76,76]⟩)] rfl HRd.out (by simp[Value.oneCell']) (by unfold maxLen;omega) (by omega) (Nat.le_trans (HXr.out.trans HX2.out).size (by simp)) ?_;intro v1 w5 hown5 hgr5 hblk5;have HO5:=hid hown5;have HG5:=hid hgr5;clear hown5 hgr5 hblk5)
     go_roundw
     case rel=>
      have hge:=own_atN HO.out
      refine⟨k+1,by omega,by go_num,?_,((HXr.out.trans HX2.out).alloc _).grown HG5.out fun q hq=>hge q hq⟩
      rw[HT.out,strV_app]
      exact HO5.out
     case measure=>simp[intOf];omega
   ·cases nn
    ·have hT:=HTx.out
     clear HTx
     simp only[if_true,Bool.false_eq_true,if_false,(by decide:¬(2:Int)=1)]at hT
     rw[hT]at HT
     clear hT
     obtain⟨e0,e1,e2,e3,e4,e5,-⟩:=cls (HB2.out)
     go_wp2_with fail
     clear e0 e1 e2 e3 e4 e5
     have H3:Hid (∀z:Later w3,Calls Tryz.prog 202 _ z.now _):=fun z=>HN3.out z.now (HXr.out.trans (HX2.out.trans z.ext))
     obtain⟨l0,l1,l2,l3,l4,l5,-⟩:=lks HB2.out
     refine wp_region_later (by kernel_rfl) (by kernel_rfl) ?_
     repeat (go_big_quiet_step ((go_at_call 202;with_reducible exact later_of (H3.out _))))
     refine wpQuiet_nil ?_
     intro w4 hw9
     have hx9:=later_out hw9
     clear hw9
     have hcz:(nm++⟨#[32,84,69,88,84,40]⟩++T3++⟨#[41]⟩).size≤10000:=by simp only[ByteArray.size_append];show nm.size+6+T3.size+1≤_;omega
     generalize nm++⟨#[32,84,69,88,84,40]⟩++T3++⟨#[41]⟩=TC at*
     clear l0 l1 l2 l3 l4 l5 H3
     replace HB2:=hid (HB2.out.ext hx9)
     replace HX2:=hid (HX2.out.trans hx9)
     clear hx9
     obtain⟨e0,e1,e2,e3,e4,e5,-⟩:=cls (HB2.out)
     have HO1:=hid ((ownN_ext HO.out HX2.out).alloc (.cells #[.string TC] 9))
     have HRd:=hid (reads_new1 w4 (.string TC) 9)
     go_wp2_with (at_builtin;refine wpList_append_any _ rfl (.tmp 48) (.tmp 50) 101 rfl w1.heap.size 9 i0 _ 1 16 Tryz.underlying101 hi hz0 hz1 hz2 rfl (by decide) _ (k) _ rfl HO1.out _ _ 1 1 [.string TC] rfl HRd.out (by simp[Value.oneCell']) (by unfold maxLen;omega) (by omega) (Nat.le_trans (HXr.out.trans HX2.out).size (by simp)) ?_;intro v1 w5 hown5 hgr5 hblk5;have HO5:=hid hown5;have HG5:=hid hgr5;clear hown5 hgr5 hblk5)
     go_roundw
     case rel=>
      have hge:=own_atN HO.out
      refine⟨k+1,by omega,by go_num,?_,((HXr.out.trans HX2.out).alloc _).grown HG5.out fun q hq=>hge q hq⟩
      rw[HT.out,strV_app]
      exact HO5.out
     case measure=>simp[intOf];omega
    ·have hT:=HTx.out
     clear HTx
     simp only[if_true,Bool.false_eq_true,if_false,(by decide:¬(2:Int)=1)]at hT
     rw[hT]at HT
     clear hT
     obtain⟨e0,e1,e2,e3,e4,e5,-⟩:=cls (HB2.out)
     go_wp2_with fail
     clear e0 e1 e2 e3 e4 e5
     have H3:Hid (∀z:Later w3,Calls Tryz.prog 202 _ z.now _):=fun z=>HN3.out z.now (HXr.out.trans (HX2.out.trans z.ext))
     obtain⟨l0,l1,l2,l3,l4,l5,-⟩:=lks HB2.out
     refine wp_region_later (by kernel_rfl) (by kernel_rfl) ?_
     repeat (go_big_quiet_step ((go_at_call 202;with_reducible exact later_of (H3.out _))))
     refine wpQuiet_nil ?_
     intro w4 hw9
     have hx9:=later_out hw9
     clear hw9
     have hcz:(nm++⟨#[32,84,69,88,84,40]⟩++T3++⟨#[41]⟩).size≤10000:=by simp only[ByteArray.size_append];show nm.size+6+T3.size+1≤_;omega
     generalize nm++⟨#[32,84,69,88,84,40]⟩++T3++⟨#[41]⟩=TC at*
     clear l0 l1 l2 l3 l4 l5 H3
     replace HB2:=hid (HB2.out.ext hx9)
     replace HX2:=hid (HX2.out.trans hx9)
     clear hx9
     obtain⟨e0,e1,e2,e3,e4,e5,-⟩:=cls (HB2.out)
     have HO1:=hid ((ownN_ext HO.out HX2.out).alloc (.cells #[.string (TC++⟨#[32,78,79,84,32,78,85,76,76]⟩)] 9))
     have HRd:=hid (reads_new1 w4 (.string (TC++⟨#[32,78,79,84,32,78,85,76,76]⟩)) 9)
     go_wp2_with (at_builtin;refine wpList_append_any _ rfl (.tmp 48) (.tmp 50) 101 rfl w1.heap.size 9 i0 _ 1 16 Tryz.underlying101 hi hz0 hz1 hz2 rfl (by decide) _ (k) _ rfl HO1.out _ _ 1 1 [.string (TC++⟨#[32,78,79,84,32,78,85,76,76]⟩)] rfl HRd.out (by simp[Value.oneCell']) (by unfold maxLen;omega) (by omega) (Nat.le_trans (HXr.out.trans HX2.out).size (by simp)) ?_;intro v1 w5 hown5 hgr5 hblk5;have HO5:=hid hown5;have HG5:=hid hgr5;clear hown5 hgr5 hblk5)
     go_roundw
     case rel=>
      have hge:=own_atN HO.out
      refine⟨k+1,by omega,by go_num,?_,((HXr.out.trans HX2.out).alloc _).grown HG5.out fun q hq=>hge q hq⟩
      rw[HT.out,strV_app]
      exact HO5.out
     case measure=>simp[intOf];omega
  ·obtain rfl:k=a.cols.n:=by omega
   rw[List.take_of_length_le (Nat.le_of_eq HL1.out)]at HO
   have cb:=(HB.out.ext hxr).cell 1
   simp only[List.getElem?_cons_succ,List.getElem?_cons_zero]at cb
   go_wp2_with fail
   clear cb hxr
   have HOp:=HO
   have HXp:=HXr
   clear HO HXr
   go_loopw [3,56] (fun nv iv wr=> ∃(k:Nat),k≤a.keys.n∧iv= .int .i64 k∧wr.ownsRow w1.heap.size 9 1 nv (a.cols.n+k) (strV (s.cols.map Cd.tx++(s.keys.take k).map keyT))∧Ext w1 wr) (fun _ i _=>a.keys.n- (intOf i).toNat)
   case atStart=>exact⟨0,Nat.zero_le _,rfl,by simpa using HOp.out,HXp.out⟩
   case round=>
    obtain⟨k,hkn,rfl,hown,hxr⟩:=hrel
    have HO:=hid hown
    have HXr:=hid hxr
    clear hown
    by_cases hlt:k<a.keys.n
    ·obtain⟨x,hx⟩:=rat_lt HL2.out hlt
     obtain⟨b,off,Ai,ni,ci,hA,q0,h1,h2,h3⟩:=(HK2.out.ext hxr) k x hx
     have hcp:=HCK.out.ext hxr
     rw[hA]at hcp
     have hcap:=hcp.at hlt q0
     have HT:Hid (s.cols.map Cd.tx++(s.keys.take (k+1)).map keyT=(s.cols.map Cd.tx++(s.keys.take k).map keyT)++ [keyT x]):=by unfold Hid;rw[takeA hx,List.map_append];exact(List.append_assoc _ _ _).symm
     have hsz:=sumS_mem (HMK.out x (List.mem_of_getElem? hx))
     have hs2:sumS x≤(cma x).size+2:=sumS_cma x
     have hkz:(keyT x).size=8+(cma x).size+1:=by unfold keyT;rw[ByteArray.size_append,ByteArray.size_append];rfl
     have hJz:(cma x).size≤1000000000:=by have:=HZ.out;omega
     have HJ:=hid (join_at x Ai ni ci wr h1 hcap h3 (by have:=HZ.out;omega))
     have HTx:Hid (keyT x=⟨#[85,78,73,81,85,69,32,40]⟩++cma x++⟨#[41]⟩):=rfl
     clear hx hxr h1 h2 h3 hcp hcap hsz hs2 hkz
     generalize cma x=T1 at*
     subst hA
     have hT:=HTx.out
     clear HTx
     rw[hT]at HT
     clear hT
     have HX2:Hid (Ext wr wr):=Ext.refl wr
     go_wp2_with (first|(go_at_call 203;refine HJ.out.mono ?_;rintro _ w2 ⟨rfl,hx2⟩;replace HX2:Hid (Ext wr w2):=hx2)|(at_builtin;generalize ⟨#[85,78,73,81,85,69,32,40]⟩++T1++⟨#[41]⟩=TB at*;refine wpList_append_any _ rfl (.tmp 60) (.tmp 65) 101 rfl w1.heap.size 9 i0 _ 1 16 Tryz.underlying101 hi hz0 hz1 hz2 rfl (by decide) _ (a.cols.n+k) _ rfl ((ownN_ext HO.out HX2.out).alloc _) _ _ 1 1 [.string TB] rfl (reads_new1 w2 _ _) (by simp[Value.oneCell']) (by unfold maxLen;omega) (by omega) (Nat.le_trans (HXr.out.trans HX2.out).size (by simp)) ?_;intro v1 w5 hown5 hgr5 hblk5;have HO5:=hid hown5;have HG5:=hid hgr5;clear hown5 hgr5 hblk5))
     go_roundw
     case rel=>
      have hge:=own_atN HO.out
      refine⟨k+1,by omega,by go_num,?_,((HXr.out.trans HX2.out).alloc _).grown HG5.out fun q hq=>hge q hq⟩
      rw[HT.out,strV_app]
      exact HO5.out
     case measure=>simp[intOf];omega
    ·obtain rfl:k=a.keys.n:=by omega
     rw[List.take_of_length_le (Nat.le_of_eq HL2.out)]at HO
     have cb:=(HB.out.ext hxr).cell 2
     simp only[List.getElem?_cons_succ,List.getElem?_cons_zero]at cb
     go_wp2_with fail
     clear cb hxr
     have HOp:=HO
     have HXp:=HXr
     clear HO HXr
     go_loopw [3,71] (fun nv iv wr=> ∃(k:Nat),k≤a.frs.n∧iv= .int .i64 k∧wr.ownsRow w1.heap.size 9 1 nv (a.cols.n+a.keys.n+k) (strV (s.cols.map Cd.tx++s.keys.map keyT++(s.frs.take k).map Rf.tx))∧Ext w1 wr) (fun _ i _=>a.frs.n- (intOf i).toNat)
     case atStart=>exact⟨0,Nat.zero_le _,rfl,by simpa using HOp.out,HXp.out⟩
     case round=>
      obtain⟨k,hkn,rfl,hown,hxr⟩:=hrel
      have HO:=hid hown
      have HXr:=hid hxr
      clear hown
      by_cases hlt:k<a.frs.n
      ·obtain⟨x,hx⟩:=rat_lt HL3.out hlt
       obtain⟨h0,b,off,A1,n1,c1,A2,n2,c2,hA,q0,q1,q2,h1,h2,h3,h4,h5,h6⟩:=(HK3.out.ext hxr) k x hx
       have hcp:=HCR.out.ext hxr
       rw[hA]at hcp
       have hcap:=hcp.at hlt q0 q2
       have HT:Hid (s.cols.map Cd.tx++s.keys.map keyT++(s.frs.take (k+1)).map Rf.tx=(s.cols.map Cd.tx++s.keys.map keyT++(s.frs.take k).map Rf.tx)++ [Rf.tx x]):=by unfold Hid;rw[takeA hx,List.map_append];exact(List.append_assoc _ _ _).symm
       have hsz:=sumS_mem (HMR.out x (List.mem_of_getElem? hx))
       have hok:=List.all_eq_true.1 HOK3.out x (List.mem_of_getElem? hx)
       have hs1:sumS x.cs≤(cma x.cs).size+2:=sumS_cma x.cs
       have hs2:sumS x.tg≤(cma x.tg).size+2:=sumS_cma x.tg
       have htb:x.tb.size≤1000:=Nat.le_trans (rf_nm hok) (by omega)
       have hkz:x.tx.size=13+(cma x.cs).size+13+x.tb.size+2+(cma x.tg).size+1:=by unfold Rf.tx;simp only[ByteArray.size_append];rfl
       have hJ1:(cma x.cs).size≤500000000:=by have:=HZ.out;omega
       have hJ2:(cma x.tg).size≤500000000:=by have:=HZ.out;omega
       have HJ1:=hid (fun W (hW:Ext wr W)=>join_at x.cs A1 n1 c1 W h1 hcap.1 (h3.ext hW) (by omega))
       have HJ2:=hid (fun W (hW:Ext wr W)=>join_at x.tg A2 n2 c2 W h4 hcap.2 (h6.ext hW) (by omega))
       have HTx:Hid (Rf.tx x=⟨#[70,79,82,69,73,71,78,32,75,69,89,32,40]⟩++cma x.cs++⟨#[41,32,82,69,70,69,82,69,78,67,69,83,32]⟩++x.tb++⟨#[32,40]⟩++cma x.tg++⟨#[41]⟩):=rfl
       clear hx hxr h0 h1 h2 h3 h4 h5 h6 hcp hcap hsz hs1 hs2 hkz hok
       generalize cma x.cs=T1 at*
       generalize cma x.tg=T2 at*
       generalize x.tb=tb at*
       subst hA
       have hT:=HTx.out
       clear HTx
       rw[hT]at HT
       clear hT
       have HB2:=hid (Blk.of_new wr 103 [.slice A1 n1 c1,.string tb,.slice A2 n2 c2])
       have HX2:=hid ((Ext.refl wr).alloc (.cells #[.slice A1 n1 c1,.string tb,.slice A2 n2 c2] 103))
       have HOw:=hid (ownN_ext HO.out HX2.out)
       have HNE:=hid (own_ne HO.out)
       go_wp2_with fail
       generalize wr.alloc (.cells _ 103)=w2 at*
       generalize wr.heap.size=g2 at*
       obtain⟨e0,e1,e2,-⟩:=cls (HB2.out)
       go_region_held_law (fun w'=>w'.cell? ⟨g2,0,none⟩=some (.slice A1 n1 c1)∧w'.cell? ⟨g2,1,none⟩=some (.string tb)∧w'.cell? ⟨g2,2,none⟩=some (.slice A2 n2 c2))
        (first|go_keep|exact blk3 (HB2.out.ext hx3)|exact blk3 ((HB2.out.ext hx3).ext hx4)|exact blk3 (((HB2.out.ext hx3).ext hx4).ext ((Ext.refl _).alloc _))|exact blk3 ((((HB2.out.ext hx3).ext hx4).ext ((Ext.refl _).alloc _)).grown hgr5 HNE.out))
        (first
         |(go_at_call 203;(with_reducible refine(HJ2.out _ (HX2.out.trans hx3)).mono ?_);rintro _ w4 ⟨rfl,hx4⟩)
         |(go_at_call 203;(with_reducible refine(HJ1.out _ HX2.out.drew).mono ?_);rintro _ w3 ⟨rfl,hx3⟩;replace hx3:Ext w2 w3:=(Ext.refl w2).drew.trans hx3)
         |(generalize ⟨#[70,79,82,69,73,71,78,32,75,69,89,32,40]⟩++T1++⟨#[41,32,82,69,70,69,82,69,78,67,69,83,32]⟩++tb++⟨#[32,40]⟩++T2++⟨#[41]⟩=TB at*;refine step_append_any _ rfl (.tmp 75) (.tmp 90) 101 rfl w1.heap.size 9 i0 _ 1 16 Tryz.underlying101 hi hz0 hz1 hz2 rfl (by decide) _ (a.cols.n+a.keys.n+k) _ rfl ((ownN_ext HOw.out (hx3.trans hx4)).alloc _) _ _ 1 1 [.string TB] rfl (reads_new1 w4 _ _) (by simp[Value.oneCell']) (by unfold maxLen;omega) (by omega) (Nat.le_trans (HXr.out.trans (HX2.out.trans (hx3.trans hx4))).size (by simp)) ?_;intro v1 w5 hown5 hgr5 hblk5))
       all_goals
        have HO5:=hid hown5
        have HG5:=hid hgr5
        replace HX2:=hid (HX2.out.trans (hx3.trans hx4))
        rename_i hHeld
        clear hHeld hown5 hgr5 hblk5 e0 e1 e2
        go_wp2_with fail
        go_roundw
        case rel=>
         have hge:=own_atN HO.out
         refine⟨k+1,by omega,by go_num,?_,((HXr.out.trans HX2.out).alloc _).grown HG5.out fun q hq=>hge q hq⟩
         rw[HT.out,strV_app]
         exact HO5.out
        case measure=>simp[intOf];omega
      ·obtain rfl:k=a.frs.n:=by omega
       rw[List.take_of_length_le (Nat.le_of_eq HL3.out)]at HO
       have cb:=(HB.out.ext hxr).cell 3
       simp only[List.getElem?_cons_succ,List.getElem?_cons_zero]at cb
       go_wp2_with fail
       clear cb hxr
       have HOp:=HO
       have HXp:=HXr
       clear HO HXr
       go_loopw [3,96] (fun nv iv wr=> ∃(k:Nat),k≤a.chk.n∧iv= .int .i64 k∧wr.ownsRow w1.heap.size 9 1 nv (a.cols.n+a.keys.n+a.frs.n+k) (strV (s.cols.map Cd.tx++s.keys.map keyT++s.frs.map Rf.tx++(s.chk.take k).map chkT))∧Ext w1 wr) (fun _ i _=>a.chk.n- (intOf i).toNat)
       case atStart=>exact⟨0,Nat.zero_le _,rfl,by simpa using HOp.out,HXp.out⟩
       case round=>
        obtain⟨k,hkn,rfl,hown,hxr⟩:=hrel
        have HO:=hid hown
        have HXr:=hid hxr
        clear hown
        by_cases hlt:k<a.chk.n
        ·obtain⟨x,hx⟩:=rat_lt HL4.out hlt
         obtain⟨b,off,Ai,ni,ci,rfl,q0,q1,q2,q3,q4,q5,q6,q7,h1⟩:=(HK4.out.ext hxr).get hx
         have HT:Hid (s.cols.map Cd.tx++s.keys.map keyT++s.frs.map Rf.tx++(s.chk.take (k+1)).map chkT=(s.cols.map Cd.tx++s.keys.map keyT++s.frs.map Rf.tx++(s.chk.take k).map chkT)++ [chkT x]):=by unfold Hid;rw[takeA hx,List.map_append];exact(List.append_assoc _ _ _).symm
         have hf:=List.all_eq_true.1 HOK4.out x (List.mem_of_getElem? hx)
         have hxs:=sizeL_mem (List.mem_of_getElem? hx)
         have HE:=hid (fun W (hW:Ext wr W)=>expr_any x 1 Ai ni ci W (h1.ext hW) hf (by have:=HS4.out;omega) (HGd.out.ext (HXr.out.trans hW)))
         have hJz:(x.tx 1).size≤100000:=by have:=tx_size x 1 hf;have:=HS4.out;omega
         have HTx:Hid (chkT x=⟨#[67,72,69,67,75,32,40]⟩++x.tx 1++⟨#[41]⟩):=rfl
         clear hx hxr h1 hf hxs
         unfold Nd.val at HE
         generalize x.tx 1=T1 at*
         have hT:=HTx.out
         clear HTx
         rw[hT]at HT
         clear hT
         generalize x.d=d at*
         obtain⟨op,tb,nm,ix,vk,vi,vt⟩:=d
         simp only at*
         go_wp2_with (first|(go_at_call 131;(with_reducible refine(HE.out _ ((Ext.refl wr).alloc _)).mono ?_);rintro _ w2 ⟨rfl,hx2⟩;have HX2:Hid (Ext wr w2):=((Ext.refl wr).alloc _).trans hx2)|(at_builtin;generalize ⟨#[67,72,69,67,75,32,40]⟩++T1++⟨#[41]⟩=TB at*;refine wpList_append_any _ rfl (.tmp 100) (.tmp 105) 101 rfl w1.heap.size 9 i0 _ 1 16 Tryz.underlying101 hi hz0 hz1 hz2 rfl (by decide) _ (a.cols.n+a.keys.n+a.frs.n+k) _ rfl ((ownN_ext HO.out HX2.out).alloc _) _ _ 1 1 [.string TB] rfl (reads_new1 w2 _ _) (by simp[Value.oneCell']) (by unfold maxLen;omega) (by omega) (Nat.le_trans (HXr.out.trans HX2.out).size (by simp)) ?_;intro v1 w5 hown5 hgr5 hblk5;have HO5:=hid hown5;have HG5:=hid hgr5;clear hown5 hgr5 hblk5))
         go_roundw
         case rel=>
          have hge:=own_atN HO.out
          refine⟨k+1,by omega,by go_num,?_,((HXr.out.trans HX2.out).alloc _).grown HG5.out fun q hq=>hge q hq⟩
          rw[HT.out,strV_app]
          exact HO5.out
         case measure=>simp[intOf];omega
        ·obtain rfl:k=a.chk.n:=by omega
         rw[List.take_of_length_le (Nat.le_of_eq HL4.out)]at HO
         have HJ:=hid (join_own s.elts _ _ _ wr HO.out (by have:=HZ.out;exact Nat.le_trans this (by omega)))
         go_wp2_with (go_at_call 203;refine HJ.out.mono ?_;rintro _ w2 ⟨rfl,hx2⟩)
         go_ret
         exact⟨rfl,HX.out.trans (HXr.out.trans hx2)⟩
end Go.Proofs.YtjigcpfjhfoheaaGreatDoor
