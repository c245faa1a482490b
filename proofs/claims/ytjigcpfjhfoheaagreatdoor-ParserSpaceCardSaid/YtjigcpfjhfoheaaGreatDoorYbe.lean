/- Walks: the text of a query, and of a statement; Walks: the reference's texts of queries; Walks: Valid and Format of a statement, the program's and the reference's; Walks: EqualFunc, for the slices of a statement, and its closures;. -/
import Derived.Test.YtjigcpfjhfoheaaGreatDoorYbd
import Derived.Test.YtjigcpfjhfoheaaGreatDoorYba
import Derived.Test.YtjigcpfjhfoheaaGreatDoorYai
import Derived.Test.YtjigcpfjhfoheaaGreatDoorYbb
import Derived.Test.YtjigcpfjhfoheaaGreatDoorYae
import Derived.Test.YtjigcpfjhfoheaaGreatDoorYaj
import Derived.Test.YtjigcpfjhfoheaaGreatDoorYag
import Derived.Deep.RegionHeld3
import Derived.BigRegion
namespace Go.Proofs.YtjigcpfjhfoheaaGreatDoor
open Go.RowKit
set_option maxHeartbeats 4000000
set_option maxRecDepth 100000
set_option linter.unusedVariables false
set_option linter.unusedSimpArgs false
theorem gz (s:St) (h:s.bulk≤1048576):s.tb.size≤1048576∧s.nm.size≤1048576∧sumB fq s.cols+sumB bkK s.keys+sumB iE s.frs+sizeL s.chk≤1048576∧sumB bkR s.vals≤1048576∧sumB bkA s.sets≤1048576∧sumB bkI s.itms≤1048576∧sumB bkF s.frm≤1048576∧sumB bkO s.ord≤1048576:=by
 unfold St.bulk at h;omega
theorem fg (s:St) (h:s.bulk≤1048576):s.cols.length+s.keys.length+s.frs.length+s.chk.length≤1048576∧s.vals.length≤1048576∧s.sets.length≤1048576∧s.itms.length+s.frm.length+s.grp.length+s.ord.length≤1048576:=by
 have b:∀l:List Ex,l.length≤sizeL l:=fun l=>by rw[←fe];exact bv (fun a=>cz a) l
 have i:=bv (bk:=fq) (fun a=>by unfold fq;omega) s.cols
 have f:=bv (bk:=bkK) (fun a=>by unfold bkK;omega) s.keys
 have k:=bv (bk:=iE) (fun a=>by unfold iE;omega) s.frs
 have p:=b s.chk
 have m:=bv (bk:=bkR) (fun a=>by unfold bkR;omega) s.vals
 have o:=bv (bk:=bkA) (fun a=>by unfold bkA;omega) s.sets
 have n:=bv (bk:=bkI) (fun a=>by unfold bkI;omega) s.itms
 have j:=bv (bk:=bkF) (fun a=>by unfold bkF;omega) s.frm
 have g:=b s.grp
 have e:=bv (bk:=bkO) (fun a=>by unfold bkO;omega) s.ord
 unfold St.bulk at h
 omega
theorem jO (s:St) (b:s.whr.absent=true∨s.whr.formed=true) (hs:s.whr.size≤1000):s.whT.size≤100000:=by
 unfold St.whT
 split
 ·exact Nat.zero_le _
 ·rename_i h
  have a:=b.resolve_left h
  have:=cg s.whr 1 a
  rw[ByteArray.size_append]
  show 7+_≤_
  omega
theorem q_parts {s:St} (h:s.qOk=true):s.itms.all Itm.ok=true∧s.frm.all Src.ok=true∧s.grp.all Ex.formed=true∧s.ord.all Ord'.ok=true∧0≤s.lim∧s.lim≤2147483648:=by
 unfold St.qOk at h
 simp only[Bool.and_eq_true,gw]at h
 refine⟨h.1.1.1.1.1,h.1.1.1.2,List.all_eq_true.2 fun e a=>?_,h.1.2,h.2⟩
 have:=List.all_eq_true.1 h.1.1.2 e a
 unfold colX at this
 simp only[Bool.and_eq_true]at this
 exact this.2
theorem src_nm {x:Src} (h:x.ok=true):x.tb.size≤1000∧x.al.size≤1000:=by
 unfold Src.ok at h
 simp only[Bool.and_eq_true,Bool.or_eq_true]at h
 refine⟨Nat.le_trans (bj h.1) (by omega),?_⟩
 rcases h.2 with h|h
 ·rw[←cO]at h;have:x.al.size=0:=by simpa using h
  omega
 ·exact Nat.le_trans (bj h) (by omega)
theorem asg_nm {x:Asg} (h:x.ok=true):x.cl.size≤1000∧x.ex.formed=true:=by
 unfold Asg.ok at h
 simp only[Bool.and_eq_true]at h
 exact⟨Nat.le_trans (bj h.1) (by omega),h.2⟩
theorem mG (s:St) (b:s.itms.all Itm.ok=true) (g:sumB bkI s.itms≤1048576):s.itT.size≤104857600:=by
 unfold St.itT
 split
 ·show 1≤_;omega
 ·have f:=a8 (s.itms.map Itm.tx)
  have e:=bc Itm.tx bkI 100 s.itms fun x a=>mE (List.all_eq_true.1 b x a)
  omega
theorem sel_any (s:St) (a:SA) (w:World) (C:Gd w) (f:StV w s a) (hq:s.qOk=true) (hw:s.whr.absent=true∨s.whr.formed=true) (D:s.Fits) (hb:s.bulk≤1048576):
  Calls Tryz.prog 133 #[s.val a] w fun r w'=>r= .returned (.string s.sel)∧Ext w w':=by
 obtain⟨p,Q,B,m,Z,ad⟩:=q_parts hq
 have J:=gz s hb
 have ac:=fg s hb
 have H1:=hid (fun W (j:Ext w W)=>ls_itm 209 ent_itmt Itm.tx s.itms a.itms.A a.itms.n a.itms.c W f.itms.1 (by have:=f.itms.1;omega) (f.itms.2.2.ext j) (Nat.le_trans (bc Itm.tx bkI 100 s.itms fun x l=>mE (List.all_eq_true.1 p x l)) (by omega)) fun x l H t Ai ni ci V=>itmt_any x Ai ni ci H (C.ext (j.trans t)) V (List.all_eq_true.1 p x l) (D.itms x l))
 have H2:=hid (fun W (j:Ext w W)=>ls_src 212 ent_srct Src.tx s.frm a.frm.A a.frm.n a.frm.c W f.frm.1 (by have:=f.frm.1;omega) (f.frm.2.2.ext j) (Nat.le_trans (bc Src.tx bkF 100 s.frm fun x l=>jJ x) (by omega)) fun x l H t V=>srct_any x H (src_nm (List.all_eq_true.1 Q x l)))
 have H3:=hid (fun W (j:Ext w W)=>kL s a W (C.ext j) (f.whr.ext j) hw D.whr)
 have H4:=hid (fun W (j:Ext w W)=>kK s.grp a.grp.A a.grp.n a.grp.c W (C.ext j) f.grp.1 (f.grp.2.2.ext j) B D.grp)
 have H5:=hid (fun W (j:Ext w W)=>ls_ord 214 ent_ordt Ord'.tx s.ord a.ord.A a.ord.n a.ord.c W f.ord.1 (by have:=f.ord.1;omega) (f.ord.2.2.ext j) (Nat.le_trans (bc Ord'.tx bkO 100 s.ord fun x l=>jK (List.all_eq_true.1 m x l)) (by omega)) fun x l H t V=>ordt_any x H (C.ext (j.trans t)) (List.all_eq_true.1 m x l))
 have H6:=hid (fun W (j:Ext w W)=>number_any s.lim W ((C.ext j).can f.lim))
 have z1:=mG s p J.2.2.2.2.2.1
 have z2:(cma (s.frm.map Src.tx)).size≤104857600:=Nat.le_trans (a8 _) (Nat.le_trans (bc Src.tx bkF 100 s.frm fun x l=>jJ x) (by omega))
 have z3:=jO s hw D.whr
 have z4:(exsT s.grp).size≤100000:=Nat.le_trans (a8 _) (Nat.le_trans (gx B) (by have:=D.grp;omega))
 have z5:(cma (s.ord.map Ord'.tx)).size≤104857600:=Nat.le_trans (a8 _) (Nat.le_trans (bc Ord'.tx bkO 100 s.ord fun x l=>jK (List.all_eq_true.1 m x l)) (by omega))
 have z6:=Nat.le_trans (br s.lim (by omega) (by omega)) (show 21≤1000 by omega)
 have D0:Hid (s.sel0=⟨#[83,69,76,69,67,84,32]⟩++s.itT++⟨#[32,70,82,79,77,32]⟩++cma (s.frm.map Src.tx)++s.whT):=rfl
 have G:Hid (s.sel1=if s.grp.length=0 then s.sel0 else s.sel0++(⟨#[32,71,82,79,85,80,32,66,89,32]⟩++exsT s.grp)):=rfl
 have P:Hid (s.sel2=if s.ord.length=0 then s.sel1 else s.sel1++(⟨#[32,79,82,68,69,82,32,66,89,32]⟩++cma (s.ord.map Ord'.tx))):=rfl
 have D3:Hid (s.sel=if 0<s.lim then s.sel2++(⟨#[32,76,73,77,73,84,32]⟩++itoB s.lim)else s.sel2):=rfl
 have U:Hid (s.itT=if s.itms.length=0 then ⟨#[42]⟩else cma (s.itms.map Itm.tx)):=rfl
 rw[f.grp.1]at G
 rw[f.ord.1]at P
 rw[f.itms.1]at U
 have y0:s.sel0.size≤300000000:=by
  rw[D0.out];simp only[ByteArray.size_append];show 7+_+6+_+_≤_;omega
 have y1:s.sel1.size≤300100100:=by
  rw[G.out];refine aG _ _ _ _ (by omega) ?_;simp only[ByteArray.size_append];show _+(10+_)≤_;omega
 have y2:s.sel2.size≤500000000:=by
  rw[P.out];refine aG _ _ _ _ (by omega) ?_;simp only[ByteArray.size_append];show _+(10+_)≤_;omega
 have k:=hid (Blk.of_new w 40 (s.cells a))
 have HX:=hid ((Ext.refl w).alloc (.cells (s.cells a).toArray 40))
 clear C f hq hw D hb p Q B m Z ad J ac
 unfold St.val at*
 unfold St.cells Sl.v at*
 generalize s.sel=O3 at*
 generalize s.sel2=O2 at*
 generalize s.sel1=O1 at*
 generalize s.sel0=O0 at*
 generalize s.itT=TI at*
 generalize s.whT=TW at*
 generalize cma (s.frm.map Src.tx)=TS at*
 generalize exsT s.grp=TG at*
 generalize cma (s.ord.map Ord'.tx)=TO at*
 generalize itoB s.lim=TL at*
 generalize cma (s.itms.map Itm.tx)=an at*
 go_enter Tryz.func133,Tryz.ntmps133
 go_upto_region 1 with fail
 generalize w.alloc (.cells _ 40)=w1 at*
 generalize w.heap.size=g at*
 have p8:=(k).cell 8
 simp only[List.getElem?_cons_succ,List.getElem?_cons_zero]at p8
 go_upto_if 8 with fail
 go_cut [3] from 5 to 11 (fun F O=>F= .string TI∧Ext w1 O)
 case first=>
  by_cases q:0<a.itms.n
  ·have e:=U.out
   rw[if_neg (by omega)]at e
   subst e
   go_wp2_with (go_at_call 208;(with_reducible refine(H1.out _ HX.out).mono ?_);rintro _ Y ⟨rfl,h⟩)
   go_meet
   exact⟨rfl,h⟩
  ·have e:=U.out
   rw[if_pos (by omega)]at e
   subst e
   go_wp2_with fail
   go_meet
   exact⟨rfl,Ext.refl _⟩
 case rest=>
  obtain⟨rfl,b⟩:=hcut
  generalize wc=wa at*
  have y:=hid (HX.trans b)
  replace k:=hid (k.ext b)
  clear b H1 U p8
  go_upto_region 4 with fail
  have K2:Hid (∀z:ae wa,Calls Tryz.prog 211 _ z.now _):=fun z=>H2 z.now (y.trans z.ext)
  have K3:Hid (∀z:ae wa,Calls Tryz.prog 132 _ z.now _):=fun z=>H3 z.now (y.trans z.ext)
  have l9:=ae.keep (k.cell_some (i:=9) rfl)
  refine aa (by kernel_rfl) (by kernel_rfl) ?_
  repeat (first|(refine bT rfl 40 (.tmp 1) rfl g rfl 40 _ _ (dO k) Tryz.underlying40 rfl (by kernel_rfl) ?_;go_simp)|go_big_quiet_step (first|(go_at_call 211;with_reducible exact am (K2.out _))|(go_at_call 132;with_reducible exact am (K3.out _))))
  refine wpQuiet_nil ?_
  first|(intro wb K;have o:=af K;clear K)|(intro xb;have o:=xb.ext;generalize xb.now=wb at*;clear xb)
  have X:=D0.out
  generalize ⟨#[83,69,76,69,67,84,32]⟩++TI++⟨#[32,70,82,79,77,32]⟩++TS++TW=TX at*
  subst X
  replace k:=hid (k.ext o)
  have L:=hid (y.trans o)
  clear o K2 K3 H2 H3 l9 D0
  have I:=(k).cell 18
  simp only[List.getElem?_cons_succ,List.getElem?_cons_zero]at I
  go_upto_if 25 with fail
  go_cut [4] from 22 to 31 (fun F O=>F= .string O1∧Ext wb O)
  case first=>
   by_cases q:0<a.grp.n
   ·have e:=G.out
    rw[if_neg (by omega)]at e
    go_wp2_with (go_at_call 128;(with_reducible refine(H4.out _ L.out).mono ?_);rintro _ Y ⟨rfl,h⟩)
    go_meet
    exact⟨by rw[e],h⟩
   ·have e:=G.out
    rw[if_pos (by omega)]at e
    subst e
    go_wp2_with fail
    go_meet
    exact⟨rfl,Ext.refl _⟩
  case rest=>
   obtain⟨rfl,b⟩:=hcut
   generalize wc=wd at*
   have E:=hid (L.trans b)
   replace k:=hid (k.ext b)
   clear b H4 G I y0
   have R:=(k).cell 19
   simp only[List.getElem?_cons_succ,List.getElem?_cons_zero]at R
   go_upto_if 35 with fail
   go_cut [4] from 32 to 41 (fun F O=>F= .string O2∧Ext wd O)
   case first=>
    by_cases q:0<a.ord.n
    ·have e:=P.out
     rw[if_neg (by omega)]at e
     go_wp2_with (go_at_call 213;(with_reducible refine(H5.out _ E.out).mono ?_);rintro _ Y ⟨rfl,h⟩)
     go_meet
     exact⟨by rw[e],h⟩
    ·have e:=P.out
     rw[if_pos (by omega)]at e
     subst e
     go_wp2_with fail
     go_meet
     exact⟨rfl,Ext.refl _⟩
   case rest=>
    obtain⟨rfl,b⟩:=hcut
    generalize wc=we at*
    have u:=hid (E.trans b)
    replace k:=hid (k.ext b)
    clear b H5 P R y1
    have ag:=(k).cell 20
    simp only[List.getElem?_cons_succ,List.getElem?_cons_zero]at ag
    have e:=D3.out
    by_cases q:0<s.lim
    ·rw[if_pos q]at e
     have hd:decide (0<s.lim)=true:=by simpa using q
     clear q
     go_wp2_with (go_at_call 202;(with_reducible refine(H6.out _ u.out).mono ?_);rintro _ Y ⟨rfl,h⟩)
     go_ret
     exact⟨dy e.symm,u.trans h⟩
    ·rw[if_neg q]at e
     have hd:decide (0<s.lim)=false:=by simpa using q
     clear q
     subst e
     go_wp2_with fail
     go_ret
     exact⟨rfl,u⟩
theorem form_any (s:St) (a:SA) (w:World) (E:Gd w) (u:StV w s a) (j:CapK w a.keys.A a.keys.n) (l:CapR w a.frs.A a.frs.n) (H:s.formed=true) (C:s.Fits) (J:s.bulk≤1048576):
  Calls Tryz.prog 65 #[s.val a] w fun r w'=>r= .returned (.string s.body)∧Ext w w':=by
 have b:=dA H
 have f:=gz s J
 have h:=fg s J
 have t:=hid (Blk.of_new w 40 (s.cells a))
 have y:=hid ((Ext.refl w).alloc (.cells (s.cells a).toArray 40))
 have z1:s.tb.size≤1048576:=f.1
 have z2:s.nm.size≤1048576:=f.2.1
 have z3:=jO s (gY H) C.whr
 have L:=hid (fun W (D:Ext w W)=>kL s a W (E.ext D) (u.whr.ext D) (gY H) C.whr)
 have k:s.kd=1∨s.kd=2∨s.kd=3∨s.kd=4∨s.kd=5∨s.kd=6∨s.kd=7∨s.kd=8∨s.kd=9∨s.kd=10∨s.kd=11:=by have:=b.1;omega
 have ag:=k
 rcases ag with hk|hk|hk|hk|hk|hk|hk|hk|hk|hk|hk
 ·have e:s.body=⟨#[67,82,69,65,84,69,32,84,65,66,76,69,32]⟩++s.tb++⟨#[32,40]⟩++cma s.elts++⟨#[41]⟩:=by unfold St.body;simp[hk]
  rw[e]
  have hd:=b.2.1 hk
  have B:=Nat.le_trans (kI hd) (show _≤104857600 by omega)
  have z4:(cma s.elts).size≤104857600:=Nat.le_trans (a8 _) B
  have HE:=hid (fun W (D:Ext w W)=>lv s a W (E.ext D) (u.ext D) (j.ext D) (l.ext D) hd h.1 (by omega) C.chk)
  clear hd B L
  generalize cma s.elts=TE at*
  have X:(s.kd==1)=true:=by simp[hk]
  have Z:(s.kd==2)=false:=by simp[hk]
  have O:(s.kd==3)=false:=by simp[hk]
  have R:(s.kd==4)=false:=by simp[hk]
  have Q:(s.kd==5)=false:=by simp[hk]
  have e6:(s.kd==6)=false:=by simp[hk]
  have U:(s.kd==7)=false:=by simp[hk]
  have P:(s.kd==8)=false:=by simp[hk]
  have Y:(s.kd==9)=false:=by simp[hk]
  have p:(s.kd==10)=false:=by simp[hk]
  clear E u hk j l H C J b f h e k
  unfold St.val at*
  unfold St.cells Sl.v at*
  go_enter Tryz.func65,Tryz.ntmps65
  go_upto_region 1 with fail
  generalize w.alloc (.cells _ 40)=F at*
  generalize w.heap.size=g at*
  obtain⟨V,-,-,-,-,-,-,-,-,-,-,-,-,-,-,-,-,-,-,-,-,q,-⟩:=cls (t)
  go_wp2_with fail
  have K1:Hid (∀z:ae F,Calls Tryz.prog 125 _ z.now _):=fun z=>HE z.now (y.trans z.ext)
  obtain⟨-,l1,l2,l3,l4,l5,-⟩:=lks t
  refine aa (by kernel_rfl) (by kernel_rfl) ?_
  repeat (first|(refine bT rfl 40 (.tmp 1) rfl g rfl 40 _ _ (dO t) Tryz.underlying40 rfl (by kernel_rfl) ?_;go_simp)|go_big_quiet_step (first|(go_at_call 125;with_reducible exact am (K1.out _))))
  refine wpQuiet_nil ?_
  first|(intro wb o;have m:=af o;clear o)|(intro I;have m:=I.ext;generalize I.now=wb at*;clear I)
  go_wp2_with fail
  go_ret
  exact⟨rfl,y.trans m⟩
 ·have e:s.body=⟨#[73,78,83,69,82,84,32,73,78,84,79,32]⟩++s.tb++⟨#[32,86,65,76,85,69,83,32]⟩++cma (s.vals.map gX):=by unfold St.body;simp[hk]
  rw[e]
  have G:=b.2.2.2.1 hk
  have ac:∀x∈s.vals,x.all Ex.formed=true:=fun x K=>by have:=List.all_eq_true.1 G x K;unfold rowOk at this;simp only[Bool.and_eq_true]at this;exact this.2
  have B:=Nat.le_trans (bc gX bkR 100 s.vals fun x K=>mB (ac x K)) (show _≤104857600 by omega)
  have z4:(cma (s.vals.map gX)).size≤104857600:=Nat.le_trans (a8 _) B
  have HE:=hid (fun W (D:Ext w W)=>ls_row 127 ent_rowt gX s.vals a.vals.A a.vals.n a.vals.c W u.vals.1 (by have:=u.vals.1;omega) (u.vals.2.2.ext D) (by omega) fun x K W2 ad Ai ni ci hc=>rowt_any x Ai ni ci W2 (E.ext (D.trans ad)) hc.1 hc.2 (ac x K) (C.vals x K))
  clear G ac B L
  generalize cma (s.vals.map gX)=TE at*
  have X:(s.kd==1)=false:=by simp[hk]
  have Z:(s.kd==2)=true:=by simp[hk]
  have O:(s.kd==3)=false:=by simp[hk]
  have R:(s.kd==4)=false:=by simp[hk]
  have Q:(s.kd==5)=false:=by simp[hk]
  have e6:(s.kd==6)=false:=by simp[hk]
  have U:(s.kd==7)=false:=by simp[hk]
  have P:(s.kd==8)=false:=by simp[hk]
  have Y:(s.kd==9)=false:=by simp[hk]
  have p:(s.kd==10)=false:=by simp[hk]
  clear E u hk j l H C J b f h e k
  unfold St.val at*
  unfold St.cells Sl.v at*
  go_enter Tryz.func65,Tryz.ntmps65
  go_upto_region 1 with fail
  generalize w.alloc (.cells _ 40)=F at*
  generalize w.heap.size=g at*
  obtain⟨V,-,-,-,-,-,-,-,-,-,-,-,-,-,-,-,-,-,-,-,-,q,-⟩:=cls (t)
  go_wp2_with fail
  have K1:Hid (∀z:ae F,Calls Tryz.prog 126 _ z.now _):=fun z=>HE z.now (y.trans z.ext)
  obtain⟨-,l1,-,-,-,-,l6,-⟩:=lks t
  refine aa (by kernel_rfl) (by kernel_rfl) ?_
  repeat (first|(refine bT rfl 40 (.tmp 1) rfl g rfl 40 _ _ (dO t) Tryz.underlying40 rfl (by kernel_rfl) ?_;go_simp)|go_big_quiet_step (first|(go_at_call 126;with_reducible exact am (K1.out _))))
  refine wpQuiet_nil ?_
  first|(intro wb o;have m:=af o;clear o)|(intro I;have m:=I.ext;generalize I.now=wb at*;clear I)
  go_wp2_with fail
  go_ret
  exact⟨rfl,y.trans m⟩
 ·have e:s.body=⟨#[85,80,68,65,84,69,32]⟩++s.tb++⟨#[32,83,69,84,32]⟩++cma (s.sets.map Asg.tx)++s.whT:=by unfold St.body;simp[hk]
  rw[e]
  have G:=b.2.2.2.2.2.1 hk
  have B:=Nat.le_trans (bc Asg.tx bkA 100 s.sets fun x K=>mC (List.all_eq_true.1 G x K)) (show _≤104857600 by omega)
  have z4:(cma (s.sets.map Asg.tx)).size≤104857600:=Nat.le_trans (a8 _) B
  have HE:=hid (fun W (D:Ext w W)=>ls_asg 130 ent_asgt Asg.tx s.sets a.sets.A a.sets.n a.sets.c W u.sets.1 (by have:=u.sets.1;omega) (u.sets.2.2.ext D) (by omega) fun x K W2 ad Ai ni ci hc=>asgt_any x Ai ni ci W2 (E.ext (D.trans ad)) (asg_nm (List.all_eq_true.1 G x K)).1 hc (asg_nm (List.all_eq_true.1 G x K)).2 (C.sets x K))
  clear G B
  generalize cma (s.sets.map Asg.tx)=TE at*
  generalize s.whT=TW at*
  have X:(s.kd==1)=false:=by simp[hk]
  have Z:(s.kd==2)=false:=by simp[hk]
  have O:(s.kd==3)=true:=by simp[hk]
  have R:(s.kd==4)=false:=by simp[hk]
  have Q:(s.kd==5)=false:=by simp[hk]
  have e6:(s.kd==6)=false:=by simp[hk]
  have U:(s.kd==7)=false:=by simp[hk]
  have P:(s.kd==8)=false:=by simp[hk]
  have Y:(s.kd==9)=false:=by simp[hk]
  have p:(s.kd==10)=false:=by simp[hk]
  clear E u hk j l H C J b f h e k
  unfold St.val at*
  unfold St.cells Sl.v at*
  go_enter Tryz.func65,Tryz.ntmps65
  go_upto_region 1 with fail
  generalize w.alloc (.cells _ 40)=F at*
  generalize w.heap.size=g at*
  obtain⟨V,-,-,-,-,-,-,-,-,-,-,-,-,-,-,-,-,-,-,-,-,q,-⟩:=cls (t)
  go_wp2_with fail
  have K1:Hid (∀z:ae F,Calls Tryz.prog 129 _ z.now _):=fun z=>HE z.now (y.trans z.ext)
  have K2:Hid (∀z:ae F,Calls Tryz.prog 132 _ z.now _):=fun z=>L z.now (y.trans z.ext)
  obtain⟨-,l1,-,-,-,-,-,l7,-⟩:=lks t
  refine aa (by kernel_rfl) (by kernel_rfl) ?_
  repeat (first|(refine bT rfl 40 (.tmp 1) rfl g rfl 40 _ _ (dO t) Tryz.underlying40 rfl (by kernel_rfl) ?_;go_simp)|go_big_quiet_step (first|(go_at_call 129;with_reducible exact am (K1.out _))|(go_at_call 132;with_reducible exact am (K2.out _))))
  refine wpQuiet_nil ?_
  first|(intro wb o;have m:=af o;clear o)|(intro I;have m:=I.ext;generalize I.now=wb at*;clear I)
  go_wp2_with fail
  go_ret
  exact⟨rfl,y.trans m⟩
 ·have e:s.body=iS++s.tb++s.whT:=by unfold St.body;simp[hk]
  rw[e]
  generalize s.whT=TW at*
  unfold iS
  have X:(s.kd==1)=false:=by simp[hk]
  have Z:(s.kd==2)=false:=by simp[hk]
  have O:(s.kd==3)=false:=by simp[hk]
  have R:(s.kd==4)=true:=by simp[hk]
  have Q:(s.kd==5)=false:=by simp[hk]
  have e6:(s.kd==6)=false:=by simp[hk]
  have U:(s.kd==7)=false:=by simp[hk]
  have P:(s.kd==8)=false:=by simp[hk]
  have Y:(s.kd==9)=false:=by simp[hk]
  have p:(s.kd==10)=false:=by simp[hk]
  clear E u hk j l H C J b f h e k
  unfold St.val at*
  unfold St.cells Sl.v at*
  go_enter Tryz.func65,Tryz.ntmps65
  go_upto_region 1 with fail
  generalize w.alloc (.cells _ 40)=F at*
  generalize w.heap.size=g at*
  obtain⟨V,-,-,-,-,-,-,-,-,-,-,-,-,-,-,-,-,-,-,-,-,q,-⟩:=cls (t)
  go_wp2_with fail
  have K2:Hid (∀z:ae F,Calls Tryz.prog 132 _ z.now _):=fun z=>L z.now (y.trans z.ext)
  have l1:=ae.keep (t.cell_some (i:=1) rfl)
  refine aa (by kernel_rfl) (by kernel_rfl) ?_
  repeat (first|(refine bT rfl 40 (.tmp 1) rfl g rfl 40 _ _ (dO t) Tryz.underlying40 rfl (by kernel_rfl) ?_;go_simp)|go_big_quiet_step (first|(go_at_call 132;with_reducible exact am (K2.out _))))
  refine wpQuiet_nil ?_
  first|(intro wb o;have m:=af o;clear o)|(intro I;have m:=I.ext;generalize I.now=wb at*;clear I)
  go_wp2_with fail
  go_ret
  exact⟨rfl,y.trans m⟩
 ·have e:s.body=s.sel:=by unfold St.body;simp[hk]
  rw[e]
  have HE:=hid (fun W (D:Ext w W)=>sel_any s a W (E.ext D) (u.ext D) (b.2.2.2.2.2.2.2.1 hk) (gY H) C J)
  clear L z3
  generalize s.sel=TE at*
  have X:(s.kd==1)=false:=by simp[hk]
  have Z:(s.kd==2)=false:=by simp[hk]
  have O:(s.kd==3)=false:=by simp[hk]
  have R:(s.kd==4)=false:=by simp[hk]
  have Q:(s.kd==5)=true:=by simp[hk]
  have e6:(s.kd==6)=false:=by simp[hk]
  have U:(s.kd==7)=false:=by simp[hk]
  have P:(s.kd==8)=false:=by simp[hk]
  have Y:(s.kd==9)=false:=by simp[hk]
  have p:(s.kd==10)=false:=by simp[hk]
  clear E u hk j l H C J b f h e k
  unfold St.val at*
  unfold St.cells Sl.v at*
  go_enter Tryz.func65,Tryz.ntmps65
  go_upto_region 1 with fail
  generalize w.alloc (.cells _ 40)=F at*
  generalize w.heap.size=g at*
  obtain⟨V,-,-,-,-,-,-,-,-,-,-,-,-,-,-,-,-,-,-,-,-,q,-⟩:=cls (t)
  go_wp2_with (first|(refine aw rfl 40 (.tmp 1) rfl g rfl 40 _ _ t Tryz.underlying40 rfl (by kernel_rfl) ?_)|(go_at_call 133;(with_reducible refine(HE.out _ y.out).mono ?_);rintro _ w5 ⟨rfl,an⟩))
  go_ret
  exact⟨rfl,y.trans an⟩
 ·have e:s.body=⟨#[66,69,71,73,78]⟩:=by unfold St.body;simp[hk]
  rw[e]
  clear L z3
  have X:(s.kd==1)=false:=by simp[hk]
  have Z:(s.kd==2)=false:=by simp[hk]
  have O:(s.kd==3)=false:=by simp[hk]
  have R:(s.kd==4)=false:=by simp[hk]
  have Q:(s.kd==5)=false:=by simp[hk]
  have e6:(s.kd==6)=true:=by simp[hk]
  have U:(s.kd==7)=false:=by simp[hk]
  have P:(s.kd==8)=false:=by simp[hk]
  have Y:(s.kd==9)=false:=by simp[hk]
  have p:(s.kd==10)=false:=by simp[hk]
  clear E u hk j l H C J b f h e k
  unfold St.val at*
  unfold St.cells Sl.v at*
  go_enter Tryz.func65,Tryz.ntmps65
  go_upto_region 1 with fail
  generalize w.alloc (.cells _ 40)=F at*
  generalize w.heap.size=g at*
  obtain⟨V,-,-,-,-,-,-,-,-,-,-,-,-,-,-,-,-,-,-,-,-,q,-⟩:=cls (t)
  go_wp2_with fail
  go_ret
  exact⟨rfl,y⟩
 ·have e:s.body=⟨#[67,79,77,77,73,84]⟩:=by unfold St.body;simp[hk]
  rw[e]
  clear L z3
  have X:(s.kd==1)=false:=by simp[hk]
  have Z:(s.kd==2)=false:=by simp[hk]
  have O:(s.kd==3)=false:=by simp[hk]
  have R:(s.kd==4)=false:=by simp[hk]
  have Q:(s.kd==5)=false:=by simp[hk]
  have e6:(s.kd==6)=false:=by simp[hk]
  have U:(s.kd==7)=true:=by simp[hk]
  have P:(s.kd==8)=false:=by simp[hk]
  have Y:(s.kd==9)=false:=by simp[hk]
  have p:(s.kd==10)=false:=by simp[hk]
  clear E u hk j l H C J b f h e k
  unfold St.val at*
  unfold St.cells Sl.v at*
  go_enter Tryz.func65,Tryz.ntmps65
  go_upto_region 1 with fail
  generalize w.alloc (.cells _ 40)=F at*
  generalize w.heap.size=g at*
  obtain⟨V,-,-,-,-,-,-,-,-,-,-,-,-,-,-,-,-,-,-,-,-,q,-⟩:=cls (t)
  go_wp2_with fail
  go_ret
  exact⟨rfl,y⟩
 ·have e:s.body=⟨#[82,79,76,76,66,65,67,75]⟩:=by unfold St.body;simp[hk]
  rw[e]
  clear L z3
  have X:(s.kd==1)=false:=by simp[hk]
  have Z:(s.kd==2)=false:=by simp[hk]
  have O:(s.kd==3)=false:=by simp[hk]
  have R:(s.kd==4)=false:=by simp[hk]
  have Q:(s.kd==5)=false:=by simp[hk]
  have e6:(s.kd==6)=false:=by simp[hk]
  have U:(s.kd==7)=false:=by simp[hk]
  have P:(s.kd==8)=true:=by simp[hk]
  have Y:(s.kd==9)=false:=by simp[hk]
  have p:(s.kd==10)=false:=by simp[hk]
  clear E u hk j l H C J b f h e k
  unfold St.val at*
  unfold St.cells Sl.v at*
  go_enter Tryz.func65,Tryz.ntmps65
  go_upto_region 1 with fail
  generalize w.alloc (.cells _ 40)=F at*
  generalize w.heap.size=g at*
  obtain⟨V,-,-,-,-,-,-,-,-,-,-,-,-,-,-,-,-,-,-,-,-,q,-⟩:=cls (t)
  go_wp2_with fail
  go_ret
  exact⟨rfl,y⟩
 ·have e:s.body=⟨#[83,65,86,69,80,79,73,78,84,32]⟩++s.nm:=by unfold St.body;simp[hk]
  rw[e]
  clear L z3
  have X:(s.kd==1)=false:=by simp[hk]
  have Z:(s.kd==2)=false:=by simp[hk]
  have O:(s.kd==3)=false:=by simp[hk]
  have R:(s.kd==4)=false:=by simp[hk]
  have Q:(s.kd==5)=false:=by simp[hk]
  have e6:(s.kd==6)=false:=by simp[hk]
  have U:(s.kd==7)=false:=by simp[hk]
  have P:(s.kd==8)=false:=by simp[hk]
  have Y:(s.kd==9)=true:=by simp[hk]
  have p:(s.kd==10)=false:=by simp[hk]
  clear E u hk j l H C J b f h e k
  unfold St.val at*
  unfold St.cells Sl.v at*
  go_enter Tryz.func65,Tryz.ntmps65
  go_upto_region 1 with fail
  generalize w.alloc (.cells _ 40)=F at*
  generalize w.heap.size=g at*
  obtain⟨V,-,-,-,-,-,-,-,-,-,-,-,-,-,-,-,-,-,-,-,-,q,-⟩:=cls (t)
  go_wp2_with fail
  go_ret
  exact⟨rfl,y⟩
 ·have e:s.body=⟨#[82,79,76,76,66,65,67,75,32,84,79,32]⟩++s.nm:=by unfold St.body;simp[hk]
  rw[e]
  clear L z3
  have X:(s.kd==1)=false:=by simp[hk]
  have Z:(s.kd==2)=false:=by simp[hk]
  have O:(s.kd==3)=false:=by simp[hk]
  have R:(s.kd==4)=false:=by simp[hk]
  have Q:(s.kd==5)=false:=by simp[hk]
  have e6:(s.kd==6)=false:=by simp[hk]
  have U:(s.kd==7)=false:=by simp[hk]
  have P:(s.kd==8)=false:=by simp[hk]
  have Y:(s.kd==9)=false:=by simp[hk]
  have p:(s.kd==10)=true:=by simp[hk]
  clear E u hk j l H C J b f h e k
  unfold St.val at*
  unfold St.cells Sl.v at*
  go_enter Tryz.func65,Tryz.ntmps65
  go_upto_region 1 with fail
  generalize w.alloc (.cells _ 40)=F at*
  generalize w.heap.size=g at*
  obtain⟨V,-,-,-,-,-,-,-,-,-,-,-,-,-,-,-,-,-,-,-,-,q,-⟩:=cls (t)
  go_wp2_with fail
  go_ret
  exact⟨rfl,y⟩
 ·have e:s.body=⟨#[82,69,76,69,65,83,69,32]⟩++s.nm:=by unfold St.body;simp[hk]
  rw[e]
  clear L z3
  have X:(s.kd==1)=false:=by simp[hk]
  have Z:(s.kd==2)=false:=by simp[hk]
  have O:(s.kd==3)=false:=by simp[hk]
  have R:(s.kd==4)=false:=by simp[hk]
  have Q:(s.kd==5)=false:=by simp[hk]
  have e6:(s.kd==6)=false:=by simp[hk]
  have U:(s.kd==7)=false:=by simp[hk]
  have P:(s.kd==8)=false:=by simp[hk]
  have Y:(s.kd==9)=false:=by simp[hk]
  have p:(s.kd==10)=false:=by simp[hk]
  clear E u hk j l H C J b f h e k
  unfold St.val at*
  unfold St.cells Sl.v at*
  go_enter Tryz.func65,Tryz.ntmps65
  go_upto_region 1 with fail
  generalize w.alloc (.cells _ 40)=F at*
  generalize w.heap.size=g at*
  obtain⟨V,-,-,-,-,-,-,-,-,-,-,-,-,-,-,-,-,-,-,-,-,q,-⟩:=cls (t)
  go_wp2_with fail
  go_ret
  exact⟨rfl,y⟩
structure Two (w:World) (B:Nat) (v:Value) (n:Nat) (l:List ByteArray) (u:Value) (m:Nat) (l':List ByteArray):Prop where
 one:w.ownsRow B 9 1 v n (cQ l)
 two:w.ownsRow B 9 1 u m (cQ l')
 apart:∀q,v.ownBlock=some q→u.ownBlock≠some q
theorem Two.ext {w w':World} {B n m:Nat} {v u:Value} {l a:List ByteArray} (h:Two w B v n l u m a) (b:Ext w w'):Two w' B v n l u m a:=⟨ownN_ext h.one b,ownN_ext h.two b,h.apart⟩
theorem Two.symm {w:World} {B n m:Nat} {v u:Value} {l a:List ByteArray} (h:Two w B v n l u m a):Two w B u m a v n l:=⟨h.two,h.one,fun q e b=>h.apart q b e⟩
theorem Two.step {g e:World} {B n m:Nat} {v u b:Value} {l j:List ByteArray} {x:ByteArray} (h:Two g B v n l u m j) (o:g.grownBy e v.ownBlock) (a:b.ownBlock=v.ownBlock∨b.ownBlock=some g.heap.size)
  (k:e.ownsRow B 9 1 b (n+1) (cQ l++ [.string x])):Two e B b (n+1) (l++ [x]) u m j:=by
 refine⟨by rw[cT];exact k,h.two.kept o ?_,fun q f i=>?_⟩
 ·cases r:u.ownBlock with
  |none=>exact .inl rfl
  |some q=>exact .inr fun p=>h.apart q p.symm r
 ·rcases a with a|a
  ·exact h.apart q (a.symm.trans f) i
  ·rw[a]at f
   have:=Option.some.inj f
   have:=(h.two.lt q i).2
   omega
def validS (s:St):Int:=if largeB s.all=true then 3 else if s.formed=false then 1 else if 16384<s.body.size then 3 else 0
theorem iu {s:St} (h:largeB s.all=false):nodesL s.all≤400:=by
 unfold largeB at h
 simp only[Bool.or_eq_false_iff,decide_eq_false_iff_not]at h
 omega
theorem flat_len (l:List (List Ex)):l.flatten.length≤sumB bkR l:=by
 have b:∀l:List Ex,l.length≤sizeL l:=fun l=>by rw[←fe];exact bv (fun a=>cz a) l
 induction l with
 |nil=>simp[sumB]
 |cons a l ih=>rw[List.flatten_cons,List.length_append,sumB];unfold bkR at*;have:=b a;omega
theorem all_len (s:St) (h:s.bulk≤1048576):s.all.length≤100000000:=by
 have e:=fg s h
 have a:=flat_len s.vals
 have b:=(gz s h).2.2.2.1
 unfold St.all
 simp only[List.length_append,List.length_map,List.length_singleton]
 omega
theorem body_size (s:St) (p:s.formed=true) (o:s.Fits) (u:s.bulk≤1048576):s.body.size≤1000000000:=by
 have a:=dA p
 have g:=gz s u
 have B:=jO s (gY p) o.whr
 unfold St.body
 by_cases m:s.kd=1
 ·rw[if_pos m]
  have:=a8 s.elts
  have:=kI (a.2.1 m)
  simp only[ByteArray.size_append]
  show 13+_+2+_+1≤_
  omega
 rw[if_neg m]
 by_cases l:s.kd=2
 ·rw[if_pos l]
  have k:∀x∈s.vals,x.all Ex.formed=true:=fun x b=>by have:=List.all_eq_true.1 (a.2.2.2.1 l) x b;unfold rowOk at this;simp only[Bool.and_eq_true]at this;exact this.2
  have:=a8 (s.vals.map gX)
  have:=bc gX bkR 100 s.vals fun x b=>mB (k x b)
  simp only[ByteArray.size_append]
  show 12+_+8+_≤_
  omega
 rw[if_neg l]
 by_cases i:s.kd=3
 ·rw[if_pos i]
  have:=a8 (s.sets.map Asg.tx)
  have:=bc Asg.tx bkA 100 s.sets fun x b=>mC (List.all_eq_true.1 (a.2.2.2.2.2.1 i) x b)
  simp only[ByteArray.size_append]
  show 7+_+5+_+_≤_
  omega
 rw[if_neg i]
 by_cases n:s.kd=4
 ·rw[if_pos n]
  simp only[ByteArray.size_append]
  show 12+_+_≤_
  omega
 rw[if_neg n]
 by_cases e:s.kd=5
 ·rw[if_pos e]
  obtain⟨j,r,h,f,t,q⟩:=q_parts (a.2.2.2.2.2.2.2.1 e)
  have E:=mG s j g.2.2.2.2.2.1
  have F:(cma (s.frm.map Src.tx)).size≤104857600:=Nat.le_trans (a8 _) (Nat.le_trans (bc Src.tx bkF 100 s.frm fun x b=>jJ x) (by omega))
  have y:(exsT s.grp).size≤100000:=Nat.le_trans (a8 _) (Nat.le_trans (gx h) (by have:=o.grp;omega))
  have A:(cma (s.ord.map Ord'.tx)).size≤104857600:=Nat.le_trans (a8 _) (Nat.le_trans (bc Ord'.tx bkO 100 s.ord fun x b=>jK (List.all_eq_true.1 f x b)) (by omega))
  have z:=br s.lim (by omega) (by omega)
  have w:s.sel0.size≤300000000:=by unfold St.sel0;simp only[ByteArray.size_append];show 7+_+6+_+_≤_;omega
  have D:s.sel1.size≤300100100:=by unfold St.sel1;refine aG _ _ _ _ (by omega) ?_;simp only[ByteArray.size_append];show _+(10+_)≤_;omega
  have C:s.sel2.size≤500000000:=by unfold St.sel2;refine aG _ _ _ _ (by omega) ?_;simp only[ByteArray.size_append];show _+(10+_)≤_;omega
  unfold St.sel
  refine aG _ _ _ _ ?_ (by omega)
  simp only[ByteArray.size_append]
  show _+(7+_)≤_
  omega
 rw[if_neg e]
 refine aG _ _ _ _ (show 5≤_ by omega) (aG _ _ _ _ (show 6≤_ by omega) (aG _ _ _ _ (show 8≤_ by omega) (aG _ _ _ _ ?_ (aG _ _ _ _ ?_ ?_))))
 ·rw[ByteArray.size_append];show 10+_≤_;omega
 ·rw[ByteArray.size_append];show 12+_≤_;omega
 ·rw[ByteArray.size_append];show 8+_≤_;omega
theorem nT (s:St) (a:SA) (w:World) (Q:Gd w) (G:StV w s a) (B:CapK w a.keys.A a.keys.n) (C:CapR w a.frs.A a.frs.n) (y:s.bulk≤1048576):
  Calls Tryz.prog 31 #[s.val a] w fun r w'=>r= .returned (.int .i64 (validS s))∧Ext w w':=by
 have z:=fg s y
 have D:=hid (fun W (k:Ext w W)=>all_any s a W (G.ext k) (all_len s y))
 have t:=hid (fun (W:World) (A:Option Addr) (c:Nat) (Y:KidsAt W A s.all)=>gU s.all A s.all.length c W rfl (by have:=all_len s y;omega) Y)
 have u:=hid (fun W (k:Ext w W)=>ki s a W (Q.ext k).sh (G.ext k) z.1 (by omega))
 have F:=hid (fun W (k:Ext w W) (Z:s.formed=true) (l:s.Fits)=>form_any s a W (Q.ext k) (G.ext k) (B.ext k) (C.ext k) Z l y)
 have h:Hid (validS s=if largeB s.all=true then 3 else if s.formed=false then 1 else if 16384<s.body.size then 3 else 0):=rfl
 have H:Hid (largeB s.all=false→s.formed=true→s.Fits):=fun P O=>fits_of O (iu P)
 have E:Hid (s.formed=true→s.Fits→s.body.size≤1000000000):=fun P O=>body_size s P O y
 have m:=hid (Blk.of_new w 40 (s.cells a))
 have j:=hid ((Ext.refl w).alloc (.cells (s.cells a).toArray 40))
 clear Q G B C y z
 unfold St.val at*
 unfold St.cells Sl.v at*
 generalize validS s=V at*
 go_enter Tryz.func31,Tryz.ntmps31
 go_upto_region 1 with fail
 generalize w.alloc (.cells _ 40)=w1 at*
 generalize w.heap.size=g at*
 cases x:largeB s.all
 ·rw[x]at t h
  simp only[Bool.false_eq_true,if_false]at h
  cases l:s.formed
  ·rw[l]at u h
   simp only[if_true]at h
   have p:=h.out
   subst p
   clear F E h H x l
   go_wp2_with (first|(refine aw rfl 40 (.tmp 1) rfl g rfl 40 _ _ m Tryz.underlying40 rfl (by kernel_rfl) ?_)|(refine aw rfl 40 (.tmp 1) rfl g rfl 40 _ _ (m.ext (e.trans b)) Tryz.underlying40 rfl (by kernel_rfl) ?_)|(go_at_call 63;(with_reducible refine(D.out _ j.out).mono ?_);rintro _ K ⟨J,c1,rfl,i,e⟩)|(go_at_call 62;(with_reducible refine(t.out _ _ _ i).mono ?_);rintro _ L ⟨rfl,b⟩)|(go_at_call 64;(with_reducible refine(u.out _ (j.out.trans (e.trans b))).mono ?_);rintro _ U ⟨rfl,f⟩))
   go_ret
   exact⟨rfl,j.trans ((e.trans b).trans f)⟩
  ·have q:=H x l
   have hz:=E l q
   have R:=hid (fun W (k:Ext w W)=>F W k l q)
   rw[l]at u h
   simp only[Bool.true_eq_false,if_false]at h
   clear F E H x l q
   generalize s.body=I at*
   by_cases hs:16384<I.size
   ·rw[if_pos hs]at h
    have p:=h.out
    subst p
    have hd:decide ((16384:Int)<(I.size:Int))=true:=by simp;omega
    clear h
    go_wp2_with (first|(refine aw rfl 40 (.tmp 1) rfl g rfl 40 _ _ m Tryz.underlying40 rfl (by kernel_rfl) ?_)|(refine aw rfl 40 (.tmp 1) rfl g rfl 40 _ _ (m.ext (e.trans b)) Tryz.underlying40 rfl (by kernel_rfl) ?_)|(refine aw rfl 40 (.tmp 1) rfl g rfl 40 _ _ (m.ext ((e.trans b).trans f)) Tryz.underlying40 rfl (by kernel_rfl) ?_)|(go_at_call 63;(with_reducible refine(D.out _ j.out).mono ?_);rintro _ K ⟨J,c1,rfl,i,e⟩)|(go_at_call 62;(with_reducible refine(t.out _ _ _ i).mono ?_);rintro _ L ⟨rfl,b⟩)|(go_at_call 64;(with_reducible refine(u.out _ (j.out.trans (e.trans b))).mono ?_);rintro _ U ⟨rfl,f⟩)|(go_at_call 65;(with_reducible refine(R.out _ (j.out.trans ((e.trans b).trans f))).mono ?_);rintro _ X ⟨rfl,o⟩))
    go_ret
    exact⟨rfl,j.trans (((e.trans b).trans f).trans o)⟩
   ·rw[if_neg hs]at h
    have p:=h.out
    subst p
    have hd:decide ((16384:Int)<(I.size:Int))=false:=by simp;omega
    clear h
    go_wp2_with (first|(refine aw rfl 40 (.tmp 1) rfl g rfl 40 _ _ m Tryz.underlying40 rfl (by kernel_rfl) ?_)|(refine aw rfl 40 (.tmp 1) rfl g rfl 40 _ _ (m.ext (e.trans b)) Tryz.underlying40 rfl (by kernel_rfl) ?_)|(refine aw rfl 40 (.tmp 1) rfl g rfl 40 _ _ (m.ext ((e.trans b).trans f)) Tryz.underlying40 rfl (by kernel_rfl) ?_)|(go_at_call 63;(with_reducible refine(D.out _ j.out).mono ?_);rintro _ K ⟨J,c1,rfl,i,e⟩)|(go_at_call 62;(with_reducible refine(t.out _ _ _ i).mono ?_);rintro _ L ⟨rfl,b⟩)|(go_at_call 64;(with_reducible refine(u.out _ (j.out.trans (e.trans b))).mono ?_);rintro _ U ⟨rfl,f⟩)|(go_at_call 65;(with_reducible refine(R.out _ (j.out.trans ((e.trans b).trans f))).mono ?_);rintro _ X ⟨rfl,o⟩))
    go_ret
    exact⟨rfl,j.trans (((e.trans b).trans f).trans o)⟩
 ·rw[x]at t h
  simp only[if_true]at h
  have p:=h.out
  subst p
  clear u F E h H x
  go_wp2_with (first|(refine aw rfl 40 (.tmp 1) rfl g rfl 40 _ _ m Tryz.underlying40 rfl (by kernel_rfl) ?_)|(go_at_call 63;(with_reducible refine(D.out _ j.out).mono ?_);rintro _ K ⟨J,c1,rfl,i,e⟩)|(go_at_call 62;(with_reducible refine(t.out _ _ _ i).mono ?_);rintro _ L ⟨rfl,b⟩))
  go_ret
  exact⟨rfl,j.trans (e.trans b)⟩
theorem fM (l m:List Ex) (A B:Option Addr) (n p c f:Nat) (w:World) (i:l.length=n) (o:m.length=p) (s:n≤9223372036854775807) (g:p≤9223372036854775807) (h:KidsAt w A l) (e:KidsAt w B m):
  Calls Tryz.prog 37 #[.slice A n c,.slice B p f] w fun r w'=>r= .returned (.bool (sameL l m))∧Ext w w':=
 kC l m A B n p c f w i o s g h e fun x u y j t n1 q c1 c2 k b a=>fd x y j t n1 q c1 c2 k b a
theorem gA (a b:ByteArray):sN a b=(a.toList==b.toList):=by unfold sN;rw[aV]
end Go.Proofs.YtjigcpfjhfoheaaGreatDoor
