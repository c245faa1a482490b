/- Walks: the text of a query, and of a statement; Walks: the reference's texts of queries. -/
import Derived.Test.YtjigcpfjhfoheaaGreatDoorRbd
import Derived.Test.YtjigcpfjhfoheaaGreatDoorRba
import Derived.Test.YtjigcpfjhfoheaaGreatDoorRbe
namespace Go.Proofs.YtjigcpfjhfoheaaGreatDoor
open Go.RowKit
set_option maxHeartbeats 4000000
set_option maxRecDepth 100000
set_option linter.unusedVariables false
set_option linter.unusedSimpArgs false
theorem ev (s:St) (h:s.bulk≤1048576):s.tb.size≤1048576∧s.nm.size≤1048576∧sumB eW s.cols+sumB bkK s.keys+sumB gj s.frs+sizeL s.chk≤1048576∧sumB bkR s.vals≤1048576∧sumB bkA s.sets≤1048576∧sumB bkI s.itms≤1048576∧sumB bkF s.frm≤1048576∧sumB bkO s.ord≤1048576:=by
 unfold St.bulk at h;omega
theorem cZ (s:St) (h:s.bulk≤1048576):s.cols.length+s.keys.length+s.frs.length+s.chk.length≤1048576∧s.vals.length≤1048576∧s.sets.length≤1048576∧s.itms.length+s.frm.length+s.grp.length+s.ord.length≤1048576:=by
 have b:∀l:List Ex,l.length≤sizeL l:=fun l=>by rw[←fE];exact bG (fun a=>cJ a) l
 have f:=bG (bk:=eW) (fun a=>by unfold eW;omega) s.cols
 have g:=bG (bk:=bkK) (fun a=>by unfold bkK;omega) s.keys
 have i:=bG (bk:=gj) (fun a=>by unfold gj;omega) s.frs
 have j:=b s.chk
 have k:=bG (bk:=bkR) (fun a=>by unfold bkR;omega) s.vals
 have m:=bG (bk:=bkA) (fun a=>by unfold bkA;omega) s.sets
 have n:=bG (bk:=bkI) (fun a=>by unfold bkI;omega) s.itms
 have o:=bG (bk:=bkF) (fun a=>by unfold bkF;omega) s.frm
 have p:=b s.grp
 have e:=bG (bk:=bkO) (fun a=>by unfold bkO;omega) s.ord
 unfold St.bulk at h
 omega
theorem gn (s:St) (b:s.whr.absent=true∨s.whr.formed=true) (hs:s.whr.size≤1000):s.whT.size≤100000:=by
 unfold St.whT
 split
 ·exact Nat.zero_le _
 ·rename_i h
  have a:=b.resolve_left h
  have:=bJ s.whr 1 a
  rw[ByteArray.size_append]
  show 7+_≤_
  omega
theorem og {s:St} (h:s.qOk=true):s.itms.all Itm.ok=true∧s.frm.all Src.ok=true∧s.grp.all Ex.formed=true∧s.ord.all Ord'.ok=true∧0≤s.lim∧s.lim≤2147483648:=by
 unfold St.qOk at h
 simp only[Bool.and_eq_true,ch]at h
 refine⟨h.1.1.1.1.1,h.1.1.1.2,List.all_eq_true.2 fun e a=>?_,h.1.2,h.2⟩
 have:=List.all_eq_true.1 h.1.1.2 e a
 unfold eo at this
 simp only[Bool.and_eq_true]at this
 exact this.2
theorem src_nm {x:Src} (h:x.ok=true):x.tb.size≤1000∧x.al.size≤1000:=by
 unfold Src.ok at h
 simp only[Bool.and_eq_true,Bool.or_eq_true]at h
 refine⟨Nat.le_trans (bv h.1) (by omega),?_⟩
 rcases h.2 with h|h
 ·rw[←cV]at h;have:x.al.size=0:=by simpa using h
  omega
 ·exact Nat.le_trans (bv h) (by omega)
theorem asg_nm {x:Asg} (h:x.ok=true):x.cl.size≤1000∧x.ex.formed=true:=by
 unfold Asg.ok at h
 simp only[Bool.and_eq_true]at h
 exact⟨Nat.le_trans (bv h.1) (by omega),h.2⟩
theorem lW (s:St) (a:s.itms.all Itm.ok=true) (g:sumB bkI s.itms≤1048576):s.itT.size≤104857600:=by
 unfold St.itT
 split
 ·show 1≤_;omega
 ·have e:=aK (s.itms.map Itm.tx)
  have f:=aP Itm.tx bkI 100 s.itms fun x b=>lR (List.all_eq_true.1 a x b)
  omega
theorem sel_any (s:St) (a:SA) (w:World) (E:Gd w) (f:StV w s a) (hq:s.qOk=true) (hw:s.whr.absent=true∨s.whr.formed=true) (D:s.Fits) (Z:s.bulk≤1048576):
  Calls Tryz.prog 133 #[s.val a] w fun r w'=>r= .returned (.string s.sel)∧Ext w w':=by
 obtain⟨p,K,C,t,ad,ag⟩:=og hq
 have L:=ev s Z
 have ac:=cZ s Z
 have H1:=hid (fun W (h:Ext w W)=>ls_itm 209 ent_itmt Itm.tx s.itms a.itms.A a.itms.n a.itms.c W f.itms.1 (by have:=f.itms.1;omega) (f.itms.2.2.ext h) (Nat.le_trans (aP Itm.tx bkI 100 s.itms fun x l=>lR (List.all_eq_true.1 p x l)) (by omega)) fun x l J m Ai ni ci hc=>itmt_any x Ai ni ci J (E.ext (h.trans m)) hc (List.all_eq_true.1 p x l) (D.itms x l))
 have H2:=hid (fun W (h:Ext w W)=>ls_src 212 ent_srct Src.tx s.frm a.frm.A a.frm.n a.frm.c W f.frm.1 (by have:=f.frm.1;omega) (f.frm.2.2.ext h) (Nat.le_trans (aP Src.tx bkF 100 s.frm fun x l=>gl x) (by omega)) fun x l J m hc=>srct_any x J (src_nm (List.all_eq_true.1 K x l)))
 have H3:=hid (fun W (h:Ext w W)=>nh s a W (E.ext h) (f.whr.ext h) hw D.whr)
 have H4:=hid (fun W (h:Ext w W)=>nf s.grp a.grp.A a.grp.n a.grp.c W (E.ext h) f.grp.1 (f.grp.2.2.ext h) C D.grp)
 have H5:=hid (fun W (h:Ext w W)=>ls_ord 214 ent_ordt Ord'.tx s.ord a.ord.A a.ord.n a.ord.c W f.ord.1 (by have:=f.ord.1;omega) (f.ord.2.2.ext h) (Nat.le_trans (aP Ord'.tx bkO 100 s.ord fun x l=>gm (List.all_eq_true.1 t x l)) (by omega)) fun x l J m hc=>ordt_any x J (E.ext (h.trans m)) (List.all_eq_true.1 t x l))
 have H6:=hid (fun W (h:Ext w W)=>number_any s.lim W ((E.ext h).can f.lim))
 have z1:=lW s p L.2.2.2.2.2.1
 have z2:(cma (s.frm.map Src.tx)).size≤104857600:=Nat.le_trans (aK _) (Nat.le_trans (aP Src.tx bkF 100 s.frm fun x l=>gl x) (by omega))
 have z3:=gn s hw D.whr
 have z4:(exsT s.grp).size≤100000:=Nat.le_trans (aK _) (Nat.le_trans (eq C) (by have:=D.grp;omega))
 have z5:(cma (s.ord.map Ord'.tx)).size≤104857600:=Nat.le_trans (aK _) (Nat.le_trans (aP Ord'.tx bkO 100 s.ord fun x l=>gm (List.all_eq_true.1 t x l)) (by omega))
 have z6:=Nat.le_trans (bh s.lim (by omega) (by omega)) (show 21≤1000 by omega)
 have X:Hid (s.sel0=⟨#[83,69,76,69,67,84,32]⟩++s.itT++⟨#[32,70,82,79,77,32]⟩++cma (s.frm.map Src.tx)++s.whT):=rfl
 have F:Hid (s.sel1=if s.grp.length=0 then s.sel0 else s.sel0++(⟨#[32,71,82,79,85,80,32,66,89,32]⟩++exsT s.grp)):=rfl
 have G:Hid (s.sel2=if s.ord.length=0 then s.sel1 else s.sel1++(⟨#[32,79,82,68,69,82,32,66,89,32]⟩++cma (s.ord.map Ord'.tx))):=rfl
 have D3:Hid (s.sel=if 0<s.lim then s.sel2++(⟨#[32,76,73,77,73,84,32]⟩++itoB s.lim)else s.sel2):=rfl
 have V:Hid (s.itT=if s.itms.length=0 then ⟨#[42]⟩else cma (s.itms.map Itm.tx)):=rfl
 rw[f.grp.1]at F
 rw[f.ord.1]at G
 rw[f.itms.1]at V
 have y0:s.sel0.size≤300000000:=by
  rw[X.out];simp only[ByteArray.size_append];show 7+_+6+_+_≤_;omega
 have y1:s.sel1.size≤300100100:=by
  rw[F.out];refine aC _ _ _ _ (by omega) ?_;simp only[ByteArray.size_append];show _+(10+_)≤_;omega
 have y2:s.sel2.size≤500000000:=by
  rw[G.out];refine aC _ _ _ _ (by omega) ?_;simp only[ByteArray.size_append];show _+(10+_)≤_;omega
 have k:=hid (Blk.of_new w 40 (s.cells a))
 have HX:=hid ((Ext.refl w).alloc (.cells (s.cells a).toArray 40))
 clear E f hq hw D Z p K C t ad ag L ac
 unfold St.val at*
 unfold St.cells Sl.v at*
 generalize s.sel=O3 at*
 generalize s.sel2=O2 at*
 generalize s.sel1=O1 at*
 generalize s.sel0=O0 at*
 generalize s.itT=TI at*
 generalize s.whT=TW at*
 generalize cma (s.frm.map Src.tx)=TS at*
 generalize exsT s.grp=TG at*
 generalize cma (s.ord.map Ord'.tx)=TO at*
 generalize itoB s.lim=TL at*
 generalize cma (s.itms.map Itm.tx)=ax at*
 go_enter Tryz.func133,Tryz.ntmps133
 go_upto_region 1 with fail
 generalize w.alloc (.cells _ 40)=w1 at*
 generalize w.heap.size=g at*
 have p8:=(k).cell 8
 simp only[List.getElem?_cons_succ,List.getElem?_cons_zero]at p8
 go_upto_if 8 with fail
 go_cut [3] from 5 to 11 (fun P U=>P= .string TI∧Ext w1 U)
 case first=>
  by_cases o:0<a.itms.n
  ·have e:=V.out
   rw[if_neg (by omega)]at e
   subst e
   go_wp2_with (go_at_call 208;(with_reducible refine(H1.out _ HX.out).mono ?_);rintro _ w2 ⟨rfl,j⟩)
   go_meet
   exact⟨rfl,j⟩
  ·have e:=V.out
   rw[if_pos (by omega)]at e
   subst e
   go_wp2_with fail
   go_meet
   exact⟨rfl,Ext.refl _⟩
 case rest=>
  obtain⟨rfl,b⟩:=hcut
  generalize wc=wa at*
  have y:=hid (HX.trans b)
  replace k:=hid (k.ext b)
  clear b H1 V p8
  go_upto_region 4 with fail
  have K2:Hid (∀z:ae wa,Calls Tryz.prog 211 _ z.now _):=fun z=>H2 z.now (y.trans z.ext)
  have K3:Hid (∀z:ae wa,Calls Tryz.prog 132 _ z.now _):=fun z=>H3 z.now (y.trans z.ext)
  have l9:=ae.keep (k.cell_some (i:=9) rfl)
  refine ab (by kernel_rfl) (by kernel_rfl) ?_
  repeat (first|(refine aW rfl 40 (.tmp 1) rfl g rfl 40 _ _ (ce k) Tryz.underlying40 rfl (by kernel_rfl) ?_;go_simp)|go_big_quiet_step (first|(go_at_call 211;with_reducible exact ak (K2.out _))|(go_at_call 132;with_reducible exact ak (K3.out _))))
  refine wpQuiet_nil ?_
  first|(intro wb O;have u:=ah O;clear O)|(intro xb;have u:=xb.ext;generalize xb.now=wb at*;clear xb)
  have Y:=X.out
  generalize ⟨#[83,69,76,69,67,84,32]⟩++TI++⟨#[32,70,82,79,77,32]⟩++TS++TW=TX at*
  subst Y
  replace k:=hid (k.ext u)
  have H:=hid (y.trans u)
  clear u K2 K3 H2 H3 l9 X
  have Q:=(k).cell 18
  simp only[List.getElem?_cons_succ,List.getElem?_cons_zero]at Q
  go_upto_if 25 with fail
  go_cut [4] from 22 to 31 (fun P U=>P= .string O1∧Ext wb U)
  case first=>
   by_cases o:0<a.grp.n
   ·have e:=F.out
    rw[if_neg (by omega)]at e
    go_wp2_with (go_at_call 128;(with_reducible refine(H4.out _ H.out).mono ?_);rintro _ w2 ⟨rfl,j⟩)
    go_meet
    exact⟨by rw[e],j⟩
   ·have e:=F.out
    rw[if_pos (by omega)]at e
    subst e
    go_wp2_with fail
    go_meet
    exact⟨rfl,Ext.refl _⟩
  case rest=>
   obtain⟨rfl,b⟩:=hcut
   generalize wc=wd at*
   have I:=hid (H.trans b)
   replace k:=hid (k.ext b)
   clear b H4 F Q y0
   have R:=(k).cell 19
   simp only[List.getElem?_cons_succ,List.getElem?_cons_zero]at R
   go_upto_if 35 with fail
   go_cut [4] from 32 to 41 (fun P U=>P= .string O2∧Ext wd U)
   case first=>
    by_cases o:0<a.ord.n
    ·have e:=G.out
     rw[if_neg (by omega)]at e
     go_wp2_with (go_at_call 213;(with_reducible refine(H5.out _ I.out).mono ?_);rintro _ w2 ⟨rfl,j⟩)
     go_meet
     exact⟨by rw[e],j⟩
    ·have e:=G.out
     rw[if_pos (by omega)]at e
     subst e
     go_wp2_with fail
     go_meet
     exact⟨rfl,Ext.refl _⟩
   case rest=>
    obtain⟨rfl,b⟩:=hcut
    generalize wc=we at*
    have B:=hid (I.trans b)
    replace k:=hid (k.ext b)
    clear b H5 G R y1
    have an:=(k).cell 20
    simp only[List.getElem?_cons_succ,List.getElem?_cons_zero]at an
    have e:=D3.out
    by_cases o:0<s.lim
    ·rw[if_pos o]at e
     have hd:decide (0<s.lim)=true:=by simpa using o
     clear o
     go_wp2_with (go_at_call 202;(with_reducible refine(H6.out _ B.out).mono ?_);rintro _ w2 ⟨rfl,j⟩)
     go_ret
     exact⟨dP e.symm,B.trans j⟩
    ·rw[if_neg o]at e
     have hd:decide (0<s.lim)=false:=by simpa using o
     clear o
     subst e
     go_wp2_with fail
     go_ret
     exact⟨rfl,B⟩
theorem form_any (s:St) (a:SA) (w:World) (F:Gd w) (y:StV w s a) (h:jS w a.keys.A a.keys.n) (j:jT w a.frs.A a.frs.n) (G:s.formed=true) (C:s.Fits) (K:s.bulk≤1048576):
  Calls Tryz.prog 65 #[s.val a] w fun r w'=>r= .returned (.string s.body)∧Ext w w':=by
 have b:=bC G
 have f:=ev s K
 have l:=cZ s K
 have u:=hid (Blk.of_new w 40 (s.cells a))
 have B:=hid ((Ext.refl w).alloc (.cells (s.cells a).toArray 40))
 have z1:s.tb.size≤1048576:=f.1
 have z2:s.nm.size≤1048576:=f.2.1
 have z3:=gn s (et G) C.whr
 have O:=hid (fun W (E:Ext w W)=>nh s a W (F.ext E) (y.whr.ext E) (et G) C.whr)
 have k:s.kd=1∨s.kd=2∨s.kd=3∨s.kd=4∨s.kd=5∨s.kd=6∨s.kd=7∨s.kd=8∨s.kd=9∨s.kd=10∨s.kd=11:=by have:=b.1;omega
 have ag:=k
 rcases ag with hk|hk|hk|hk|hk|hk|hk|hk|hk|hk|hk
 ·have e:s.body=⟨#[67,82,69,65,84,69,32,84,65,66,76,69,32]⟩++s.tb++⟨#[32,40]⟩++cma s.elts++⟨#[41]⟩:=by unfold St.body;simp[hk]
  rw[e]
  have hd:=b.2.1 hk
  have D:=Nat.le_trans (jW hd) (show _≤104857600 by omega)
  have z4:(cma s.elts).size≤104857600:=Nat.le_trans (aK _) D
  have HE:=hid (fun W (E:Ext w W)=>oe s a W (F.ext E) (y.ext E) (h.ext E) (j.ext E) hd l.1 (by omega) C.chk)
  clear hd D O
  generalize cma s.elts=TE at*
  have P:(s.kd==1)=true:=by simp[hk]
  have Q:(s.kd==2)=false:=by simp[hk]
  have R:(s.kd==3)=false:=by simp[hk]
  have U:(s.kd==4)=false:=by simp[hk]
  have V:(s.kd==5)=false:=by simp[hk]
  have X:(s.kd==6)=false:=by simp[hk]
  have Y:(s.kd==7)=false:=by simp[hk]
  have Z:(s.kd==8)=false:=by simp[hk]
  have e9:(s.kd==9)=false:=by simp[hk]
  have p:(s.kd==10)=false:=by simp[hk]
  clear F y hk h j G C K b f l e k
  unfold St.val at*
  unfold St.cells Sl.v at*
  go_enter Tryz.func65,Tryz.ntmps65
  go_upto_region 1 with fail
  generalize w.alloc (.cells _ 40)=I at*
  generalize w.heap.size=g at*
  obtain⟨p0,-,-,-,-,-,-,-,-,-,-,-,-,-,-,-,-,-,-,-,-,t,-⟩:=cls (u)
  go_wp2_with fail
  have K1:Hid (∀z:ae I,Calls Tryz.prog 125 _ z.now _):=fun z=>HE z.now (B.trans z.ext)
  obtain⟨-,l1,l2,l3,l4,l5,-⟩:=lks u
  refine ab (by kernel_rfl) (by kernel_rfl) ?_
  repeat (first|(refine aW rfl 40 (.tmp 1) rfl g rfl 40 _ _ (ce u) Tryz.underlying40 rfl (by kernel_rfl) ?_;go_simp)|go_big_quiet_step (first|(go_at_call 125;with_reducible exact ak (K1.out _))))
  refine wpQuiet_nil ?_
  first|(intro wb m;have o:=ah m;clear m)|(intro J;have o:=J.ext;generalize J.now=wb at*;clear J)
  go_wp2_with fail
  go_ret
  exact⟨rfl,B.trans o⟩
 ·have e:s.body=⟨#[73,78,83,69,82,84,32,73,78,84,79,32]⟩++s.tb++⟨#[32,86,65,76,85,69,83,32]⟩++cma (s.vals.map cM):=by unfold St.body;simp[hk]
  rw[e]
  have H:=b.2.2.2.1 hk
  have ad:∀x∈s.vals,x.all Ex.formed=true:=fun x L=>by have:=List.all_eq_true.1 H x L;unfold rowOk at this;simp only[Bool.and_eq_true]at this;exact this.2
  have D:=Nat.le_trans (aP cM bkR 100 s.vals fun x L=>lP (ad x L)) (show _≤104857600 by omega)
  have z4:(cma (s.vals.map cM)).size≤104857600:=Nat.le_trans (aK _) D
  have HE:=hid (fun W (E:Ext w W)=>ls_row 127 ent_rowt cM s.vals a.vals.A a.vals.n a.vals.c W y.vals.1 (by have:=y.vals.1;omega) (y.vals.2.2.ext E) (by omega) fun x L W2 ac Ai ni ci hc=>rowt_any x Ai ni ci W2 (F.ext (E.trans ac)) hc.1 hc.2 (ad x L) (C.vals x L))
  clear H ad D O
  generalize cma (s.vals.map cM)=TE at*
  have P:(s.kd==1)=false:=by simp[hk]
  have Q:(s.kd==2)=true:=by simp[hk]
  have R:(s.kd==3)=false:=by simp[hk]
  have U:(s.kd==4)=false:=by simp[hk]
  have V:(s.kd==5)=false:=by simp[hk]
  have X:(s.kd==6)=false:=by simp[hk]
  have Y:(s.kd==7)=false:=by simp[hk]
  have Z:(s.kd==8)=false:=by simp[hk]
  have e9:(s.kd==9)=false:=by simp[hk]
  have p:(s.kd==10)=false:=by simp[hk]
  clear F y hk h j G C K b f l e k
  unfold St.val at*
  unfold St.cells Sl.v at*
  go_enter Tryz.func65,Tryz.ntmps65
  go_upto_region 1 with fail
  generalize w.alloc (.cells _ 40)=I at*
  generalize w.heap.size=g at*
  obtain⟨p0,-,-,-,-,-,-,-,-,-,-,-,-,-,-,-,-,-,-,-,-,t,-⟩:=cls (u)
  go_wp2_with fail
  have K1:Hid (∀z:ae I,Calls Tryz.prog 126 _ z.now _):=fun z=>HE z.now (B.trans z.ext)
  obtain⟨-,l1,-,-,-,-,l6,-⟩:=lks u
  refine ab (by kernel_rfl) (by kernel_rfl) ?_
  repeat (first|(refine aW rfl 40 (.tmp 1) rfl g rfl 40 _ _ (ce u) Tryz.underlying40 rfl (by kernel_rfl) ?_;go_simp)|go_big_quiet_step (first|(go_at_call 126;with_reducible exact ak (K1.out _))))
  refine wpQuiet_nil ?_
  first|(intro wb m;have o:=ah m;clear m)|(intro J;have o:=J.ext;generalize J.now=wb at*;clear J)
  go_wp2_with fail
  go_ret
  exact⟨rfl,B.trans o⟩
 ·have e:s.body=⟨#[85,80,68,65,84,69,32]⟩++s.tb++⟨#[32,83,69,84,32]⟩++cma (s.sets.map Asg.tx)++s.whT:=by unfold St.body;simp[hk]
  rw[e]
  have H:=b.2.2.2.2.2.1 hk
  have D:=Nat.le_trans (aP Asg.tx bkA 100 s.sets fun x L=>lQ (List.all_eq_true.1 H x L)) (show _≤104857600 by omega)
  have z4:(cma (s.sets.map Asg.tx)).size≤104857600:=Nat.le_trans (aK _) D
  have HE:=hid (fun W (E:Ext w W)=>ls_asg 130 ent_asgt Asg.tx s.sets a.sets.A a.sets.n a.sets.c W y.sets.1 (by have:=y.sets.1;omega) (y.sets.2.2.ext E) (by omega) fun x L W2 ac Ai ni ci hc=>asgt_any x Ai ni ci W2 (F.ext (E.trans ac)) (asg_nm (List.all_eq_true.1 H x L)).1 hc (asg_nm (List.all_eq_true.1 H x L)).2 (C.sets x L))
  clear H D
  generalize cma (s.sets.map Asg.tx)=TE at*
  generalize s.whT=TW at*
  have P:(s.kd==1)=false:=by simp[hk]
  have Q:(s.kd==2)=false:=by simp[hk]
  have R:(s.kd==3)=true:=by simp[hk]
  have U:(s.kd==4)=false:=by simp[hk]
  have V:(s.kd==5)=false:=by simp[hk]
  have X:(s.kd==6)=false:=by simp[hk]
  have Y:(s.kd==7)=false:=by simp[hk]
  have Z:(s.kd==8)=false:=by simp[hk]
  have e9:(s.kd==9)=false:=by simp[hk]
  have p:(s.kd==10)=false:=by simp[hk]
  clear F y hk h j G C K b f l e k
  unfold St.val at*
  unfold St.cells Sl.v at*
  go_enter Tryz.func65,Tryz.ntmps65
  go_upto_region 1 with fail
  generalize w.alloc (.cells _ 40)=I at*
  generalize w.heap.size=g at*
  obtain⟨p0,-,-,-,-,-,-,-,-,-,-,-,-,-,-,-,-,-,-,-,-,t,-⟩:=cls (u)
  go_wp2_with fail
  have K1:Hid (∀z:ae I,Calls Tryz.prog 129 _ z.now _):=fun z=>HE z.now (B.trans z.ext)
  have K2:Hid (∀z:ae I,Calls Tryz.prog 132 _ z.now _):=fun z=>O z.now (B.trans z.ext)
  obtain⟨-,l1,-,-,-,-,-,l7,-⟩:=lks u
  refine ab (by kernel_rfl) (by kernel_rfl) ?_
  repeat (first|(refine aW rfl 40 (.tmp 1) rfl g rfl 40 _ _ (ce u) Tryz.underlying40 rfl (by kernel_rfl) ?_;go_simp)|go_big_quiet_step (first|(go_at_call 129;with_reducible exact ak (K1.out _))|(go_at_call 132;with_reducible exact ak (K2.out _))))
  refine wpQuiet_nil ?_
  first|(intro wb m;have o:=ah m;clear m)|(intro J;have o:=J.ext;generalize J.now=wb at*;clear J)
  go_wp2_with fail
  go_ret
  exact⟨rfl,B.trans o⟩
 ·have e:s.body=fD++s.tb++s.whT:=by unfold St.body;simp[hk]
  rw[e]
  generalize s.whT=TW at*
  unfold fD
  have P:(s.kd==1)=false:=by simp[hk]
  have Q:(s.kd==2)=false:=by simp[hk]
  have R:(s.kd==3)=false:=by simp[hk]
  have U:(s.kd==4)=true:=by simp[hk]
  have V:(s.kd==5)=false:=by simp[hk]
  have X:(s.kd==6)=false:=by simp[hk]
  have Y:(s.kd==7)=false:=by simp[hk]
  have Z:(s.kd==8)=false:=by simp[hk]
  have e9:(s.kd==9)=false:=by simp[hk]
  have p:(s.kd==10)=false:=by simp[hk]
  clear F y hk h j G C K b f l e k
  unfold St.val at*
  unfold St.cells Sl.v at*
  go_enter Tryz.func65,Tryz.ntmps65
  go_upto_region 1 with fail
  generalize w.alloc (.cells _ 40)=I at*
  generalize w.heap.size=g at*
  obtain⟨p0,-,-,-,-,-,-,-,-,-,-,-,-,-,-,-,-,-,-,-,-,t,-⟩:=cls (u)
  go_wp2_with fail
  have K2:Hid (∀z:ae I,Calls Tryz.prog 132 _ z.now _):=fun z=>O z.now (B.trans z.ext)
  have l1:=ae.keep (u.cell_some (i:=1) rfl)
  refine ab (by kernel_rfl) (by kernel_rfl) ?_
  repeat (first|(refine aW rfl 40 (.tmp 1) rfl g rfl 40 _ _ (ce u) Tryz.underlying40 rfl (by kernel_rfl) ?_;go_simp)|go_big_quiet_step (first|(go_at_call 132;with_reducible exact ak (K2.out _))))
  refine wpQuiet_nil ?_
  first|(intro wb m;have o:=ah m;clear m)|(intro J;have o:=J.ext;generalize J.now=wb at*;clear J)
  go_wp2_with fail
  go_ret
  exact⟨rfl,B.trans o⟩
 ·have e:s.body=s.sel:=by unfold St.body;simp[hk]
  rw[e]
  have HE:=hid (fun W (E:Ext w W)=>sel_any s a W (F.ext E) (y.ext E) (b.2.2.2.2.2.2.2.1 hk) (et G) C K)
  clear O z3
  generalize s.sel=TE at*
  have P:(s.kd==1)=false:=by simp[hk]
  have Q:(s.kd==2)=false:=by simp[hk]
  have R:(s.kd==3)=false:=by simp[hk]
  have U:(s.kd==4)=false:=by simp[hk]
  have V:(s.kd==5)=true:=by simp[hk]
  have X:(s.kd==6)=false:=by simp[hk]
  have Y:(s.kd==7)=false:=by simp[hk]
  have Z:(s.kd==8)=false:=by simp[hk]
  have e9:(s.kd==9)=false:=by simp[hk]
  have p:(s.kd==10)=false:=by simp[hk]
  clear F y hk h j G C K b f l e k
  unfold St.val at*
  unfold St.cells Sl.v at*
  go_enter Tryz.func65,Tryz.ntmps65
  go_upto_region 1 with fail
  generalize w.alloc (.cells _ 40)=I at*
  generalize w.heap.size=g at*
  obtain⟨p0,-,-,-,-,-,-,-,-,-,-,-,-,-,-,-,-,-,-,-,-,t,-⟩:=cls (u)
  go_wp2_with (first|(refine am rfl 40 (.tmp 1) rfl g rfl 40 _ _ u Tryz.underlying40 rfl (by kernel_rfl) ?_)|(go_at_call 133;(with_reducible refine(HE.out _ B.out).mono ?_);rintro _ w5 ⟨rfl,an⟩))
  go_ret
  exact⟨rfl,B.trans an⟩
 ·have e:s.body=⟨#[66,69,71,73,78]⟩:=by unfold St.body;simp[hk]
  rw[e]
  clear O z3
  have P:(s.kd==1)=false:=by simp[hk]
  have Q:(s.kd==2)=false:=by simp[hk]
  have R:(s.kd==3)=false:=by simp[hk]
  have U:(s.kd==4)=false:=by simp[hk]
  have V:(s.kd==5)=false:=by simp[hk]
  have X:(s.kd==6)=true:=by simp[hk]
  have Y:(s.kd==7)=false:=by simp[hk]
  have Z:(s.kd==8)=false:=by simp[hk]
  have e9:(s.kd==9)=false:=by simp[hk]
  have p:(s.kd==10)=false:=by simp[hk]
  clear F y hk h j G C K b f l e k
  unfold St.val at*
  unfold St.cells Sl.v at*
  go_enter Tryz.func65,Tryz.ntmps65
  go_upto_region 1 with fail
  generalize w.alloc (.cells _ 40)=I at*
  generalize w.heap.size=g at*
  obtain⟨p0,-,-,-,-,-,-,-,-,-,-,-,-,-,-,-,-,-,-,-,-,t,-⟩:=cls (u)
  go_wp2_with fail
  go_ret
  exact⟨rfl,B⟩
 ·have e:s.body=⟨#[67,79,77,77,73,84]⟩:=by unfold St.body;simp[hk]
  rw[e]
  clear O z3
  have P:(s.kd==1)=false:=by simp[hk]
  have Q:(s.kd==2)=false:=by simp[hk]
  have R:(s.kd==3)=false:=by simp[hk]
  have U:(s.kd==4)=false:=by simp[hk]
  have V:(s.kd==5)=false:=by simp[hk]
  have X:(s.kd==6)=false:=by simp[hk]
  have Y:(s.kd==7)=true:=by simp[hk]
  have Z:(s.kd==8)=false:=by simp[hk]
  have e9:(s.kd==9)=false:=by simp[hk]
  have p:(s.kd==10)=false:=by simp[hk]
  clear F y hk h j G C K b f l e k
  unfold St.val at*
  unfold St.cells Sl.v at*
  go_enter Tryz.func65,Tryz.ntmps65
  go_upto_region 1 with fail
  generalize w.alloc (.cells _ 40)=I at*
  generalize w.heap.size=g at*
  obtain⟨p0,-,-,-,-,-,-,-,-,-,-,-,-,-,-,-,-,-,-,-,-,t,-⟩:=cls (u)
  go_wp2_with fail
  go_ret
  exact⟨rfl,B⟩
 ·have e:s.body=⟨#[82,79,76,76,66,65,67,75]⟩:=by unfold St.body;simp[hk]
  rw[e]
  clear O z3
  have P:(s.kd==1)=false:=by simp[hk]
  have Q:(s.kd==2)=false:=by simp[hk]
  have R:(s.kd==3)=false:=by simp[hk]
  have U:(s.kd==4)=false:=by simp[hk]
  have V:(s.kd==5)=false:=by simp[hk]
  have X:(s.kd==6)=false:=by simp[hk]
  have Y:(s.kd==7)=false:=by simp[hk]
  have Z:(s.kd==8)=true:=by simp[hk]
  have e9:(s.kd==9)=false:=by simp[hk]
  have p:(s.kd==10)=false:=by simp[hk]
  clear F y hk h j G C K b f l e k
  unfold St.val at*
  unfold St.cells Sl.v at*
  go_enter Tryz.func65,Tryz.ntmps65
  go_upto_region 1 with fail
  generalize w.alloc (.cells _ 40)=I at*
  generalize w.heap.size=g at*
  obtain⟨p0,-,-,-,-,-,-,-,-,-,-,-,-,-,-,-,-,-,-,-,-,t,-⟩:=cls (u)
  go_wp2_with fail
  go_ret
  exact⟨rfl,B⟩
 ·have e:s.body=⟨#[83,65,86,69,80,79,73,78,84,32]⟩++s.nm:=by unfold St.body;simp[hk]
  rw[e]
  clear O z3
  have P:(s.kd==1)=false:=by simp[hk]
  have Q:(s.kd==2)=false:=by simp[hk]
  have R:(s.kd==3)=false:=by simp[hk]
  have U:(s.kd==4)=false:=by simp[hk]
  have V:(s.kd==5)=false:=by simp[hk]
  have X:(s.kd==6)=false:=by simp[hk]
  have Y:(s.kd==7)=false:=by simp[hk]
  have Z:(s.kd==8)=false:=by simp[hk]
  have e9:(s.kd==9)=true:=by simp[hk]
  have p:(s.kd==10)=false:=by simp[hk]
  clear F y hk h j G C K b f l e k
  unfold St.val at*
  unfold St.cells Sl.v at*
  go_enter Tryz.func65,Tryz.ntmps65
  go_upto_region 1 with fail
  generalize w.alloc (.cells _ 40)=I at*
  generalize w.heap.size=g at*
  obtain⟨p0,-,-,-,-,-,-,-,-,-,-,-,-,-,-,-,-,-,-,-,-,t,-⟩:=cls (u)
  go_wp2_with fail
  go_ret
  exact⟨rfl,B⟩
 ·have e:s.body=⟨#[82,79,76,76,66,65,67,75,32,84,79,32]⟩++s.nm:=by unfold St.body;simp[hk]
  rw[e]
  clear O z3
  have P:(s.kd==1)=false:=by simp[hk]
  have Q:(s.kd==2)=false:=by simp[hk]
  have R:(s.kd==3)=false:=by simp[hk]
  have U:(s.kd==4)=false:=by simp[hk]
  have V:(s.kd==5)=false:=by simp[hk]
  have X:(s.kd==6)=false:=by simp[hk]
  have Y:(s.kd==7)=false:=by simp[hk]
  have Z:(s.kd==8)=false:=by simp[hk]
  have e9:(s.kd==9)=false:=by simp[hk]
  have p:(s.kd==10)=true:=by simp[hk]
  clear F y hk h j G C K b f l e k
  unfold St.val at*
  unfold St.cells Sl.v at*
  go_enter Tryz.func65,Tryz.ntmps65
  go_upto_region 1 with fail
  generalize w.alloc (.cells _ 40)=I at*
  generalize w.heap.size=g at*
  obtain⟨p0,-,-,-,-,-,-,-,-,-,-,-,-,-,-,-,-,-,-,-,-,t,-⟩:=cls (u)
  go_wp2_with fail
  go_ret
  exact⟨rfl,B⟩
 ·have e:s.body=⟨#[82,69,76,69,65,83,69,32]⟩++s.nm:=by unfold St.body;simp[hk]
  rw[e]
  clear O z3
  have P:(s.kd==1)=false:=by simp[hk]
  have Q:(s.kd==2)=false:=by simp[hk]
  have R:(s.kd==3)=false:=by simp[hk]
  have U:(s.kd==4)=false:=by simp[hk]
  have V:(s.kd==5)=false:=by simp[hk]
  have X:(s.kd==6)=false:=by simp[hk]
  have Y:(s.kd==7)=false:=by simp[hk]
  have Z:(s.kd==8)=false:=by simp[hk]
  have e9:(s.kd==9)=false:=by simp[hk]
  have p:(s.kd==10)=false:=by simp[hk]
  clear F y hk h j G C K b f l e k
  unfold St.val at*
  unfold St.cells Sl.v at*
  go_enter Tryz.func65,Tryz.ntmps65
  go_upto_region 1 with fail
  generalize w.alloc (.cells _ 40)=I at*
  generalize w.heap.size=g at*
  obtain⟨p0,-,-,-,-,-,-,-,-,-,-,-,-,-,-,-,-,-,-,-,-,t,-⟩:=cls (u)
  go_wp2_with fail
  go_ret
  exact⟨rfl,B⟩
theorem agW_2:agW 2=⟨#[67,79,85,78,84]⟩:=rfl
theorem agW_3:agW 3=⟨#[83,85,77]⟩:=rfl
theorem agW_4:agW 4=⟨#[77,73,78]⟩:=rfl
theorem agW_5:agW 5=⟨#[77,65,88]⟩:=rfl
theorem lX (s:St) (a:SA) (w:World) (j:ExV w s.whr a.whr.A a.whr.n a.whr.c) (i:s.whr.absent=true∨s.whr.formed=true) (hs:s.whr.size≤1000):
  Calls Tryz.prog 88 #[s.val a] w fun r w'=>r= .returned (.string s.whT)∧Ext w w':=by
 unfold St.whT
 have t:=hid (Blk.of_new w 40 (s.cells a))
 have g:=hid ((Ext.refl w).alloc (.cells (s.cells a).toArray 40))
 unfold St.val at*
 unfold St.cells Sl.v at*
 cases b:s.whr.absent
 ·have f:=i.resolve_left (by rw[b];simp)
  have l:=hid (fun W (m:Ext w W)=>dB s.whr 1 a.whr.A a.whr.n a.whr.c W (j.ext m) f hs)
  have p:(s.whr.tx 1).size≤100000:=by have:=bJ s.whr 1 f;omega
  have o:(s.whr.d.op==0)=false:=by
   have h:s.whr.d.op≠0:=by
    generalize s.whr=e at f
    cases e with
    |mk d ks=>exact mN f
   simpa using h
  unfold Nd.val at l
  clear j i hs b f
  unfold jU
  simp only[Bool.false_eq_true,if_false]
  generalize s.whr.tx 1=T at*
  go_enter Tryz.func88,Tryz.ntmps88
  go_wp2_with (go_at_call 50;refine(l _ g).mono ?_;rintro _ u ⟨rfl,k⟩)
  go_ret
  exact⟨rfl,g.trans k⟩
 ·have o:(s.whr.d.op==0)=true:=by
   unfold Ex.absent at b
   simp only[Bool.and_eq_true]at b
   exact b.1.1.1.1
  clear j i hs b
  simp only[if_true]
  go_enter Tryz.func88,Tryz.ntmps88
  go_wp2_with fail
  go_ret
  exact⟨rfl,g⟩
theorem itm_cases {x:Itm} (h:x.ok=true):(x.ag=1∨x.ag=0∧x.ex.formed=true∨(x.ag=2∨x.ag=3∨x.ag=4∨x.ag=5)∧x.ex.formed=true):=by
 unfold Itm.ok at h
 split at h
 ·rename_i a;exact .inl (by simpa using a)
 ·rename_i a
  have a:x.ag≠1:=by simpa using a
  simp only[Bool.and_eq_true,decide_eq_true_eq]at h
  by_cases b:x.ag=0
  ·exact .inr (.inl ⟨b,h.2⟩)
  ·exact .inr (.inr ⟨by omega,h.2⟩)
theorem qG (l:List Itm) (A:Option Addr) (n c:Nat) (w:World) (hl:l.length=n) (hn:n≤1048576) (hk:dN w A l) (B:l.all Itm.ok=true) (hs:∀x∈l,x.ex.size≤1000) (R:bA (l.map Itm.tx)≤1000000000):
  Calls Tryz.prog 160 #[.slice A n c] w fun r w'=>r= .returned (.string (if l.length=0 then ⟨#[42]⟩else cma (l.map Itm.tx)))∧Ext w w':=by
 obtain⟨U,hi,D,E,F⟩:=info_parts bX
 have HL:=hid hl
 have HK:=hid hk
 have HF:=hid B
 have HS:=hid hs
 have HZ:=hid R
 rw[hl]
 clear hl hk B hs R
 by_cases h0:n=0
 ·subst h0
  simp only[if_true]
  go_enter Tryz.func160,Tryz.ntmps160
  go_wp2_with fail
  go_ret
  exact⟨rfl,Ext.refl w⟩
 ·have hd:((n:Int)==0)=false:=by simp[h0]
  rw[if_neg h0]
  clear h0
  go_enter Tryz.func160,Tryz.ntmps160
  go_wp2_with fail
  have ac:=hid (bl w 9 1 0 0 0 w.heap.size #[] (Nat.le_refl _) rfl (by decide))
  go_loopw [3,4] (fun nv iv wr=> ∃(k:Nat),k≤n∧iv= .int .i64 k∧wr.ownsRow w.heap.size 9 1 nv k (cn ((l.take k).map Itm.tx))∧Ext w wr) (fun _ i _=>n- (intOf i).toNat)
  case atStart=>exact⟨0,Nat.zero_le _,rfl,ac,(Ext.refl w).alloc _⟩
  case round=>
   obtain⟨k,an,rfl,O,Q⟩:=hrel
   have C:=hid O
   have j:=hid Q
   clear O
   by_cases ad:k<n
   ·obtain⟨x,Y⟩:=aq HL ad
    have V:=HK.ext Q
    obtain⟨b,z,Ai,ni,ci,rfl,q0,q1,q2,q3,q4,q5,q6,q7,q8,h1⟩:=eM V Y
    have H:Hid ((l.take (k+1)).map Itm.tx=(l.take k).map Itm.tx++ [x.tx]):=by unfold Hid;rw[bW Y,List.map_append];rfl
    have hc:=itm_cases (List.all_eq_true.1 HF x (List.mem_of_getElem? Y))
    have X:=HS x (List.mem_of_getElem? Y)
    have G:=hid (fun W (I:Ext wr W) (B:x.ex.formed=true)=>dB x.ex 1 Ai ni ci W (h1.ext I) B X)
    have u:x.ex.formed=true→(x.ex.tx 1).size≤100000:=fun B=>by have:=bJ x.ex 1 B;omega
    have m:Hid (x.tx=if x.ag=1 then ⟨#[67,79,85,78,84,40,42,41]⟩else if x.ag=0 then x.ex.tx 1 else agW x.ag++⟨#[40]⟩++x.ex.tx 1++⟨#[41]⟩):=rfl
    have HQ:Hid (∀W,Ext wr W→W.cell? ⟨b,z+k*9,none⟩=some (.int .i64 x.ag)∧W.cell? ⟨b,z+k*9+1,none⟩=some (.int .i64 x.ex.d.op)∧W.cell? ⟨b,z+k*9+2,none⟩=some (.string x.ex.d.tb)∧W.cell? ⟨b,z+k*9+3,none⟩=some (.string x.ex.d.nm)∧W.cell? ⟨b,z+k*9+4,none⟩=some (.int .i64 x.ex.d.ix)∧W.cell? ⟨b,z+k*9+5,none⟩=some (.int .i64 x.ex.d.vk)∧W.cell? ⟨b,z+k*9+6,none⟩=some (.int .i64 x.ex.d.vi)∧W.cell? ⟨b,z+k*9+7,none⟩=some (.string x.ex.d.vt)∧W.cell? ⟨b,z+k*9+8,none⟩=some (.slice Ai ni ci)):=fun W I=>⟨I.keep q0,I.keep q1,I.keep q2,I.keep q3,I.keep q4,I.keep q5,I.keep q6,I.keep q7,I.keep q8⟩
    clear Y Q h1 V X q0 q1 q2 q3 q4 q5 q6 q7 q8
    unfold Nd.val at G
    have f:=hid ((Ext.refl wr).alloc (.cells #[.string ⟨#[]⟩,.string ⟨#[67,79,85,78,84]⟩,.string ⟨#[67,79,85,78,84]⟩,.string ⟨#[83,85,77]⟩,.string ⟨#[77,73,78]⟩,.string ⟨#[77,65,88]⟩] 9))
    have HB:=hid (Blk.of_new wr 9 [.string ⟨#[]⟩,.string ⟨#[67,79,85,78,84]⟩,.string ⟨#[67,79,85,78,84]⟩,.string ⟨#[83,85,77]⟩,.string ⟨#[77,73,78]⟩,.string ⟨#[77,65,88]⟩])
    have hQ:=HQ _ f
    obtain⟨e0,e1,e2,e3,e4,e5,e6,e7,e8⟩:=hQ
    obtain⟨b0,b1,b2,b3,b4,b5,-⟩:=cls HB
    obtain⟨ag,ex⟩:=x
    simp only at*
    generalize Itm.tx ⟨ag,ex⟩=TX at*
    rcases hc with rfl|⟨rfl,B⟩|⟨rfl|rfl|rfl|rfl,B⟩
    ·have s:=m.out
     simp only[if_true]at s
     rw[s]at H
     clear s m G u
     go_upto_region 8 with fail
     generalize wr.alloc (.cells _ 9)=wq at*
     go_wp2_with (at_builtin;refine wpList_append_any _ rfl (.tmp 55) (.tmp 56) 101 rfl w.heap.size 9 U _ 1 16 Tryz.underlying101 hi D E F rfl (by decide) _ (k) _ rfl ((ownN_ext C.out f.out).alloc _) _ _ 1 1 [.string ⟨#[67,79,85,78,84,40,42,41]⟩] rfl (reads_new1 _ _ _) (by simp[Value.oneCell']) (by unfold maxLen;omega) (by omega) (Nat.le_trans (j.out.trans f.out).size (by simp)) ?_;intro Z w5 a e g;have p:=hid a;have o:=hid e;clear a e g)
     go_roundw
     case rel=>
      have t:=aI C
      refine⟨k+1,by omega,by go_num,?_,((j.trans f).alloc _).grown o fun q J=>t q J⟩
      rw[H.out,aT]
      exact p
     case measure=>simp[intOf];omega
    ·have s:=m.out
     simp only[(by decide:¬(0:Int)=1),if_true,if_false]at s
     rw[s]at H
     have y:=hid (G _ f B)
     have R:=u B
     clear s m G u
     generalize ex.tx 1=L at*
     go_wp2_with (first|(go_at_call 50;(with_reducible refine y.out.mono ?_);rintro _ K ⟨rfl,h⟩)|(at_builtin;refine wpList_append_any _ rfl (.tmp 44) (.tmp 51) 101 rfl w.heap.size 9 U _ 1 16 Tryz.underlying101 hi D E F rfl (by decide) _ (k) _ rfl ((ownN_ext C.out (f.out.trans h)).alloc _) _ _ 1 1 [.string L] rfl (reads_new1 K _ _) (by simp[Value.oneCell']) (by unfold maxLen;omega) (by omega) (Nat.le_trans (j.out.trans (f.out.trans h)).size (by simp)) ?_;intro Z w5 a e g;have p:=hid a;have o:=hid e;clear a e g))
     go_roundw
     case rel=>
      have t:=aI C
      refine⟨k+1,by omega,by go_num,?_,((j.trans (f.trans h)).alloc _).grown o fun q J=>t q J⟩
      rw[H.out,aT]
      exact p
     case measure=>simp[intOf];omega
    ·have s:=m.out
     simp only[(by decide:¬(2:Int)=1),(by decide:¬(2:Int)=0),if_false,agW_2]at s
     rw[s]at H
     have y:=hid (G _ f B)
     have R:=u B
     clear s m G u
     generalize ex.tx 1=L at*
     go_wp2_with (first|(go_at_call 50;(with_reducible refine y.out.mono ?_);rintro _ K ⟨rfl,h⟩)|(at_builtin;generalize ⟨#[67,79,85,78,84]⟩++⟨#[40]⟩++L++⟨#[41]⟩=P at*;refine wpList_append_any _ rfl (.tmp 29) (.tmp 40) 101 rfl w.heap.size 9 U _ 1 16 Tryz.underlying101 hi D E F rfl (by decide) _ (k) _ rfl ((ownN_ext C.out (f.out.trans h)).alloc _) _ _ 1 1 [.string P] rfl (reads_new1 K _ _) (by simp[Value.oneCell']) (by unfold maxLen;omega) (by omega) (Nat.le_trans (j.out.trans (f.out.trans h)).size (by simp)) ?_;intro Z w5 a e g;have p:=hid a;have o:=hid e;clear a e g))
     go_roundw
     case rel=>
      have t:=aI C
      refine⟨k+1,by omega,by go_num,?_,((j.trans (f.trans h)).alloc _).grown o fun q J=>t q J⟩
      rw[H.out,aT]
      exact p
     case measure=>simp[intOf];omega
    ·have s:=m.out
     simp only[(by decide:¬(3:Int)=1),(by decide:¬(3:Int)=0),if_false,agW_3]at s
     rw[s]at H
     have y:=hid (G _ f B)
     have R:=u B
     clear s m G u
     generalize ex.tx 1=L at*
     go_wp2_with (first|(go_at_call 50;(with_reducible refine y.out.mono ?_);rintro _ K ⟨rfl,h⟩)|(at_builtin;generalize ⟨#[83,85,77]⟩++⟨#[40]⟩++L++⟨#[41]⟩=P at*;refine wpList_append_any _ rfl (.tmp 29) (.tmp 40) 101 rfl w.heap.size 9 U _ 1 16 Tryz.underlying101 hi D E F rfl (by decide) _ (k) _ rfl ((ownN_ext C.out (f.out.trans h)).alloc _) _ _ 1 1 [.string P] rfl (reads_new1 K _ _) (by simp[Value.oneCell']) (by unfold maxLen;omega) (by omega) (Nat.le_trans (j.out.trans (f.out.trans h)).size (by simp)) ?_;intro Z w5 a e g;have p:=hid a;have o:=hid e;clear a e g))
     go_roundw
     case rel=>
      have t:=aI C
      refine⟨k+1,by omega,by go_num,?_,((j.trans (f.trans h)).alloc _).grown o fun q J=>t q J⟩
      rw[H.out,aT]
      exact p
     case measure=>simp[intOf];omega
    ·have s:=m.out
     simp only[(by decide:¬(4:Int)=1),(by decide:¬(4:Int)=0),if_false,agW_4]at s
     rw[s]at H
     have y:=hid (G _ f B)
     have R:=u B
     clear s m G u
     generalize ex.tx 1=L at*
     go_wp2_with (first|(go_at_call 50;(with_reducible refine y.out.mono ?_);rintro _ K ⟨rfl,h⟩)|(at_builtin;generalize ⟨#[77,73,78]⟩++⟨#[40]⟩++L++⟨#[41]⟩=P at*;refine wpList_append_any _ rfl (.tmp 29) (.tmp 40) 101 rfl w.heap.size 9 U _ 1 16 Tryz.underlying101 hi D E F rfl (by decide) _ (k) _ rfl ((ownN_ext C.out (f.out.trans h)).alloc _) _ _ 1 1 [.string P] rfl (reads_new1 K _ _) (by simp[Value.oneCell']) (by unfold maxLen;omega) (by omega) (Nat.le_trans (j.out.trans (f.out.trans h)).size (by simp)) ?_;intro Z w5 a e g;have p:=hid a;have o:=hid e;clear a e g))
     go_roundw
     case rel=>
      have t:=aI C
      refine⟨k+1,by omega,by go_num,?_,((j.trans (f.trans h)).alloc _).grown o fun q J=>t q J⟩
      rw[H.out,aT]
      exact p
     case measure=>simp[intOf];omega
    ·have s:=m.out
     simp only[(by decide:¬(5:Int)=1),(by decide:¬(5:Int)=0),if_false,agW_5]at s
     rw[s]at H
     have y:=hid (G _ f B)
     have R:=u B
     clear s m G u
     generalize ex.tx 1=L at*
     go_wp2_with (first|(go_at_call 50;(with_reducible refine y.out.mono ?_);rintro _ K ⟨rfl,h⟩)|(at_builtin;generalize ⟨#[77,65,88]⟩++⟨#[40]⟩++L++⟨#[41]⟩=P at*;refine wpList_append_any _ rfl (.tmp 29) (.tmp 40) 101 rfl w.heap.size 9 U _ 1 16 Tryz.underlying101 hi D E F rfl (by decide) _ (k) _ rfl ((ownN_ext C.out (f.out.trans h)).alloc _) _ _ 1 1 [.string P] rfl (reads_new1 K _ _) (by simp[Value.oneCell']) (by unfold maxLen;omega) (by omega) (Nat.le_trans (j.out.trans (f.out.trans h)).size (by simp)) ?_;intro Z w5 a e g;have p:=hid a;have o:=hid e;clear a e g))
     go_roundw
     case rel=>
      have t:=aI C
      refine⟨k+1,by omega,by go_num,?_,((j.trans (f.trans h)).alloc _).grown o fun q J=>t q J⟩
      rw[H.out,aT]
      exact p
     case measure=>simp[intOf];omega
   ·obtain rfl:k=n:=by omega
    rw[List.take_of_length_le (Nat.le_of_eq HL)]at C
    have HJ:=hid (cX _ _ _ _ wr C HZ)
    go_wp2_with (go_at_call 87;refine HJ.mono ?_;rintro _ K ⟨rfl,h⟩)
    go_ret
    exact⟨rfl,j.trans h⟩
structure Two (w:World) (B:Nat) (v:Value) (n:Nat) (l:List ByteArray) (u:Value) (m:Nat) (l':List ByteArray):Prop where
 one:w.ownsRow B 9 1 v n (cn l)
 two:w.ownsRow B 9 1 u m (cn l')
 apart:∀q,v.ownBlock=some q→u.ownBlock≠some q
theorem Two.ext {w w':World} {B n m:Nat} {v u:Value} {l b:List ByteArray} (h:Two w B v n l u m b) (a:Ext w w'):Two w' B v n l u m b:=⟨ownN_ext h.one a,ownN_ext h.two a,h.apart⟩
theorem Two.symm {w:World} {B n m:Nat} {v u:Value} {l a:List ByteArray} (h:Two w B v n l u m a):Two w B u m a v n l:=⟨h.two,h.one,fun q b e=>h.apart q e b⟩
theorem Two.step {f g:World} {B n m:Nat} {v u b:Value} {l j:List ByteArray} {x:ByteArray} (h:Two f B v n l u m j) (o:f.grownBy g v.ownBlock) (a:b.ownBlock=v.ownBlock∨b.ownBlock=some f.heap.size)
  (p:g.ownsRow B 9 1 b (n+1) (cn l++ [.string x])):Two g B b (n+1) (l++ [x]) u m j:=by
 refine⟨by rw[aT];exact p,h.two.kept o ?_,fun q e i=>?_⟩
 ·cases r:u.ownBlock with
  |none=>exact .inl rfl
  |some q=>exact .inr fun k=>h.apart q k.symm r
 ·rcases a with a|a
  ·exact h.apart q (a.symm.trans e) i
  ·rw[a]at e
   have:=Option.some.inj e
   have:=(h.two.lt q i).2
   omega
theorem src_assoc {x:Src} (h:¬x.al.size=0):x.tx=x.tb++(⟨#[32,65,83,32]⟩++x.al):=by
 unfold Src.tx
 rw[if_neg h,ByteArray.append_assoc]
theorem rsel_any (s:St) (a:SA) (w:World) (I:StV w s a) (P:s.qOk=true) (hw:s.whr.absent=true∨s.whr.formed=true) (hF:s.Fits) (hb:s.bulk≤1048576):
  Calls Tryz.prog 89 #[s.val a] w fun r w'=>r= .returned (.string s.sel)∧Ext w w':=by
 obtain⟨i0,hi,ac,ad,ag⟩:=info_parts bX
 obtain⟨Y,bY,a5,Z,cc,cd⟩:=og P
 have b0:=ev s hb
 have b6:=cZ s hb
 have ck:a.frm.n≤1048576:=by have:=I.frm.1;omega
 have cl:a.ord.n≤1048576:=by have:=I.ord.1;omega
 have H1:=hid (fun W (J:Ext w W)=>qG s.itms a.itms.A a.itms.n a.itms.c W I.itms.1 (by have:=I.itms.1;omega) (I.itms.2.2.ext J) Y hF.itms (Nat.le_trans (aP Itm.tx bkI 100 s.itms fun x y=>lR (List.all_eq_true.1 Y x y)) (by omega)))
 have H3:=hid (fun W (J:Ext w W)=>lX s a W (I.whr.ext J) hw hF.whr)
 have H4:=hid (fun W (J:Ext w W)=>lV s.grp a.grp.A a.grp.n a.grp.c W I.grp.1 (I.grp.2.2.ext J) a5 hF.grp)
 have H6:=hid (fun W=>fh s.lim W (by omega) (by omega))
 have bx:Hid (bA (s.frm.map Src.tx)≤1000000000):=Nat.le_trans (aP Src.tx bkF 100 s.frm fun x y=>gl x) (by omega)
 have a0:Hid (bA (s.ord.map Ord'.tx)≤1000000000):=Nat.le_trans (aP Ord'.tx bkO 100 s.ord fun x y=>gm (List.all_eq_true.1 Z x y)) (by omega)
 have ba:=hid bY
 have bd:=hid Z
 have Q:=hid I.frm
 have R:=hid I.ord
 have z1:=lW s Y b0.2.2.2.2.2.1
 have z2:(cma (s.frm.map Src.tx)).size≤104857600:=Nat.le_trans (aK _) (Nat.le_trans (aP Src.tx bkF 100 s.frm fun x y=>gl x) (by omega))
 have z3:=gn s hw hF.whr
 have z4:(exsT s.grp).size≤100000:=Nat.le_trans (aK _) (Nat.le_trans (eq a5) (by have:=hF.grp;omega))
 have z5:(cma (s.ord.map Ord'.tx)).size≤104857600:=Nat.le_trans (aK _) (Nat.le_trans (aP Ord'.tx bkO 100 s.ord fun x y=>gm (List.all_eq_true.1 Z x y)) (by omega))
 have z6:=Nat.le_trans (bh s.lim (by omega) (by omega)) (show 21≤1000 by omega)
 have D0:Hid (s.sel0=⟨#[83,69,76,69,67,84,32]⟩++s.itT++⟨#[32,70,82,79,77,32]⟩++cma (s.frm.map Src.tx)++s.whT):=rfl
 have D1:Hid (s.sel1=if s.grp.length=0 then s.sel0 else s.sel0++(⟨#[32,71,82,79,85,80,32,66,89,32]⟩++exsT s.grp)):=rfl
 have D2:Hid (s.sel2=if s.ord.length=0 then s.sel1 else s.sel1++(⟨#[32,79,82,68,69,82,32,66,89,32]⟩++cma (s.ord.map Ord'.tx))):=rfl
 have D3:Hid (s.sel=if 0<s.lim then s.sel2++(⟨#[32,76,73,77,73,84,32]⟩++itoB s.lim)else s.sel2):=rfl
 have DI:Hid (s.itT=if s.itms.length=0 then ⟨#[42]⟩else cma (s.itms.map Itm.tx)):=rfl
 rw[←DI.out]at H1
 rw[I.grp.1]at D1
 rw[I.ord.1]at D2
 have y0:s.sel0.size≤300000000:=by
  rw[D0.out];simp only[ByteArray.size_append];show 7+_+6+_+_≤_;omega
 have y1:s.sel1.size≤300100100:=by
  rw[D1.out];refine aC _ _ _ _ (by omega) ?_;simp only[ByteArray.size_append];show _+(10+_)≤_;omega
 have y2:s.sel2.size≤500000000:=by
  rw[D2.out];refine aC _ _ _ _ (by omega) ?_;simp only[ByteArray.size_append];show _+(10+_)≤_;omega
 have G:=hid (Blk.of_new w 40 (s.cells a))
 have HX:=hid ((Ext.refl w).alloc (.cells (s.cells a).toArray 40))
 clear I P hw hF hb Y bY a5 Z cc cd b0 b6 DI
 unfold St.val at*
 unfold St.cells Sl.v at*
 generalize s.sel=O3 at*
 generalize s.sel2=O2 at*
 generalize s.sel1=O1 at*
 generalize s.sel0=O0 at*
 generalize s.itT=TI at*
 generalize s.whT=TW at*
 generalize exsT s.grp=TG at*
 generalize itoB s.lim=TL at*
 go_enter Tryz.func89,Tryz.ntmps89
 go_upto_region 1 with fail
 generalize w.alloc (.cells _ 40)=u at*
 generalize w.heap.size=g at*
 go_wp2_with fail
 have a9:=hid ((bl u 9 1 0 0 0 u.heap.size #[] (Nat.le_refl _) rfl (by decide)).alloc (.cells #[] 9))
 have a3:=bl (u.alloc (.cells #[] 9)) 9 1 0 0 0 u.heap.size #[] (by simp) rfl (by decide)
 rw[show(u.alloc (.cells #[] 9)).heap.size=u.heap.size+1 by simp]at a3
 have an:Hid (Two ((u.alloc (.cells #[] 9)).alloc (.cells #[] 9)) u.heap.size (.slice (some ⟨u.heap.size,0,none⟩) 0 0) 0 [] (.slice (some ⟨u.heap.size+1,0,none⟩) 0 0) 0 []):=⟨a9,a3,fun q h1 h2=>by
  have h1:some u.heap.size=some q:=h1
  have h2:some (u.heap.size+1)=some q:=h2
  have:=h1.trans h2.symm
  have:=Option.some.inj this
  omega⟩
 have bf:=hid (((Ext.refl u).alloc (.cells #[] 9)).alloc (.cells #[] 9))
 have C:Hid (u.heap.size≤u.heap.size):=Nat.le_refl _
 clear a9 a3
 generalize (u.alloc (.cells #[] 9)).alloc (.cells #[] 9)=W2 at*
 obtain⟨O,a1⟩:∃O,u.heap.size=O:=⟨_,rfl⟩
 have H:=hid a1
 rw[a1]at an C ⊢
 replace C:Hid (u.heap.size≤O):=by unfold Hid;omega
 have cj:=C
 clear a1
 go_loopw [3,5] (fun nv iv wr=> ∃(k:Nat),k≤a.frm.n∧iv= .int .i64 k∧Two wr O nv k ((s.frm.take k).map Src.tx) (.slice (some ⟨O+1,0,none⟩) 0 0) 0 []∧Ext u wr) (fun _ i _=>a.frm.n- (intOf i).toNat)
 case atStart=>exact⟨0,Nat.zero_le _,rfl,an,bf⟩
 case round=>
  obtain⟨k,b5,rfl,K,t⟩:=hrel
  have h:=hid K
  have o:=hid t
  clear K
  have cb:=(G.ext t).cell 9
  simp only[List.getElem?_cons_succ,List.getElem?_cons_zero]at cb
  by_cases a2:k<a.frm.n
  ·obtain⟨x,y⟩:=aq Q.1 a2
   obtain⟨hc,b,a6,hA,q0,q1⟩:=(Q.2.2.ext (HX.trans t)) k x y
   rw[hA]at cb
   have b7:=src_nm (List.all_eq_true.1 ba x (List.mem_of_getElem? y))
   have U:Hid ((s.frm.take (k+1)).map Src.tx=(s.frm.take k).map Src.tx++ [x.tx]):=by unfold Hid;rw[bW y,List.map_append];rfl
   clear y t hA hc
   obtain⟨n1,n2⟩:=b7
   by_cases h0:x.al.size=0
   ·have m:x.tx=x.tb:=by unfold Src.tx;rw[if_pos h0]
    rw[m]at U
    have bN:=bi h0
    rw[bN]at q1
    clear m h0 bN n2
    generalize x.tb=tb at*
    go_wp2_with (at_builtin;refine wpList_append_any _ rfl (.tmp 41) (.tmp 43) 101 rfl O 9 i0 _ 1 16 Tryz.underlying101 hi ac ad ag rfl (by decide) _ k _ rfl (h.out.one.alloc _) _ _ 1 1 [.string tb] rfl (reads_new1 wr _ _) (by simp[Value.oneCell']) (by unfold maxLen;omega) (by omega) (Nat.le_trans (Nat.le_of_eq H.out.symm) (Nat.le_trans (o.out).size (by simp))) ?_;intro v1 w5 f j e;have E:=hid f;have p:=hid j;have D:=hid e;clear f j e)
    go_roundw
    case rel=>
     have F:=aI h.one
     refine⟨k+1,by omega,by go_num,?_,(o.alloc _).grown p fun q P=>Nat.le_trans C (F q P)⟩
     rw[U.out]
     exact Two.step (h.ext ((Ext.refl _).alloc _)) p D E
    case measure=>simp[intOf];omega
   ·have m:=src_assoc h0
    rw[m]at U
    have v1:=bB h0
    have v2:=bo h0
    clear m h0
    generalize x.tb=tb at*
    generalize x.al=al at*
    go_wp2_with (at_builtin;generalize tb++(⟨#[32,65,83,32]⟩++al)=TB at*;refine wpList_append_any _ rfl (.tmp 41) (.tmp 43) 101 rfl O 9 i0 _ 1 16 Tryz.underlying101 hi ac ad ag rfl (by decide) _ k _ rfl (h.out.one.alloc _) _ _ 1 1 [.string TB] rfl (reads_new1 wr _ _) (by simp[Value.oneCell']) (by unfold maxLen;omega) (by omega) (Nat.le_trans (Nat.le_of_eq H.out.symm) (Nat.le_trans (o.out).size (by simp))) ?_;intro v1 w5 f j e;have E:=hid f;have p:=hid j;have D:=hid e;clear f j e)
    go_roundw
    case rel=>
     have F:=aI h.one
     refine⟨k+1,by omega,by go_num,?_,(o.alloc _).grown p fun q P=>Nat.le_trans C (F q P)⟩
     rw[U.out]
     exact Two.step (h.ext ((Ext.refl _).alloc _)) p D E
    case measure=>simp[intOf];omega
  ·obtain rfl:k=a.frm.n:=by omega
   rw[List.take_of_length_le (Nat.le_of_eq Q.1)]at h
   go_wp2_with fail
   have be:=hid h.symm
   have bw:=o
   clear cb t h o an bf
   go_loopw [4,7] (fun nv iv wr=> ∃(k:Nat),k≤a.ord.n∧iv= .int .i64 k∧Two wr O nv k ((s.ord.take k).map Ord'.tx) u3 a.frm.n (s.frm.map Src.tx)∧Ext u wr) (fun _ i _=>a.ord.n- (intOf i).toNat)
   case atStart=>exact⟨0,Nat.zero_le _,rfl,be,bw⟩
   case round=>
    obtain⟨k,b5,rfl,K,t⟩:=hrel
    have h:=hid K
    have o:=hid t
    clear K
    have cb:=(G.ext t).cell 19
    simp only[List.getElem?_cons_succ,List.getElem?_cons_zero]at cb
    by_cases a2:k<a.ord.n
    ·obtain⟨x,y⟩:=aq R.1 a2
     obtain⟨hc,b,a6,hA,q0,q1⟩:=(R.2.2.ext (HX.trans t)) k x y
     rw[hA]at cb
     have a4:=List.all_eq_true.1 bd x (List.mem_of_getElem? y)
     unfold Ord'.ok at a4
     rw[ch]at a4
     have U:Hid ((s.ord.take (k+1)).map Ord'.tx=(s.ord.take k).map Ord'.tx++ [x.tx]):=by unfold Hid;rw[bW y,List.map_append];rfl
     have HN:=hid (fh x.it wr (by omega) (by omega))
     have cp:=Nat.le_trans (bh x.it (by omega) (by omega)) (show 21≤1000 by omega)
     have V:Hid (x.tx=if x.ds=true then itoB x.it++⟨#[32,68,69,83,67]⟩else itoB x.it):=rfl
     have HQ:Hid (∀W,Ext wr W→W.cell? ⟨g,19,none⟩=some (.slice (some ⟨b,a6,none⟩) a.ord.n a.ord.c)∧W.cell? ⟨b,a6+k*2+1,none⟩=some (.bool x.ds)):=fun W J=>⟨J.keep cb,J.keep q1⟩
     clear y t hA hc a4 q1
     generalize Ord'.tx x=TX at*
     generalize itoB x.it=TN at*
     obtain⟨it,ds⟩:=x
     simp only at*
     cases ds
     ·have m:=V.out
      simp only[Bool.false_eq_true,if_false]at m
      rw[m]at U
      clear m V
      go_wp2_with (first|(go_at_call 91;(with_reducible refine HN.out.mono ?_);rintro _ w2 ⟨rfl,l⟩;obtain⟨e0,e1⟩:=HQ.out _ l)|(at_builtin;refine wpList_append_any _ rfl (.tmp 67) (.tmp 69) 101 rfl O 9 i0 _ 1 16 Tryz.underlying101 hi ac ad ag rfl (by decide) _ k _ rfl ((ownN_ext h.out.one l).alloc _) _ _ 1 1 [.string TN] rfl (reads_new1 w2 _ _) (by simp[Value.oneCell']) (by unfold maxLen;omega) (by omega) (Nat.le_trans (Nat.le_of_eq H.out.symm) (Nat.le_trans (o.out.trans l).size (by simp))) ?_;intro v1 w5 f j e;have E:=hid f;have p:=hid j;have D:=hid e;clear f j e))
      go_roundw
      case rel=>
       have F:=aI h.one
       refine⟨k+1,by omega,by go_num,?_,((o.trans l).alloc _).grown p fun q P=>Nat.le_trans C (F q P)⟩
       rw[U.out]
       exact Two.step (h.ext (l.alloc _)) p D E
      case measure=>simp[intOf];omega
     ·have m:=V.out
      simp only[if_true]at m
      rw[m]at U
      clear m V
      go_wp2_with (first|(go_at_call 91;(with_reducible refine HN.out.mono ?_);rintro _ w2 ⟨rfl,l⟩;obtain⟨e0,e1⟩:=HQ.out _ l)|(at_builtin;generalize TN++⟨#[32,68,69,83,67]⟩=TB at*;refine wpList_append_any _ rfl (.tmp 67) (.tmp 69) 101 rfl O 9 i0 _ 1 16 Tryz.underlying101 hi ac ad ag rfl (by decide) _ k _ rfl ((ownN_ext h.out.one l).alloc _) _ _ 1 1 [.string TB] rfl (reads_new1 w2 _ _) (by simp[Value.oneCell']) (by unfold maxLen;omega) (by omega) (Nat.le_trans (Nat.le_of_eq H.out.symm) (Nat.le_trans (o.out.trans l).size (by simp))) ?_;intro v1 w5 f j e;have E:=hid f;have p:=hid j;have D:=hid e;clear f j e))
      go_roundw
      case rel=>
       have F:=aI h.one
       refine⟨k+1,by omega,by go_num,?_,((o.trans l).alloc _).grown p fun q P=>Nat.le_trans C (F q P)⟩
       rw[U.out]
       exact Two.step (h.ext (l.alloc _)) p D E
      case measure=>simp[intOf];omega
    ·obtain rfl:k=a.ord.n:=by omega
     rw[List.take_of_length_le (Nat.le_of_eq R.1)]at h
     clear Q R ba bd be bw
     obtain⟨oA,oc,b9,_,_⟩:=lU h.one fun x y=>by have:=dJ y;have:=a0.out;omega
     subst b9
     go_upto_region 16 with fail
     replace G:=hid (G.ext o)
     have ax:=hid (HX.trans o)
     have a7:=hid (fun W (J:Ext wr W)=>cX _ _ _ _ W (ownN_ext h.two J) bx)
     have a8:=hid (fun W (J:Ext wr W)=>cX _ _ _ _ W (ownN_ext h.one J) a0)
     clear cb t o h bx a0
     generalize cma (s.frm.map Src.tx)=TS at*
     generalize cma (s.ord.map Ord'.tx)=TO at*
     have K1:Hid (∀z:ae wr,Calls Tryz.prog 160 _ z.now _):=fun z=>H1 z.now (ax.trans z.ext)
     have K2:Hid (∀z:ae wr,Calls Tryz.prog 87 _ z.now _):=fun z=>a7 z.now z.ext
     have K3:Hid (∀z:ae wr,Calls Tryz.prog 88 _ z.now _):=fun z=>H3 z.now (ax.trans z.ext)
     have l8:=ae.keep (G.cell_some (i:=8) rfl)
     refine ab (by kernel_rfl) (by kernel_rfl) ?_
     repeat (first|(refine aW rfl 40 (.tmp 1) rfl g rfl 40 _ _ (ce G) Tryz.underlying40 rfl (by kernel_rfl) ?_;go_simp)|go_big_quiet_step (first|(go_at_call 160;with_reducible exact ak (K1.out _))|(go_at_call 87;with_reducible exact ak (K2.out _))|(go_at_call 88;with_reducible exact ak (K3.out _))))
     refine wpQuiet_nil ?_
     first|(intro wb b1;have L:=ah b1;clear b1)|(intro xb;have L:=xb.ext;generalize xb.now=wb at*;clear xb)
     have b4:=D0.out
     generalize ⟨#[83,69,76,69,67,84,32]⟩++TI++⟨#[32,70,82,79,77,32]⟩++TS++TW=TX at*
     subst b4
     replace G:=hid (G.ext L)
     have bm:=hid (ax.trans L)
     have X:=hid L
     clear L K2 K3 K1 H1 H3 a7 l8 D0
     have b2:=(G).cell 18
     simp only[List.getElem?_cons_succ,List.getElem?_cons_zero]at b2
     go_upto_if 85 with fail
     go_cut [9] from 82 to 91 (fun ov wx=>ov= .string O1∧Ext wb wx)
     case first=>
      by_cases hn:0<a.grp.n
      ·have m:=D1.out
       rw[if_neg (by omega)]at m
       go_wp2_with (go_at_call 86;(with_reducible refine(H4.out _ bm.out).mono ?_);rintro _ w2 ⟨rfl,l⟩)
       go_meet
       exact⟨by rw[m],l⟩
      ·have m:=D1.out
       rw[if_pos (by omega)]at m
       subst m
       go_wp2_with fail
       go_meet
       exact⟨rfl,Ext.refl _⟩
     case rest=>
      obtain⟨rfl,B⟩:=hcut
      generalize wc=wd at*
      have b3:=hid (bm.trans B)
      replace X:=hid (X.trans B)
      replace G:=hid (G.ext B)
      clear B H4 D1 b2 y0
      go_upto_if 94 with fail
      go_cut [9] from 92 to 99 (fun ov wx=>ov= .string O2∧Ext wd wx)
      case first=>
       by_cases hn:0<a.ord.n
       ·have m:=D2.out
        rw[if_neg (by omega)]at m
        go_wp2_with (go_at_call 87;(with_reducible refine(a8.out _ X.out).mono ?_);rintro _ w2 ⟨rfl,l⟩)
        go_meet
        exact⟨by rw[m],l⟩
       ·have m:=D2.out
        rw[if_pos (by omega)]at m
        subst m
        go_wp2_with fail
        go_meet
        exact⟨rfl,Ext.refl _⟩
      case rest=>
       obtain⟨rfl,B⟩:=hcut
       generalize wc=we at*
       have bn:=hid (b3.trans B)
       replace G:=hid (G.ext B)
       clear B a8 D2 y1 X
       have ci:=(G).cell 20
       simp only[List.getElem?_cons_succ,List.getElem?_cons_zero]at ci
       have m:=D3.out
       by_cases hn:0<s.lim
       ·rw[if_pos hn]at m
        have hd:decide (0<s.lim)=true:=by simpa using hn
        clear hn
        go_wp2_with (go_at_call 91;(with_reducible refine(H6.out _).mono ?_);rintro _ w2 ⟨rfl,l⟩)
        go_ret
        exact⟨dP m.symm,bn.trans l⟩
       ·rw[if_neg hn]at m
        have hd:decide (0<s.lim)=false:=by simpa using hn
        clear hn
        subst m
        go_wp2_with fail
        go_ret
        exact⟨rfl,bn⟩
end Go.Proofs.YtjigcpfjhfoheaaGreatDoor
