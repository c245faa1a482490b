/- Walks: the text of a query, and of a statement; Walks: the reference's texts of queries; Walks: Valid and Format of a statement, the program's and the reference's. -/
import Derived.Test.YtjigcpfjhfoheaaGreatDoorEbf
import Derived.Test.YtjigcpfjhfoheaaGreatDoorEbc
import Derived.Test.YtjigcpfjhfoheaaGreatDoorEba
import Derived.Test.YtjigcpfjhfoheaaGreatDoorEbd
import Derived.Test.YtjigcpfjhfoheaaGreatDoorEag
import Derived.Test.YtjigcpfjhfoheaaGreatDoorEbb
namespace Go.Proofs.YtjigcpfjhfoheaaGreatDoor
open Go.RowKit
set_option maxHeartbeats 4000000
set_option maxRecDepth 100000
set_option linter.unusedVariables false
set_option linter.unusedSimpArgs false
theorem sum_bulk (s:St) (h:s.bulk≤1048576):s.tb.size≤1048576∧s.nm.size≤1048576∧sumB bkCd s.cols+sumB bkK s.keys+sumB bkRf s.frs+sizeL s.chk≤1048576∧sumB bkR s.vals≤1048576∧sumB bkA s.sets≤1048576∧sumB bkI s.itms≤1048576∧sumB bkF s.frm≤1048576∧sumB bkO s.ord≤1048576:=by
 unfold St.bulk at h;omega
theorem lens_bulk (s:St) (h:s.bulk≤1048576):s.cols.length+s.keys.length+s.frs.length+s.chk.length≤1048576∧s.vals.length≤1048576∧s.sets.length≤1048576∧s.itms.length+s.frm.length+s.grp.length+s.ord.length≤1048576:=by
 have hl:∀l:List Ex,l.length≤sizeL l:=fun l=>by rw[←sumB_ex];exact sumB_len (fun a=>size_pos a) l
 have h1:=sumB_len (bk:=bkCd) (fun a=>by unfold bkCd;omega) s.cols
 have h2:=sumB_len (bk:=bkK) (fun a=>by unfold bkK;omega) s.keys
 have h3:=sumB_len (bk:=bkRf) (fun a=>by unfold bkRf;omega) s.frs
 have h4:=hl s.chk
 have h5:=sumB_len (bk:=bkR) (fun a=>by unfold bkR;omega) s.vals
 have h6:=sumB_len (bk:=bkA) (fun a=>by unfold bkA;omega) s.sets
 have h7:=sumB_len (bk:=bkI) (fun a=>by unfold bkI;omega) s.itms
 have h8:=sumB_len (bk:=bkF) (fun a=>by unfold bkF;omega) s.frm
 have h9:=hl s.grp
 have h10:=sumB_len (bk:=bkO) (fun a=>by unfold bkO;omega) s.ord
 unfold St.bulk at h
 omega
theorem whT_size (s:St) (hf:s.whr.absent=true∨s.whr.formed=true) (hs:s.whr.size≤1000):s.whT.size≤100000:=by
 unfold St.whT
 split
 ·exact Nat.zero_le _
 ·rename_i h
  have hf2:=hf.resolve_left h
  have:=tx_size s.whr 1 hf2
  rw[ByteArray.size_append]
  show 7+_≤_
  omega
theorem q_parts {s:St} (h:s.qOk=true):s.itms.all Itm.ok=true∧s.frm.all Src.ok=true∧s.grp.all Ex.formed=true∧s.ord.all Ord'.ok=true∧0≤s.lim∧s.lim≤2147483648:=by
 unfold St.qOk at h
 simp only[Bool.and_eq_true,inB_iff]at h
 refine⟨h.1.1.1.1.1,h.1.1.1.2,List.all_eq_true.2 fun e he=>?_,h.1.2,h.2⟩
 have:=List.all_eq_true.1 h.1.1.2 e he
 unfold colX at this
 simp only[Bool.and_eq_true]at this
 exact this.2
theorem src_nm {x:Src} (h:x.ok=true):x.tb.size≤1000∧x.al.size≤1000:=by
 unfold Src.ok at h
 simp only[Bool.and_eq_true,Bool.or_eq_true]at h
 refine⟨Nat.le_trans (nameB_size h.1) (by omega),?_⟩
 rcases h.2 with h|h
 ·rw[←str0_b]at h;have:x.al.size=0:=by simpa using h
  omega
 ·exact Nat.le_trans (nameB_size h) (by omega)
theorem asg_nm {x:Asg} (h:x.ok=true):x.cl.size≤1000∧x.ex.formed=true:=by
 unfold Asg.ok at h
 simp only[Bool.and_eq_true]at h
 exact⟨Nat.le_trans (nameB_size h.1) (by omega),h.2⟩
theorem itT_size (s:St) (hq:s.itms.all Itm.ok=true) (hb:sumB bkI s.itms≤1048576):s.itT.size≤104857600:=by
 unfold St.itT
 split
 ·show 1≤_;omega
 ·have h1:=cma_size (s.itms.map Itm.tx)
  have h2:=sumS_map Itm.tx bkI 100 s.itms fun x hx=>itm_size (List.all_eq_true.1 hq x hx)
  omega
theorem sel_any (s:St) (a:SA) (w:World) (hg:Gd w) (hv:StV w s a) (hq:s.qOk=true) (hw:s.whr.absent=true∨s.whr.formed=true) (hF:s.Fits) (hb:s.bulk≤1048576):
  Calls Tryz.prog 133 #[s.val a] w fun r w'=>r= .returned (.string s.sel)∧Ext w w':=by
 obtain⟨hq1,hq2,hq3,hq4,hq5,hq6⟩:=q_parts hq
 have hsb:=sum_bulk s hb
 have hlb:=lens_bulk s hb
 have H1:=hid (fun W (hW:Ext w W)=>ls_itm 209 ent_itmt Itm.tx s.itms a.itms.A a.itms.n a.itms.c W hv.itms.1 (by have:=hv.itms.1;omega) (hv.itms.2.2.ext hW) (Nat.le_trans (sumS_map Itm.tx bkI 100 s.itms fun x hx=>itm_size (List.all_eq_true.1 hq1 x hx)) (by omega)) fun x hx W2 hW2 Ai ni ci hc=>itmt_any x Ai ni ci W2 (hg.ext (hW.trans hW2)) hc (List.all_eq_true.1 hq1 x hx) (hF.itms x hx))
 have H2:=hid (fun W (hW:Ext w W)=>ls_src 212 ent_srct Src.tx s.frm a.frm.A a.frm.n a.frm.c W hv.frm.1 (by have:=hv.frm.1;omega) (hv.frm.2.2.ext hW) (Nat.le_trans (sumS_map Src.tx bkF 100 s.frm fun x hx=>src_size x) (by omega)) fun x hx W2 hW2 hc=>srct_any x W2 (src_nm (List.all_eq_true.1 hq2 x hx)))
 have H3:=hid (fun W (hW:Ext w W)=>where_any s a W (hg.ext hW) (hv.whr.ext hW) hw hF.whr)
 have H4:=hid (fun W (hW:Ext w W)=>exprs_any s.grp a.grp.A a.grp.n a.grp.c W (hg.ext hW) hv.grp.1 (hv.grp.2.2.ext hW) hq3 hF.grp)
 have H5:=hid (fun W (hW:Ext w W)=>ls_ord 214 ent_ordt Ord'.tx s.ord a.ord.A a.ord.n a.ord.c W hv.ord.1 (by have:=hv.ord.1;omega) (hv.ord.2.2.ext hW) (Nat.le_trans (sumS_map Ord'.tx bkO 100 s.ord fun x hx=>ord_size (List.all_eq_true.1 hq4 x hx)) (by omega)) fun x hx W2 hW2 hc=>ordt_any x W2 (hg.ext (hW.trans hW2)) (List.all_eq_true.1 hq4 x hx))
 have H6:=hid (fun W (hW:Ext w W)=>number_any s.lim W ((hg.ext hW).can hv.lim))
 have z1:=itT_size s hq1 hsb.2.2.2.2.2.1
 have z2:(cma (s.frm.map Src.tx)).size≤104857600:=Nat.le_trans (cma_size _) (Nat.le_trans (sumS_map Src.tx bkF 100 s.frm fun x hx=>src_size x) (by omega))
 have z3:=whT_size s hw hF.whr
 have z4:(exsT s.grp).size≤100000:=Nat.le_trans (cma_size _) (Nat.le_trans (exs_size hq3) (by have:=hF.grp;omega))
 have z5:(cma (s.ord.map Ord'.tx)).size≤104857600:=Nat.le_trans (cma_size _) (Nat.le_trans (sumS_map Ord'.tx bkO 100 s.ord fun x hx=>ord_size (List.all_eq_true.1 hq4 x hx)) (by omega))
 have z6:=Nat.le_trans (itoB_size s.lim (by omega) (by omega)) (show 21≤1000 by omega)
 have D0:Hid (s.sel0=⟨#[83,69,76,69,67,84,32]⟩++s.itT++⟨#[32,70,82,79,77,32]⟩++cma (s.frm.map Src.tx)++s.whT):=rfl
 have D1:Hid (s.sel1=if s.grp.length=0 then s.sel0 else s.sel0++(⟨#[32,71,82,79,85,80,32,66,89,32]⟩++exsT s.grp)):=rfl
 have D2:Hid (s.sel2=if s.ord.length=0 then s.sel1 else s.sel1++(⟨#[32,79,82,68,69,82,32,66,89,32]⟩++cma (s.ord.map Ord'.tx))):=rfl
 have D3:Hid (s.sel=if 0<s.lim then s.sel2++(⟨#[32,76,73,77,73,84,32]⟩++itoB s.lim)else s.sel2):=rfl
 have DI:Hid (s.itT=if s.itms.length=0 then ⟨#[42]⟩else cma (s.itms.map Itm.tx)):=rfl
 rw[hv.grp.1]at D1
 rw[hv.ord.1]at D2
 rw[hv.itms.1]at DI
 have y0:s.sel0.size≤300000000:=by
  rw[D0.out];simp only[ByteArray.size_append];show 7+_+6+_+_≤_;omega
 have y1:s.sel1.size≤300100100:=by
  rw[D1.out];refine ite_size _ _ _ _ (by omega) ?_;simp only[ByteArray.size_append];show _+(10+_)≤_;omega
 have y2:s.sel2.size≤500000000:=by
  rw[D2.out];refine ite_size _ _ _ _ (by omega) ?_;simp only[ByteArray.size_append];show _+(10+_)≤_;omega
 have HB:=hid (Blk.of_new w 40 (s.cells a))
 have HX:=hid ((Ext.refl w).alloc (.cells (s.cells a).toArray 40))
 clear hg hv hq hw hF hb hq1 hq2 hq3 hq4 hq5 hq6 hsb hlb
 unfold St.val at*
 unfold St.cells Sl.v at*
 generalize s.sel=O3 at*
 generalize s.sel2=O2 at*
 generalize s.sel1=O1 at*
 generalize s.sel0=O0 at*
 generalize s.itT=TI at*
 generalize s.whT=TW at*
 generalize cma (s.frm.map Src.tx)=TS at*
 generalize exsT s.grp=TG at*
 generalize cma (s.ord.map Ord'.tx)=TO at*
 generalize itoB s.lim=TL at*
 generalize cma (s.itms.map Itm.tx)=TI0 at*
 go_enter Tryz.func133,Tryz.ntmps133
 go_upto_region 1 with fail
 generalize w.alloc (.cells _ 40)=w1 at*
 generalize w.heap.size=g at*
 have p8:=(HB.out).cell 8
 simp only[List.getElem?_cons_succ,List.getElem?_cons_zero]at p8
 go_upto_if 8 with fail
 go_cut [3] from 5 to 11 (fun ov wx=>ov= .string TI∧Ext w1 wx)
 case first=>
  by_cases hn:0<a.itms.n
  ·have hT:=DI.out
   rw[if_neg (by omega)]at hT
   subst hT
   go_wp2_with (go_at_call 208;(with_reducible refine(H1.out _ HX.out).mono ?_);rintro _ w2 ⟨rfl,hx2⟩)
   go_meet
   exact⟨rfl,hx2⟩
  ·have hT:=DI.out
   rw[if_pos (by omega)]at hT
   subst hT
   go_wp2_with fail
   go_meet
   exact⟨rfl,Ext.refl _⟩
 case rest=>
  obtain⟨rfl,hxN⟩:=hcut
  generalize wc=wa at*
  have HXa:=hid (HX.out.trans hxN)
  replace HB:=hid (HB.out.ext hxN)
  clear hxN H1 DI p8
  go_upto_region 4 with fail
  have K2:Hid (∀z:Later wa,Calls Tryz.prog 211 _ z.now _):=fun z=>H2.out z.now (HXa.out.trans z.ext)
  have K3:Hid (∀z:Later wa,Calls Tryz.prog 132 _ z.now _):=fun z=>H3.out z.now (HXa.out.trans z.ext)
  have l9:=Later.keep (HB.out.cell_some (i:=9) rfl)
  refine wp_region_later (by kernel_rfl) (by kernel_rfl) ?_
  repeat (first|(refine quiet_load_blk rfl 40 (.tmp 1) rfl g rfl 40 _ _ (later_blk HB.out) Tryz.underlying40 rfl (by kernel_rfl) ?_;go_simp)|go_big_quiet_step (first|(go_at_call 211;with_reducible exact later_of (K2.out _))|(go_at_call 132;with_reducible exact later_of (K3.out _))))
  refine wpQuiet_nil ?_
  first|(intro wb hw9;have hx9:=later_out hw9;clear hw9)|(intro xb;have hx9:=xb.ext;generalize xb.now=wb at*;clear xb)
  have hD0:=D0.out
  generalize ⟨#[83,69,76,69,67,84,32]⟩++TI++⟨#[32,70,82,79,77,32]⟩++TS++TW=TX at*
  subst hD0
  replace HB:=hid (HB.out.ext hx9)
  have HXb:=hid (HXa.out.trans hx9)
  clear hx9 K2 K3 H2 H3 l9 D0
  have p18:=(HB.out).cell 18
  simp only[List.getElem?_cons_succ,List.getElem?_cons_zero]at p18
  go_upto_if 25 with fail
  go_cut [4] from 22 to 31 (fun ov wx=>ov= .string O1∧Ext wb wx)
  case first=>
   by_cases hn:0<a.grp.n
   ·have hT:=D1.out
    rw[if_neg (by omega)]at hT
    go_wp2_with (go_at_call 128;(with_reducible refine(H4.out _ HXb.out).mono ?_);rintro _ w2 ⟨rfl,hx2⟩)
    go_meet
    exact⟨by rw[hT],hx2⟩
   ·have hT:=D1.out
    rw[if_pos (by omega)]at hT
    subst hT
    go_wp2_with fail
    go_meet
    exact⟨rfl,Ext.refl _⟩
  case rest=>
   obtain⟨rfl,hxN⟩:=hcut
   generalize wc=wd at*
   have HXd:=hid (HXb.out.trans hxN)
   replace HB:=hid (HB.out.ext hxN)
   clear hxN H4 D1 p18 y0
   have p19:=(HB.out).cell 19
   simp only[List.getElem?_cons_succ,List.getElem?_cons_zero]at p19
   go_upto_if 35 with fail
   go_cut [4] from 32 to 41 (fun ov wx=>ov= .string O2∧Ext wd wx)
   case first=>
    by_cases hn:0<a.ord.n
    ·have hT:=D2.out
     rw[if_neg (by omega)]at hT
     go_wp2_with (go_at_call 213;(with_reducible refine(H5.out _ HXd.out).mono ?_);rintro _ w2 ⟨rfl,hx2⟩)
     go_meet
     exact⟨by rw[hT],hx2⟩
    ·have hT:=D2.out
     rw[if_pos (by omega)]at hT
     subst hT
     go_wp2_with fail
     go_meet
     exact⟨rfl,Ext.refl _⟩
   case rest=>
    obtain⟨rfl,hxN⟩:=hcut
    generalize wc=we at*
    have HXe:=hid (HXd.out.trans hxN)
    replace HB:=hid (HB.out.ext hxN)
    clear hxN H5 D2 p19 y1
    have p20:=(HB.out).cell 20
    simp only[List.getElem?_cons_succ,List.getElem?_cons_zero]at p20
    have hT:=D3.out
    by_cases hn:0<s.lim
    ·rw[if_pos hn]at hT
     have hd:decide (0<s.lim)=true:=by simpa using hn
     clear hn
     go_wp2_with (go_at_call 202;(with_reducible refine(H6.out _ HXe.out).mono ?_);rintro _ w2 ⟨rfl,hx2⟩)
     go_ret
     exact⟨ret_str hT.symm,HXe.out.trans hx2⟩
    ·rw[if_neg hn]at hT
     have hd:decide (0<s.lim)=false:=by simpa using hn
     clear hn
     subst hT
     go_wp2_with fail
     go_ret
     exact⟨rfl,HXe.out⟩
theorem form_any (s:St) (a:SA) (w:World) (hg:Gd w) (hv:StV w s a) (hcK:CapK w a.keys.A a.keys.n) (hcR:CapR w a.frs.A a.frs.n) (hf:s.formed=true) (hF:s.Fits) (hb:s.bulk≤1048576):
  Calls Tryz.prog 65 #[s.val a] w fun r w'=>r= .returned (.string s.body)∧Ext w w':=by
 have hkk:=formed_kind hf
 have hsb:=sum_bulk s hb
 have hlb:=lens_bulk s hb
 have HB:=hid (Blk.of_new w 40 (s.cells a))
 have HX:=hid ((Ext.refl w).alloc (.cells (s.cells a).toArray 40))
 have z1:s.tb.size≤1048576:=hsb.1
 have z2:s.nm.size≤1048576:=hsb.2.1
 have z3:=whT_size s (whr_of hf) hF.whr
 have HW:=hid (fun W (hW:Ext w W)=>where_any s a W (hg.ext hW) (hv.whr.ext hW) (whr_of hf) hF.whr)
 have hkd:s.kd=1∨s.kd=2∨s.kd=3∨s.kd=4∨s.kd=5∨s.kd=6∨s.kd=7∨s.kd=8∨s.kd=9∨s.kd=10∨s.kd=11:=by have:=hkk.1;omega
 have hkd2:=hkd
 rcases hkd2 with hk|hk|hk|hk|hk|hk|hk|hk|hk|hk|hk
 ·have hT:s.body=⟨#[67,82,69,65,84,69,32,84,65,66,76,69,32]⟩++s.tb++⟨#[32,40]⟩++cma s.elts++⟨#[41]⟩:=by unfold St.body;simp[hk]
  rw[hT]
  have hd:=hkk.2.1 hk
  have hes:=Nat.le_trans (elts_size hd) (show _≤104857600 by omega)
  have z4:(cma s.elts).size≤104857600:=Nat.le_trans (cma_size _) hes
  have HE:=hid (fun W (hW:Ext w W)=>elements_any s a W (hg.ext hW) (hv.ext hW) (hcK.ext hW) (hcR.ext hW) hd hlb.1 (by omega) hF.chk)
  clear hd hes HW
  generalize cma s.elts=TE at*
  have e1:(s.kd==1)=true:=by simp[hk]
  have e2:(s.kd==2)=false:=by simp[hk]
  have e3:(s.kd==3)=false:=by simp[hk]
  have e4:(s.kd==4)=false:=by simp[hk]
  have e5:(s.kd==5)=false:=by simp[hk]
  have e6:(s.kd==6)=false:=by simp[hk]
  have e7:(s.kd==7)=false:=by simp[hk]
  have e8:(s.kd==8)=false:=by simp[hk]
  have e9:(s.kd==9)=false:=by simp[hk]
  have e10:(s.kd==10)=false:=by simp[hk]
  clear hg hv hk hcK hcR hf hF hb hkk hsb hlb hT hkd
  unfold St.val at*
  unfold St.cells Sl.v at*
  go_enter Tryz.func65,Tryz.ntmps65
  go_upto_region 1 with fail
  generalize w.alloc (.cells _ 40)=w1 at*
  generalize w.heap.size=g at*
  obtain⟨p0,-,-,-,-,-,-,-,-,-,-,-,-,-,-,-,-,-,-,-,-,p21,-⟩:=cls (HB.out)
  go_wp2_with fail
  have K1:Hid (∀z:Later w1,Calls Tryz.prog 125 _ z.now _):=fun z=>HE.out z.now (HX.out.trans z.ext)
  obtain⟨-,l1,l2,l3,l4,l5,-⟩:=lks HB.out
  refine wp_region_later (by kernel_rfl) (by kernel_rfl) ?_
  repeat (first|(refine quiet_load_blk rfl 40 (.tmp 1) rfl g rfl 40 _ _ (later_blk HB.out) Tryz.underlying40 rfl (by kernel_rfl) ?_;go_simp)|go_big_quiet_step (first|(go_at_call 125;with_reducible exact later_of (K1.out _))))
  refine wpQuiet_nil ?_
  first|(intro wb hw9;have hx9:=later_out hw9;clear hw9)|(intro xb;have hx9:=xb.ext;generalize xb.now=wb at*;clear xb)
  go_wp2_with fail
  go_ret
  exact⟨rfl,HX.out.trans hx9⟩
 ·have hT:s.body=⟨#[73,78,83,69,82,84,32,73,78,84,79,32]⟩++s.tb++⟨#[32,86,65,76,85,69,83,32]⟩++cma (s.vals.map rowT):=by unfold St.body;simp[hk]
  rw[hT]
  have hv2:=hkk.2.2.2.1 hk
  have hrs:∀x∈s.vals,x.all Ex.formed=true:=fun x hx=>by have:=List.all_eq_true.1 hv2 x hx;unfold rowOk at this;simp only[Bool.and_eq_true]at this;exact this.2
  have hes:=Nat.le_trans (sumS_map rowT bkR 100 s.vals fun x hx=>row_size (hrs x hx)) (show _≤104857600 by omega)
  have z4:(cma (s.vals.map rowT)).size≤104857600:=Nat.le_trans (cma_size _) hes
  have HE:=hid (fun W (hW:Ext w W)=>ls_row 127 ent_rowt rowT s.vals a.vals.A a.vals.n a.vals.c W hv.vals.1 (by have:=hv.vals.1;omega) (hv.vals.2.2.ext hW) (by omega) fun x hx W2 hW2 Ai ni ci hc=>rowt_any x Ai ni ci W2 (hg.ext (hW.trans hW2)) hc.1 hc.2 (hrs x hx) (hF.vals x hx))
  clear hv2 hrs hes HW
  generalize cma (s.vals.map rowT)=TE at*
  have e1:(s.kd==1)=false:=by simp[hk]
  have e2:(s.kd==2)=true:=by simp[hk]
  have e3:(s.kd==3)=false:=by simp[hk]
  have e4:(s.kd==4)=false:=by simp[hk]
  have e5:(s.kd==5)=false:=by simp[hk]
  have e6:(s.kd==6)=false:=by simp[hk]
  have e7:(s.kd==7)=false:=by simp[hk]
  have e8:(s.kd==8)=false:=by simp[hk]
  have e9:(s.kd==9)=false:=by simp[hk]
  have e10:(s.kd==10)=false:=by simp[hk]
  clear hg hv hk hcK hcR hf hF hb hkk hsb hlb hT hkd
  unfold St.val at*
  unfold St.cells Sl.v at*
  go_enter Tryz.func65,Tryz.ntmps65
  go_upto_region 1 with fail
  generalize w.alloc (.cells _ 40)=w1 at*
  generalize w.heap.size=g at*
  obtain⟨p0,-,-,-,-,-,-,-,-,-,-,-,-,-,-,-,-,-,-,-,-,p21,-⟩:=cls (HB.out)
  go_wp2_with fail
  have K1:Hid (∀z:Later w1,Calls Tryz.prog 126 _ z.now _):=fun z=>HE.out z.now (HX.out.trans z.ext)
  obtain⟨-,l1,-,-,-,-,l6,-⟩:=lks HB.out
  refine wp_region_later (by kernel_rfl) (by kernel_rfl) ?_
  repeat (first|(refine quiet_load_blk rfl 40 (.tmp 1) rfl g rfl 40 _ _ (later_blk HB.out) Tryz.underlying40 rfl (by kernel_rfl) ?_;go_simp)|go_big_quiet_step (first|(go_at_call 126;with_reducible exact later_of (K1.out _))))
  refine wpQuiet_nil ?_
  first|(intro wb hw9;have hx9:=later_out hw9;clear hw9)|(intro xb;have hx9:=xb.ext;generalize xb.now=wb at*;clear xb)
  go_wp2_with fail
  go_ret
  exact⟨rfl,HX.out.trans hx9⟩
 ·have hT:s.body=⟨#[85,80,68,65,84,69,32]⟩++s.tb++⟨#[32,83,69,84,32]⟩++cma (s.sets.map Asg.tx)++s.whT:=by unfold St.body;simp[hk]
  rw[hT]
  have hv2:=hkk.2.2.2.2.2.1 hk
  have hes:=Nat.le_trans (sumS_map Asg.tx bkA 100 s.sets fun x hx=>asg_size (List.all_eq_true.1 hv2 x hx)) (show _≤104857600 by omega)
  have z4:(cma (s.sets.map Asg.tx)).size≤104857600:=Nat.le_trans (cma_size _) hes
  have HE:=hid (fun W (hW:Ext w W)=>ls_asg 130 ent_asgt Asg.tx s.sets a.sets.A a.sets.n a.sets.c W hv.sets.1 (by have:=hv.sets.1;omega) (hv.sets.2.2.ext hW) (by omega) fun x hx W2 hW2 Ai ni ci hc=>asgt_any x Ai ni ci W2 (hg.ext (hW.trans hW2)) (asg_nm (List.all_eq_true.1 hv2 x hx)).1 hc (asg_nm (List.all_eq_true.1 hv2 x hx)).2 (hF.sets x hx))
  clear hv2 hes
  generalize cma (s.sets.map Asg.tx)=TE at*
  generalize s.whT=TW at*
  have e1:(s.kd==1)=false:=by simp[hk]
  have e2:(s.kd==2)=false:=by simp[hk]
  have e3:(s.kd==3)=true:=by simp[hk]
  have e4:(s.kd==4)=false:=by simp[hk]
  have e5:(s.kd==5)=false:=by simp[hk]
  have e6:(s.kd==6)=false:=by simp[hk]
  have e7:(s.kd==7)=false:=by simp[hk]
  have e8:(s.kd==8)=false:=by simp[hk]
  have e9:(s.kd==9)=false:=by simp[hk]
  have e10:(s.kd==10)=false:=by simp[hk]
  clear hg hv hk hcK hcR hf hF hb hkk hsb hlb hT hkd
  unfold St.val at*
  unfold St.cells Sl.v at*
  go_enter Tryz.func65,Tryz.ntmps65
  go_upto_region 1 with fail
  generalize w.alloc (.cells _ 40)=w1 at*
  generalize w.heap.size=g at*
  obtain⟨p0,-,-,-,-,-,-,-,-,-,-,-,-,-,-,-,-,-,-,-,-,p21,-⟩:=cls (HB.out)
  go_wp2_with fail
  have K1:Hid (∀z:Later w1,Calls Tryz.prog 129 _ z.now _):=fun z=>HE.out z.now (HX.out.trans z.ext)
  have K2:Hid (∀z:Later w1,Calls Tryz.prog 132 _ z.now _):=fun z=>HW.out z.now (HX.out.trans z.ext)
  obtain⟨-,l1,-,-,-,-,-,l7,-⟩:=lks HB.out
  refine wp_region_later (by kernel_rfl) (by kernel_rfl) ?_
  repeat (first|(refine quiet_load_blk rfl 40 (.tmp 1) rfl g rfl 40 _ _ (later_blk HB.out) Tryz.underlying40 rfl (by kernel_rfl) ?_;go_simp)|go_big_quiet_step (first|(go_at_call 129;with_reducible exact later_of (K1.out _))|(go_at_call 132;with_reducible exact later_of (K2.out _))))
  refine wpQuiet_nil ?_
  first|(intro wb hw9;have hx9:=later_out hw9;clear hw9)|(intro xb;have hx9:=xb.ext;generalize xb.now=wb at*;clear xb)
  go_wp2_with fail
  go_ret
  exact⟨rfl,HX.out.trans hx9⟩
 ·have hT:s.body=sDelete++s.tb++s.whT:=by unfold St.body;simp[hk]
  rw[hT]
  generalize s.whT=TW at*
  unfold sDelete
  have e1:(s.kd==1)=false:=by simp[hk]
  have e2:(s.kd==2)=false:=by simp[hk]
  have e3:(s.kd==3)=false:=by simp[hk]
  have e4:(s.kd==4)=true:=by simp[hk]
  have e5:(s.kd==5)=false:=by simp[hk]
  have e6:(s.kd==6)=false:=by simp[hk]
  have e7:(s.kd==7)=false:=by simp[hk]
  have e8:(s.kd==8)=false:=by simp[hk]
  have e9:(s.kd==9)=false:=by simp[hk]
  have e10:(s.kd==10)=false:=by simp[hk]
  clear hg hv hk hcK hcR hf hF hb hkk hsb hlb hT hkd
  unfold St.val at*
  unfold St.cells Sl.v at*
  go_enter Tryz.func65,Tryz.ntmps65
  go_upto_region 1 with fail
  generalize w.alloc (.cells _ 40)=w1 at*
  generalize w.heap.size=g at*
  obtain⟨p0,-,-,-,-,-,-,-,-,-,-,-,-,-,-,-,-,-,-,-,-,p21,-⟩:=cls (HB.out)
  go_wp2_with fail
  have K2:Hid (∀z:Later w1,Calls Tryz.prog 132 _ z.now _):=fun z=>HW.out z.now (HX.out.trans z.ext)
  have l1:=Later.keep (HB.out.cell_some (i:=1) rfl)
  refine wp_region_later (by kernel_rfl) (by kernel_rfl) ?_
  repeat (first|(refine quiet_load_blk rfl 40 (.tmp 1) rfl g rfl 40 _ _ (later_blk HB.out) Tryz.underlying40 rfl (by kernel_rfl) ?_;go_simp)|go_big_quiet_step (first|(go_at_call 132;with_reducible exact later_of (K2.out _))))
  refine wpQuiet_nil ?_
  first|(intro wb hw9;have hx9:=later_out hw9;clear hw9)|(intro xb;have hx9:=xb.ext;generalize xb.now=wb at*;clear xb)
  go_wp2_with fail
  go_ret
  exact⟨rfl,HX.out.trans hx9⟩
 ·have hT:s.body=s.sel:=by unfold St.body;simp[hk]
  rw[hT]
  have HE:=hid (fun W (hW:Ext w W)=>sel_any s a W (hg.ext hW) (hv.ext hW) (hkk.2.2.2.2.2.2.2.1 hk) (whr_of hf) hF hb)
  clear HW z3
  generalize s.sel=TE at*
  have e1:(s.kd==1)=false:=by simp[hk]
  have e2:(s.kd==2)=false:=by simp[hk]
  have e3:(s.kd==3)=false:=by simp[hk]
  have e4:(s.kd==4)=false:=by simp[hk]
  have e5:(s.kd==5)=true:=by simp[hk]
  have e6:(s.kd==6)=false:=by simp[hk]
  have e7:(s.kd==7)=false:=by simp[hk]
  have e8:(s.kd==8)=false:=by simp[hk]
  have e9:(s.kd==9)=false:=by simp[hk]
  have e10:(s.kd==10)=false:=by simp[hk]
  clear hg hv hk hcK hcR hf hF hb hkk hsb hlb hT hkd
  unfold St.val at*
  unfold St.cells Sl.v at*
  go_enter Tryz.func65,Tryz.ntmps65
  go_upto_region 1 with fail
  generalize w.alloc (.cells _ 40)=w1 at*
  generalize w.heap.size=g at*
  obtain⟨p0,-,-,-,-,-,-,-,-,-,-,-,-,-,-,-,-,-,-,-,-,p21,-⟩:=cls (HB.out)
  go_wp2_with (first|(refine wpList_load_blk rfl 40 (.tmp 1) rfl g rfl 40 _ _ HB.out Tryz.underlying40 rfl (by kernel_rfl) ?_)|(go_at_call 133;(with_reducible refine(HE.out _ HX.out).mono ?_);rintro _ w5 ⟨rfl,hx5⟩))
  go_ret
  exact⟨rfl,HX.out.trans hx5⟩
 ·have hT:s.body=⟨#[66,69,71,73,78]⟩:=by unfold St.body;simp[hk]
  rw[hT]
  clear HW z3
  have e1:(s.kd==1)=false:=by simp[hk]
  have e2:(s.kd==2)=false:=by simp[hk]
  have e3:(s.kd==3)=false:=by simp[hk]
  have e4:(s.kd==4)=false:=by simp[hk]
  have e5:(s.kd==5)=false:=by simp[hk]
  have e6:(s.kd==6)=true:=by simp[hk]
  have e7:(s.kd==7)=false:=by simp[hk]
  have e8:(s.kd==8)=false:=by simp[hk]
  have e9:(s.kd==9)=false:=by simp[hk]
  have e10:(s.kd==10)=false:=by simp[hk]
  clear hg hv hk hcK hcR hf hF hb hkk hsb hlb hT hkd
  unfold St.val at*
  unfold St.cells Sl.v at*
  go_enter Tryz.func65,Tryz.ntmps65
  go_upto_region 1 with fail
  generalize w.alloc (.cells _ 40)=w1 at*
  generalize w.heap.size=g at*
  obtain⟨p0,-,-,-,-,-,-,-,-,-,-,-,-,-,-,-,-,-,-,-,-,p21,-⟩:=cls (HB.out)
  go_wp2_with fail
  go_ret
  exact⟨rfl,HX.out⟩
 ·have hT:s.body=⟨#[67,79,77,77,73,84]⟩:=by unfold St.body;simp[hk]
  rw[hT]
  clear HW z3
  have e1:(s.kd==1)=false:=by simp[hk]
  have e2:(s.kd==2)=false:=by simp[hk]
  have e3:(s.kd==3)=false:=by simp[hk]
  have e4:(s.kd==4)=false:=by simp[hk]
  have e5:(s.kd==5)=false:=by simp[hk]
  have e6:(s.kd==6)=false:=by simp[hk]
  have e7:(s.kd==7)=true:=by simp[hk]
  have e8:(s.kd==8)=false:=by simp[hk]
  have e9:(s.kd==9)=false:=by simp[hk]
  have e10:(s.kd==10)=false:=by simp[hk]
  clear hg hv hk hcK hcR hf hF hb hkk hsb hlb hT hkd
  unfold St.val at*
  unfold St.cells Sl.v at*
  go_enter Tryz.func65,Tryz.ntmps65
  go_upto_region 1 with fail
  generalize w.alloc (.cells _ 40)=w1 at*
  generalize w.heap.size=g at*
  obtain⟨p0,-,-,-,-,-,-,-,-,-,-,-,-,-,-,-,-,-,-,-,-,p21,-⟩:=cls (HB.out)
  go_wp2_with fail
  go_ret
  exact⟨rfl,HX.out⟩
 ·have hT:s.body=⟨#[82,79,76,76,66,65,67,75]⟩:=by unfold St.body;simp[hk]
  rw[hT]
  clear HW z3
  have e1:(s.kd==1)=false:=by simp[hk]
  have e2:(s.kd==2)=false:=by simp[hk]
  have e3:(s.kd==3)=false:=by simp[hk]
  have e4:(s.kd==4)=false:=by simp[hk]
  have e5:(s.kd==5)=false:=by simp[hk]
  have e6:(s.kd==6)=false:=by simp[hk]
  have e7:(s.kd==7)=false:=by simp[hk]
  have e8:(s.kd==8)=true:=by simp[hk]
  have e9:(s.kd==9)=false:=by simp[hk]
  have e10:(s.kd==10)=false:=by simp[hk]
  clear hg hv hk hcK hcR hf hF hb hkk hsb hlb hT hkd
  unfold St.val at*
  unfold St.cells Sl.v at*
  go_enter Tryz.func65,Tryz.ntmps65
  go_upto_region 1 with fail
  generalize w.alloc (.cells _ 40)=w1 at*
  generalize w.heap.size=g at*
  obtain⟨p0,-,-,-,-,-,-,-,-,-,-,-,-,-,-,-,-,-,-,-,-,p21,-⟩:=cls (HB.out)
  go_wp2_with fail
  go_ret
  exact⟨rfl,HX.out⟩
 ·have hT:s.body=⟨#[83,65,86,69,80,79,73,78,84,32]⟩++s.nm:=by unfold St.body;simp[hk]
  rw[hT]
  clear HW z3
  have e1:(s.kd==1)=false:=by simp[hk]
  have e2:(s.kd==2)=false:=by simp[hk]
  have e3:(s.kd==3)=false:=by simp[hk]
  have e4:(s.kd==4)=false:=by simp[hk]
  have e5:(s.kd==5)=false:=by simp[hk]
  have e6:(s.kd==6)=false:=by simp[hk]
  have e7:(s.kd==7)=false:=by simp[hk]
  have e8:(s.kd==8)=false:=by simp[hk]
  have e9:(s.kd==9)=true:=by simp[hk]
  have e10:(s.kd==10)=false:=by simp[hk]
  clear hg hv hk hcK hcR hf hF hb hkk hsb hlb hT hkd
  unfold St.val at*
  unfold St.cells Sl.v at*
  go_enter Tryz.func65,Tryz.ntmps65
  go_upto_region 1 with fail
  generalize w.alloc (.cells _ 40)=w1 at*
  generalize w.heap.size=g at*
  obtain⟨p0,-,-,-,-,-,-,-,-,-,-,-,-,-,-,-,-,-,-,-,-,p21,-⟩:=cls (HB.out)
  go_wp2_with fail
  go_ret
  exact⟨rfl,HX.out⟩
 ·have hT:s.body=⟨#[82,79,76,76,66,65,67,75,32,84,79,32]⟩++s.nm:=by unfold St.body;simp[hk]
  rw[hT]
  clear HW z3
  have e1:(s.kd==1)=false:=by simp[hk]
  have e2:(s.kd==2)=false:=by simp[hk]
  have e3:(s.kd==3)=false:=by simp[hk]
  have e4:(s.kd==4)=false:=by simp[hk]
  have e5:(s.kd==5)=false:=by simp[hk]
  have e6:(s.kd==6)=false:=by simp[hk]
  have e7:(s.kd==7)=false:=by simp[hk]
  have e8:(s.kd==8)=false:=by simp[hk]
  have e9:(s.kd==9)=false:=by simp[hk]
  have e10:(s.kd==10)=true:=by simp[hk]
  clear hg hv hk hcK hcR hf hF hb hkk hsb hlb hT hkd
  unfold St.val at*
  unfold St.cells Sl.v at*
  go_enter Tryz.func65,Tryz.ntmps65
  go_upto_region 1 with fail
  generalize w.alloc (.cells _ 40)=w1 at*
  generalize w.heap.size=g at*
  obtain⟨p0,-,-,-,-,-,-,-,-,-,-,-,-,-,-,-,-,-,-,-,-,p21,-⟩:=cls (HB.out)
  go_wp2_with fail
  go_ret
  exact⟨rfl,HX.out⟩
 ·have hT:s.body=⟨#[82,69,76,69,65,83,69,32]⟩++s.nm:=by unfold St.body;simp[hk]
  rw[hT]
  clear HW z3
  have e1:(s.kd==1)=false:=by simp[hk]
  have e2:(s.kd==2)=false:=by simp[hk]
  have e3:(s.kd==3)=false:=by simp[hk]
  have e4:(s.kd==4)=false:=by simp[hk]
  have e5:(s.kd==5)=false:=by simp[hk]
  have e6:(s.kd==6)=false:=by simp[hk]
  have e7:(s.kd==7)=false:=by simp[hk]
  have e8:(s.kd==8)=false:=by simp[hk]
  have e9:(s.kd==9)=false:=by simp[hk]
  have e10:(s.kd==10)=false:=by simp[hk]
  clear hg hv hk hcK hcR hf hF hb hkk hsb hlb hT hkd
  unfold St.val at*
  unfold St.cells Sl.v at*
  go_enter Tryz.func65,Tryz.ntmps65
  go_upto_region 1 with fail
  generalize w.alloc (.cells _ 40)=w1 at*
  generalize w.heap.size=g at*
  obtain⟨p0,-,-,-,-,-,-,-,-,-,-,-,-,-,-,-,-,-,-,-,-,p21,-⟩:=cls (HB.out)
  go_wp2_with fail
  go_ret
  exact⟨rfl,HX.out⟩
structure Two (w:World) (B:Nat) (v:Value) (n:Nat) (l:List ByteArray) (u:Value) (m:Nat) (l':List ByteArray):Prop where
 one:w.ownsRow B 9 1 v n (strV l)
 two:w.ownsRow B 9 1 u m (strV l')
 apart:∀q,v.ownBlock=some q→u.ownBlock≠some q
theorem Two.ext {w w':World} {B n m:Nat} {v u:Value} {l l':List ByteArray} (h:Two w B v n l u m l') (hx:Ext w w'):Two w' B v n l u m l':=⟨ownN_ext h.one hx,ownN_ext h.two hx,h.apart⟩
theorem Two.symm {w:World} {B n m:Nat} {v u:Value} {l l':List ByteArray} (h:Two w B v n l u m l'):Two w B u m l' v n l:=⟨h.two,h.one,fun q h1 h2=>h.apart q h2 h1⟩
theorem Two.step {w4 w5:World} {B n m:Nat} {v u v5:Value} {l l':List ByteArray} {x:ByteArray} (h:Two w4 B v n l u m l') (hg:w4.grownBy w5 v.ownBlock) (hb:v5.ownBlock=v.ownBlock∨v5.ownBlock=some w4.heap.size)
  (ho:w5.ownsRow B 9 1 v5 (n+1) (strV l++ [.string x])):Two w5 B v5 (n+1) (l++ [x]) u m l':=by
 refine⟨by rw[strV_app];exact ho,h.two.kept hg ?_,fun q h1 h2=>?_⟩
 ·cases hu:u.ownBlock with
  |none=>exact .inl rfl
  |some q=>exact .inr fun he=>h.apart q he.symm hu
 ·rcases hb with hb|hb
  ·exact h.apart q (hb.symm.trans h1) h2
  ·rw[hb]at h1
   have:=Option.some.inj h1
   have:=(h.two.lt q h2).2
   omega
def validS (s:St):Int:=if largeB s.all=true then 3 else if s.formed=false then 1 else if 16384<s.body.size then 3 else 0
theorem nodes_small {s:St} (h:largeB s.all=false):nodesL s.all≤400:=by
 unfold largeB at h
 simp only[Bool.or_eq_false_iff,decide_eq_false_iff_not]at h
 omega
theorem flat_len (l:List (List Ex)):l.flatten.length≤sumB bkR l:=by
 have hl:∀l:List Ex,l.length≤sizeL l:=fun l=>by rw[←sumB_ex];exact sumB_len (fun a=>size_pos a) l
 induction l with
 |nil=>simp[sumB]
 |cons a l ih=>rw[List.flatten_cons,List.length_append,sumB];unfold bkR at*;have:=hl a;omega
theorem all_len (s:St) (h:s.bulk≤1048576):s.all.length≤100000000:=by
 have h1:=lens_bulk s h
 have h2:=flat_len s.vals
 have h3:=(sum_bulk s h).2.2.2.1
 unfold St.all
 simp only[List.length_append,List.length_map,List.length_singleton]
 omega
theorem body_size (s:St) (hf:s.formed=true) (hF:s.Fits) (hb:s.bulk≤1048576):s.body.size≤1000000000:=by
 have hkk:=formed_kind hf
 have hsb:=sum_bulk s hb
 have z3:=whT_size s (whr_of hf) hF.whr
 unfold St.body
 by_cases h1:s.kd=1
 ·rw[if_pos h1]
  have:=cma_size s.elts
  have:=elts_size (hkk.2.1 h1)
  simp only[ByteArray.size_append]
  show 13+_+2+_+1≤_
  omega
 rw[if_neg h1]
 by_cases h2:s.kd=2
 ·rw[if_pos h2]
  have hrs:∀x∈s.vals,x.all Ex.formed=true:=fun x hx=>by have:=List.all_eq_true.1 (hkk.2.2.2.1 h2) x hx;unfold rowOk at this;simp only[Bool.and_eq_true]at this;exact this.2
  have:=cma_size (s.vals.map rowT)
  have:=sumS_map rowT bkR 100 s.vals fun x hx=>row_size (hrs x hx)
  simp only[ByteArray.size_append]
  show 12+_+8+_≤_
  omega
 rw[if_neg h2]
 by_cases h3:s.kd=3
 ·rw[if_pos h3]
  have:=cma_size (s.sets.map Asg.tx)
  have:=sumS_map Asg.tx bkA 100 s.sets fun x hx=>asg_size (List.all_eq_true.1 (hkk.2.2.2.2.2.1 h3) x hx)
  simp only[ByteArray.size_append]
  show 7+_+5+_+_≤_
  omega
 rw[if_neg h3]
 by_cases h4:s.kd=4
 ·rw[if_pos h4]
  simp only[ByteArray.size_append]
  show 12+_+_≤_
  omega
 rw[if_neg h4]
 by_cases h5:s.kd=5
 ·rw[if_pos h5]
  obtain⟨hq1,hq2,hq3,hq4,hq5,hq6⟩:=q_parts (hkk.2.2.2.2.2.2.2.1 h5)
  have z1:=itT_size s hq1 hsb.2.2.2.2.2.1
  have z2:(cma (s.frm.map Src.tx)).size≤104857600:=Nat.le_trans (cma_size _) (Nat.le_trans (sumS_map Src.tx bkF 100 s.frm fun x hx=>src_size x) (by omega))
  have z4:(exsT s.grp).size≤100000:=Nat.le_trans (cma_size _) (Nat.le_trans (exs_size hq3) (by have:=hF.grp;omega))
  have z5:(cma (s.ord.map Ord'.tx)).size≤104857600:=Nat.le_trans (cma_size _) (Nat.le_trans (sumS_map Ord'.tx bkO 100 s.ord fun x hx=>ord_size (List.all_eq_true.1 hq4 x hx)) (by omega))
  have z6:=itoB_size s.lim (by omega) (by omega)
  have y0:s.sel0.size≤300000000:=by unfold St.sel0;simp only[ByteArray.size_append];show 7+_+6+_+_≤_;omega
  have y1:s.sel1.size≤300100100:=by unfold St.sel1;refine ite_size _ _ _ _ (by omega) ?_;simp only[ByteArray.size_append];show _+(10+_)≤_;omega
  have y2:s.sel2.size≤500000000:=by unfold St.sel2;refine ite_size _ _ _ _ (by omega) ?_;simp only[ByteArray.size_append];show _+(10+_)≤_;omega
  unfold St.sel
  refine ite_size _ _ _ _ ?_ (by omega)
  simp only[ByteArray.size_append]
  show _+(7+_)≤_
  omega
 rw[if_neg h5]
 refine ite_size _ _ _ _ (show 5≤_ by omega) (ite_size _ _ _ _ (show 6≤_ by omega) (ite_size _ _ _ _ (show 8≤_ by omega) (ite_size _ _ _ _ ?_ (ite_size _ _ _ _ ?_ ?_))))
 ·rw[ByteArray.size_append];show 10+_≤_;omega
 ·rw[ByteArray.size_append];show 12+_≤_;omega
 ·rw[ByteArray.size_append];show 8+_≤_;omega
theorem svalid_any (s:St) (a:SA) (w:World) (hg:Gd w) (hv:StV w s a) (hcK:CapK w a.keys.A a.keys.n) (hcR:CapR w a.frs.A a.frs.n) (hb:s.bulk≤1048576):
  Calls Tryz.prog 31 #[s.val a] w fun r w'=>r= .returned (.int .i64 (validS s))∧Ext w w':=by
 have hlb:=lens_bulk s hb
 have H1:=hid (fun W (hW:Ext w W)=>all_any s a W (hv.ext hW) (all_len s hb))
 have H2:=hid (fun (W:World) (A:Option Addr) (c:Nat) (hk:KidsAt W A s.all)=>large_any s.all A s.all.length c W rfl (by have:=all_len s hb;omega) hk)
 have H3:=hid (fun W (hW:Ext w W)=>statement_any s a W (hg.ext hW).sh (hv.ext hW) hlb.1 (by omega))
 have H4:=hid (fun W (hW:Ext w W) (hf:s.formed=true) (hF:s.Fits)=>form_any s a W (hg.ext hW) (hv.ext hW) (hcK.ext hW) (hcR.ext hW) hf hF hb)
 have HV:Hid (validS s=if largeB s.all=true then 3 else if s.formed=false then 1 else if 16384<s.body.size then 3 else 0):=rfl
 have HF:Hid (largeB s.all=false→s.formed=true→s.Fits):=fun h1 h2=>fits_of h2 (nodes_small h1)
 have HS:Hid (s.formed=true→s.Fits→s.body.size≤1000000000):=fun h1 h2=>body_size s h1 h2 hb
 have HB:=hid (Blk.of_new w 40 (s.cells a))
 have HX:=hid ((Ext.refl w).alloc (.cells (s.cells a).toArray 40))
 clear hg hv hcK hcR hb hlb
 unfold St.val at*
 unfold St.cells Sl.v at*
 generalize validS s=V at*
 go_enter Tryz.func31,Tryz.ntmps31
 go_upto_region 1 with fail
 generalize w.alloc (.cells _ 40)=w1 at*
 generalize w.heap.size=g at*
 cases hL:largeB s.all
 ·rw[hL]at H2 HV
  simp only[Bool.false_eq_true,if_false]at HV
  cases hF:s.formed
  ·rw[hF]at H3 HV
   simp only[if_true]at HV
   have hV:=HV.out
   subst hV
   clear H4 HS HV HF hL hF
   go_wp2_with (first|(refine wpList_load_blk rfl 40 (.tmp 1) rfl g rfl 40 _ _ HB.out Tryz.underlying40 rfl (by kernel_rfl) ?_)|(refine wpList_load_blk rfl 40 (.tmp 1) rfl g rfl 40 _ _ (HB.out.ext (hx2.trans hx3)) Tryz.underlying40 rfl (by kernel_rfl) ?_)|(go_at_call 63;(with_reducible refine(H1.out _ HX.out).mono ?_);rintro _ w2 ⟨A1,c1,rfl,hk1,hx2⟩)|(go_at_call 62;(with_reducible refine(H2.out _ _ _ hk1).mono ?_);rintro _ w3 ⟨rfl,hx3⟩)|(go_at_call 64;(with_reducible refine(H3.out _ (HX.out.trans (hx2.trans hx3))).mono ?_);rintro _ w4 ⟨rfl,hx4⟩))
   go_ret
   exact⟨rfl,HX.out.trans ((hx2.trans hx3).trans hx4)⟩
  ·have hFi:=HF.out hL hF
   have hz:=HS.out hF hFi
   have H5:=hid (fun W (hW:Ext w W)=>H4.out W hW hF hFi)
   rw[hF]at H3 HV
   simp only[Bool.true_eq_false,if_false]at HV
   clear H4 HS HF hL hF hFi
   generalize s.body=TB at*
   by_cases hs:16384<TB.size
   ·rw[if_pos hs]at HV
    have hV:=HV.out
    subst hV
    have hd:decide ((16384:Int)<(TB.size:Int))=true:=by simp;omega
    clear HV
    go_wp2_with (first|(refine wpList_load_blk rfl 40 (.tmp 1) rfl g rfl 40 _ _ HB.out Tryz.underlying40 rfl (by kernel_rfl) ?_)|(refine wpList_load_blk rfl 40 (.tmp 1) rfl g rfl 40 _ _ (HB.out.ext (hx2.trans hx3)) Tryz.underlying40 rfl (by kernel_rfl) ?_)|(refine wpList_load_blk rfl 40 (.tmp 1) rfl g rfl 40 _ _ (HB.out.ext ((hx2.trans hx3).trans hx4)) Tryz.underlying40 rfl (by kernel_rfl) ?_)|(go_at_call 63;(with_reducible refine(H1.out _ HX.out).mono ?_);rintro _ w2 ⟨A1,c1,rfl,hk1,hx2⟩)|(go_at_call 62;(with_reducible refine(H2.out _ _ _ hk1).mono ?_);rintro _ w3 ⟨rfl,hx3⟩)|(go_at_call 64;(with_reducible refine(H3.out _ (HX.out.trans (hx2.trans hx3))).mono ?_);rintro _ w4 ⟨rfl,hx4⟩)|(go_at_call 65;(with_reducible refine(H5.out _ (HX.out.trans ((hx2.trans hx3).trans hx4))).mono ?_);rintro _ w5 ⟨rfl,hx5⟩))
    go_ret
    exact⟨rfl,HX.out.trans (((hx2.trans hx3).trans hx4).trans hx5)⟩
   ·rw[if_neg hs]at HV
    have hV:=HV.out
    subst hV
    have hd:decide ((16384:Int)<(TB.size:Int))=false:=by simp;omega
    clear HV
    go_wp2_with (first|(refine wpList_load_blk rfl 40 (.tmp 1) rfl g rfl 40 _ _ HB.out Tryz.underlying40 rfl (by kernel_rfl) ?_)|(refine wpList_load_blk rfl 40 (.tmp 1) rfl g rfl 40 _ _ (HB.out.ext (hx2.trans hx3)) Tryz.underlying40 rfl (by kernel_rfl) ?_)|(refine wpList_load_blk rfl 40 (.tmp 1) rfl g rfl 40 _ _ (HB.out.ext ((hx2.trans hx3).trans hx4)) Tryz.underlying40 rfl (by kernel_rfl) ?_)|(go_at_call 63;(with_reducible refine(H1.out _ HX.out).mono ?_);rintro _ w2 ⟨A1,c1,rfl,hk1,hx2⟩)|(go_at_call 62;(with_reducible refine(H2.out _ _ _ hk1).mono ?_);rintro _ w3 ⟨rfl,hx3⟩)|(go_at_call 64;(with_reducible refine(H3.out _ (HX.out.trans (hx2.trans hx3))).mono ?_);rintro _ w4 ⟨rfl,hx4⟩)|(go_at_call 65;(with_reducible refine(H5.out _ (HX.out.trans ((hx2.trans hx3).trans hx4))).mono ?_);rintro _ w5 ⟨rfl,hx5⟩))
    go_ret
    exact⟨rfl,HX.out.trans (((hx2.trans hx3).trans hx4).trans hx5)⟩
 ·rw[hL]at H2 HV
  simp only[if_true]at HV
  have hV:=HV.out
  subst hV
  clear H3 H4 HS HV HF hL
  go_wp2_with (first|(refine wpList_load_blk rfl 40 (.tmp 1) rfl g rfl 40 _ _ HB.out Tryz.underlying40 rfl (by kernel_rfl) ?_)|(go_at_call 63;(with_reducible refine(H1.out _ HX.out).mono ?_);rintro _ w2 ⟨A1,c1,rfl,hk1,hx2⟩)|(go_at_call 62;(with_reducible refine(H2.out _ _ _ hk1).mono ?_);rintro _ w3 ⟨rfl,hx3⟩))
  go_ret
  exact⟨rfl,HX.out.trans (hx2.trans hx3)⟩
end Go.Proofs.YtjigcpfjhfoheaaGreatDoor
