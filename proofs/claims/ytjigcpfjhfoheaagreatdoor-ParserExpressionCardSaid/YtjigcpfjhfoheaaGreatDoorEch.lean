/- Walk: a SELECT statement. -/
import Derived.Test.YtjigcpfjhfoheaaGreatDoorEcg
namespace Go.Proofs.YtjigcpfjhfoheaaGreatDoor
open Go.RowKit
set_option maxHeartbeats 16000000
set_option maxRecDepth 100000
set_option linter.unusedVariables false
set_option linter.unusedSimpArgs false
section
open Lx (Tk)
theorem from_eq (ex:M Ex) (s:Ps):fromP ex s=fromGo ex (s.r.length+1) [(srcP s).1] [] (srcP s).2:=rfl
theorem fromGo_succ (ex:M Ex) (m:Nat) (l:List Src) (c:List Ex) (st:Ps):fromGo ex (m+1) l c st=if isS yCm st=true then fromGo ex m (l++ [(srcP st.next).1]) c (srcP st.next).2
  else if isS kJOIN st=true then fromGo ex m (l++ [(srcP st.next).1]) (c++ [(ex (needP kON (srcP st.next).2)).1]) (ex (needP kON (srcP st.next).2)).2 else ((l,c),st):=rfl
theorem not_both {s:Ps} (h:isS yCm s=true):isS kJOIN s=false:=by
 obtain⟨hb,a,l,h1,h2,h3,_⟩:=isS_cons h
 have e:s.hd=a:=by unfold Ps.hd;rw[h1];rfl
 unfold isS
 rw[e,h3]
 have:¬yCm=kJOIN:=by decide
 simp[this]
theorem phi_stb {S:Nat→Prop} {w:World} {y:Ex} {cs:List Value} (h:Stb S w (Phiex y cs)):∃B k c,cs=y.d.cells B k c∧Stb S w (fun w2=>ExV w2 y B k c):=by
 obtain⟨B,k,c,hcs,_⟩:=h.now
 refine⟨B,k,c,hcs,h.imp fun w2 ⟨B2,k2,c2,hcs2,hv⟩=>?_⟩
 have h7:(y.d.cells B k c)[7]? =(y.d.cells B2 k2 c2)[7]? :=by rw[←hcs,←hcs2]
 have h8:some (Value.slice B k c)=some (Value.slice B2 k2 c2):=h7
 injection h8 with h8
 injection h8 with e1 e2 e3
 subst e1 e2 e3
 exact hv
theorem andL_snoc {l:List Ex} (h:l≠[]) (y:Ex):andL (l++ [y])=opE 18 [andL l,y]:=by
 cases l with
 |nil=>exact absurd rfl h
 |cons a l=>
  show(l++ [y]).foldl _ a=_
  rw[List.foldl_append]
  rfl
theorem fwd_ordp:Fwd (ordP posP):=fwd_bnd fwd_pos fun _=>fwd_if _ (fwd_ret _) (fwd_if _ (fwd_ret _) (fwd_ret _))
theorem pos_le {T P c:Nat} {A:Option Addr} {L:List Tk} {w0 w:World} {s:Ps} (h:PsAt T P A c L w0 w s) (hL:TkL L):I64 (posP s).1:=by
 have k:∀s':Ps,PsAt T P A c L w0 w s'→I64 (numP s').1:=fun s' h'=>by
  have:=h'.num_le hL
  unfold I64
  omega
 unfold posP
 split
 ·have e:(numP s.fail).1=0:=by
   unfold numP
   rw[bad_tak (s:=s.fail) rfl]
   rfl
  rw[e]
  exact i64_0
 ·exact k s h
def qS (i:List Itm) (f:List Src) (W:Ex) (g:List Ex) (o:List Ord') (l:Int):St:= { stZ with kd:=5,itms:=i,frm:=f,whr:=W,grp:=g,ord:=o,lim:=l }
theorem query_of {ex:M Ex} {s s1 s2 s3 s4 s5 s6:Ps} {i:List Itm} {f:List Src×List Ex} {W:Ex} {g:List Ex} {o:List Ord'} {l:Int} (h1:itmsP ex s=(i,s1)) (h2:fromP ex (needP kFROM s1)=(f,s2)) (h3:condP ex andL f.2 s2=(W,s3)) (h4:grpP s3=(g,s4)) (h5:ordsP posP s4=(o,s5)) (h6:limP posP s5=(l,s6)):
  queryP ex posP andL s=(qS i f.1 W g o l,s6):=by
 unfold queryP bndM needM retM
 simp only[h1,h2,h3,h4,h5,h6]
 rfl
theorem query_st {w:World} {I:List Itm} {fs:List Src} {E:Ex} {G:List Ex} {O:List Ord'} {l:Int} {B Af A1 Bg Bo:Option Addr} {k kf k1 c1 kg ko:Nat} (hI:I.length≤20001) (hf:fs.length≤20001) (hG:G.length≤20001) (hO:O.length≤20001) (hl:I64 l)
  (h1:Lst Phiitm 9 w B I) (h2:Lst Phisrc 2 w Af fs) (h3:ExV w E A1 k1 c1) (h4:Lst Phiex 8 w Bg G) (h5:Lst Phiord 2 w Bo O):
  StV w (qS I fs E G O l) ⟨⟨none,0,0⟩,⟨none,0,0⟩,⟨none,0,0⟩,⟨none,0,0⟩,⟨none,0,0⟩,⟨none,0,0⟩,⟨B,I.length,k⟩,⟨Af,fs.length,kf⟩,⟨A1,k1,c1⟩,⟨Bg,G.length,kg⟩,⟨Bo,O.length,ko⟩⟩:=by
 have e:∀A:Option Addr,KidsAt w A []:=fun A=>by unfold KidsAt;exact trivial
 refine⟨by show I64 5;unfold I64;omega,by show 0≤9223372036854775807;omega,hl,by show 0≤9223372036854775807;omega,⟨rfl,by show 0≤_;omega,fun i x h=>by cases h⟩,⟨rfl,by show 0≤_;omega,fun i x h=>by cases h⟩,⟨rfl,by show 0≤_;omega,fun i x h=>by cases h⟩,⟨rfl,by show 0≤_;omega,e _⟩,
  ⟨rfl,by show 0≤_;omega,?_⟩,(fun l h=>by cases h),⟨rfl,by show 0≤_;omega,fun i x h=>by cases h⟩,⟨rfl,by show I.length≤_;omega,lst_itms h1⟩,⟨rfl,by show fs.length≤_;omega,lst_srcs h2⟩,h3,⟨rfl,by show G.length≤_;omega,lst_kids h4⟩,⟨rfl,by show O.length≤_;omega,lst_ords h5⟩⟩
 intro i l h
 cases h
section
variable {P c:Nat} {A:Option Addr} {L:List Tk} {w0 w:World} {s:Ps}
theorem query_rd {n:Nat} {ex:M Ex} (hr:Rdr 68 P A c L w0 n 39 ex) (hfw:Fwd ex) (hn:s.r.length<n) (hE:Er w0) (hp:PsAt 68 P A c L w0 w s) (hL:TkL L):
  Calls Tryz.prog 61 #[.pointer (some ⟨P,0,none⟩)] w (Ran 68 P A c L w0 w (queryP ex posP andL s).2 fun v w'=>ElSt w.heap.size w' (queryP ex posP andL s).1 v):=by
 have hx0:=(Ext.refl w).alloc (.cells #[.int .i64 0,.string ⟨#[]⟩,.slice none 0 0,.slice none 0 0,.slice none 0 0,.slice none 0 0,.slice none 0 0,.slice none 0 0,.slice none 0 0,.slice none 0 0,.int .i64 0,.string ⟨#[]⟩,.string ⟨#[]⟩,.int .i64 0,.int .i64 0,.int .i64 0,.string ⟨#[]⟩,.slice none 0 0,.slice none 0 0,.slice none 0 0,.int .i64 0,.string ⟨#[]⟩] 40)
 have HS0:=hid (hp.ext hx0)
 have HG0:Hid (P<w.heap.size):=hp.lt
 have HR0:=hid (Blk.of_new w 40 sC)
 have HC0:=hid (Chg.of (P:=P) hx0)
 have HN1:Hid (w.heap.size≤(w.alloc (.cells #[.int .i64 0,.string ⟨#[]⟩,.slice none 0 0,.slice none 0 0,.slice none 0 0,.slice none 0 0,.slice none 0 0,.slice none 0 0,.slice none 0 0,.slice none 0 0,.int .i64 0,.string ⟨#[]⟩,.string ⟨#[]⟩,.int .i64 0,.int .i64 0,.int .i64 0,.string ⟨#[]⟩,.slice none 0 0,.slice none 0 0,.slice none 0 0,.int .i64 0,.string ⟨#[]⟩] 40)).heap.size):=hx0.size
 have hLl:=hL.len
 have hsl:=hp.le
 clear hp hx0
 go_enter Tryz.func61,Tryz.ntmps61
 go_upto_region 1 with fail
 generalize w.alloc (.cells #[.int .i64 0,.string ⟨#[]⟩,.slice none 0 0,.slice none 0 0,.slice none 0 0,.slice none 0 0,.slice none 0 0,.slice none 0 0,.slice none 0 0,.slice none 0 0,.int .i64 0,.string ⟨#[]⟩,.string ⟨#[]⟩,.int .i64 0,.int .i64 0,.int .i64 0,.string ⟨#[]⟩,.slice none 0 0,.slice none 0 0,.slice none 0 0,.int .i64 0,.string ⟨#[]⟩] 40)=wz at*
 obtain⟨g0,hg0⟩:∃g,w.heap.size=g:=⟨_,rfl⟩
 have HN0:=hid hg0
 rw[hg0]at HG0 HR0 HN1 ⊢
 clear hg0
 have HG:=HG0
 go_upto_region 2 with (first
  |(refine wpList_buildTo rfl 40 _ rfl (some 8) rfl #[.int .i64 5,.string ⟨#[]⟩,.slice none 0 0,.slice none 0 0,.slice none 0 0,.slice none 0 0,.slice none 0 0,.slice none 0 0,.slice none 0 0,.slice none 0 0,.int .i64 0,.string ⟨#[]⟩,.string ⟨#[]⟩,.int .i64 0,.int .i64 0,.int .i64 0,.string ⟨#[]⟩,.slice none 0 0,.slice none 0 0,.slice none 0 0,.int .i64 0,.string ⟨#[]⟩] (by kernel_rfl) ?_)
  |(refine Great.wpList_allocTo rfl (some 3) rfl (.pointer (some ⟨wz.heap.size,0,none⟩)) (.cells #[.int .i64 0,.string ⟨#[]⟩,.slice none 0 0,.slice none 0 0,.slice none 0 0,.slice none 0 0,.slice none 0 0,.slice none 0 0,.slice none 0 0,.slice none 0 0,.int .i64 0,.string ⟨#[]⟩,.string ⟨#[]⟩,.int .i64 0,.int .i64 0,.int .i64 0,.string ⟨#[]⟩,.slice none 0 0,.slice none 0 0,.slice none 0 0,.int .i64 0,.string ⟨#[]⟩] 40) (by kernel_rfl) ?_)
  |(refine wpList_store_rowTo rfl 40 (.tmp 3) (.tmp 8) rfl rfl wz.heap.size #[.int .i64 5,.string ⟨#[]⟩,.slice none 0 0,.slice none 0 0,.slice none 0 0,.slice none 0 0,.slice none 0 0,.slice none 0 0,.slice none 0 0,.slice none 0 0,.int .i64 0,.string ⟨#[]⟩,.string ⟨#[]⟩,.int .i64 0,.int .i64 0,.int .i64 0,.string ⟨#[]⟩,.slice none 0 0,.slice none 0 0,.slice none 0 0,.int .i64 0,.string ⟨#[]⟩] rfl rfl 40 #[.int .i64 0,.string ⟨#[]⟩,.slice none 0 0,.slice none 0 0,.slice none 0 0,.slice none 0 0,.slice none 0 0,.slice none 0 0,.slice none 0 0,.slice none 0 0,.int .i64 0,.string ⟨#[]⟩,.string ⟨#[]⟩,.int .i64 0,.int .i64 0,.int .i64 0,.string ⟨#[]⟩,.slice none 0 0,.slice none 0 0,.slice none 0 0,.int .i64 0,.string ⟨#[]⟩] (heap_alloc_new wz _) (by kernel_rfl) (by kernel_rfl) (by kernel_rfl) ?_;rw[World.setRow_alloc_new]))
 simp only[Act.put,List.setIfInBounds_toArray,List.set_cons_succ,List.set_cons_zero]
 have hx:=(Ext.refl wz).alloc (.cells #[.int .i64 5,.string ⟨#[]⟩,.slice none 0 0,.slice none 0 0,.slice none 0 0,.slice none 0 0,.slice none 0 0,.slice none 0 0,.slice none 0 0,.slice none 0 0,.int .i64 0,.string ⟨#[]⟩,.string ⟨#[]⟩,.int .i64 0,.int .i64 0,.int .i64 0,.string ⟨#[]⟩,.slice none 0 0,.slice none 0 0,.slice none 0 0,.int .i64 0,.string ⟨#[]⟩] 40)
 have HR1:=hid (HR0.out.ext hx)
 have HC1:=hid (HC0.out.ext hx)
 have HS1:=hid (HS0.out.ext hx)
 have HBv_1:=hid (Blk.of_new wz 40 (sC (k:=5)))
 have HGv:Hid (g0<wz.heap.size):=HR0.out.lt
 clear hx
 clear HR0 HC0 HS0
 generalize wz.alloc (.cells #[.int .i64 5,.string ⟨#[]⟩,.slice none 0 0,.slice none 0 0,.slice none 0 0,.slice none 0 0,.slice none 0 0,.slice none 0 0,.slice none 0 0,.slice none 0 0,.int .i64 0,.string ⟨#[]⟩,.string ⟨#[]⟩,.int .i64 0,.int .i64 0,.int .i64 0,.string ⟨#[]⟩,.slice none 0 0,.slice none 0 0,.slice none 0 0,.int .i64 0,.string ⟨#[]⟩] 40)=w1 at*
 generalize wz.heap.size=gv at*
 go_wp2_with fail
 refine(accept_any HS1.out hL yStar).mono ?_
 rintro _ w2 ⟨v,rfl,h1,h2,rfl⟩
 have HS2:=hid h1
 have HR2:=hid (h2.blk HR1.out (by have:=HG.out;omega))
 have HC2:=hid (HC1.out.trans h2)
 have HBv_2:=hid (h2.blk HBv_1.out (by have:=HG.out;have:=HGv.out;omega))
 clear h1 h2
 clear HR1 HC1 HS1 HBv_1
 obtain⟨q,hq⟩:∃q,isS yStar s=q:=⟨_,rfl⟩
 rw[hq]
 have HQ:=hid hq
 clear hq
 go_upto_if 11 with fail
 go_cut [] from 12 to 16 (fun wx=> ∃(B:Option Addr) (k:Nat) (I:List Itm) (st:Ps),itmsP ex s=(I,st)∧I.length≤20001∧st.r.length≤s.r.length∧PsAt 68 P A c L w0 wx st∧Chg P w wx∧Blk wx g0 40 sC∧Blk wx gv 40 (sC (k:=5) (i:= .slice B I.length k))∧Stb (Sx g0 gv) wx (fun w2=>Lst Phiitm 9 w2 B I))
 case first=>
  cases q
  ·have e:(accP yStar s).2=s:=by have hb:=HQ.out;simp[accP,hb]
   rw[e]at HS2
   clear e
   have hfi:Fwd (itmP ex):=fwd_fst _ (fun o=>fwd_bnd (fwd_need _) fun _=>by split;exact fwd_if _ (fwd_bnd (fwd_need _) fun _=>fwd_ret _) (fwd_bnd hfw fun _=>fwd_bnd (fwd_need _) fun _=>fwd_ret _);exact fwd_bnd hfw fun _=>fwd_bnd (fwd_need _) fun _=>fwd_ret _) (fwd_bnd hfw fun _=>fwd_ret _)
   have HLt:=hid (fwd_list hfi s)
   have HLn:=hid (list_len hfi s)
   have z9:=HBv_2.out.cell_some (i:=8) rfl
   have y9:=HBv_2.out.frozen 8
   go_wp2_with fail
   refine(list_itm 103 entK_item (itmP ex) hfi HS2.out hL (fun W st hS hl=>item_rd hr (by omega) hS hL)).mono ?_
   rintro _ w3 ⟨v,rfl,h1,h2,B,k,rfl,h3⟩
   clear z9 y9
   obtain⟨I,hI⟩:∃x,(listP (itmP ex) s).1=x:=⟨_,rfl⟩
   obtain⟨s1,hs1⟩:∃x,(listP (itmP ex) s).2=x:=⟨_,rfl⟩
   rw[hI]at h3 HLn ⊢
   rw[hs1]at h1 HLt
   have HIe:Hid (itmsP ex s=(I,s1)):=by
    unfold Hid itmsP ifM
    rw[HQ.out,if_neg (by simp)]
    exact Prod.ext hI hs1
   clear hI hs1
   have HS3:=hid h1
   have HR3:=hid (h2.blk HR2.out (by have:=HG.out;omega))
   have HC3:=hid (HC2.out.trans h2)
   have HBv_3:=hid (h2.blk HBv_2.out (by have:=HG.out;have:=HGv.out;omega))
   have HYi_3:Hid (Stb (Sx g0 gv) w3 fun w2=>Lst Phiitm 9 w2 B I):=h3.weak fun q _ hq=>⟨Nat.le_trans HR2.out.lt hq,by have h8:=HBv_2.out.lt;have h9:w2.heap.size≤q:=hq;omega⟩
   clear h1 h2 h3
   clear HR2 HC2 HS2 HBv_2
   have z9:=HBv_3.out.cell_some (i:=8) rfl
   have y9:=HBv_3.out.frozen 8
   have hgr:=set_grown w3 gv 8 (.slice B I.length k)
   have HSn:=hid (HS3.out.grown hgr (fun q hq=>by have:=Option.some.inj hq;have:=HG.out;have:=HGv.out;omega))
   have HRn:=hid (HR3.out.grown hgr (fun e=>by have:=Option.some.inj e;have:=HGv.out;omega))
   have HCn:=hid (HC3.out.own hgr (fun q hq=>by have:=Option.some.inj hq;have:=HGv.out;rw[HN0.out];omega))
   have HBn:=hid (HBv_3.out.set 8 (.slice B I.length k))
   have HYi_n:=hid (Stb.grown HYi_3.out hgr (fun q hq e=>hq.2 (Option.some.inj e).symm))
   clear hgr
   go_wp2_with fail
   go_meet
   exact⟨B,k,I,s1,HIe.out,by have:=HLn.out;omega,HLt.out,HSn.out,HCn.out,HRn.out,HBn.out,HYi_n.out⟩
  ·have e:(accP yStar s).2=s.next:=by have hb:=HQ.out;simp[accP,hb]
   rw[e]at HS2
   clear e
   go_wp2_with fail
   go_meet
   exact⟨none,0,[],s.next,by unfold itmsP ifM;rw[HQ.out,if_pos rfl];rfl,by simp,next_len s,HS2.out,HC2.out,HR2.out,HBv_2.out,fun w2 _ _ j a h=>by cases h⟩
 case rest=>
  obtain⟨B,k,I,s1,hie,hil,h1l,h1,h2,h3,h4,h5⟩:=hcut
  clear HS2 HC2 HR2 HBv_2 HQ
  have HS20:=hid h1
  have HC20:=hid h2
  have HR20:=hid h3
  have HBv_20:=hid h4
  have HYi_20:=hid h5
  have HIe:=hid hie
  have HIl:=hid hil
  clear h1 h2 h3 h4 h5 hie
  generalize wc=w20 at*
  have hnf:=need_len kFROM s1
  go_wp2_with fail
  refine(need_any (HS20.out.ext ((Ext.refl w20).alloc (.cells #[.string kFROM] 9))) hL kFROM w20.heap.size (by simp[World.cell?_alloc_new])).mono ?_
  rintro _ w21 ⟨v,rfl,h1,h2,_⟩
  replace h2:Chg P w20 w21:=(Chg.of ((Ext.refl w20).alloc (.cells #[.string kFROM] 9))).trans h2
  have HS21:=hid h1
  have HR21:=hid (h2.blk HR20.out (by have:=HG.out;omega))
  have HC21:=hid (HC20.out.trans h2)
  have HYi_21:=hid (Stb.chg2 HYi_20.out h2 (by have:=HG.out;omega))
  have HBv_21:=hid (h2.blk HBv_20.out (by have:=HG.out;have:=HGv.out;omega))
  clear h1 h2
  clear HR20 HC20 HS20 HYi_20 HBv_20
  obtain⟨s2,hs2⟩:∃x,needP kFROM s1=x:=⟨_,rfl⟩
  rw[hs2]at HS21 hnf
  have HV2:=hid hs2
  clear hs2
  obtain⟨n1,hn1⟩:∃n,w21.heap.size=n:=⟨_,rfl⟩
  have HGn:Hid (gv<n1):=by have:=HBv_21.out.lt;unfold Hid;omega
  have HPn:Hid (P<n1):=by have:=HG.out;have:=HR21.out.lt;unfold Hid;omega
  have HGr0:Hid (g0<n1):=by have:=HR21.out.lt;unfold Hid;omega
  have HI21:Hid (Stb (fun q=>g0+1≤q∧q≠gv∧q<n1) w21 fun w2=>Lst Phiitm 9 w2 B I):=HYi_21.out.weak fun q hq hs=>⟨hs.1,hs.2,by omega⟩
  have HNs21:Hid (n1≤w21.heap.size):=by unfold Hid;omega
  have HF21:=hid (FrW.start n1 w21)
  clear HYi_21 hn1
  obtain⟨iq,hiq,hq0,hq1,hq2⟩:=l_info info_src
  obtain⟨iz,hiz,hz0,hz1,hz2⟩:=l_info info_exq
  have fwd_src:Fwd srcP:=fwd_bnd (fwd_tak 1) fun _=>fwd_if _ (fwd_bnd (fwd_tak 1) fun _=>fwd_ret _) (fwd_ret _)
  obtain⟨⟨tb,al⟩,hsr⟩:∃x,(srcP s2).1=x:=⟨_,rfl⟩
  obtain⟨sr,hsr2⟩:∃x,(srcP s2).2=x:=⟨_,rfl⟩
  have hnm:=source_rd (HS21.out.ext (Ext.refl w21).drew) hL
  rw[hsr,hsr2]at hnm
  have HSr:Hid (srcP s2=(⟨tb,al⟩,sr)):=Prod.ext hsr hsr2
  have hsl2:=fwd_src s2
  rw[hsr2]at hsl2
  clear hsr hsr2
  have HNm:Hid (Calls Tryz.prog 104 #[.pointer (some ⟨P,0,none⟩)] w21.drew fun e w3=>e= .returned (.agg #[.string tb,.string al])∧(tb.size≤20000∧al.size≤20000)∧PsAt 68 P A c L w0 w3 sr∧Chg P w21 w3):=hnm.mono fun e w3 ⟨v,he,h5,h6,hv,hz⟩=>⟨by rw[he,hv],hz,h5,(Chg.of (Ext.refl w21).drew).trans h6⟩
  clear hnm
  have HVf:Hid ((([]:List Src)).length≤20001):=by unfold Hid;first|omega|simp
  have z1:=HBv_21.out.cell_some (i:=9) rfl
  have z1d:=(HBv_21.out.ext (Ext.refl w21).drew).cell_some (i:=9) rfl
  go_upto_region 5 with fail
  go_cut [] from 20 to 25 (fun wx=> ∃(A7:Option Addr) (c7:Nat),(tb.size≤20000∧al.size≤20000)∧PsAt 68 P A c L w0 wx sr∧Chg P w wx∧Blk wx g0 40 sC∧Blk wx gv 40 [.int .i64 5,.string ⟨#[]⟩,.slice none 0 0,.slice none 0 0,.slice none 0 0,.slice none 0 0,.slice none 0 0,.slice none 0 0,.slice B I.length k,.slice A7 ((([]:List Src)).length+1) c7,.int .i64 0,.string ⟨#[]⟩,.string ⟨#[]⟩,.int .i64 0,.int .i64 0,.int .i64 0,.string ⟨#[]⟩,.slice none 0 0,.slice none 0 0,.slice none 0 0,.int .i64 0,.string ⟨#[]⟩]∧Stb (fun q=>g0+1≤q∧q≠gv∧q<n1) wx (fun w2=>Lst Phiitm 9 w2 B I)∧n1≤wx.heap.size∧∃cf cx,FrW n1 wx (.slice A7 ((([]:List Src)).length+1) c7) (.slice none 0 0) cf cx ((([]:List Src))++ [⟨tb,al⟩]) ([]:List Ex))
  case first=>
   go_region_law (first
    |(refine step_append_any _ rfl (.tmp 21) (.tmp 24) 33 rfl n1 86 iq _ 2 32 Tryz.underlying33 hiq hq0 hq1 hq2 rfl (by decide) _ (([]:List Src)).length _ rfl HF4.out.f.own _ _ 1 1 [.string tb,.string al] rfl (readsN w3 [.string tb,.string al] 86 2 rfl) (by simp[Value.oneCell']) (by have:=HVf.out;unfold maxLen;omega) (by have:=HVf.out;omega) HNs4.out ?_;intro v7 w7 hown7 hgr7 hblk7;obtain⟨A7,c7,rfl⟩:=own_slice hown7;have hge7:=HF4.out.gef;have hb7:=HBv_4.out.grown hgr7 (fun e=>by have:=hge7 gv e.symm;have:=HGn.out;omega);have z9:=hb7.cell_some (i:=9) rfl;have y9:=hb7.frozen 9;clear hb7)
    |(go_simp;go_at_call 104;(with_reducible refine HNm.out.mono ?_);rintro _ w3 ⟨rfl,hz,h5,h6⟩;have HS3:=hid h5;have HR3:=hid (h6.blk HR21.out (by have:=HG.out;omega));have HC3:=hid (HC21.out.trans h6);have HBv_3:=hid (h6.blk HBv_21.out (by have:=HG.out;have:=HGv.out;omega));have HI3:=hid (Stb.grown HI21.out h6 (fun q hq e=>by have:=Option.some.inj e;have:=HG.out;have:=hq.1;omega));have HNs3:=hid (Nat.le_trans HNs21.out (h6).size);have HF3:=hid (HF21.out.chg h6 HPn.out);have hxa:=(Ext.refl w3).alloc (.cells #[.string tb,.string al] 86);have HR4:=hid (HR3.out.ext hxa);have HC4:=hid (HC3.out.ext hxa);have HS4:=hid (HS3.out.ext hxa);have HBv_4:=hid (HBv_3.out.ext hxa);have HI4:=hid (Stb.ext HI3.out hxa);have HNs4:=hid (Nat.le_trans HNs3.out (hxa).size);have HF4:=hid (HF3.out.ext hxa);have z3:=HBv_3.out.cell_some (i:=9) rfl;have z4:=HBv_4.out.cell_some (i:=9) rfl;have HZt:=hid hz;clear hxa h5 h6 hz))
   all_goals
    have HF5:=hid (HF4.out.pushf (y:=⟨tb,al⟩) rfl hown7 hgr7 hblk7 ⟨rfl,HZt.out⟩)
    have HR5:=hid (HR4.out.grown hgr7 (fun e=>by have:=hge7 g0 e.symm;have:=HGr0.out;omega))
    have HC5:=hid (HC4.out.own hgr7 (fun q e=>by have:=hge7 q e;have:=HGr0.out;rw[HN0.out];omega))
    have HS5:=hid (HS4.out.grown hgr7 (fun q e=>Nat.lt_of_lt_of_le HPn.out (hge7 q e)))
    have HBv_5:=hid (HBv_4.out.grown hgr7 (fun e=>by have:=hge7 gv e.symm;have:=HGn.out;omega))
    have HI5:=hid (Stb.grown HI4.out hgr7 (fun q hq e=>by have:=hge7 q e;have:=hq.2.2;omega))
    have HNs5:=hid (Nat.le_trans HNs4.out (World.grownBy.size hgr7))
    have hgs:=set_grown w7 gv 9 (.slice A7 ((([]:List Src)).length+1) c7)
    have HR6:=hid (HR5.out.grown hgs (fun e=>by have:=Option.some.inj e;have:=HGv.out;omega))
    have HC6:=hid (HC5.out.own hgs (fun q e=>by have:=Option.some.inj e;have:=HGv.out;rw[HN0.out];omega))
    have HS6:=hid (HS5.out.grown hgs (fun q e=>by have:=Option.some.inj e;have:=HG.out;have:=HGv.out;omega))
    have HI6:=hid (Stb.grown HI5.out hgs (fun q hq e=>by have:=Option.some.inj e;have:=hq.2.1;omega))
    have HNs6:=hid (Nat.le_trans HNs5.out (World.grownBy.size hgs))
    have HF6:=hid (HF5.out.turn hgs (fun q e=>by have:=Option.some.inj e;have:=HGn.out;omega))
    have HBv_6:=hid (HBv_5.out.set 9 (.slice A7 ((([]:List Src)).length+1) c7))
    clear hown7 hgr7 hblk7 hge7 hgs
    go_wp2_with fail
    go_meet
    exact⟨A7,c7,HZt.out,HS6.out,HC6.out,HR6.out,HBv_6.out,HI6.out,HNs6.out,_,_,HF6.out⟩
  case rest=>
   obtain⟨Af,kf,hzz,h1,h2,h3,h4,h5,h6,cf,cx,h7⟩:=hcut
   clear hzz HNm HVf z1 z1d
   clear HR21 HC21 HS21 HBv_21 HI21 HNs21 HF21
   obtain⟨fs1,hfs2⟩:∃x,(([]:List Src))++ [⟨tb,al⟩]=x:=⟨_,rfl⟩
   have hl2:(([]:List Src)).length+1=fs1.length:=by rw[←hfs2];simp
   rw[hfs2,hl2]at h7
   rw[hl2]at h4
   have Hfs1:=hid hfs2
   have HLfs1:=hid hl2
   clear hfs2 hl2
   have HS30:=hid h1
   have HC30:=hid h2
   have HR30:=hid h3
   have HBv_30:=hid h4
   have HI30:=hid h5
   have HNs30:=hid h6
   have HF30:=hid h7
   clear h1 h2 h3 h4 h5 h6 h7
   generalize wc=w30 at*
   obtain⟨FR,hFR⟩:∃x,fromP ex s2=x:=⟨_,rfl⟩
   have HFr:=hid hFR
   have hgo:fromGo ex (s2.r.length+1) fs1 [] sr=FR:=by
    rw[←hFR,from_eq,HSr.out,←Hfs1.out]
    rfl
   have HGo:=hid hgo
   clear hFR hgo HSr
   have hs2:s2.r.length≤20000:=by omega
   have HSl2:=hid hsl2
   go_wp2_with fail
   go_loopw [4] (fun xv wr=> ∃(m:Nat) (fs:List Src) (xs:List Ex) (st:Ps) (Af:Option Addr) (kf:Nat) (Ax:Option Addr) (kx:Nat),xv= .slice Ax xs.length kx∧fromGo ex m fs xs st=FR∧st.r.length<m∧st.r.length≤s2.r.length∧fs.length+st.r.length≤s2.r.length+1∧xs.length+st.r.length≤s2.r.length+1∧PsAt 68 P A c L w0 wr st∧Chg P w wr∧Blk wr g0 40 sC∧Blk wr gv 40 (sC (k:=5) (i:= .slice B I.length k) (f:= .slice Af fs.length kf))∧Stb (fun q=>g0+1≤q∧q≠gv∧q<n1) wr (fun w2=>Lst Phiitm 9 w2 B I)∧n1≤wr.heap.size∧∃cf cx,FrW n1 wr (.slice Af fs.length kf) (.slice Ax xs.length kx) cf cx fs xs) (fun _ wr=>20001-posOf P wr)
   case atStart=>exact⟨_,fs1,[],sr,Af,kf,none,0,rfl,HGo.out,by have:=HSl2.out;omega,HSl2.out,by have h9:=HLfs1.out;have:=HSl2.out;simp only[List.length_nil]at h9;omega,by have:=HSl2.out;simp only[List.length_nil];omega,HS30.out,HC30.out,HR30.out,HBv_30.out,HI30.out,HNs30.out,_,_,HF30.out⟩
   case round=>
    clear HS30 HC30 HR30 HBv_30 HI30 HNs30 HF30 HGo HSl2 hsl2
    obtain⟨m,fs,xs,st,Af,kf,Ax,kx,rfl,hg0,hm,hsl3,hfl3,hxl3,h1,h2,h3,h4,h5,h6,cf,cx,h7⟩:=hrel
    have HMs:Hid (posOf P wr=L.length-st.r.length):=h1.posOf
    have hle0:=h1.le
    have hne0:=h1.ne
    have HS40:=hid h1
    have HC40:=hid h2
    have HR40:=hid h3
    have HBv_40:=hid h4
    have HI40:=hid h5
    have HNs40:=hid h6
    have HF40:=hid h7
    clear h1 h2 h3 h4 h5 h6 h7
    generalize wr=w40 at*
    obtain⟨m,rfl⟩:∃x,m=x+1:=⟨m-1,by omega⟩
    rw[fromGo_succ]at hg0
    have HG1:=hid hg0
    clear hg0
    go_upto_region 7 with fail
    go_cut [32] from 27 to 32 (fun cv wx=>cv= .bool (isS yCm st||isS kJOIN st)∧Ext w40 wx)
    case first=>
     go_wp2_with fail
     refine(is_any HS40.out hL yCm).mono ?_
     rintro _ w41 ⟨rfl,hx⟩
     have HX41:=hid hx
     have HS41:=hid (HS40.out.ext hx)
     clear hx
     obtain⟨q1,hq1⟩:∃q,isS yCm st=q:=⟨_,rfl⟩
     rw[hq1]
     have HQ1:=hid hq1
     clear hq1
     cases q1
     ·go_wp2_with fail
      refine(is_any HS41.out hL kJOIN).mono ?_
      rintro _ w42 ⟨rfl,hx⟩
      have HX42:=hid (HX41.out.trans hx)
      clear hx
      go_wp2_with fail
      go_meet
      exact⟨by rw[HQ1.out];rfl,HX42.out⟩
     ·go_wp2_with fail
      go_meet
      exact⟨by rw[HQ1.out];rfl,HX41.out⟩
    case rest=>
     obtain⟨rfl,hx⟩:=hcut
     have HR41:=hid (HR40.out.ext hx)
     have HC41:=hid (HC40.out.ext hx)
     have HS41:=hid (HS40.out.ext hx)
     have HBv_41:=hid (HBv_40.out.ext hx)
     have HI41:=hid (Stb.ext HI40.out hx)
     have HNs41:=hid (Nat.le_trans HNs40.out (hx).size)
     have HF41:=hid (HF40.out.ext hx)
     clear hx
     clear HR40 HC40 HS40 HBv_40 HI40 HNs40 HF40
     generalize wc=w41 at*
     obtain⟨qj,hqj⟩:∃q,isS kJOIN st=q:=⟨_,rfl⟩
     obtain⟨qc,hqc⟩:∃q,isS yCm st=q:=⟨_,rfl⟩
     rw[hqj,hqc]
     have HQj:=hid hqj
     have HQc:=hid hqc
     clear hqj hqc
     obtain⟨qa,hqa⟩:∃q,(qc||qj)=q:=⟨_,rfl⟩
     rw[hqa]
     have HQa:=hid hqa
     clear hqa
     cases qa
     ·skip
      have hcj:qc=false∧qj=false:=by have:=HQa.out;revert this;cases qc<;>cases qj<;>simp
      obtain⟨rfl,rfl⟩:=hcj
      have HFe:Hid (fromP ex s2=((fs,xs),st)):=by
       have:=HG1.out
       rw[HQc.out,HQj.out,if_neg (by simp),if_neg (by simp)]at this
       unfold Hid
       rw[HFr.out,←this]
      clear HG1 HQa HQc HQj HMs
      have hfs:fs.length≤20001:=by omega
      have hxs:xs.length≤20001:=by omega
      have hst1:st.r.length≤s2.r.length:=hsl3
      have HSl3:Hid (st.r.length<n):=by unfold Hid;omega
      have HLf:Hid (fs.length≤20001):=hfs
      clear hm hfl3 hxl3 hfs
      go_wp2_with fail
      refine(accept_any HS41.out hL kWHERE).mono ?_
      rintro _ w42 ⟨v,rfl,h1,h2,rfl⟩
      have HS42:=hid h1
      have HR42:=hid (h2.blk HR41.out (by have:=HG.out;omega))
      have HC42:=hid (HC41.out.trans h2)
      have HBv_42:=hid (h2.blk HBv_41.out (by have:=HG.out;have:=HGv.out;omega))
      have HI42:=hid (Stb.grown HI41.out h2 (fun q hq e=>by have:=Option.some.inj e;have:=HG.out;have:=hq.1;omega))
      have HNs42:=hid (Nat.le_trans HNs41.out (h2).size)
      have HF42:=hid (HF41.out.chg h2 HPn.out)
      clear h1 h2
      clear HR41 HC41 HS41 HBv_41 HI41 HNs41 HF41
      obtain⟨q,hq⟩:∃q,isS kWHERE st=q:=⟨_,rfl⟩
      rw[hq]
      have HQ:=hid hq
      clear hq
      go_upto_if 59 with fail
      go_cut [4] from 60 to 64 (fun xv wx=> ∃(ys:List Ex) (sw:Ps) (Ay:Option Addr) (ky:Nat),xv= .slice Ay ys.length ky∧condP ex andL xs st=(andL ys,sw)∧ys.length≤20002∧sw.r.length≤st.r.length∧PsAt 68 P A c L w0 wx sw∧Chg P w wx∧Blk wx g0 40 sC∧Blk wx gv 40 (sC (k:=5) (i:= .slice B I.length k) (f:= .slice Af fs.length kf))∧Stb (fun q=>g0+1≤q∧q≠gv∧q<n1) wx (fun w2=>Lst Phiitm 9 w2 B I)∧n1≤wx.heap.size∧∃cf cx,FrW n1 wx (.slice Af fs.length kf) (.slice Ay ys.length ky) cf cx fs ys)
      case first=>
       cases q
       ·skip
        have e:(accP kWHERE st).2=st:=by have hb:=HQ.out;simp[accP,hb]
        rw[e]at HS42
        clear e
        go_wp2_with fail
        go_meet
        exact⟨xs,st,Ax,kx,rfl,by unfold condP ifM;rw[HQ.out,if_neg (by simp)];rfl,by omega,Nat.le_refl _,HS42.out,HC42.out,HR42.out,HBv_42.out,HI42.out,HNs42.out,_,_,HF42.out⟩
       ·skip
        have e:(accP kWHERE st).2=st.next:=by have hb:=HQ.out;simp[accP,hb]
        rw[e]at HS42
        clear e
        have hnx:=next_len st
        go_wp2_with fail
        refine(hr _ _ HS42.out (by have:=HSl3.out;omega)).mono ?_
        rintro _ w43 ⟨v,rfl,h1,h2,A1,k1,c1,rfl,h3⟩
        obtain⟨e1,he1⟩:∃e,(ex st.next).1=e:=⟨_,rfl⟩
        obtain⟨st1,hst1⟩:∃e,(ex st.next).2=e:=⟨_,rfl⟩
        have hfe:=hfw st.next
        rw[hst1]at h1 hfe
        rw[he1]at h3 ⊢
        have HEx:Hid (ex st.next=(e1,st1)):=Prod.ext he1 hst1
        have HFe2:=hid hfe
        clear he1 hst1 hfe
        have HS43:=hid h1
        have HR43:=hid (h2.blk HR42.out (by have:=HG.out;omega))
        have HC43:=hid (HC42.out.trans h2)
        have HBv_43:=hid (h2.blk HBv_42.out (by have:=HG.out;have:=HGv.out;omega))
        have HI43:=hid (Stb.grown HI42.out h2 (fun q hq e=>by have:=Option.some.inj e;have:=HG.out;have:=hq.1;omega))
        have HNs43:=hid (Nat.le_trans HNs42.out (h2).size)
        have HF43:=hid (HF42.out.chg h2 HPn.out)
        have HE43:=hid (HF42.out.fine (Nat.le_refl _) HNs42.out h3)
        clear h1 h2 h3
        clear HR42 HC42 HS42 HBv_42 HI42 HNs42 HF42
        obtain⟨⟨op,tb,nm,ix,vk,vi,vt⟩,ks⟩:=e1
        unfold Nd.val
        simp only[Ex.d]
        have hxa:=(Ext.refl w43).alloc (.cells #[.int .i64 op,.string tb,.string nm,.int .i64 ix,.int .i64 vk,.int .i64 vi,.string vt,.slice A1 k1 c1] 37)
        have HR61:=hid (HR43.out.ext hxa)
        have HC61:=hid (HC43.out.ext hxa)
        have HS61:=hid (HS43.out.ext hxa)
        have HBv_61:=hid (HBv_43.out.ext hxa)
        have HI61:=hid (Stb.ext HI43.out hxa)
        have HNs61:=hid (Nat.le_trans HNs43.out (hxa).size)
        have HF61:=hid (HF43.out.ext hxa)
        have HE61:=hid (Stb.ext HE43.out hxa)
        clear hxa
        have HXl:Hid ((xs).length≤20002):=by unfold Hid;omega
        go_wp2_with (at_builtin;refine wpList_append_any _ rfl (.tmp 60) (.tmp 63) 27 rfl n1 37 iz _ 8 104 Tryz.underlying27 hiz hz0 hz1 hz2 rfl (by decide) _ (xs).length _ rfl HF61.out.x.own _ _ 1 1 (eC op tb nm ix vk vi vt A1 k1 c1) rfl (readsN w43 (eC op tb nm ix vk vi vt A1 k1 c1) 37 8 rfl) (by simp[Value.oneCell']) (by have:=HXl.out;unfold maxLen;omega) (by have:=HXl.out;omega) HNs61.out ?_;intro v7 w7 hown7 hgr7 hblk7;obtain⟨A7,c7,rfl⟩:=own_slice hown7)
        have HF62:=hid (HF61.out.pushx (y:=(.mk ⟨op,tb,nm,ix,vk,vi,vt⟩ ks)) rfl hown7 hgr7 hblk7 (HE61.out.imp fun w2 h=>⟨A1,k1,c1,rfl,h⟩))
        have hge7:=HF61.out.gex
        have HR62:=hid (HR61.out.grown hgr7 (fun e=>by have:=hge7 g0 e.symm;have:=HGr0.out;omega))
        have HC62:=hid (HC61.out.own hgr7 (fun q e=>by have:=hge7 q e;have:=HGr0.out;rw[HN0.out];omega))
        have HS62:=hid (HS61.out.grown hgr7 (fun q e=>Nat.lt_of_lt_of_le HPn.out (hge7 q e)))
        have HBv_62:=hid (HBv_61.out.grown hgr7 (fun e=>by have:=hge7 gv e.symm;have:=HGn.out;omega))
        have HI62:=hid (Stb.grown HI61.out hgr7 (fun q hq e=>by have:=hge7 q e;have:=hq.2.2;omega))
        have HNs62:=hid (Nat.le_trans HNs61.out (World.grownBy.size hgr7))
        clear hown7 hgr7 hblk7 hge7
        obtain⟨xs2,hxs2⟩:∃x,(xs)++ [(.mk ⟨op,tb,nm,ix,vk,vi,vt⟩ ks)]=x:=⟨_,rfl⟩
        have hl2:(xs).length+1=xs2.length:=by rw[←hxs2];simp
        rw[hxs2]at HF62
        rw[hl2]at HF62 ⊢
        go_meet
        have HCd:condP ex andL xs st=(andL xs2,st1):=by
         unfold condP ifM bndM retM
         rw[HQ.out,if_pos rfl,HEx.out]
         show(andL (xs++ [_]),st1)=_
         rw[hxs2]
        exact⟨xs2,st1,A7,c7,rfl,HCd,by omega,by have:=HFe2.out;omega,HS62.out,HC62.out,HR62.out,HBv_62.out,HI62.out,HNs62.out,_,_,HF62.out⟩
      case rest=>
       obtain⟨ys,sw,Ay,ky,rfl,hcd,hyl,hswl,h1,h2,h3,h4,h5,h6,cf2,cy,h7⟩:=hcut
       clear HQ
       clear HR42 HC42 HS42 HBv_42 HI42 HNs42 HF42
       have HS70:=hid h1
       have HC70:=hid h2
       have HR70:=hid h3
       have HBv_70:=hid h4
       have HI70:=hid h5
       have HNs70:=hid h6
       have HF70:=hid h7
       clear h1 h2 h3 h4 h5 h6 h7
       generalize wc=w70 at*
       have HCd:=hid hcd
       clear hcd
       have zz:(0:Int)≤(ys.length:Int):=by omega
       go_wp2_with fail
       go_loopw [67] (fun iv wr=> ∃j:Nat,j≤ys.length∧iv= .int .i64 j∧PsAt 68 P A c L w0 wr sw∧Chg P w wr∧Blk wr g0 40 sC∧(∃(Bw:Option Addr) (bw cw:Nat),Blk wr gv 40 (.int .i64 5:: .string ⟨#[]⟩:: .slice none 0 0:: .slice none 0 0:: .slice none 0 0:: .slice none 0 0:: .slice none 0 0:: .slice none 0 0:: .slice B I.length k:: .slice Af fs.length kf::((andL (ys.take j)).d.cells Bw bw cw++ [.slice none 0 0,.slice none 0 0,.int .i64 0,.string ⟨#[]⟩]))∧Stb (Sq n1 (.slice Af fs.length kf) (.slice Ay ys.length ky)) wr (fun w2=>ExV w2 (andL (ys.take j)) Bw bw cw))∧Stb (fun q=>g0+1≤q∧q≠gv∧q<n1) wr (fun w2=>Lst Phiitm 9 w2 B I)∧n1≤wr.heap.size∧FrW n1 wr (.slice Af fs.length kf) (.slice Ay ys.length ky) cf2 cy fs ys) (fun i _=>ys.length- (intOf i).toNat)
       case atStart=>exact⟨0,Nat.zero_le _,rfl,HS70.out,HC70.out,HR70.out,⟨none,0,0,HBv_70.out,fun w2 _ _=>⟨rfl,by omega,fit_op (o:=0) i64_0,by unfold KidsAt Ex.ks;trivial⟩⟩,HI70.out,HNs70.out,HF70.out⟩
       case round=>
        clear HS70 HC70 HR70 HBv_70 HI70 HNs70 HF70
        obtain⟨j,hj,rfl,h1,h2,h3,⟨A1,k1,c1,h4,h8⟩,h5,h6,h7⟩:=hrel
        obtain⟨E,hE⟩:∃x,andL (ys.take j)=x:=⟨_,rfl⟩
        rw[hE]at h4 h8
        have HEq:=hid hE
        clear hE
        obtain⟨⟨op,tb,nm,ix,vk,vi,vt⟩,ks⟩:=E
        unfold Nd.cells at h4
        simp only[Ex.d,List.cons_append,List.nil_append]at h4
        have HS80:=hid h1
        have HC80:=hid h2
        have HR80:=hid h3
        have HBv_80:=hid h4
        have HI80:=hid h5
        have HNs80:=hid h6
        have HF80:=hid h7
        clear h1 h2 h3 h4 h5 h6 h7
        have HEw:=hid h8
        clear h8
        generalize wr=w80 at*
        by_cases hlt:j<ys.length
        ·skip
         obtain⟨y,hy⟩:∃y,ys[j]? =some y:=⟨_,List.getElem?_eq_getElem hlt⟩
         have hjc:j<cy.length:=by rw[HF80.out.x.len];exact hlt
         obtain⟨cs,hcs⟩:∃cs,cy[j]? =some cs:=⟨_,List.getElem?_eq_getElem hjc⟩
         obtain⟨A2,k2,c2,hcs2,hst⟩:=phi_stb (HF80.out.x.at_ j y cs hy hcs)
         have HY80:=hid hst
         have HTk:Hid (ys.take (j+1)=ys.take j++ [y]):=by
          unfold Hid
          rw[List.take_add_one,hy]
          rfl
         obtain⟨⟨op2,tb2,nm2,ix2,vk2,vi2,vt2⟩,ks2⟩:=y
         subst hcs2
         obtain⟨m9,hm9⟩:∃m,ys.length=m+1:=⟨ys.length-1,by omega⟩
         obtain⟨gy,c9,hgy⟩:∃gy c9,Value.slice Ay ys.length ky= .slice (some ⟨gy,0,none⟩) ys.length c9:=by
          have how:=HF80.out.x.own
          rw[hm9]at how ⊢
          exact own_some how
         injection hgy with e1 e2 e3
         subst e1 e3
         clear hm9
         have e0:=nOwn_cell HF80.out.x.own (flat_get cy HF80.out.x.each j 0 _ _ hcs rfl)
         have e1:=nOwn_cell HF80.out.x.own (flat_get cy HF80.out.x.each j 1 _ _ hcs rfl)
         have e2:=nOwn_cell HF80.out.x.own (flat_get cy HF80.out.x.each j 2 _ _ hcs rfl)
         have e3:=nOwn_cell HF80.out.x.own (flat_get cy HF80.out.x.each j 3 _ _ hcs rfl)
         have e4:=nOwn_cell HF80.out.x.own (flat_get cy HF80.out.x.each j 4 _ _ hcs rfl)
         have e5:=nOwn_cell HF80.out.x.own (flat_get cy HF80.out.x.each j 5 _ _ hcs rfl)
         have e6:=nOwn_cell HF80.out.x.own (flat_get cy HF80.out.x.each j 6 _ _ hcs rfl)
         have e7:=nOwn_cell HF80.out.x.own (flat_get cy HF80.out.x.each j 7 _ _ hcs rfl)
         rw[Nat.add_zero]at e0
         simp only[Ex.d]at e0 e1 e2 e3 e4 e5 e6 e7
         clear hcs hjc hy hst
         have i0:(0:Int)≤(j:Int):=by omega
         have i1:(j:Int)<(ys.length:Int):=by omega
         go_upto_region 19 with fail
         have hx:=(Ext.refl w80).alloc (.cells #[.int .i64 op2,.string tb2,.string nm2,.int .i64 ix2,.int .i64 vk2,.int .i64 vi2,.string vt2,.slice A2 k2 c2] 37)
         have HR81:=hid (HR80.out.ext hx)
         have HC81:=hid (HC80.out.ext hx)
         have HS81:=hid (HS80.out.ext hx)
         have HBv_81:=hid (HBv_80.out.ext hx)
         have HI81:=hid (Stb.ext HI80.out hx)
         have HNs81:=hid (Nat.le_trans HNs80.out (hx).size)
         have HF81:=hid (HF80.out.ext hx)
         have HE81:=hid (Stb.ext HEw.out hx)
         have HY81:=hid (Stb.ext HY80.out hx)
         have HBk:=hid (Blk.of_new w80 37 (eC op2 tb2 nm2 ix2 vk2 vi2 vt2 A2 k2 c2))
         have HGk:Hid (n1≤w80.heap.size):=HNs80.out
         clear hx e0 e1 e2 e3 e4 e5 e6 e7 HEw HY80
         clear HR80 HC80 HS80 HBv_80 HI80 HNs80 HF80
         generalize w80.alloc (.cells #[.int .i64 op2,.string tb2,.string nm2,.int .i64 ix2,.int .i64 vk2,.int .i64 vi2,.string vt2,.slice A2 k2 c2] 37)=w81 at*
         generalize w80.heap.size=gk at*
         by_cases hj0:j=0
         ·have hjb:((j:Int)==0)=true:=by simp;omega
          have HJ0:=hid hj0
          clear hj0 zz
          obtain⟨d0,d1,d2,d3,d4,d5,d6,d7,-⟩:=cls HBk.out
          have z0:=HBv_81.out.cell_some (i:=10) rfl
          have y0:=HBv_81.out.frozen 10
          have z1:=HBv_81.out.cell_some (i:=11) rfl
          have y1:=HBv_81.out.frozen 11
          have z2:=HBv_81.out.cell_some (i:=12) rfl
          have y2:=HBv_81.out.frozen 12
          have z3:=HBv_81.out.cell_some (i:=13) rfl
          have y3:=HBv_81.out.frozen 13
          have z4:=HBv_81.out.cell_some (i:=14) rfl
          have y4:=HBv_81.out.frozen 14
          have z5:=HBv_81.out.cell_some (i:=15) rfl
          have y5:=HBv_81.out.frozen 15
          have z6:=HBv_81.out.cell_some (i:=16) rfl
          have y6:=HBv_81.out.frozen 16
          have z7:=HBv_81.out.cell_some (i:=17) rfl
          have y7:=HBv_81.out.frozen 17
          have hgr:=sts_grown gv (eC op2 tb2 nm2 ix2 vk2 vi2 vt2 A2 k2 c2) w81 10
          have HR90:=hid (HR81.out.grown hgr (fun e=>by have:=Option.some.inj e;have:=HGv.out;omega))
          have HC90:=hid (HC81.out.own hgr (fun q e=>by have:=Option.some.inj e;have:=HGv.out;rw[HN0.out];omega))
          have HS90:=hid (HS81.out.grown hgr (fun q e=>by have:=Option.some.inj e;have:=HG.out;have:=HGv.out;omega))
          have HI90:=hid (Stb.grown HI81.out hgr (fun q hq e=>by have:=Option.some.inj e;have:=hq.2.1;omega))
          have HNs90:=hid (Nat.le_trans HNs81.out (World.grownBy.size hgr))
          have HF90:=hid (HF81.out.turn hgr (fun q e=>by have:=Option.some.inj e;have:=HGn.out;omega))
          have HE90:=hid (Stb.grown (HY81.out) hgr (fun q hq e=>by have:=Option.some.inj e;have:=hq.1;have:=HGn.out;omega))
          have HB90:Hid (Blk (sts w81 gv 10 (eC op2 tb2 nm2 ix2 vk2 vi2 vt2 A2 k2 c2)) gv 40 (.int .i64 5:: .string ⟨#[]⟩:: .slice none 0 0:: .slice none 0 0:: .slice none 0 0:: .slice none 0 0:: .slice none 0 0:: .slice none 0 0:: .slice B I.length k:: .slice Af fs.length kf::((eC op2 tb2 nm2 ix2 vk2 vi2 vt2 A2 k2 c2)++ [.slice none 0 0,.slice none 0 0,.int .i64 0,.string ⟨#[]⟩]))):=by
           have h9:=blk_mid (pre:= [.int .i64 5,.string ⟨#[]⟩,.slice none 0 0,.slice none 0 0,.slice none 0 0,.slice none 0 0,.slice none 0 0,.slice none 0 0,.slice B I.length k,.slice Af fs.length kf]) (old:=(eC op tb nm ix vk vi vt A1 k1 c1)) (post:= [.slice none 0 0,.slice none 0 0,.int .i64 0,.string ⟨#[]⟩]) (vs:=(eC op2 tb2 nm2 ix2 vk2 vi2 vt2 A2 k2 c2)) HBv_81.out rfl
           exact h9
          clear hgr
          simp only[sts]at HS90 HR90 HC90 HB90 HI90 HNs90 HF90 HE90
          go_wp2_with fail
          obtain rfl:j=0:=HJ0.out
          have hEy:andL (ys.take (0+1))=(.mk ⟨op2,tb2,nm2,ix2,vk2,vi2,vt2⟩ ks2):=by rw[HTk.out];rfl
          exact⟨⟨0+1,by omega,by go_num,HS90.out,HC90.out,HR90.out,⟨A2,k2,c2,by rw[hEy];exact HB90.out,by rw[hEy];exact HE90.out⟩,HI90.out,HNs90.out,HF90.out⟩,by simp[intOf];omega⟩
         ·have hjb:((j:Int)==0)=false:=by simp;omega
          have HJ0:=hid hj0
          clear hj0 zz
          have d0:=HBk.out.cell_some (i:=0) rfl
          have g0:=HBv_81.out.cell_some (i:=10) rfl
          have d1:=HBk.out.cell_some (i:=1) rfl
          have g1:=HBv_81.out.cell_some (i:=11) rfl
          have d2:=HBk.out.cell_some (i:=2) rfl
          have g2:=HBv_81.out.cell_some (i:=12) rfl
          have d3:=HBk.out.cell_some (i:=3) rfl
          have g3:=HBv_81.out.cell_some (i:=13) rfl
          have d4:=HBk.out.cell_some (i:=4) rfl
          have g4:=HBv_81.out.cell_some (i:=14) rfl
          have d5:=HBk.out.cell_some (i:=5) rfl
          have g5:=HBv_81.out.cell_some (i:=15) rfl
          have d6:=HBk.out.cell_some (i:=6) rfl
          have g6:=HBv_81.out.cell_some (i:=16) rfl
          have d7:=HBk.out.cell_some (i:=7) rfl
          have g7:=HBv_81.out.cell_some (i:=17) rfl
          go_wp2_with fail
          refine(op_any 18 _ _ _ _).mono ?_
          rintro _ w82 ⟨rfl,hx5⟩
          have hx6:Ext w81 w82:=((Ext.refl w81).alloc (.cells #[.int .i64 op,.string tb,.string nm,.int .i64 ix,.int .i64 vk,.int .i64 vi,.string vt,.slice A1 k1 c1,.int .i64 op2,.string tb2,.string nm2,.int .i64 ix2,.int .i64 vk2,.int .i64 vi2,.string vt2,.slice A2 k2 c2] 37)).trans hx5
          have hnew:=Stb.ext (exS_op2 (T:=37) (o:=18) (a:=(.mk ⟨op,tb,nm,ix,vk,vi,vt⟩ ks)) (b:=(.mk ⟨op2,tb2,nm2,ix2,vk2,vi2,vt2⟩ ks2)) (by unfold I64;omega) ⟨HNs81.out,fun e=>Nat.lt_irrefl _ (HF81.out.f.own.lt _ e).2,fun e=>Nat.lt_irrefl _ (HF81.out.x.own.lt _ e).2⟩ HE81.out HY81.out) hx5
          have HR82:=hid (HR81.out.ext hx6)
          have HC82:=hid (HC81.out.ext hx6)
          have HS82:=hid (HS81.out.ext hx6)
          have HBv_82:=hid (HBv_81.out.ext hx6)
          have HI82:=hid (Stb.ext HI81.out hx6)
          have HNs82:=hid (Nat.le_trans HNs81.out (hx6).size)
          have HF82:=hid (HF81.out.ext hx6)
          have HN82:=hid hnew
          clear hx5 hx6 hnew
          have z0:=HBv_82.out.cell_some (i:=10) rfl
          have y0:=HBv_82.out.frozen 10
          have z1:=HBv_82.out.cell_some (i:=11) rfl
          have y1:=HBv_82.out.frozen 11
          have z2:=HBv_82.out.cell_some (i:=12) rfl
          have y2:=HBv_82.out.frozen 12
          have z3:=HBv_82.out.cell_some (i:=13) rfl
          have y3:=HBv_82.out.frozen 13
          have z4:=HBv_82.out.cell_some (i:=14) rfl
          have y4:=HBv_82.out.frozen 14
          have z5:=HBv_82.out.cell_some (i:=15) rfl
          have y5:=HBv_82.out.frozen 15
          have z6:=HBv_82.out.cell_some (i:=16) rfl
          have y6:=HBv_82.out.frozen 16
          have z7:=HBv_82.out.cell_some (i:=17) rfl
          have y7:=HBv_82.out.frozen 17
          have hgr:=sts_grown gv (eC 18 ⟨#[]⟩ ⟨#[]⟩ 0 0 0 ⟨#[]⟩ (some ⟨w81.heap.size,0,none⟩) 2 2) w82 10
          have HR90:=hid (HR82.out.grown hgr (fun e=>by have:=Option.some.inj e;have:=HGv.out;omega))
          have HC90:=hid (HC82.out.own hgr (fun q e=>by have:=Option.some.inj e;have:=HGv.out;rw[HN0.out];omega))
          have HS90:=hid (HS82.out.grown hgr (fun q e=>by have:=Option.some.inj e;have:=HG.out;have:=HGv.out;omega))
          have HI90:=hid (Stb.grown HI82.out hgr (fun q hq e=>by have:=Option.some.inj e;have:=hq.2.1;omega))
          have HNs90:=hid (Nat.le_trans HNs82.out (World.grownBy.size hgr))
          have HF90:=hid (HF82.out.turn hgr (fun q e=>by have:=Option.some.inj e;have:=HGn.out;omega))
          have HE90:=hid (Stb.grown (HN82.out) hgr (fun q hq e=>by have:=Option.some.inj e;have:=hq.1;have:=HGn.out;omega))
          have HB90:Hid (Blk (sts w82 gv 10 (eC 18 ⟨#[]⟩ ⟨#[]⟩ 0 0 0 ⟨#[]⟩ (some ⟨w81.heap.size,0,none⟩) 2 2)) gv 40 (.int .i64 5:: .string ⟨#[]⟩:: .slice none 0 0:: .slice none 0 0:: .slice none 0 0:: .slice none 0 0:: .slice none 0 0:: .slice none 0 0:: .slice B I.length k:: .slice Af fs.length kf::((eC 18 ⟨#[]⟩ ⟨#[]⟩ 0 0 0 ⟨#[]⟩ (some ⟨w81.heap.size,0,none⟩) 2 2)++ [.slice none 0 0,.slice none 0 0,.int .i64 0,.string ⟨#[]⟩]))):=by
           have h9:=blk_mid (pre:= [.int .i64 5,.string ⟨#[]⟩,.slice none 0 0,.slice none 0 0,.slice none 0 0,.slice none 0 0,.slice none 0 0,.slice none 0 0,.slice B I.length k,.slice Af fs.length kf]) (old:=(eC op tb nm ix vk vi vt A1 k1 c1)) (post:= [.slice none 0 0,.slice none 0 0,.int .i64 0,.string ⟨#[]⟩]) (vs:=(eC 18 ⟨#[]⟩ ⟨#[]⟩ 0 0 0 ⟨#[]⟩ (some ⟨w81.heap.size,0,none⟩) 2 2)) HBv_82.out rfl
           exact h9
          clear hgr
          simp only[sts]at HS90 HR90 HC90 HB90 HI90 HNs90 HF90 HE90
          go_wp2_with fail
          have hEy:andL (ys.take (j+1))=opE 18 [(.mk ⟨op,tb,nm,ix,vk,vi,vt⟩ ks),(.mk ⟨op2,tb2,nm2,ix2,vk2,vi2,vt2⟩ ks2)]:=by rw[HTk.out,andL_snoc (by have hj0:=HJ0.out;intro h;have:=congrArg List.length h;rw[List.length_take]at this;simp only[List.length_nil]at this;omega),HEq.out]
          exact⟨⟨j+1,by omega,by go_num,HS90.out,HC90.out,HR90.out,⟨_,2,2,by rw[hEy];exact HB90.out,by rw[hEy];exact HE90.out⟩,HI90.out,HNs90.out,HF90.out⟩,by simp[intOf];omega⟩
        ·skip
         obtain rfl:j=ys.length:=by omega
         rw[List.take_length]at HEq
         clear hlt hj zz
         obtain⟨Bs,ks2,hv2,t2⟩:=HF80.out.f.fin fun q hq=>hq.1
         injection hv2 with e1 e2 e3
         subst e1 e3
         clear e2
         have HYa_80:Hid (Stb (Sx g0 gv) w80 fun w2=> (Lst Phiitm 9 w2 B I∧Lst Phisrc 2 w2 Af fs)∧ExV w2 (.mk ⟨op,tb,nm,ix,vk,vi,vt⟩ ks) A1 k1 c1):=((HI80.out.weak fun q _ hq=>⟨hq.1,hq.2.1⟩).and (t2.weak fun q _ hq=>⟨Nat.le_trans (Nat.succ_le_of_lt HGr0.out) hq,fun e=>by have:=HGn.out;have h9:n1≤q:=hq;omega⟩)).and (HEw.out.weak fun q _ hq=>⟨Nat.le_trans (Nat.succ_le_of_lt HGr0.out) hq.1,fun e=>by have:=HGn.out;have h9:=hq.1;omega⟩)
         clear t2 HI80 HF80 HNs80 HEw
         go_wp2_with fail
         refine(accept_any HS80.out hL kGROUP).mono ?_
         rintro _ w81 ⟨v,rfl,h1,h2,rfl⟩
         have HS81:=hid h1
         have HR81:=hid (h2.blk HR80.out (by have:=HG.out;omega))
         have HC81:=hid (HC80.out.trans h2)
         have HYa_81:=hid (Stb.chg2 HYa_80.out h2 (by have:=HG.out;omega))
         have HBv_81:=hid (h2.blk HBv_80.out (by have:=HG.out;have:=HGv.out;omega))
         clear h1 h2
         clear HR80 HC80 HS80 HYa_80 HBv_80
         obtain⟨q,hq⟩:∃q,isS kGROUP sw=q:=⟨_,rfl⟩
         rw[hq]
         have HQ:=hid hq
         clear hq
         go_upto_if 84 with fail
         go_cut [] from 85 to 92 (fun wx=> ∃(Bg:Option Addr) (kg:Nat) (G:List Ex) (sg:Ps),grpP sw=(G,sg)∧G.length≤20001∧sg.r.length≤sw.r.length∧PsAt 68 P A c L w0 wx sg∧Chg P w wx∧Blk wx g0 40 sC∧Blk wx gv 40 (sC (k:=5) (i:= .slice B I.length k) (f:= .slice Af fs.length kf) (o:=op) (q:=tb) (m:=nm) (x:=ix) (y:=vk) (z:=vi) (u:=vt) (e:= .slice A1 k1 c1) (g:= .slice Bg G.length kg))∧Stb (Sx g0 gv) wx (fun w2=> ((Lst Phiitm 9 w2 B I∧Lst Phisrc 2 w2 Af fs)∧ExV w2 (.mk ⟨op,tb,nm,ix,vk,vi,vt⟩ ks) A1 k1 c1)∧Lst Phiex 8 w2 Bg G))
         case first=>
          cases q
          ·skip
           have e:(accP kGROUP sw).2=sw:=by have hb:=HQ.out;simp[accP,hb]
           rw[e]at HS81
           clear e
           go_wp2_with fail
           go_meet
           exact⟨none,0,[],sw,by unfold grpP ifM;rw[HQ.out,if_neg (by simp)];rfl,by simp,Nat.le_refl _,HS81.out,HC81.out,HR81.out,HBv_81.out,HYa_81.out.and (fun w2 _ _ j a h=>by cases h)⟩
          ·skip
           have e:(accP kGROUP sw).2=sw.next:=by have hb:=HQ.out;simp[accP,hb]
           rw[e]at HS81
           clear e
           have hnx:=next_len sw
           go_wp2_with fail
           refine(need_any (HS81.out.ext ((Ext.refl w81).alloc (.cells #[.string kBY] 9))) hL kBY w81.heap.size (by simp[World.cell?_alloc_new])).mono ?_
           rintro _ w82 ⟨v,rfl,h1,h2,_⟩
           replace h2:Chg P w81 w82:=(Chg.of ((Ext.refl w81).alloc (.cells #[.string kBY] 9))).trans h2
           have HS82:=hid h1
           have HR82:=hid (h2.blk HR81.out (by have:=HG.out;omega))
           have HC82:=hid (HC81.out.trans h2)
           have HYa_82:=hid (Stb.chg2 HYa_81.out h2 (by have:=HG.out;omega))
           have HBv_82:=hid (h2.blk HBv_81.out (by have:=HG.out;have:=HGv.out;omega))
           clear h1 h2
           clear HR81 HC81 HS81 HYa_81 HBv_81
           have hnb:=need_len kBY sw.next
           obtain⟨sb,hsb⟩:∃x,(needP kBY sw.next)=x:=⟨_,rfl⟩
           rw[hsb]at HS82 hnb
           have HSb:=hid hsb
           clear hsb
           have HLt:=hid (fwd_list (fwd_col) sb)
           have HLn:=hid (list_len (fwd_col) sb)
           have HLs:=hid HS82.out.le
           have z9:=HBv_82.out.cell_some (i:=18) rfl
           have y9:=HBv_82.out.frozen 18
           go_wp2_with fail
           refine(list_ex 106 entK_col colP (fwd_col) HS82.out hL (fun W st hS hl=>column_tok hS hL)).mono ?_
           rintro _ w83 ⟨v,rfl,h1,h2,Bg,kg,rfl,h3⟩
           clear z9 y9
           obtain⟨G,hG⟩:∃x,(listP colP sb).1=x:=⟨_,rfl⟩
           obtain⟨sg,hsg⟩:∃x,(listP colP sb).2=x:=⟨_,rfl⟩
           rw[hG]at h3 HLn ⊢
           rw[hsg]at h1 HLt
           have HGe:Hid (grpP sw=(G,sg)):=by
            unfold Hid
            unfold grpP ifM
            rw[HQ.out,if_pos rfl]
            show listP colP (needP kBY _)=_
            rw[HSb.out]
            exact Prod.ext hG hsg
           clear hG hsg
           have HS83:=hid h1
           have HR83:=hid (h2.blk HR82.out (by have:=HG.out;omega))
           have HC83:=hid (HC82.out.trans h2)
           have HYa_83:=hid (Stb.chg2 HYa_82.out h2 (by have:=HG.out;omega))
           have HBv_83:=hid (h2.blk HBv_82.out (by have:=HG.out;have:=HGv.out;omega))
           have HYg_83:Hid (Stb (Sx g0 gv) w83 fun w2=>Lst Phiex 8 w2 Bg G):=h3.weak fun q _ hq=>⟨Nat.le_trans HR82.out.lt hq,by have h8:=HBv_82.out.lt;have h9:w82.heap.size≤q:=hq;omega⟩
           clear h1 h2 h3
           clear HR82 HC82 HS82 HYa_82 HBv_82
           have z9:=HBv_83.out.cell_some (i:=18) rfl
           have y9:=HBv_83.out.frozen 18
           have hgr:=set_grown w83 gv 18 (.slice Bg G.length kg)
           have HSn:=hid (HS83.out.grown hgr (fun q hq=>by have:=Option.some.inj hq;have:=HG.out;have:=HGv.out;omega))
           have HRn:=hid (HR83.out.grown hgr (fun e=>by have:=Option.some.inj e;have:=HGv.out;omega))
           have HCn:=hid (HC83.out.own hgr (fun q hq=>by have:=Option.some.inj hq;have:=HGv.out;rw[HN0.out];omega))
           have HBn:=hid (HBv_83.out.set 18 (.slice Bg G.length kg))
           have HYa_n:=hid (Stb.grown HYa_83.out hgr (fun q hq e=>hq.2 (Option.some.inj e).symm))
           have HYg_n:=hid (Stb.grown HYg_83.out hgr (fun q hq e=>hq.2 (Option.some.inj e).symm))
           clear hgr
           go_wp2_with fail
           go_meet
           exact⟨Bg,kg,G,sg,HGe.out,by have:=HLn.out;have:=HLs.out;omega,by have:=HLt.out;omega,HSn.out,HCn.out,HRn.out,HBn.out,HYa_n.out.and HYg_n.out⟩
         case rest=>
          obtain⟨Bg,kg,G,sg,heq,hpr,hll,h1,h2,h3,h4,h5⟩:=hcut
          clear HS81 HC81 HR81 HBv_81 HYa_81 HQ
          have HS100:=hid h1
          have HC100:=hid h2
          have HR100:=hid h3
          have HBv_100:=hid h4
          have HYa_100:=hid h5
          have HEq100:=hid heq
          have HPr100:=hid hpr
          have HLl100:=hid hll
          clear h1 h2 h3 h4 h5 heq hpr hll
          generalize wc=w100 at*
          go_wp2_with fail
          refine(accept_any HS100.out hL kORDER).mono ?_
          rintro _ w101 ⟨v,rfl,h1,h2,rfl⟩
          have HS101:=hid h1
          have HR101:=hid (h2.blk HR100.out (by have:=HG.out;omega))
          have HC101:=hid (HC100.out.trans h2)
          have HYa_101:=hid (Stb.chg2 HYa_100.out h2 (by have:=HG.out;omega))
          have HBv_101:=hid (h2.blk HBv_100.out (by have:=HG.out;have:=HGv.out;omega))
          clear h1 h2
          clear HR100 HC100 HS100 HYa_100 HBv_100
          obtain⟨q,hq⟩:∃q,isS kORDER sg=q:=⟨_,rfl⟩
          rw[hq]
          have HQ:=hid hq
          clear hq
          go_upto_if 94 with fail
          go_cut [] from 95 to 102 (fun wx=> ∃(Bo:Option Addr) (ko:Nat) (O:List Ord') (so:Ps),ordsP posP sg=(O,so)∧O.length≤20001∧so.r.length≤sg.r.length∧PsAt 68 P A c L w0 wx so∧Chg P w wx∧Blk wx g0 40 sC∧Blk wx gv 40 (sC (k:=5) (i:= .slice B I.length k) (f:= .slice Af fs.length kf) (o:=op) (q:=tb) (m:=nm) (x:=ix) (y:=vk) (z:=vi) (u:=vt) (e:= .slice A1 k1 c1) (g:= .slice Bg G.length kg) (r:= .slice Bo O.length ko))∧Stb (Sx g0 gv) wx (fun w2=> (((Lst Phiitm 9 w2 B I∧Lst Phisrc 2 w2 Af fs)∧ExV w2 (.mk ⟨op,tb,nm,ix,vk,vi,vt⟩ ks) A1 k1 c1)∧Lst Phiex 8 w2 Bg G)∧Lst Phiord 2 w2 Bo O))
          case first=>
           cases q
           ·skip
            have e:(accP kORDER sg).2=sg:=by have hb:=HQ.out;simp[accP,hb]
            rw[e]at HS101
            clear e
            go_wp2_with fail
            go_meet
            exact⟨none,0,[],sg,by unfold ordsP ifM;rw[HQ.out,if_neg (by simp)];rfl,by simp,Nat.le_refl _,HS101.out,HC101.out,HR101.out,HBv_101.out,HYa_101.out.and (fun w2 _ _ j a h=>by cases h)⟩
           ·skip
            have e:(accP kORDER sg).2=sg.next:=by have hb:=HQ.out;simp[accP,hb]
            rw[e]at HS101
            clear e
            have hnx:=next_len sg
            go_wp2_with fail
            refine(need_any (HS101.out.ext ((Ext.refl w101).alloc (.cells #[.string kBY] 9))) hL kBY w101.heap.size (by simp[World.cell?_alloc_new])).mono ?_
            rintro _ w102 ⟨v,rfl,h1,h2,_⟩
            replace h2:Chg P w101 w102:=(Chg.of ((Ext.refl w101).alloc (.cells #[.string kBY] 9))).trans h2
            have HS102:=hid h1
            have HR102:=hid (h2.blk HR101.out (by have:=HG.out;omega))
            have HC102:=hid (HC101.out.trans h2)
            have HYa_102:=hid (Stb.chg2 HYa_101.out h2 (by have:=HG.out;omega))
            have HBv_102:=hid (h2.blk HBv_101.out (by have:=HG.out;have:=HGv.out;omega))
            clear h1 h2
            clear HR101 HC101 HS101 HYa_101 HBv_101
            have hnb:=need_len kBY sg.next
            obtain⟨sb,hsb⟩:∃x,(needP kBY sg.next)=x:=⟨_,rfl⟩
            rw[hsb]at HS102 hnb
            have HSb:=hid hsb
            clear hsb
            have HLt:=hid (fwd_list (fwd_ordp) sb)
            have HLn:=hid (list_len (fwd_ordp) sb)
            have HLs:=hid HS102.out.le
            have z9:=HBv_102.out.cell_some (i:=19) rfl
            have y9:=HBv_102.out.frozen 19
            go_wp2_with fail
            refine(list_ord 108 entK_ord (ordP posP) (fwd_ordp) HS102.out hL (fun W st hS hl=>order_rd hE hS hL)).mono ?_
            rintro _ w103 ⟨v,rfl,h1,h2,Bo,ko,rfl,h3⟩
            clear z9 y9
            obtain⟨O,hG⟩:∃x,(listP (ordP posP) sb).1=x:=⟨_,rfl⟩
            obtain⟨so,hsg⟩:∃x,(listP (ordP posP) sb).2=x:=⟨_,rfl⟩
            rw[hG]at h3 HLn ⊢
            rw[hsg]at h1 HLt
            have HGe:Hid (ordsP posP sg=(O,so)):=by
             unfold Hid
             unfold ordsP ifM
             rw[HQ.out,if_pos rfl]
             show listP (ordP posP) (needP kBY _)=_
             rw[HSb.out]
             exact Prod.ext hG hsg
            clear hG hsg
            have HS103:=hid h1
            have HR103:=hid (h2.blk HR102.out (by have:=HG.out;omega))
            have HC103:=hid (HC102.out.trans h2)
            have HYa_103:=hid (Stb.chg2 HYa_102.out h2 (by have:=HG.out;omega))
            have HBv_103:=hid (h2.blk HBv_102.out (by have:=HG.out;have:=HGv.out;omega))
            have HYg_103:Hid (Stb (Sx g0 gv) w103 fun w2=>Lst Phiord 2 w2 Bo O):=h3.weak fun q _ hq=>⟨Nat.le_trans HR102.out.lt hq,by have h8:=HBv_102.out.lt;have h9:w102.heap.size≤q:=hq;omega⟩
            clear h1 h2 h3
            clear HR102 HC102 HS102 HYa_102 HBv_102
            have z9:=HBv_103.out.cell_some (i:=19) rfl
            have y9:=HBv_103.out.frozen 19
            have hgr:=set_grown w103 gv 19 (.slice Bo O.length ko)
            have HSn:=hid (HS103.out.grown hgr (fun q hq=>by have:=Option.some.inj hq;have:=HG.out;have:=HGv.out;omega))
            have HRn:=hid (HR103.out.grown hgr (fun e=>by have:=Option.some.inj e;have:=HGv.out;omega))
            have HCn:=hid (HC103.out.own hgr (fun q hq=>by have:=Option.some.inj hq;have:=HGv.out;rw[HN0.out];omega))
            have HBn:=hid (HBv_103.out.set 19 (.slice Bo O.length ko))
            have HYa_n:=hid (Stb.grown HYa_103.out hgr (fun q hq e=>hq.2 (Option.some.inj e).symm))
            have HYg_n:=hid (Stb.grown HYg_103.out hgr (fun q hq e=>hq.2 (Option.some.inj e).symm))
            clear hgr
            go_wp2_with fail
            go_meet
            exact⟨Bo,ko,O,so,HGe.out,by have:=HLn.out;have:=HLs.out;omega,by have:=HLt.out;omega,HSn.out,HCn.out,HRn.out,HBn.out,HYa_n.out.and HYg_n.out⟩
          case rest=>
           obtain⟨Bo,ko,O,so,heq,hpr,hll,h1,h2,h3,h4,h5⟩:=hcut
           clear HS101 HC101 HR101 HBv_101 HYa_101 HQ
           have HS120:=hid h1
           have HC120:=hid h2
           have HR120:=hid h3
           have HBv_120:=hid h4
           have HYa_120:=hid h5
           have HEq120:=hid heq
           have HPr120:=hid hpr
           have HLl120:=hid hll
           clear h1 h2 h3 h4 h5 heq hpr hll
           generalize wc=w120 at*
           go_wp2_with fail
           refine(accept_any HS120.out hL kLIMIT).mono ?_
           rintro _ w121 ⟨v,rfl,h1,h2,rfl⟩
           have HS121:=hid h1
           have HR121:=hid (h2.blk HR120.out (by have:=HG.out;omega))
           have HC121:=hid (HC120.out.trans h2)
           have HYa_121:=hid (Stb.chg2 HYa_120.out h2 (by have:=HG.out;omega))
           have HBv_121:=hid (h2.blk HBv_120.out (by have:=HG.out;have:=HGv.out;omega))
           clear h1 h2
           clear HR120 HC120 HS120 HYa_120 HBv_120
           obtain⟨q,hq⟩:∃q,isS kLIMIT so=q:=⟨_,rfl⟩
           rw[hq]
           have HQ:=hid hq
           clear hq
           go_upto_if 104 with fail
           go_cut [] from 105 to 107 (fun wx=> ∃(l:Int) (sl:Ps),limP posP so=(l,sl)∧I64 l∧sl.r.length≤so.r.length∧PsAt 68 P A c L w0 wx sl∧Chg P w wx∧Blk wx g0 40 sC∧Blk wx gv 40 (sC (k:=5) (i:= .slice B I.length k) (f:= .slice Af fs.length kf) (o:=op) (q:=tb) (m:=nm) (x:=ix) (y:=vk) (z:=vi) (u:=vt) (e:= .slice A1 k1 c1) (g:= .slice Bg G.length kg) (r:= .slice Bo O.length ko) (l:=l))∧Stb (Sx g0 gv) wx (fun w2=> ((((Lst Phiitm 9 w2 B I∧Lst Phisrc 2 w2 Af fs)∧ExV w2 (.mk ⟨op,tb,nm,ix,vk,vi,vt⟩ ks) A1 k1 c1)∧Lst Phiex 8 w2 Bg G)∧Lst Phiord 2 w2 Bo O)))
           case first=>
            cases q
            ·skip
             have e:(accP kLIMIT so).2=so:=by have hb:=HQ.out;simp[accP,hb]
             rw[e]at HS121
             clear e
             go_wp2_with fail
             go_meet
             exact⟨0,so,by unfold limP ifM;rw[HQ.out,if_neg (by simp)];rfl,i64_0,Nat.le_refl _,HS121.out,HC121.out,HR121.out,HBv_121.out,HYa_121.out⟩
            ·skip
             have e:(accP kLIMIT so).2=so.next:=by have hb:=HQ.out;simp[accP,hb]
             rw[e]at HS121
             clear e
             have hnx:=next_len so
             have HNl:=hid (pos_le HS121.out hL)
             have z9:=HBv_121.out.cell_some (i:=20) rfl
             have y9:=HBv_121.out.frozen 20
             go_wp2_with fail
             refine(positive_tok HS121.out hL hE).mono ?_
             rintro _ w122 ⟨v,rfl,h1,h2,rfl⟩
             clear z9 y9
             obtain⟨l,hl⟩:∃x,(posP so.next).1=x:=⟨_,rfl⟩
             obtain⟨sl,hsl⟩:∃x,(posP so.next).2=x:=⟨_,rfl⟩
             have hfp:=fwd_pos so.next
             rw[hl]at HNl ⊢
             rw[hsl]at h1 hfp
             have HLe:Hid (limP posP so=(l,sl)):=by
              unfold Hid limP ifM
              rw[HQ.out,if_pos rfl]
              exact Prod.ext hl hsl
             clear hl hsl
             have HS122:=hid h1
             have HR122:=hid (h2.blk HR121.out (by have:=HG.out;omega))
             have HC122:=hid (HC121.out.trans h2)
             have HYa_122:=hid (Stb.chg2 HYa_121.out h2 (by have:=HG.out;omega))
             have HBv_122:=hid (h2.blk HBv_121.out (by have:=HG.out;have:=HGv.out;omega))
             clear h1 h2
             clear HR121 HC121 HS121 HYa_121 HBv_121
             have z9:=HBv_122.out.cell_some (i:=20) rfl
             have y9:=HBv_122.out.frozen 20
             have hgr:=set_grown w122 gv 20 (.int .i64 l)
             have HSn:=hid (HS122.out.grown hgr (fun q hq=>by have:=Option.some.inj hq;have:=HG.out;have:=HGv.out;omega))
             have HRn:=hid (HR122.out.grown hgr (fun e=>by have:=Option.some.inj e;have:=HGv.out;omega))
             have HCn:=hid (HC122.out.own hgr (fun q hq=>by have:=Option.some.inj hq;have:=HGv.out;rw[HN0.out];omega))
             have HBn:=hid (HBv_122.out.set 20 (.int .i64 l))
             have HYa_n:=hid (Stb.grown HYa_122.out hgr (fun q hq e=>hq.2 (Option.some.inj e).symm))
             clear hgr
             go_wp2_with fail
             go_meet
             exact⟨l,sl,HLe.out,HNl.out,by omega,HSn.out,HCn.out,HRn.out,HBn.out,HYa_n.out⟩
           case rest=>
            obtain⟨l,sl,heq,hpr,hll,h1,h2,h3,h4,h5⟩:=hcut
            clear HS121 HC121 HR121 HBv_121 HYa_121 HQ
            have HS140:=hid h1
            have HC140:=hid h2
            have HR140:=hid h3
            have HBv_140:=hid h4
            have HYa_140:=hid h5
            have HEq140:=hid heq
            have HPr140:=hid hpr
            have HLl140:=hid hll
            clear h1 h2 h3 h4 h5 heq hpr hll
            generalize wc=w140 at*
            have HRq:Hid (queryP ex posP andL s=(qS I fs (.mk ⟨op,tb,nm,ix,vk,vi,vt⟩ ks) G O l,sl)):=by
             unfold Hid
             have h2:fromP ex (needP kFROM s1)=((fs,xs),st):=by rw[HV2.out];exact HFe.out
             have h3:condP ex andL xs st=(.mk ⟨op,tb,nm,ix,vk,vi,vt⟩ ks,sw):=by rw[HCd.out,HEq.out]
             exact query_of HIe.out h2 h3 HEq100.out HEq120.out HEq140.out
            have hz9:=HR140.out
            unfold Blk at hz9
            go_upto_region 31 with fail
            apply wp_region_lit
            refine wpList_load_blk rfl 40 (.tmp 3) rfl gv rfl 40 _ _ HBv_140.out Tryz.underlying40 rfl (by kernel_rfl) ?_
            refine wpList_store_rowTo rfl 40 (.tmp 2) (.tmp 108) rfl rfl g0 #[.int .i64 5,.string ⟨#[]⟩,.slice none 0 0,.slice none 0 0,.slice none 0 0,.slice none 0 0,.slice none 0 0,.slice none 0 0,.slice B I.length k,.slice Af fs.length kf,.int .i64 op,.string tb,.string nm,.int .i64 ix,.int .i64 vk,.int .i64 vi,.string vt,.slice A1 k1 c1,.slice Bg G.length kg,.slice Bo O.length ko,.int .i64 l,.string ⟨#[]⟩] rfl rfl 40 _ hz9 (by kernel_rfl) (by kernel_rfl) (by kernel_rfl) ?_
            apply wpList_nil
            simp only[Act.put,List.setIfInBounds_toArray,List.set_cons_succ,List.set_cons_zero]
            go_wp2_with fail
            have HGr:=hid (row_grown w140 g0 #[.int .i64 5,.string ⟨#[]⟩,.slice none 0 0,.slice none 0 0,.slice none 0 0,.slice none 0 0,.slice none 0 0,.slice none 0 0,.slice B I.length k,.slice Af fs.length kf,.int .i64 op,.string tb,.string nm,.int .i64 ix,.int .i64 vk,.int .i64 vi,.string vt,.slice A1 k1 c1,.slice Bg G.length kg,.slice Bo O.length ko,.int .i64 l,.string ⟨#[]⟩])
            have HZr:=hid (row_blk HR140.out (sC (k:=5) (i:= .slice B I.length k) (f:= .slice Af fs.length kf) (o:=op) (q:=tb) (m:=nm) (x:=ix) (y:=vk) (z:=vi) (u:=vt) (e:= .slice A1 k1 c1) (g:= .slice Bg G.length kg) (r:= .slice Bo O.length ko) (l:=l)))
            refine bodyPost_ret (v:= .agg #[.int .i64 5,.string ⟨#[]⟩,.slice none 0 0,.slice none 0 0,.slice none 0 0,.slice none 0 0,.slice none 0 0,.slice none 0 0,.slice B I.length k,.slice Af fs.length kf,.int .i64 op,.string tb,.string nm,.int .i64 ix,.int .i64 vk,.int .i64 vi,.string vt,.slice A1 k1 c1,.slice Bg G.length kg,.slice Bo O.length ko,.int .i64 l,.string ⟨#[]⟩]) ?_ ?_ ?_
            ·exact results_cell_row (p:=2) (ty:=40) rfl _ _ g0 40 _ _ _ (by rfl) HZr.out Tryz.underlying40 rfl (by kernel_rfl)
            ·rfl
            ·skip
             exact⟨_,rfl,by rw[HRq.out];exact HS140.out.grown HGr.out (fun q hq=>by have:=HG.out;have:=Option.some.inj hq;omega),HC140.out.own HGr.out (fun q hq=>by have:=Option.some.inj hq;rw[HN0.out];omega),by rw[HRq.out,HN0.out];exact⟨⟨⟨none,0,0⟩,⟨none,0,0⟩,⟨none,0,0⟩,⟨none,0,0⟩,⟨none,0,0⟩,⟨none,0,0⟩,⟨B,I.length,k⟩,⟨Af,fs.length,kf⟩,⟨A1,k1,c1⟩,⟨Bg,G.length,kg⟩,⟨Bo,O.length,ko⟩⟩,rfl,(Stb.weak (Stb.grown HYa_140.out HGr.out (fun q hq e=>by have:=Option.some.inj e;have:=hq.1;omega)) (fun q _ hq=>Nat.le_of_succ_le hq.1)).imp fun w2 h=>StW.of (query_st (by have:=HIl.out;omega) (by have:=HLf.out;omega) (by have:=HPr100.out;omega) (by have:=HPr120.out;omega) HPr140.out h.1.1.1.1 h.1.1.1.2 h.1.1.2 h.1.2 h.2) rfl rfl⟩⟩
     ·skip
      have hor:qc=true∨qj=true:=by have:=HQa.out;revert this;cases qc<;>cases qj<;>simp
      have hk:st.hd.kind≠0:=by
       intro e
       have e1:=HQc.out
       have e2:=HQj.out
       rcases hor with h|h
       ·rw[h]at e1;simp[isS,e]at e1
       ·rw[h]at e2;simp[isS,e]at e2
      have hln:st.next.r.length+1=st.r.length:=by
       rcases hor with h|h
       ·exact isS_len (t:=yCm) (by rw[HQc.out,h])
       ·exact isS_len (t:=kJOIN) (by rw[HQj.out,h])
      go_wp2_with fail
      refine(is_any HS41.out hL kJOIN).mono ?_
      rintro _ w42 ⟨rfl,hx⟩
      rw[HQj.out]
      have HR42:=hid (HR41.out.ext hx)
      have HC42:=hid (HC41.out.ext hx)
      have HS42:=hid (HS41.out.ext hx)
      have HBv_42:=hid (HBv_41.out.ext hx)
      have HI42:=hid (Stb.ext HI41.out hx)
      have HNs42:=hid (Nat.le_trans HNs41.out (hx).size)
      have HF42:=hid (HF41.out.ext hx)
      clear hx
      clear HR41 HC41 HS41 HBv_41 HI41 HNs41 HF41
      have p1:=HS42.out.blk.cell_some (i:=1) rfl
      have f1:=HS42.out.blk.frozen 1
      have HP2:=hid (HS42.out.next hL hk)
      have hi:=HS42.out.lti
      have hcc:=(Chg.refl P w42).set 1 (.int .i64 (((L.length-st.r.length:Nat):Int)+1))
      have HR43:=hid (hcc.blk HR42.out (by have:=HG.out;omega))
      have HC43:=hid (HC42.out.trans hcc)
      have HBv_43:=hid (hcc.blk HBv_42.out (by have:=HG.out;have:=HGv.out;omega))
      have HI43:=hid (Stb.grown HI42.out hcc (fun q hq e=>by have:=Option.some.inj e;have:=HG.out;have:=hq.1;omega))
      have HNs43:=hid (Nat.le_trans HNs42.out (hcc).size)
      have HF43:=hid (HF42.out.chg hcc HPn.out)
      have HS43:=hid HP2.out
      clear hcc HP2
      clear HR42 HC42 HS42 HBv_42 HI42 HNs42 HF42
      obtain⟨ip,hip⟩:∃n,L.length-st.r.length=n:=⟨_,rfl⟩
      rw[hip]at p1 hi HS43 HR43 HC43 HBv_43 HI43 HNs43 HF43
      have HIp:=hid hip
      clear hip
      go_upto_region 10 with fail
      clear p1 f1
      generalize w42.setCell ⟨P,1,none⟩ (.int .i64 ((ip:Int)+1))=w43 at*
      obtain⟨⟨tb,al⟩,hsr⟩:∃x,(srcP st.next).1=x:=⟨_,rfl⟩
      obtain⟨sr,hsr2⟩:∃x,(srcP st.next).2=x:=⟨_,rfl⟩
      have hnm:=source_rd (HS43.out.ext (Ext.refl w43).drew) hL
      rw[hsr,hsr2]at hnm
      have HSr:Hid (srcP st.next=(⟨tb,al⟩,sr)):=Prod.ext hsr hsr2
      have hsl2:=fwd_src st.next
      rw[hsr2]at hsl2
      clear hsr hsr2
      have HNm:Hid (Calls Tryz.prog 104 #[.pointer (some ⟨P,0,none⟩)] w43.drew fun e w3=>e= .returned (.agg #[.string tb,.string al])∧(tb.size≤20000∧al.size≤20000)∧PsAt 68 P A c L w0 w3 sr∧Chg P w43 w3):=hnm.mono fun e w3 ⟨v,he,h5,h6,hv,hz⟩=>⟨by rw[he,hv],hz,h5,(Chg.of (Ext.refl w43).drew).trans h6⟩
      clear hnm
      have HVf:Hid ((fs).length≤20001):=by unfold Hid;first|omega|simp
      have z1:=HBv_43.out.cell_some (i:=9) rfl
      have z1d:=(HBv_43.out.ext (Ext.refl w43).drew).cell_some (i:=9) rfl
      go_upto_region 10 with fail
      go_cut [] from 42 to 47 (fun wx=> ∃(A7:Option Addr) (c7:Nat),(tb.size≤20000∧al.size≤20000)∧PsAt 68 P A c L w0 wx sr∧Chg P w wx∧Blk wx g0 40 sC∧Blk wx gv 40 (sC (k:=5) (i:= .slice B I.length k) (f:= .slice A7 ((fs).length+1) c7))∧Stb (fun q=>g0+1≤q∧q≠gv∧q<n1) wx (fun w2=>Lst Phiitm 9 w2 B I)∧n1≤wx.heap.size∧∃cf cx,FrW n1 wx (.slice A7 ((fs).length+1) c7) (.slice Ax xs.length kx) cf cx ((fs)++ [⟨tb,al⟩]) xs)
      case first=>
       go_region_law (first
        |(refine step_append_any _ rfl (.tmp 43) (.tmp 46) 33 rfl n1 86 iq _ 2 32 Tryz.underlying33 hiq hq0 hq1 hq2 rfl (by decide) _ (fs).length _ rfl HF4.out.f.own _ _ 1 1 [.string tb,.string al] rfl (readsN w3 [.string tb,.string al] 86 2 rfl) (by simp[Value.oneCell']) (by have:=HVf.out;unfold maxLen;omega) (by have:=HVf.out;omega) HNs4.out ?_;intro v7 w7 hown7 hgr7 hblk7;obtain⟨A7,c7,rfl⟩:=own_slice hown7;have hge7:=HF4.out.gef;have hb7:=HBv_4.out.grown hgr7 (fun e=>by have:=hge7 gv e.symm;have:=HGn.out;omega);have z9:=hb7.cell_some (i:=9) rfl;have y9:=hb7.frozen 9;clear hb7)
        |(go_simp;go_at_call 104;(with_reducible refine HNm.out.mono ?_);rintro _ w3 ⟨rfl,hz,h5,h6⟩;have HS3:=hid h5;have HR3:=hid (h6.blk HR43.out (by have:=HG.out;omega));have HC3:=hid (HC43.out.trans h6);have HBv_3:=hid (h6.blk HBv_43.out (by have:=HG.out;have:=HGv.out;omega));have HI3:=hid (Stb.grown HI43.out h6 (fun q hq e=>by have:=Option.some.inj e;have:=HG.out;have:=hq.1;omega));have HNs3:=hid (Nat.le_trans HNs43.out (h6).size);have HF3:=hid (HF43.out.chg h6 HPn.out);have hxa:=(Ext.refl w3).alloc (.cells #[.string tb,.string al] 86);have HR4:=hid (HR3.out.ext hxa);have HC4:=hid (HC3.out.ext hxa);have HS4:=hid (HS3.out.ext hxa);have HBv_4:=hid (HBv_3.out.ext hxa);have HI4:=hid (Stb.ext HI3.out hxa);have HNs4:=hid (Nat.le_trans HNs3.out (hxa).size);have HF4:=hid (HF3.out.ext hxa);have z3:=HBv_3.out.cell_some (i:=9) rfl;have z4:=HBv_4.out.cell_some (i:=9) rfl;have HZt:=hid hz;clear hxa h5 h6 hz))
       all_goals
        have HF5:=hid (HF4.out.pushf (y:=⟨tb,al⟩) rfl hown7 hgr7 hblk7 ⟨rfl,HZt.out⟩)
        have HR5:=hid (HR4.out.grown hgr7 (fun e=>by have:=hge7 g0 e.symm;have:=HGr0.out;omega))
        have HC5:=hid (HC4.out.own hgr7 (fun q e=>by have:=hge7 q e;have:=HGr0.out;rw[HN0.out];omega))
        have HS5:=hid (HS4.out.grown hgr7 (fun q e=>Nat.lt_of_lt_of_le HPn.out (hge7 q e)))
        have HBv_5:=hid (HBv_4.out.grown hgr7 (fun e=>by have:=hge7 gv e.symm;have:=HGn.out;omega))
        have HI5:=hid (Stb.grown HI4.out hgr7 (fun q hq e=>by have:=hge7 q e;have:=hq.2.2;omega))
        have HNs5:=hid (Nat.le_trans HNs4.out (World.grownBy.size hgr7))
        have hgs:=set_grown w7 gv 9 (.slice A7 ((fs).length+1) c7)
        have HR6:=hid (HR5.out.grown hgs (fun e=>by have:=Option.some.inj e;have:=HGv.out;omega))
        have HC6:=hid (HC5.out.own hgs (fun q e=>by have:=Option.some.inj e;have:=HGv.out;rw[HN0.out];omega))
        have HS6:=hid (HS5.out.grown hgs (fun q e=>by have:=Option.some.inj e;have:=HG.out;have:=HGv.out;omega))
        have HI6:=hid (Stb.grown HI5.out hgs (fun q hq e=>by have:=Option.some.inj e;have:=hq.2.1;omega))
        have HNs6:=hid (Nat.le_trans HNs5.out (World.grownBy.size hgs))
        have HF6:=hid (HF5.out.turn hgs (fun q e=>by have:=Option.some.inj e;have:=HGn.out;omega))
        have HBv_6:=hid (HBv_5.out.set 9 (.slice A7 ((fs).length+1) c7))
        clear hown7 hgr7 hblk7 hge7 hgs
        go_wp2_with fail
        go_meet
        exact⟨A7,c7,HZt.out,HS6.out,HC6.out,HR6.out,HBv_6.out,HI6.out,HNs6.out,_,_,HF6.out⟩
      case rest=>
       obtain⟨Af,kf,hzz,h1,h2,h3,h4,h5,h6,cf,cx,h7⟩:=hcut
       clear hzz HNm HVf z1 z1d
       clear HR43 HC43 HS43 HBv_43 HI43 HNs43 HF43
       obtain⟨fs2,hfs2⟩:∃x,(fs)++ [⟨tb,al⟩]=x:=⟨_,rfl⟩
       have hl2:(fs).length+1=fs2.length:=by rw[←hfs2];simp
       rw[hfs2,hl2]at h7
       rw[hl2]at h4
       have Hfs2:=hid hfs2
       have HLfs2:=hid hl2
       clear hfs2 hl2
       have HS50:=hid h1
       have HC50:=hid h2
       have HR50:=hid h3
       have HBv_50:=hid h4
       have HI50:=hid h5
       have HNs50:=hid h6
       have HF50:=hid h7
       clear h1 h2 h3 h4 h5 h6 h7
       generalize wc=w50 at*
       have HSl3:=hid hsl2
       clear hsl2
       cases qj
       ·skip
        obtain rfl:qc=true:=by rcases hor with h|h;exact h;cases h
        have HG2:Hid (fromGo ex m fs2 xs sr=FR):=by
         have:=HG1.out
         rw[HQc.out,if_pos rfl,HSr.out]at this
         unfold Hid
         rw[←Hfs2.out]
         exact this
        go_wp2_with fail
        exact⟨⟨m,fs2,xs,sr,Af,kf,Ax,kx,rfl,HG2.out,by have:=HSl3.out;omega,by have:=HSl3.out;omega,by have:=HSl3.out;have:=HLfs2.out;omega,by have:=HSl3.out;omega,HS50.out,HC50.out,HR50.out,HBv_50.out,HI50.out,HNs50.out,_,_,HF50.out⟩,by rw[HS50.out.posOf,HMs.out];have:=HSl3.out;have:=hL.len;omega⟩
       ·skip
        have HQc2:Hid (isS yCm st=false):=by
         unfold Hid
         cases hc:isS yCm st with
         |false=>rfl
         |true=>have:=not_both hc;rw[HQj.out]at this;cases this
        have hno:=need_len kON sr
        go_wp2_with fail
        refine(need_any (HS50.out.ext ((Ext.refl w50).alloc (.cells #[.string kON] 9))) hL kON w50.heap.size (by simp[World.cell?_alloc_new])).mono ?_
        rintro _ w51 ⟨v,rfl,h1,h2,_⟩
        replace h2:Chg P w50 w51:=(Chg.of ((Ext.refl w50).alloc (.cells #[.string kON] 9))).trans h2
        have HS51:=hid h1
        have HR51:=hid (h2.blk HR50.out (by have:=HG.out;omega))
        have HC51:=hid (HC50.out.trans h2)
        have HBv_51:=hid (h2.blk HBv_50.out (by have:=HG.out;have:=HGv.out;omega))
        have HI51:=hid (Stb.grown HI50.out h2 (fun q hq e=>by have:=Option.some.inj e;have:=HG.out;have:=hq.1;omega))
        have HNs51:=hid (Nat.le_trans HNs50.out (h2).size)
        have HF51:=hid (HF50.out.chg h2 HPn.out)
        clear h1 h2
        clear HR50 HC50 HS50 HBv_50 HI50 HNs50 HF50
        go_wp2_with fail
        refine(hr _ _ HS51.out (by have:=HSl3.out;omega)).mono ?_
        rintro _ w52 ⟨v,rfl,h1,h2,A1,k1,c1,rfl,h3⟩
        obtain⟨e1,he1⟩:∃e,(ex (needP kON sr)).1=e:=⟨_,rfl⟩
        obtain⟨st1,hst1⟩:∃e,(ex (needP kON sr)).2=e:=⟨_,rfl⟩
        have hfe:=hfw (needP kON sr)
        rw[hst1]at h1 hfe
        rw[he1]at h3 ⊢
        have HEx:Hid (ex (needP kON sr)=(e1,st1)):=Prod.ext he1 hst1
        have HFe2:=hid hfe
        clear he1 hst1 hfe
        have HS52:=hid h1
        have HR52:=hid (h2.blk HR51.out (by have:=HG.out;omega))
        have HC52:=hid (HC51.out.trans h2)
        have HBv_52:=hid (h2.blk HBv_51.out (by have:=HG.out;have:=HGv.out;omega))
        have HI52:=hid (Stb.grown HI51.out h2 (fun q hq e=>by have:=Option.some.inj e;have:=HG.out;have:=hq.1;omega))
        have HNs52:=hid (Nat.le_trans HNs51.out (h2).size)
        have HF52:=hid (HF51.out.chg h2 HPn.out)
        have HE52:=hid (HF51.out.fine (Nat.le_refl _) HNs51.out h3)
        clear h1 h2 h3
        clear HR51 HC51 HS51 HBv_51 HI51 HNs51 HF51
        obtain⟨⟨op,tb,nm,ix,vk,vi,vt⟩,ks⟩:=e1
        unfold Nd.val
        simp only[Ex.d]
        have hxa:=(Ext.refl w52).alloc (.cells #[.int .i64 op,.string tb,.string nm,.int .i64 ix,.int .i64 vk,.int .i64 vi,.string vt,.slice A1 k1 c1] 37)
        have HR61:=hid (HR52.out.ext hxa)
        have HC61:=hid (HC52.out.ext hxa)
        have HS61:=hid (HS52.out.ext hxa)
        have HBv_61:=hid (HBv_52.out.ext hxa)
        have HI61:=hid (Stb.ext HI52.out hxa)
        have HNs61:=hid (Nat.le_trans HNs52.out (hxa).size)
        have HF61:=hid (HF52.out.ext hxa)
        have HE61:=hid (Stb.ext HE52.out hxa)
        clear hxa
        have HXl:Hid ((xs).length≤20002):=by unfold Hid;omega
        go_wp2_with (at_builtin;refine wpList_append_any _ rfl (.tmp 53) (.tmp 56) 27 rfl n1 37 iz _ 8 104 Tryz.underlying27 hiz hz0 hz1 hz2 rfl (by decide) _ (xs).length _ rfl HF61.out.x.own _ _ 1 1 (eC op tb nm ix vk vi vt A1 k1 c1) rfl (readsN w52 (eC op tb nm ix vk vi vt A1 k1 c1) 37 8 rfl) (by simp[Value.oneCell']) (by have:=HXl.out;unfold maxLen;omega) (by have:=HXl.out;omega) HNs61.out ?_;intro v7 w7 hown7 hgr7 hblk7;obtain⟨A7,c7,rfl⟩:=own_slice hown7)
        have HF62:=hid (HF61.out.pushx (y:=(.mk ⟨op,tb,nm,ix,vk,vi,vt⟩ ks)) rfl hown7 hgr7 hblk7 (HE61.out.imp fun w2 h=>⟨A1,k1,c1,rfl,h⟩))
        have hge7:=HF61.out.gex
        have HR62:=hid (HR61.out.grown hgr7 (fun e=>by have:=hge7 g0 e.symm;have:=HGr0.out;omega))
        have HC62:=hid (HC61.out.own hgr7 (fun q e=>by have:=hge7 q e;have:=HGr0.out;rw[HN0.out];omega))
        have HS62:=hid (HS61.out.grown hgr7 (fun q e=>Nat.lt_of_lt_of_le HPn.out (hge7 q e)))
        have HBv_62:=hid (HBv_61.out.grown hgr7 (fun e=>by have:=hge7 gv e.symm;have:=HGn.out;omega))
        have HI62:=hid (Stb.grown HI61.out hgr7 (fun q hq e=>by have:=hge7 q e;have:=hq.2.2;omega))
        have HNs62:=hid (Nat.le_trans HNs61.out (World.grownBy.size hgr7))
        clear hown7 hgr7 hblk7 hge7
        obtain⟨xs2,hxs2⟩:∃x,(xs)++ [(.mk ⟨op,tb,nm,ix,vk,vi,vt⟩ ks)]=x:=⟨_,rfl⟩
        have hl2:(xs).length+1=xs2.length:=by rw[←hxs2];simp
        rw[hxs2]at HF62
        rw[hl2]at HF62 ⊢
        have HG2:Hid (fromGo ex m fs2 xs2 st1=FR):=by
         have:=HG1.out
         rw[HQc2.out,HQj.out,if_neg (by simp),if_pos rfl,HSr.out]at this
         simp only[HEx.out,Hfs2.out]at this
         rw[hxs2]at this
         exact this
        exact⟨⟨m,fs2,xs2,st1,Af,kf,A7,c7,rfl,HG2.out,by have:=HSl3.out;have:=HFe2.out;omega,by have:=HSl3.out;have:=HFe2.out;omega,by have:=HSl3.out;have:=HFe2.out;have:=HLfs2.out;omega,by have:=HSl3.out;have:=HFe2.out;omega,HS62.out,HC62.out,HR62.out,HBv_62.out,HI62.out,HNs62.out,_,_,HF62.out⟩,by rw[HS62.out.posOf,HMs.out];have:=HSl3.out;have:=HFe2.out;have:=hL.len;omega⟩
end
end
end Go.Proofs.YtjigcpfjhfoheaaGreatDoor
