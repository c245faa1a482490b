/- Walk: Script, over what it calls; What Statement, Expression and Script return; What Statement and Script return on a text without CREATE, INSERT and UPDATE; Walk: awake, over the few kinds of its texts; The wrap of a row that lis. -/
import Derived.Test.YtjigcpfjhfoheaaGreatDoorEci
import Derived.Test.YtjigcpfjhfoheaaGreatDoorEbj
import Derived.Test.YtjigcpfjhfoheaaGreatDoorEch
import Derived.Test.YtjigcpfjhfoheaaGreatDoorEcf
import Derived.Test.YtjigcpfjhfoheaaGreatDoorEca
import Derived.Test.YtjigcpfjhfoheaaGreatDoorEbi
import Derived.Test.YtjigcpfjhfoheaaGreatDoorEbg
import Derived.Test.YtjigcpfjhfoheaaGreatDoorEag
import Derived.Test.YtjigcpfjhfoheaaGreatDoorEba
import Derived.Handed
import Derived.SizedLaws
import Derived.Shelf.Vars
import Derived.Stop.LaidErr
import Derived.Lib.LaidTab
import Derived.LaidMore
import Derived.Stop.Joined
import Derived.MakeChecks
import Derived.Test.YtjigcpfjhfoheaaGreatDoorRows
namespace Go.Proofs.YtjigcpfjhfoheaaGreatDoor
open Go.RowKit
set_option maxHeartbeats 4000000
set_option maxRecDepth 100000
set_option linter.unusedVariables false
set_option linter.unusedSimpArgs false
section
open Lx (Tk)
theorem infoL_st:(Tryz.prog.info? 40).map (fun i=> (i.zero,i.size,i.bytes))=some (some (.agg #[.int .i64 0,.string ⟨#[]⟩,.slice none 0 0,.slice none 0 0,.slice none 0 0,.slice none 0 0,.slice none 0 0,.slice none 0 0,.slice none 0 0,.slice none 0 0,.int .i64 0,.string ⟨#[]⟩,.string ⟨#[]⟩,.int .i64 0,.int .i64 0,.int .i64 0,.string ⟨#[]⟩,.slice none 0 0,.slice none 0 0,.slice none 0 0,.int .i64 0,.string ⟨#[]⟩]),22,392):=by kernel_rfl
def Phist (x:St) (cs:List Value) (w:World):Prop:=∃a,cs=x.cells a∧StW w x a
theorem bsS {ops:Array Oper} {rest:List Oper} {o:Oper} {a:Act} {w:World} {Q:Exit→Act→World→Prop} {x:Operand} (hgd:o.guard=none) (ho:o.op= .buildSlice 49 1 #[(0,x)]) (X:St) (b:SA) (hx:a.eval x= .agg (X.cells b).toArray)
  (h:wpList Tryz.prog ops Q rest (a.put o.dst (.slice (some ⟨w.heap.size,0,none⟩) 1 1)) (w.alloc (.cells (X.cells b).toArray 40))):wpList Tryz.prog ops Q (o::rest) a w:=by
 obtain⟨ie,hie,h0,h1,h2⟩:=l_info infoL_st
 refine wpList_buildSlice hgd _ 40 1 _ ho _ ie _ rfl hie h0 (by rw[h1];decide) (by rw[h1];decide) ?_ h
 rw[h1]
 simp only[List.map_toArray,List.map_cons,List.map_nil,hx]
 kernel_rfl
theorem RowS.nil {α:Type} {Φ:α→List Value→World→Prop} {T sz n0:Nat} {w:World} :RowS Φ T sz n0 w (.slice none 0 0) [] []:=⟨rfl,by simp,⟨by simp,.inl ⟨rfl,rfl⟩⟩,fun i a cs h=>by simp at h⟩
theorem st_one (X:St) (a:SA):∀u∈X.cells a,u.oneCell'=true:=List.all_eq_true.1 (by rfl:(X.cells a).all (·.oneCell')=true)
theorem scrGo_succ (stm:M St) (vld:St→Int) (n:Nat) (out:List St) (s:Ps):scrGo stm vld (n+1) out s=if s.hd.kind=0 then .inr out
  else if (needP ySemi (stm s).2).bad=true then .inl ((needP ySemi (stm s).2).hd.pos,2)
  else if vld (stm s).1≠0 then .inl (s.hd.pos,vld (stm s).1)
  else scrGo stm vld n (out++ [(stm s).1]) (needP ySemi (stm s).2):=rfl
theorem need_ok {t:ByteArray} {s:Ps} (h:(needP t s).bad=false):s.bad=false∧(needP t s).r.length<s.r.length:=by
 unfold needP at h ⊢
 split at h
 ·next h1=>
  rw[if_pos h1]
  exact⟨(isS_cons h1).1,by have:=isS_len h1;omega⟩
 ·cases h
def lOf:((Nat×Int) ⊕ List St)→List St×Int×Int
 | .inl q=> ([],(q.1:Int),q.2)
 | .inr l=> (l,0,0)
theorem script_fn (vld:St→Int) (s:ByteArray) (w:World) (hs:s.size≤20000) (hk:Lx.KwAt w)
  (hst:∀(L:List Tk) (P:Nat) (A:Option Addr) (c:Nat) (W:World) (st:Ps),Lx.tokAll s= .ok L→PsAt 68 P A c L w W st→Calls Tryz.prog 29 #[.pointer (some ⟨P,0,none⟩)] W (Ran 68 P A c L w W (stmP (L.length+1) st).2 fun v w'=>ElSt W.heap.size w' (stmP (L.length+1) st).1 v))
  (hva:∀(L:List Tk) (st:Ps) (a:SA) (W:World),Ext w W→Lx.tokAll s= .ok L→st.r=L.drop (L.length-st.r.length)→st.bad=false→(stmP (L.length+1) st).2.bad=false→StW W (stmP (L.length+1) st).1 a→Calls Tryz.prog 31 #[St.val (stmP (L.length+1) st).1 a] W fun r w'=>r= .returned (.int .i64 (vld (stmP (L.length+1) st).1))∧Ext W w'):
  Calls Tryz.prog 20 #[.string s] w fun e w'=>Ext w w'∧∃B k,e= .returned (.tuple #[.slice B (parL vld s).1.length k,.int .i64 (parL vld s).2.1,.int .i64 (parL vld s).2.2])∧(parL vld s).1.length≤20001∧Stb (w.heap.size≤·) w' (fun u=>Lst Phist 22 u B (parL vld s).1):=by
 have hbad:∀a x:Nat,Lx.tokAll s= .bad a x→parL vld s=([],(a:Int),(x:Int)):=fun a x h=>by unfold parL;rw[h]
 have hok:∀L,Lx.tokAll s= .ok L→parL vld s=lOf (scrGo (stmP (L.length+1)) vld (L.length+1) [] ⟨L,false⟩):=fun L h=>by
  unfold parL lOf
  rw[h]
  rfl
 obtain⟨R,hR⟩:∃R,parL vld s=R:=⟨_,rfl⟩
 rw[hR]at hbad hok ⊢
 obtain⟨ie,hie,hi0,hi1,hi2⟩:=l_info infoL_st
 have HSt:=hid hst
 have HVa:=hid hva
 replace hok:=hid hok
 replace hbad:=hid hbad
 clear hst hva hR
 go_enter Tryz.func20,Tryz.ntmps20
 go_wp2_with fail
 refine(begin_tok s w hs hk).mono ?_
 rintro _ w2 ⟨hx2,h|h⟩
 ·obtain⟨a,x,ht,hx0,rfl⟩:=h
  have hxi:¬((x:Int)=0):=by omega
  obtain rfl:=hbad.out a x ht
  clear HSt HVa hok hbad ht
  go_wp2_with fail
  go_ret3
  exact⟨hx2,none,⟨0,rfl⟩,fun u _ _=>lst_nil⟩
 ·obtain⟨L,P,A,c,ht,rfl,hp⟩:=h
  have hL:=tkl_of ht
  have hLl:=hL.len
  have HR:=hid (hok.out L ht)
  have HC:=hid (fun W st=>HSt.out L P A c W st ht)
  have HVb:=hid (fun st a W h1=>HVa.out L st a W h1 ht)
  have HPl:=hid hp.lt
  have HWs:Hid (w.heap.size≤w2.heap.size):=hx2.size
  have HS2:=hid hp
  clear hp HSt HVa hok hbad hx2
  go_upto_region 5 with fail
  go_loopw [8] (fun vv wr=> ∃(m:Nat) (st:Ps) (l:List St) (css:List (List Value)),st.r.length<m∧l.length+st.r.length≤L.length+1∧st.bad=false∧R=lOf (scrGo (stmP (L.length+1)) vld m l st)∧w2.heap.size≤wr.heap.size∧PsAt 68 P A c L w wr st∧RowS Phist 40 22 w2.heap.size wr vv l css) (fun _ wr=>20001-posOf P wr)
  case atStart=>exact⟨_,⟨L,false⟩,[],[],by simp,by simp,rfl,HR.out,Nat.le_refl _,HS2.out,RowS.nil⟩
  case round=>
   obtain⟨m,st,l,css,hm,hll,hnb,hI,hwr,hps,hrow⟩:=hrel
   obtain⟨m,rfl⟩:∃x,m=x+1:=⟨m-1,by omega⟩
   rw[scrGo_succ]at hI
   have HI:=hid hI
   have HRw:=hid hrow
   have HS:=hid hps
   have HMs:Hid (posOf P wr=L.length-st.r.length):=hps.posOf
   have hle0:=hps.le
   have hne0:=hps.ne
   have hsuf:=hid hps.suf
   clear hI hrow hps HR HS2
   generalize wr=w20 at*
   go_wp2_with fail
   refine(has_any HS.out hL 0).mono ?_
   rintro _ w21 ⟨rfl,hx⟩
   replace HS:=hid (HS.out.ext hx)
   replace HRw:=hid (HRw.out.ext hx)
   have hw21:w2.heap.size≤w21.heap.size:=Nat.le_trans hwr hx.size
   clear hx hwr
   cases hk0:hasK 0 st
   ·have hkn:¬st.hd.kind=0:=fun e=>by unfold hasK at hk0;rw[hnb,e]at hk0;cases hk0
    rw[if_neg hkn]at HI
    obtain⟨⟨X,s1⟩,hX⟩:∃x,stmP (L.length+1) st=x:=⟨_,rfl⟩
    have hfw:s1.r.length≤st.r.length:=by
     obtain⟨B,h1,_⟩:=(rdy_stm (L.length+1)).sfx st
     rw[hX]at h1
     have h2:=congrArg List.length h1
     simp only[List.length_append]at h2
     omega
    have HCs:=hid (fun W h=>HC.out W st h)
    have HVc:=hid (fun a W h1 h2=>HVb.out st a W h1 hsuf.out hnb h2)
    rw[hX]at HI HCs HVc
    simp only at HI HCs HVc
    clear hX HC HVb
    obtain⟨b,off,hA,hb,c0,c1,c2⟩:=HS.out.cells
    subst hA
    obtain⟨p0,p1,-⟩:=cls HS.out.blk
    have hi:=HS.out.lti
    have hl1:L.length-st.r.length<L.length:=by omega
    replace HS:=hid (HS.out.ext (Ext.refl w21).drew)
    replace HRw:=hid (HRw.out.ext (Ext.refl w21).drew)
    go_upto_region 6 with fail
    refine wp_region_still_lit (by kernel_rfl) (by kernel_rfl) ?_
    iterate 12 still_step
    refine wpStill_nil ?_
    clear hb c0 c1 c2 p0 p1 hi
    have HW22:Hid (w2.heap.size≤w21.drew.heap.size):=hw21
    clear hw21
    have hw9:({ w21 with drawn:=w21.drawn+1 } :World)=w21.drew:=rfl
    rw[hw9]
    clear hw9
    generalize w21.drew=w22 at*
    go_wp2_with fail
    refine(HCs.out w22 HS.out).mono ?_
    have HPq:=hid HS.out.lt
    have HOl:=hid (fun q hq=> (HRw.out.own.lt q hq).2)
    rintro _ w3 ⟨_,rfl,h1,h2,a1,rfl,h3⟩
    have HS3:=hid h1
    have HF3:=hid h3
    have HG3:Hid (P<w3.heap.size):=h1.lt
    have HRw3:=hid (HRw.out.chg h2 HPl.out)
    have HRw3z:Hid (w2.heap.size≤w3.heap.size):=Nat.le_trans HW22.out h2.size
    clear h1 h2 h3 HCs HRw HS
    unfold St.val
    go_upto_region 8 with (first|(refine Great.wpList_allocTo rfl _ rfl (.pointer (some ⟨_,0,none⟩)) (.cells #[.int .i64 0,.string ⟨#[]⟩,.slice none 0 0,.slice none 0 0,.slice none 0 0,.slice none 0 0,.slice none 0 0,.slice none 0 0,.slice none 0 0,.slice none 0 0,.int .i64 0,.string ⟨#[]⟩,.string ⟨#[]⟩,.int .i64 0,.int .i64 0,.int .i64 0,.string ⟨#[]⟩,.slice none 0 0,.slice none 0 0,.slice none 0 0,.int .i64 0,.string ⟨#[]⟩] 40) (by kernel_rfl) ?_)|(refine stS' rfl rfl rfl (St.cells X a1) rfl rfl (cs:=sC) rfl rfl (by kernel_rfl) ?_))
    have hx:=(Ext.refl w3).alloc (.cells ((St.cells X a1)).toArray 40)
    replace HS3:=hid (HS3.out.ext hx)
    replace HF3:=hid (Stb.ext HF3.out hx)
    replace HRw3:=hid (HRw3.out.ext hx)
    have HV3:=hid (Blk.of_new w3 40 (St.cells X a1))
    have HRw4z:Hid (w2.heap.size≤(w3.alloc (.cells ((St.cells X a1)).toArray 40)).heap.size):=Nat.le_trans HRw3z.out hx.size
    clear hx
    generalize hw:World.alloc _ _=w4
    rw[hw]at HRw4z HS3 HF3 HV3 HRw3
    obtain⟨g8,hg8⟩:∃g,w3.heap.size=g:=⟨_,rfl⟩
    rw[hg8]at HV3 HG3 ⊢
    clear hw hg8
    go_wp2_with fail
    refine(pneed HS3.out hL ySemi).mono ?_
    rintro _ w5 ⟨_,rfl,h1,h2⟩
    have HS5:=hid h1
    have HV5:=hid (h2.blk HV3.out (by have:=HG3.out;omega))
    have HF5:=hid (Stb.chg HF3.out h2 HPq.out)
    have HRw5:=hid (HRw3.out.chg h2 HPl.out)
    have HRw5z:Hid (w2.heap.size≤w5.heap.size):=Nat.le_trans HRw4z.out h2.size
    clear h1 h2 HS3 HV3 HF3 HRw3
    have hnk:=need_ok (t:=ySemi) (s:=s1)
    generalize needP ySemi s1=s2 at*
    obtain⟨b2,off2,hA,hb,c0,c1,c2⟩:=HS5.out.cells
    injection hA with hA
    injection hA with e1 e2
    subst e1 e2
    obtain⟨p0,p1,p2,-⟩:=cls HS5.out.blk
    have hi:=HS5.out.lti
    have hne2:=HS5.out.ne
    have hle2:=HS5.out.le
    have hl2:L.length-s2.r.length<L.length:=by omega
    cases hsb:s2.bad
    ·rw[hsb]at p2 HI
     rw[if_neg (by simp)]at HI
     obtain⟨hn1,hn2⟩:=hnk hsb
     replace HVc:=hid (HVc.out a1 w5 HS5.out.base hn1 HF5.out.now)
     go_wp2_with (first|(refine ldS rfl rfl _ rfl HV5.out rfl ?_))
     refine HVc.out.mono ?_
     rintro _ w6 ⟨rfl,hx6⟩
     have HS6:=hid (HS5.out.ext hx6)
     have HV6:=hid (HV5.out.ext hx6)
     have HF6:=hid (Stb.ext HF5.out hx6)
     have HRw6:=hid (HRw5.out.ext hx6)
     have HRw6z:Hid (w2.heap.size≤w6.heap.size):=Nat.le_trans HRw5z.out hx6.size
     clear HVc hx6 HS5 HV5 HF5 HRw5 p0 p1 p2 c0 c1 c2 hi hb
     by_cases hv:vld X=0
     ·rw[if_neg (by simp[hv])]at HI
      rw[hv]
      have hxa:=(Ext.refl w6).alloc (.cells ((St.cells X a1)).toArray 40)
      have HS7:=hid (HS6.out.ext hxa)
      have HRw7:=hid (HRw6.out.ext hxa)
      have hnew:Stb (fun q=>w2.heap.size≤q∧u8.ownBlock≠some q) (w6.alloc (.cells ((St.cells X a1)).toArray 40)) (Phist X (St.cells X a1)):=Stb.ext ((HF6.out.weak fun q hq hn=>⟨Nat.le_trans HW22.out hn,fun e=>by
       have:=HOl.out q e
       have hn:w22.heap.size≤q:=hn
       omega⟩).imp fun u h=>⟨a1,rfl,h⟩) hxa
      have HNew:=hid hnew
      have HSzw:Hid (w2.heap.size≤(w6.alloc (.cells ((St.cells X a1)).toArray 40)).heap.size):=Nat.le_trans HRw6z.out hxa.size
      clear hnew hxa HRw6 HF6 HS6
      go_wp2_with (first|(at_builtin;refine wpList_append_any _ rfl (.tmp 62) (.tmp 64) 49 rfl w2.heap.size 40 ie _ 22 392 Tryz.underlying49 hie hi0 hi1 hi2 rfl (by decide) _ l.length _ rfl HRw7.out.own _ _ 1 1 (St.cells X a1) rfl (readsN w6 (St.cells X a1) 40 22 rfl) (st_one X a1) (by unfold maxLen;omega) (by omega) HSzw.out ?_;intro v7 w7 hown7 hgr7 hblk7)|(refine ldS rfl rfl _ rfl HV6.out rfl ?_)|(refine bsS rfl rfl X a1 rfl ?_))
      have hpush:=HRw7.out.push rfl hown7 hgr7 hblk7 HNew.out
      have hg7:∀q,u8.ownBlock=some q→w2.heap.size≤q:=fun q hq=> (HRw7.out.own.lt q hq).1
      have HP7:=hid (HS7.out.grown hgr7 (fun q hq=>Nat.lt_of_lt_of_le HPl.out (hg7 q hq)))
      exact⟨⟨m,s2,_,_,by omega,by rw[List.length_append,List.length_singleton];omega,hsb,HI.out,Nat.le_trans HSzw.out (World.grownBy.size hgr7),HP7.out,hpush⟩,by rw[HP7.out.posOf,HMs.out];omega⟩
     ·rw[if_pos hv]at HI
      obtain rfl:R=([],((st.hd.pos:Nat):Int),vld X):=HI.out
      go_wp2_with fail
      go_ret3
      exact⟨HS6.out.base,none,⟨0,rfl⟩,fun u _ _=>lst_nil⟩
    ·rw[hsb]at p2 HI
     rw[if_pos rfl]at HI
     obtain rfl:R=([],((s2.hd.pos:Nat):Int),2):=HI.out
     go_upto_region 10 with fail
     refine wp_region_still_lit (by kernel_rfl) (by kernel_rfl) ?_
     iterate 14 still_step
     refine wpStill_nil ?_
     have hxe:=HS5.out.base.trans (Ext.refl w5).drew
     go_wp2_with fail
     go_ret3
     exact⟨hxe,none,⟨0,rfl⟩,fun u _ _=>lst_nil⟩
   ·have hkn:st.hd.kind=0:=by unfold hasK at hk0;rw[hnb]at hk0;simpa using hk0
    rw[if_pos hkn]at HI
    obtain⟨B,k,hv,hst⟩:=HRw.out.fin
    subst hv
    obtain rfl:R=(l,0,0):=HI.out
    clear HI HC HVb
    go_wp2_with fail
    go_ret3
    exact⟨HS.out.base,B,⟨k,rfl⟩,by show l.length≤_;omega,hst.weak fun q _ hq=>Nat.le_trans HWs.out hq⟩
end
section
open Lx (Tk)
theorem read_at {s:ByteArray} {L:List Tk} (h:Lx.tokAll s= .ok L) {st:Ps} (hst:st.r=L.drop (L.length-st.r.length)) {n:Nat} (hn:L.length<n) (hb:(stmP n st).2.bad=false):
  (stmP n st).1.formed=true∧(stmP n st).1.all.length≤100000∧(largeB (stmP n st).1.all=false→(stmP n st).1.bulk≤100000):=by
 have h1:=wsm_all h
 have h0:wsm st.r≤wsm L:=by
  have e:wsm (L.take (L.length-st.r.length)++L.drop (L.length-st.r.length))=wsm L:=by rw[List.take_append_drop]
  rw[wsm_app,←hst]at e
  omega
 have h2:=lin_stmt (rdy_expr n) andL st
 have h3:(stmP n st).1.cst≤65548:=by
  unfold stmP
  omega
 have hlen:st.r.length<n:=by
  rw[hst,List.length_drop]
  omega
 have hf:(stmP n st).1.formed=true:=((yld_stm n st ⟨hlen,fun a ha=>gt_of h a (List.mem_of_mem_drop (hst ▸ ha))⟩).2 hb).1
 refine⟨hf,by have:=all_cst (stmP n st).1;omega,fun hl=>?_⟩
 have h4:=bulk_cst hf
 have h5:=nodes_small hl
 omega
structure Pg (w:World):Prop where
 gd:Gd w
 er:Er w
 kw:Lx.KwAt w
theorem Pg.ext {w w':World} (h:Pg w) (hx:Ext w w'):Pg w':=⟨h.gd.ext hx,er_ext h.er hx,h.kw.ext hx⟩
theorem valid_read {s:ByteArray} {L:List Tk} (h:Lx.tokAll s= .ok L) {st:Ps} (hst:st.r=L.drop (L.length-st.r.length)) {n:Nat} (hn:L.length<n) (hb:(stmP n st).2.bad=false) {a:SA} {W:World} (hg:Gd W) (hv:StW W (stmP n st).1 a):
  Calls Tryz.prog 31 #[St.val (stmP n st).1 a] W fun r w'=>r= .returned (.int .i64 (validS (stmP n st).1))∧Ext W w':=by
 obtain⟨_,h1,h2⟩:=read_at h hst hn hb
 cases hl:largeB (stmP n st).1.all
 ·exact svalid_any _ a W hg hv.1 hv.2.1 hv.2.2 (Nat.le_trans (h2 hl) (by omega))
 ·refine(svalid_large _ a W hv.1 (by omega) hl).mono fun r w' k=>⟨?_,k.2⟩
  unfold validS
  rw[if_pos hl]
  exact k.1
section
variable {P c:Nat} {A:Option Addr} {L:List Tk} {w0 w:World} {s:Ps}
end
theorem expression_call (s:ByteArray) (w:World) (hs:s.size≤20000) (hg:Pg w):
  Calls Tryz.prog 17 #[.string s] w fun e w'=>Ext w w'∧∃A1 k1 c1,e= .returned (.tuple #[Nd.val (parE validE s).1.d A1 k1 c1,.int .i64 (parE validE s).2.1,.int .i64 (parE validE s).2.2])∧Stb (w.heap.size≤·) w' (fun u=>ExV u (parE validE s).1 A1 k1 c1):=
 expression_fn validE s w hs hg.kw (fun L P A c W0 W hx ht hp=>expr_all (er_ext hg.er hx) (tkl_of ht) _ _ _ hp (Nat.lt_succ_self _))
  (fun L A1 k1 c1 W hx ht hb hv=>valid_any _ A1 k1 c1 W hv (hg.gd.ext hx).sh)
end
section
open Lx (Tk)
def noK (s:ByteArray):Bool:=
 match Lx.tokAll s with
 | .ok L=>L.all fun a=>!(isS kCREATE ⟨[a],false⟩||isS kINSERT ⟨[a],false⟩||isS kUPDATE ⟨[a],false⟩)
 |_=>true
theorem noK_is {s:ByteArray} {L:List Tk} (hn:noK s=true) (h:Lx.tokAll s= .ok L) {st:Ps} (hst:st.r=L.drop (L.length-st.r.length)):isS kCREATE st=false∧isS kINSERT st=false∧isS kUPDATE st=false:=by
 unfold noK at hn
 rw[h]at hn
 simp only at hn
 have H:∀t:ByteArray,isS t st=true→∃a∈L,isS t ⟨[a],false⟩=true:=fun t ht=>by
  obtain⟨hb,a,l,h1,h2,h3,h4⟩:=isS_cons ht
  refine⟨a,List.mem_of_mem_drop (i:=L.length-st.r.length) (hst ▸ (by rw[h1];simp)),?_⟩
  obtain⟨r,b⟩:=st
  simp only at hb h1
  subst hb h1
  exact ht
 have K:∀a∈L,isS kCREATE ⟨[a],false⟩=false∧isS kINSERT ⟨[a],false⟩=false∧isS kUPDATE ⟨[a],false⟩=false:=fun a ha=>by
  have h1:=List.all_eq_true.1 hn a ha
  simp only[Bool.not_eq_true',Bool.or_eq_false_iff]at h1
  exact⟨h1.1.1,h1.1.2,h1.2⟩
 refine⟨?_,?_,?_⟩<;>refine Bool.eq_false_iff.2 fun ht=>?_
 ·obtain⟨a,ha,h1⟩:=H _ ht
  rw[(K a ha).1]at h1
  cases h1
 ·obtain⟨a,ha,h1⟩:=H _ ht
  rw[(K a ha).2.1]at h1
  cases h1
 ·obtain⟨a,ha,h1⟩:=H _ ht
  rw[(K a ha).2.2]at h1
  cases h1
section
variable {P c:Nat} {A:Option Addr} {L:List Tk} {w0 w:World} {s:Ps}
theorem stm_few {n:Nat} (hE:Er w0) (hL:TkL L) (hn:s.r.length<n) (hp:PsAt 68 P A c L w0 w s) (hk:isS kCREATE s=false∧isS kINSERT s=false∧isS kUPDATE s=false):
  Calls Tryz.prog 29 #[.pointer (some ⟨P,0,none⟩)] w (Ran 68 P A c L w0 w (stmP n s).2 fun v w'=>ElSt w.heap.size w' (stmP n s).1 v):=by
 have hr:=expr_all (P:=P) (A:=A) (c:=c) hE hL n
 have hf:=fwd_expr n
 unfold stmP
 exact statement_rd hr hn hp hL (fun h=>absurd h (by rw[hk.1];simp)) (fun _ W st h hs=>query_rd hr hf hs hE h hL) (fun h=>absurd h (by rw[hk.2.1];simp)) (fun h=>absurd h (by rw[hk.2.2];simp))
end
theorem statement_few (s:ByteArray) (w:World) (hs:s.size≤20000) (hg:Pg w) (hn:noK s=true):
  Calls Tryz.prog 13 #[.string s] w fun e w'=>Ext w w'∧∃a,e= .returned (.tuple #[St.val (parS validS s).1 a,.int .i64 (parS validS s).2.1,.int .i64 (parS validS s).2.2])∧Stb (w.heap.size≤·) w' (fun u=>StW u (parS validS s).1 a):=
 statement_fn validS s w hs hg.kw (fun L P A c W0 W hx ht hp=>stm_few (er_ext hg.er hx) (tkl_of ht) (Nat.lt_succ_self _) hp (noK_is hn ht (by simp)))
  (fun L a W hx ht hb hv=>valid_read ht (st:=⟨L,false⟩) (by simp) (Nat.lt_succ_self _) hb (hg.gd.ext hx) hv)
theorem script_few (s:ByteArray) (w:World) (hs:s.size≤20000) (hg:Pg w) (hn:noK s=true):
  Calls Tryz.prog 20 #[.string s] w fun e w'=>Ext w w'∧∃B k,e= .returned (.tuple #[.slice B (parL validS s).1.length k,.int .i64 (parL validS s).2.1,.int .i64 (parL validS s).2.2])∧(parL validS s).1.length≤20001∧Stb (w.heap.size≤·) w' (fun u=>Lst Phist 22 u B (parL validS s).1):=
 script_fn validS s w hs hg.kw (fun L P A c W st ht hp=>stm_few hg.er (tkl_of ht) (Nat.lt_succ_of_le hp.le) hp (noK_is hn ht hp.suf))
  (fun L st a W hx ht hsuf hnb hb hv=>valid_read ht hsuf (Nat.lt_succ_self _) hb (hg.gd.ext hx) hv)
end
section
open Lx (Tk)
theorem awake_few (w:World) (hg:Pg w):Calls Tryz.prog 11 #[] w fun e w'=>e= .returned (.bool true)∧Ext w w':=by
 have HG:=hid hg
 have HX:=hid (Ext.refl w)
 have HE1:=hid (fun W h=>expression_call aw1 W (by decide) h)
 have HE4:=hid (fun W h=>expression_call aw4 W (by decide) h)
 have HS2:=hid (fun W h=>statement_few aw2 W (by decide) h (by kernel_rfl))
 have HS3:=hid (fun W h=>statement_few aw3 W (by decide) h (by kernel_rfl))
 have HL5:=hid (fun W h=>script_few aw5 W (by decide) h (by kernel_rfl))
 have a1:=aw_1
 have a1t:=aw_1t
 have a2:=aw_2
 have a2t:=aw_2t
 have a2f:=aw_2f
 have a3:=aw_3
 have a4:=aw_4
 have a5:=aw_5
 have a5n:=aw_5n
 generalize parE validE aw1=R1 at*
 generalize parE validE aw4=R4 at*
 generalize parS validS aw2=R2 at*
 generalize parS validS aw3=R3 at*
 generalize parL validS aw5=R5 at*
 obtain⟨e1,r1⟩:=R1
 obtain⟨e4,r4⟩:=R4
 obtain⟨s2,r2⟩:=R2
 obtain⟨s3,r3⟩:=R3
 obtain⟨l5,r5⟩:=R5
 simp only at a1 a2 a3 a4 a5 a1t a2t a2f a5n HE1 HE4 HS2 HS3 HL5
 subst a1 a2 a3 a4 a5
 simp only at HE1 HE4 HS2 HS3 HL5
 have HT:=hid a1t
 have HT2:=hid a2t
 have HF2:=hid a2f
 have HN5:=hid a5n
 clear a1t a2t a2f a5n hg
 go_enter Tryz.func11,Tryz.ntmps11
 go_wp2_with fail
 refine(HE1.out w HG.out).mono ?_
 rintro _ w1 ⟨hx,A1,k1,c1,rfl,h3⟩
 replace HX:=hid (HX.out.trans hx)
 clear hx
 have HV1:=hid h3.now
 clear h3 HE1
 unfold Nd.val
 go_upto_region 2 with (first|(refine Great.wpList_allocTo rfl _ rfl (.pointer (some ⟨_,0,none⟩)) (.cells #[.int .i64 0,.string ⟨#[]⟩,.string ⟨#[]⟩,.int .i64 0,.int .i64 0,.int .i64 0,.string ⟨#[]⟩,.slice none 0 0] 37) (by kernel_rfl) ?_)|(refine stE' rfl rfl rfl (e1.d.cells A1 k1 c1) rfl rfl (cs:=eZ) rfl rfl (by kernel_rfl) ?_))
 have hx:=(Ext.refl w1).alloc (.cells ((e1.d.cells A1 k1 c1)).toArray 37)
 have HB1:=hid (Blk.of_new w1 37 (e1.d.cells A1 k1 c1))
 replace HX:=hid (HX.out.trans hx)
 replace HV1:=hid (HV1.out.ext hx)
 clear hx
 generalize hw:World.alloc _ _=w2
 obtain⟨g1,hg1⟩:∃g,w1.heap.size=g:=⟨_,rfl⟩
 rw[hw,hg1]at HB1
 rw[hw]at HX HV1
 rw[hg1]
 clear hw hg1
 go_wp2_with fail
 refine(HS2.out w2 (HG.out.ext HX.out)).mono ?_
 rintro _ w3 ⟨hx,b2,rfl,h3⟩
 replace HX:=hid (HX.out.trans hx)
 replace HV1:=hid (HV1.out.ext hx)
 replace HB1:=hid (HB1.out.ext hx)
 clear hx
 have HV2:=hid h3.now.1
 clear h3 HS2
 unfold St.val
 go_upto_region 3 with (first|(refine Great.wpList_allocTo rfl _ rfl (.pointer (some ⟨_,0,none⟩)) (.cells #[.int .i64 0,.string ⟨#[]⟩,.slice none 0 0,.slice none 0 0,.slice none 0 0,.slice none 0 0,.slice none 0 0,.slice none 0 0,.slice none 0 0,.slice none 0 0,.int .i64 0,.string ⟨#[]⟩,.string ⟨#[]⟩,.int .i64 0,.int .i64 0,.int .i64 0,.string ⟨#[]⟩,.slice none 0 0,.slice none 0 0,.slice none 0 0,.int .i64 0,.string ⟨#[]⟩] 40) (by kernel_rfl) ?_)|(refine stS' rfl rfl rfl (St.cells s2 b2) rfl rfl (cs:=sC) rfl rfl (by kernel_rfl) ?_))
 have hx:=(Ext.refl w3).alloc (.cells ((St.cells s2 b2)).toArray 40)
 have HB2:=hid (Blk.of_new w3 40 (St.cells s2 b2))
 replace HX:=hid (HX.out.trans hx)
 replace HV1:=hid (HV1.out.ext hx)
 replace HB1:=hid (HB1.out.ext hx)
 replace HV2:=hid (HV2.out.ext hx)
 clear hx
 generalize hw:World.alloc _ _=w4
 obtain⟨g2,hg2⟩:∃g,w3.heap.size=g:=⟨_,rfl⟩
 rw[hw,hg2]at HB2
 rw[hw]at HX HV1 HB1 HV2
 rw[hg2]
 clear hw hg2
 go_wp2_with fail
 refine(HS3.out w4 (HG.out.ext HX.out)).mono ?_
 rintro _ w5 ⟨hx,b3,rfl,h3⟩
 replace HX:=hid (HX.out.trans hx)
 replace HV1:=hid (HV1.out.ext hx)
 replace HB1:=hid (HB1.out.ext hx)
 replace HV2:=hid (HV2.out.ext hx)
 replace HB2:=hid (HB2.out.ext hx)
 clear hx
 clear h3 HS3
 unfold St.val
 go_upto_region 4 with (first|(refine Great.wpList_allocTo rfl _ rfl (.pointer (some ⟨_,0,none⟩)) (.cells #[.int .i64 0,.string ⟨#[]⟩,.slice none 0 0,.slice none 0 0,.slice none 0 0,.slice none 0 0,.slice none 0 0,.slice none 0 0,.slice none 0 0,.slice none 0 0,.int .i64 0,.string ⟨#[]⟩,.string ⟨#[]⟩,.int .i64 0,.int .i64 0,.int .i64 0,.string ⟨#[]⟩,.slice none 0 0,.slice none 0 0,.slice none 0 0,.int .i64 0,.string ⟨#[]⟩] 40) (by kernel_rfl) ?_)|(refine stS' rfl rfl rfl (St.cells s3 b3) rfl rfl (cs:=sC) rfl rfl (by kernel_rfl) ?_))
 have hx:=(Ext.refl w5).alloc (.cells ((St.cells s3 b3)).toArray 40)
 have HB3:=hid (Blk.of_new w5 40 (St.cells s3 b3))
 replace HX:=hid (HX.out.trans hx)
 replace HV1:=hid (HV1.out.ext hx)
 replace HB1:=hid (HB1.out.ext hx)
 replace HV2:=hid (HV2.out.ext hx)
 replace HB2:=hid (HB2.out.ext hx)
 clear hx
 generalize hw:World.alloc _ _=w6
 obtain⟨g3,hg3⟩:∃g,w5.heap.size=g:=⟨_,rfl⟩
 rw[hw,hg3]at HB3
 rw[hw]at HX HV1 HB1 HV2 HB2
 rw[hg3]
 clear hw hg3
 go_wp2_with fail
 refine(HE4.out w6 (HG.out.ext HX.out)).mono ?_
 rintro _ w7 ⟨hx,A4,k4,c4,rfl,h3⟩
 replace HX:=hid (HX.out.trans hx)
 replace HV1:=hid (HV1.out.ext hx)
 replace HB1:=hid (HB1.out.ext hx)
 replace HV2:=hid (HV2.out.ext hx)
 replace HB2:=hid (HB2.out.ext hx)
 clear hx
 clear h3 HE4 HB3
 unfold Nd.val
 go_upto_region 5 with (first|(refine Great.wpList_allocTo rfl _ rfl (.pointer (some ⟨_,0,none⟩)) (.cells #[.int .i64 0,.string ⟨#[]⟩,.string ⟨#[]⟩,.int .i64 0,.int .i64 0,.int .i64 0,.string ⟨#[]⟩,.slice none 0 0] 37) (by kernel_rfl) ?_)|(refine stE' rfl rfl rfl (e4.d.cells A4 k4 c4) rfl rfl (cs:=eZ) rfl rfl (by kernel_rfl) ?_))
 have hx:=(Ext.refl w7).alloc (.cells ((e4.d.cells A4 k4 c4)).toArray 37)
 have HB4:=hid (Blk.of_new w7 37 (e4.d.cells A4 k4 c4))
 replace HX:=hid (HX.out.trans hx)
 replace HV1:=hid (HV1.out.ext hx)
 replace HB1:=hid (HB1.out.ext hx)
 replace HV2:=hid (HV2.out.ext hx)
 replace HB2:=hid (HB2.out.ext hx)
 clear hx
 generalize hw:World.alloc _ _=w8
 obtain⟨g4,hg4⟩:∃g,w7.heap.size=g:=⟨_,rfl⟩
 rw[hw,hg4]at HB4
 rw[hw]at HX HV1 HB1 HV2 HB2
 rw[hg4]
 clear hw hg4
 clear HB4
 go_wp2_with (first|(refine ldE rfl rfl _ rfl HB1.out rfl ?_))
 refine(rtext_expr e1 A1 k1 c1 w8 HV1.out).mono ?_
 rintro _ w9 ⟨rfl,hx⟩
 rw[HT.out]
 replace HX:=hid (HX.out.trans hx)
 replace HV2:=hid (HV2.out.ext hx)
 replace HB2:=hid (HB2.out.ext hx)
 clear hx HV1 HB1 HT
 obtain⟨z0,z1,z2,z3,z4,z5,z6,z7,_⟩:=mid8 HB2.out
 go_wp2_with fail
 refine(rtext_expr s2.whr b2.whr.A b2.whr.n b2.whr.c w9 HV2.out.whr).mono ?_
 rintro _ w10 ⟨rfl,hx⟩
 rw[HT2.out]
 replace HX:=hid (HX.out.trans hx)
 replace HV2:=hid (HV2.out.ext hx)
 replace HB2:=hid (HB2.out.ext hx)
 clear hx HT2 z0 z1 z2 z3 z4 z5 z6 z7
 go_wp2_with fail
 refine(HL5.out w10 (HG.out.ext HX.out)).mono ?_
 rintro _ w11 ⟨hx,B5,k5,rfl,_,h3⟩
 replace HX:=hid (HX.out.trans hx)
 replace HV2:=hid (HV2.out.ext hx)
 replace HB2:=hid (HB2.out.ext hx)
 clear hx
 clear h3 HL5
 rw[HN5.out]
 have z9:=HB2.out.cell_some (i:=9) rfl
 have hn:=HV2.out.frm.1
 rw[HF2.out]at hn
 unfold Sl.v at z9
 rw[←hn]at z9
 clear hn
 go_wp2_with fail
 go_ret
 exact⟨rfl,HX.out⟩
end
section
open Go Go.RowKit Go.Stop
section
variable {H:Type} {enc:TypeId×Value→H}
theorem handed_and {a:Assume} {C:Checked} {os:Os} {f:FuncId} {fn:Func} {s:ChangeSpec} {conds:List PathCond} {apart fresh handsOn again:Bool} {X:World→Array Value→Prop}
  (hX:∀(w w':World) (args:Array Value),w.heap=w'.heap→X w args→X w' args)
  (own:ownKnob C.prog.godebug=none) (started:os.Started) (noInit:C.prog.inits.idxOf? f=none) (hfn:C.prog.funcs[f]? =some fn)
  (witness:∃(w:World) (tape:Tape) (i:Input),w.os=os∧(w.forCall tape i).Shaped C.prog∧i.vars= []∧Input.okWide C.prog (w.forCall tape i) .any w.heap.size f i∧
   ((s.pre enc C.prog fn conds apart (w.forCall tape i).memory i.args∧X (w.forCall tape i).memory i.args)∧sizedMet enc C.prog fn (OpenSpec.ofChange s) apart (w.forCall tape i).memory i.args)∧a.holds C.prog (lone (Frame.enter C.prog f i.args .normal) [] (w.forCall tape i)))
  (contract:∀(W:World) (base:Nat) (args:Array Value) (ds gs:List (DataW H)) (before:List MemPlace),
   (∀(j:Nat) t v,fn.params[j]? =some t→args[j]? =some v→Value.okWide C.prog W .any base t v)→
   DataW.Whole enc C.prog fn.params.toList s.vars apart W args.toList ds gs before→
   conds.all (PathCond.test C.prog ⟨fn.params.toList,ds,s.plain.varTypes C.prog,gs⟩)=true→
   (DataW.weightsEach C.prog (fn.params.toList++s.plain.varTypes C.prog) (ds++gs)).all (·≤reachBytes)=true→X W args→W.ShapedOpen C.prog→
   a.holds C.prog (lone (Frame.enter C.prog f args .normal) [] W)→
   Calls C.prog f args W fun e W'=> ∃v,e= .returned v∧s.post enc C.prog fn apart fresh handsOn again W args v W'):
  ReturnsInHanded a C os f .any (fun w args=> (s.pre enc C.prog fn conds apart w args∧X w args)∧sizedMet enc C.prog fn (OpenSpec.ofChange s) apart w args) (s.post enc C.prog fn apart fresh handsOn again):=by
 refine returnsInHanded_of_calls own started noInit witness ?_
 intro w tape i _ hsh _ hok hpre hholds
 obtain⟨_,_,_,fn',hfn',_,_,_,_,hval⟩:=hok
 have e:fn'=fn:=Option.some.inj (hfn'.symm.trans hfn)
 subst e
 obtain⟨⟨⟨ds,gs,before,hw,hc⟩,hx⟩,hz⟩:=hpre
 have hw':=DataW.Whole.of_heap (w':=w.forCall tape i) (by rfl) hw
 refine(contract (w.forCall tape i) w.heap.size i.args ds gs before hval hw' hc (hz.weights hw) (hX _ _ _ (by rfl) hx) hsh hholds).mono fun e W' ⟨v,he,hp⟩=>?_
 subst he
 exact ChangeSpec.post_blind hp
end
theorem sh_of {W:World} (h:W.ShapedOpen Tryz.prog):Sh W:=
 cell_of_shapedOpen_int (g:=1) (t:=3) (zero:=#[.int .i64 0]) h (by decide) (by kernel_rfl) rfl (by kernel_rfl) (by kernel_rfl) Tryz.underlying3
theorem tyTab:(Tryz.prog.globals[4]?).map (·.type)=some 256:=by kernel_rfl
theorem gSyn:Tryz.prog.globalNamed "strconv.ErrSyntax" =some 2:=by kernel_rfl
theorem gRng:Tryz.prog.globalNamed "strconv.ErrRange" =some 3:=by kernel_rfl
theorem tySyn:(Tryz.prog.globals[2]?).map (·.type)=some 198:=by kernel_rfl
theorem tyRng:(Tryz.prog.globals[3]?).map (·.type)=some 198:=by kernel_rfl
theorem starE: "*" ++ "errors.errorString" = "*errors.errorString" :=by decide
theorem rowE (u:TypeId) (h:Tryz.prog.typeName? 3 u=some "*errors.errorString"):u=260:=
 typeName_ptr_named (nm:= "errors.errorString") (by rw[starE];kernel_rfl) (by kernel_rfl) (by decide) u (by rw[starE];exact h)
theorem laid_both {x0 x1 x3:String×DataW Unit} {r:List (String×DataW Unit)} {W:World}
  (h:laidMet Tryz.prog (x0::x1::("internal/strconv.uint64pow10",Rows.laid_internal_strconv_uint64pow10)::x3::("strconv.ErrRange",Rows.laid_strconv_ErrRange)::("strconv.ErrSyntax",Rows.laid_strconv_ErrSyntax)::r) W):Tab W∧Er W:=by
 have h2:=h.tail.tail
 have h4:=h2.tail.tail
 have h5:=h4.tail
 have htab:Lib.TabIs Tryz.prog W "internal/strconv.uint64pow10" .u64 Lib.pow10Tab:=Lib.tabIs_of_head gTab tyTab Tryz.underlying256 Tryz.underlying232 (by kernel_rfl) (by kernel_rfl) h2
 obtain⟨a3,s3,hv3,_,_,_⟩:=laid_sentinel h4 gRng tyRng Tryz.underlying198 rowE Tryz.underlying260 Tryz.underlying262 rfl rfl Tryz.underlying9 (by kernel_rfl) (by kernel_rfl)
 obtain⟨a2,s2,hv2,_,_,_⟩:=laid_sentinel h5 gSyn tySyn Tryz.underlying198 rowE Tryz.underlying260 Tryz.underlying262 rfl rfl Tryz.underlying9 (by kernel_rfl) (by kernel_rfl)
 refine⟨⟨htab,?_⟩,⟨260,_,by simpa using World.var?_cell gSyn hv2 0⟩,⟨260,_,by simpa using World.var?_cell gRng hv3 0⟩⟩
 have:=cell_lt (htab.cell gTab 0 (by decide))
 exact this
theorem gKw:Tryz.prog.globalNamed "disjoint/lexer.keywords" =some 0:=by kernel_rfl
theorem tyKw:(Tryz.prog.globals[0]?).map (·.type)=some 101:=by kernel_rfl
def kwData {H:Type} :List (DataW H):=Lx.kwNames.map fun l=> .lit (.string l)
theorem kwData_eq {H:Type} :(Rows.laid_disjoint_lexer_keywords:DataW H)= .slice kwData []:=rfl
theorem spot_none {w:World} {a:Addr} {v:Value} (h:w.cell? a=some v):a.spot=none:=by
 unfold World.cell? at h
 split at h
 ·split at h
  ·cases h
  ·rename_i hs
   cases hsp:a.spot
   ·rfl
   ·rw[hsp]at hs;simp at hs
 ·cases h
theorem kw_of {x0:String×DataW Unit} {r:List (String×DataW Unit)} {W:World} (h:laidMet Tryz.prog (x0::("disjoint/lexer.keywords",Rows.laid_disjoint_lexer_keywords)::r) W):Lx.KwAt W:=by
 obtain⟨ps,⟨g',t',cs,fuel,p,q,hg',ht',hvar,hd,_,_⟩,_⟩:=h.tail
 obtain rfl:=Option.some.inj (gKw.symm.trans hg')
 obtain rfl:=Option.some.inj (tyKw.symm.trans ht')
 rw[kwData_eq]at hd
 obtain⟨a,cap,hcs,_,hel⟩:=open_row Tryz.underlying101 (by kernel_rfl) hd
 have hl:((kwData:List (DataW Unit))).length=47:=rfl
 have hcell:∀j,j<47→W.cell? (a.add j)=some (.string (Lx.kwStr j)):=by
  intro j hj
  have hkd:(kwData:List (DataW Unit))[j]? =some (.lit (.string (Lx.kwAt j))):=by
   unfold kwData Lx.kwAt
   rw[List.getElem?_map,List.getD_eq_getElem?_getD,List.getElem?_eq_getElem (show j<Lx.kwNames.length from hj)]
   rfl
  obtain⟨v,n,q2,hc,ht⟩:=hel j _ hkd
  obtain⟨s,e1,e2,_⟩:=DataW.trod_string Tryz.underlying9 ht
  simp only[List.cons.injEq,and_true]at e1
  subst e1
  rw[hc]
  have e3:s.data.toList=Lx.kwAt j:=by
   have:=congrArg Prod.fst e2
   simp only[DataW.lit.injEq,Lit.string.injEq]at this
   exact this.symm
  congr 2
  unfold Lx.kwStr
  rw[←e3]
 obtain⟨b,off,sp⟩:=a
 have hsp:sp=none:=by
  have h0:=hcell 0 (by decide)
  have:=spot_none h0
  unfold Addr.add at this
  cases sp with
  |none=>rfl
  |some x=>simp at this
 subst hsp
 refine⟨b,off,cap,?_,fun j hj=>?_⟩
 ·have h1:=World.var?_cell gKw hvar 0
  rw[h1]
  have h2:cs= #[Value.slice (some ⟨b,off,none⟩) 47 cap]:=by
   apply Array.toList_inj.1
   rw[hcs,hl]
  rw[h2]
  rfl
 ·have:=hcell j hj
  have hadd:(⟨b,off,none⟩:Addr).add j=⟨b,off+j,none⟩:=by unfold Addr.add;split<;>simp_all
  rwa [hadd]at this
theorem gd_of {x0 x1 x3:String×DataW Unit} {r:List (String×DataW Unit)} {W:World} (h:laidMetH Tryz.prog (x0::x1::("internal/strconv.uint64pow10",Rows.laid_internal_strconv_uint64pow10)::x3::("strconv.ErrRange",Rows.laid_strconv_ErrRange)::("strconv.ErrSyntax",Rows.laid_strconv_ErrSyntax)::("disjoint/lexer.keywords",Rows.laid_disjoint_lexer_keywords)::r) W)
  (hp:laidMetH Tryz.prog (x0::x1::("internal/strconv.uint64pow10",Rows.laid_internal_strconv_uint64pow10)::x3::("strconv.ErrRange",Rows.laid_strconv_ErrRange)::("strconv.ErrSyntax",Rows.laid_strconv_ErrSyntax)::("disjoint/lexer.keywords",Rows.laid_disjoint_lexer_keywords)::r) W=laidMet Tryz.prog (x0::x1::("internal/strconv.uint64pow10",Rows.laid_internal_strconv_uint64pow10)::x3::("strconv.ErrRange",Rows.laid_strconv_ErrRange)::("strconv.ErrSyntax",Rows.laid_strconv_ErrSyntax)::("disjoint/lexer.keywords",Rows.laid_disjoint_lexer_keywords)::r) W) (hs:W.ShapedOpen Tryz.prog):Pg W:=by
 have hm:=hp ▸ h
 exact⟨⟨sh_of hs,(laid_both hm).1⟩,(laid_both hm).2,kw_of hm.tail.tail.tail.tail.tail⟩
end
end Go.Proofs.YtjigcpfjhfoheaaGreatDoor
