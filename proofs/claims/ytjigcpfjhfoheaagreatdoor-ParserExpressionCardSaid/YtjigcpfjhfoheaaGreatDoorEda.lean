/- Walks over the reference: open, end; Walk over the reference: Expression; Walks over the reference: no index is set; Steps of the laws' walks: a guarded load, a guarded build; long; Walk: ParserExpression. -/
import Derived.Test.YtjigcpfjhfoheaaGreatDoorEbi
import Derived.Test.YtjigcpfjhfoheaaGreatDoorEcb
import Derived.Test.YtjigcpfjhfoheaaGreatDoorEae
import Derived.Test.YtjigcpfjhfoheaaGreatDoorEci
import Derived.Test.YtjigcpfjhfoheaaGreatDoorEcc
import Derived.Test.YtjigcpfjhfoheaaGreatDoorEbj
import Derived.Test.YtjigcpfjhfoheaaGreatDoorEaj
import Derived.Great.BuildSlice
import Derived.Test.YtjigcpfjhfoheaaGreatDoorEcj
import Derived.Test.YtjigcpfjhfoheaaGreatDoorEai
namespace Go.Proofs.YtjigcpfjhfoheaaGreatDoor
open Go.RowKit
set_option maxHeartbeats 4000000
set_option maxRecDepth 100000
set_option linter.unusedVariables false
set_option linter.unusedSimpArgs false
section
open Lx (Tk)
theorem ropen_tok (s:ByteArray) (w:World) (hs:s.size≤20000):
  Calls Tryz.prog 32 #[.string s] w fun e w'=>Ext w w'∧((∃a x:Nat,Lx.tokAll s= .bad a x∧x≠0∧e= .returned (.tuple #[.pointer none,.int .i64 a,.int .i64 x]))∨
   ∃(L:List Tk) (P:Nat) (A:Option Addr) (c:Nat),Lx.tokAll s= .ok L∧e= .returned (.tuple #[.pointer (some ⟨P,0,none⟩),.int .i64 0,.int .i64 0])∧PsAt 77 P A c L w w' ⟨L,false⟩):=by
 have HT:=hid (Lx.rtokens_cap s w hs)
 go_enter Tryz.func32,Tryz.ntmps32
 go_wp2_with fail
 refine HT.out.mono ?_
 rintro e w1 ⟨v,rfl,⟨A,c,rfl,hat,hc⟩,hx⟩
 have HX:=hid hx
 cases ht:Lx.tokAll s with
 |bad a x=>
  have hx0:=all_err ht
  have hxi:¬((x:Int)=0):=by omega
  rw[ht]at hat hc
  have h1:Lx.lsL (.bad a x)= []:=rfl
  have h2:Lx.lsP (.bad a x)=a:=rfl
  have h3:Lx.lsE (.bad a x)=x:=rfl
  rw[h1,h2,h3]
  clear hat hc h1 h2 h3
  go_wp2_with fail
  go_ret3
  exact⟨HX.out,.inl ⟨a,x,ht,hx0,rfl⟩⟩
 |ok l=>
  rw[ht]at hat hc
  have h1:Lx.lsL (.ok l)=l:=rfl
  have h2:Lx.lsP (.ok l)=0:=rfl
  have h3:Lx.lsE (.ok l)=0:=rfl
  rw[h1]at hat
  rw[h1,h2,h3]
  have HAt:=hid hat
  have HL:=hid (tkl_of ht)
  have HTk:=hid ht
  have HLen:Hid (0<l.length):=by
   unfold Lx.tokAll at ht
   split at ht
   ·cases ht
   ·exact(toks_fit _ _ _ l ht).len.1
  have HB:=hid (Blk.of_new w1 77 [.slice A l.length c,.int .i64 0,.bool false])
  clear hat hc h1 h2 h3 hx
  go_wp2_with fail
  go_ret3
  refine⟨HX.out.alloc _,.inr ⟨l,w1.heap.size,A,c,ht,rfl,?_⟩⟩
  refine⟨HX.out.alloc _,HX.out.size,?_,by simp,HLen.out,fun i a ha=>?_⟩
  ·rw[Nat.sub_self]
   exact HB.out
  ·obtain⟨b,off,hA,c0,c1,c2⟩:=HAt.out i a ha
   have hxa:=(Ext.refl w1).alloc (.cells #[.slice A l.length c,.int .i64 0,.bool false] 77)
   exact⟨b,off,hA,World.block_lt_of_cell? w1 _ c0,hxa.keep c0,hxa.keep c1,hxa.keep c2⟩
section
variable {P c:Nat} {A:Option Addr} {L:List Tk} {w0 w:World} {s:Ps}
theorem rend_any (hp:PsAt 77 P A c L w0 w s) (hL:TkL L):
  Calls Tryz.prog 34 #[.pointer (some ⟨P,0,none⟩)] w (Ran 77 P A c L w0 w (endP s) fun _ _=>True):=by
 obtain⟨b,off,hA,hb,c0,c1,c2⟩:=hp.cells
 subst hA
 obtain⟨p0,p1,-⟩:=cls hp.blk
 have hi:=hp.lti
 have hl:=hL.len
 have HP:=hid (hp.ext (Ext.refl w).drew)
 have HT:Hid (endP s=if hasK 0 s=true then s else s.fail):=rfl
 have HK:Hid (hasK 0 s=(!s.bad&&s.hd.kind==0)):=rfl
 have HBd:Hid (s.bad=true→s.fail=s):=fun h=>by
  obtain⟨r,bd⟩:=s
  simp only at h
  subst h
  rfl
 generalize L.length-s.r.length=i at*
 generalize s.hd.kind=K at*
 have i0:(0:Int)≤(i:Int):=by omega
 have i1:(i:Int)<(L.length:Int):=by omega
 clear hp
 by_cases hk:K=0
 ·have k0:((K:Int) !=0)=false:=by simp[hk]
  have HR:Hid (endP s=s):=by
   unfold Hid
   rw[HT.out,HK.out]
   cases hb:s.bad
   ·rw[if_pos (by simp[hk])]
   ·rw[if_neg (by simp),HBd.out hb]
  go_enter Tryz.func34,Tryz.ntmps34
  go_upto_region 0 with fail
  go_region
  go_wp2_with fail
  exact bodyPost_end (v:= .tuple #[]) (by simp[results,Tryz.results34,go_sem]) rfl ⟨_,rfl,by rw[HR.out];exact HP.out,Chg.of (Ext.refl w).drew,trivial⟩
 ·have k0:((K:Int) !=0)=true:=by simp;omega
  have HR:Hid (endP s=s.fail):=by
   unfold Hid
   rw[HT.out,HK.out,if_neg (by simp;intro _;omega)]
  have HF:=hid HP.out.fail
  have f2:=HP.out.blk.frozen 2
  have p2:=HP.out.blk.cell_some (i:=2) rfl
  go_enter Tryz.func34,Tryz.ntmps34
  go_upto_region 0 with fail
  go_region
  go_wp2_with fail
  exact bodyPost_end (v:= .tuple #[]) (by simp[results,Tryz.results34,go_sem]) rfl ⟨_,rfl,by rw[HR.out];exact HF.out,(Chg.of (Ext.refl w).drew).set _ _,trivial⟩
end
end
section
open Lx (Tk)
theorem rexpression_fn (m:Nat→M Ex) (hm:∀L:List Tk,wholeP (m (L.length+1)) L=wholeP (exprP (L.length+1)) L) (vld:Ex→Int) (s:ByteArray) (w:World) (hs:s.size≤20000)
  (hst:∀(L:List Tk) (P:Nat) (A:Option Addr) (c:Nat) (W0 W:World),Ext w W0→Lx.tokAll s= .ok L→PsAt 77 P A c L W0 W ⟨L,false⟩→Calls Tryz.prog 41 #[.pointer (some ⟨P,0,none⟩),.int .i64 1] W (Ran 77 P A c L W0 W (m (L.length+1) ⟨L,false⟩).2 fun v w'=>ExG W.heap.size w' (m (L.length+1) ⟨L,false⟩).1 v))
  (hva:∀(L:List Tk) (A1:Option Addr) (k1 c1:Nat) (W:World),Ext w W→Lx.tokAll s= .ok L→(m (L.length+1) ⟨L,false⟩).2.bad=false→ExV W (m (L.length+1) ⟨L,false⟩).1 A1 k1 c1→Calls Tryz.prog 42 #[Nd.val (m (L.length+1) ⟨L,false⟩).1.d A1 k1 c1] W fun r w'=>r= .returned (.int .i64 (vld (m (L.length+1) ⟨L,false⟩).1))∧Ext W w'):
  Calls Tryz.prog 18 #[.string s] w fun e w'=>Ext w w'∧∃A1 k1 c1,e= .returned (.tuple #[Nd.val (parE vld s).1.d A1 k1 c1,.int .i64 (parE vld s).2.1,.int .i64 (parE vld s).2.2])∧Stb (w.heap.size≤·) w' (fun u=>ExV u (parE vld s).1 A1 k1 c1):=by
 have hbad:∀a x:Nat,Lx.tokAll s= .bad a x→parE vld s=(exZ,(a:Int),(x:Int)):=fun a x h=>by unfold parE;rw[h]
 have hok:∀L,Lx.tokAll s= .ok L→parE vld s=if (endP (m (L.length+1) ⟨L,false⟩).2).bad=true then (exZ,((endP (m (L.length+1) ⟨L,false⟩).2).hd.pos:Int),2)else if vld (m (L.length+1) ⟨L,false⟩).1=0 then ((m (L.length+1) ⟨L,false⟩).1,0,0)else (exZ,((⟨L,false⟩:Ps).hd.pos:Int),vld (m (L.length+1) ⟨L,false⟩).1):=fun L h=>by
  unfold parE
  rw[h]
  simp only
  rw[←hm L]
  unfold wholeP
  cases hb:(endP (m (L.length+1) ⟨L,false⟩).2).bad<;>simp[hb]
 obtain⟨R,hR⟩:∃R,parE vld s=R:=⟨_,rfl⟩
 rw[hR]at hbad hok ⊢
 have HSt:=hid hst
 have HVa:=hid hva
 replace hok:=hid hok
 replace hbad:=hid hbad
 clear hst hva hR
 go_enter Tryz.func18,Tryz.ntmps18
 go_upto_region 1 with fail
 have HX1:=hid ((Ext.refl w).alloc (.cells #[.int .i64 0,.string ⟨#[]⟩,.string ⟨#[]⟩,.int .i64 0,.int .i64 0,.int .i64 0,.string ⟨#[]⟩,.slice none 0 0] 37))
 have HB1:=hid (Blk.of_new w 37 eZ)
 generalize w.alloc (.cells #[.int .i64 0,.string ⟨#[]⟩,.string ⟨#[]⟩,.int .i64 0,.int .i64 0,.int .i64 0,.string ⟨#[]⟩,.slice none 0 0] 37)=w1 at*
 obtain⟨g0,hg0⟩:∃g,w.heap.size=g:=⟨_,rfl⟩
 have HG:Hid (w.heap.size≤g0):=Nat.le_of_eq hg0
 rw[hg0]at HB1 ⊢
 have HG2:=hid hg0
 clear hg0
 go_wp2_with fail
 refine(ropen_tok s w1 hs).mono ?_
 rintro _ w2 ⟨hx2,h|h⟩
 ·obtain⟨a,x,ht,hx0,rfl⟩:=h
  have hxi:¬((x:Int)=0):=by omega
  have HX2:=hid (HX1.out.trans hx2)
  have HB2:=hid (HB1.out.ext hx2)
  obtain rfl:=hbad.out a x ht
  clear HX1 HB1 hx2 HSt HVa hok hbad ht
  go_wp2_with (first|(refine wpList_buildTo rfl 37 _ rfl _ rfl #[.int .i64 0,.string ⟨#[]⟩,.string ⟨#[]⟩,.int .i64 0,.int .i64 0,.int .i64 0,.string ⟨#[]⟩,.slice none 0 0] (by kernel_rfl) ?_)|(refine stE rfl rfl rfl _ eZ rfl rfl HB2.out rfl rfl (by kernel_rfl) ?_))
  refine bodyPost_ret (v:=_) (results_cell3 (p:=2) (q:=3) (r:=4) (ty:=37) rfl _ _ g0 37 _ _ _ (by rfl) (row_blk' HB2.out eZ) Tryz.underlying37 rfl (by kernel_rfl)) rfl ?_
  exact⟨ext_row HX2.out HG.out _,none,0,0,rfl,fun u _ _=>exZ_at u⟩
 ·obtain⟨L,P,A,c,ht,rfl,hp⟩:=h
  have hL:=tkl_of ht
  have hLl:=hL.len
  have HR:=hid (hok.out L ht)
  have HP0:Hid (g0<P):=Nat.lt_of_lt_of_le HB1.out.lt hp.low
  have HG3:Hid (g0<w2.heap.size):=Nat.lt_trans HP0.out hp.lt
  have HC:=hid (HSt.out L P A c w1 w2 HX1.out ht hp)
  have HVb:=hid (fun A1 k1 c1 W h1 h2 h3=>HVa.out L A1 k1 c1 W h1 ht h2 h3)
  have HPl:=hid hp.lt
  obtain⟨⟨X,s1⟩,hX⟩:∃x,m (L.length+1) ⟨L,false⟩=x:=⟨_,rfl⟩
  rw[hX]at HC HR HVb
  simp only at HC HR HVb
  clear hX hp HSt HVa hok hbad hx2
  go_wp2_with fail
  refine HC.out.mono ?_
  rintro _ w3 ⟨_,rfl,h1,h2,A1,k1,c1,rfl,h3⟩
  have HS3:=hid h1
  have HF3:=hid h3
  clear h1 h2 h3 HC
  unfold Nd.val
  go_upto_region 5 with (first|(refine Great.wpList_allocTo rfl _ rfl (.pointer (some ⟨_,0,none⟩)) (.cells #[.int .i64 0,.string ⟨#[]⟩,.string ⟨#[]⟩,.int .i64 0,.int .i64 0,.int .i64 0,.string ⟨#[]⟩,.slice none 0 0] 37) (by kernel_rfl) ?_)|(refine stE' rfl rfl rfl (X.d.cells A1 k1 c1) rfl rfl (cs:=eZ) rfl rfl (by kernel_rfl) ?_))
  have hx:=(Ext.refl w3).alloc (.cells ((X.d.cells A1 k1 c1)).toArray 37)
  have HS4:=hid (HS3.out.ext hx)
  have HF4:=hid (Stb.ext HF3.out hx)
  have HV4:=hid (Blk.of_new w3 37 (X.d.cells A1 k1 c1))
  have HG4:Hid (P<w3.heap.size):=HS3.out.lt
  clear hx HS3 HF3
  generalize hw:World.alloc _ _=w4
  rw[hw]at HS4 HF4 HV4
  obtain⟨g8,hg8⟩:∃g,w3.heap.size=g:=⟨_,rfl⟩
  rw[hg8]at HV4 HG4 ⊢
  clear hw hg8
  go_wp2_with fail
  refine(rend_any HS4.out hL).mono ?_
  rintro _ w5 ⟨_,rfl,h1,h2,_⟩
  have HS5:=hid h1
  have HV5:=hid (h2.blk HV4.out (by have:=HG4.out;omega))
  have HF5:=hid (Stb.chg HF4.out h2 HPl.out)
  have HEb:Hid ((endP s1).bad=false→s1.bad=false):=fun h=>by
   unfold endP at h
   split at h
   ·exact h
   ·cases h
  clear h1 h2 HS4 HV4 HF4
  generalize endP s1=s2 at*
  have HB5:=hid (HB1.out.ext HS5.out.base)
  obtain⟨b,off,hA,hb,c0,c1,c2⟩:=HS5.out.cells
  obtain⟨t0,ht0⟩:∃t0,L[0]? =some t0:=⟨_,List.getElem?_eq_getElem (by have:=HS5.out.ne;have:=HS5.out.le;omega)⟩
  have HT0:Hid ((⟨L,false⟩:Ps).hd=t0):=by
   unfold Ps.hd
   cases L with
   |nil=>cases ht0
   |cons a l=>cases ht0;rfl
  obtain⟨b9,off9,hA9,hb9,d0,d1,d2⟩:=HS5.out.tks 0 t0 ht0
  subst hA
  injection hA9 with hA9
  injection hA9 with e1 e2
  subst e1 e2
  rw[Nat.zero_mul,Nat.add_zero]at d0 d1 d2
  have hbg:b≠g0:=not_tok HB5.out (by rfl) d0 d1 d2
  have hbg2:¬(g0=b):=fun e=>hbg e.symm
  have hPg:¬(P=g0):=by have:=HP0.out;omega
  have hPg2:¬(g0=P):=by have:=HP0.out;omega
  have hbg3:¬(b=g0):=hbg
  have hl1:0<L.length:=by have:=HS5.out.ne;have:=HS5.out.le;omega
  have hl0:(0:Int)<(L.length:Int):=by have:=HS5.out.ne;have:=HS5.out.le;omega
  obtain⟨p0,p1,p2,-⟩:=cls HS5.out.blk
  have hi:=HS5.out.lti
  have hne:=HS5.out.ne
  have hle:=HS5.out.le
  clear hb c0 c1 d0 d1 hb9 ht0
  cases hsb:s2.bad
  ·rw[hsb]at p2 HR HEb
   have HVc:=hid (HVb.out A1 k1 c1 w5 (HX1.out.trans HS5.out.base) (HEb.out rfl) HF5.out.now)
   rw[if_neg (by simp)]at HR
   clear HVb HEb
   go_wp2_with (first|(refine ldE rfl rfl _ rfl HV5.out rfl ?_))
   refine HVc.out.mono ?_
   rintro _ w6 ⟨rfl,hx6⟩
   have HS6:=hid (HS5.out.ext hx6)
   have HB6:=hid (HB5.out.ext hx6)
   have HV6:=hid (HV5.out.ext hx6)
   have HF6:=hid (Stb.ext HF5.out hx6)
   replace d2:=hx6.keep d2
   replace p0:=hx6.keep p0
   clear HVc hx6 HS5 HB5 HV5 HF5 p1 p2 c2
   by_cases hv:vld X=0
   ·rw[if_pos hv]at HR
    rw[hv]
    obtain rfl:R=(X,0,0):=HR.out
    clear HR d2 p0
    go_wp2_with (first|(refine ldE rfl rfl _ rfl HV6.out rfl ?_)|(refine stE rfl rfl rfl _ (X.d.cells A1 k1 c1) rfl rfl HB6.out rfl rfl (by kernel_rfl) ?_))
    refine bodyPost_ret (v:=_) (results_cell3 (p:=2) (q:=3) (r:=4) (ty:=37) rfl _ _ g0 37 _ _ _ (by rfl) (row_blk' HB6.out (X.d.cells A1 k1 c1)) Tryz.underlying37 rfl (by kernel_rfl)) rfl ?_
    exact⟨ext_row (HX1.out.trans HS6.out.base) HG.out _,A1,k1,c1,rfl,(stb_row' HF6.out HG3.out _).weak fun q _ hq=>by have hq:w2.heap.size≤q:=hq;have:=HG3.out;have:=HG2.out;show w.heap.size≤q;omega⟩
   ·rw[if_neg hv]at HR
    obtain rfl:R=(exZ,((t0.pos:Nat):Int),vld X):=by rw[←HT0.out];exact HR.out
    clear HR
    have hz2:=HB6.out.ext (Ext.refl w6).drew
    go_upto_region 10 with fail
    refine wp_region_still_lit (by kernel_rfl) (by kernel_rfl) ?_
    iterate 9 still_step
    refine wpStill_same rfl 37 rfl rfl g0 eZ rfl rfl hz2 (by kernel_rfl) (by kernel_rfl) ?_
    iterate 2 still_step
    refine wpStill_nil ?_
    have hxe:=(HX1.out.trans HS6.out.base).trans (Ext.refl w6).drew
    go_wp2_with fail
    refine bodyPost_ret (v:=_) (results_cell3 (p:=2) (q:=3) (r:=4) (ty:=37) rfl _ _ g0 37 _ _ _ (by rfl) (hz2) Tryz.underlying37 rfl (by kernel_rfl)) rfl ?_
    exact⟨hxe,none,0,0,rfl,fun u _ _=>exZ_at u⟩
  ·rw[hsb]at p2 HR
   rw[if_pos rfl]at HR
   obtain rfl:R=(exZ,((s2.hd.pos:Nat):Int),2):=HR.out
   clear HR HVb HEb d2
   have hz2:=HB5.out.ext (Ext.refl w5).drew
   go_upto_region 7 with fail
   refine wp_region_still_lit (by kernel_rfl) (by kernel_rfl) ?_
   iterate 12 still_step
   refine wpStill_same rfl 37 rfl rfl g0 eZ rfl rfl hz2 (by kernel_rfl) (by kernel_rfl) ?_
   iterate 2 still_step
   refine wpStill_nil ?_
   have hxe:=(HX1.out.trans HS5.out.base).trans (Ext.refl w5).drew
   go_wp2_with fail
   refine bodyPost_ret (v:=_) (results_cell3 (p:=2) (q:=3) (r:=4) (ty:=37) rfl _ _ g0 37 _ _ _ (by rfl) (hz2) Tryz.underlying37 rfl (by kernel_rfl)) rfl ?_
   exact⟨hxe,none,0,0,rfl,fun u _ _=>exZ_at u⟩
end
theorem zero_list (l:List Ex) (A:Option Addr) (n c:Nat) (w:World) (hl:l.length=n) (hn:n≤9223372036854775807) (hk:KidsAt w A l) (hu:unbL l=true)
  (hI:∀e∈l,∀(A':Option Addr) (n' c':Nat) (W:World),ExV W e A' n' c'→Calls Tryz.prog 38 #[.slice A' n' c'] W fun r W'=>r= .returned (.bool true)∧Ext W W'):
  Calls Tryz.prog 38 #[.slice A n c] w fun r w'=>r= .returned (.bool true)∧Ext w w':=by
 have HL:=hid hl
 have HK:=hid hk
 have HI:=hid hI
 have HU:Hid (∀e∈l,e.d.ix=0):=fun e he=>by
  rw[unbL_all,List.all_eq_true]at hu
  have h:=hu e he
  obtain⟨d,ks⟩:=e
  rw[Ex.unb,Bool.and_eq_true,beq_iff_eq]at h
  exact h.1
 clear hl hk hI hu
 go_enter Tryz.func38,Tryz.ntmps38
 go_wp2_with fail
 go_loopw [3] (fun iv wr=> ∃k:Nat,k≤n∧iv= .int .i64 k∧Ext w wr) (fun i _=>n- (intOf i).toNat)
 case atStart=>exact⟨0,Nat.zero_le _,rfl,Ext.refl w⟩
 case round=>
  obtain⟨k,hk,rfl,hxr⟩:=hrel
  have HXr:=hid hxr
  by_cases hlt:k<n
  ·obtain⟨e',he⟩:=at_lt HL.out hlt
   obtain⟨b,off,A',n',c',rfl,q0,q1,q2,q3,q4,q5,q6,q7,hv'⟩:=(HK.out.ext hxr).get he
   have HV:=hid hv'
   have HM:=hid (mem_at he)
   rw[HU.out e' HM.out]at q3
   have i0:(0:Int)≤(k:Int):=by omega
   have i1:(k:Int)<(n:Int):=by omega
   clear he hv' hxr q0 q1 q2 q4 q5 q6
   go_wp2_with (go_at_call 38;refine(HI.out e' HM.out A' n' c' _ HV.out).mono ?_;rintro _ w2 ⟨rfl,hx2⟩)
   go_roundw
   case rel=>exact⟨k+1,by omega,by go_num,HXr.out.trans hx2⟩
   case measure=>simp[intOf];omega
  ·obtain rfl:k=n:=by omega
   go_wp2_with fail
   go_ret
   exact⟨rfl,HXr.out⟩
theorem zero_kids:∀(e:Ex),e.unb=true→∀(A:Option Addr) (n c:Nat) (w:World),ExV w e A n c→
  Calls Tryz.prog 38 #[.slice A n c] w fun r w'=>r= .returned (.bool true)∧Ext w w':=by
 intro e
 induction e using Ex.ind with
 |h d ks ih=>
  intro hu A n c w hv
  rw[Ex.unb,Bool.and_eq_true]at hu
  refine zero_list ks A n c w hv.1 hv.2 hv.kids hu.2 fun e he A' n' c' W h=>ih e he ?_ A' n' c' W h
  have:=hu.2
  rw[unbL_all,List.all_eq_true]at this
  exact this e he
theorem zero_any {l:List Ex} {A:Option Addr} {n c:Nat} {w:World} (hl:l.length=n) (hn:n≤9223372036854775807) (hk:KidsAt w A l) (hu:unbL l=true):
  Calls Tryz.prog 38 #[.slice A n c] w fun r w'=>r= .returned (.bool true)∧Ext w w':=
 zero_list l A n c w hl hn hk hu fun e he A' n' c' W h=>zero_kids e (by rw[unbL_all,List.all_eq_true]at hu;exact hu e he) A' n' c' W h
theorem unbound_ex (op ix vk vi:Int) (tb nm vt:ByteArray) (ks:List Ex) (A:Option Addr) (n c:Nat) (w:World) (hv:ExV w (.mk ⟨op,tb,nm,ix,vk,vi,vt⟩ ks) A n c) (hu:(Ex.mk ⟨op,tb,nm,ix,vk,vi,vt⟩ ks).unb=true):
  Calls Tryz.prog 16 #[.agg #[.int .i64 0,.string ⟨#[]⟩,.slice none 0 0,.slice none 0 0,.slice none 0 0,.slice none 0 0,.slice none 0 0,.slice none 0 0,.slice none 0 0,.slice none 0 0,.int .i64 op,.string tb,.string nm,.int .i64 ix,.int .i64 vk,.int .i64 vi,.string vt,.slice A n c,.slice none 0 0,.slice none 0 0,.int .i64 0,.string ⟨#[]⟩]] w fun r w'=>r= .returned (.bool true)∧Ext w w':=by
 have HV:=hid hv
 have HU:=hid hu
 have HB:=hid (Blk.of_new w 40 (sC (o:=op) (q:=tb) (m:=nm) (x:=ix) (y:=vk) (z:=vi) (u:=vt) (e:= .slice A n c)))
 have HX:=hid ((Ext.refl w).alloc (.cells #[.int .i64 0,.string ⟨#[]⟩,.slice none 0 0,.slice none 0 0,.slice none 0 0,.slice none 0 0,.slice none 0 0,.slice none 0 0,.slice none 0 0,.slice none 0 0,.int .i64 op,.string tb,.string nm,.int .i64 ix,.int .i64 vk,.int .i64 vi,.string vt,.slice A n c,.slice none 0 0,.slice none 0 0,.int .i64 0,.string ⟨#[]⟩] 40))
 clear hv hu
 go_enter Tryz.func16,Tryz.ntmps16
 go_upto_region 1 with fail
 generalize w.alloc (.cells #[.int .i64 0,.string ⟨#[]⟩,.slice none 0 0,.slice none 0 0,.slice none 0 0,.slice none 0 0,.slice none 0 0,.slice none 0 0,.slice none 0 0,.slice none 0 0,.int .i64 op,.string tb,.string nm,.int .i64 ix,.int .i64 vk,.int .i64 vi,.string vt,.slice A n c,.slice none 0 0,.slice none 0 0,.int .i64 0,.string ⟨#[]⟩] 40)=w1 at*
 generalize w.heap.size=g at*
 obtain⟨z0,z1,z2,z3,z4,z5,z6,z7,_⟩:=mid8 HB.out
 obtain⟨-,-,-,-,-,y5,y6,y7,y8,-,-,-,-,-,-,-,-,-,y18,-⟩:=cls HB.out
 have y18a:=((Ext.refl w1).alloc (.cells #[.int .i64 op,.string tb,.string nm,.int .i64 ix,.int .i64 vk,.int .i64 vi,.string vt,.slice A n c] 37)).keep y18
 go_upto_region 2 with fail
 have hx1:=(Ext.refl w1).alloc (.cells #[.int .i64 op,.string tb,.string nm,.int .i64 ix,.int .i64 vk,.int .i64 vi,.string vt,.slice A n c] 37)
 have hx2:=hx1.alloc (.cells #[.slice none 0 0,.slice (some ⟨w1.heap.size,0,none⟩) 1 1,.slice none 0 0] 27)
 have HB2:=hid (HB.out.ext hx2)
 have HX2:=hid (HX.out.trans hx2)
 have HE:=hid ((Blk.of_new w1 37 (eC op tb nm ix vk vi vt A n c)).ext ((Ext.refl _).alloc (.cells #[.slice none 0 0,.slice (some ⟨w1.heap.size,0,none⟩) 1 1,.slice none 0 0] 27)))
 have HL:=hid (Blk.of_new (w1.alloc (.cells #[.int .i64 op,.string tb,.string nm,.int .i64 ix,.int .i64 vk,.int .i64 vi,.string vt,.slice A n c] 37)) 27 [.slice none 0 0,.slice (some ⟨w1.heap.size,0,none⟩) 1 1,.slice none 0 0])
 have hs:(w1.alloc (.cells #[.int .i64 op,.string tb,.string nm,.int .i64 ix,.int .i64 vk,.int .i64 vi,.string vt,.slice A n c] 37)).heap.size=w1.heap.size+1:=by simp
 rw[hs]at HL
 clear hx1 hx2 hs z0 z1 z2 z3 z4 z5 z6 z7 y5 y6 y7 y8 y18 y18a
 generalize hw:World.alloc _ _=w2
 rw[hw]at HB2 HX2 HE HL
 clear hw
 have y6:=HB2.out.cell_some (i:=6) rfl
 go_upto_region 3 with fail
 have HV2:=hid (HV.out.ext HX2.out)
 have HK2:=hid (kids_blk (e:= .mk ⟨op,tb,nm,ix,vk,vi,vt⟩ ks) HE.out HV2.out)
 have HU2:Hid (unbL [.mk ⟨op,tb,nm,ix,vk,vi,vt⟩ ks]=true):=by
  unfold Hid
  rw[unbL,unbL,HU.out]
  rfl
 have e0:∀(W:World) (B:Option Addr),KidsAt W B []:=fun W B=>by unfold KidsAt;exact trivial
 have HZ0:=hid (fun W=>zero_any (l:= []) (A:=none) (n:=0) (c:=0) (w:=W) rfl (by omega) (e0 W _) rfl)
 have HZ1:=hid (fun W (h:Ext w2 W)=>zero_any (c:=1) (n:=1) rfl (by omega) (HK2.out.ext h) HU2.out)
 have y7:=HB2.out.cell_some (i:=7) rfl
 have y8:=HB2.out.cell_some (i:=8) rfl
 clear e0 y6 HE HB HX
 generalize w1.heap.size=g1 at*
 go_wp2_with fail
 go_loopw [3,4] (fun lv iv wr=>lv= .slice (some ⟨g1+1,0,none⟩) 3 3∧iv= .int .i64 0∧wr=w2) (fun _ _ _=>0)
 case atStart=>exact⟨rfl,rfl,rfl⟩
 case round=>
  obtain⟨rfl,rfl,rfl⟩:=hrel
  generalize wr=w3 at*
  go_wp2_with fail
  go_loopw [3,5] (fun lv iv wr=>lv= .slice (some ⟨g1+1,0,none⟩) 3 3∧iv= .int .i64 0∧wr=w3) (fun _ _ _=>0)
  case atStart=>exact⟨rfl,rfl,rfl⟩
  case round=>
   obtain⟨rfl,rfl,rfl⟩:=hrel
   generalize wr=w4 at*
   go_wp2_with fail
   go_loopw [6] (fun iv wr=> ∃k:Nat,k≤3∧iv= .int .i64 k∧Ext w4 wr) (fun i _=>3- (intOf i).toNat)
   case atStart=>exact⟨0,by omega,rfl,Ext.refl w4⟩
   case round=>
    obtain⟨k,hk,rfl,hxr⟩:=hrel
    have HXr:=hid hxr
    by_cases hlt:k<3
    ·have i0:(0:Int)≤(k:Int):=by omega
     have i1:(k:Int)<3:=by omega
     by_cases hk1:k=1
     ·subst hk1
      have c1:=(HL.out.ext hxr).cell_some (i:=1) rfl
      clear hxr
      go_wp2_with (go_at_call 38;refine(HZ1.out wr HXr.out).mono ?_;rintro _ w5 ⟨rfl,hx5⟩)
      go_roundw
      case rel=>exact⟨2,by omega,by go_num,HXr.out.trans hx5⟩
      case measure=>simp[intOf]
     ·have c1:wr.cell? ⟨g1+1,k,none⟩=some (.slice none 0 0):=by
       obtain rfl|rfl:k=0∨k=2:=by omega
       ·exact(HL.out.ext hxr).cell_some (i:=0) rfl
       ·exact(HL.out.ext hxr).cell_some (i:=2) rfl
      clear hxr
      go_wp2_with (go_at_call 38;refine(HZ0.out wr).mono ?_;rintro _ w5 ⟨rfl,hx5⟩)
      go_roundw
      case rel=>exact⟨k+1,by omega,by go_num,HXr.out.trans hx5⟩
      case measure=>simp[intOf];omega
    ·obtain rfl:k=3:=by omega
     go_wp2_with fail
     go_ret
     exact⟨rfl,HX2.out.trans HXr.out⟩
theorem long_any (s:ByteArray) (w:World) (hm:s.size≤maxLen):Calls Tryz.prog 12 #[.string s] w fun e w'=>e= .returned (.bool (decide ((1500:Int)<(s.size:Int))))∧Ext w w':=by
 go_enter Tryz.func12,Tryz.ntmps12
 go_wp2_with fail
 go_ret
 exact⟨rfl,Ext.refl w⟩
theorem ldSg {P:Program} {ops:Array Oper} {rest:List Oper} {o:Oper} {a:Act} {w:World} {Q:Exit→Act→World→Prop} (hw:Region.wanted o (yielded ops a.tmps)=true) (ty:TypeId) (x:Operand) (ho:o.op= .load ty x)
  (g:Nat) (hx:a.eval x= .pointer (some ⟨g,0,none⟩)) (t:TypeId) (cs:List Value) (d:TypeDesc) (hg:Blk w g t cs)
  (hu:P.underlying ty=some d) (hd:(match d with| .struct _| .array _ _=>true|_=>false)=true) (hi:(P.info? ty).map (·.size)=some cs.length)
  (h:wpList P ops Q rest (a.put o.dst (.agg cs.toArray)) w):wpList P ops Q (o::rest) a w:=by
 refine wpList_step fun K hK=>?_
 rw[if_pos hw]
 exact wp_load_row ty x ho g hx t cs.toArray (0,0) d hg hu hd (by simpa using hi) (hK _ _ h)
theorem buildG {P:Program} {ops:Array Oper} {rest:List Oper} {o:Oper} {a:Act} {w:World} {Q:Exit→Act→World→Prop} (hw:Region.wanted o (yielded ops a.tmps)=true) (t:TypeId) (parts:Array (Nat×Operand)) (ho:o.op= .build t parts)
  (cells:Array Value) (hf:P.built t (parts.map fun (i,x)=> (i,a.eval x)).toList=some cells) (h:wpList P ops Q rest (a.put o.dst (.agg cells)) w):wpList P ops Q (o::rest) a w:=by
 refine wpList_step fun K hK=>?_
 rw[if_pos hw]
 exact wp_build t parts ho (by rw[hf];rfl) (by rw[hf];exact hK _ _ h)
section
open Lx (Tk)
theorem parE_unb (s:ByteArray):(parE validE s).1.unb=true:=by
 unfold parE
 cases h:Lx.tokAll s with
 |bad a e=>rfl
 |ok L=>
  simp only
  cases hw:wholeP (exprP (L.length+1)) L with
  |inl a=>rfl
  |inr x=>
   simp only
   by_cases hv:validE x=0
   ·rw[if_pos hv]
    unfold wholeP at hw
    split at hw
    ·cases hw
    ·next hb=>
     injection hw with hw
     subst hw
     have hb2:(exprP (L.length+1) ⟨L,false⟩).2.bad=false:=by
      unfold endP at hb
      split at hb
      ·simpa using hb
      ·exact absurd rfl hb
     exact((yld_expr (L.length+1) ⟨L,false⟩ ⟨Nat.lt_succ_self _,fun a ha=>gt_of h a ha⟩).2 hb2).2
   ·rw[if_neg hv];rfl
theorem rexpression_call (s:ByteArray) (w:World) (hs:s.size≤20000) (hg:Pg w):
  Calls Tryz.prog 18 #[.string s] w fun e w'=>Ext w w'∧∃A1 k1 c1,e= .returned (.tuple #[Nd.val (parE validE s).1.d A1 k1 c1,.int .i64 (parE validE s).2.1,.int .i64 (parE validE s).2.2])∧Stb (w.heap.size≤·) w' (fun u=>ExV u (parE validE s).1 A1 k1 c1):=
 rexpression_fn exprR (fun L=> (whole_sim (sim_expr _) L).symm) validE s w hs
  (fun L P A c W0 W hx ht hp=> (rexpr_all (tkl_of ht) _ _ _ hp (Nat.lt_succ_self _)).mono fun e w' ⟨A1,k1,c1,h1,h2,h3,h4⟩=>⟨_,h1,h2,h3,A1,k1,c1,rfl,h4⟩)
  (fun L A1 k1 c1 W hx ht hb hv=>rvalid_any _ A1 k1 c1 W hv)
theorem law_expr (s:ByteArray) (w:World) (hm:s.size≤maxLen) (hg:Pg w):Calls Tryz.prog 4 #[.string s] w fun r w'=>r= .returned (.bool true)∧Ext w w':=by
 have HG:=hid hg
 have HX:=hid (Ext.refl w)
 clear hg
 by_cases hs:s.size≤1500
 rotate_left
 ·have hlg:decide ((1500:Int)<(s.size:Int))=true:=by simp;omega
  go_enter Tryz.func4,Tryz.ntmps4
  go_wp2_with fail
  refine(awake_few w HG.out).mono ?_
  rintro _ w1 ⟨rfl,hx⟩
  go_wp2_with fail
  refine(long_any s w1 hm).mono ?_
  rintro _ w2 ⟨rfl,hx2⟩
  rw[hlg]
  go_wp2_with fail
  go_ret
  exact⟨rfl,hx.trans hx2⟩
 have hlg:decide ((1500:Int)<(s.size:Int))=false:=by simp;omega
 have HU:=hid (parE_unb s)
 have H1:=hid (fun W h=>expression_call s W (by omega) h)
 have H2:=hid (fun W h=>rexpression_call s W (by omega) h)
 generalize parE validE s=R1 at*
 obtain⟨⟨⟨op,tb,nm,ix,vk,vi,vt⟩,ks⟩,a1,e⟩:=R1
 simp only at HU H1 H2
 clear hs
 go_enter Tryz.func4,Tryz.ntmps4
 go_wp2_with fail
 refine(awake_few w HG.out).mono ?_
 rintro _ w1 ⟨rfl,hx⟩
 replace HX:=hid (HX.out.trans hx)
 clear hx
 go_wp2_with fail
 refine(long_any s w1 hm).mono ?_
 rintro _ w2 ⟨rfl,hx⟩
 replace HX:=hid (HX.out.trans hx)
 clear hx
 rw[hlg]
 clear hlg
 go_wp2_with fail
 refine(H1.out w2 (HG.out.ext HX.out)).mono ?_
 rintro _ w3 ⟨hx,A1,k1,c1,rfl,h3⟩
 replace HX:=hid (HX.out.trans hx)
 clear hx
 have HV1:=hid h3.now
 clear h3 H1
 unfold Nd.val
 go_upto_region 6 with (first|(refine Great.wpList_allocTo rfl _ rfl (.pointer (some ⟨_,0,none⟩)) (.cells #[.int .i64 0,.string ⟨#[]⟩,.string ⟨#[]⟩,.int .i64 0,.int .i64 0,.int .i64 0,.string ⟨#[]⟩,.slice none 0 0] 37) (by kernel_rfl) ?_)|(refine stE' rfl rfl rfl ((Ex.mk ⟨op,tb,nm,ix,vk,vi,vt⟩ ks).d.cells A1 k1 c1) rfl rfl (cs:=eZ) rfl rfl (by kernel_rfl) ?_))
 have hx:=(Ext.refl w3).alloc (.cells ((Ex.mk ⟨op,tb,nm,ix,vk,vi,vt⟩ ks).d.cells A1 k1 c1).toArray 37)
 have HB1:=hid (Blk.of_new w3 37 ((Ex.mk ⟨op,tb,nm,ix,vk,vi,vt⟩ ks).d.cells A1 k1 c1))
 replace HX:=hid (HX.out.trans hx)
 replace HV1:=hid (HV1.out.ext hx)
 clear hx
 generalize hw:World.alloc _ _=w4
 obtain⟨gHB1,hg⟩:∃g,w3.heap.size=g:=⟨_,rfl⟩
 rw[hw,hg]at HB1
 rw[hw]at HX HV1
 rw[hg]
 clear hw hg
 go_wp2_with fail
 refine(H2.out w4 (HG.out.ext HX.out)).mono ?_
 rintro _ w5 ⟨hx,A2,k2,c2,rfl,h3⟩
 replace HX:=hid (HX.out.trans hx)
 replace HV1:=hid (HV1.out.ext hx)
 replace HB1:=hid (HB1.out.ext hx)
 clear hx
 have HV2:=hid h3.now
 clear h3 H2
 unfold Nd.val
 go_upto_region 7 with (first|(refine Great.wpList_allocTo rfl _ rfl (.pointer (some ⟨_,0,none⟩)) (.cells #[.int .i64 0,.string ⟨#[]⟩,.string ⟨#[]⟩,.int .i64 0,.int .i64 0,.int .i64 0,.string ⟨#[]⟩,.slice none 0 0] 37) (by kernel_rfl) ?_)|(refine stE' rfl rfl rfl ((Ex.mk ⟨op,tb,nm,ix,vk,vi,vt⟩ ks).d.cells A2 k2 c2) rfl rfl (cs:=eZ) rfl rfl (by kernel_rfl) ?_))
 have hx:=(Ext.refl w5).alloc (.cells ((Ex.mk ⟨op,tb,nm,ix,vk,vi,vt⟩ ks).d.cells A2 k2 c2).toArray 37)
 have HB2:=hid (Blk.of_new w5 37 ((Ex.mk ⟨op,tb,nm,ix,vk,vi,vt⟩ ks).d.cells A2 k2 c2))
 replace HX:=hid (HX.out.trans hx)
 replace HV1:=hid (HV1.out.ext hx)
 replace HB1:=hid (HB1.out.ext hx)
 replace HV2:=hid (HV2.out.ext hx)
 clear hx
 generalize hw:World.alloc _ _=w6
 obtain⟨gHB2,hg⟩:∃g,w5.heap.size=g:=⟨_,rfl⟩
 rw[hw,hg]at HB2
 rw[hw]at HX HV1 HB1 HV2
 rw[hg]
 clear hw hg
 have HSA:=hid (fun W h1 h2=>rsame_any (Ex.mk ⟨op,tb,nm,ix,vk,vi,vt⟩ ks) (Ex.mk ⟨op,tb,nm,ix,vk,vi,vt⟩ ks) A1 A2 k1 k2 c1 c2 W h1 h2)
 rw[same_refl]at HSA
 unfold Nd.val at HSA
 simp only[Ex.d,Nd.cells]at HSA HB1 HB2 ⊢
 go_wp2_with (first|(refine buildG rfl 40 #[(7,.tmp 39)] rfl #[.int .i64 0,.string ⟨#[]⟩,.slice none 0 0,.slice none 0 0,.slice none 0 0,.slice none 0 0,.slice none 0 0,.slice none 0 0,.slice none 0 0,.slice none 0 0,.int .i64 op,.string tb,.string nm,.int .i64 ix,.int .i64 vk,.int .i64 vi,.string vt,.slice A1 k1 c1,.slice none 0 0,.slice none 0 0,.int .i64 0,.string ⟨#[]⟩] (by kernel_rfl) ?_)|(refine ldSg rfl 37 (.tmp 3) rfl gHB1 rfl 37 _ _ HB1.out Tryz.underlying37 rfl (by kernel_rfl) ?_)|(refine ldSg rfl 37 (.tmp 6) rfl gHB2 rfl 37 _ _ HB2.out Tryz.underlying37 rfl (by kernel_rfl) ?_)|(refine ldSg rfl 37 (.tmp 3) rfl gHB1 rfl 37 _ _ (HB1.out.ext hx7) Tryz.underlying37 rfl (by kernel_rfl) ?_)|(go_at_call 19;(with_reducible refine(HSA.out _ HV1.out HV2.out).mono ?_);rintro _ w7 ⟨rfl,hx7⟩)|(go_at_call 16;(with_reducible refine(unbound_ex op ix vk vi tb nm vt ks A1 k1 c1 _ (HV1.out.ext hx7) HU.out).mono ?_);rintro _ w8 ⟨rfl,hx8⟩))
 go_ret
 exact⟨ret_bool (by simp),(HX.out.trans hx7).trans hx8⟩
end
end Go.Proofs.YtjigcpfjhfoheaaGreatDoor
