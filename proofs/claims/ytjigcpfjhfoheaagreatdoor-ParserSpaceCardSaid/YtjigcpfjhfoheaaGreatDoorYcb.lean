/- Walk: a test. -/
import Derived.Test.YtjigcpfjhfoheaaGreatDoorYca
namespace Go.Proofs.YtjigcpfjhfoheaaGreatDoor
open Go.RowKit
set_option maxHeartbeats 4000000
set_option maxRecDepth 100000
set_option linter.unusedVariables false
set_option linter.unusedSimpArgs false
section
open Lx (Tk)
theorem cmps_any (W:World):Calls Tryz.prog 259 #[] W fun e w'=> ∃g,e= .returned (.slice (some ⟨g,0,none⟩) 6 6)∧W.heap.size≤g∧Blk w' g 120 (symCs opsCmp)∧Ext W w':=by
 go_enter Tryz.func259,Tryz.ntmps259
 go_wp2_with fail
 go_ret
 exact⟨W.heap.size,rfl,Nat.le_refl _,Blk.of_new W 120 (symCs opsCmp),(Ext.refl W).alloc _⟩
section
variable {P c:Nat} {A:Option Addr} {L:List Tk} {w0 w:World} {s:Ps}
theorem PsAt.same {T:Nat} (h:PsAt T P A c L w0 w s):PsAt T P A c L w0 (w.setCell ⟨P,2,none⟩ (.bool s.bad)) s:=
 ⟨h.base.setCell h.low _,h.low,h.blk.set 2 (.bool s.bad),h.suf,h.ne,fun i a k=>by
  obtain⟨g,f,l,j,m,o,n⟩:=h.tks i a k
  have e:=(Chg.refl P w).set 2 (.bool s.bad)
  have b:g≠P:=by omega
  exact⟨g,f,l,j,e.keep m b,e.keep o b,e.keep n b⟩⟩
theorem test_rd1 {n:Nat} {p:M Ex} (no:Fwd p) (hr:Rdr 68 P A c L w0 n 258 (sumP p)) (hn:s.r.length<n) (hp:PsAt 68 P A c L w0 w s) (hL:TkL L):
  Calls Tryz.prog 220 #[.pointer (some ⟨P,0,none⟩)] w (Ran 68 P A c L w0 w (testP p s).2 fun v w'=>ExG w.heap.size w' (testP p s).1 v):=by
 have n9:=(Ext.refl w).alloc (.cells #[.int .i64 0,.string ⟨#[]⟩,.string ⟨#[]⟩,.int .i64 0,.int .i64 0,.int .i64 0,.string ⟨#[]⟩,.slice none 0 0] 37)
 have oV:=hid (hp.ext n9)
 have oS:Hid (P<w.heap.size):=hp.lt
 have hQ:=hid (Blk.of_new w 37 eZ)
 have po:=hid (Chg.of (P:=P) n9)
 have HM:Hid (testP p s=dL (sumP p) (sumP p s).1 (sumP p s).2):=rfl
 have pI:Hid (w.heap.size≤(w.alloc (.cells #[.int .i64 0,.string ⟨#[]⟩,.string ⟨#[]⟩,.int .i64 0,.int .i64 0,.int .i64 0,.string ⟨#[]⟩,.slice none 0 0] 37)).heap.size):=n9.size
 obtain⟨R,hR⟩:∃R,testP p s=R:=⟨_,rfl⟩
 rw[hR]at HM ⊢
 clear hp n9 hR
 go_enter Tryz.func220,Tryz.ntmps220
 go_upto_region 1 with fail
 generalize w.alloc (.cells #[.int .i64 0,.string ⟨#[]⟩,.string ⟨#[]⟩,.int .i64 0,.int .i64 0,.int .i64 0,.string ⟨#[]⟩,.slice none 0 0] 37)=wz at*
 obtain⟨H,oE⟩:∃g,w.heap.size=g:=⟨_,rfl⟩
 have cb:=hid oE
 rw[oE]at oS hQ pI ⊢
 clear oE
 have b:=oS
 go_wp2_with fail
 refine(hr _ _ oV hn).mono ?_
 rintro _ w1 ⟨v,rfl,h1,a,Y,X,c1,rfl,h3⟩
 have oY:=hid h1
 have oH:=hid (a.blk hQ (by have:=b.out;omega))
 have o8:=hid (po.trans a)
 obtain⟨e1,oB⟩:∃e,(sumP p s).1=e:=⟨_,rfl⟩
 have o2:=hid oB
 rw[oB]at h3 ⊢
 clear oB
 obtain⟨⟨op,tb,nm,ix,vk,vi,vt⟩,ks⟩:=e1
 unfold Nd.val
 simp only[Ex.d]
 have k6:Hid (Stb (H+1≤·) w1 fun w'=>ExV w' (.mk ⟨op,tb,nm,ix,vk,vi,vt⟩ ks) Y X c1):=h3.weak fun q _ h=>Nat.le_trans hQ.lt h
 clear h1 a h3
 clear hQ po oV
 go_upto_region 2 with fail
 have hx:=(Ext.refl w1).alloc (.cells #[.int .i64 op,.string tb,.string nm,.int .i64 ix,.int .i64 vk,.int .i64 vi,.string vt,.slice Y X c1] 37)
 have oF:=hid (oH.ext hx)
 have o4:=hid (o8.ext hx)
 have oD:=hid (oY.ext hx)
 have ni:=hid (Stb.ext k6 hx)
 have ll:=hid (Blk.of_new w1 37 (eC op tb nm ix vk vi vt Y X c1))
 have ax:Hid (H<w1.heap.size):=oH.lt
 clear hx
 clear oH o8 oY k6
 generalize w1.alloc (.cells #[.int .i64 op,.string tb,.string nm,.int .i64 ix,.int .i64 vk,.int .i64 vi,.string vt,.slice Y X c1] 37)=w2 at*
 generalize w1.heap.size=ga at*
 have oA:=eY no s
 obtain⟨f,oz⟩:∃x,(sumP p s).2=x:=⟨_,rfl⟩
 rw[oz,o2.out]at HM
 rw[oz]at oA oD
 clear oz o2
 go_wp2_with fail
 refine(cmps_any _).mono ?_
 rintro _ w3 ⟨gs,rfl,hgs,pf,hx⟩
 have oM:=hid (oF.ext hx)
 have pa:=hid (o4.ext hx)
 have oh:=hid (oD.ext hx)
 have kw:=hid (Stb.ext ni hx)
 have m9:=hid (ll.ext hx)
 have lo:=hid pf
 have eb:Hid (H<gs):=Nat.lt_of_lt_of_le oF.lt hgs
 clear hx pf hgs
 clear oF o4 oD ni ll
 go_wp2_with fail
 go_loopw [5,13] (fun _ iv wr=> ∃(k:Nat),k≤6∧iv= .int .i64 k∧firstP opsCmp f=firstP (opsCmp.drop k) f∧PsAt 68 P A c L w0 wr f∧Blk wr H 37 eZ∧Blk wr ga 37 (eC op tb nm ix vk vi vt Y X c1)∧Stb (H+1≤·) wr (fun w'=>ExV w' (.mk ⟨op,tb,nm,ix,vk,vi,vt⟩ ks) Y X c1)∧Blk wr gs 120 (symCs opsCmp)∧Chg P w wr) (fun _ i _=>6- (intOf i).toNat)
 case atStart=>exact⟨0,by omega,rfl,rfl,oh,oM,m9,kw,lo,pa⟩
 case round=>
  obtain⟨k,hk,rfl,hf,h1,a,h3,h4,h5,y⟩:=hrel
  have it:=hid h1
  have f9:=hid a
  have c5:=hid h3
  have dd:=hid h4
  have cc:=hid h5
  have i3:=hid y
  clear h1 a h3 h4 h5 y oh oM m9 kw lo pa
  generalize wr=c0 at*
  by_cases pg:k<6
  ·obtain⟨⟨t,o⟩,hx⟩:∃x,opsCmp[k]? =some x:=⟨_,List.getElem?_eq_getElem (by show k<6;exact pg)⟩
   have hd:opsCmp.drop k=(t,o)::opsCmp.drop (k+1):=by
    obtain⟨h1,a⟩:=List.getElem?_eq_some_iff.1 hx
    rw[List.drop_eq_getElem_cons h1,a]
   rw[hd,firstP]at hf
   have HF:=hid hf
   have pb:Hid (I64 o):=by
    have pJ:∀x∈opsCmp,I64 x.2:=by unfold I64;decide
    exact pJ _ (List.mem_of_getElem? hx)
   obtain⟨e0,e1⟩:=fh opsCmp k (t,o) hx
   have s0:=cc.cell_some e0
   have s1:=cc.cell_some e1
   have i0:(0:Int)≤(k:Int):=by omega
   have i1:(k:Int)<6:=by omega
   clear hf hd hx e0 e1
   go_upto_region 5 with fail
   have hx:=(Ext.refl c0).alloc (.cells #[.string t,.int .i64 o] 120)
   have hB:=hid (f9.ext hx)
   have hM:=hid (i3.ext hx)
   have hE:=hid (it.ext hx)
   have gv:=hid (Stb.ext dd hx)
   have c8:=hid (c5.ext hx)
   have dx:=hid (cc.ext hx)
   have ho:=hid (Blk.of_new c0 120 [.string t,.int .i64 o])
   have pm:Hid (H<c0.heap.size):=f9.lt
   clear hx
   clear f9 i3 it dd c5 cc
   generalize c0.alloc (.cells #[.string t,.int .i64 o] 120)=pp at*
   generalize c0.heap.size=gy at*
   obtain⟨t0,t1,-⟩:=cls ho
   go_wp2_with fail
   refine(ai hE hL t).mono ?_
   rintro _ kg ⟨v,rfl,h1,a,rfl⟩
   have bw:=hid h1
   have cj:=hid (a.blk hB (by have:=b.out;omega))
   have e8:=hid (hM.trans a)
   have i2:=hid (Stb.chg gv a (by have:=b.out;omega))
   have ag:=hid (a.blk c8 (by have:=b.out;have:=ax.out;omega))
   have be:=hid (a.blk dx (by have:=b.out;have:=eb.out;omega))
   have np:=hid (a.blk ho (by have:=b.out;have:=pm.out;omega))
   clear h1 a
   clear hB hM hE gv c8 dx ho
   cases hK:isS t f
   ·have e:(aq t f).2=f:=by simp[aq,hK]
    rw[e]at bw
    clear e
    have pC:Hid (firstP opsCmp f=firstP (opsCmp.drop (k+1)) f):=by
     unfold Hid
     have:=HF.out
     rwa [hK]at this
    go_wp2_with fail
    exact⟨⟨k+1,by omega,by go_num,pC,bw,cj,ag,i2,be,e8⟩,by simp[intOf];omega⟩
   ·have e:(aq t f).2=f.next:=by simp[aq,hK]
    rw[e]at bw
    clear e
    have pM:=aM hK
    have hQ:Hid (R=(opE o [(.mk ⟨op,tb,nm,ix,vk,vi,vt⟩ ks),(sumP p f.next).1],(sumP p f.next).2)):=by
     unfold Hid
     have ha:=HF.out
     rw[hK]at ha
     rw[HM.out]
     unfold dL
     rw[ha]
     rfl
    have fA:=hid (hr kg.drew f.next (bw.ext (Ext.refl kg).drew) (by omega))
    obtain⟨fn,a2⟩:∃x,(sumP p f.next).2=x:=⟨_,rfl⟩
    obtain⟨e2,el⟩:∃x,(sumP p f.next).1=x:=⟨_,rfl⟩
    have h0:=hid el
    have ht:=hid a2
    rw[a2,el]at fA
    clear a2 el
    obtain⟨⟨V,K,Q,U,I,O,J⟩,b9⟩:=e2
    have hA:Hid (Calls Tryz.prog 258 #[.pointer (some ⟨P,0,none⟩)] kg.drew fun e w3=> ∃(A2:Option Addr) (k2 c2:Nat),e= .returned (.agg #[.int .i64 V,.string K,.string Q,.int .i64 U,.int .i64 I,.int .i64 O,.string J,.slice A2 k2 c2])∧PsAt 68 P A c L w0 w3 fn∧Chg P kg w3∧Stb (H+1≤·) w3 (fun w'=>ExV w' (.mk ⟨V,K,Q,U,I,O,J⟩ b9) A2 k2 c2)):=
     fA.mono fun e w3 ⟨v,he,h5,y,A2,k2,c2,hv,h7⟩=>⟨A2,k2,c2,by rw[he,hv];rfl,h5,(Chg.of (Ext.refl kg).drew).trans y,h7.weak fun q _ h=>Nat.le_trans cj.lt h⟩
    clear fA
    obtain⟨pV,pH,-⟩:=cls np
    obtain⟨b0,b1,b2,b3,b4,b5,b6,b7,-⟩:=cls ag
    go_upto_region 6 with fail
    go_region_law (first
     |(go_simp;go_at_call 105;(with_reducible refine(cR _ _ _ _ _).mono ?_);rintro _ w5 ⟨rfl,cl⟩;have ac:Ext w3 w5:=((Ext.refl w3).alloc (.cells #[.int .i64 op,.string tb,.string nm,.int .i64 ix,.int .i64 vk,.int .i64 vi,.string vt,.slice Y X c1,.int .i64 V,.string K,.string Q,.int .i64 U,.int .i64 I,.int .i64 O,.string J,.slice A2 k2 c2] 37)).trans cl;have cf:=f6.ext ac;obtain⟨z0,z1,z2,z3,z4,z5,z6,z7,-⟩:=cls cf;obtain⟨y0,y1,y2,y3,y4,y5,y6,y7,-⟩:=frz cf)
     |(go_simp;go_at_call 258;(with_reducible refine hA.out.mono ?_);rintro _ w3 ⟨A2,k2,c2,rfl,h5,y,h7⟩;have bm:Blk w3 ga 37 (eC op tb nm ix vk vi vt Y X c1):=y.blk ag (by have:=b.out;have:=ax.out;omega);have f6:Blk w3 H 37 eZ:=y.blk cj (by have:=b.out;omega);obtain⟨d0,d1,d2,d3,d4,d5,d6,d7,-⟩:=cls bm;have oU:=y.keep pH ((show gy≠P by have:=b.out;have:=pm.out;omega));have pP:=((Ext.refl w3).alloc (.cells #[.int .i64 op,.string tb,.string nm,.int .i64 ix,.int .i64 vk,.int .i64 vi,.string vt,.slice Y X c1,.int .i64 V,.string K,.string Q,.int .i64 U,.int .i64 I,.int .i64 O,.string J,.slice A2 k2 c2] 37)).keep oU))
    all_goals
     have hG:H<w3.heap.size:=Nat.lt_of_lt_of_le cj.lt y.size
     have a4:ExS (H+1≤·) (w3.alloc (.cells #[.int .i64 op,.string tb,.string nm,.int .i64 ix,.int .i64 vk,.int .i64 vi,.string vt,.slice Y X c1,.int .i64 V,.string K,.string Q,.int .i64 U,.int .i64 I,.int .i64 O,.string J,.slice A2 k2 c2] 37)) (opE o [(.mk ⟨op,tb,nm,ix,vk,vi,vt⟩ ks),(.mk ⟨V,K,Q,U,I,O,J⟩ b9)]) (some ⟨w3.heap.size,0,none⟩) 2 2:=cS (S:=(H+1≤·)) pb hG (Stb.chg i2 y (by have:=b.out;omega)) h7
     have j:=ak H (eC o ⟨#[]⟩ ⟨#[]⟩ 0 0 0 ⟨#[]⟩ (some ⟨w3.heap.size,0,none⟩) 2 2) w5 0
     have ci:Hid (ExG (H+1) w5 (opE o [(.mk ⟨op,tb,nm,ix,vk,vi,vt⟩ ks),(.mk ⟨V,K,Q,U,I,O,J⟩ b9)]) (.agg #[.int .i64 o,.string ⟨#[]⟩,.string ⟨#[]⟩,.int .i64 0,.int .i64 0,.int .i64 0,.string ⟨#[]⟩,.slice (some ⟨w3.heap.size,0,none⟩) 2 2])):=⟨_,_,_,rfl,Stb.ext a4 cl⟩
     have hz:=aE cf (eC o ⟨#[]⟩ ⟨#[]⟩ 0 0 0 ⟨#[]⟩ (some ⟨w3.heap.size,0,none⟩) 2 2) rfl
     have bY:=hid (h5.ext ac)
     have cd:=hid ((e8.trans y).ext ac)
     have a0:=hid j
     simp only[sts]at hz
     have HZ:=hid hz
     clear h5 y h7 cl ac hz j a4 cf f6 bm z0 z1 z2 z3 z4 z5 z6 z7 y0 y1 y2 y3 y4 y5 y6 y7 d0 d1 d2 d3 d4 d5 d6 d7 b0 b1 b2 b3 b4 b5 b6 b7
     go_wp2_with fail
     obtain⟨q0,q1,q2,q3,q4,q5,q6,q7,-⟩:=cls HZ
     exact bodyPost_ret (v:= .agg #[.int .i64 o,.string ⟨#[]⟩,.string ⟨#[]⟩,.int .i64 0,.int .i64 0,.int .i64 0,.string ⟨#[]⟩,.slice (some ⟨w3.heap.size,0,none⟩) 2 2]) (by simp[results,Tryz.results220,go_sem,q0,q1,q2,q3,q4,q5,q6,q7]) rfl ⟨_,rfl,by rw[hQ.out,ht.out];exact bY.grown a0 (fun q h=>by have:=b.out;have:=Option.some.inj h;omega),cd.own a0 (fun q h=>by have:=Option.some.inj h;rw[cb.out];omega),by rw[hQ.out,h0.out,cb.out];exact eA ci a0 (Nat.lt_succ_self _)⟩
  ·obtain rfl:k=6:=by omega
   have oX:firstP opsCmp f=(none,f):=hf
   have HF:=hid oX
   clear hf oX hk pg
   have pG:Hid (ga<c0.heap.size):=c5.lt
   have oT:Hid (Stb (Sx H c0.heap.size) (c0.alloc (.cells #[.int .i64 0,.string ⟨#[]⟩,.string ⟨#[]⟩,.int .i64 0,.int .i64 0,.int .i64 0,.string ⟨#[]⟩,.slice none 0 0] 37)) fun w'=>ExV w' (.mk ⟨op,tb,nm,ix,vk,vi,vt⟩ ks) Y X c1):=Stb.ext (Stb.weak dd fun q h hn=>⟨hn,Nat.ne_of_lt h⟩) ((Ext.refl c0).alloc _)
   go_upto_region 10 with fail
   have hx:=(Ext.refl c0).alloc (.cells #[.int .i64 0,.string ⟨#[]⟩,.string ⟨#[]⟩,.int .i64 0,.int .i64 0,.int .i64 0,.string ⟨#[]⟩,.slice none 0 0] 37)
   have hB:=hid (f9.ext hx)
   have hM:=hid (i3.ext hx)
   have hE:=hid (it.ext hx)
   have gv:=hid (Stb.ext dd hx)
   have c8:=hid (c5.ext hx)
   have dx:=hid (cc.ext hx)
   have kb:=hid (Blk.of_new c0 37 eZ)
   have u:Hid (H<c0.heap.size):=f9.lt
   clear hx
   clear f9 i3 it dd c5 cc
   generalize c0.alloc (.cells #[.int .i64 0,.string ⟨#[]⟩,.string ⟨#[]⟩,.int .i64 0,.int .i64 0,.int .i64 0,.string ⟨#[]⟩,.slice none 0 0] 37)=pp at*
   generalize c0.heap.size=ge at*
   have ka:Hid (Stb (Sx H ge) pp fun w'=>ExV w' (.mk ⟨op,tb,nm,ix,vk,vi,vt⟩ ks) Y X c1):=oT.out
   have oN:ga≠ge:=by have:=pG.out;omega
   go_wp2_with fail
   refine(ai hE hL kIS).mono ?_
   rintro _ kg ⟨v,rfl,h1,a,rfl⟩
   have bw:=hid h1
   have cj:=hid (a.blk hB (by have:=b.out;omega))
   have e8:=hid (hM.trans a)
   have cA:=hid (Stb.chg2 ka a (by have:=b.out;omega))
   have ag:=hid (a.blk c8 (by have:=b.out;have:=ax.out;omega))
   have be:=hid (a.blk dx (by have:=b.out;have:=eb.out;omega))
   have dk:=hid (a.blk kb (by have:=b.out;have:=u.out;omega))
   clear h1 a
   clear hB hM hE ka c8 dx kb
   go_upto_if 30 with fail
   go_cut [6] from 9 (fun nv wx=> ∃(ng:Bool) (e:Ex) (B:Option Addr) (k c':Nat) (st:Ps),nv= .bool ng∧R=(negE ng e,st)∧PsAt 68 P A c L w0 wx st∧Blk wx ge 37 (e.d.cells B k c')∧Stb (H+1≤·) wx (fun w'=>ExV w' e B k c')∧Blk wx H 37 eZ∧Chg P w wx)
   case first=>
    have a6:Hid (R=if isS kIS f=true then (negE (isS kNOT f.next) (opE 17 [(.mk ⟨op,tb,nm,ix,vk,vi,vt⟩ ks)]),needP kNULL (optP kNOT f.next))
       else if isS kt (optP kNOT f)=true then (negE (isS kNOT f) (opE 16 [(.mk ⟨op,tb,nm,ix,vk,vi,vt⟩ ks),ei 2 0 (takP 4 (optP kNOT f).next).1]),(takP 4 (optP kNOT f).next).2)
       else if isS dI (optP kNOT f)=true then
        (negE (isS kNOT f) (opE 18 [opE 15 [(.mk ⟨op,tb,nm,ix,vk,vi,vt⟩ ks),(sumP p (optP kNOT f).next).1],opE 13 [(.mk ⟨op,tb,nm,ix,vk,vi,vt⟩ ks),(sumP p (needP kAND (sumP p (optP kNOT f).next).2)).1]]),(sumP p (needP kAND (sumP p (optP kNOT f).next).2)).2)
       else if isS kIN (optP kNOT f)=true then
        (negE (isS kNOT f) (inP (sumP p) (.mk ⟨op,tb,nm,ix,vk,vi,vt⟩ ks) (needP yLp (optP kNOT f).next)).1,needP yRp (inP (sumP p) (.mk ⟨op,tb,nm,ix,vk,vi,vt⟩ ks) (needP yLp (optP kNOT f).next)).2)
       else ((.mk ⟨op,tb,nm,ix,vk,vi,vt⟩ ks),if isS kNOT f=true then (optP kNOT f).fail else f)):=by
     unfold Hid
     rw[HM.out]
     unfold dL
     rw[HF.out]
    clear HM
    cases on:isS kIS f
    ·have e:(aq kIS f).2=f:=by simp[aq,on]
     rw[e]at bw
     clear e
     rw[on]at a6
     go_wp2_with fail
     refine(ai bw hL kNOT).mono ?_
     rintro _ k8 ⟨v,rfl,h1,a,rfl⟩
     rw[opt_eq]at h1
     have hF:=hid h1
     have hD:=hid (a.blk cj (by have:=b.out;omega))
     have hN:=hid (e8.trans a)
     have ee:=hid (Stb.chg2 cA a (by have:=b.out;omega))
     have cx:=hid (a.blk ag (by have:=b.out;have:=ax.out;omega))
     have c7:=hid (a.blk be (by have:=b.out;have:=eb.out;omega))
     have cw:=hid (a.blk dk (by have:=b.out;have:=u.out;omega))
     clear h1 a
     clear cj e8 bw cA ag be dk
     go_wp2_with fail
     refine(ai hF hL kt).mono ?_
     rintro _ f0 ⟨v,rfl,h1,a,rfl⟩
     have cy:=hid h1
     have es:=hid (a.blk hD (by have:=b.out;omega))
     have gk:=hid (hN.trans a)
     have ba:=hid (Stb.chg2 ee a (by have:=b.out;omega))
     have a3:=hid (a.blk cx (by have:=b.out;have:=ax.out;omega))
     have c9:=hid (a.blk c7 (by have:=b.out;have:=eb.out;omega))
     have a1:=hid (a.blk cw (by have:=b.out;have:=u.out;omega))
     clear h1 a
     clear hD hN hF ee cx c7 cw
     cases cv:isS kt (optP kNOT f)
     ·have e:(aq kt (optP kNOT f)).2=(optP kNOT f):=by simp[aq,cv]
      rw[e]at cy
      clear e
      rw[cv]at a6
      go_wp2_with fail
      refine(ai cy hL dI).mono ?_
      rintro _ k9 ⟨v,rfl,h1,a,rfl⟩
      have ex:=hid h1
      have f2:=hid (a.blk es (by have:=b.out;omega))
      have gb:=hid (gk.trans a)
      have df:=hid (Stb.chg2 ba a (by have:=b.out;omega))
      have cH:=hid (a.blk a3 (by have:=b.out;have:=ax.out;omega))
      have cs:=hid (a.blk c9 (by have:=b.out;have:=eb.out;omega))
      have ad:=hid (a.blk a1 (by have:=b.out;have:=u.out;omega))
      clear h1 a
      clear es gk cy ba a3 c9 a1
      cases a5:isS dI (optP kNOT f)
      ·have e:(aq dI (optP kNOT f)).2=(optP kNOT f):=by simp[aq,a5]
       rw[e]at ex
       clear e
       rw[a5]at a6
       go_wp2_with fail
       refine(ai ex hL kIN).mono ?_
       rintro _ an ⟨v,rfl,h1,a,rfl⟩
       have W:=hid h1
       have bk:=hid (a.blk f2 (by have:=b.out;omega))
       have bx:=hid (gb.trans a)
       have D:=hid (Stb.chg2 df a (by have:=b.out;omega))
       have E:=hid (a.blk cH (by have:=b.out;have:=ax.out;omega))
       have C:=hid (a.blk cs (by have:=b.out;have:=eb.out;omega))
       have z:=hid (a.blk ad (by have:=b.out;have:=u.out;omega))
       clear h1 a
       clear f2 gb ex df cH cs ad
       cases hi:isS kIN (optP kNOT f)
       ·have e:(aq kIN (optP kNOT f)).2=(optP kNOT f):=by simp[aq,hi]
        rw[e]at W
        clear e
        rw[hi]at a6
        cases hb:isS kNOT f
        ·have e:optP kNOT f=f:=by simp[optP,hb]
         rw[e]at W
         clear e
         have oq:=W.blk.cell_some (i:=2) rfl
         have ha:=W.blk.frozen 2
         have hl:=hid W.same
         cases oL:f.bad
         ·rw[oL]at hl oq
          have hc:Chg P an (an.setCell ⟨P,2,none⟩ (.bool false)):=(Chg.refl P an).set 2 _
          have bn:=hid hl
          have F:=hid (hc.blk bk (by have:=b.out;omega))
          have bN:=hid (bx.trans hc)
          have G:=hid (Stb.chg2 D hc (by have:=b.out;omega))
          have l:=hid (hc.blk E (by have:=b.out;have:=ax.out;omega))
          have bd:=hid (hc.blk C (by have:=b.out;have:=eb.out;omega))
          have Z:=hid (hc.blk z (by have:=b.out;have:=u.out;omega))
          clear hc hl
          clear bk bx W D E C z
          go_upto_region 16 with fail
          generalize an.setCell ⟨P,2,none⟩ (.bool false)=a9 at*
          obtain⟨b0,b1,b2,b3,b4,b5,b6,b7,-⟩:=cls l
          have hg:Hid (ExG (H+1) a9 (.mk ⟨op,tb,nm,ix,vk,vi,vt⟩ ks) (.agg #[.int .i64 op,.string tb,.string nm,.int .i64 ix,.int .i64 vk,.int .i64 vi,.string vt,.slice Y X c1])):=⟨Y,X,c1,rfl,Stb.weak G (fun q _ h=>h.1)⟩
          have hu:Hid (R.1=(.mk ⟨op,tb,nm,ix,vk,vi,vt⟩ ks)):=by
           rw[a6.out,hb]
           rfl
          have gr:Hid (R.2=f):=by
           rw[a6.out,hb]
           rfl
          obtain⟨z0,z1,z2,z3,z4,z5,z6,z7,-⟩:=cls F
          obtain⟨y0,y1,y2,y3,y4,y5,y6,y7,-⟩:=frz F
          have hz:=aE F (eC op tb nm ix vk vi vt Y X c1) rfl
          have a0:=hid (ak H (eC op tb nm ix vk vi vt Y X c1) a9 0)
          simp only[sts]at hz
          have HZ:=hid hz
          clear hz
          go_wp2_with fail
          obtain⟨q0,q1,q2,q3,q4,q5,q6,q7,-⟩:=cls HZ
          exact bodyPost_ret (v:= .agg #[.int .i64 op,.string tb,.string nm,.int .i64 ix,.int .i64 vk,.int .i64 vi,.string vt,.slice Y X c1]) (by simp[results,Tryz.results220,go_sem,q0,q1,q2,q3,q4,q5,q6,q7]) rfl ⟨_,rfl,by rw[gr.out];exact bn.grown a0 (fun q h=>by have:=b.out;have:=Option.some.inj h;omega),bN.own a0 (fun q h=>by have:=Option.some.inj h;rw[cb.out];omega),by rw[hu.out,cb.out];exact eA hg a0 (Nat.lt_succ_self _)⟩
         ·rw[oL]at hl oq
          have hc:Chg P an (an.setCell ⟨P,2,none⟩ (.bool true)):=(Chg.refl P an).set 2 _
          have bn:=hid hl
          have F:=hid (hc.blk bk (by have:=b.out;omega))
          have bN:=hid (bx.trans hc)
          have G:=hid (Stb.chg2 D hc (by have:=b.out;omega))
          have l:=hid (hc.blk E (by have:=b.out;have:=ax.out;omega))
          have bd:=hid (hc.blk C (by have:=b.out;have:=eb.out;omega))
          have Z:=hid (hc.blk z (by have:=b.out;have:=u.out;omega))
          clear hc hl
          clear bk bx W D E C z
          go_upto_region 16 with fail
          generalize an.setCell ⟨P,2,none⟩ (.bool true)=a9 at*
          obtain⟨b0,b1,b2,b3,b4,b5,b6,b7,-⟩:=cls l
          have hg:Hid (ExG (H+1) a9 (.mk ⟨op,tb,nm,ix,vk,vi,vt⟩ ks) (.agg #[.int .i64 op,.string tb,.string nm,.int .i64 ix,.int .i64 vk,.int .i64 vi,.string vt,.slice Y X c1])):=⟨Y,X,c1,rfl,Stb.weak G (fun q _ h=>h.1)⟩
          have hu:Hid (R.1=(.mk ⟨op,tb,nm,ix,vk,vi,vt⟩ ks)):=by
           rw[a6.out,hb]
           rfl
          have gr:Hid (R.2=f):=by
           rw[a6.out,hb]
           rfl
          obtain⟨z0,z1,z2,z3,z4,z5,z6,z7,-⟩:=cls F
          obtain⟨y0,y1,y2,y3,y4,y5,y6,y7,-⟩:=frz F
          have hz:=aE F (eC op tb nm ix vk vi vt Y X c1) rfl
          have a0:=hid (ak H (eC op tb nm ix vk vi vt Y X c1) a9 0)
          simp only[sts]at hz
          have HZ:=hid hz
          clear hz
          go_wp2_with fail
          obtain⟨q0,q1,q2,q3,q4,q5,q6,q7,-⟩:=cls HZ
          exact bodyPost_ret (v:= .agg #[.int .i64 op,.string tb,.string nm,.int .i64 ix,.int .i64 vk,.int .i64 vi,.string vt,.slice Y X c1]) (by simp[results,Tryz.results220,go_sem,q0,q1,q2,q3,q4,q5,q6,q7]) rfl ⟨_,rfl,by rw[gr.out];exact bn.grown a0 (fun q h=>by have:=b.out;have:=Option.some.inj h;omega),bN.own a0 (fun q h=>by have:=Option.some.inj h;rw[cb.out];omega),by rw[hu.out,cb.out];exact eA hg a0 (Nat.lt_succ_self _)⟩
        ·have e:(optP kNOT f).bad=false:=by
          have:=ce hb
          simp[optP,hb,Ps.next,this.1]
         have oq:=W.blk.cell_some (i:=2) rfl
         have ha:=W.blk.frozen 2
         rw[e]at oq
         clear e
         have hl:=hid W.fail
         have hc:Chg P an (an.setCell ⟨P,2,none⟩ (.bool true)):=(Chg.refl P an).set 2 _
         have bn:=hid hl
         have F:=hid (hc.blk bk (by have:=b.out;omega))
         have bN:=hid (bx.trans hc)
         have G:=hid (Stb.chg2 D hc (by have:=b.out;omega))
         have l:=hid (hc.blk E (by have:=b.out;have:=ax.out;omega))
         have bd:=hid (hc.blk C (by have:=b.out;have:=eb.out;omega))
         have Z:=hid (hc.blk z (by have:=b.out;have:=u.out;omega))
         clear hc hl
         clear bk bx W D E C z
         go_upto_region 16 with fail
         generalize an.setCell ⟨P,2,none⟩ (.bool true)=a9 at*
         obtain⟨b0,b1,b2,b3,b4,b5,b6,b7,-⟩:=cls l
         have hg:Hid (ExG (H+1) a9 (.mk ⟨op,tb,nm,ix,vk,vi,vt⟩ ks) (.agg #[.int .i64 op,.string tb,.string nm,.int .i64 ix,.int .i64 vk,.int .i64 vi,.string vt,.slice Y X c1])):=⟨Y,X,c1,rfl,Stb.weak G (fun q _ h=>h.1)⟩
         have hu:Hid (R.1=(.mk ⟨op,tb,nm,ix,vk,vi,vt⟩ ks)):=by
          rw[a6.out,hb]
          rfl
         have gr:Hid (R.2=(optP kNOT f).fail):=by
          rw[a6.out,hb]
          rfl
         obtain⟨z0,z1,z2,z3,z4,z5,z6,z7,-⟩:=cls F
         obtain⟨y0,y1,y2,y3,y4,y5,y6,y7,-⟩:=frz F
         have hz:=aE F (eC op tb nm ix vk vi vt Y X c1) rfl
         have a0:=hid (ak H (eC op tb nm ix vk vi vt Y X c1) a9 0)
         simp only[sts]at hz
         have HZ:=hid hz
         clear hz
         go_wp2_with fail
         obtain⟨q0,q1,q2,q3,q4,q5,q6,q7,-⟩:=cls HZ
         exact bodyPost_ret (v:= .agg #[.int .i64 op,.string tb,.string nm,.int .i64 ix,.int .i64 vk,.int .i64 vi,.string vt,.slice Y X c1]) (by simp[results,Tryz.results220,go_sem,q0,q1,q2,q3,q4,q5,q6,q7]) rfl ⟨_,rfl,by rw[gr.out];exact bn.grown a0 (fun q h=>by have:=b.out;have:=Option.some.inj h;omega),bN.own a0 (fun q h=>by have:=Option.some.inj h;rw[cb.out];omega),by rw[hu.out,cb.out];exact eA hg a0 (Nat.lt_succ_self _)⟩
       ·have e:(aq kIN (optP kNOT f)).2=(optP kNOT f).next:=by simp[aq,hi]
        rw[e]at W
        clear e
        rw[hi]at a6
        go_wp2_with fail
        refine(az (W.ext ((Ext.refl an).alloc (.cells #[.string yLp] 9))) hL yLp an.heap.size (by simp[World.cell?_alloc_new])).mono ?_
        rintro _ a9 ⟨v,rfl,h1,a,_⟩
        replace a:Chg P an a9:=(Chg.of ((Ext.refl an).alloc (.cells #[.string yLp] 9))).trans a
        have bn:=hid h1
        have F:=hid (a.blk bk (by have:=b.out;omega))
        have bN:=hid (bx.trans a)
        have G:=hid (Stb.chg2 D a (by have:=b.out;omega))
        have l:=hid (a.blk E (by have:=b.out;have:=ax.out;omega))
        have bd:=hid (a.blk C (by have:=b.out;have:=eb.out;omega))
        have Z:=hid (a.blk z (by have:=b.out;have:=u.out;omega))
        clear h1 a
        clear bk bx W D E C z
        have oO:(needP yLp (optP kNOT f).next).r.length≤s.r.length:=Nat.le_trans (aH _ _) (Nat.le_trans (next_len _) (Nat.le_trans (opt_len _ _) oA))
        have ky:Hid (inP (sumP p) (.mk ⟨op,tb,nm,ix,vk,vi,vt⟩ ks) (needP yLp (optP kNOT f).next)=fp (sumP p) (.mk ⟨op,tb,nm,ix,vk,vi,vt⟩ ks) ((needP yLp (optP kNOT f).next).r.length+1) (opE 10 [(.mk ⟨op,tb,nm,ix,vk,vi,vt⟩ ks),((sumP p) (needP yLp (optP kNOT f).next)).1]) ((sumP p) (needP yLp (optP kNOT f).next)).2):=rfl
        have ha:=eY no (needP yLp (optP kNOT f).next)
        obtain⟨IN,o0⟩:∃x,inP (sumP p) (.mk ⟨op,tb,nm,ix,vk,vi,vt⟩ ks) (needP yLp (optP kNOT f).next)=x:=⟨_,rfl⟩
        rw[o0]at ky a6
        clear o0
        have fA:=hid (hr a9.drew (needP yLp (optP kNOT f).next) (bn.ext (Ext.refl a9).drew) (by omega))
        obtain⟨fn,a2⟩:∃x,((sumP p) (needP yLp (optP kNOT f).next)).2=x:=⟨_,rfl⟩
        obtain⟨e2,el⟩:∃x,((sumP p) (needP yLp (optP kNOT f).next)).1=x:=⟨_,rfl⟩
        have h0:=hid el
        have ht:=hid a2
        rw[a2,el]at fA
        clear a2 el
        obtain⟨⟨V,K,Q,U,I,O,J⟩,b9⟩:=e2
        have hA:Hid (Calls Tryz.prog 258 #[.pointer (some ⟨P,0,none⟩)] a9.drew fun e w3=> ∃(A2:Option Addr) (k2 c2:Nat),e= .returned (.agg #[.int .i64 V,.string K,.string Q,.int .i64 U,.int .i64 I,.int .i64 O,.string J,.slice A2 k2 c2])∧PsAt 68 P A c L w0 w3 fn∧Chg P a9 w3∧Stb (Sx H ge) w3 (fun w'=>ExV w' (.mk ⟨V,K,Q,U,I,O,J⟩ b9) A2 k2 c2)):=
         fA.mono fun e w3 ⟨v,he,h5,y,A2,k2,c2,hv,h7⟩=>⟨A2,k2,c2,by rw[he,hv];rfl,h5,(Chg.of (Ext.refl a9).drew).trans y,h7.weak fun q _ h=>⟨Nat.le_trans F.lt h,by have h8:=Z.lt;have h9:a9.heap.size≤q:=h;omega⟩⟩
        clear fA
        rw[ht.out,h0.out]at ky
        rw[ht.out]at ha
        clear ht h0
        obtain⟨oW,os⟩:∃m,(needP yLp (optP kNOT f).next).r.length+1=m:=⟨_,rfl⟩
        rw[os]at ky
        have pw:fn.r.length<oW:=by omega
        have pB:fn.r.length≤s.r.length:=by omega
        clear os oO ha
        have o7:=hid ky
        clear ky
        obtain⟨stI,ot⟩:∃x,(needP yLp (optP kNOT f).next)=x:=⟨_,rfl⟩
        rw[ot]at bn
        clear ot
        obtain⟨b0,b1,b2,b3,b4,b5,b6,b7,-⟩:=cls l
        go_upto_region 25 with fail
        go_cut [6] from 87 to 91 (fun nv wx=>nv= .bool (isS kNOT f)∧∃(B:Option Addr) (k c':Nat),PsAt 68 P A c L w0 wx fn∧Blk wx ge 37 ((opE 10 [(.mk ⟨op,tb,nm,ix,vk,vi,vt⟩ ks),(.mk ⟨V,K,Q,U,I,O,J⟩ b9)]).d.cells B k c')∧Stb (Sx H ge) wx (fun w'=>ExV w' (opE 10 [(.mk ⟨op,tb,nm,ix,vk,vi,vt⟩ ks),(.mk ⟨V,K,Q,U,I,O,J⟩ b9)]) B k c')∧Blk wx ga 37 (eC op tb nm ix vk vi vt Y X c1)∧Stb (Sx H ge) wx (fun w'=>ExV w' (.mk ⟨op,tb,nm,ix,vk,vi,vt⟩ ks) Y X c1)∧Blk wx H 37 eZ∧Chg P w wx)
        case first=>
         go_region_law (first
          |(go_simp;go_at_call 105;(with_reducible refine(cR _ _ _ _ _).mono ?_);rintro _ w5 ⟨rfl,cl⟩;have ac:Ext w3 w5:=((Ext.refl w3).alloc (.cells #[.int .i64 op,.string tb,.string nm,.int .i64 ix,.int .i64 vk,.int .i64 vi,.string vt,.slice Y X c1,.int .i64 V,.string K,.string Q,.int .i64 U,.int .i64 I,.int .i64 O,.string J,.slice A2 k2 c2] 37)).trans cl;have cf:=f6.ext ac;obtain⟨z0,z1,z2,z3,z4,z5,z6,z7,-⟩:=cls cf;obtain⟨y0,y1,y2,y3,y4,y5,y6,y7,-⟩:=frz cf)
          |(go_simp;go_at_call 258;(with_reducible refine hA.out.mono ?_);rintro _ w3 ⟨A2,k2,c2,rfl,h5,y,h7⟩;have bm:Blk w3 ga 37 (eC op tb nm ix vk vi vt Y X c1):=y.blk l (by have:=b.out;have:=ax.out;omega);have f6:Blk w3 ge 37 eZ:=y.blk Z (by have:=b.out;have:=u.out;omega);obtain⟨d0,d1,d2,d3,d4,d5,d6,d7,-⟩:=cls bm))
         all_goals
          have hG:Sx H ge w3.heap.size:=⟨Nat.lt_of_lt_of_le F.lt y.size,by have:=Nat.lt_of_lt_of_le Z.lt y.size;omega⟩
          have is:=Stb.chg2 G y (by have:=b.out;omega)
          have a4:=cS (S:=Sx H ge) (T:=37) (o:=10) (by unfold I64;omega) hG is h7
          have j:=ak ge (eC 10 ⟨#[]⟩ ⟨#[]⟩ 0 0 0 ⟨#[]⟩ (some ⟨w3.heap.size,0,none⟩) 2 2) w5 0
          have bY:=hid ((h5.ext ac).grown j (fun q h=>by have:=Option.some.inj h;have:=b.out;have:=u.out;omega))
          have ds:=hid (aE cf (eC 10 ⟨#[]⟩ ⟨#[]⟩ 0 0 0 ⟨#[]⟩ (some ⟨w3.heap.size,0,none⟩) 2 2) rfl)
          have ci:=hid (Stb.grown (Stb.ext a4 cl) j (fun q h e=>h.2 (Option.some.inj e).symm))
          have k0:=hid (Stb.grown (Stb.ext is ac) j (fun q h e=>h.2 (Option.some.inj e).symm))
          have l9:=hid (((y.blk l (by have:=b.out;have:=ax.out;omega)).ext ac).grown j (fun e=>oN (Option.some.inj e)))
          have dc:=hid (((y.blk F (by have:=b.out;omega)).ext ac).grown j (fun e=>by have:=Option.some.inj e;have:=u.out;omega))
          have cd:=hid (((bN.trans y).ext ac).own j (fun q h=>by have:=Option.some.inj h;have:=u.out;rw[cb.out];omega))
          simp only[sts]at bY ds ci k0 l9 dc cd
          clear j a4 is h5 y
          go_wp2_with fail
          go_meet
          exact⟨rfl,_,_,_,bY,ds,ci,l9,k0,dc,cd⟩
        case rest=>
         obtain⟨rfl,B,k,c',h1,a,h3,h4,h5,y,h7⟩:=hcut
         clear bn F bN G l bd Z hA
         have pz:=wc
         clear pz
         go_wp2_with fail
         go_loopw [93] (fun _ wr=> ∃(m:Nat) (e:Ex) (B:Option Addr) (k c':Nat) (st:Ps),st.r.length<m∧st.r.length≤s.r.length∧IN=fp (sumP p) (.mk ⟨op,tb,nm,ix,vk,vi,vt⟩ ks) m e st∧PsAt 68 P A c L w0 wr st∧Blk wr ge 37 (e.d.cells B k c')∧Stb (Sx H ge) wr (fun w'=>ExV w' e B k c')∧Blk wr ga 37 (eC op tb nm ix vk vi vt Y X c1)∧Stb (Sx H ge) wr (fun w'=>ExV w' (.mk ⟨op,tb,nm,ix,vk,vi,vt⟩ ks) Y X c1)∧Blk wr H 37 eZ∧Chg P w wr) (fun _ wr=>20001-posOf P wr)
         case atStart=>exact⟨oW,_,B,k,c',fn,pw,pB,o7,h1,a,h3,h4,h5,y,h7⟩
         case round=>
          obtain⟨m,e7,A3,k3,c3,f4,hm,pS,hI,g1,g2,g3,g4,g5,g6,g7⟩:=hrel
          clear h1 a h3 h4 h5 y h7 o7
          obtain⟨m,rfl⟩:∃x,m=x+1:=⟨m-1,by omega⟩
          rw[fp]at hI
          have HI:=hid hI
          obtain⟨⟨il,hY,ip,ic,ie,ih,ik⟩,oR⟩:=e7
          have ow:=hid g1
          have i9:Hid (Blk wr ge 37 (eC il hY ip ic ie ih ik A3 k3 c3)):=g2
          have jl:=hid g3
          have kd:=hid g4
          have kf:=hid g5
          have ou:=hid g6
          have ov:=hid g7
          have pO:Hid (posOf P wr=L.length-f4.r.length):=g1.posOf
          have pQ:=g1.le
          have pR:=g1.ne
          clear hI g1 g2 g3 g4 g5 g6 g7
          generalize wr=pU at*
          go_wp2_with fail
          refine(ai ow hL yCm).mono ?_
          rintro _ f7 ⟨v,rfl,h1,a,rfl⟩
          have hC:=hid h1
          have gd:=hid (a.blk ou (by have:=b.out;omega))
          have kx:=hid (ov.trans a)
          have hw:=hid (Stb.chg2 kf a (by have:=b.out;omega))
          have hj:=hid (Stb.chg2 jl a (by have:=b.out;omega))
          have c6:=hid (a.blk kd (by have:=b.out;have:=ax.out;omega))
          have bf:=hid (a.blk i9 (by have:=b.out;have:=u.out;omega))
          clear h1 a
          clear ou ov ow kf jl kd i9
          cases nb:isS yCm f4
          ·have e:(aq yCm f4).2=f4:=by simp[aq,nb]
           rw[e]at hC
           clear e
           rw[nb]at HI
           go_wp2_with fail
           refine(az (hC.ext ((Ext.refl f7).alloc (.cells #[.string yRp] 9))) hL yRp f7.heap.size (by simp[World.cell?_alloc_new])).mono ?_
           rintro _ pA ⟨v,rfl,h1,a,_⟩
           replace a:Chg P f7 pA:=(Chg.of ((Ext.refl f7).alloc (.cells #[.string yRp] 9))).trans a
           have pe:=hid h1
           have pd:=hid (a.blk gd (by have:=b.out;omega))
           have pj:=hid (kx.trans a)
           have pv:=hid (Stb.chg2 hw a (by have:=b.out;omega))
           have oo:=hid (Stb.chg2 hj a (by have:=b.out;omega))
           have ps:=hid (a.blk c6 (by have:=b.out;have:=ax.out;omega))
           have ol:=hid (a.blk bf (by have:=b.out;have:=u.out;omega))
           clear h1 a
           clear gd kx hC hw hj c6 bf
           go_wp2_with fail
           go_meet
           refine⟨isS kNOT f,(.mk ⟨il,hY,ip,ic,ie,ih,ik⟩ oR),A3,k3,c3,_,rfl,?_,pe,ol,Stb.weak oo (fun q _ h=>h.1),pd,pj⟩
           rw[a6.out,HI.out]
           rfl
          ·have e:(aq yCm f4).2=f4.next:=by simp[aq,nb]
           rw[e]at hC
           clear e
           rw[nb]at HI
           have pM:=aM nb
           have pD:=eY no f4.next
           have fA:=hid (hr f7.drew f4.next (hC.ext (Ext.refl f7).drew) (by omega))
           obtain⟨fn,a2⟩:∃x,((sumP p) f4.next).2=x:=⟨_,rfl⟩
           obtain⟨e2,el⟩:∃x,((sumP p) f4.next).1=x:=⟨_,rfl⟩
           have h0:=hid el
           have ht:=hid a2
           rw[a2,el]at fA
           clear a2 el
           obtain⟨⟨V,K,Q,U,I,O,J⟩,b9⟩:=e2
           have hA:Hid (Calls Tryz.prog 258 #[.pointer (some ⟨P,0,none⟩)] f7.drew fun e w3=> ∃(A2:Option Addr) (k2 c2:Nat),e= .returned (.agg #[.int .i64 V,.string K,.string Q,.int .i64 U,.int .i64 I,.int .i64 O,.string J,.slice A2 k2 c2])∧PsAt 68 P A c L w0 w3 fn∧Chg P f7 w3∧Stb (Sx H ge) w3 (fun w'=>ExV w' (.mk ⟨V,K,Q,U,I,O,J⟩ b9) A2 k2 c2)):=
            fA.mono fun e w3 ⟨v,he,h5,y,A2,k2,c2,hv,h7⟩=>⟨A2,k2,c2,by rw[he,hv];rfl,h5,(Chg.of (Ext.refl f7).drew).trans y,h7.weak fun q _ h=>⟨Nat.le_trans gd.lt h,by have h8:=bf.lt;have h9:f7.heap.size≤q:=h;omega⟩⟩
           clear fA
           have px:Hid (IN=fp (sumP p) (.mk ⟨op,tb,nm,ix,vk,vi,vt⟩ ks) m (opE 19 [(.mk ⟨il,hY,ip,ic,ie,ih,ik⟩ oR),opE 10 [(.mk ⟨op,tb,nm,ix,vk,vi,vt⟩ ks),(.mk ⟨V,K,Q,U,I,O,J⟩ b9)]]) fn):=by
            unfold Hid
            rw[←ht.out,←h0.out]
            exact HI
           rw[ht.out]at pD
           clear HI ht h0
           obtain⟨b0,b1,b2,b3,b4,b5,b6,b7,-⟩:=cls c6
           obtain⟨n0,n1,n2,n3,n4,n5,n6,n7,-⟩:=cls bf
           go_upto_region 27 with fail
           go_region_law (first
            |(go_simp;go_at_call 105;(with_reducible refine(cR 10 _ _ _ _).mono ?_);rintro _ w4 ⟨rfl,f3⟩;have g8:Ext w3 w4:=((Ext.refl w3).alloc (.cells #[.int .i64 op,.string tb,.string nm,.int .i64 ix,.int .i64 vk,.int .i64 vi,.string vt,.slice Y X c1,.int .i64 V,.string K,.string Q,.int .i64 U,.int .i64 I,.int .i64 O,.string J,.slice A2 k2 c2] 37)).trans f3;have oi:Blk w4 ge 37 (eC il hY ip ic ie ih ik A3 k3 c3):=f6.ext g8;obtain⟨p0,p1,p2,p3,p4,p5,p6,p7,-⟩:=cls oi)
            |(go_simp;go_at_call 105;(with_reducible refine(cR 19 _ _ _ _).mono ?_);rintro _ w5 ⟨rfl,cl⟩;have ac:Ext w4 w5:=((Ext.refl w4).alloc (.cells #[.int .i64 il,.string hY,.string ip,.int .i64 ic,.int .i64 ie,.int .i64 ih,.string ik,.slice A3 k3 c3,.int .i64 10,.string ⟨#[]⟩,.string ⟨#[]⟩,.int .i64 0,.int .i64 0,.int .i64 0,.string ⟨#[]⟩,.slice (some ⟨w3.heap.size,0,none⟩) 2 2] 37)).trans cl;have cf:=oi.ext ac;obtain⟨z0,z1,z2,z3,z4,z5,z6,z7,-⟩:=cls cf;obtain⟨y0,y1,y2,y3,y4,y5,y6,y7,-⟩:=frz cf)
            |(go_simp;go_at_call 258;(with_reducible refine hA.out.mono ?_);rintro _ w3 ⟨A2,k2,c2,rfl,h5,y,h7⟩;have bm:Blk w3 ga 37 (eC op tb nm ix vk vi vt Y X c1):=y.blk c6 (by have:=b.out;have:=ax.out;omega);have f6:Blk w3 ge 37 (eC il hY ip ic ie ih ik A3 k3 c3):=y.blk bf (by have:=b.out;have:=u.out;omega);obtain⟨d0,d1,d2,d3,d4,d5,d6,d7,-⟩:=cls bm;obtain⟨x0,x1,x2,x3,x4,x5,x6,x7,-⟩:=cls f6;have pE:Blk (w3.alloc (.cells #[.int .i64 op,.string tb,.string nm,.int .i64 ix,.int .i64 vk,.int .i64 vi,.string vt,.slice Y X c1,.int .i64 V,.string K,.string Q,.int .i64 U,.int .i64 I,.int .i64 O,.string J,.slice A2 k2 c2] 37)) ge 37 (eC il hY ip ic ie ih ik A3 k3 c3):=f6.ext ((Ext.refl w3).alloc _);obtain⟨m0,m1,m2,m3,m4,m5,m6,m7,-⟩:=cls pE))
           all_goals
            have hG:Sx H ge w3.heap.size:=⟨Nat.lt_of_lt_of_le gd.lt y.size,by have:=Nat.lt_of_lt_of_le bf.lt y.size;omega⟩
            have k7:Sx H ge w4.heap.size:=⟨Nat.lt_of_lt_of_le gd.lt (Nat.le_trans y.size g8.size),by have:=Nat.lt_of_lt_of_le bf.lt (Nat.le_trans y.size g8.size);omega⟩
            have is:=Stb.chg2 hw y (by have:=b.out;omega)
            have pL:=Stb.ext (cS (S:=Sx H ge) (T:=37) (o:=10) (by unfold I64;omega) hG is h7) f3
            have a4:=cS (S:=Sx H ge) (T:=37) (o:=19) (by unfold I64;omega) k7 (Stb.ext (Stb.chg2 hj y (by have:=b.out;omega)) g8) pL
            have j:=ak ge (eC 19 ⟨#[]⟩ ⟨#[]⟩ 0 0 0 ⟨#[]⟩ (some ⟨w4.heap.size,0,none⟩) 2 2) w5 0
            have bY:=hid ((h5.ext (g8.trans ac)).grown j (fun q h=>by have:=Option.some.inj h;have:=b.out;have:=u.out;omega))
            have ds:=hid (aE cf (eC 19 ⟨#[]⟩ ⟨#[]⟩ 0 0 0 ⟨#[]⟩ (some ⟨w4.heap.size,0,none⟩) 2 2) rfl)
            have ci:=hid (Stb.grown (Stb.ext a4 cl) j (fun q h e=>h.2 (Option.some.inj e).symm))
            have k0:=hid (Stb.grown (Stb.ext is (g8.trans ac)) j (fun q h e=>h.2 (Option.some.inj e).symm))
            have l9:=hid (((y.blk c6 (by have:=b.out;have:=ax.out;omega)).ext (g8.trans ac)).grown j (fun e=>oN (Option.some.inj e)))
            have dc:=hid (((y.blk gd (by have:=b.out;omega)).ext (g8.trans ac)).grown j (fun e=>by have:=Option.some.inj e;have:=u.out;omega))
            have cd:=hid (((kx.trans y).ext (g8.trans ac)).own j (fun q h=>by have:=Option.some.inj h;have:=u.out;rw[cb.out];omega))
            simp only[sts]at bY ds ci k0 l9 dc cd
            clear j a4 is h5 y
            go_wp2_with fail
            exact⟨⟨m,_,some ⟨w4.heap.size,0,none⟩,2,2,fn,by omega,by omega,px,bY,ds,ci,l9,k0,dc,cd⟩,by rw[bY.out.posOf,pO.out];have:=hL.len;omega⟩
      ·have e:(aq dI (optP kNOT f)).2=(optP kNOT f).next:=by simp[aq,a5]
       rw[e]at ex
       clear e
       rw[a5]at a6
       have oO:(optP kNOT f).next.r.length≤s.r.length:=Nat.le_trans (next_len _) (Nat.le_trans (opt_len _ _) oA)
       have ha:=eY no (optP kNOT f).next
       go_wp2_with fail
       refine(hr k9 (optP kNOT f).next ex (by omega)).mono ?_
       rintro _ an ⟨v,rfl,h1,a,A4,k4,c4,rfl,h3⟩
       have W:=hid h1
       have bk:=hid (a.blk f2 (by have:=b.out;omega))
       have bx:=hid (gb.trans a)
       have D:=hid (Stb.chg2 df a (by have:=b.out;omega))
       have E:=hid (a.blk cH (by have:=b.out;have:=ax.out;omega))
       have C:=hid (a.blk cs (by have:=b.out;have:=eb.out;omega))
       have z:=hid (a.blk ad (by have:=b.out;have:=u.out;omega))
       obtain⟨e4,oP⟩:∃e,((sumP p) (optP kNOT f).next).1=e:=⟨_,rfl⟩
       obtain⟨kk,ox⟩:∃x,((sumP p) (optP kNOT f).next).2=x:=⟨_,rfl⟩
       rw[oP]at h3 a6 ⊢
       rw[ox]at a6 ha W
       clear oP ox
       obtain⟨⟨hP,hS,hX,iq,hT,hV,hO⟩,pq⟩:=e4
       unfold Nd.val
       simp only[Ex.d]
       have iz:Hid (Stb (Sx H ge) an fun w'=>ExV w' (.mk ⟨hP,hS,hX,iq,hT,hV,hO⟩ pq) A4 k4 c4):=h3.weak fun q _ h=>⟨Nat.le_trans f2.lt h,by have h8:=ad.lt;have h9:k9.heap.size≤q:=h;omega⟩
       clear h1 a h3
       clear f2 gb ex df cH cs ad
       go_upto_region 21 with fail
       have hx:=(Ext.refl an).alloc (.cells #[.int .i64 hP,.string hS,.string hX,.int .i64 iq,.int .i64 hT,.int .i64 hV,.string hO,.slice A4 k4 c4] 37)
       have F:=hid (bk.ext hx)
       have bN:=hid (bx.ext hx)
       have bn:=hid (W.ext hx)
       have G:=hid (Stb.ext D hx)
       have kc:=hid (Stb.ext iz hx)
       have l:=hid (E.ext hx)
       have bd:=hid (C.ext hx)
       have Z:=hid (z.ext hx)
       have i5:=hid (Blk.of_new an 37 (eC hP hS hX iq hT hV hO A4 k4 c4))
       have pN:Hid (H<an.heap.size):=bk.lt
       clear hx
       clear bk bx W D iz E C z
       generalize an.alloc (.cells #[.int .i64 hP,.string hS,.string hX,.int .i64 iq,.int .i64 hT,.int .i64 hV,.string hO,.slice A4 k4 c4] 37)=a9 at*
       generalize an.heap.size=gl at*
       go_wp2_with fail
       refine(az (bn.ext ((Ext.refl a9).alloc (.cells #[.string kAND] 9))) hL kAND a9.heap.size (by simp[World.cell?_alloc_new])).mono ?_
       rintro _ f1 ⟨v,rfl,h1,a,_⟩
       replace a:Chg P a9 f1:=(Chg.of ((Ext.refl a9).alloc (.cells #[.string kAND] 9))).trans a
       have oQ:=hid h1
       have lw:=hid (a.blk F (by have:=b.out;omega))
       have pi:=hid (bN.trans a)
       have i4:=hid (Stb.chg2 G a (by have:=b.out;omega))
       have nj:=hid (Stb.chg2 kc a (by have:=b.out;omega))
       have hh:=hid (a.blk l (by have:=b.out;have:=ax.out;omega))
       have pt:=hid (a.blk bd (by have:=b.out;have:=eb.out;omega))
       have fs:=hid (a.blk Z (by have:=b.out;have:=u.out;omega))
       have oj:=hid (a.blk i5 (by have:=b.out;have:=pN.out;omega))
       clear h1 a
       clear F bN bn G kc l bd Z i5
       have pY:=aH kAND kk
       have hA:Hid (∀W',PsAt 68 P A c L w0 W' (needP kAND kk)→H+1≤W'.heap.size→ge<W'.heap.size→Calls Tryz.prog 258 #[.pointer (some ⟨P,0,none⟩)] W' fun e w4=> ∃(A2:Option Addr) (k2 c2:Nat) (V:Int) (K Q:ByteArray) (U I O:Int) (J:ByteArray) (b9:List Ex),(sumP p (needP kAND kk)).1=(.mk ⟨V,K,Q,U,I,O,J⟩ b9)∧e= .returned (.agg #[.int .i64 V,.string K,.string Q,.int .i64 U,.int .i64 I,.int .i64 O,.string J,.slice A2 k2 c2])∧PsAt 68 P A c L w0 w4 (sumP p (needP kAND kk)).2∧Chg P W' w4∧Stb (Sx H ge) w4 (fun w'=>ExV w' (.mk ⟨V,K,Q,U,I,O,J⟩ b9) A2 k2 c2)):=by
        intro W' hW h8 h9
        refine(hr W' (needP kAND kk) hW (by omega)).mono ?_
        rintro e w4 ⟨v,rfl,h5,y,A2,k2,c2,rfl,h7⟩
        obtain⟨e2,el⟩:∃x,(sumP p (needP kAND kk)).1=x:=⟨_,rfl⟩
        rw[el]at h7 ⊢
        obtain⟨⟨V,K,Q,U,I,O,J⟩,b9⟩:=e2
        exact⟨A2,k2,c2,V,K,Q,U,I,O,J,b9,rfl,rfl,h5,y,h7.weak fun q _ h=>by have h:W'.heap.size≤q:=h;exact⟨by omega,by omega⟩⟩
       have pF:Ext f1 (f1.alloc (.cells #[.int .i64 op,.string tb,.string nm,.int .i64 ix,.int .i64 vk,.int .i64 vi,.string vt,.slice Y X c1,.int .i64 hP,.string hS,.string hX,.int .i64 iq,.int .i64 hT,.int .i64 hV,.string hO,.slice A4 k4 c4] 37)).drew:=((Ext.refl f1).alloc _).drew
       have pK:Hid (Blk (f1.alloc (.cells #[.int .i64 op,.string tb,.string nm,.int .i64 ix,.int .i64 vk,.int .i64 vi,.string vt,.slice Y X c1,.int .i64 hP,.string hS,.string hX,.int .i64 iq,.int .i64 hT,.int .i64 hV,.string hO,.slice A4 k4 c4] 37)) ga 37 (eC op tb nm ix vk vi vt Y X c1)):=hh.ext ((Ext.refl f1).alloc _)
       obtain⟨b0,b1,b2,b3,b4,b5,b6,b7,-⟩:=cls hh
       obtain⟨l0,l1,l2,l3,l4,l5,l6,l7,-⟩:=cls oj
       obtain⟨n0,n1,n2,n3,n4,n5,n6,n7,-⟩:=cls pK
       have ph:Sx H ge f1.heap.size:=⟨lw.lt,by have:=fs.lt;omega⟩
       have o5:Hid (H+1≤f1.heap.size):=lw.lt
       have py:=hid ph
       clear ph
       go_upto_region 22 with fail
       go_region_law (first
        |(go_simp;go_at_call 105;(with_reducible refine(cR 15 _ _ _ _).mono ?_);rintro _ w3 ⟨rfl,pk⟩;have gm:Ext f1 w3:=pF.trans pk;have bm:Blk w3 ga 37 (eC op tb nm ix vk vi vt Y X c1):=hh.ext gm;have oh:=oQ.ext gm;obtain⟨d0,d1,d2,d3,d4,d5,d6,d7,-⟩:=cls bm)
        |(go_simp;go_at_call 105;(with_reducible refine(cR 13 _ _ _ _).mono ?_);rintro _ w5 ⟨rfl,cl⟩;have ko:Ext w4 w5:=((Ext.refl w4).alloc (.cells #[.int .i64 op,.string tb,.string nm,.int .i64 ix,.int .i64 vk,.int .i64 vi,.string vt,.slice Y X c1,.int .i64 V,.string K,.string Q,.int .i64 U,.int .i64 I,.int .i64 O,.string J,.slice A2 k2 c2] 37)).trans cl)
        |(go_simp;go_at_call 105;(with_reducible refine(cR 18 _ _ _ _).mono ?_);rintro _ w6 ⟨rfl,ac⟩;have om:Ext w5 w6:=((Ext.refl w5).alloc (.cells #[.int .i64 15,.string ⟨#[]⟩,.string ⟨#[]⟩,.int .i64 0,.int .i64 0,.int .i64 0,.string ⟨#[]⟩,.slice (some ⟨f1.heap.size,0,none⟩) 2 2,.int .i64 13,.string ⟨#[]⟩,.string ⟨#[]⟩,.int .i64 0,.int .i64 0,.int .i64 0,.string ⟨#[]⟩,.slice (some ⟨w4.heap.size,0,none⟩) 2 2] 37)).trans ac;have oG:Blk w6 ge 37 eZ:=(y.blk (fs.ext gm) (by have:=b.out;have:=u.out;omega)).ext (ko.trans om);obtain⟨z0,z1,z2,z3,z4,z5,z6,z7,-⟩:=cls oG;obtain⟨y0,y1,y2,y3,y4,y5,y6,y7,-⟩:=frz oG)
        |(go_simp;go_at_call 258;(with_reducible refine(hA.out w3 oh (Nat.le_trans o5.out gm.size) (Nat.lt_of_lt_of_le fs.out.lt gm.size)).mono ?_);rintro _ w4 ⟨A2,k2,c2,V,K,Q,U,I,O,J,b9,oJ,rfl,h5,y,h7⟩;have kA:Blk w4 ga 37 (eC op tb nm ix vk vi vt Y X c1):=y.blk bm (by have:=b.out;have:=ax.out;omega);obtain⟨e0,e1,e2,e3,e4,e5,e6,e7,-⟩:=cls kA))
       all_goals
        have pc:=Stb.ext (Stb.chg2 (Stb.ext (Stb.ext (cS (S:=Sx H ge) (T:=37) (w:=f1) (o:=15) (by unfold I64;omega) py i4 nj) (Ext.refl _).drew) pk) y (by have:=b.out;omega)) ko
        have pX:=Nat.le_trans gm.size y.size
        have pZ:=ko.size
        have pW:=fs.lt
        have pT:=o5.out
        have o9:=Stb.ext (cS (S:=Sx H ge) (T:=37) (o:=13) (by unfold I64;omega) ⟨by omega,by omega⟩ (Stb.chg2 (Stb.ext i4 gm) y (by have:=b.out;omega)) h7) cl
        have a4:=cS (S:=Sx H ge) (T:=37) (o:=18) (by unfold I64;omega) ⟨by omega,by omega⟩ pc o9
        have j:=ak ge (eC 18 ⟨#[]⟩ ⟨#[]⟩ 0 0 0 ⟨#[]⟩ (some ⟨w5.heap.size,0,none⟩) 2 2) w6 0
        have bY:=hid ((h5.ext (ko.trans om)).grown j (fun q h=>by have:=Option.some.inj h;have:=b.out;have:=u.out;omega))
        have ds:=hid (aE oG (eC 18 ⟨#[]⟩ ⟨#[]⟩ 0 0 0 ⟨#[]⟩ (some ⟨w5.heap.size,0,none⟩) 2 2) rfl)
        have ci:=hid (Stb.weak (S':=(H+1≤·)) (Stb.grown (Stb.ext a4 ac) j (fun q h e=>h.2 (Option.some.inj e).symm)) (fun q _ h=>h.1))
        have dc:=hid (((y.blk (lw.ext gm) (by have:=b.out;omega)).ext (ko.trans om)).grown j (fun e=>by have:=Option.some.inj e;have:=u.out;omega))
        have cd:=hid ((((pi.ext gm).trans y).ext (ko.trans om)).own j (fun q h=>by have:=Option.some.inj h;have:=u.out;rw[cb.out];omega))
        simp only[sts]at bY ds ci dc cd
        have HV:=hid oJ
        clear j a4 o9 pc h5 y oJ
        go_wp2_with fail
        go_meet
        refine⟨isS kNOT f,opE 18 [opE 15 [(.mk ⟨op,tb,nm,ix,vk,vi,vt⟩ ks),(.mk ⟨hP,hS,hX,iq,hT,hV,hO⟩ pq)],opE 13 [(.mk ⟨op,tb,nm,ix,vk,vi,vt⟩ ks),(.mk ⟨V,K,Q,U,I,O,J⟩ b9)]],_,_,_,_,rfl,?_,bY,ds,ci,dc,cd⟩
        rw[a6.out,←HV.out]
        rfl
     ·have e:(aq kt (optP kNOT f)).2=(optP kNOT f).next:=by simp[aq,cv]
      rw[e]at cy
      clear e
      rw[cv]at a6
      have oK:=hid (cy.tak_size hL 4)
      have o6:Hid (Calls Tryz.prog 100 #[.pointer (some ⟨P,0,none⟩),.int .i64 4] f0.drew (Ran 68 P A c L w0 f0.drew (takP 4 (optP kNOT f).next).2 fun v _=>v= .string (takP 4 (optP kNOT f).next).1)):=gC (cy.ext (Ext.refl f0).drew) hL 4 (by decide)
      obtain⟨T4,oC⟩:∃x,(takP 4 (optP kNOT f).next).1=x:=⟨_,rfl⟩
      obtain⟨fn,a2⟩:∃x,(takP 4 (optP kNOT f).next).2=x:=⟨_,rfl⟩
      rw[oC,a2]at o6 a6
      rw[oC]at oK
      clear oC a2
      obtain⟨b0,b1,b2,b3,b4,b5,b6,b7,-⟩:=cls a3
      go_upto_region 18 with fail
      go_region_law (first
       |(go_simp;go_at_call 105;(with_reducible refine(cR _ _ _ _ _).mono ?_);rintro _ w5 ⟨rfl,cl⟩;have ac:Ext w4 w5:=((Ext.refl w4).alloc (.cells #[.int .i64 op,.string tb,.string nm,.int .i64 ix,.int .i64 vk,.int .i64 vi,.string vt,.slice Y X c1,.int .i64 1,.string ⟨#[]⟩,.string ⟨#[]⟩,.int .i64 0,.int .i64 2,.int .i64 0,.string T4,.slice none 0 0] 37)).trans cl;have cf:=oi.ext ac;obtain⟨z0,z1,z2,z3,z4,z5,z6,z7,-⟩:=cls cf;obtain⟨y0,y1,y2,y3,y4,y5,y6,y7,-⟩:=frz cf)
       |(go_simp;go_at_call 260;(with_reducible refine(lit_val _ _ _ _).mono ?_);rintro _ w4 ⟨rfl,f3⟩;have kA:Blk w4 ga 37 (eC op tb nm ix vk vi vt Y X c1):=bm.ext f3;have oi:Blk w4 ge 37 eZ:=f6.ext f3;obtain⟨e0,e1,e2,e3,e4,e5,e6,e7,-⟩:=cls kA)
       |(go_simp;go_at_call 100;(with_reducible refine o6.out.mono ?_);rintro _ w3 ⟨v,rfl,h5,y,rfl⟩;replace y:Chg P f0 w3:=(Chg.of (Ext.refl f0).drew).trans y;have bm:Blk w3 ga 37 (eC op tb nm ix vk vi vt Y X c1):=y.blk a3 (by have:=b.out;have:=ax.out;omega);have f6:Blk w3 ge 37 eZ:=y.blk a1 (by have:=b.out;have:=u.out;omega);obtain⟨d0,d1,d2,d3,d4,d5,d6,d7,-⟩:=cls bm))
      all_goals
       have k7:Sx H ge w4.heap.size:=⟨Nat.lt_of_lt_of_le es.lt (Nat.le_trans y.size f3.size),by have:=Nat.lt_of_lt_of_le a1.lt (Nat.le_trans y.size f3.size);omega⟩
       have a4:=cS (S:=Sx H ge) (T:=37) (o:=16) (by unfold I64;omega) k7 (Stb.ext (Stb.chg2 ba y (by have:=b.out;omega)) f3) (exS_lit (Sx H ge) w4 (k:=2) (i:=0) (t:=T4) i64_2 bG (by have:=oK.out;omega))
       have j:=ak ge (eC 16 ⟨#[]⟩ ⟨#[]⟩ 0 0 0 ⟨#[]⟩ (some ⟨w4.heap.size,0,none⟩) 2 2) w5 0
       have bY:=hid ((h5.ext (f3.trans ac)).grown j (fun q h=>by have:=Option.some.inj h;have:=b.out;have:=u.out;omega))
       have ds:=hid (aE cf (eC 16 ⟨#[]⟩ ⟨#[]⟩ 0 0 0 ⟨#[]⟩ (some ⟨w4.heap.size,0,none⟩) 2 2) rfl)
       have ci:=hid (Stb.weak (S':=(H+1≤·)) (Stb.grown (Stb.ext a4 cl) j (fun q h e=>h.2 (Option.some.inj e).symm)) (fun q _ h=>h.1))
       have dc:=hid (((y.blk es (by have:=b.out;omega)).ext (f3.trans ac)).grown j (fun e=>by have:=Option.some.inj e;have:=u.out;omega))
       have cd:=hid (((gk.trans y).ext (f3.trans ac)).own j (fun q h=>by have:=Option.some.inj h;have:=u.out;rw[cb.out];omega))
       simp only[sts]at bY ds ci dc cd
       clear j a4 h5 y
       go_wp2_with fail
       go_meet
       refine⟨(isS kNOT f),(opE 16 [(.mk ⟨op,tb,nm,ix,vk,vi,vt⟩ ks),ei 2 0 T4]),_,_,_,_,rfl,?_,bY,ds,ci,dc,cd⟩
       rw[a6.out];rfl
    ·have e:(aq kIS f).2=f.next:=by simp[aq,on]
     rw[e]at bw
     clear e
     go_wp2_with fail
     refine(ai bw hL kNOT).mono ?_
     rintro _ k8 ⟨v,rfl,h1,a,rfl⟩
     rw[opt_eq]at h1
     have hF:=hid h1
     have hD:=hid (a.blk cj (by have:=b.out;omega))
     have hN:=hid (e8.trans a)
     have ee:=hid (Stb.chg2 cA a (by have:=b.out;omega))
     have cx:=hid (a.blk ag (by have:=b.out;have:=ax.out;omega))
     have c7:=hid (a.blk be (by have:=b.out;have:=eb.out;omega))
     have cw:=hid (a.blk dk (by have:=b.out;have:=u.out;omega))
     clear h1 a
     clear cj e8 bw cA ag be dk
     go_wp2_with fail
     refine(az (hF.ext ((Ext.refl k8).alloc (.cells #[.string kNULL] 9))) hL kNULL k8.heap.size (by simp[World.cell?_alloc_new])).mono ?_
     rintro _ f0 ⟨v,rfl,h1,a,_⟩
     replace a:Chg P k8 f0:=(Chg.of ((Ext.refl k8).alloc (.cells #[.string kNULL] 9))).trans a
     have cy:=hid h1
     have es:=hid (a.blk hD (by have:=b.out;omega))
     have gk:=hid (hN.trans a)
     have ba:=hid (Stb.chg2 ee a (by have:=b.out;omega))
     have a3:=hid (a.blk cx (by have:=b.out;have:=ax.out;omega))
     have c9:=hid (a.blk c7 (by have:=b.out;have:=eb.out;omega))
     have a1:=hid (a.blk cw (by have:=b.out;have:=u.out;omega))
     clear h1 a
     clear hD hN hF ee cx c7 cw
     obtain⟨b0,b1,b2,b3,b4,b5,b6,b7,-⟩:=cls a3
     go_wp2_with fail
     refine(cR _ _ _ _ _).mono ?_
     rintro _ k9 ⟨rfl,hx⟩
     have ck:Ext f0 k9:=((Ext.refl f0).alloc (.cells #[.int .i64 op,.string tb,.string nm,.int .i64 ix,.int .i64 vk,.int .i64 vi,.string vt,.slice Y X c1] 37)).trans hx
     have f2:=hid (es.ext ck)
     have gb:=hid (gk.ext ck)
     have ex:=hid (cy.ext ck)
     have df:=hid (Stb.ext ba ck)
     have cH:=hid (a3.ext ck)
     have cs:=hid (c9.ext ck)
     have ad:=hid (a1.ext ck)
     have HO:=hid (Stb.ext (exS_op1 (S:=Sx H ge) (T:=37) (o:=17) (by unfold I64;omega) ⟨es.lt,by have:=a1.lt;omega⟩ ba) hx)
     clear hx ck
     clear es gk cy ba a3 c9 a1
     obtain⟨z0,z1,z2,z3,z4,z5,z6,z7,-⟩:=cls ad
     obtain⟨y0,y1,y2,y3,y4,y5,y6,y7,-⟩:=frz ad
     have j:=ak ge (eC 17 ⟨#[]⟩ ⟨#[]⟩ 0 0 0 ⟨#[]⟩ (some ⟨f0.heap.size,0,none⟩) 1 1) k9 0
     have bY:=hid (ex.grown j (fun q h=>by have:=Option.some.inj h;have:=b.out;have:=u.out;omega))
     have ds:=hid (aE ad (eC 17 ⟨#[]⟩ ⟨#[]⟩ 0 0 0 ⟨#[]⟩ (some ⟨f0.heap.size,0,none⟩) 1 1) rfl)
     have ci:=hid (Stb.weak (S':=(H+1≤·)) (Stb.grown (HO) j (fun q h e=>h.2 (Option.some.inj e).symm)) (fun q _ h=>h.1))
     have dc:=hid (f2.grown j (fun e=>by have:=Option.some.inj e;have:=u.out;omega))
     have cd:=hid (gb.own j (fun q h=>by have:=Option.some.inj h;have:=u.out;rw[cb.out];omega))
     simp only[sts]at bY ds ci dc cd
     clear j
     go_wp2_with fail
     go_meet
     refine⟨(isS kNOT f.next),(opE 17 [(.mk ⟨op,tb,nm,ix,vk,vi,vt⟩ ks)]),_,_,_,_,rfl,?_,bY,ds,ci,dc,cd⟩
     rw[a6.out,on];rfl
   case rest=>
    obtain⟨ng,e9,Y,X,c1,st,rfl,pn,h1,a,h3,h4,h5⟩:=hcut
    clear bw cj e8 cA ag be dk HM
    have og:=hid pn
    obtain⟨⟨op,tb,nm,ix,vk,vi,vt⟩,ks⟩:=e9
    have mx:=hid h1
    have gt:Hid (Blk wc ge 37 (eC op tb nm ix vk vi vt Y X c1)):=a
    have fr:=hid h3
    have gc:=hid h4
    have kp:=hid h5
    clear pn h1 a h3 h4 h5
    generalize wc=hy at*
    obtain⟨b0,b1,b2,b3,b4,b5,b6,b7,-⟩:=cls gt
    cases ng
    ·skip
     have hg:Hid (ExG (H+1) hy (.mk ⟨op,tb,nm,ix,vk,vi,vt⟩ ks) (.agg #[.int .i64 op,.string tb,.string nm,.int .i64 ix,.int .i64 vk,.int .i64 vi,.string vt,.slice Y X c1])):=⟨Y,X,c1,rfl,fr⟩
     have hu:Hid (R.1=(.mk ⟨op,tb,nm,ix,vk,vi,vt⟩ ks)):=by
      rw[og.out]
      rfl
     have gr:Hid (R.2=st):=by
      rw[og.out]
      rfl
     obtain⟨z0,z1,z2,z3,z4,z5,z6,z7,-⟩:=cls gc
     obtain⟨y0,y1,y2,y3,y4,y5,y6,y7,-⟩:=frz gc
     have hz:=aE gc (eC op tb nm ix vk vi vt Y X c1) rfl
     have a0:=hid (ak H (eC op tb nm ix vk vi vt Y X c1) hy 0)
     simp only[sts]at hz
     have HZ:=hid hz
     clear hz
     go_wp2_with fail
     obtain⟨q0,q1,q2,q3,q4,q5,q6,q7,-⟩:=cls HZ
     exact bodyPost_ret (v:= .agg #[.int .i64 op,.string tb,.string nm,.int .i64 ix,.int .i64 vk,.int .i64 vi,.string vt,.slice Y X c1]) (by simp[results,Tryz.results220,go_sem,q0,q1,q2,q3,q4,q5,q6,q7]) rfl ⟨_,rfl,by rw[gr.out];exact mx.grown a0 (fun q h=>by have:=b.out;have:=Option.some.inj h;omega),kp.own a0 (fun q h=>by have:=Option.some.inj h;rw[cb.out];omega),by rw[hu.out,cb.out];exact eA hg a0 (Nat.lt_succ_self _)⟩
    ·skip
     go_wp2_with fail
     refine(cR _ _ _ _ _).mono ?_
     rintro _ oy ⟨rfl,hx⟩
     have ck:Ext hy oy:=((Ext.refl hy).alloc (.cells #[.int .i64 op,.string tb,.string nm,.int .i64 ix,.int .i64 vk,.int .i64 vi,.string vt,.slice Y X c1] 37)).trans hx
     have k5:=hid (gc.ext ck)
     have o3:=hid (kp.ext ck)
     have oZ:=hid (mx.ext ck)
     have pr:=hid (Stb.ext fr ck)
     have pu:=hid (gt.ext ck)
     have oI:=hid ((exG_op1 (n:=H+1) (T:=37) (o:=20) (by unfold I64;omega) gc.lt fr).ext hx)
     clear hx ck
     clear gc kp mx fr gt
     have hg:Hid (ExG (H+1) oy (opE 20 [(.mk ⟨op,tb,nm,ix,vk,vi,vt⟩ ks)]) (.agg #[.int .i64 20,.string ⟨#[]⟩,.string ⟨#[]⟩,.int .i64 0,.int .i64 0,.int .i64 0,.string ⟨#[]⟩,.slice (some ⟨hy.heap.size,0,none⟩) 1 1])):=oI.out
     have hu:Hid (R.1=(opE 20 [(.mk ⟨op,tb,nm,ix,vk,vi,vt⟩ ks)])):=by
      rw[og.out]
      rfl
     have gr:Hid (R.2=st):=by
      rw[og.out]
      rfl
     obtain⟨z0,z1,z2,z3,z4,z5,z6,z7,-⟩:=cls k5
     obtain⟨y0,y1,y2,y3,y4,y5,y6,y7,-⟩:=frz k5
     have hz:=aE k5 (eC 20 ⟨#[]⟩ ⟨#[]⟩ 0 0 0 ⟨#[]⟩ (some ⟨hy.heap.size,0,none⟩) 1 1) rfl
     have a0:=hid (ak H (eC 20 ⟨#[]⟩ ⟨#[]⟩ 0 0 0 ⟨#[]⟩ (some ⟨hy.heap.size,0,none⟩) 1 1) oy 0)
     simp only[sts]at hz
     have HZ:=hid hz
     clear hz
     go_wp2_with fail
     obtain⟨q0,q1,q2,q3,q4,q5,q6,q7,-⟩:=cls HZ
     exact bodyPost_ret (v:= .agg #[.int .i64 20,.string ⟨#[]⟩,.string ⟨#[]⟩,.int .i64 0,.int .i64 0,.int .i64 0,.string ⟨#[]⟩,.slice (some ⟨hy.heap.size,0,none⟩) 1 1]) (by simp[results,Tryz.results220,go_sem,q0,q1,q2,q3,q4,q5,q6,q7]) rfl ⟨_,rfl,by rw[gr.out];exact oZ.grown a0 (fun q h=>by have:=b.out;have:=Option.some.inj h;omega),o3.own a0 (fun q h=>by have:=Option.some.inj h;rw[cb.out];omega),by rw[hu.out,cb.out];exact eA hg a0 (Nat.lt_succ_self _)⟩
theorem test_rd {n:Nat} {p:M Ex} (a:Fwd p) (b:TkL L) (f:Rdr 68 P A c L w0 n 258 (sumP p)):Rdr 68 P A c L w0 n 220 (testP p):=fun W st e h=>test_rd1 a f h e b
end
end
end Go.Proofs.YtjigcpfjhfoheaaGreatDoor
