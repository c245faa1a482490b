/- Walk: a test. -/
import Derived.Test.YtjigcpfjhfoheaaGreatDoorEcd
namespace Go.Proofs.YtjigcpfjhfoheaaGreatDoor
open Go.RowKit
set_option maxHeartbeats 4000000
set_option maxRecDepth 100000
set_option linter.unusedVariables false
set_option linter.unusedSimpArgs false
section
open Lx (Tk)
theorem cmps_any (W:World):Calls Tryz.prog 259 #[] W fun e w'=> ∃g,e= .returned (.slice (some ⟨g,0,none⟩) 6 6)∧W.heap.size≤g∧Blk w' g 120 (symCs opsCmp)∧Ext W w':=by
 go_enter Tryz.func259,Tryz.ntmps259
 go_wp2_with fail
 go_ret
 exact⟨W.heap.size,rfl,Nat.le_refl _,Blk.of_new W 120 (symCs opsCmp),(Ext.refl W).alloc _⟩
section
variable {P c:Nat} {A:Option Addr} {L:List Tk} {w0 w:World} {s:Ps}
theorem PsAt.same {T:Nat} (h:PsAt T P A c L w0 w s):PsAt T P A c L w0 (w.setCell ⟨P,2,none⟩ (.bool s.bad)) s:=
 ⟨h.base.setCell h.low _,h.low,h.blk.set 2 (.bool s.bad),h.suf,h.ne,fun i a ha=>by
  obtain⟨b0,off,h1,h2,h3,h4,h5⟩:=h.tks i a ha
  have hg:=(Chg.refl P w).set 2 (.bool s.bad)
  have hne:b0≠P:=by omega
  exact⟨b0,off,h1,h2,hg.keep h3 hne,hg.keep h4 hne,hg.keep h5 hne⟩⟩
theorem test_rd1 {n:Nat} {p:M Ex} (hfw:Fwd p) (hr:Rdr 68 P A c L w0 n 258 (sumP p)) (hn:s.r.length<n) (hp:PsAt 68 P A c L w0 w s) (hL:TkL L):
  Calls Tryz.prog 220 #[.pointer (some ⟨P,0,none⟩)] w (Ran 68 P A c L w0 w (testP p s).2 fun v w'=>ExG w.heap.size w' (testP p s).1 v):=by
 have hx0:=(Ext.refl w).alloc (.cells #[.int .i64 0,.string ⟨#[]⟩,.string ⟨#[]⟩,.int .i64 0,.int .i64 0,.int .i64 0,.string ⟨#[]⟩,.slice none 0 0] 37)
 have HS0:=hid (hp.ext hx0)
 have HG0:Hid (P<w.heap.size):=hp.lt
 have HR0:=hid (Blk.of_new w 37 eZ)
 have HC0:=hid (Chg.of (P:=P) hx0)
 have HM:Hid (testP p s=tailP (sumP p) (sumP p s).1 (sumP p s).2):=rfl
 have HN1:Hid (w.heap.size≤(w.alloc (.cells #[.int .i64 0,.string ⟨#[]⟩,.string ⟨#[]⟩,.int .i64 0,.int .i64 0,.int .i64 0,.string ⟨#[]⟩,.slice none 0 0] 37)).heap.size):=hx0.size
 obtain⟨R,hR⟩:∃R,testP p s=R:=⟨_,rfl⟩
 rw[hR]at HM ⊢
 clear hp hx0 hR
 go_enter Tryz.func220,Tryz.ntmps220
 go_upto_region 1 with fail
 generalize w.alloc (.cells #[.int .i64 0,.string ⟨#[]⟩,.string ⟨#[]⟩,.int .i64 0,.int .i64 0,.int .i64 0,.string ⟨#[]⟩,.slice none 0 0] 37)=wz at*
 obtain⟨g0,hg0⟩:∃g,w.heap.size=g:=⟨_,rfl⟩
 have HN0:=hid hg0
 rw[hg0]at HG0 HR0 HN1 ⊢
 clear hg0
 have HG:=HG0
 go_wp2_with fail
 refine(hr _ _ HS0.out hn).mono ?_
 rintro _ w1 ⟨v,rfl,h1,h2,A1,k1,c1,rfl,h3⟩
 have HS1:=hid h1
 have HR1:=hid (h2.blk HR0.out (by have:=HG.out;omega))
 have HC1:=hid (HC0.out.trans h2)
 obtain⟨e1,he1⟩:∃e,(sumP p s).1=e:=⟨_,rfl⟩
 have HV1:=hid he1
 rw[he1]at h3 ⊢
 clear he1
 obtain⟨⟨op,tb,nm,ix,vk,vi,vt⟩,ks⟩:=e1
 unfold Nd.val
 simp only[Ex.d]
 have HX1_1:Hid (Stb (g0+1≤·) w1 fun w'=>ExV w' (.mk ⟨op,tb,nm,ix,vk,vi,vt⟩ ks) A1 k1 c1):=h3.weak fun q _ hq=>Nat.le_trans HR0.out.lt hq
 clear h1 h2 h3
 clear HR0 HC0 HS0
 go_upto_region 2 with fail
 have hx:=(Ext.refl w1).alloc (.cells #[.int .i64 op,.string tb,.string nm,.int .i64 ix,.int .i64 vk,.int .i64 vi,.string vt,.slice A1 k1 c1] 37)
 have HR2:=hid (HR1.out.ext hx)
 have HC2:=hid (HC1.out.ext hx)
 have HS2:=hid (HS1.out.ext hx)
 have HX1_2:=hid (Stb.ext HX1_1.out hx)
 have HBa_2:=hid (Blk.of_new w1 37 (eC op tb nm ix vk vi vt A1 k1 c1))
 have HGa:Hid (g0<w1.heap.size):=HR1.out.lt
 clear hx
 clear HR1 HC1 HS1 HX1_1
 generalize w1.alloc (.cells #[.int .i64 op,.string tb,.string nm,.int .i64 ix,.int .i64 vk,.int .i64 vi,.string vt,.slice A1 k1 c1] 37)=w2 at*
 generalize w1.heap.size=ga at*
 have hsl:=fwd_sum hfw s
 obtain⟨sa,hsa⟩:∃x,(sumP p s).2=x:=⟨_,rfl⟩
 rw[hsa,HV1.out]at HM
 rw[hsa]at hsl HS2
 clear hsa HV1
 go_wp2_with fail
 refine(cmps_any _).mono ?_
 rintro _ w3 ⟨gs,rfl,hgs,hbs,hx⟩
 have HR3:=hid (HR2.out.ext hx)
 have HC3:=hid (HC2.out.ext hx)
 have HS3:=hid (HS2.out.ext hx)
 have HX1_3:=hid (Stb.ext HX1_2.out hx)
 have HBa_3:=hid (HBa_2.out.ext hx)
 have HBs_3:=hid hbs
 have HGs:Hid (g0<gs):=Nat.lt_of_lt_of_le HR2.out.lt hgs
 clear hx hbs hgs
 clear HR2 HC2 HS2 HX1_2 HBa_2
 go_wp2_with fail
 go_loopw [5,13] (fun _ iv wr=> ∃(k:Nat),k≤6∧iv= .int .i64 k∧firstP opsCmp sa=firstP (opsCmp.drop k) sa∧PsAt 68 P A c L w0 wr sa∧Blk wr g0 37 eZ∧Blk wr ga 37 (eC op tb nm ix vk vi vt A1 k1 c1)∧Stb (g0+1≤·) wr (fun w'=>ExV w' (.mk ⟨op,tb,nm,ix,vk,vi,vt⟩ ks) A1 k1 c1)∧Blk wr gs 120 (symCs opsCmp)∧Chg P w wr) (fun _ i _=>6- (intOf i).toNat)
 case atStart=>exact⟨0,by omega,rfl,rfl,HS3.out,HR3.out,HBa_3.out,HX1_3.out,HBs_3.out,HC3.out⟩
 case round=>
  obtain⟨k,hk,rfl,hf,h1,h2,h3,h4,h5,h6⟩:=hrel
  have HS20:=hid h1
  have HR20:=hid h2
  have HBa_20:=hid h3
  have HX1_20:=hid h4
  have HBs_20:=hid h5
  have HC20:=hid h6
  clear h1 h2 h3 h4 h5 h6 HS3 HR3 HBa_3 HX1_3 HBs_3 HC3
  generalize wr=w20 at*
  by_cases hlt:k<6
  ·obtain⟨⟨t,o⟩,hx⟩:∃x,opsCmp[k]? =some x:=⟨_,List.getElem?_eq_getElem (by show k<6;exact hlt)⟩
   have hd:opsCmp.drop k=(t,o)::opsCmp.drop (k+1):=by
    obtain⟨h1,h2⟩:=List.getElem?_eq_some_iff.1 hx
    rw[List.drop_eq_getElem_cons h1,h2]
   rw[hd,firstP]at hf
   have HF:=hid hf
   have HO64:Hid (I64 o):=by
    have h64:∀x∈opsCmp,I64 x.2:=by unfold I64;decide
    exact h64 _ (List.mem_of_getElem? hx)
   obtain⟨e0,e1⟩:=symCs_get opsCmp k (t,o) hx
   have s0:=HBs_20.out.cell_some e0
   have s1:=HBs_20.out.cell_some e1
   have i0:(0:Int)≤(k:Int):=by omega
   have i1:(k:Int)<6:=by omega
   clear hf hd hx e0 e1
   go_upto_region 5 with fail
   have hx:=(Ext.refl w20).alloc (.cells #[.string t,.int .i64 o] 120)
   have HR21:=hid (HR20.out.ext hx)
   have HC21:=hid (HC20.out.ext hx)
   have HS21:=hid (HS20.out.ext hx)
   have HX1_21:=hid (Stb.ext HX1_20.out hx)
   have HBa_21:=hid (HBa_20.out.ext hx)
   have HBs_21:=hid (HBs_20.out.ext hx)
   have HBy_21:=hid (Blk.of_new w20 120 [.string t,.int .i64 o])
   have HGy:Hid (g0<w20.heap.size):=HR20.out.lt
   clear hx
   clear HR20 HC20 HS20 HX1_20 HBa_20 HBs_20
   generalize w20.alloc (.cells #[.string t,.int .i64 o] 120)=w21 at*
   generalize w20.heap.size=gy at*
   obtain⟨t0,t1,-⟩:=cls HBy_21.out
   go_wp2_with fail
   refine(accept_any HS21.out hL t).mono ?_
   rintro _ w22 ⟨v,rfl,h1,h2,rfl⟩
   have HS22:=hid h1
   have HR22:=hid (h2.blk HR21.out (by have:=HG.out;omega))
   have HC22:=hid (HC21.out.trans h2)
   have HX1_22:=hid (Stb.chg HX1_21.out h2 (by have:=HG.out;omega))
   have HBa_22:=hid (h2.blk HBa_21.out (by have:=HG.out;have:=HGa.out;omega))
   have HBs_22:=hid (h2.blk HBs_21.out (by have:=HG.out;have:=HGs.out;omega))
   have HBy_22:=hid (h2.blk HBy_21.out (by have:=HG.out;have:=HGy.out;omega))
   clear h1 h2
   clear HR21 HC21 HS21 HX1_21 HBa_21 HBs_21 HBy_21
   cases hb22:isS t sa
   ·have e:(accP t sa).2=sa:=by simp[accP,hb22]
    rw[e]at HS22
    clear e
    have HF2:Hid (firstP opsCmp sa=firstP (opsCmp.drop (k+1)) sa):=by
     unfold Hid
     have:=HF.out
     rwa [hb22]at this
    go_wp2_with fail
    exact⟨⟨k+1,by omega,by go_num,HF2.out,HS22.out,HR22.out,HBa_22.out,HX1_22.out,HBs_22.out,HC22.out⟩,by simp[intOf];omega⟩
   ·have e:(accP t sa).2=sa.next:=by simp[accP,hb22]
    rw[e]at HS22
    clear e
    have hln:=isS_len hb22
    have HR0:Hid (R=(opE o [(.mk ⟨op,tb,nm,ix,vk,vi,vt⟩ ks),(sumP p sa.next).1],(sumP p sa.next).2)):=by
     unfold Hid
     have hf2:=HF.out
     rw[hb22]at hf2
     rw[HM.out]
     unfold tailP
     rw[hf2]
     rfl
    have HOd:=hid (hr w22.drew sa.next (HS22.out.ext (Ext.refl w22).drew) (by omega))
    obtain⟨st2,hst2⟩:∃x,(sumP p sa.next).2=x:=⟨_,rfl⟩
    obtain⟨e2,he2⟩:∃x,(sumP p sa.next).1=x:=⟨_,rfl⟩
    have HV2:=hid he2
    have HT2:=hid hst2
    rw[hst2,he2]at HOd
    clear hst2 he2
    obtain⟨⟨op2,tb2,nm2,ix2,vk2,vi2,vt2⟩,ks2⟩:=e2
    have HOe:Hid (Calls Tryz.prog 258 #[.pointer (some ⟨P,0,none⟩)] w22.drew fun e w3=> ∃(A2:Option Addr) (k2 c2:Nat),e= .returned (.agg #[.int .i64 op2,.string tb2,.string nm2,.int .i64 ix2,.int .i64 vk2,.int .i64 vi2,.string vt2,.slice A2 k2 c2])∧PsAt 68 P A c L w0 w3 st2∧Chg P w22 w3∧Stb (g0+1≤·) w3 (fun w'=>ExV w' (.mk ⟨op2,tb2,nm2,ix2,vk2,vi2,vt2⟩ ks2) A2 k2 c2)):=
     HOd.out.mono fun e w3 ⟨v,he,h5,h6,A2,k2,c2,hv,h7⟩=>⟨A2,k2,c2,by rw[he,hv];rfl,h5,(Chg.of (Ext.refl w22).drew).trans h6,h7.weak fun q _ hq=>Nat.le_trans HR22.out.lt hq⟩
    clear HOd
    obtain⟨yc0,yc1,-⟩:=cls HBy_22.out
    obtain⟨b0,b1,b2,b3,b4,b5,b6,b7,-⟩:=cls HBa_22.out
    go_upto_region 6 with fail
    go_region_law (first
     |(go_simp;go_at_call 105;(with_reducible refine(op_any _ _ _ _ _).mono ?_);rintro _ w5 ⟨rfl,hx5⟩;have hx6:Ext w3 w5:=((Ext.refl w3).alloc (.cells #[.int .i64 op,.string tb,.string nm,.int .i64 ix,.int .i64 vk,.int .i64 vi,.string vt,.slice A1 k1 c1,.int .i64 op2,.string tb2,.string nm2,.int .i64 ix2,.int .i64 vk2,.int .i64 vi2,.string vt2,.slice A2 k2 c2] 37)).trans hx5;have HT5:=HT3.ext hx6;obtain⟨z0,z1,z2,z3,z4,z5,z6,z7,-⟩:=cls HT5;obtain⟨y0,y1,y2,y3,y4,y5,y6,y7,-⟩:=frz HT5)
     |(go_simp;go_at_call 258;(with_reducible refine HOe.out.mono ?_);rintro _ w3 ⟨A2,k2,c2,rfl,h5,h6,h7⟩;have HBa3:Blk w3 ga 37 (eC op tb nm ix vk vi vt A1 k1 c1):=h6.blk HBa_22.out (by have:=HG.out;have:=HGa.out;omega);have HT3:Blk w3 g0 37 eZ:=h6.blk HR22.out (by have:=HG.out;omega);obtain⟨d0,d1,d2,d3,d4,d5,d6,d7,-⟩:=cls HBa3;have yc13:=h6.keep yc1 ((show gy≠P by have:=HG.out;have:=HGy.out;omega));have yc14:=((Ext.refl w3).alloc (.cells #[.int .i64 op,.string tb,.string nm,.int .i64 ix,.int .i64 vk,.int .i64 vi,.string vt,.slice A1 k1 c1,.int .i64 op2,.string tb2,.string nm2,.int .i64 ix2,.int .i64 vk2,.int .i64 vi2,.string vt2,.slice A2 k2 c2] 37)).keep yc13))
    all_goals
     have hlt3:g0<w3.heap.size:=Nat.lt_of_lt_of_le HR22.out.lt h6.size
     have hnew:ExS (g0+1≤·) (w3.alloc (.cells #[.int .i64 op,.string tb,.string nm,.int .i64 ix,.int .i64 vk,.int .i64 vi,.string vt,.slice A1 k1 c1,.int .i64 op2,.string tb2,.string nm2,.int .i64 ix2,.int .i64 vk2,.int .i64 vi2,.string vt2,.slice A2 k2 c2] 37)) (opE o [(.mk ⟨op,tb,nm,ix,vk,vi,vt⟩ ks),(.mk ⟨op2,tb2,nm2,ix2,vk2,vi2,vt2⟩ ks2)]) (some ⟨w3.heap.size,0,none⟩) 2 2:=exS_op2 (S:=(g0+1≤·)) HO64.out hlt3 (Stb.chg HX1_22.out h6 (by have:=HG.out;omega)) h7
     have hgr:=sts_grown g0 (eC o ⟨#[]⟩ ⟨#[]⟩ 0 0 0 ⟨#[]⟩ (some ⟨w3.heap.size,0,none⟩) 2 2) w5 0
     have HXn:Hid (ExG (g0+1) w5 (opE o [(.mk ⟨op,tb,nm,ix,vk,vi,vt⟩ ks),(.mk ⟨op2,tb2,nm2,ix2,vk2,vi2,vt2⟩ ks2)]) (.agg #[.int .i64 o,.string ⟨#[]⟩,.string ⟨#[]⟩,.int .i64 0,.int .i64 0,.int .i64 0,.string ⟨#[]⟩,.slice (some ⟨w3.heap.size,0,none⟩) 2 2])):=⟨_,_,_,rfl,Stb.ext hnew hx5⟩
     have hz:=sts_blk HT5 (eC o ⟨#[]⟩ ⟨#[]⟩ 0 0 0 ⟨#[]⟩ (some ⟨w3.heap.size,0,none⟩) 2 2) rfl
     have HPn:=hid (h5.ext hx6)
     have HCn:=hid ((HC22.out.trans h6).ext hx6)
     have HGr:=hid hgr
     simp only[sts]at hz
     have HZ:=hid hz
     clear h5 h6 h7 hx5 hx6 hz hgr hnew HT5 HT3 HBa3 z0 z1 z2 z3 z4 z5 z6 z7 y0 y1 y2 y3 y4 y5 y6 y7 d0 d1 d2 d3 d4 d5 d6 d7 b0 b1 b2 b3 b4 b5 b6 b7
     go_wp2_with fail
     obtain⟨q0,q1,q2,q3,q4,q5,q6,q7,-⟩:=cls HZ.out
     exact bodyPost_ret (v:= .agg #[.int .i64 o,.string ⟨#[]⟩,.string ⟨#[]⟩,.int .i64 0,.int .i64 0,.int .i64 0,.string ⟨#[]⟩,.slice (some ⟨w3.heap.size,0,none⟩) 2 2]) (by simp[results,Tryz.results220,go_sem,q0,q1,q2,q3,q4,q5,q6,q7]) rfl ⟨_,rfl,by rw[HR0.out,HT2.out];exact HPn.out.grown HGr.out (fun q hq=>by have:=HG.out;have:=Option.some.inj hq;omega),HCn.out.own HGr.out (fun q hq=>by have:=Option.some.inj hq;rw[HN0.out];omega),by rw[HR0.out,HV2.out,HN0.out];exact fin_ex HXn.out HGr.out (Nat.lt_succ_self _)⟩
  ·obtain rfl:k=6:=by omega
   have hf0:firstP opsCmp sa=(none,sa):=hf
   have HF:=hid hf0
   clear hf hf0 hk hlt
   have HEa:Hid (ga<w20.heap.size):=HBa_20.out.lt
   have HX1q:Hid (Stb (Sx g0 w20.heap.size) (w20.alloc (.cells #[.int .i64 0,.string ⟨#[]⟩,.string ⟨#[]⟩,.int .i64 0,.int .i64 0,.int .i64 0,.string ⟨#[]⟩,.slice none 0 0] 37)) fun w'=>ExV w' (.mk ⟨op,tb,nm,ix,vk,vi,vt⟩ ks) A1 k1 c1):=Stb.ext (Stb.weak HX1_20.out fun q hq hn=>⟨hn,Nat.ne_of_lt hq⟩) ((Ext.refl w20).alloc _)
   go_upto_region 10 with fail
   have hx:=(Ext.refl w20).alloc (.cells #[.int .i64 0,.string ⟨#[]⟩,.string ⟨#[]⟩,.int .i64 0,.int .i64 0,.int .i64 0,.string ⟨#[]⟩,.slice none 0 0] 37)
   have HR21:=hid (HR20.out.ext hx)
   have HC21:=hid (HC20.out.ext hx)
   have HS21:=hid (HS20.out.ext hx)
   have HX1_21:=hid (Stb.ext HX1_20.out hx)
   have HBa_21:=hid (HBa_20.out.ext hx)
   have HBs_21:=hid (HBs_20.out.ext hx)
   have HBe_21:=hid (Blk.of_new w20 37 eZ)
   have HGe:Hid (g0<w20.heap.size):=HR20.out.lt
   clear hx
   clear HR20 HC20 HS20 HX1_20 HBa_20 HBs_20
   generalize w20.alloc (.cells #[.int .i64 0,.string ⟨#[]⟩,.string ⟨#[]⟩,.int .i64 0,.int .i64 0,.int .i64 0,.string ⟨#[]⟩,.slice none 0 0] 37)=w21 at*
   generalize w20.heap.size=ge at*
   have HY1_21:Hid (Stb (Sx g0 ge) w21 fun w'=>ExV w' (.mk ⟨op,tb,nm,ix,vk,vi,vt⟩ ks) A1 k1 c1):=HX1q.out
   have hae:ga≠ge:=by have:=HEa.out;omega
   go_wp2_with fail
   refine(accept_any HS21.out hL kIS).mono ?_
   rintro _ w22 ⟨v,rfl,h1,h2,rfl⟩
   have HS22:=hid h1
   have HR22:=hid (h2.blk HR21.out (by have:=HG.out;omega))
   have HC22:=hid (HC21.out.trans h2)
   have HY1_22:=hid (Stb.chg2 HY1_21.out h2 (by have:=HG.out;omega))
   have HBa_22:=hid (h2.blk HBa_21.out (by have:=HG.out;have:=HGa.out;omega))
   have HBs_22:=hid (h2.blk HBs_21.out (by have:=HG.out;have:=HGs.out;omega))
   have HBe_22:=hid (h2.blk HBe_21.out (by have:=HG.out;have:=HGe.out;omega))
   clear h1 h2
   clear HR21 HC21 HS21 HY1_21 HBa_21 HBs_21 HBe_21
   go_upto_if 30 with fail
   go_cut [6] from 9 (fun nv wx=> ∃(ng:Bool) (e:Ex) (B:Option Addr) (k c':Nat) (st:Ps),nv= .bool ng∧R=(negE ng e,st)∧PsAt 68 P A c L w0 wx st∧Blk wx ge 37 (e.d.cells B k c')∧Stb (g0+1≤·) wx (fun w'=>ExV w' e B k c')∧Blk wx g0 37 eZ∧Chg P w wx)
   case first=>
    have HM2:Hid (R=if isS kIS sa=true then (negE (isS kNOT sa.next) (opE 17 [(.mk ⟨op,tb,nm,ix,vk,vi,vt⟩ ks)]),needP kNULL (optP kNOT sa.next))
       else if isS kLIKE (optP kNOT sa)=true then (negE (isS kNOT sa) (opE 16 [(.mk ⟨op,tb,nm,ix,vk,vi,vt⟩ ks),litE 2 0 (takP 4 (optP kNOT sa).next).1]),(takP 4 (optP kNOT sa).next).2)
       else if isS kBETWEEN (optP kNOT sa)=true then
        (negE (isS kNOT sa) (opE 18 [opE 15 [(.mk ⟨op,tb,nm,ix,vk,vi,vt⟩ ks),(sumP p (optP kNOT sa).next).1],opE 13 [(.mk ⟨op,tb,nm,ix,vk,vi,vt⟩ ks),(sumP p (needP kAND (sumP p (optP kNOT sa).next).2)).1]]),(sumP p (needP kAND (sumP p (optP kNOT sa).next).2)).2)
       else if isS kIN (optP kNOT sa)=true then
        (negE (isS kNOT sa) (inP (sumP p) (.mk ⟨op,tb,nm,ix,vk,vi,vt⟩ ks) (needP yLp (optP kNOT sa).next)).1,needP yRp (inP (sumP p) (.mk ⟨op,tb,nm,ix,vk,vi,vt⟩ ks) (needP yLp (optP kNOT sa).next)).2)
       else ((.mk ⟨op,tb,nm,ix,vk,vi,vt⟩ ks),if isS kNOT sa=true then (optP kNOT sa).fail else sa)):=by
     unfold Hid
     rw[HM.out]
     unfold tailP
     rw[HF.out]
    clear HM
    cases hbi:isS kIS sa
    ·have e:(accP kIS sa).2=sa:=by simp[accP,hbi]
     rw[e]at HS22
     clear e
     rw[hbi]at HM2
     go_wp2_with fail
     refine(accept_any HS22.out hL kNOT).mono ?_
     rintro _ w23 ⟨v,rfl,h1,h2,rfl⟩
     rw[opt_eq]at h1
     have HS23:=hid h1
     have HR23:=hid (h2.blk HR22.out (by have:=HG.out;omega))
     have HC23:=hid (HC22.out.trans h2)
     have HY1_23:=hid (Stb.chg2 HY1_22.out h2 (by have:=HG.out;omega))
     have HBa_23:=hid (h2.blk HBa_22.out (by have:=HG.out;have:=HGa.out;omega))
     have HBs_23:=hid (h2.blk HBs_22.out (by have:=HG.out;have:=HGs.out;omega))
     have HBe_23:=hid (h2.blk HBe_22.out (by have:=HG.out;have:=HGe.out;omega))
     clear h1 h2
     clear HR22 HC22 HS22 HY1_22 HBa_22 HBs_22 HBe_22
     go_wp2_with fail
     refine(accept_any HS23.out hL kLIKE).mono ?_
     rintro _ w24 ⟨v,rfl,h1,h2,rfl⟩
     have HS24:=hid h1
     have HR24:=hid (h2.blk HR23.out (by have:=HG.out;omega))
     have HC24:=hid (HC23.out.trans h2)
     have HY1_24:=hid (Stb.chg2 HY1_23.out h2 (by have:=HG.out;omega))
     have HBa_24:=hid (h2.blk HBa_23.out (by have:=HG.out;have:=HGa.out;omega))
     have HBs_24:=hid (h2.blk HBs_23.out (by have:=HG.out;have:=HGs.out;omega))
     have HBe_24:=hid (h2.blk HBe_23.out (by have:=HG.out;have:=HGe.out;omega))
     clear h1 h2
     clear HR23 HC23 HS23 HY1_23 HBa_23 HBs_23 HBe_23
     cases hbkLIKE:isS kLIKE (optP kNOT sa)
     ·have e:(accP kLIKE (optP kNOT sa)).2=(optP kNOT sa):=by simp[accP,hbkLIKE]
      rw[e]at HS24
      clear e
      rw[hbkLIKE]at HM2
      go_wp2_with fail
      refine(accept_any HS24.out hL kBETWEEN).mono ?_
      rintro _ w25 ⟨v,rfl,h1,h2,rfl⟩
      have HS25:=hid h1
      have HR25:=hid (h2.blk HR24.out (by have:=HG.out;omega))
      have HC25:=hid (HC24.out.trans h2)
      have HY1_25:=hid (Stb.chg2 HY1_24.out h2 (by have:=HG.out;omega))
      have HBa_25:=hid (h2.blk HBa_24.out (by have:=HG.out;have:=HGa.out;omega))
      have HBs_25:=hid (h2.blk HBs_24.out (by have:=HG.out;have:=HGs.out;omega))
      have HBe_25:=hid (h2.blk HBe_24.out (by have:=HG.out;have:=HGe.out;omega))
      clear h1 h2
      clear HR24 HC24 HS24 HY1_24 HBa_24 HBs_24 HBe_24
      cases hbkBETWEEN:isS kBETWEEN (optP kNOT sa)
      ·have e:(accP kBETWEEN (optP kNOT sa)).2=(optP kNOT sa):=by simp[accP,hbkBETWEEN]
       rw[e]at HS25
       clear e
       rw[hbkBETWEEN]at HM2
       go_wp2_with fail
       refine(accept_any HS25.out hL kIN).mono ?_
       rintro _ w26 ⟨v,rfl,h1,h2,rfl⟩
       have HS26:=hid h1
       have HR26:=hid (h2.blk HR25.out (by have:=HG.out;omega))
       have HC26:=hid (HC25.out.trans h2)
       have HY1_26:=hid (Stb.chg2 HY1_25.out h2 (by have:=HG.out;omega))
       have HBa_26:=hid (h2.blk HBa_25.out (by have:=HG.out;have:=HGa.out;omega))
       have HBs_26:=hid (h2.blk HBs_25.out (by have:=HG.out;have:=HGs.out;omega))
       have HBe_26:=hid (h2.blk HBe_25.out (by have:=HG.out;have:=HGe.out;omega))
       clear h1 h2
       clear HR25 HC25 HS25 HY1_25 HBa_25 HBs_25 HBe_25
       cases hbkIN:isS kIN (optP kNOT sa)
       ·have e:(accP kIN (optP kNOT sa)).2=(optP kNOT sa):=by simp[accP,hbkIN]
        rw[e]at HS26
        clear e
        rw[hbkIN]at HM2
        cases hnn:isS kNOT sa
        ·have e:optP kNOT sa=sa:=by simp[optP,hnn]
         rw[e]at HS26
         clear e
         have hp2:=HS26.out.blk.cell_some (i:=2) rfl
         have hf2:=HS26.out.blk.frozen 2
         have HSn:=hid HS26.out.same
         cases hbd:sa.bad
         ·rw[hbd]at HSn hp2
          have hc:Chg P w26 (w26.setCell ⟨P,2,none⟩ (.bool false)):=(Chg.refl P w26).set 2 _
          have HS27:=hid HSn.out
          have HR27:=hid (hc.blk HR26.out (by have:=HG.out;omega))
          have HC27:=hid (HC26.out.trans hc)
          have HY1_27:=hid (Stb.chg2 HY1_26.out hc (by have:=HG.out;omega))
          have HBa_27:=hid (hc.blk HBa_26.out (by have:=HG.out;have:=HGa.out;omega))
          have HBs_27:=hid (hc.blk HBs_26.out (by have:=HG.out;have:=HGs.out;omega))
          have HBe_27:=hid (hc.blk HBe_26.out (by have:=HG.out;have:=HGe.out;omega))
          clear hc HSn
          clear HR26 HC26 HS26 HY1_26 HBa_26 HBs_26 HBe_26
          go_upto_region 16 with fail
          generalize w26.setCell ⟨P,2,none⟩ (.bool false)=w27 at*
          obtain⟨b0,b1,b2,b3,b4,b5,b6,b7,-⟩:=cls HBa_27.out
          have HXX:Hid (ExG (g0+1) w27 (.mk ⟨op,tb,nm,ix,vk,vi,vt⟩ ks) (.agg #[.int .i64 op,.string tb,.string nm,.int .i64 ix,.int .i64 vk,.int .i64 vi,.string vt,.slice A1 k1 c1])):=⟨A1,k1,c1,rfl,Stb.weak HY1_27.out (fun q _ hq=>hq.1)⟩
          have HRv:Hid (R.1=(.mk ⟨op,tb,nm,ix,vk,vi,vt⟩ ks)):=by
           rw[HM2.out,hnn]
           rfl
          have HRs:Hid (R.2=sa):=by
           rw[HM2.out,hnn]
           rfl
          obtain⟨z0,z1,z2,z3,z4,z5,z6,z7,-⟩:=cls HR27.out
          obtain⟨y0,y1,y2,y3,y4,y5,y6,y7,-⟩:=frz HR27.out
          have hz:=sts_blk HR27.out (eC op tb nm ix vk vi vt A1 k1 c1) rfl
          have HGr:=hid (sts_grown g0 (eC op tb nm ix vk vi vt A1 k1 c1) w27 0)
          simp only[sts]at hz
          have HZ:=hid hz
          clear hz
          go_wp2_with fail
          obtain⟨q0,q1,q2,q3,q4,q5,q6,q7,-⟩:=cls HZ.out
          exact bodyPost_ret (v:= .agg #[.int .i64 op,.string tb,.string nm,.int .i64 ix,.int .i64 vk,.int .i64 vi,.string vt,.slice A1 k1 c1]) (by simp[results,Tryz.results220,go_sem,q0,q1,q2,q3,q4,q5,q6,q7]) rfl ⟨_,rfl,by rw[HRs.out];exact HS27.out.grown HGr.out (fun q hq=>by have:=HG.out;have:=Option.some.inj hq;omega),HC27.out.own HGr.out (fun q hq=>by have:=Option.some.inj hq;rw[HN0.out];omega),by rw[HRv.out,HN0.out];exact fin_ex HXX.out HGr.out (Nat.lt_succ_self _)⟩
         ·rw[hbd]at HSn hp2
          have hc:Chg P w26 (w26.setCell ⟨P,2,none⟩ (.bool true)):=(Chg.refl P w26).set 2 _
          have HS27:=hid HSn.out
          have HR27:=hid (hc.blk HR26.out (by have:=HG.out;omega))
          have HC27:=hid (HC26.out.trans hc)
          have HY1_27:=hid (Stb.chg2 HY1_26.out hc (by have:=HG.out;omega))
          have HBa_27:=hid (hc.blk HBa_26.out (by have:=HG.out;have:=HGa.out;omega))
          have HBs_27:=hid (hc.blk HBs_26.out (by have:=HG.out;have:=HGs.out;omega))
          have HBe_27:=hid (hc.blk HBe_26.out (by have:=HG.out;have:=HGe.out;omega))
          clear hc HSn
          clear HR26 HC26 HS26 HY1_26 HBa_26 HBs_26 HBe_26
          go_upto_region 16 with fail
          generalize w26.setCell ⟨P,2,none⟩ (.bool true)=w27 at*
          obtain⟨b0,b1,b2,b3,b4,b5,b6,b7,-⟩:=cls HBa_27.out
          have HXX:Hid (ExG (g0+1) w27 (.mk ⟨op,tb,nm,ix,vk,vi,vt⟩ ks) (.agg #[.int .i64 op,.string tb,.string nm,.int .i64 ix,.int .i64 vk,.int .i64 vi,.string vt,.slice A1 k1 c1])):=⟨A1,k1,c1,rfl,Stb.weak HY1_27.out (fun q _ hq=>hq.1)⟩
          have HRv:Hid (R.1=(.mk ⟨op,tb,nm,ix,vk,vi,vt⟩ ks)):=by
           rw[HM2.out,hnn]
           rfl
          have HRs:Hid (R.2=sa):=by
           rw[HM2.out,hnn]
           rfl
          obtain⟨z0,z1,z2,z3,z4,z5,z6,z7,-⟩:=cls HR27.out
          obtain⟨y0,y1,y2,y3,y4,y5,y6,y7,-⟩:=frz HR27.out
          have hz:=sts_blk HR27.out (eC op tb nm ix vk vi vt A1 k1 c1) rfl
          have HGr:=hid (sts_grown g0 (eC op tb nm ix vk vi vt A1 k1 c1) w27 0)
          simp only[sts]at hz
          have HZ:=hid hz
          clear hz
          go_wp2_with fail
          obtain⟨q0,q1,q2,q3,q4,q5,q6,q7,-⟩:=cls HZ.out
          exact bodyPost_ret (v:= .agg #[.int .i64 op,.string tb,.string nm,.int .i64 ix,.int .i64 vk,.int .i64 vi,.string vt,.slice A1 k1 c1]) (by simp[results,Tryz.results220,go_sem,q0,q1,q2,q3,q4,q5,q6,q7]) rfl ⟨_,rfl,by rw[HRs.out];exact HS27.out.grown HGr.out (fun q hq=>by have:=HG.out;have:=Option.some.inj hq;omega),HC27.out.own HGr.out (fun q hq=>by have:=Option.some.inj hq;rw[HN0.out];omega),by rw[HRv.out,HN0.out];exact fin_ex HXX.out HGr.out (Nat.lt_succ_self _)⟩
        ·have e:(optP kNOT sa).bad=false:=by
          have:=isS_cons hnn
          simp[optP,hnn,Ps.next,this.1]
         have hp2:=HS26.out.blk.cell_some (i:=2) rfl
         have hf2:=HS26.out.blk.frozen 2
         rw[e]at hp2
         clear e
         have HSn:=hid HS26.out.fail
         have hc:Chg P w26 (w26.setCell ⟨P,2,none⟩ (.bool true)):=(Chg.refl P w26).set 2 _
         have HS27:=hid HSn.out
         have HR27:=hid (hc.blk HR26.out (by have:=HG.out;omega))
         have HC27:=hid (HC26.out.trans hc)
         have HY1_27:=hid (Stb.chg2 HY1_26.out hc (by have:=HG.out;omega))
         have HBa_27:=hid (hc.blk HBa_26.out (by have:=HG.out;have:=HGa.out;omega))
         have HBs_27:=hid (hc.blk HBs_26.out (by have:=HG.out;have:=HGs.out;omega))
         have HBe_27:=hid (hc.blk HBe_26.out (by have:=HG.out;have:=HGe.out;omega))
         clear hc HSn
         clear HR26 HC26 HS26 HY1_26 HBa_26 HBs_26 HBe_26
         go_upto_region 16 with fail
         generalize w26.setCell ⟨P,2,none⟩ (.bool true)=w27 at*
         obtain⟨b0,b1,b2,b3,b4,b5,b6,b7,-⟩:=cls HBa_27.out
         have HXX:Hid (ExG (g0+1) w27 (.mk ⟨op,tb,nm,ix,vk,vi,vt⟩ ks) (.agg #[.int .i64 op,.string tb,.string nm,.int .i64 ix,.int .i64 vk,.int .i64 vi,.string vt,.slice A1 k1 c1])):=⟨A1,k1,c1,rfl,Stb.weak HY1_27.out (fun q _ hq=>hq.1)⟩
         have HRv:Hid (R.1=(.mk ⟨op,tb,nm,ix,vk,vi,vt⟩ ks)):=by
          rw[HM2.out,hnn]
          rfl
         have HRs:Hid (R.2=(optP kNOT sa).fail):=by
          rw[HM2.out,hnn]
          rfl
         obtain⟨z0,z1,z2,z3,z4,z5,z6,z7,-⟩:=cls HR27.out
         obtain⟨y0,y1,y2,y3,y4,y5,y6,y7,-⟩:=frz HR27.out
         have hz:=sts_blk HR27.out (eC op tb nm ix vk vi vt A1 k1 c1) rfl
         have HGr:=hid (sts_grown g0 (eC op tb nm ix vk vi vt A1 k1 c1) w27 0)
         simp only[sts]at hz
         have HZ:=hid hz
         clear hz
         go_wp2_with fail
         obtain⟨q0,q1,q2,q3,q4,q5,q6,q7,-⟩:=cls HZ.out
         exact bodyPost_ret (v:= .agg #[.int .i64 op,.string tb,.string nm,.int .i64 ix,.int .i64 vk,.int .i64 vi,.string vt,.slice A1 k1 c1]) (by simp[results,Tryz.results220,go_sem,q0,q1,q2,q3,q4,q5,q6,q7]) rfl ⟨_,rfl,by rw[HRs.out];exact HS27.out.grown HGr.out (fun q hq=>by have:=HG.out;have:=Option.some.inj hq;omega),HC27.out.own HGr.out (fun q hq=>by have:=Option.some.inj hq;rw[HN0.out];omega),by rw[HRv.out,HN0.out];exact fin_ex HXX.out HGr.out (Nat.lt_succ_self _)⟩
       ·have e:(accP kIN (optP kNOT sa)).2=(optP kNOT sa).next:=by simp[accP,hbkIN]
        rw[e]at HS26
        clear e
        rw[hbkIN]at HM2
        go_wp2_with fail
        refine(need_any (HS26.out.ext ((Ext.refl w26).alloc (.cells #[.string yLp] 9))) hL yLp w26.heap.size (by simp[World.cell?_alloc_new])).mono ?_
        rintro _ w27 ⟨v,rfl,h1,h2,_⟩
        replace h2:Chg P w26 w27:=(Chg.of ((Ext.refl w26).alloc (.cells #[.string yLp] 9))).trans h2
        have HS27:=hid h1
        have HR27:=hid (h2.blk HR26.out (by have:=HG.out;omega))
        have HC27:=hid (HC26.out.trans h2)
        have HY1_27:=hid (Stb.chg2 HY1_26.out h2 (by have:=HG.out;omega))
        have HBa_27:=hid (h2.blk HBa_26.out (by have:=HG.out;have:=HGa.out;omega))
        have HBs_27:=hid (h2.blk HBs_26.out (by have:=HG.out;have:=HGs.out;omega))
        have HBe_27:=hid (h2.blk HBe_26.out (by have:=HG.out;have:=HGe.out;omega))
        clear h1 h2
        clear HR26 HC26 HS26 HY1_26 HBa_26 HBs_26 HBe_26
        have hls:(needP yLp (optP kNOT sa).next).r.length≤s.r.length:=Nat.le_trans (need_len _ _) (Nat.le_trans (next_len _) (Nat.le_trans (opt_len _ _) hsl))
        have HIn:Hid (inP (sumP p) (.mk ⟨op,tb,nm,ix,vk,vi,vt⟩ ks) (needP yLp (optP kNOT sa).next)=inGo (sumP p) (.mk ⟨op,tb,nm,ix,vk,vi,vt⟩ ks) ((needP yLp (optP kNOT sa).next).r.length+1) (opE 10 [(.mk ⟨op,tb,nm,ix,vk,vi,vt⟩ ks),((sumP p) (needP yLp (optP kNOT sa).next)).1]) ((sumP p) (needP yLp (optP kNOT sa).next)).2):=rfl
        have hf2:=fwd_sum hfw (needP yLp (optP kNOT sa).next)
        obtain⟨IN,hIN⟩:∃x,inP (sumP p) (.mk ⟨op,tb,nm,ix,vk,vi,vt⟩ ks) (needP yLp (optP kNOT sa).next)=x:=⟨_,rfl⟩
        rw[hIN]at HIn HM2
        clear hIN
        have HOd:=hid (hr w27.drew (needP yLp (optP kNOT sa).next) (HS27.out.ext (Ext.refl w27).drew) (by omega))
        obtain⟨st2,hst2⟩:∃x,((sumP p) (needP yLp (optP kNOT sa).next)).2=x:=⟨_,rfl⟩
        obtain⟨e2,he2⟩:∃x,((sumP p) (needP yLp (optP kNOT sa).next)).1=x:=⟨_,rfl⟩
        have HV2:=hid he2
        have HT2:=hid hst2
        rw[hst2,he2]at HOd
        clear hst2 he2
        obtain⟨⟨op2,tb2,nm2,ix2,vk2,vi2,vt2⟩,ks2⟩:=e2
        have HOe:Hid (Calls Tryz.prog 258 #[.pointer (some ⟨P,0,none⟩)] w27.drew fun e w3=> ∃(A2:Option Addr) (k2 c2:Nat),e= .returned (.agg #[.int .i64 op2,.string tb2,.string nm2,.int .i64 ix2,.int .i64 vk2,.int .i64 vi2,.string vt2,.slice A2 k2 c2])∧PsAt 68 P A c L w0 w3 st2∧Chg P w27 w3∧Stb (Sx g0 ge) w3 (fun w'=>ExV w' (.mk ⟨op2,tb2,nm2,ix2,vk2,vi2,vt2⟩ ks2) A2 k2 c2)):=
         HOd.out.mono fun e w3 ⟨v,he,h5,h6,A2,k2,c2,hv,h7⟩=>⟨A2,k2,c2,by rw[he,hv];rfl,h5,(Chg.of (Ext.refl w27).drew).trans h6,h7.weak fun q _ hq=>⟨Nat.le_trans HR27.out.lt hq,by have h8:=HBe_27.out.lt;have h9:w27.heap.size≤q:=hq;omega⟩⟩
        clear HOd
        rw[HT2.out,HV2.out]at HIn
        rw[HT2.out]at hf2
        clear HT2 HV2
        obtain⟨n0',hn0'⟩:∃m,(needP yLp (optP kNOT sa).next).r.length+1=m:=⟨_,rfl⟩
        rw[hn0']at HIn
        have hfu:st2.r.length<n0':=by omega
        have hfs:st2.r.length≤s.r.length:=by omega
        clear hn0' hls hf2
        have HIN:=hid HIn.out
        clear HIn
        obtain⟨stI,hstI⟩:∃x,(needP yLp (optP kNOT sa).next)=x:=⟨_,rfl⟩
        rw[hstI]at HS27
        clear hstI
        obtain⟨b0,b1,b2,b3,b4,b5,b6,b7,-⟩:=cls HBa_27.out
        go_upto_region 25 with fail
        go_cut [6] from 87 to 91 (fun nv wx=>nv= .bool (isS kNOT sa)∧∃(B:Option Addr) (k c':Nat),PsAt 68 P A c L w0 wx st2∧Blk wx ge 37 ((opE 10 [(.mk ⟨op,tb,nm,ix,vk,vi,vt⟩ ks),(.mk ⟨op2,tb2,nm2,ix2,vk2,vi2,vt2⟩ ks2)]).d.cells B k c')∧Stb (Sx g0 ge) wx (fun w'=>ExV w' (opE 10 [(.mk ⟨op,tb,nm,ix,vk,vi,vt⟩ ks),(.mk ⟨op2,tb2,nm2,ix2,vk2,vi2,vt2⟩ ks2)]) B k c')∧Blk wx ga 37 (eC op tb nm ix vk vi vt A1 k1 c1)∧Stb (Sx g0 ge) wx (fun w'=>ExV w' (.mk ⟨op,tb,nm,ix,vk,vi,vt⟩ ks) A1 k1 c1)∧Blk wx g0 37 eZ∧Chg P w wx)
        case first=>
         go_region_law (first
          |(go_simp;go_at_call 105;(with_reducible refine(op_any _ _ _ _ _).mono ?_);rintro _ w5 ⟨rfl,hx5⟩;have hx6:Ext w3 w5:=((Ext.refl w3).alloc (.cells #[.int .i64 op,.string tb,.string nm,.int .i64 ix,.int .i64 vk,.int .i64 vi,.string vt,.slice A1 k1 c1,.int .i64 op2,.string tb2,.string nm2,.int .i64 ix2,.int .i64 vk2,.int .i64 vi2,.string vt2,.slice A2 k2 c2] 37)).trans hx5;have HT5:=HT3.ext hx6;obtain⟨z0,z1,z2,z3,z4,z5,z6,z7,-⟩:=cls HT5;obtain⟨y0,y1,y2,y3,y4,y5,y6,y7,-⟩:=frz HT5)
          |(go_simp;go_at_call 258;(with_reducible refine HOe.out.mono ?_);rintro _ w3 ⟨A2,k2,c2,rfl,h5,h6,h7⟩;have HBa3:Blk w3 ga 37 (eC op tb nm ix vk vi vt A1 k1 c1):=h6.blk HBa_27.out (by have:=HG.out;have:=HGa.out;omega);have HT3:Blk w3 ge 37 eZ:=h6.blk HBe_27.out (by have:=HG.out;have:=HGe.out;omega);obtain⟨d0,d1,d2,d3,d4,d5,d6,d7,-⟩:=cls HBa3))
         all_goals
          have hlt3:Sx g0 ge w3.heap.size:=⟨Nat.lt_of_lt_of_le HR27.out.lt h6.size,by have:=Nat.lt_of_lt_of_le HBe_27.out.lt h6.size;omega⟩
          have hya:=Stb.chg2 HY1_27.out h6 (by have:=HG.out;omega)
          have hnew:=exS_op2 (S:=Sx g0 ge) (T:=37) (o:=10) (by unfold I64;omega) hlt3 hya h7
          have hgr:=sts_grown ge (eC 10 ⟨#[]⟩ ⟨#[]⟩ 0 0 0 ⟨#[]⟩ (some ⟨w3.heap.size,0,none⟩) 2 2) w5 0
          have HPn:=hid ((h5.ext hx6).grown hgr (fun q hq=>by have:=Option.some.inj hq;have:=HG.out;have:=HGe.out;omega))
          have HBn:=hid (sts_blk HT5 (eC 10 ⟨#[]⟩ ⟨#[]⟩ 0 0 0 ⟨#[]⟩ (some ⟨w3.heap.size,0,none⟩) 2 2) rfl)
          have HXn:=hid (Stb.grown (Stb.ext hnew hx5) hgr (fun q hq e=>hq.2 (Option.some.inj e).symm))
          have HYn:=hid (Stb.grown (Stb.ext hya hx6) hgr (fun q hq e=>hq.2 (Option.some.inj e).symm))
          have HAn:=hid (((h6.blk HBa_27.out (by have:=HG.out;have:=HGa.out;omega)).ext hx6).grown hgr (fun e=>hae (Option.some.inj e)))
          have HRn:=hid (((h6.blk HR27.out (by have:=HG.out;omega)).ext hx6).grown hgr (fun e=>by have:=Option.some.inj e;have:=HGe.out;omega))
          have HCn:=hid (((HC27.out.trans h6).ext hx6).own hgr (fun q hq=>by have:=Option.some.inj hq;have:=HGe.out;rw[HN0.out];omega))
          simp only[sts]at HPn HBn HXn HYn HAn HRn HCn
          clear hgr hnew hya h5 h6
          go_wp2_with fail
          go_meet
          exact⟨rfl,_,_,_,HPn.out,HBn.out,HXn.out,HAn.out,HYn.out,HRn.out,HCn.out⟩
        case rest=>
         obtain⟨rfl,B,k,c',h1,h2,h3,h4,h5,h6,h7⟩:=hcut
         clear HS27 HR27 HC27 HY1_27 HBa_27 HBs_27 HBe_27 HOe
         have hrc:=wc
         clear hrc
         go_wp2_with fail
         go_loopw [93] (fun _ wr=> ∃(m:Nat) (e:Ex) (B:Option Addr) (k c':Nat) (st:Ps),st.r.length<m∧st.r.length≤s.r.length∧IN=inGo (sumP p) (.mk ⟨op,tb,nm,ix,vk,vi,vt⟩ ks) m e st∧PsAt 68 P A c L w0 wr st∧Blk wr ge 37 (e.d.cells B k c')∧Stb (Sx g0 ge) wr (fun w'=>ExV w' e B k c')∧Blk wr ga 37 (eC op tb nm ix vk vi vt A1 k1 c1)∧Stb (Sx g0 ge) wr (fun w'=>ExV w' (.mk ⟨op,tb,nm,ix,vk,vi,vt⟩ ks) A1 k1 c1)∧Blk wr g0 37 eZ∧Chg P w wr) (fun _ wr=>20001-posOf P wr)
         case atStart=>exact⟨n0',_,B,k,c',st2,hfu,hfs,HIN.out,h1,h2,h3,h4,h5,h6,h7⟩
         case round=>
          obtain⟨m,e7,A3,k3,c3,st3,hm,hms,hI,g1,g2,g3,g4,g5,g6,g7⟩:=hrel
          clear h1 h2 h3 h4 h5 h6 h7 HIN
          obtain⟨m,rfl⟩:∃x,m=x+1:=⟨m-1,by omega⟩
          rw[inGo]at hI
          have HI:=hid hI
          obtain⟨⟨op3,tb3,nm3,ix3,vk3,vi3,vt3⟩,ks3⟩:=e7
          have HS40:=hid g1
          have HBe_40:Hid (Blk wr ge 37 (eC op3 tb3 nm3 ix3 vk3 vi3 vt3 A3 k3 c3)):=g2
          have HY3_40:=hid g3
          have HBa_40:=hid g4
          have HY1_40:=hid g5
          have HR40:=hid g6
          have HC40:=hid g7
          have HMs:Hid (posOf P wr=L.length-st3.r.length):=g1.posOf
          have hle0:=g1.le
          have hne0:=g1.ne
          clear hI g1 g2 g3 g4 g5 g6 g7
          generalize wr=w40 at*
          go_wp2_with fail
          refine(accept_any HS40.out hL yCm).mono ?_
          rintro _ w41 ⟨v,rfl,h1,h2,rfl⟩
          have HS41:=hid h1
          have HR41:=hid (h2.blk HR40.out (by have:=HG.out;omega))
          have HC41:=hid (HC40.out.trans h2)
          have HY1_41:=hid (Stb.chg2 HY1_40.out h2 (by have:=HG.out;omega))
          have HY3_41:=hid (Stb.chg2 HY3_40.out h2 (by have:=HG.out;omega))
          have HBa_41:=hid (h2.blk HBa_40.out (by have:=HG.out;have:=HGa.out;omega))
          have HBe_41:=hid (h2.blk HBe_40.out (by have:=HG.out;have:=HGe.out;omega))
          clear h1 h2
          clear HR40 HC40 HS40 HY1_40 HY3_40 HBa_40 HBe_40
          cases hcm:isS yCm st3
          ·have e:(accP yCm st3).2=st3:=by simp[accP,hcm]
           rw[e]at HS41
           clear e
           rw[hcm]at HI
           go_wp2_with fail
           refine(need_any (HS41.out.ext ((Ext.refl w41).alloc (.cells #[.string yRp] 9))) hL yRp w41.heap.size (by simp[World.cell?_alloc_new])).mono ?_
           rintro _ w42 ⟨v,rfl,h1,h2,_⟩
           replace h2:Chg P w41 w42:=(Chg.of ((Ext.refl w41).alloc (.cells #[.string yRp] 9))).trans h2
           have HS42:=hid h1
           have HR42:=hid (h2.blk HR41.out (by have:=HG.out;omega))
           have HC42:=hid (HC41.out.trans h2)
           have HY1_42:=hid (Stb.chg2 HY1_41.out h2 (by have:=HG.out;omega))
           have HY3_42:=hid (Stb.chg2 HY3_41.out h2 (by have:=HG.out;omega))
           have HBa_42:=hid (h2.blk HBa_41.out (by have:=HG.out;have:=HGa.out;omega))
           have HBe_42:=hid (h2.blk HBe_41.out (by have:=HG.out;have:=HGe.out;omega))
           clear h1 h2
           clear HR41 HC41 HS41 HY1_41 HY3_41 HBa_41 HBe_41
           go_wp2_with fail
           go_meet
           refine⟨isS kNOT sa,(.mk ⟨op3,tb3,nm3,ix3,vk3,vi3,vt3⟩ ks3),A3,k3,c3,_,rfl,?_,HS42.out,HBe_42.out,Stb.weak HY3_42.out (fun q _ hq=>hq.1),HR42.out,HC42.out⟩
           rw[HM2.out,HI.out]
           rfl
          ·have e:(accP yCm st3).2=st3.next:=by simp[accP,hcm]
           rw[e]at HS41
           clear e
           rw[hcm]at HI
           have hln:=isS_len hcm
           have hfn:=fwd_sum hfw st3.next
           have HOd:=hid (hr w41.drew st3.next (HS41.out.ext (Ext.refl w41).drew) (by omega))
           obtain⟨st2,hst2⟩:∃x,((sumP p) st3.next).2=x:=⟨_,rfl⟩
           obtain⟨e2,he2⟩:∃x,((sumP p) st3.next).1=x:=⟨_,rfl⟩
           have HV2:=hid he2
           have HT2:=hid hst2
           rw[hst2,he2]at HOd
           clear hst2 he2
           obtain⟨⟨op2,tb2,nm2,ix2,vk2,vi2,vt2⟩,ks2⟩:=e2
           have HOe:Hid (Calls Tryz.prog 258 #[.pointer (some ⟨P,0,none⟩)] w41.drew fun e w3=> ∃(A2:Option Addr) (k2 c2:Nat),e= .returned (.agg #[.int .i64 op2,.string tb2,.string nm2,.int .i64 ix2,.int .i64 vk2,.int .i64 vi2,.string vt2,.slice A2 k2 c2])∧PsAt 68 P A c L w0 w3 st2∧Chg P w41 w3∧Stb (Sx g0 ge) w3 (fun w'=>ExV w' (.mk ⟨op2,tb2,nm2,ix2,vk2,vi2,vt2⟩ ks2) A2 k2 c2)):=
            HOd.out.mono fun e w3 ⟨v,he,h5,h6,A2,k2,c2,hv,h7⟩=>⟨A2,k2,c2,by rw[he,hv];rfl,h5,(Chg.of (Ext.refl w41).drew).trans h6,h7.weak fun q _ hq=>⟨Nat.le_trans HR41.out.lt hq,by have h8:=HBe_41.out.lt;have h9:w41.heap.size≤q:=hq;omega⟩⟩
           clear HOd
           have HI2:Hid (IN=inGo (sumP p) (.mk ⟨op,tb,nm,ix,vk,vi,vt⟩ ks) m (opE 19 [(.mk ⟨op3,tb3,nm3,ix3,vk3,vi3,vt3⟩ ks3),opE 10 [(.mk ⟨op,tb,nm,ix,vk,vi,vt⟩ ks),(.mk ⟨op2,tb2,nm2,ix2,vk2,vi2,vt2⟩ ks2)]]) st2):=by
            unfold Hid
            rw[←HT2.out,←HV2.out]
            exact HI.out
           rw[HT2.out]at hfn
           clear HI HT2 HV2
           obtain⟨b0,b1,b2,b3,b4,b5,b6,b7,-⟩:=cls HBa_41.out
           obtain⟨n0,n1,n2,n3,n4,n5,n6,n7,-⟩:=cls HBe_41.out
           go_upto_region 27 with fail
           go_region_law (first
            |(go_simp;go_at_call 105;(with_reducible refine(op_any 10 _ _ _ _).mono ?_);rintro _ w4 ⟨rfl,hx4⟩;have hx7:Ext w3 w4:=((Ext.refl w3).alloc (.cells #[.int .i64 op,.string tb,.string nm,.int .i64 ix,.int .i64 vk,.int .i64 vi,.string vt,.slice A1 k1 c1,.int .i64 op2,.string tb2,.string nm2,.int .i64 ix2,.int .i64 vk2,.int .i64 vi2,.string vt2,.slice A2 k2 c2] 37)).trans hx4;have HT4:Blk w4 ge 37 (eC op3 tb3 nm3 ix3 vk3 vi3 vt3 A3 k3 c3):=HT3.ext hx7;obtain⟨p0,p1,p2,p3,p4,p5,p6,p7,-⟩:=cls HT4)
            |(go_simp;go_at_call 105;(with_reducible refine(op_any 19 _ _ _ _).mono ?_);rintro _ w5 ⟨rfl,hx5⟩;have hx6:Ext w4 w5:=((Ext.refl w4).alloc (.cells #[.int .i64 op3,.string tb3,.string nm3,.int .i64 ix3,.int .i64 vk3,.int .i64 vi3,.string vt3,.slice A3 k3 c3,.int .i64 10,.string ⟨#[]⟩,.string ⟨#[]⟩,.int .i64 0,.int .i64 0,.int .i64 0,.string ⟨#[]⟩,.slice (some ⟨w3.heap.size,0,none⟩) 2 2] 37)).trans hx5;have HT5:=HT4.ext hx6;obtain⟨z0,z1,z2,z3,z4,z5,z6,z7,-⟩:=cls HT5;obtain⟨y0,y1,y2,y3,y4,y5,y6,y7,-⟩:=frz HT5)
            |(go_simp;go_at_call 258;(with_reducible refine HOe.out.mono ?_);rintro _ w3 ⟨A2,k2,c2,rfl,h5,h6,h7⟩;have HBa3:Blk w3 ga 37 (eC op tb nm ix vk vi vt A1 k1 c1):=h6.blk HBa_41.out (by have:=HG.out;have:=HGa.out;omega);have HT3:Blk w3 ge 37 (eC op3 tb3 nm3 ix3 vk3 vi3 vt3 A3 k3 c3):=h6.blk HBe_41.out (by have:=HG.out;have:=HGe.out;omega);obtain⟨d0,d1,d2,d3,d4,d5,d6,d7,-⟩:=cls HBa3;obtain⟨x0,x1,x2,x3,x4,x5,x6,x7,-⟩:=cls HT3;have HTa:Blk (w3.alloc (.cells #[.int .i64 op,.string tb,.string nm,.int .i64 ix,.int .i64 vk,.int .i64 vi,.string vt,.slice A1 k1 c1,.int .i64 op2,.string tb2,.string nm2,.int .i64 ix2,.int .i64 vk2,.int .i64 vi2,.string vt2,.slice A2 k2 c2] 37)) ge 37 (eC op3 tb3 nm3 ix3 vk3 vi3 vt3 A3 k3 c3):=HT3.ext ((Ext.refl w3).alloc _);obtain⟨m0,m1,m2,m3,m4,m5,m6,m7,-⟩:=cls HTa))
           all_goals
            have hlt3:Sx g0 ge w3.heap.size:=⟨Nat.lt_of_lt_of_le HR41.out.lt h6.size,by have:=Nat.lt_of_lt_of_le HBe_41.out.lt h6.size;omega⟩
            have hlt4:Sx g0 ge w4.heap.size:=⟨Nat.lt_of_lt_of_le HR41.out.lt (Nat.le_trans h6.size hx7.size),by have:=Nat.lt_of_lt_of_le HBe_41.out.lt (Nat.le_trans h6.size hx7.size);omega⟩
            have hya:=Stb.chg2 HY1_41.out h6 (by have:=HG.out;omega)
            have h10:=Stb.ext (exS_op2 (S:=Sx g0 ge) (T:=37) (o:=10) (by unfold I64;omega) hlt3 hya h7) hx4
            have hnew:=exS_op2 (S:=Sx g0 ge) (T:=37) (o:=19) (by unfold I64;omega) hlt4 (Stb.ext (Stb.chg2 HY3_41.out h6 (by have:=HG.out;omega)) hx7) h10
            have hgr:=sts_grown ge (eC 19 ⟨#[]⟩ ⟨#[]⟩ 0 0 0 ⟨#[]⟩ (some ⟨w4.heap.size,0,none⟩) 2 2) w5 0
            have HPn:=hid ((h5.ext (hx7.trans hx6)).grown hgr (fun q hq=>by have:=Option.some.inj hq;have:=HG.out;have:=HGe.out;omega))
            have HBn:=hid (sts_blk HT5 (eC 19 ⟨#[]⟩ ⟨#[]⟩ 0 0 0 ⟨#[]⟩ (some ⟨w4.heap.size,0,none⟩) 2 2) rfl)
            have HXn:=hid (Stb.grown (Stb.ext hnew hx5) hgr (fun q hq e=>hq.2 (Option.some.inj e).symm))
            have HYn:=hid (Stb.grown (Stb.ext hya (hx7.trans hx6)) hgr (fun q hq e=>hq.2 (Option.some.inj e).symm))
            have HAn:=hid (((h6.blk HBa_41.out (by have:=HG.out;have:=HGa.out;omega)).ext (hx7.trans hx6)).grown hgr (fun e=>hae (Option.some.inj e)))
            have HRn:=hid (((h6.blk HR41.out (by have:=HG.out;omega)).ext (hx7.trans hx6)).grown hgr (fun e=>by have:=Option.some.inj e;have:=HGe.out;omega))
            have HCn:=hid (((HC41.out.trans h6).ext (hx7.trans hx6)).own hgr (fun q hq=>by have:=Option.some.inj hq;have:=HGe.out;rw[HN0.out];omega))
            simp only[sts]at HPn HBn HXn HYn HAn HRn HCn
            clear hgr hnew hya h5 h6
            go_wp2_with fail
            exact⟨⟨m,_,some ⟨w4.heap.size,0,none⟩,2,2,st2,by omega,by omega,HI2.out,HPn.out,HBn.out,HXn.out,HAn.out,HYn.out,HRn.out,HCn.out⟩,by rw[HPn.out.posOf,HMs.out];have:=hL.len;omega⟩
      ·have e:(accP kBETWEEN (optP kNOT sa)).2=(optP kNOT sa).next:=by simp[accP,hbkBETWEEN]
       rw[e]at HS25
       clear e
       rw[hbkBETWEEN]at HM2
       have hls:(optP kNOT sa).next.r.length≤s.r.length:=Nat.le_trans (next_len _) (Nat.le_trans (opt_len _ _) hsl)
       have hf2:=fwd_sum hfw (optP kNOT sa).next
       go_wp2_with fail
       refine(hr w25 (optP kNOT sa).next HS25.out (by omega)).mono ?_
       rintro _ w26 ⟨v,rfl,h1,h2,A4,k4,c4,rfl,h3⟩
       have HS26:=hid h1
       have HR26:=hid (h2.blk HR25.out (by have:=HG.out;omega))
       have HC26:=hid (HC25.out.trans h2)
       have HY1_26:=hid (Stb.chg2 HY1_25.out h2 (by have:=HG.out;omega))
       have HBa_26:=hid (h2.blk HBa_25.out (by have:=HG.out;have:=HGa.out;omega))
       have HBs_26:=hid (h2.blk HBs_25.out (by have:=HG.out;have:=HGs.out;omega))
       have HBe_26:=hid (h2.blk HBe_25.out (by have:=HG.out;have:=HGe.out;omega))
       obtain⟨e4,he4⟩:∃e,((sumP p) (optP kNOT sa).next).1=e:=⟨_,rfl⟩
       obtain⟨st4,hst4⟩:∃x,((sumP p) (optP kNOT sa).next).2=x:=⟨_,rfl⟩
       rw[he4]at h3 HM2 ⊢
       rw[hst4]at HM2 hf2 HS26
       clear he4 hst4
       obtain⟨⟨op4,tb4,nm4,ix4,vk4,vi4,vt4⟩,ks4⟩:=e4
       unfold Nd.val
       simp only[Ex.d]
       have HY4_26:Hid (Stb (Sx g0 ge) w26 fun w'=>ExV w' (.mk ⟨op4,tb4,nm4,ix4,vk4,vi4,vt4⟩ ks4) A4 k4 c4):=h3.weak fun q _ hq=>⟨Nat.le_trans HR25.out.lt hq,by have h8:=HBe_25.out.lt;have h9:w25.heap.size≤q:=hq;omega⟩
       clear h1 h2 h3
       clear HR25 HC25 HS25 HY1_25 HBa_25 HBs_25 HBe_25
       go_upto_region 21 with fail
       have hx:=(Ext.refl w26).alloc (.cells #[.int .i64 op4,.string tb4,.string nm4,.int .i64 ix4,.int .i64 vk4,.int .i64 vi4,.string vt4,.slice A4 k4 c4] 37)
       have HR27:=hid (HR26.out.ext hx)
       have HC27:=hid (HC26.out.ext hx)
       have HS27:=hid (HS26.out.ext hx)
       have HY1_27:=hid (Stb.ext HY1_26.out hx)
       have HY4_27:=hid (Stb.ext HY4_26.out hx)
       have HBa_27:=hid (HBa_26.out.ext hx)
       have HBs_27:=hid (HBs_26.out.ext hx)
       have HBe_27:=hid (HBe_26.out.ext hx)
       have HBl_27:=hid (Blk.of_new w26 37 (eC op4 tb4 nm4 ix4 vk4 vi4 vt4 A4 k4 c4))
       have HGl:Hid (g0<w26.heap.size):=HR26.out.lt
       clear hx
       clear HR26 HC26 HS26 HY1_26 HY4_26 HBa_26 HBs_26 HBe_26
       generalize w26.alloc (.cells #[.int .i64 op4,.string tb4,.string nm4,.int .i64 ix4,.int .i64 vk4,.int .i64 vi4,.string vt4,.slice A4 k4 c4] 37)=w27 at*
       generalize w26.heap.size=gl at*
       go_wp2_with fail
       refine(need_any (HS27.out.ext ((Ext.refl w27).alloc (.cells #[.string kAND] 9))) hL kAND w27.heap.size (by simp[World.cell?_alloc_new])).mono ?_
       rintro _ w28 ⟨v,rfl,h1,h2,_⟩
       replace h2:Chg P w27 w28:=(Chg.of ((Ext.refl w27).alloc (.cells #[.string kAND] 9))).trans h2
       have HS28:=hid h1
       have HR28:=hid (h2.blk HR27.out (by have:=HG.out;omega))
       have HC28:=hid (HC27.out.trans h2)
       have HY1_28:=hid (Stb.chg2 HY1_27.out h2 (by have:=HG.out;omega))
       have HY4_28:=hid (Stb.chg2 HY4_27.out h2 (by have:=HG.out;omega))
       have HBa_28:=hid (h2.blk HBa_27.out (by have:=HG.out;have:=HGa.out;omega))
       have HBs_28:=hid (h2.blk HBs_27.out (by have:=HG.out;have:=HGs.out;omega))
       have HBe_28:=hid (h2.blk HBe_27.out (by have:=HG.out;have:=HGe.out;omega))
       have HBl_28:=hid (h2.blk HBl_27.out (by have:=HG.out;have:=HGl.out;omega))
       clear h1 h2
       clear HR27 HC27 HS27 HY1_27 HY4_27 HBa_27 HBs_27 HBe_27 HBl_27
       have hla:=need_len kAND st4
       have HOe:Hid (∀W',PsAt 68 P A c L w0 W' (needP kAND st4)→g0+1≤W'.heap.size→ge<W'.heap.size→Calls Tryz.prog 258 #[.pointer (some ⟨P,0,none⟩)] W' fun e w4=> ∃(A2:Option Addr) (k2 c2:Nat) (op2:Int) (tb2 nm2:ByteArray) (ix2 vk2 vi2:Int) (vt2:ByteArray) (ks2:List Ex),(sumP p (needP kAND st4)).1=(.mk ⟨op2,tb2,nm2,ix2,vk2,vi2,vt2⟩ ks2)∧e= .returned (.agg #[.int .i64 op2,.string tb2,.string nm2,.int .i64 ix2,.int .i64 vk2,.int .i64 vi2,.string vt2,.slice A2 k2 c2])∧PsAt 68 P A c L w0 w4 (sumP p (needP kAND st4)).2∧Chg P W' w4∧Stb (Sx g0 ge) w4 (fun w'=>ExV w' (.mk ⟨op2,tb2,nm2,ix2,vk2,vi2,vt2⟩ ks2) A2 k2 c2)):=by
        intro W' hW h8 h9
        refine(hr W' (needP kAND st4) hW (by omega)).mono ?_
        rintro e w4 ⟨v,rfl,h5,h6,A2,k2,c2,rfl,h7⟩
        obtain⟨e2,he2⟩:∃x,(sumP p (needP kAND st4)).1=x:=⟨_,rfl⟩
        rw[he2]at h7 ⊢
        obtain⟨⟨op2,tb2,nm2,ix2,vk2,vi2,vt2⟩,ks2⟩:=e2
        exact⟨A2,k2,c2,op2,tb2,nm2,ix2,vk2,vi2,vt2,ks2,rfl,rfl,h5,h6,h7.weak fun q _ hq=>by have hq:W'.heap.size≤q:=hq;exact⟨by omega,by omega⟩⟩
       have hxw:Ext w28 (w28.alloc (.cells #[.int .i64 op,.string tb,.string nm,.int .i64 ix,.int .i64 vk,.int .i64 vi,.string vt,.slice A1 k1 c1,.int .i64 op4,.string tb4,.string nm4,.int .i64 ix4,.int .i64 vk4,.int .i64 vi4,.string vt4,.slice A4 k4 c4] 37)).drew:=((Ext.refl w28).alloc _).drew
       have HBw:Hid (Blk (w28.alloc (.cells #[.int .i64 op,.string tb,.string nm,.int .i64 ix,.int .i64 vk,.int .i64 vi,.string vt,.slice A1 k1 c1,.int .i64 op4,.string tb4,.string nm4,.int .i64 ix4,.int .i64 vk4,.int .i64 vi4,.string vt4,.slice A4 k4 c4] 37)) ga 37 (eC op tb nm ix vk vi vt A1 k1 c1)):=HBa_28.out.ext ((Ext.refl w28).alloc _)
       obtain⟨b0,b1,b2,b3,b4,b5,b6,b7,-⟩:=cls HBa_28.out
       obtain⟨l0,l1,l2,l3,l4,l5,l6,l7,-⟩:=cls HBl_28.out
       obtain⟨n0,n1,n2,n3,n4,n5,n6,n7,-⟩:=cls HBw.out
       have hlw:Sx g0 ge w28.heap.size:=⟨HR28.out.lt,by have:=HBe_28.out.lt;omega⟩
       have HLw:Hid (g0+1≤w28.heap.size):=HR28.out.lt
       have HLx:=hid hlw
       clear hlw
       go_upto_region 22 with fail
       go_region_law (first
        |(go_simp;go_at_call 105;(with_reducible refine(op_any 15 _ _ _ _).mono ?_);rintro _ w3 ⟨rfl,hx3⟩;have hxa:Ext w28 w3:=hxw.trans hx3;have HBa3:Blk w3 ga 37 (eC op tb nm ix vk vi vt A1 k1 c1):=HBa_28.out.ext hxa;have HS3:=HS28.out.ext hxa;obtain⟨d0,d1,d2,d3,d4,d5,d6,d7,-⟩:=cls HBa3)
        |(go_simp;go_at_call 105;(with_reducible refine(op_any 13 _ _ _ _).mono ?_);rintro _ w5 ⟨rfl,hx5⟩;have hxb:Ext w4 w5:=((Ext.refl w4).alloc (.cells #[.int .i64 op,.string tb,.string nm,.int .i64 ix,.int .i64 vk,.int .i64 vi,.string vt,.slice A1 k1 c1,.int .i64 op2,.string tb2,.string nm2,.int .i64 ix2,.int .i64 vk2,.int .i64 vi2,.string vt2,.slice A2 k2 c2] 37)).trans hx5)
        |(go_simp;go_at_call 105;(with_reducible refine(op_any 18 _ _ _ _).mono ?_);rintro _ w6 ⟨rfl,hx6⟩;have hxc:Ext w5 w6:=((Ext.refl w5).alloc (.cells #[.int .i64 15,.string ⟨#[]⟩,.string ⟨#[]⟩,.int .i64 0,.int .i64 0,.int .i64 0,.string ⟨#[]⟩,.slice (some ⟨w28.heap.size,0,none⟩) 2 2,.int .i64 13,.string ⟨#[]⟩,.string ⟨#[]⟩,.int .i64 0,.int .i64 0,.int .i64 0,.string ⟨#[]⟩,.slice (some ⟨w4.heap.size,0,none⟩) 2 2] 37)).trans hx6;have HT6:Blk w6 ge 37 eZ:=(h6.blk (HBe_28.out.ext hxa) (by have:=HG.out;have:=HGe.out;omega)).ext (hxb.trans hxc);obtain⟨z0,z1,z2,z3,z4,z5,z6,z7,-⟩:=cls HT6;obtain⟨y0,y1,y2,y3,y4,y5,y6,y7,-⟩:=frz HT6)
        |(go_simp;go_at_call 258;(with_reducible refine(HOe.out w3 HS3 (Nat.le_trans HLw.out hxa.size) (Nat.lt_of_lt_of_le HBe_28.out.lt hxa.size)).mono ?_);rintro _ w4 ⟨A2,k2,c2,op2,tb2,nm2,ix2,vk2,vi2,vt2,ks2,hv2,rfl,h5,h6,h7⟩;have HBa4:Blk w4 ga 37 (eC op tb nm ix vk vi vt A1 k1 c1):=h6.blk HBa3 (by have:=HG.out;have:=HGa.out;omega);obtain⟨e0,e1,e2,e3,e4,e5,e6,e7,-⟩:=cls HBa4))
       all_goals
        have h15:=Stb.ext (Stb.chg2 (Stb.ext (Stb.ext (exS_op2 (S:=Sx g0 ge) (T:=37) (w:=w28) (o:=15) (by unfold I64;omega) HLx.out HY1_28.out HY4_28.out) (Ext.refl _).drew) hx3) h6 (by have:=HG.out;omega)) hxb
        have hs4:=Nat.le_trans hxa.size h6.size
        have hs5:=hxb.size
        have hb0:=HBe_28.out.lt
        have hl1:=HLw.out
        have h13:=Stb.ext (exS_op2 (S:=Sx g0 ge) (T:=37) (o:=13) (by unfold I64;omega) ⟨by omega,by omega⟩ (Stb.chg2 (Stb.ext HY1_28.out hxa) h6 (by have:=HG.out;omega)) h7) hx5
        have hnew:=exS_op2 (S:=Sx g0 ge) (T:=37) (o:=18) (by unfold I64;omega) ⟨by omega,by omega⟩ h15 h13
        have hgr:=sts_grown ge (eC 18 ⟨#[]⟩ ⟨#[]⟩ 0 0 0 ⟨#[]⟩ (some ⟨w5.heap.size,0,none⟩) 2 2) w6 0
        have HPn:=hid ((h5.ext (hxb.trans hxc)).grown hgr (fun q hq=>by have:=Option.some.inj hq;have:=HG.out;have:=HGe.out;omega))
        have HBn:=hid (sts_blk HT6 (eC 18 ⟨#[]⟩ ⟨#[]⟩ 0 0 0 ⟨#[]⟩ (some ⟨w5.heap.size,0,none⟩) 2 2) rfl)
        have HXn:=hid (Stb.weak (S':=(g0+1≤·)) (Stb.grown (Stb.ext hnew hx6) hgr (fun q hq e=>hq.2 (Option.some.inj e).symm)) (fun q _ hq=>hq.1))
        have HRn:=hid (((h6.blk (HR28.out.ext hxa) (by have:=HG.out;omega)).ext (hxb.trans hxc)).grown hgr (fun e=>by have:=Option.some.inj e;have:=HGe.out;omega))
        have HCn:=hid ((((HC28.out.ext hxa).trans h6).ext (hxb.trans hxc)).own hgr (fun q hq=>by have:=Option.some.inj hq;have:=HGe.out;rw[HN0.out];omega))
        simp only[sts]at HPn HBn HXn HRn HCn
        have HV:=hid hv2
        clear hgr hnew h13 h15 h5 h6 hv2
        go_wp2_with fail
        go_meet
        refine⟨isS kNOT sa,opE 18 [opE 15 [(.mk ⟨op,tb,nm,ix,vk,vi,vt⟩ ks),(.mk ⟨op4,tb4,nm4,ix4,vk4,vi4,vt4⟩ ks4)],opE 13 [(.mk ⟨op,tb,nm,ix,vk,vi,vt⟩ ks),(.mk ⟨op2,tb2,nm2,ix2,vk2,vi2,vt2⟩ ks2)]],_,_,_,_,rfl,?_,HPn.out,HBn.out,HXn.out,HRn.out,HCn.out⟩
        rw[HM2.out,←HV.out]
        rfl
     ·have e:(accP kLIKE (optP kNOT sa)).2=(optP kNOT sa).next:=by simp[accP,hbkLIKE]
      rw[e]at HS24
      clear e
      rw[hbkLIKE]at HM2
      have HSz:=hid (HS24.out.tak_size hL 4)
      have HTk:Hid (Calls Tryz.prog 100 #[.pointer (some ⟨P,0,none⟩),.int .i64 4] w24.drew (Ran 68 P A c L w0 w24.drew (takP 4 (optP kNOT sa).next).2 fun v _=>v= .string (takP 4 (optP kNOT sa).next).1)):=take_any (HS24.out.ext (Ext.refl w24).drew) hL 4 (by decide)
      obtain⟨T4,hT4⟩:∃x,(takP 4 (optP kNOT sa).next).1=x:=⟨_,rfl⟩
      obtain⟨st2,hst2⟩:∃x,(takP 4 (optP kNOT sa).next).2=x:=⟨_,rfl⟩
      rw[hT4,hst2]at HTk HM2
      rw[hT4]at HSz
      clear hT4 hst2
      obtain⟨b0,b1,b2,b3,b4,b5,b6,b7,-⟩:=cls HBa_24.out
      go_upto_region 18 with fail
      go_region_law (first
       |(go_simp;go_at_call 105;(with_reducible refine(op_any _ _ _ _ _).mono ?_);rintro _ w5 ⟨rfl,hx5⟩;have hx6:Ext w4 w5:=((Ext.refl w4).alloc (.cells #[.int .i64 op,.string tb,.string nm,.int .i64 ix,.int .i64 vk,.int .i64 vi,.string vt,.slice A1 k1 c1,.int .i64 1,.string ⟨#[]⟩,.string ⟨#[]⟩,.int .i64 0,.int .i64 2,.int .i64 0,.string T4,.slice none 0 0] 37)).trans hx5;have HT5:=HT4.ext hx6;obtain⟨z0,z1,z2,z3,z4,z5,z6,z7,-⟩:=cls HT5;obtain⟨y0,y1,y2,y3,y4,y5,y6,y7,-⟩:=frz HT5)
       |(go_simp;go_at_call 260;(with_reducible refine(lit_val _ _ _ _).mono ?_);rintro _ w4 ⟨rfl,hx4⟩;have HBa4:Blk w4 ga 37 (eC op tb nm ix vk vi vt A1 k1 c1):=HBa3.ext hx4;have HT4:Blk w4 ge 37 eZ:=HT3.ext hx4;obtain⟨e0,e1,e2,e3,e4,e5,e6,e7,-⟩:=cls HBa4)
       |(go_simp;go_at_call 100;(with_reducible refine HTk.out.mono ?_);rintro _ w3 ⟨v,rfl,h5,h6,rfl⟩;replace h6:Chg P w24 w3:=(Chg.of (Ext.refl w24).drew).trans h6;have HBa3:Blk w3 ga 37 (eC op tb nm ix vk vi vt A1 k1 c1):=h6.blk HBa_24.out (by have:=HG.out;have:=HGa.out;omega);have HT3:Blk w3 ge 37 eZ:=h6.blk HBe_24.out (by have:=HG.out;have:=HGe.out;omega);obtain⟨d0,d1,d2,d3,d4,d5,d6,d7,-⟩:=cls HBa3))
      all_goals
       have hlt4:Sx g0 ge w4.heap.size:=⟨Nat.lt_of_lt_of_le HR24.out.lt (Nat.le_trans h6.size hx4.size),by have:=Nat.lt_of_lt_of_le HBe_24.out.lt (Nat.le_trans h6.size hx4.size);omega⟩
       have hnew:=exS_op2 (S:=Sx g0 ge) (T:=37) (o:=16) (by unfold I64;omega) hlt4 (Stb.ext (Stb.chg2 HY1_24.out h6 (by have:=HG.out;omega)) hx4) (exS_lit (Sx g0 ge) w4 (k:=2) (i:=0) (t:=T4) i64_2 i64_0 (by have:=HSz.out;omega))
       have hgr:=sts_grown ge (eC 16 ⟨#[]⟩ ⟨#[]⟩ 0 0 0 ⟨#[]⟩ (some ⟨w4.heap.size,0,none⟩) 2 2) w5 0
       have HPn:=hid ((h5.ext (hx4.trans hx6)).grown hgr (fun q hq=>by have:=Option.some.inj hq;have:=HG.out;have:=HGe.out;omega))
       have HBn:=hid (sts_blk HT5 (eC 16 ⟨#[]⟩ ⟨#[]⟩ 0 0 0 ⟨#[]⟩ (some ⟨w4.heap.size,0,none⟩) 2 2) rfl)
       have HXn:=hid (Stb.weak (S':=(g0+1≤·)) (Stb.grown (Stb.ext hnew hx5) hgr (fun q hq e=>hq.2 (Option.some.inj e).symm)) (fun q _ hq=>hq.1))
       have HRn:=hid (((h6.blk HR24.out (by have:=HG.out;omega)).ext (hx4.trans hx6)).grown hgr (fun e=>by have:=Option.some.inj e;have:=HGe.out;omega))
       have HCn:=hid (((HC24.out.trans h6).ext (hx4.trans hx6)).own hgr (fun q hq=>by have:=Option.some.inj hq;have:=HGe.out;rw[HN0.out];omega))
       simp only[sts]at HPn HBn HXn HRn HCn
       clear hgr hnew h5 h6
       go_wp2_with fail
       go_meet
       refine⟨(isS kNOT sa),(opE 16 [(.mk ⟨op,tb,nm,ix,vk,vi,vt⟩ ks),litE 2 0 T4]),_,_,_,_,rfl,?_,HPn.out,HBn.out,HXn.out,HRn.out,HCn.out⟩
       rw[HM2.out];rfl
    ·have e:(accP kIS sa).2=sa.next:=by simp[accP,hbi]
     rw[e]at HS22
     clear e
     go_wp2_with fail
     refine(accept_any HS22.out hL kNOT).mono ?_
     rintro _ w23 ⟨v,rfl,h1,h2,rfl⟩
     rw[opt_eq]at h1
     have HS23:=hid h1
     have HR23:=hid (h2.blk HR22.out (by have:=HG.out;omega))
     have HC23:=hid (HC22.out.trans h2)
     have HY1_23:=hid (Stb.chg2 HY1_22.out h2 (by have:=HG.out;omega))
     have HBa_23:=hid (h2.blk HBa_22.out (by have:=HG.out;have:=HGa.out;omega))
     have HBs_23:=hid (h2.blk HBs_22.out (by have:=HG.out;have:=HGs.out;omega))
     have HBe_23:=hid (h2.blk HBe_22.out (by have:=HG.out;have:=HGe.out;omega))
     clear h1 h2
     clear HR22 HC22 HS22 HY1_22 HBa_22 HBs_22 HBe_22
     go_wp2_with fail
     refine(need_any (HS23.out.ext ((Ext.refl w23).alloc (.cells #[.string kNULL] 9))) hL kNULL w23.heap.size (by simp[World.cell?_alloc_new])).mono ?_
     rintro _ w24 ⟨v,rfl,h1,h2,_⟩
     replace h2:Chg P w23 w24:=(Chg.of ((Ext.refl w23).alloc (.cells #[.string kNULL] 9))).trans h2
     have HS24:=hid h1
     have HR24:=hid (h2.blk HR23.out (by have:=HG.out;omega))
     have HC24:=hid (HC23.out.trans h2)
     have HY1_24:=hid (Stb.chg2 HY1_23.out h2 (by have:=HG.out;omega))
     have HBa_24:=hid (h2.blk HBa_23.out (by have:=HG.out;have:=HGa.out;omega))
     have HBs_24:=hid (h2.blk HBs_23.out (by have:=HG.out;have:=HGs.out;omega))
     have HBe_24:=hid (h2.blk HBe_23.out (by have:=HG.out;have:=HGe.out;omega))
     clear h1 h2
     clear HR23 HC23 HS23 HY1_23 HBa_23 HBs_23 HBe_23
     obtain⟨b0,b1,b2,b3,b4,b5,b6,b7,-⟩:=cls HBa_24.out
     go_wp2_with fail
     refine(op_any _ _ _ _ _).mono ?_
     rintro _ w25 ⟨rfl,hx⟩
     have hx2:Ext w24 w25:=((Ext.refl w24).alloc (.cells #[.int .i64 op,.string tb,.string nm,.int .i64 ix,.int .i64 vk,.int .i64 vi,.string vt,.slice A1 k1 c1] 37)).trans hx
     have HR25:=hid (HR24.out.ext hx2)
     have HC25:=hid (HC24.out.ext hx2)
     have HS25:=hid (HS24.out.ext hx2)
     have HY1_25:=hid (Stb.ext HY1_24.out hx2)
     have HBa_25:=hid (HBa_24.out.ext hx2)
     have HBs_25:=hid (HBs_24.out.ext hx2)
     have HBe_25:=hid (HBe_24.out.ext hx2)
     have HO:=hid (Stb.ext (exS_op1 (S:=Sx g0 ge) (T:=37) (o:=17) (by unfold I64;omega) ⟨HR24.out.lt,by have:=HBe_24.out.lt;omega⟩ HY1_24.out) hx)
     clear hx hx2
     clear HR24 HC24 HS24 HY1_24 HBa_24 HBs_24 HBe_24
     obtain⟨z0,z1,z2,z3,z4,z5,z6,z7,-⟩:=cls HBe_25.out
     obtain⟨y0,y1,y2,y3,y4,y5,y6,y7,-⟩:=frz HBe_25.out
     have hgr:=sts_grown ge (eC 17 ⟨#[]⟩ ⟨#[]⟩ 0 0 0 ⟨#[]⟩ (some ⟨w24.heap.size,0,none⟩) 1 1) w25 0
     have HPn:=hid (HS25.out.grown hgr (fun q hq=>by have:=Option.some.inj hq;have:=HG.out;have:=HGe.out;omega))
     have HBn:=hid (sts_blk HBe_25.out (eC 17 ⟨#[]⟩ ⟨#[]⟩ 0 0 0 ⟨#[]⟩ (some ⟨w24.heap.size,0,none⟩) 1 1) rfl)
     have HXn:=hid (Stb.weak (S':=(g0+1≤·)) (Stb.grown (HO.out) hgr (fun q hq e=>hq.2 (Option.some.inj e).symm)) (fun q _ hq=>hq.1))
     have HRn:=hid (HR25.out.grown hgr (fun e=>by have:=Option.some.inj e;have:=HGe.out;omega))
     have HCn:=hid (HC25.out.own hgr (fun q hq=>by have:=Option.some.inj hq;have:=HGe.out;rw[HN0.out];omega))
     simp only[sts]at HPn HBn HXn HRn HCn
     clear hgr
     go_wp2_with fail
     go_meet
     refine⟨(isS kNOT sa.next),(opE 17 [(.mk ⟨op,tb,nm,ix,vk,vi,vt⟩ ks)]),_,_,_,_,rfl,?_,HPn.out,HBn.out,HXn.out,HRn.out,HCn.out⟩
     rw[HM2.out,hbi];rfl
   case rest=>
    obtain⟨ng,e9,A1,k1,c1,st,rfl,hR9,h1,h2,h3,h4,h5⟩:=hcut
    clear HS22 HR22 HC22 HY1_22 HBa_22 HBs_22 HBe_22 HM
    have HRf:=hid hR9
    obtain⟨⟨op,tb,nm,ix,vk,vi,vt⟩,ks⟩:=e9
    have HS60:=hid h1
    have HBe_60:Hid (Blk wc ge 37 (eC op tb nm ix vk vi vt A1 k1 c1)):=h2
    have HX1_60:=hid h3
    have HR60:=hid h4
    have HC60:=hid h5
    clear hR9 h1 h2 h3 h4 h5
    generalize wc=w60 at*
    obtain⟨b0,b1,b2,b3,b4,b5,b6,b7,-⟩:=cls HBe_60.out
    cases ng
    ·skip
     have HXX:Hid (ExG (g0+1) w60 (.mk ⟨op,tb,nm,ix,vk,vi,vt⟩ ks) (.agg #[.int .i64 op,.string tb,.string nm,.int .i64 ix,.int .i64 vk,.int .i64 vi,.string vt,.slice A1 k1 c1])):=⟨A1,k1,c1,rfl,HX1_60.out⟩
     have HRv:Hid (R.1=(.mk ⟨op,tb,nm,ix,vk,vi,vt⟩ ks)):=by
      rw[HRf.out]
      rfl
     have HRs:Hid (R.2=st):=by
      rw[HRf.out]
      rfl
     obtain⟨z0,z1,z2,z3,z4,z5,z6,z7,-⟩:=cls HR60.out
     obtain⟨y0,y1,y2,y3,y4,y5,y6,y7,-⟩:=frz HR60.out
     have hz:=sts_blk HR60.out (eC op tb nm ix vk vi vt A1 k1 c1) rfl
     have HGr:=hid (sts_grown g0 (eC op tb nm ix vk vi vt A1 k1 c1) w60 0)
     simp only[sts]at hz
     have HZ:=hid hz
     clear hz
     go_wp2_with fail
     obtain⟨q0,q1,q2,q3,q4,q5,q6,q7,-⟩:=cls HZ.out
     exact bodyPost_ret (v:= .agg #[.int .i64 op,.string tb,.string nm,.int .i64 ix,.int .i64 vk,.int .i64 vi,.string vt,.slice A1 k1 c1]) (by simp[results,Tryz.results220,go_sem,q0,q1,q2,q3,q4,q5,q6,q7]) rfl ⟨_,rfl,by rw[HRs.out];exact HS60.out.grown HGr.out (fun q hq=>by have:=HG.out;have:=Option.some.inj hq;omega),HC60.out.own HGr.out (fun q hq=>by have:=Option.some.inj hq;rw[HN0.out];omega),by rw[HRv.out,HN0.out];exact fin_ex HXX.out HGr.out (Nat.lt_succ_self _)⟩
    ·skip
     go_wp2_with fail
     refine(op_any _ _ _ _ _).mono ?_
     rintro _ w61 ⟨rfl,hx⟩
     have hx2:Ext w60 w61:=((Ext.refl w60).alloc (.cells #[.int .i64 op,.string tb,.string nm,.int .i64 ix,.int .i64 vk,.int .i64 vi,.string vt,.slice A1 k1 c1] 37)).trans hx
     have HR61:=hid (HR60.out.ext hx2)
     have HC61:=hid (HC60.out.ext hx2)
     have HS61:=hid (HS60.out.ext hx2)
     have HX1_61:=hid (Stb.ext HX1_60.out hx2)
     have HBe_61:=hid (HBe_60.out.ext hx2)
     have HO_61:=hid ((exG_op1 (n:=g0+1) (T:=37) (o:=20) (by unfold I64;omega) HR60.out.lt HX1_60.out).ext hx)
     clear hx hx2
     clear HR60 HC60 HS60 HX1_60 HBe_60
     have HXX:Hid (ExG (g0+1) w61 (opE 20 [(.mk ⟨op,tb,nm,ix,vk,vi,vt⟩ ks)]) (.agg #[.int .i64 20,.string ⟨#[]⟩,.string ⟨#[]⟩,.int .i64 0,.int .i64 0,.int .i64 0,.string ⟨#[]⟩,.slice (some ⟨w60.heap.size,0,none⟩) 1 1])):=HO_61.out
     have HRv:Hid (R.1=(opE 20 [(.mk ⟨op,tb,nm,ix,vk,vi,vt⟩ ks)])):=by
      rw[HRf.out]
      rfl
     have HRs:Hid (R.2=st):=by
      rw[HRf.out]
      rfl
     obtain⟨z0,z1,z2,z3,z4,z5,z6,z7,-⟩:=cls HR61.out
     obtain⟨y0,y1,y2,y3,y4,y5,y6,y7,-⟩:=frz HR61.out
     have hz:=sts_blk HR61.out (eC 20 ⟨#[]⟩ ⟨#[]⟩ 0 0 0 ⟨#[]⟩ (some ⟨w60.heap.size,0,none⟩) 1 1) rfl
     have HGr:=hid (sts_grown g0 (eC 20 ⟨#[]⟩ ⟨#[]⟩ 0 0 0 ⟨#[]⟩ (some ⟨w60.heap.size,0,none⟩) 1 1) w61 0)
     simp only[sts]at hz
     have HZ:=hid hz
     clear hz
     go_wp2_with fail
     obtain⟨q0,q1,q2,q3,q4,q5,q6,q7,-⟩:=cls HZ.out
     exact bodyPost_ret (v:= .agg #[.int .i64 20,.string ⟨#[]⟩,.string ⟨#[]⟩,.int .i64 0,.int .i64 0,.int .i64 0,.string ⟨#[]⟩,.slice (some ⟨w60.heap.size,0,none⟩) 1 1]) (by simp[results,Tryz.results220,go_sem,q0,q1,q2,q3,q4,q5,q6,q7]) rfl ⟨_,rfl,by rw[HRs.out];exact HS61.out.grown HGr.out (fun q hq=>by have:=HG.out;have:=Option.some.inj hq;omega),HC61.out.own HGr.out (fun q hq=>by have:=Option.some.inj hq;rw[HN0.out];omega),by rw[HRv.out,HN0.out];exact fin_ex HXX.out HGr.out (Nat.lt_succ_self _)⟩
theorem test_rd {n:Nat} {p:M Ex} (hfw:Fwd p) (hL:TkL L) (hr:Rdr 68 P A c L w0 n 258 (sumP p)):Rdr 68 P A c L w0 n 220 (testP p):=fun W st hp h=>test_rd1 hfw hr h hp hL
end
end
end Go.Proofs.YtjigcpfjhfoheaaGreatDoor
