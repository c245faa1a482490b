/- Walk: an item; Walk: a SELECT statement. -/
import Derived.Test.YtjigcpfjhfoheaaGreatDoorEcf
import Derived.Test.YtjigcpfjhfoheaaGreatDoorEag
namespace Go.Proofs.YtjigcpfjhfoheaaGreatDoor
open Go.RowKit
set_option maxHeartbeats 16000000
set_option maxRecDepth 100000
set_option linter.unusedVariables false
set_option linter.unusedSimpArgs false
section
open Lx (Tk)
section
variable {P c:Nat} {A:Option Addr} {L:List Tk} {w0 w:World} {s:Ps}
theorem item_rd {n:Nat} {ex:M Ex} (hr:Rdr 68 P A c L w0 n 39 ex) (hn:s.r.length<n) (hp:PsAt 68 P A c L w0 w s) (hL:TkL L):
  Calls Tryz.prog 103 #[.pointer (some ⟨P,0,none⟩)] w (Ran 68 P A c L w0 w (itmP ex s).2 fun v w'=>Elitm w.heap.size w' (itmP ex s).1 v):=by
 have hx0:=(Ext.refl w).alloc (.cells #[.int .i64 0,.int .i64 0,.string ⟨#[]⟩,.string ⟨#[]⟩,.int .i64 0,.int .i64 0,.int .i64 0,.string ⟨#[]⟩,.slice none 0 0] 84)
 have HS0:=hid (hp.ext hx0)
 have HG0:Hid (P<w.heap.size):=hp.lt
 have HR0:=hid (Blk.of_new w 84 [.int .i64 0,.int .i64 0,.string ⟨#[]⟩,.string ⟨#[]⟩,.int .i64 0,.int .i64 0,.int .i64 0,.string ⟨#[]⟩,.slice none 0 0])
 have HC0:=hid (Chg.of (P:=P) hx0)
 have HM:Hid (itmP ex s=fstM opsAgg (fun o=>bndM (needM yLp) fun _=>if o=2 then ifM yStar (bndM (needM yRp) fun _=>retM ⟨1,exZ⟩) (itm1 ex o)else itm1 ex o) (bndM ex fun e=>retM ⟨0,e⟩) s):=rfl
 have HN1:Hid (w.heap.size≤(w.alloc (.cells #[.int .i64 0,.int .i64 0,.string ⟨#[]⟩,.string ⟨#[]⟩,.int .i64 0,.int .i64 0,.int .i64 0,.string ⟨#[]⟩,.slice none 0 0] 84)).heap.size):=hx0.size
 obtain⟨R,hR⟩:∃R,itmP ex s=R:=⟨_,rfl⟩
 rw[hR]at HM ⊢
 clear hp hx0 hR
 go_enter Tryz.func103,Tryz.ntmps103
 go_upto_region 1 with fail
 generalize w.alloc (.cells #[.int .i64 0,.int .i64 0,.string ⟨#[]⟩,.string ⟨#[]⟩,.int .i64 0,.int .i64 0,.int .i64 0,.string ⟨#[]⟩,.slice none 0 0] 84)=wz at*
 obtain⟨g0,hg0⟩:∃g,w.heap.size=g:=⟨_,rfl⟩
 have HN0:=hid hg0
 rw[hg0]at HG0 HR0 HN1 ⊢
 clear hg0
 have HG:=HG0
 go_upto_region 2 with fail
 have hx:=(Ext.refl wz).alloc (.cells #[.string ⟨#[67,79,85,78,84]⟩,.int .i64 2,.string ⟨#[83,85,77]⟩,.int .i64 3,.string ⟨#[77,73,78]⟩,.int .i64 4,.string ⟨#[77,65,88]⟩,.int .i64 5] 120)
 have HR1:=hid (HR0.out.ext hx)
 have HC1:=hid (HC0.out.ext hx)
 have HS1:=hid (HS0.out.ext hx)
 have HBs_1:=hid (Blk.of_new wz 120 [.string ⟨#[67,79,85,78,84]⟩,.int .i64 2,.string ⟨#[83,85,77]⟩,.int .i64 3,.string ⟨#[77,73,78]⟩,.int .i64 4,.string ⟨#[77,65,88]⟩,.int .i64 5])
 have HGs:Hid (g0<wz.heap.size):=HR0.out.lt
 clear hx
 clear HR0 HC0 HS0
 generalize wz.alloc (.cells #[.string ⟨#[67,79,85,78,84]⟩,.int .i64 2,.string ⟨#[83,85,77]⟩,.int .i64 3,.string ⟨#[77,73,78]⟩,.int .i64 4,.string ⟨#[77,65,88]⟩,.int .i64 5] 120)=w1 at*
 generalize wz.heap.size=gs at*
 go_wp2_with fail
 go_loopw [4,12] (fun _ iv wr=> ∃(k:Nat),k≤4∧iv= .int .i64 k∧firstP opsAgg s=firstP (opsAgg.drop k) s∧PsAt 68 P A c L w0 wr s∧Blk wr g0 84 [.int .i64 0,.int .i64 0,.string ⟨#[]⟩,.string ⟨#[]⟩,.int .i64 0,.int .i64 0,.int .i64 0,.string ⟨#[]⟩,.slice none 0 0]∧Blk wr gs 120 (symCs opsAgg)∧Chg P w wr) (fun _ i _=>4- (intOf i).toNat)
 case atStart=>exact⟨0,by omega,rfl,rfl,HS1.out,HR1.out,HBs_1.out,HC1.out⟩
 case round=>
  obtain⟨k,hk,rfl,hf,h1,h2,h3,h4⟩:=hrel
  have HS20:=hid h1
  have HR20:=hid h2
  have HBs_20:=hid h3
  have HC20:=hid h4
  clear h1 h2 h3 h4 HS1 HR1 HBs_1 HC1
  generalize wr=w20 at*
  by_cases hlt:k<4
  ·obtain⟨⟨t,o⟩,hx⟩:∃x,opsAgg[k]? =some x:=⟨_,List.getElem?_eq_getElem (by show k<4;exact hlt)⟩
   have hd:opsAgg.drop k=(t,o)::opsAgg.drop (k+1):=by
    obtain⟨h1,h2⟩:=List.getElem?_eq_some_iff.1 hx
    rw[List.drop_eq_getElem_cons h1,h2]
   rw[hd,firstP]at hf
   have HF:=hid hf
   have HO64:Hid (I64 o):=by
    have h64:∀x∈opsAgg,I64 x.2:=by unfold I64;decide
    exact h64 _ (List.mem_of_getElem? hx)
   obtain⟨e0,e1⟩:=symCs_get opsAgg k (t,o) hx
   have s0:=HBs_20.out.cell_some e0
   have s1:=HBs_20.out.cell_some e1
   have i0:(0:Int)≤(k:Int):=by omega
   have i1:(k:Int)<4:=by omega
   clear hf hd hx e0 e1
   go_upto_region 4 with fail
   have hx:=(Ext.refl w20).alloc (.cells #[.string t,.int .i64 o] 120)
   have HR21:=hid (HR20.out.ext hx)
   have HC21:=hid (HC20.out.ext hx)
   have HS21:=hid (HS20.out.ext hx)
   have HBs_21:=hid (HBs_20.out.ext hx)
   have HBy_21:=hid (Blk.of_new w20 120 [.string t,.int .i64 o])
   have HGy:Hid (g0<w20.heap.size):=HR20.out.lt
   clear hx
   clear HR20 HC20 HS20 HBs_20
   generalize w20.alloc (.cells #[.string t,.int .i64 o] 120)=w21 at*
   generalize w20.heap.size=gy at*
   obtain⟨t0,t1,-⟩:=cls HBy_21.out
   go_wp2_with fail
   refine(accept_any HS21.out hL t).mono ?_
   rintro _ w22 ⟨v,rfl,h1,h2,rfl⟩
   have HS22:=hid h1
   have HR22:=hid (h2.blk HR21.out (by have:=HG.out;omega))
   have HC22:=hid (HC21.out.trans h2)
   have HBs_22:=hid (h2.blk HBs_21.out (by have:=HG.out;have:=HGs.out;omega))
   have HBy_22:=hid (h2.blk HBy_21.out (by have:=HG.out;have:=HGy.out;omega))
   clear h1 h2
   clear HR21 HC21 HS21 HBs_21 HBy_21
   cases hb22:isS t s
   ·have e:(accP t s).2=s:=by simp[accP,hb22]
    rw[e]at HS22
    clear e
    have HF2:Hid (firstP opsAgg s=firstP (opsAgg.drop (k+1)) s):=by
     unfold Hid
     have:=HF.out
     rwa [hb22]at this
    go_wp2_with fail
    exact⟨⟨k+1,by omega,by go_num,HF2.out,HS22.out,HR22.out,HBs_22.out,HC22.out⟩,by simp[intOf];omega⟩
   ·have e:(accP t s).2=s.next:=by simp[accP,hb22]
    rw[e]at HS22
    clear e
    have hln:=isS_len hb22
    have HRo:Hid (R=(fun o=>bndM (needM yLp) fun _=>if o=2 then ifM yStar (bndM (needM yRp) fun _=>retM ⟨1,exZ⟩) (itm1 ex o)else itm1 ex o) o s.next):=by
     unfold Hid
     have hf2:=HF.out
     rw[hb22]at hf2
     rw[HM.out]
     unfold fstM
     rw[hf2]
     rfl
    go_wp2_with fail
    refine(need_any (HS22.out.ext ((Ext.refl w22).alloc (.cells #[.string yLp] 9))) hL yLp w22.heap.size (by simp[World.cell?_alloc_new])).mono ?_
    rintro _ w23 ⟨v,rfl,h1,h2,_⟩
    replace h2:Chg P w22 w23:=(Chg.of ((Ext.refl w22).alloc (.cells #[.string yLp] 9))).trans h2
    have HS23:=hid h1
    have HR23:=hid (h2.blk HR22.out (by have:=HG.out;omega))
    have HC23:=hid (HC22.out.trans h2)
    have HBs_23:=hid (h2.blk HBs_22.out (by have:=HG.out;have:=HGs.out;omega))
    have HBy_23:=hid (h2.blk HBy_22.out (by have:=HG.out;have:=HGy.out;omega))
    clear h1 h2
    clear HR22 HC22 HS22 HBs_22 HBy_22
    have hnl:=need_len yLp s.next
    obtain⟨q0,q1,-⟩:=cls HBy_23.out
    go_upto_region 7 with fail
    have hx:=(Ext.refl w23).alloc (.cells #[.int .i64 o,.int .i64 0,.string ⟨#[]⟩,.string ⟨#[]⟩,.int .i64 0,.int .i64 0,.int .i64 0,.string ⟨#[]⟩,.slice none 0 0] 84)
    have HR24:=hid (HR23.out.ext hx)
    have HC24:=hid (HC23.out.ext hx)
    have HS24:=hid (HS23.out.ext hx)
    have HBs_24:=hid (HBs_23.out.ext hx)
    have HBy_24:=hid (HBy_23.out.ext hx)
    have HBv_24:=hid (Blk.of_new w23 84 [.int .i64 o,.int .i64 0,.string ⟨#[]⟩,.string ⟨#[]⟩,.int .i64 0,.int .i64 0,.int .i64 0,.string ⟨#[]⟩,.slice none 0 0])
    have HGv:Hid (g0<w23.heap.size):=HR23.out.lt
    clear hx
    clear HR23 HC23 HS23 HBs_23 HBy_23
    generalize w23.alloc (.cells #[.int .i64 o,.int .i64 0,.string ⟨#[]⟩,.string ⟨#[]⟩,.int .i64 0,.int .i64 0,.int .i64 0,.string ⟨#[]⟩,.slice none 0 0] 84)=w24 at*
    generalize w23.heap.size=gv at*
    obtain⟨r0,r1,-⟩:=cls HBy_24.out
    by_cases ho2:o=2
    ·subst ho2
     have HR2:Hid (R=if isS yStar (needP yLp s.next)=true then (⟨1,exZ⟩,needP yRp (needP yLp s.next).next)else (⟨2,(ex (needP yLp s.next)).1⟩,needP yRp (ex (needP yLp s.next)).2)):=by
      unfold Hid
      rw[HRo.out]
      rfl
     go_wp2_with fail
     refine(accept_any HS24.out hL yStar).mono ?_
     rintro _ w25 ⟨v,rfl,h1,h2,rfl⟩
     have HS25:=hid h1
     have HR25:=hid (h2.blk HR24.out (by have:=HG.out;omega))
     have HC25:=hid (HC24.out.trans h2)
     have HBs_25:=hid (h2.blk HBs_24.out (by have:=HG.out;have:=HGs.out;omega))
     have HBy_25:=hid (h2.blk HBy_24.out (by have:=HG.out;have:=HGy.out;omega))
     have HBv_25:=hid (h2.blk HBv_24.out (by have:=HG.out;have:=HGv.out;omega))
     clear h1 h2
     clear HR24 HC24 HS24 HBs_24 HBy_24 HBv_24
     cases hb25:isS yStar (needP yLp s.next)
     ·have e:(accP yStar (needP yLp s.next)).2=(needP yLp s.next):=by simp[accP,hb25]
      rw[e]at HS25
      clear e
      go_wp2_with fail
      refine(hr _ _ HS25.out (by omega)).mono ?_
      rintro _ w26 ⟨v,rfl,h1,h2,A1,k1,c1,rfl,h3⟩
      have HS26:=hid h1
      have HR26:=hid (h2.blk HR25.out (by have:=HG.out;omega))
      have HC26:=hid (HC25.out.trans h2)
      have HBs_26:=hid (h2.blk HBs_25.out (by have:=HG.out;have:=HGs.out;omega))
      have HBy_26:=hid (h2.blk HBy_25.out (by have:=HG.out;have:=HGy.out;omega))
      have HBv_26:=hid (h2.blk HBv_25.out (by have:=HG.out;have:=HGv.out;omega))
      obtain⟨e1,he1⟩:∃e,(ex (needP yLp s.next)).1=e:=⟨_,rfl⟩
      have HV1:=hid he1
      rw[he1]at h3 ⊢
      clear he1
      obtain⟨⟨op,tb,nm,ix,vk,vi,vt⟩,ks⟩:=e1
      unfold Nd.val
      simp only[Ex.d]
      have HY1_26:Hid (Stb (Sx g0 gv) w26 fun w'=>ExV w' (.mk ⟨op,tb,nm,ix,vk,vi,vt⟩ ks) A1 k1 c1):=h3.weak fun q _ hq=>⟨Nat.le_trans HR25.out.lt hq,by have h8:=HBv_25.out.lt;have h9:w25.heap.size≤q:=hq;omega⟩
      clear h1 h2 h3
      clear HR25 HC25 HS25 HBs_25 HBy_25 HBv_25
      have z0:=HBv_26.out.cell_some (i:=1) rfl
      have y0:=HBv_26.out.frozen 1
      have z1:=HBv_26.out.cell_some (i:=2) rfl
      have y1:=HBv_26.out.frozen 2
      have z2:=HBv_26.out.cell_some (i:=3) rfl
      have y2:=HBv_26.out.frozen 3
      have z3:=HBv_26.out.cell_some (i:=4) rfl
      have y3:=HBv_26.out.frozen 4
      have z4:=HBv_26.out.cell_some (i:=5) rfl
      have y4:=HBv_26.out.frozen 5
      have z5:=HBv_26.out.cell_some (i:=6) rfl
      have y5:=HBv_26.out.frozen 6
      have z6:=HBv_26.out.cell_some (i:=7) rfl
      have y6:=HBv_26.out.frozen 7
      have z7:=HBv_26.out.cell_some (i:=8) rfl
      have y7:=HBv_26.out.frozen 8
      have hgr:=sts_grown gv (eC op tb nm ix vk vi vt A1 k1 c1) w26 1
      have hbn:=sts_blk_go gv 84 (eC op tb nm ix vk vi vt A1 k1 c1) w26 [.int .i64 2] eZ rfl HBv_26.out
      have hs:=HS26.out.grown hgr (fun q hq=>by have:=Option.some.inj hq;have:=HG.out;have:=HGv.out;omega)
      have hr9:=HR26.out.grown hgr (fun e=>by have:=Option.some.inj e;have:=HGv.out;omega)
      have hc9:=HC26.out.own hgr (fun q hq=>by have:=Option.some.inj hq;have:=HGv.out;rw[HN0.out];omega)
      have xHY1:=Stb.grown HY1_26.out hgr (fun q hq e=>hq.2 (Option.some.inj e).symm)
      simp only[List.length_cons,List.length_nil,sts]at hbn hs hr9 hc9 xHY1
      have HS27:=hid hs
      have HR27:=hid hr9
      have HC27:=hid hc9
      have HBv_27:=hid hbn
      have HY1_27:=hid xHY1
      clear hgr hbn hs hr9 hc9 xHY1
      clear HR26 HC26 HS26 HY1_26 HBs_26 HBy_26 HBv_26
      go_upto_region 10 with fail
      generalize (((((((w26.setCell ⟨gv,1,none⟩ (.int .i64 op)).setCell ⟨gv,2,none⟩ (.string tb)).setCell ⟨gv,3,none⟩ (.string nm)).setCell ⟨gv,4,none⟩ (.int .i64 ix)).setCell ⟨gv,5,none⟩ (.int .i64 vk)).setCell ⟨gv,6,none⟩ (.int .i64 vi)).setCell ⟨gv,7,none⟩ (.string vt)).setCell ⟨gv,8,none⟩ (.slice A1 k1 c1)=w27 at*
      clear z0 y0 z1 y1 z2 y2 z3 y3 z4 y4 z5 y5 z6 y6 z7 y7
      go_wp2_with fail
      refine(need_any (HS27.out.ext ((Ext.refl w27).alloc (.cells #[.string yRp] 9))) hL yRp w27.heap.size (by simp[World.cell?_alloc_new])).mono ?_
      rintro _ w28 ⟨v,rfl,h1,h2,_⟩
      replace h2:Chg P w27 w28:=(Chg.of ((Ext.refl w27).alloc (.cells #[.string yRp] 9))).trans h2
      have HS28:=hid h1
      have HR28:=hid (h2.blk HR27.out (by have:=HG.out;omega))
      have HC28:=hid (HC27.out.trans h2)
      have HY1_28:=hid (Stb.chg2 HY1_27.out h2 (by have:=HG.out;omega))
      have HBv_28:=hid (h2.blk HBv_27.out (by have:=HG.out;have:=HGv.out;omega))
      clear h1 h2
      clear HR27 HC27 HS27 HY1_27 HBv_27
      obtain⟨b0,b1,b2,b3,b4,b5,b6,b7,b8,-⟩:=cls HBv_28.out
      have HRv:Hid (R.1=⟨2,(.mk ⟨op,tb,nm,ix,vk,vi,vt⟩ ks)⟩):=by
       rw[HR2.out,hb25]
       exact congrArg (fun x=> (⟨2,x⟩:Itm)) HV1.out
      have HRs:Hid (R.2=(needP yRp (ex (needP yLp s.next)).2)):=by
       rw[HR2.out,hb25]
       rfl
      obtain⟨z0,z1,z2,z3,z4,z5,z6,z7,z8,-⟩:=cls HR28.out
      obtain⟨y0,y1,y2,y3,y4,y5,y6,y7,y8,-⟩:=frz HR28.out
      have hz:=sts_blk HR28.out [.int .i64 2,.int .i64 op,.string tb,.string nm,.int .i64 ix,.int .i64 vk,.int .i64 vi,.string vt,.slice A1 k1 c1] rfl
      have HGr:=hid (sts_grown g0 [.int .i64 2,.int .i64 op,.string tb,.string nm,.int .i64 ix,.int .i64 vk,.int .i64 vi,.string vt,.slice A1 k1 c1] w28 0)
      simp only[sts]at hz
      have HZ:=hid hz
      clear hz
      go_wp2_with fail
      obtain⟨q0,q1,q2,q3,q4,q5,q6,q7,q8,-⟩:=cls HZ.out
      exact bodyPost_ret (v:= .agg #[.int .i64 2,.int .i64 op,.string tb,.string nm,.int .i64 ix,.int .i64 vk,.int .i64 vi,.string vt,.slice A1 k1 c1]) (by simp[results,Tryz.results103,go_sem,q0,q1,q2,q3,q4,q5,q6,q7,q8]) rfl ⟨_,rfl,by rw[HRs.out];exact HS28.out.grown HGr.out (fun q hq=>by have:=HG.out;have:=Option.some.inj hq;omega),HC28.out.own HGr.out (fun q hq=>by have:=Option.some.inj hq;rw[HN0.out];omega),by rw[HRv.out];exact⟨A1,k1,c1,rfl,i64_2,by rw[HN0.out];exact Stb.weak (Stb.grown HY1_28.out HGr.out (fun q hq e=>by have:=hq.1;have:=Option.some.inj e;omega)) (fun q _ hq=>Nat.le_of_succ_le hq.1)⟩⟩
     ·have e:(accP yStar (needP yLp s.next)).2=(needP yLp s.next).next:=by simp[accP,hb25]
      rw[e]at HS25
      clear e
      have z9:=HBv_25.out.cell_some (i:=0) rfl
      have y9:=HBv_25.out.frozen 0
      have hgr:=sts_grown gv [.int .i64 1] w25 0
      simp only[sts]at hgr
      have HS26:=hid (HS25.out.grown hgr (fun q hq=>by have:=Option.some.inj hq;have:=HG.out;have:=HGv.out;omega))
      have HR26:=hid (HR25.out.grown hgr (fun e=>by have:=Option.some.inj e;have:=HGv.out;omega))
      have HC26:=hid (HC25.out.own hgr (fun q hq=>by have:=Option.some.inj hq;have:=HGv.out;rw[HN0.out];omega))
      have HBv_26:=hid (HBv_25.out.set 0 (.int .i64 1))
      clear hgr
      clear HR25 HC25 HS25 HBs_25 HBy_25 HBv_25
      go_upto_region 10 with fail
      generalize w25.setCell ⟨gv,0,none⟩ (.int .i64 1)=w26 at*
      clear z9 y9
      go_wp2_with fail
      refine(need_any (HS26.out.ext ((Ext.refl w26).alloc (.cells #[.string yRp] 9))) hL yRp w26.heap.size (by simp[World.cell?_alloc_new])).mono ?_
      rintro _ w27 ⟨v,rfl,h1,h2,_⟩
      replace h2:Chg P w26 w27:=(Chg.of ((Ext.refl w26).alloc (.cells #[.string yRp] 9))).trans h2
      have HS27:=hid h1
      have HR27:=hid (h2.blk HR26.out (by have:=HG.out;omega))
      have HC27:=hid (HC26.out.trans h2)
      have HBv_27:=hid (h2.blk HBv_26.out (by have:=HG.out;have:=HGv.out;omega))
      clear h1 h2
      clear HR26 HC26 HS26 HBv_26
      obtain⟨b0,b1,b2,b3,b4,b5,b6,b7,b8,-⟩:=cls HBv_27.out
      have HRv:Hid (R.1=⟨1,exZ⟩):=by
       rw[HR2.out,hb25]
       rfl
      have HRs:Hid (R.2=(needP yRp (needP yLp s.next).next)):=by
       rw[HR2.out,hb25]
       rfl
      obtain⟨z0,z1,z2,z3,z4,z5,z6,z7,z8,-⟩:=cls HR27.out
      obtain⟨y0,y1,y2,y3,y4,y5,y6,y7,y8,-⟩:=frz HR27.out
      have hz:=sts_blk HR27.out [.int .i64 1,.int .i64 0,.string ⟨#[]⟩,.string ⟨#[]⟩,.int .i64 0,.int .i64 0,.int .i64 0,.string ⟨#[]⟩,.slice none 0 0] rfl
      have HGr:=hid (sts_grown g0 [.int .i64 1,.int .i64 0,.string ⟨#[]⟩,.string ⟨#[]⟩,.int .i64 0,.int .i64 0,.int .i64 0,.string ⟨#[]⟩,.slice none 0 0] w27 0)
      simp only[sts]at hz
      have HZ:=hid hz
      clear hz
      go_wp2_with fail
      obtain⟨q0,q1,q2,q3,q4,q5,q6,q7,q8,-⟩:=cls HZ.out
      exact bodyPost_ret (v:= .agg #[.int .i64 1,.int .i64 0,.string ⟨#[]⟩,.string ⟨#[]⟩,.int .i64 0,.int .i64 0,.int .i64 0,.string ⟨#[]⟩,.slice none 0 0]) (by simp[results,Tryz.results103,go_sem,q0,q1,q2,q3,q4,q5,q6,q7,q8]) rfl ⟨_,rfl,by rw[HRs.out];exact HS27.out.grown HGr.out (fun q hq=>by have:=HG.out;have:=Option.some.inj hq;omega),HC27.out.own HGr.out (fun q hq=>by have:=Option.some.inj hq;rw[HN0.out];omega),by rw[HRv.out];exact⟨none,0,0,rfl,i64_1,fun w' _ _=>⟨rfl,by omega,fit_op (o:=0) i64_0,by unfold KidsAt Ex.ks;trivial⟩⟩⟩
    ·have hob:(o==2)=false:=by simpa using ho2
     have HR3:Hid (R=(⟨o,(ex (needP yLp s.next)).1⟩,needP yRp (ex (needP yLp s.next)).2)):=by
      unfold Hid
      rw[HRo.out]
      show(if o=2 then _ else itm1 ex o) (needP yLp s.next)=_
      rw[if_neg ho2]
      rfl
     go_wp2_with fail
     refine(hr _ _ HS24.out (by omega)).mono ?_
     rintro _ w25 ⟨v,rfl,h1,h2,A1,k1,c1,rfl,h3⟩
     have HS25:=hid h1
     have HR25:=hid (h2.blk HR24.out (by have:=HG.out;omega))
     have HC25:=hid (HC24.out.trans h2)
     have HBs_25:=hid (h2.blk HBs_24.out (by have:=HG.out;have:=HGs.out;omega))
     have HBy_25:=hid (h2.blk HBy_24.out (by have:=HG.out;have:=HGy.out;omega))
     have HBv_25:=hid (h2.blk HBv_24.out (by have:=HG.out;have:=HGv.out;omega))
     obtain⟨e1,he1⟩:∃e,(ex (needP yLp s.next)).1=e:=⟨_,rfl⟩
     have HV1:=hid he1
     rw[he1]at h3 ⊢
     clear he1
     obtain⟨⟨op,tb,nm,ix,vk,vi,vt⟩,ks⟩:=e1
     unfold Nd.val
     simp only[Ex.d]
     have HY1_25:Hid (Stb (Sx g0 gv) w25 fun w'=>ExV w' (.mk ⟨op,tb,nm,ix,vk,vi,vt⟩ ks) A1 k1 c1):=h3.weak fun q _ hq=>⟨Nat.le_trans HR24.out.lt hq,by have h8:=HBv_24.out.lt;have h9:w24.heap.size≤q:=hq;omega⟩
     clear h1 h2 h3
     clear HR24 HC24 HS24 HBs_24 HBy_24 HBv_24
     have z0:=HBv_25.out.cell_some (i:=1) rfl
     have y0:=HBv_25.out.frozen 1
     have z1:=HBv_25.out.cell_some (i:=2) rfl
     have y1:=HBv_25.out.frozen 2
     have z2:=HBv_25.out.cell_some (i:=3) rfl
     have y2:=HBv_25.out.frozen 3
     have z3:=HBv_25.out.cell_some (i:=4) rfl
     have y3:=HBv_25.out.frozen 4
     have z4:=HBv_25.out.cell_some (i:=5) rfl
     have y4:=HBv_25.out.frozen 5
     have z5:=HBv_25.out.cell_some (i:=6) rfl
     have y5:=HBv_25.out.frozen 6
     have z6:=HBv_25.out.cell_some (i:=7) rfl
     have y6:=HBv_25.out.frozen 7
     have z7:=HBv_25.out.cell_some (i:=8) rfl
     have y7:=HBv_25.out.frozen 8
     have hgr:=sts_grown gv (eC op tb nm ix vk vi vt A1 k1 c1) w25 1
     have hbn:=sts_blk_go gv 84 (eC op tb nm ix vk vi vt A1 k1 c1) w25 [.int .i64 o] eZ rfl HBv_25.out
     have hs:=HS25.out.grown hgr (fun q hq=>by have:=Option.some.inj hq;have:=HG.out;have:=HGv.out;omega)
     have hr9:=HR25.out.grown hgr (fun e=>by have:=Option.some.inj e;have:=HGv.out;omega)
     have hc9:=HC25.out.own hgr (fun q hq=>by have:=Option.some.inj hq;have:=HGv.out;rw[HN0.out];omega)
     have xHY1:=Stb.grown HY1_25.out hgr (fun q hq e=>hq.2 (Option.some.inj e).symm)
     simp only[List.length_cons,List.length_nil,sts]at hbn hs hr9 hc9 xHY1
     have HS26:=hid hs
     have HR26:=hid hr9
     have HC26:=hid hc9
     have HBv_26:=hid hbn
     have HY1_26:=hid xHY1
     clear hgr hbn hs hr9 hc9 xHY1
     clear HR25 HC25 HS25 HY1_25 HBs_25 HBy_25 HBv_25
     go_upto_region 10 with fail
     generalize (((((((w25.setCell ⟨gv,1,none⟩ (.int .i64 op)).setCell ⟨gv,2,none⟩ (.string tb)).setCell ⟨gv,3,none⟩ (.string nm)).setCell ⟨gv,4,none⟩ (.int .i64 ix)).setCell ⟨gv,5,none⟩ (.int .i64 vk)).setCell ⟨gv,6,none⟩ (.int .i64 vi)).setCell ⟨gv,7,none⟩ (.string vt)).setCell ⟨gv,8,none⟩ (.slice A1 k1 c1)=w26 at*
     clear z0 y0 z1 y1 z2 y2 z3 y3 z4 y4 z5 y5 z6 y6 z7 y7
     go_wp2_with fail
     refine(need_any (HS26.out.ext ((Ext.refl w26).alloc (.cells #[.string yRp] 9))) hL yRp w26.heap.size (by simp[World.cell?_alloc_new])).mono ?_
     rintro _ w27 ⟨v,rfl,h1,h2,_⟩
     replace h2:Chg P w26 w27:=(Chg.of ((Ext.refl w26).alloc (.cells #[.string yRp] 9))).trans h2
     have HS27:=hid h1
     have HR27:=hid (h2.blk HR26.out (by have:=HG.out;omega))
     have HC27:=hid (HC26.out.trans h2)
     have HY1_27:=hid (Stb.chg2 HY1_26.out h2 (by have:=HG.out;omega))
     have HBv_27:=hid (h2.blk HBv_26.out (by have:=HG.out;have:=HGv.out;omega))
     clear h1 h2
     clear HR26 HC26 HS26 HY1_26 HBv_26
     obtain⟨b0,b1,b2,b3,b4,b5,b6,b7,b8,-⟩:=cls HBv_27.out
     have HRv:Hid (R.1=⟨o,(.mk ⟨op,tb,nm,ix,vk,vi,vt⟩ ks)⟩):=by
      rw[HR3.out]
      exact congrArg (fun x=> (⟨o,x⟩:Itm)) HV1.out
     have HRs:Hid (R.2=(needP yRp (ex (needP yLp s.next)).2)):=by
      rw[HR3.out]
      rfl
     obtain⟨z0,z1,z2,z3,z4,z5,z6,z7,z8,-⟩:=cls HR27.out
     obtain⟨y0,y1,y2,y3,y4,y5,y6,y7,y8,-⟩:=frz HR27.out
     have hz:=sts_blk HR27.out [.int .i64 o,.int .i64 op,.string tb,.string nm,.int .i64 ix,.int .i64 vk,.int .i64 vi,.string vt,.slice A1 k1 c1] rfl
     have HGr:=hid (sts_grown g0 [.int .i64 o,.int .i64 op,.string tb,.string nm,.int .i64 ix,.int .i64 vk,.int .i64 vi,.string vt,.slice A1 k1 c1] w27 0)
     simp only[sts]at hz
     have HZ:=hid hz
     clear hz
     go_wp2_with fail
     obtain⟨q0,q1,q2,q3,q4,q5,q6,q7,q8,-⟩:=cls HZ.out
     exact bodyPost_ret (v:= .agg #[.int .i64 o,.int .i64 op,.string tb,.string nm,.int .i64 ix,.int .i64 vk,.int .i64 vi,.string vt,.slice A1 k1 c1]) (by simp[results,Tryz.results103,go_sem,q0,q1,q2,q3,q4,q5,q6,q7,q8]) rfl ⟨_,rfl,by rw[HRs.out];exact HS27.out.grown HGr.out (fun q hq=>by have:=HG.out;have:=Option.some.inj hq;omega),HC27.out.own HGr.out (fun q hq=>by have:=Option.some.inj hq;rw[HN0.out];omega),by rw[HRv.out];exact⟨A1,k1,c1,rfl,HO64.out,by rw[HN0.out];exact Stb.weak (Stb.grown HY1_27.out HGr.out (fun q hq e=>by have:=hq.1;have:=Option.some.inj e;omega)) (fun q _ hq=>Nat.le_of_succ_le hq.1)⟩⟩
  ·obtain rfl:k=4:=by omega
   have hf0:firstP opsAgg s=(none,s):=hf
   have HR4:Hid (R=(⟨0,(ex s).1⟩,(ex s).2)):=by
    unfold Hid
    rw[HM.out]
    unfold fstM
    rw[hf0]
    rfl
   clear hf hf0 hk hlt
   go_wp2_with fail
   refine(hr _ _ HS20.out hn).mono ?_
   rintro _ w21 ⟨v,rfl,h1,h2,A1,k1,c1,rfl,h3⟩
   have HS21:=hid h1
   have HR21:=hid (h2.blk HR20.out (by have:=HG.out;omega))
   have HC21:=hid (HC20.out.trans h2)
   have HBs_21:=hid (h2.blk HBs_20.out (by have:=HG.out;have:=HGs.out;omega))
   obtain⟨e1,he1⟩:∃e,(ex s).1=e:=⟨_,rfl⟩
   have HV1:=hid he1
   rw[he1]at h3 ⊢
   clear he1
   obtain⟨⟨op,tb,nm,ix,vk,vi,vt⟩,ks⟩:=e1
   unfold Nd.val
   simp only[Ex.d]
   have HX1_21:Hid (Stb (g0+1≤·) w21 fun w'=>ExV w' (.mk ⟨op,tb,nm,ix,vk,vi,vt⟩ ks) A1 k1 c1):=h3.weak fun q _ hq=>Nat.le_trans HR20.out.lt hq
   clear h1 h2 h3
   clear HR20 HC20 HS20 HBs_20
   have HRv:Hid (R.1=⟨0,(.mk ⟨op,tb,nm,ix,vk,vi,vt⟩ ks)⟩):=by
    rw[HR4.out]
    exact congrArg (fun x=> (⟨0,x⟩:Itm)) HV1.out
   have HRs:Hid (R.2=(ex s).2):=by
    rw[HR4.out]
    rfl
   obtain⟨z0,z1,z2,z3,z4,z5,z6,z7,z8,-⟩:=cls HR21.out
   obtain⟨y0,y1,y2,y3,y4,y5,y6,y7,y8,-⟩:=frz HR21.out
   have hz:=sts_blk HR21.out [.int .i64 0,.int .i64 op,.string tb,.string nm,.int .i64 ix,.int .i64 vk,.int .i64 vi,.string vt,.slice A1 k1 c1] rfl
   have HGr:=hid (sts_grown g0 [.int .i64 0,.int .i64 op,.string tb,.string nm,.int .i64 ix,.int .i64 vk,.int .i64 vi,.string vt,.slice A1 k1 c1] w21 0)
   simp only[sts]at hz
   have HZ:=hid hz
   clear hz
   go_wp2_with fail
   obtain⟨q0,q1,q2,q3,q4,q5,q6,q7,q8,-⟩:=cls HZ.out
   exact bodyPost_ret (v:= .agg #[.int .i64 0,.int .i64 op,.string tb,.string nm,.int .i64 ix,.int .i64 vk,.int .i64 vi,.string vt,.slice A1 k1 c1]) (by simp[results,Tryz.results103,go_sem,q0,q1,q2,q3,q4,q5,q6,q7,q8]) rfl ⟨_,rfl,by rw[HRs.out];exact HS21.out.grown HGr.out (fun q hq=>by have:=HG.out;have:=Option.some.inj hq;omega),HC21.out.own HGr.out (fun q hq=>by have:=Option.some.inj hq;rw[HN0.out];omega),by rw[HRv.out];exact⟨A1,k1,c1,rfl,i64_0,by rw[HN0.out];exact Stb.weak (Stb.grown HX1_21.out HGr.out (fun q hq e=>by have:=Option.some.inj e;omega)) (fun q _ hq=>Nat.le_of_succ_le hq)⟩⟩
end
end
section
open Lx (Tk)
theorem entK_item:EntF 103:=fun args W=>rfl
theorem entK_col:EntF 106:=fun args W=>rfl
theorem entK_ord:EntF 108:=fun args W=>rfl
def Phisrc (a:Src) (cs:List Value) (w:World):Prop:=cs= [.string a.tb,.string a.al]∧a.tb.size≤20000∧a.al.size≤20000
theorem info_src:(Tryz.prog.info? 86).map (fun i=> (i.zero,i.size,i.bytes))=some (some (.agg #[.string ⟨#[]⟩,.string ⟨#[]⟩]),2,32):=by kernel_rfl
theorem info_exq:(Tryz.prog.info? 37).map (fun i=> (i.zero,i.size,i.bytes))=some (some (.agg #[.int .i64 0,.string ⟨#[]⟩,.string ⟨#[]⟩,.int .i64 0,.int .i64 0,.int .i64 0,.string ⟨#[]⟩,.slice none 0 0]),8,104):=by kernel_rfl
def Sq (n0:Nat) (vf vx:Value) (q:Nat):Prop:=n0≤q∧vf.ownBlock≠some q∧vx.ownBlock≠some q
structure FrW (n0:Nat) (w:World) (vf vx:Value) (cf cx:List (List Value)) (fs:List Src) (xs:List Ex):Prop where
 f:RowT Phisrc 86 2 n0 (Sq n0 vf vx) w vf fs cf
 x:RowT Phiex 37 8 n0 (Sq n0 vf vx) w vx xs cx
 ne:∀q,vf.ownBlock=some q→vx.ownBlock≠some q
section
variable {n0 P:Nat} {w w':World} {vf vx v':Value} {cf cx:List (List Value)} {fs:List Src} {xs:List Ex} {b:Option Nat}
theorem FrW.start (n0:Nat) (w:World):FrW n0 w (.slice none 0 0) (.slice none 0 0) [] [] [] []:=⟨RowT.nil _ _ _ _ _ _,RowT.nil _ _ _ _ _ _,fun q h=>nomatch h⟩
theorem FrW.turn (h:FrW n0 w vf vx cf cx fs xs) (hg:w.grownBy w' b) (hb:∀q,b=some q→q<n0):FrW n0 w' vf vx cf cx fs xs:=by
 have no:∀ {v:Value},(∀q,v.ownBlock=some q→n0≤q)→v.ownBlock=none∨v.ownBlock≠b:=fun {v} hv=>by
  cases hvb:v.ownBlock with
  |none=>exact .inl rfl
  |some q=>exact .inr fun e=>by have:=hv q hvb;have:=hb q e.symm;omega
 have hS:∀q,q<w.heap.size→Sq n0 vf vx q→b≠some q∧Sq n0 vf vx q:=fun q _ hs=>⟨fun e=>by have:=hb q e;have:=hs.1;omega,hs⟩
 exact⟨h.f.turn hg (no fun q hq=> (h.f.own.lt q hq).1) hS,h.x.turn hg (no fun q hq=> (h.x.own.lt q hq).1) hS,h.ne⟩
theorem FrW.ext (h:FrW n0 w vf vx cf cx fs xs) (hx:Ext w w'):FrW n0 w' vf vx cf cx fs xs:=h.turn (ext_grown hx none) (fun q e=>by cases e)
theorem FrW.chg (h:FrW n0 w vf vx cf cx fs xs) (hc:Chg P w w') (hP:P<n0):FrW n0 w' vf vx cf cx fs xs:=h.turn hc (fun q e=>by rw[←Option.some.inj e];exact hP)
theorem FrW.gef (h:FrW n0 w vf vx cf cx fs xs):∀q,vf.ownBlock=some q→n0≤q:=fun q e=> (h.f.own.lt q e).1
theorem FrW.gex (h:FrW n0 w vf vx cf cx fs xs):∀q,vx.ownBlock=some q→n0≤q:=fun q e=> (h.x.own.lt q e).1
theorem FrW.pushf (h:FrW n0 w vf vx cf cx fs xs) {y:Src} {cs:List Value} (hl:cs.length=2) (ho:w'.ownsRow n0 86 2 v' (fs.length+1) (cf.flatten++cs)) (hg:w.grownBy w' vf.ownBlock) (hb:v'.ownBlock=vf.ownBlock∨v'.ownBlock=some w.heap.size)
  (hy:Phisrc y cs w):FrW n0 w' v' vx (cf++ [cs]) cx (fs++ [y]) xs:=by
 have hne:∀q,q<w.heap.size→vf.ownBlock≠some q→v'.ownBlock≠some q:=fun q hq hs e=>by
  rcases hb with hb|hb
  ·exact hs (hb.symm.trans e)
  ·rw[hb]at e
   have:=Option.some.inj e
   omega
 have hS:∀q,q<w.heap.size→Sq n0 vf vx q→vf.ownBlock≠some q∧Sq n0 v' vx q:=fun q hq hs=>⟨hs.2.1,hs.1,hne q hq hs.2.1,hs.2.2⟩
 have kx:vx.ownBlock=none∨vx.ownBlock≠vf.ownBlock:=by
  cases hv:vx.ownBlock with
  |none=>exact .inl rfl
  |some q=>exact .inr fun e=>h.ne q e.symm hv
 refine⟨h.f.push hl ho hg hS (fun _ _ _=>hy),h.x.turn hg kx hS,fun q hq e=>?_⟩
 rcases hb with hb|hb
 ·exact h.ne q (hb.symm.trans hq) e
 ·have:=(h.x.own.lt q e).2
  have:=Option.some.inj (hb.symm.trans hq)
  omega
theorem FrW.pushx (h:FrW n0 w vf vx cf cx fs xs) {y:Ex} {cs:List Value} (hl:cs.length=8) (ho:w'.ownsRow n0 37 8 v' (xs.length+1) (cx.flatten++cs)) (hg:w.grownBy w' vx.ownBlock) (hb:v'.ownBlock=vx.ownBlock∨v'.ownBlock=some w.heap.size)
  (hy:Stb (Sq n0 vf vx) w (Phiex y cs)):FrW n0 w' vf v' cf (cx++ [cs]) fs (xs++ [y]):=by
 have hne:∀q,q<w.heap.size→vx.ownBlock≠some q→v'.ownBlock≠some q:=fun q hq hs e=>by
  rcases hb with hb|hb
  ·exact hs (hb.symm.trans e)
  ·rw[hb]at e
   have:=Option.some.inj e
   omega
 have hS:∀q,q<w.heap.size→Sq n0 vf vx q→vx.ownBlock≠some q∧Sq n0 vf v' q:=fun q hq hs=>⟨hs.2.2,hs.1,hs.2.1,hne q hq hs.2.2⟩
 have kf:vf.ownBlock=none∨vf.ownBlock≠vx.ownBlock:=by
  cases hv:vf.ownBlock with
  |none=>exact .inl rfl
  |some q=>exact .inr fun e=>h.ne q hv e.symm
 refine⟨h.f.turn hg kf hS,h.x.push hl ho hg hS hy,fun q hq e=>?_⟩
 rcases hb with hb|hb
 ·exact h.ne q hq (hb.symm.trans e)
 ·have:=(h.f.own.lt q hq).2
  have:=Option.some.inj (hb.symm.trans e)
  omega
theorem FrW.fine (h:FrW n0 w vf vx cf cx fs xs) {n1:Nat} (h1:w.heap.size≤n1) (hn:n0≤n1) {w2:World} {Φ:World→Prop} (hs:Stb (n1≤·) w2 Φ):Stb (Sq n0 vf vx) w2 Φ:=hs.weak fun q _ hq=>by
 have hq2:n1≤q:=hq
 exact⟨by omega,fun e=>by have:=(h.f.own.lt q e).2;omega,fun e=>by have:=(h.x.own.lt q e).2;omega⟩
end
theorem lst_srcs {w:World} {B:Option Addr} {l:List Src} (h:Lst Phisrc 2 w B l):SrcsAt w B l:=fun i a hi=>by
 obtain⟨cs,_,⟨b,off,hB,hc⟩,hcs,hz,hz2⟩:=h i a hi
 subst hcs
 refine⟨⟨by omega,by omega⟩,b,off,hB,?_,hc 1 _ rfl⟩
 have:=hc 0 _ rfl
 simpa using this
theorem lst_itms {w:World} {B:Option Addr} {l:List Itm} (h:Lst Phiitm 9 w B l):ItmsAt w B l:=fun i a hi=>by
 obtain⟨cs,_,⟨b,off,hB,hc⟩,A1,k1,c1,hcs,hz,hv⟩:=h i a hi
 subst hcs
 have h0:=hc 0 _ rfl
 refine⟨hz,b,off,A1,k1,c1,hB,by simpa using h0,⟨?_,?_,?_,?_,?_,?_,?_,?_,hv⟩⟩
 ·exact hc 1 _ rfl
 ·exact hc 2 _ rfl
 ·exact hc 3 _ rfl
 ·exact hc 4 _ rfl
 ·exact hc 5 _ rfl
 ·exact hc 6 _ rfl
 ·exact hc 7 _ rfl
 ·exact hc 8 _ rfl
theorem lst_ords {w:World} {B:Option Addr} {l:List Ord'} (h:Lst Phiord 2 w B l):OrdsAt w B l:=fun i a hi=>by
 obtain⟨cs,_,⟨b,off,hB,hc⟩,hcs,hz⟩:=h i a hi
 subst hcs
 refine⟨hz,b,off,hB,?_,hc 1 _ rfl⟩
 have:=hc 0 _ rfl
 simpa using this
end
end Go.Proofs.YtjigcpfjhfoheaaGreatDoor
