/- Walk: a chain of operands; Walks: lists. -/
import Derived.Test.YtjigcpfjhfoheaaGreatDoorQbf
namespace Go.Proofs.YtjigcpfjhfoheaaGreatDoor
open Go.RowKit
set_option maxHeartbeats 2000000
set_option maxRecDepth 100000
set_option linter.unusedVariables false
set_option linter.unusedSimpArgs false
section
open Lx (Tk)
def EntF (F:FuncId):Prop:=∀(args:Array Value) (W:World),(callFunc F args).run Tryz.prog W= .ok (.enter F args) W
def posOf (P:Nat) (w:World):Nat:=match w.cell? ⟨P,1,none⟩with
 |some v=> (intOf v).toNat
 |none=>0
theorem PsAt.posOf {T P c:Nat} {A:Option Addr} {L:List Tk} {w0 w:World} {s:Ps} (h:PsAt T P A c L w0 w s):posOf P w=L.length-s.r.length:=by
 have:=h.blk.cell_some (i:=1) rfl
 unfold Go.Proofs.YtjigcpfjhfoheaaGreatDoor.posOf
 rw[this]
 simp[intOf]
section
variable {P c:Nat} {A:Option Addr} {L:List Tk} {w0 w:World} {s:Ps}
theorem fa (F:FuncId) (hE:EntF F) (el:M Ex) (hfw:Fwd el) (ops:List (ByteArray×Int)) (hl:ops.length≤100) (hops:∀x∈ops,I64 x.2) (gs:Nat) (hs:Blk w gs 120 (fp ops)) (hsP:gs≠P)
  (hp:PsAt 68 P A c L w0 w s) (hL:TkL L)
  (hF:∀(W:World) (st:Ps),PsAt 68 P A c L w0 W st→st.r.length≤s.r.length→Calls Tryz.prog F #[.pointer (some ⟨P,0,none⟩)] W (Ran 68 P A c L w0 W (el st).2 fun v W'=>ExG W.heap.size W' (el st).1 v)):
  Calls Tryz.prog 77 #[.pointer (some ⟨P,0,none⟩),.func (Fn.func F) #[.pointer (some ⟨P,0,none⟩)] #[],.slice (some ⟨gs,0,none⟩) ops.length ops.length] w
   (Ran 68 P A c L w0 w (aL el ops s).2 fun v w'=>ExG w.heap.size w' (aL el ops s).1 v):=by
 unfold EntF at hE
 have HF:=hid hF
 have hPl:=hp.lt
 have hsl:=hs.lt
 have HRes:Hid (aL el ops s=aM el ops (s.r.length+1) (el s).1 (el s).2):=rfl
 obtain⟨R,hR⟩:∃R,aL el ops s=R:=⟨_,rfl⟩
 rw[hR]at HRes ⊢
 clear hR hF
 have hx0:=(Ext.refl w).alloc (.cells #[.pointer (some ⟨P,0,none⟩)] 62)
 have hx1:=hx0.alloc (.cells #[.int .i64 0,.string ⟨#[]⟩,.string ⟨#[]⟩,.int .i64 0,.int .i64 0,.int .i64 0,.string ⟨#[]⟩,.slice none 0 0] 37)
 have HBx:Hid (Blk ((w.alloc (.cells #[.pointer (some ⟨P,0,none⟩)] 62)).alloc (.cells #[.int .i64 0,.string ⟨#[]⟩,.string ⟨#[]⟩,.int .i64 0,.int .i64 0,.int .i64 0,.string ⟨#[]⟩,.slice none 0 0] 37)) w.heap.size 62 [.pointer (some ⟨P,0,none⟩)]):=(Blk.of_new w 62 [.pointer (some ⟨P,0,none⟩)]).ext ((Ext.refl _).alloc _)
 have HR0:Hid (Blk ((w.alloc (.cells #[.pointer (some ⟨P,0,none⟩)] 62)).alloc (.cells #[.int .i64 0,.string ⟨#[]⟩,.string ⟨#[]⟩,.int .i64 0,.int .i64 0,.int .i64 0,.string ⟨#[]⟩,.slice none 0 0] 37)) (w.heap.size+1) 37 [.int .i64 0,.string ⟨#[]⟩,.string ⟨#[]⟩,.int .i64 0,.int .i64 0,.int .i64 0,.string ⟨#[]⟩,.slice none 0 0]):=by
  have:=Blk.of_new (w.alloc (.cells #[.pointer (some ⟨P,0,none⟩)] 62)) 37 [.int .i64 0,.string ⟨#[]⟩,.string ⟨#[]⟩,.int .i64 0,.int .i64 0,.int .i64 0,.string ⟨#[]⟩,.slice none 0 0]
  unfold Hid
  simpa using this
 have HSz:Hid (((w.alloc (.cells #[.pointer (some ⟨P,0,none⟩)] 62)).alloc (.cells #[.int .i64 0,.string ⟨#[]⟩,.string ⟨#[]⟩,.int .i64 0,.int .i64 0,.int .i64 0,.string ⟨#[]⟩,.slice none 0 0] 37)).heap.size=w.heap.size+2):=by
  unfold Hid
  simp
 have HS:=hid (hp.ext hx1)
 have HX1:=hid hx1
 have HSy:=hid (hs.ext hx1)
 clear hp hx0 hx1 hs
 go_enter Tryz.func77,Tryz.ntmps77
 go_upto_region 1 with fail
 generalize (w.alloc (.cells #[.pointer (some ⟨P,0,none⟩)] 62)).alloc (.cells #[.int .i64 0,.string ⟨#[]⟩,.string ⟨#[]⟩,.int .i64 0,.int .i64 0,.int .i64 0,.string ⟨#[]⟩,.slice none 0 0] 37)=wB at*
 obtain⟨n0,hn0⟩:∃n,w.heap.size=n:=⟨_,rfl⟩
 have HN0:=hid hn0
 rw[hn0]at HBx HR0 HSz hPl hsl ⊢
 clear hn0
 go_wp2_with fail
 refine(HF.out wB s HS.out (Nat.le_refl _)).mono ?_
 rintro _ w1 ⟨v,rfl,h1,h2,A1,k1,c1,rfl,h3⟩
 obtain⟨s1,hs1⟩:∃s1,(el s).2=s1:=⟨_,rfl⟩
 obtain⟨e1,he1⟩:∃e1,(el s).1=e1:=⟨_,rfl⟩
 have hln:s1.r.length≤s.r.length:=by rw[←hs1];exact hfw s
 rw[hs1,he1]at HRes
 rw[hs1]at h1
 rw[he1]at h3 ⊢
 clear hs1 he1
 obtain⟨⟨op,tb,nm,ix,vk,vi,vt⟩,ks⟩:=e1
 unfold Nd.val
 simp only[Ex.d]
 have hsz:=h2.size
 rw[HSz.out]at hsz h3
 have hx2:=(Ext.refl w1).alloc (.cells #[.int .i64 op,.string tb,.string nm,.int .i64 ix,.int .i64 vk,.int .i64 vi,.string vt,.slice A1 k1 c1] 37)
 have HE1:=hid (Blk.of_new w1 37 [.int .i64 op,.string tb,.string nm,.int .i64 ix,.int .i64 vk,.int .i64 vi,.string vt,.slice A1 k1 c1])
 have HS1:=hid (h1.ext hx2)
 have HCh1:=hid (((Chg.of (P:=P) HX1.out).trans h2).ext hx2)
 have HBx1:=hid ((h2.blk HBx.out (by omega)).ext hx2)
 have HR1:=hid ((h2.blk HR0.out (by omega)).ext hx2)
 have HSy1:=hid ((h2.blk HSy.out hsP).ext hx2)
 have HX1:Hid (ExS (fun q=>n0≤q∧q≠w1.heap.size∧q≠n0+1) (w1.alloc (.cells #[.int .i64 op,.string tb,.string nm,.int .i64 ix,.int .i64 vk,.int .i64 vi,.string vt,.slice A1 k1 c1] 37)) (.mk ⟨op,tb,nm,ix,vk,vi,vt⟩ ks) A1 k1 c1):=
  Stb.ext (h3.weak fun q hq hn=>⟨by omega,by omega,by omega⟩) hx2
 have HGe:Hid (n0+1<w1.heap.size):=by unfold Hid;omega
 clear h1 h2 h3 hx2 hsz HS HBx HR0 HSy HSz
 go_upto_region 2 with fail
 generalize w1.alloc (.cells #[.int .i64 op,.string tb,.string nm,.int .i64 ix,.int .i64 vk,.int .i64 vi,.string vt,.slice A1 k1 c1] 37)=wC at*
 generalize w1.heap.size=ge at*
 go_loopw [8] (fun _ wr=> ∃(n:Nat) (st:Ps) (e:Ex) (B:Option Addr) (k c':Nat),st.r.length<n∧st.r.length≤s.r.length∧R=aM el ops n e st∧PsAt 68 P A c L w0 wr st∧Blk wr ge 37 (e.d.cells B k c')∧ExS (fun q=>n0≤q∧q≠ge∧q≠n0+1) wr e B k c'∧
  Blk wr n0 62 [.pointer (some ⟨P,0,none⟩)]∧Blk wr (n0+1) 37 [.int .i64 0,.string ⟨#[]⟩,.string ⟨#[]⟩,.int .i64 0,.int .i64 0,.int .i64 0,.string ⟨#[]⟩,.slice none 0 0]∧Blk wr gs 120 (fp ops)∧Chg P w wr) (fun _ wr=>20001-posOf P wr)
 case atStart=>exact⟨_,s1,_,A1,k1,c1,by omega,hln,HRes.out,HS1.out,HE1.out,HX1.out,HBx1.out,HR1.out,HSy1.out,HCh1.out⟩
 case round=>
  obtain⟨n,st,e,A1,k1,c1,hn,hls,hR,hps,hbe,hxe,hbx,hbr,hsy,hch⟩:=hrel
  clear HRes HS1 HE1 HX1 HBx1 HR1 HSy1 HCh1
  obtain⟨n,rfl⟩:∃m,n=m+1:=⟨n-1,by omega⟩
  obtain⟨⟨op,tb,nm,ix,vk,vi,vt⟩,ks⟩:=e
  rw[aM]at hR
  have HRr:=hid hR
  have HPs:=hid hps
  have HBe:=hid hbe
  have HXe:=hid hxe
  have HBx:=hid hbx
  have HBr:=hid hbr
  have HSy:=hid hsy
  have HCh:=hid hch
  have HI:=hid (index_sym hps hL ops n0 gs (hbx.cell_some rfl) hsy (by omega) hsP hl)
  have HM:Hid (posOf P wr=L.length-st.r.length):=hps.posOf
  have hle0:=hps.le
  have hne0:=hps.ne
  clear hR hps hbe hxe hbx hbr hsy hch
  go_wp2_with fail
  refine HI.out.mono ?_
  rintro _ w2 ⟨v,rfl,h1,h2,i,rfl,hres⟩
  have HBe2:Hid (Blk w2 ge 37 [.int .i64 op,.string tb,.string nm,.int .i64 ix,.int .i64 vk,.int .i64 vi,.string vt,.slice A1 k1 c1]):=h2.blk HBe.out (by have:=HGe.out;omega)
  have HXe2:Hid (ExS (fun q=>n0≤q∧q≠ge∧q≠n0+1) w2 (.mk ⟨op,tb,nm,ix,vk,vi,vt⟩ ks) A1 k1 c1):=Stb.grown HXe.out h2 (fun q hq e=>by have:=Option.some.inj e;omega)
  have HBx2:=hid (h2.blk HBx.out (by omega))
  have HBr2:=hid (h2.blk HBr.out (by omega))
  have HSy2:=hid (h2.blk HSy.out hsP)
  have HCh2:=hid (HCh.out.trans h2)
  have HPs2:=hid h1
  clear h1 h2 HI HBe HXe HBx HBr HSy HCh HPs
  rcases hres with ⟨hn1,hi⟩|⟨k,t,o,rfl,hk,ho⟩
  ·rw[hn1]at HRr
   rw[ji _ _ hn1]at HPs2
   clear hn1
   obtain⟨b0,b1,b2,b3,b4,b5,b6,b7,-⟩:=cls HBe2.out
   obtain⟨z0,z1,z2,z3,z4,z5,z6,z7,-⟩:=cls HBr2.out
   obtain⟨y0,y1,y2,y3,y4,y5,y6,y7,-⟩:=frz HBr2.out
   have hz:=ax HBr2.out [.int .i64 op,.string tb,.string nm,.int .i64 ix,.int .i64 vk,.int .i64 vi,.string vt,.slice A1 k1 c1] rfl
   have HGr:=hid (ak (n0+1) [.int .i64 op,.string tb,.string nm,.int .i64 ix,.int .i64 vk,.int .i64 vi,.string vt,.slice A1 k1 c1] w2 0)
   simp only[sts]at hz
   have HZ:=hid hz
   clear hz
   go_wp2_with fail
   obtain⟨q0,q1,q2,q3,q4,q5,q6,q7,-⟩:=cls HZ.out
   exact bodyPost_ret (v:= .agg #[.int .i64 op,.string tb,.string nm,.int .i64 ix,.int .i64 vk,.int .i64 vi,.string vt,.slice A1 k1 c1]) (by simp[results,Tryz.results77,go_sem,q0,q1,q2,q3,q4,q5,q6,q7]) rfl ⟨_,rfl,by rw[HRr.out];exact HPs2.out.grown HGr.out (fun q hq=>by have:=Option.some.inj hq;omega),HCh2.out.own HGr.out (fun q hq=>by have:=Option.some.inj hq;rw[HN0.out];omega),by rw[HRr.out,HN0.out];exact⟨A1,k1,c1,rfl,Stb.weak (Stb.grown HXe2.out HGr.out (fun q hq e=>by have:=Option.some.inj e;omega)) (fun q _ hq=>hq.1)⟩⟩
  ·rw[ho]at HRr
   have hst:=fC ho
   obtain⟨st1,hst1⟩:∃x,(firstP ops st).2=x:=⟨_,rfl⟩
   rw[hst1]at hst HPs2
   have hRs:R=aM el ops n (opE o [.mk ⟨op,tb,nm,ix,vk,vi,vt⟩ ks,(el st1).1]) (el st1).2:=by
    have:=HRr.out
    rw[←hst1]
    exact this
   have HRs:=hid hRs
   clear HRr hst1 hRs
   have HOd:=hid (HF.out w2.drew st1 (HPs2.out.ext (Ext.refl w2).drew) (by omega))
   have HO64:=hid (hops _ (List.mem_of_getElem? hk))
   have HFw:=hid (hfw st1)
   obtain⟨_,e1⟩:=eZ ops k (t,o) hk
   have cs:=HSy2.out.cell_some e1
   have hkl:=(List.getElem?_eq_some_iff.1 hk).1
   have i0:(0:Int)≤(k:Int):=by omega
   have i1:(k:Int)<(ops.length:Int):=by omega
   have i2:¬((k:Int)<0):=by omega
   have hgz:ge<w2.heap.size:=HBe2.out.lt
   have HGz:=hid hgz
   obtain⟨st2,hst2⟩:∃x,(el st1).2=x:=⟨_,rfl⟩
   obtain⟨e2,he2⟩:∃x,(el st1).1=x:=⟨_,rfl⟩
   rw[hst2,he2]at HRs HOd
   rw[hst2]at HFw
   clear hst2 he2 e1 hk hgz
   obtain⟨⟨op2,tb2,nm2,ix2,vk2,vi2,vt2⟩,ks2⟩:=e2
   have HOe:Hid (Calls Tryz.prog F #[.pointer (some ⟨P,0,none⟩)] w2.drew fun e w3=> ∃(A2:Option Addr) (k2 c2:Nat),e= .returned (.agg #[.int .i64 op2,.string tb2,.string nm2,.int .i64 ix2,.int .i64 vk2,.int .i64 vi2,.string vt2,.slice A2 k2 c2])∧PsAt 68 P A c L w0 w3 st2∧Chg P w2 w3∧ExS (fun q=>n0≤q∧q≠ge∧q≠n0+1) w3 (.mk ⟨op2,tb2,nm2,ix2,vk2,vi2,vt2⟩ ks2) A2 k2 c2):=
    HOd.out.mono fun e w3 ⟨v,he,h5,h6,A2,k2,c2,hv,h7⟩=>⟨A2,k2,c2,by rw[he,hv];rfl,h5,(Chg.of (Ext.refl w2).drew).trans h6,h7.weak fun q _ hn=>by
     have:=HGe.out
     have:=HGz.out
     have hn:w2.heap.size≤q:=hn
     exact⟨by omega,by omega,by omega⟩⟩
   clear HOd
   obtain⟨b0,b1,b2,b3,b4,b5,b6,b7,-⟩:=cls HBe2.out
   go_upto_region 5 with fail
   go_region_law (first
    |(go_simp;go_at_call 105;(with_reducible refine(bY _ _ _ _ _).mono ?_);rintro _ w5 ⟨rfl,hx5⟩;have hx6:Ext w3 w5:=((Ext.refl w3).alloc (.cells #[.int .i64 op,.string tb,.string nm,.int .i64 ix,.int .i64 vk,.int .i64 vi,.string vt,.slice A1 k1 c1,.int .i64 op2,.string tb2,.string nm2,.int .i64 ix2,.int .i64 vk2,.int .i64 vi2,.string vt2,.slice A2 k2 c2] 37)).trans hx5;have HBe5:=HBe3.ext hx6;obtain⟨z0,z1,z2,z3,z4,z5,z6,z7,-⟩:=cls HBe5;obtain⟨y0,y1,y2,y3,y4,y5,y6,y7,-⟩:=frz HBe5)
    |(go_simp;(with_reducible refine HOe.out.mono ?_);rintro _ w3 ⟨A2,k2,c2,rfl,h5,h6,h7⟩;have HBe3:Blk w3 ge 37 [.int .i64 op,.string tb,.string nm,.int .i64 ix,.int .i64 vk,.int .i64 vi,.string vt,.slice A1 k1 c1]:=h6.blk HBe2.out (by have:=HGe.out;omega);have cs3:=h6.keep cs hsP;have cs4:=((Ext.refl w3).alloc (.cells #[.int .i64 op,.string tb,.string nm,.int .i64 ix,.int .i64 vk,.int .i64 vi,.string vt,.slice A1 k1 c1,.int .i64 op2,.string tb2,.string nm2,.int .i64 ix2,.int .i64 vk2,.int .i64 vi2,.string vt2,.slice A2 k2 c2] 37)).keep cs3;obtain⟨d0,d1,d2,d3,d4,d5,d6,d7,-⟩:=cls HBe3))
   all_goals
    have hs3:=h6.size
    have hgz:=HGz.out
    have hge:=HGe.out
    have hS3:n0≤w3.heap.size∧w3.heap.size≠ge∧w3.heap.size≠n0+1:=⟨by omega,by omega,by omega⟩
    have hnew:ExS (fun q=>n0≤q∧q≠ge∧q≠n0+1) (w3.alloc (.cells #[.int .i64 op,.string tb,.string nm,.int .i64 ix,.int .i64 vk,.int .i64 vi,.string vt,.slice A1 k1 c1,.int .i64 op2,.string tb2,.string nm2,.int .i64 ix2,.int .i64 vk2,.int .i64 vi2,.string vt2,.slice A2 k2 c2] 37)) (opE o [.mk ⟨op,tb,nm,ix,vk,vi,vt⟩ ks,.mk ⟨op2,tb2,nm2,ix2,vk2,vi2,vt2⟩ ks2]) (some ⟨w3.heap.size,0,none⟩) 2 2:=
     cI (S:=fun q=>n0≤q∧q≠ge∧q≠n0+1) HO64.out hS3 (Stb.grown HXe2.out h6 (fun q hq e=>by have:=Option.some.inj e;omega)) h7
    have hgr:=ak ge [.int .i64 o,.string ⟨#[]⟩,.string ⟨#[]⟩,.int .i64 0,.int .i64 0,.int .i64 0,.string ⟨#[]⟩,.slice (some ⟨w3.heap.size,0,none⟩) 2 2] w5 0
    have HXn:=hid (Stb.grown (Stb.ext hnew hx5) hgr (fun q hq e=>by have:=Option.some.inj e;omega))
    have HBn:=hid (ax HBe5 [.int .i64 o,.string ⟨#[]⟩,.string ⟨#[]⟩,.int .i64 0,.int .i64 0,.int .i64 0,.string ⟨#[]⟩,.slice (some ⟨w3.heap.size,0,none⟩) 2 2] rfl)
    have HPn:=hid ((h5.ext hx6).grown hgr (fun q hq=>by have:=Option.some.inj hq;omega))
    have HBxn:=hid (((h6.blk HBx2.out (by omega)).ext hx6).grown hgr (fun e=>by have:=Option.some.inj e;omega))
    have HBrn:=hid (((h6.blk HBr2.out (by omega)).ext hx6).grown hgr (fun e=>by have:=Option.some.inj e;omega))
    have HSyn:=hid (((h6.blk HSy2.out hsP).ext hx6).grown hgr (fun e=>by have:=Option.some.inj e;omega))
    have HChn:=hid (((HCh2.out.trans h6).ext hx6).own hgr (fun q hq=>by have:=Option.some.inj hq;rw[HN0.out];omega))
    simp only[sts]at HXn HBn HPn HBxn HBrn HSyn HChn
    have hpl:=HPn.out.le
    clear h5 h6 h7 hx5 hx6 HBe3 HBe5 hnew hgr cs cs3 cs4 b0 b1 b2 b3 b4 b5 b6 b7 d0 d1 d2 d3 d4 d5 d6 d7 z0 z1 z2 z3 z4 z5 z6 z7 y0 y1 y2 y3 y4 y5 y6 y7
    go_wp2_with fail
    exact⟨⟨n,st2,_,some ⟨w3.heap.size,0,none⟩,2,2,by have:=HFw.out;omega,by have:=HFw.out;omega,HRs.out,HPn.out,HBn.out,HXn.out,HBxn.out,HBrn.out,HSyn.out,HChn.out⟩,by rw[HPn.out.posOf,HM.out];have:=HFw.out;have:=hL.len;have:=HPs2.out.le;omega⟩
end
end
section
open Lx (Tk)
theorem eC (w:World) (cs:List Value) (e:TypeId) (k:Nat) (hl:cs.length=k):Reads (w.alloc (.cells cs.toArray e)) (w.heap.size+1) k (some ⟨w.heap.size,0,none⟩) 1 cs:=
 ⟨by simp[hl],fun _=>⟨_,rfl,Nat.lt_succ_self _,fun j u hu=>by
  have hadd:(⟨w.heap.size,0,none⟩:Addr).add j=⟨w.heap.size,0+j,none⟩:=by unfold Addr.add;split<;>simp_all
  rw[hadd,Nat.zero_add]
  exact(Blk.of_new w e cs).cell_some hu⟩⟩
theorem fN {P:Program} {t:TypeId} {z:Value} {s b:Nat} (h:(P.info? t).map (fun i=> (i.zero,i.size,i.bytes))=some (some z,s,b)):∃i,P.info? t=some i∧i.zero=some z∧i.size=s∧i.bytes=b:=by
 cases hi:P.info? t with
 |none=>rw[hi]at h;cases h
 |some i=>
  rw[hi]at h
  simp only[Option.map_some,Option.some.injEq,Prod.mk.injEq]at h
  exact⟨i,rfl,h.1,h.2.1,h.2.2⟩
theorem infoL_ex:(Tryz.prog.info? 37).map (fun i=> (i.zero,i.size,i.bytes))=some (some (.agg #[.int .i64 0,.string ⟨#[]⟩,.string ⟨#[]⟩,.int .i64 0,.int .i64 0,.int .i64 0,.string ⟨#[]⟩,.slice none 0 0]),8,104):=by kernel_rfl
def Elex (n:Nat) (W:World) (a:Ex) (v:Value):Prop:=ExG n W a v
def cM (a:Ex) (cs:List Value) (w:World):Prop:=∃B k c,cs=a.d.cells B k c∧ExV w a B k c
section
variable {P c:Nat} {A:Option Addr} {L:List Tk} {w0 w:World} {s:Ps}
theorem list_ex (F:FuncId) (hE:EntF F) (el:M (Ex)) (hfw:Fwd el) (hp:PsAt 68 P A c L w0 w s) (hL:TkL L)
  (hF:∀(W:World) (st:Ps),PsAt 68 P A c L w0 W st→st.r.length≤s.r.length→Calls Tryz.prog F #[.pointer (some ⟨P,0,none⟩)] W (Ran 68 P A c L w0 W (el st).2 fun v W'=>Elex W.heap.size W' (el st).1 v)):
  Calls Tryz.prog 101 #[.pointer (some ⟨P,0,none⟩),.func (Fn.func F) #[.pointer (some ⟨P,0,none⟩)] #[]] w
   (Ran 68 P A c L w0 w (listP el s).2 fun v w'=> ∃B k,v= .slice B (listP el s).1.length k∧Stb (w.heap.size≤·) w' (fun w2=>Lst cM 8 w2 B (listP el s).1)):=by
 unfold EntF at hE
 obtain⟨ie,hie,hi0,hi1,hi2⟩:=fN infoL_ex
 have HF:=hid hF
 have HS:=hid hp
 have hpl:=hp.lt
 have hple:=hp.le
 have hLl:=hL.len
 have HRes:Hid (listP el s=listGo el (s.r.length+1) [(el s).1] (el s).2):=rfl
 obtain⟨R,hR⟩:∃R,listP el s=R:=⟨_,rfl⟩
 rw[hR]at HRes ⊢
 clear hR hF hp
 go_enter Tryz.func101,Tryz.ntmps101
 go_wp2_with fail
 refine(HF.out w s HS.out (Nat.le_refl _)).mono ?_
 rintro _ w1 ⟨v,rfl,h1,h2,A1,k1,c1,rfl,h3⟩
 have hfl:=hfw s
 obtain⟨st1,hst1⟩:∃x,(el s).2=x:=⟨_,rfl⟩
 rw[hst1]at HRes h1 hfl
 clear hst1
 obtain⟨e1,he1⟩:∃x,(el s).1=x:=⟨_,rfl⟩
 rw[he1]at h3 ⊢
 (try rw[he1]at HRes)
 clear he1
 obtain⟨⟨op,tb,nm,ix,vk,vi,vt⟩,ks⟩:=e1
 unfold Nd.val
 simp only[Ex.d]
 have hsz1:=h2.size
 have HRow:Hid (cL cM 37 8 w.heap.size (w1.alloc (.cells #[.int .i64 op,.string tb,.string nm,.int .i64 ix,.int .i64 vk,.int .i64 vi,.string vt,.slice A1 k1 c1] 37)) (.slice (some ⟨w1.heap.size,0,none⟩) 1 1) [(.mk ⟨op,tb,nm,ix,vk,vi,vt⟩ ks)] [[.int .i64 op,.string tb,.string nm,.int .i64 ix,.int .i64 vk,.int .i64 vi,.string vt,.slice A1 k1 c1]]):=cL.start [.int .i64 op,.string tb,.string nm,.int .i64 ix,.int .i64 vk,.int .i64 vi,.string vt,.slice A1 k1 c1] rfl hsz1 (Stb.imp h3 fun w2 h=>⟨A1,k1,c1,rfl,h⟩)
 have hx:=(Ext.refl w1).alloc (.cells #[.int .i64 op,.string tb,.string nm,.int .i64 ix,.int .i64 vk,.int .i64 vi,.string vt,.slice A1 k1 c1] 37)
 have HS1:=hid (h1.ext hx)
 have HC1:=hid (h2.ext hx)
 clear h1 h2 hx hsz1 HS
 go_upto_region 2 with fail
 generalize w1.alloc (.cells #[.int .i64 op,.string tb,.string nm,.int .i64 ix,.int .i64 vk,.int .i64 vi,.string vt,.slice A1 k1 c1] 37)=w2 at*
 go_loopw [5,10] (fun vv _ wr=> ∃(m:Nat) (st:Ps) (l:List (Ex)) (css:List (List Value)),st.r.length<m∧l.length+st.r.length≤s.r.length+1∧R=listGo el m l st∧PsAt 68 P A c L w0 wr st∧cL cM 37 8 w.heap.size wr vv l css∧Chg P w wr) (fun _ _ wr=>20001-posOf P wr)
 case atStart=>exact⟨_,st1,_,_,by omega,by simp;omega,HRes.out,HS1.out,HRow.out,HC1.out⟩
 case round=>
  obtain⟨m,st,l,css,hm,hll,hI,hps,hrow,hch⟩:=hrel
  clear HRes HS1 HRow HC1
  obtain⟨m,rfl⟩:∃x,m=x+1:=⟨m-1,by omega⟩
  rw[listGo]at hI
  have HI:=hid hI
  have HRw:=hid hrow
  have HC:=hid hch
  have HMs:Hid (posOf P wr=L.length-st.r.length):=hps.posOf
  have hle0:=hps.le
  have hne0:=hps.ne
  have HA:=hid (aq hps hL yCm)
  clear hI hrow hch hps
  go_wp2_with fail
  refine HA.out.mono ?_
  rintro _ w3 ⟨v,rfl,h1,h2,rfl⟩
  have HC3:=hid (HC.out.trans h2)
  have HRw3:=hid (HRw.out.chg h2 hpl)
  cases hcm:isS yCm st
  ·have e:(au yCm st).2=st:=by simp[au,hcm]
   rw[e]at h1
   rw[hcm]at HI
   have HS3:=hid h1
   clear h1 h2 e HRw HC HA
   obtain⟨B,k,hv,hst⟩:=HRw3.out.fin
   skip
   subst hv
   have hR2:R=(l,st):=HI.out
   have HR2:=hid hR2
   have HSt:=hid hst
   clear hR2 hst HI
   go_wp2_with fail
   go_ret
   exact⟨_,rfl,by rw[HR2.out];exact HS3.out,HC3.out,by rw[HR2.out];exact⟨B,k,rfl,HSt.out⟩⟩
  ·have e:(au yCm st).2=st.next:=by simp[au,hcm]
   rw[e]at h1
   rw[hcm]at HI
   have HS3:=hid h1
   have hln:=aP hcm
   clear h1 h2 e HRw HC HA
   go_wp2_with fail
   refine(HF.out w3 st.next HS3.out (by omega)).mono ?_
   rintro _ w4 ⟨v,rfl,h1,h2,A1,k1,c1,rfl,h3⟩
   have hfl2:=hfw st.next
   have hI2:R=listGo el m (l++ [(el st.next).1]) (el st.next).2:=HI.out
   obtain⟨st2,hst2⟩:∃x,(el st.next).2=x:=⟨_,rfl⟩
   rw[hst2]at hI2 h1 hfl2
   clear hst2 HI
   obtain⟨e1,he1⟩:∃x,(el st.next).1=x:=⟨_,rfl⟩
   rw[he1]at h3 hI2 ⊢
   (try rw[he1]at HRes)
   clear he1
   obtain⟨⟨op,tb,nm,ix,vk,vi,vt⟩,ks⟩:=e1
   unfold Nd.val
   simp only[Ex.d]
   have HI:=hid hI2
   have HC4:=hid (HC3.out.trans h2)
   have hx:=(Ext.refl w4).alloc (.cells #[.int .i64 op,.string tb,.string nm,.int .i64 ix,.int .i64 vk,.int .i64 vi,.string vt,.slice A1 k1 c1] 37)
   have HRw4:=hid ((HRw3.out.chg h2 hpl).ext hx)
   have HS4:=hid (h1.ext hx)
   have hnew:Stb (fun q=>w.heap.size≤q∧u5.ownBlock≠some q) (w4.alloc (.cells #[.int .i64 op,.string tb,.string nm,.int .i64 ix,.int .i64 vk,.int .i64 vi,.string vt,.slice A1 k1 c1] 37)) (cM (.mk ⟨op,tb,nm,ix,vk,vi,vt⟩ ks) [.int .i64 op,.string tb,.string nm,.int .i64 ix,.int .i64 vk,.int .i64 vi,.string vt,.slice A1 k1 c1]):=Stb.ext (Stb.weak (Stb.imp h3 fun w2 h=>⟨A1,k1,c1,rfl,h⟩) fun q hq hn=>⟨Nat.le_trans HC3.out.size hn,fun e=>by
    have:=(HRw3.out.own.lt q e).2
    have hn:w3.heap.size≤q:=hn
    omega⟩) hx
   have HNew:=hid hnew
   have hszw:w.heap.size≤(w4.alloc (.cells #[.int .i64 op,.string tb,.string nm,.int .i64 ix,.int .i64 vk,.int .i64 vi,.string vt,.slice A1 k1 c1] 37)).heap.size:=Nat.le_trans HC4.out.size hx.size
   have HSzw:=hid hszw
   clear h1 h2 hx hnew hszw hI2 HRw3 HS3 HC3
   go_wp2_with (at_builtin;refine ao _ rfl (.tmp 11) (.tmp 14) 27 rfl w.heap.size 37 ie _ 8 104 Tryz.underlying27 hie hi0 hi1 hi2 rfl (by decide) _ l.length _ rfl HRw4.out.own _ _ 1 1 [.int .i64 op,.string tb,.string nm,.int .i64 ix,.int .i64 vk,.int .i64 vi,.string vt,.slice A1 k1 c1] rfl (eC w4 [.int .i64 op,.string tb,.string nm,.int .i64 ix,.int .i64 vk,.int .i64 vi,.string vt,.slice A1 k1 c1] 37 8 rfl) (by simp[Value.oneCell']) (by unfold maxLen;omega) (by omega) HSzw.out ?_;intro v7 w7 hown7 hgr7 hblk7)
   have hpush:=HRw4.out.push rfl hown7 hgr7 hblk7 HNew.out
   have hg7:∀q,u5.ownBlock=some q→w.heap.size≤q:=fun q hq=> (HRw4.out.own.lt q hq).1
   have HP7:=hid (HS4.out.grown hgr7 (fun q hq=>Nat.lt_of_lt_of_le hpl (hg7 q hq)))
   have HC7:=hid ((HC4.out.alloc _).own hgr7 hg7)
   exact⟨⟨m,st2,_,_,by omega,by rw[List.length_append,List.length_singleton];omega,HI.out,HP7.out,hpush,HC7.out⟩,by rw[HP7.out.posOf,HMs.out];omega⟩
end
section
variable {P c:Nat} {A:Option Addr} {L:List Tk} {w0 w:World} {s:Ps}
end
def Phirow (a:List Ex) (cs:List Value) (w:World):Prop:=∃B k,cs= [.slice B a.length k]∧a.length≤9223372036854775807∧KidsAt w B a
section
variable {P c:Nat} {A:Option Addr} {L:List Tk} {w0 w:World} {s:Ps}
end
def Phiasg (a:Asg) (cs:List Value) (w:World):Prop:=∃B k c,cs= [.string a.cl,.int .i64 a.ix,.int .i64 a.ex.d.op,.string a.ex.d.tb,.string a.ex.d.nm,.int .i64 a.ex.d.ix,.int .i64 a.ex.d.vk,.int .i64 a.ex.d.vi,.string a.ex.d.vt,.slice B k c]∧(a.cl.size≤9223372036854775807∧I64 a.ix)∧ExV w a.ex B k c
section
variable {P c:Nat} {A:Option Addr} {L:List Tk} {w0 w:World} {s:Ps}
end
theorem infoL_itm:(Tryz.prog.info? 84).map (fun i=> (i.zero,i.size,i.bytes))=some (some (.agg #[.int .i64 0,.int .i64 0,.string ⟨#[]⟩,.string ⟨#[]⟩,.int .i64 0,.int .i64 0,.int .i64 0,.string ⟨#[]⟩,.slice none 0 0]),9,112):=by kernel_rfl
def Elitm (n:Nat) (W:World) (a:Itm) (v:Value):Prop:=∃B k c,v= .agg #[.int .i64 a.ag,.int .i64 a.ex.d.op,.string a.ex.d.tb,.string a.ex.d.nm,.int .i64 a.ex.d.ix,.int .i64 a.ex.d.vk,.int .i64 a.ex.d.vi,.string a.ex.d.vt,.slice B k c]∧I64 a.ag∧Stb (n≤·) W (fun w2=>ExV w2 a.ex B k c)
def bG (a:Itm) (cs:List Value) (w:World):Prop:=∃B k c,cs= [.int .i64 a.ag,.int .i64 a.ex.d.op,.string a.ex.d.tb,.string a.ex.d.nm,.int .i64 a.ex.d.ix,.int .i64 a.ex.d.vk,.int .i64 a.ex.d.vi,.string a.ex.d.vt,.slice B k c]∧I64 a.ag∧ExV w a.ex B k c
section
variable {P c:Nat} {A:Option Addr} {L:List Tk} {w0 w:World} {s:Ps}
theorem list_itm (F:FuncId) (hE:EntF F) (el:M (Itm)) (hfw:Fwd el) (hp:PsAt 68 P A c L w0 w s) (hL:TkL L)
  (hF:∀(W:World) (st:Ps),PsAt 68 P A c L w0 W st→st.r.length≤s.r.length→Calls Tryz.prog F #[.pointer (some ⟨P,0,none⟩)] W (Ran 68 P A c L w0 W (el st).2 fun v W'=>Elitm W.heap.size W' (el st).1 v)):
  Calls Tryz.prog 102 #[.pointer (some ⟨P,0,none⟩),.func (Fn.func F) #[.pointer (some ⟨P,0,none⟩)] #[]] w
   (Ran 68 P A c L w0 w (listP el s).2 fun v w'=> ∃B k,v= .slice B (listP el s).1.length k∧Stb (w.heap.size≤·) w' (fun w2=>Lst bG 9 w2 B (listP el s).1)):=by
 unfold EntF at hE
 obtain⟨ie,hie,hi0,hi1,hi2⟩:=fN infoL_itm
 have HF:=hid hF
 have HS:=hid hp
 have hpl:=hp.lt
 have hple:=hp.le
 have hLl:=hL.len
 have HRes:Hid (listP el s=listGo el (s.r.length+1) [(el s).1] (el s).2):=rfl
 obtain⟨R,hR⟩:∃R,listP el s=R:=⟨_,rfl⟩
 rw[hR]at HRes ⊢
 clear hR hF hp
 go_enter Tryz.func102,Tryz.ntmps102
 go_wp2_with fail
 refine(HF.out w s HS.out (Nat.le_refl _)).mono ?_
 rintro _ w1 ⟨v,rfl,h1,h2,A1,k1,c1,rfl,h3,h4⟩
 have hfl:=hfw s
 obtain⟨st1,hst1⟩:∃x,(el s).2=x:=⟨_,rfl⟩
 rw[hst1]at HRes h1 hfl
 clear hst1
 obtain⟨e1,he1⟩:∃x,(el s).1=x:=⟨_,rfl⟩
 rw[he1]at h3 h4 ⊢
 (try rw[he1]at HRes)
 clear he1
 obtain⟨ag,⟨op,tb,nm,ix,vk,vi,vt⟩,ks⟩:=e1
 simp only[Ex.d]
 have hsz1:=h2.size
 have HRow:Hid (cL bG 84 9 w.heap.size (w1.alloc (.cells #[.int .i64 ag,.int .i64 op,.string tb,.string nm,.int .i64 ix,.int .i64 vk,.int .i64 vi,.string vt,.slice A1 k1 c1] 84)) (.slice (some ⟨w1.heap.size,0,none⟩) 1 1) [⟨ag,.mk ⟨op,tb,nm,ix,vk,vi,vt⟩ ks⟩] [[.int .i64 ag,.int .i64 op,.string tb,.string nm,.int .i64 ix,.int .i64 vk,.int .i64 vi,.string vt,.slice A1 k1 c1]]):=cL.start [.int .i64 ag,.int .i64 op,.string tb,.string nm,.int .i64 ix,.int .i64 vk,.int .i64 vi,.string vt,.slice A1 k1 c1] rfl hsz1 (Stb.imp h4 fun w2 h=>⟨A1,k1,c1,rfl,h3,h⟩)
 have hx:=(Ext.refl w1).alloc (.cells #[.int .i64 ag,.int .i64 op,.string tb,.string nm,.int .i64 ix,.int .i64 vk,.int .i64 vi,.string vt,.slice A1 k1 c1] 84)
 have HS1:=hid (h1.ext hx)
 have HC1:=hid (h2.ext hx)
 clear h1 h2 hx hsz1 HS
 go_upto_region 2 with fail
 generalize w1.alloc (.cells #[.int .i64 ag,.int .i64 op,.string tb,.string nm,.int .i64 ix,.int .i64 vk,.int .i64 vi,.string vt,.slice A1 k1 c1] 84)=w2 at*
 go_loopw [5,10] (fun vv _ wr=> ∃(m:Nat) (st:Ps) (l:List (Itm)) (css:List (List Value)),st.r.length<m∧l.length+st.r.length≤s.r.length+1∧R=listGo el m l st∧PsAt 68 P A c L w0 wr st∧cL bG 84 9 w.heap.size wr vv l css∧Chg P w wr) (fun _ _ wr=>20001-posOf P wr)
 case atStart=>exact⟨_,st1,_,_,by omega,by simp;omega,HRes.out,HS1.out,HRow.out,HC1.out⟩
 case round=>
  obtain⟨m,st,l,css,hm,hll,hI,hps,hrow,hch⟩:=hrel
  clear HRes HS1 HRow HC1
  obtain⟨m,rfl⟩:∃x,m=x+1:=⟨m-1,by omega⟩
  rw[listGo]at hI
  have HI:=hid hI
  have HRw:=hid hrow
  have HC:=hid hch
  have HMs:Hid (posOf P wr=L.length-st.r.length):=hps.posOf
  have hle0:=hps.le
  have hne0:=hps.ne
  have HA:=hid (aq hps hL yCm)
  clear hI hrow hch hps
  go_wp2_with fail
  refine HA.out.mono ?_
  rintro _ w3 ⟨v,rfl,h1,h2,rfl⟩
  have HC3:=hid (HC.out.trans h2)
  have HRw3:=hid (HRw.out.chg h2 hpl)
  cases hcm:isS yCm st
  ·have e:(au yCm st).2=st:=by simp[au,hcm]
   rw[e]at h1
   rw[hcm]at HI
   have HS3:=hid h1
   clear h1 h2 e HRw HC HA
   obtain⟨B,k,hv,hst⟩:=HRw3.out.fin
   skip
   subst hv
   have hR2:R=(l,st):=HI.out
   have HR2:=hid hR2
   have HSt:=hid hst
   clear hR2 hst HI
   go_wp2_with fail
   go_ret
   exact⟨_,rfl,by rw[HR2.out];exact HS3.out,HC3.out,by rw[HR2.out];exact⟨B,k,rfl,HSt.out⟩⟩
  ·have e:(au yCm st).2=st.next:=by simp[au,hcm]
   rw[e]at h1
   rw[hcm]at HI
   have HS3:=hid h1
   have hln:=aP hcm
   clear h1 h2 e HRw HC HA
   go_wp2_with fail
   refine(HF.out w3 st.next HS3.out (by omega)).mono ?_
   rintro _ w4 ⟨v,rfl,h1,h2,A1,k1,c1,rfl,h3,h4⟩
   have hfl2:=hfw st.next
   have hI2:R=listGo el m (l++ [(el st.next).1]) (el st.next).2:=HI.out
   obtain⟨st2,hst2⟩:∃x,(el st.next).2=x:=⟨_,rfl⟩
   rw[hst2]at hI2 h1 hfl2
   clear hst2 HI
   obtain⟨e1,he1⟩:∃x,(el st.next).1=x:=⟨_,rfl⟩
   rw[he1]at h3 h4 hI2 ⊢
   (try rw[he1]at HRes)
   clear he1
   obtain⟨ag,⟨op,tb,nm,ix,vk,vi,vt⟩,ks⟩:=e1
   simp only[Ex.d]
   have HI:=hid hI2
   have HC4:=hid (HC3.out.trans h2)
   have hx:=(Ext.refl w4).alloc (.cells #[.int .i64 ag,.int .i64 op,.string tb,.string nm,.int .i64 ix,.int .i64 vk,.int .i64 vi,.string vt,.slice A1 k1 c1] 84)
   have HRw4:=hid ((HRw3.out.chg h2 hpl).ext hx)
   have HS4:=hid (h1.ext hx)
   have hnew:Stb (fun q=>w.heap.size≤q∧u5.ownBlock≠some q) (w4.alloc (.cells #[.int .i64 ag,.int .i64 op,.string tb,.string nm,.int .i64 ix,.int .i64 vk,.int .i64 vi,.string vt,.slice A1 k1 c1] 84)) (bG ⟨ag,.mk ⟨op,tb,nm,ix,vk,vi,vt⟩ ks⟩ [.int .i64 ag,.int .i64 op,.string tb,.string nm,.int .i64 ix,.int .i64 vk,.int .i64 vi,.string vt,.slice A1 k1 c1]):=Stb.ext (Stb.weak (Stb.imp h4 fun w2 h=>⟨A1,k1,c1,rfl,h3,h⟩) fun q hq hn=>⟨Nat.le_trans HC3.out.size hn,fun e=>by
    have:=(HRw3.out.own.lt q e).2
    have hn:w3.heap.size≤q:=hn
    omega⟩) hx
   have HNew:=hid hnew
   have hszw:w.heap.size≤(w4.alloc (.cells #[.int .i64 ag,.int .i64 op,.string tb,.string nm,.int .i64 ix,.int .i64 vk,.int .i64 vi,.string vt,.slice A1 k1 c1] 84)).heap.size:=Nat.le_trans HC4.out.size hx.size
   have HSzw:=hid hszw
   clear h1 h2 hx hnew hszw hI2 HRw3 HS3 HC3
   go_wp2_with (at_builtin;refine ao _ rfl (.tmp 11) (.tmp 14) 32 rfl w.heap.size 84 ie _ 9 112 Tryz.underlying32 hie hi0 hi1 hi2 rfl (by decide) _ l.length _ rfl HRw4.out.own _ _ 1 1 [.int .i64 ag,.int .i64 op,.string tb,.string nm,.int .i64 ix,.int .i64 vk,.int .i64 vi,.string vt,.slice A1 k1 c1] rfl (eC w4 [.int .i64 ag,.int .i64 op,.string tb,.string nm,.int .i64 ix,.int .i64 vk,.int .i64 vi,.string vt,.slice A1 k1 c1] 84 9 rfl) (by simp[Value.oneCell']) (by unfold maxLen;omega) (by omega) HSzw.out ?_;intro v7 w7 hown7 hgr7 hblk7)
   have hpush:=HRw4.out.push rfl hown7 hgr7 hblk7 HNew.out
   have hg7:∀q,u5.ownBlock=some q→w.heap.size≤q:=fun q hq=> (HRw4.out.own.lt q hq).1
   have HP7:=hid (HS4.out.grown hgr7 (fun q hq=>Nat.lt_of_lt_of_le hpl (hg7 q hq)))
   have HC7:=hid ((HC4.out.alloc _).own hgr7 hg7)
   exact⟨⟨m,st2,_,_,by omega,by rw[List.length_append,List.length_singleton];omega,HI.out,HP7.out,hpush,HC7.out⟩,by rw[HP7.out.posOf,HMs.out];omega⟩
end
theorem infoL_ord:(Tryz.prog.info? 88).map (fun i=> (i.zero,i.size,i.bytes))=some (some (.agg #[.int .i64 0,.bool false]),2,16):=by kernel_rfl
def Elord (n:Nat) (W:World) (a:Ord') (v:Value):Prop:=v= .agg #[.int .i64 a.it,.bool a.ds]∧I64 a.it
def ej (a:Ord') (cs:List Value) (w:World):Prop:=cs= [.int .i64 a.it,.bool a.ds]∧I64 a.it
section
variable {P c:Nat} {A:Option Addr} {L:List Tk} {w0 w:World} {s:Ps}
theorem list_ord (F:FuncId) (hE:EntF F) (el:M (Ord')) (hfw:Fwd el) (hp:PsAt 68 P A c L w0 w s) (hL:TkL L)
  (hF:∀(W:World) (st:Ps),PsAt 68 P A c L w0 W st→st.r.length≤s.r.length→Calls Tryz.prog F #[.pointer (some ⟨P,0,none⟩)] W (Ran 68 P A c L w0 W (el st).2 fun v W'=>Elord W.heap.size W' (el st).1 v)):
  Calls Tryz.prog 107 #[.pointer (some ⟨P,0,none⟩),.func (Fn.func F) #[.pointer (some ⟨P,0,none⟩)] #[]] w
   (Ran 68 P A c L w0 w (listP el s).2 fun v w'=> ∃B k,v= .slice B (listP el s).1.length k∧Stb (w.heap.size≤·) w' (fun w2=>Lst ej 2 w2 B (listP el s).1)):=by
 unfold EntF at hE
 obtain⟨ie,hie,hi0,hi1,hi2⟩:=fN infoL_ord
 have HF:=hid hF
 have HS:=hid hp
 have hpl:=hp.lt
 have hple:=hp.le
 have hLl:=hL.len
 have HRes:Hid (listP el s=listGo el (s.r.length+1) [(el s).1] (el s).2):=rfl
 obtain⟨R,hR⟩:∃R,listP el s=R:=⟨_,rfl⟩
 rw[hR]at HRes ⊢
 clear hR hF hp
 go_enter Tryz.func107,Tryz.ntmps107
 go_wp2_with fail
 refine(HF.out w s HS.out (Nat.le_refl _)).mono ?_
 rintro _ w1 ⟨v,rfl,h1,h2,rfl,h3⟩
 have hfl:=hfw s
 obtain⟨st1,hst1⟩:∃x,(el s).2=x:=⟨_,rfl⟩
 rw[hst1]at HRes h1 hfl
 clear hst1
 obtain⟨e1,he1⟩:∃x,(el s).1=x:=⟨_,rfl⟩
 rw[he1]at h3 ⊢
 (try rw[he1]at HRes)
 clear he1
 obtain⟨it,ds⟩:=e1
 simp only[]
 have hsz1:=h2.size
 have HRow:Hid (cL ej 88 2 w.heap.size (w1.alloc (.cells #[.int .i64 it,.bool ds] 88)) (.slice (some ⟨w1.heap.size,0,none⟩) 1 1) [⟨it,ds⟩] [[.int .i64 it,.bool ds]]):=cL.start [.int .i64 it,.bool ds] rfl hsz1 (fun w2 _ _=>⟨rfl,h3⟩)
 have hx:=(Ext.refl w1).alloc (.cells #[.int .i64 it,.bool ds] 88)
 have HS1:=hid (h1.ext hx)
 have HC1:=hid (h2.ext hx)
 clear h1 h2 hx hsz1 HS
 go_upto_region 2 with fail
 generalize w1.alloc (.cells #[.int .i64 it,.bool ds] 88)=w2 at*
 go_loopw [5,10] (fun vv _ wr=> ∃(m:Nat) (st:Ps) (l:List (Ord')) (css:List (List Value)),st.r.length<m∧l.length+st.r.length≤s.r.length+1∧R=listGo el m l st∧PsAt 68 P A c L w0 wr st∧cL ej 88 2 w.heap.size wr vv l css∧Chg P w wr) (fun _ _ wr=>20001-posOf P wr)
 case atStart=>exact⟨_,st1,_,_,by omega,by simp;omega,HRes.out,HS1.out,HRow.out,HC1.out⟩
 case round=>
  obtain⟨m,st,l,css,hm,hll,hI,hps,hrow,hch⟩:=hrel
  clear HRes HS1 HRow HC1
  obtain⟨m,rfl⟩:∃x,m=x+1:=⟨m-1,by omega⟩
  rw[listGo]at hI
  have HI:=hid hI
  have HRw:=hid hrow
  have HC:=hid hch
  have HMs:Hid (posOf P wr=L.length-st.r.length):=hps.posOf
  have hle0:=hps.le
  have hne0:=hps.ne
  have HA:=hid (aq hps hL yCm)
  clear hI hrow hch hps
  go_wp2_with fail
  refine HA.out.mono ?_
  rintro _ w3 ⟨v,rfl,h1,h2,rfl⟩
  have HC3:=hid (HC.out.trans h2)
  have HRw3:=hid (HRw.out.chg h2 hpl)
  cases hcm:isS yCm st
  ·have e:(au yCm st).2=st:=by simp[au,hcm]
   rw[e]at h1
   rw[hcm]at HI
   have HS3:=hid h1
   clear h1 h2 e HRw HC HA
   obtain⟨B,k,hv,hst⟩:=HRw3.out.fin
   skip
   subst hv
   have hR2:R=(l,st):=HI.out
   have HR2:=hid hR2
   have HSt:=hid hst
   clear hR2 hst HI
   go_wp2_with fail
   go_ret
   exact⟨_,rfl,by rw[HR2.out];exact HS3.out,HC3.out,by rw[HR2.out];exact⟨B,k,rfl,HSt.out⟩⟩
  ·have e:(au yCm st).2=st.next:=by simp[au,hcm]
   rw[e]at h1
   rw[hcm]at HI
   have HS3:=hid h1
   have hln:=aP hcm
   clear h1 h2 e HRw HC HA
   go_wp2_with fail
   refine(HF.out w3 st.next HS3.out (by omega)).mono ?_
   rintro _ w4 ⟨v,rfl,h1,h2,rfl,h3⟩
   have hfl2:=hfw st.next
   have hI2:R=listGo el m (l++ [(el st.next).1]) (el st.next).2:=HI.out
   obtain⟨st2,hst2⟩:∃x,(el st.next).2=x:=⟨_,rfl⟩
   rw[hst2]at hI2 h1 hfl2
   clear hst2 HI
   obtain⟨e1,he1⟩:∃x,(el st.next).1=x:=⟨_,rfl⟩
   rw[he1]at h3 hI2 ⊢
   (try rw[he1]at HRes)
   clear he1
   obtain⟨it,ds⟩:=e1
   simp only[]
   have HI:=hid hI2
   have HC4:=hid (HC3.out.trans h2)
   have hx:=(Ext.refl w4).alloc (.cells #[.int .i64 it,.bool ds] 88)
   have HRw4:=hid ((HRw3.out.chg h2 hpl).ext hx)
   have HS4:=hid (h1.ext hx)
   have hnew:Stb (fun q=>w.heap.size≤q∧u5.ownBlock≠some q) (w4.alloc (.cells #[.int .i64 it,.bool ds] 88)) (ej ⟨it,ds⟩ [.int .i64 it,.bool ds]):=Stb.ext (Stb.weak (fun w2 _ _=>⟨rfl,h3⟩) fun q hq hn=>⟨Nat.le_trans HC3.out.size hn,fun e=>by
    have:=(HRw3.out.own.lt q e).2
    have hn:w3.heap.size≤q:=hn
    omega⟩) hx
   have HNew:=hid hnew
   have hszw:w.heap.size≤(w4.alloc (.cells #[.int .i64 it,.bool ds] 88)).heap.size:=Nat.le_trans HC4.out.size hx.size
   have HSzw:=hid hszw
   clear h1 h2 hx hnew hszw hI2 HRw3 HS3 HC3
   go_wp2_with (at_builtin;refine ao _ rfl (.tmp 11) (.tmp 14) 38 rfl w.heap.size 88 ie _ 2 16 Tryz.underlying38 hie hi0 hi1 hi2 rfl (by decide) _ l.length _ rfl HRw4.out.own _ _ 1 1 [.int .i64 it,.bool ds] rfl (eC w4 [.int .i64 it,.bool ds] 88 2 rfl) (by simp[Value.oneCell']) (by unfold maxLen;omega) (by omega) HSzw.out ?_;intro v7 w7 hown7 hgr7 hblk7)
   have hpush:=HRw4.out.push rfl hown7 hgr7 hblk7 HNew.out
   have hg7:∀q,u5.ownBlock=some q→w.heap.size≤q:=fun q hq=> (HRw4.out.own.lt q hq).1
   have HP7:=hid (HS4.out.grown hgr7 (fun q hq=>Nat.lt_of_lt_of_le hpl (hg7 q hq)))
   have HC7:=hid ((HC4.out.alloc _).own hgr7 hg7)
   exact⟨⟨m,st2,_,_,by omega,by rw[List.length_append,List.length_singleton];omega,HI.out,HP7.out,hpush,HC7.out⟩,by rw[HP7.out.posOf,HMs.out];omega⟩
end
end
end Go.Proofs.YtjigcpfjhfoheaaGreatDoor
