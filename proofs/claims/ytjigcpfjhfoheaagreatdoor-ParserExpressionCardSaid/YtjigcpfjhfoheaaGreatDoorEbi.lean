/- Walks: the operators that are tried; chains; Walk: a chain of operands; Walks: lists; What the lexer yields; Walk: begin; Valid of a statement that is too large: without a bound on its bulk. -/
import Derived.Test.YtjigcpfjhfoheaaGreatDoorEbh
import Derived.Test.YtjigcpfjhfoheaaGreatDoorEab
import Derived.Test.YtjigcpfjhfoheaaGreatDoorEad
import Derived.Test.YtjigcpfjhfoheaaGreatDoorEbg
namespace Go.Proofs.YtjigcpfjhfoheaaGreatDoor
open Go.RowKit
set_option maxHeartbeats 2000000
set_option maxRecDepth 100000
set_option linter.unusedVariables false
set_option linter.unusedSimpArgs false
section
open Lx (Tk)
def symCs (l:List (ByteArray×Int)):List Value:=l.flatMap fun x=> [.string x.1,.int .i64 x.2]
theorem symCs_get (l:List (ByteArray×Int)):∀(i:Nat) (x:ByteArray×Int),l[i]? =some x→(symCs l)[i*2]? =some (.string x.1)∧(symCs l)[i*2+1]? =some (.int .i64 x.2):=by
 induction l with
 |nil=>intro i x h;simp at h
 |cons y l ih=>
  intro i x h
  cases i with
  |zero=>simp at h;subst h;exact⟨rfl,rfl⟩
  |succ i=>
   have:=ih i x (by simpa using h)
   unfold symCs at*
   rw[List.flatMap_cons,show(i+1)*2=i*2+2 by omega,show i*2+2+1=(i*2+1)+2 by omega]
   simpa using this
theorem ent_sym:∀(args:Array Value) (W:World),(callFunc 151 args).run Tryz.prog W= .ok (.enter 151 args) W:=fun _ _=>by kernel_rfl
section
variable {P c:Nat} {A:Option Addr} {L:List Tk} {w0 w:World} {s:Ps}
theorem sym1_any (hp:PsAt 68 P A c L w0 w s) (hL:TkL L) (t:ByteArray) (o:Int) (gb:Nat) (hb:w.cell? ⟨gb,0,none⟩=some (.pointer (some ⟨P,0,none⟩))):
  Calls Tryz.prog 151 #[.agg #[.string t,.int .i64 o],.pointer (some ⟨gb,0,none⟩)] w (Ran 68 P A c L w0 w (accP t s).2 fun v _=>v= .bool (isS t s)):=by
 have hx0:=(Ext.refl w).alloc (.cells #[.string t,.int .i64 o] 120)
 have HX:=hid hx0
 have b0:=hx0.keep hb
 have HA:=hid (accept_any (hp.ext hx0) hL t)
 clear hp hx0 hb
 go_enter Tryz.func151,Tryz.ntmps151
 go_wp2_with fail
 refine HA.out.mono ?_
 rintro e w1 ⟨v,rfl,h1,h2,rfl⟩
 go_wp2_with fail
 go_ret
 exact⟨_,rfl,h1,(Chg.of HX.out).trans h2,rfl⟩
theorem index_sym (hp:PsAt 68 P A c L w0 w s) (hL:TkL L) (ops:List (ByteArray×Int)) (gb gs:Nat) (hb:w.cell? ⟨gb,0,none⟩=some (.pointer (some ⟨P,0,none⟩))) (hs:Blk w gs 120 (symCs ops)) (hbP:gb≠P) (hsP:gs≠P) (hl:ops.length≤100):
  Calls Tryz.prog 150 #[.slice (some ⟨gs,0,none⟩) ops.length ops.length,.func (Fn.func 151) #[] #[.pointer (some ⟨gb,0,none⟩)]] w
   (Ran 68 P A c L w0 w (firstP ops s).2 fun v _=> ∃i:Int,v= .int .i64 i∧(((firstP ops s).1=none∧i<0)∨∃(k:Nat) (t:ByteArray) (o:Int),i=k∧ops[k]? =some (t,o)∧(firstP ops s).1=some o)):=by
 have hE:=ent_sym
 go_enter Tryz.func150,Tryz.ntmps150
 go_wp2_with fail
 go_loopw [5,8] (fun _ iv wr=> ∃(k:Nat),k≤ops.length∧iv= .int .i64 k∧firstP ops s=firstP (ops.drop k) s∧PsAt 68 P A c L w0 wr s∧Chg P w wr) (fun _ i _=>ops.length- (intOf i).toNat)
 case atStart=>exact⟨0,Nat.zero_le _,rfl,rfl,hp,Chg.refl P w⟩
 case round=>
  obtain⟨k,hk,rfl,hf,hpr,hcr⟩:=hrel
  by_cases hlt:k<ops.length
  ·obtain⟨⟨t,o⟩,hx⟩:∃x,ops[k]? =some x:=⟨_,List.getElem?_eq_getElem hlt⟩
   have hd:ops.drop k=(t,o)::ops.drop (k+1):=by
    obtain⟨h1,h2⟩:=List.getElem?_eq_some_iff.1 hx
    rw[List.drop_eq_getElem_cons h1,h2]
   rw[hd,firstP]at hf
   have HB:=hid (hcr.blk hs hsP)
   obtain⟨e0,e1⟩:=symCs_get ops k (t,o) hx
   have c0:=HB.out.cell_some e0
   have c1:=HB.out.cell_some e1
   have HC:=hid (sym1_any hpr hL t o gb (hcr.keep hb hbP))
   have HF:=hid hf
   have HCr:=hid hcr
   have HX:=hid hx
   clear hf hpr hcr hx hd hs e0 e1 hb hp
   have i0:(0:Int)≤(k:Int):=by omega
   have i1:(k:Int)<(ops.length:Int):=by omega
   go_wp2_with fail
   refine HC.out.mono ?_
   rintro _ w2 ⟨v,rfl,h1,h2,rfl⟩
   have HCh:=hid (HCr.out.trans h2)
   cases hsx:isS t s
   ·rw[hsx]at HF
    have e:(accP t s).2=s:=by simp[accP,hsx]
    rw[e]at h1
    have HS:=hid h1
    have HF2:=hid (HF.out)
    clear h1 h2 HC c0 c1 HB
    go_wp2_with fail
    exact⟨⟨k+1,by omega,by go_num,HF2.out,HS.out,HCh.out⟩,by simp[intOf];omega⟩
   ·rw[hsx]at HF
    have e:(accP t s).2=s.next:=by simp[accP,hsx]
    rw[e]at h1
    have HS:=hid h1
    have HF2:Hid (firstP ops s=(some o,s.next)):=HF.out
    clear h1 h2 HC c0 c1 HB
    go_wp2_with fail
    go_ret
    exact⟨_,rfl,by rw[HF2.out];exact HS.out,HCh.out,k,rfl,.inr ⟨k,t,o,rfl,HX.out,by rw[HF2.out]⟩⟩
  ·obtain rfl:k=ops.length:=by omega
   rw[List.drop_length,firstP]at hf
   have HF:=hid hf
   have HS:=hid hpr
   have HCh:=hid hcr
   clear hf hpr hcr hp hs hb
   go_wp2_with fail
   go_ret
   exact⟨_,rfl,by rw[HF.out];exact HS.out,HCh.out,-1,rfl,.inl ⟨by rw[HF.out],by omega⟩⟩
end
end
section
open Lx (Tk)
def EntF (F:FuncId):Prop:=∀(args:Array Value) (W:World),(callFunc F args).run Tryz.prog W= .ok (.enter F args) W
def posOf (P:Nat) (w:World):Nat:=match w.cell? ⟨P,1,none⟩with
 |some v=> (intOf v).toNat
 |none=>0
theorem PsAt.posOf {T P c:Nat} {A:Option Addr} {L:List Tk} {w0 w:World} {s:Ps} (h:PsAt T P A c L w0 w s):posOf P w=L.length-s.r.length:=by
 have:=h.blk.cell_some (i:=1) rfl
 unfold Go.Proofs.YtjigcpfjhfoheaaGreatDoor.posOf
 rw[this]
 simp[intOf]
section
variable {P c:Nat} {A:Option Addr} {L:List Tk} {w0 w:World} {s:Ps}
theorem chain_any (F:FuncId) (hE:EntF F) (el:M Ex) (hfw:Fwd el) (ops:List (ByteArray×Int)) (hl:ops.length≤100) (hops:∀x∈ops,I64 x.2) (gs:Nat) (hs:Blk w gs 120 (symCs ops)) (hsP:gs≠P)
  (hp:PsAt 68 P A c L w0 w s) (hL:TkL L)
  (hF:∀(W:World) (st:Ps),PsAt 68 P A c L w0 W st→st.r.length≤s.r.length→Calls Tryz.prog F #[.pointer (some ⟨P,0,none⟩)] W (Ran 68 P A c L w0 W (el st).2 fun v W'=>ExG W.heap.size W' (el st).1 v)):
  Calls Tryz.prog 77 #[.pointer (some ⟨P,0,none⟩),.func (Fn.func F) #[.pointer (some ⟨P,0,none⟩)] #[],.slice (some ⟨gs,0,none⟩) ops.length ops.length] w
   (Ran 68 P A c L w0 w (chainP el ops s).2 fun v w'=>ExG w.heap.size w' (chainP el ops s).1 v):=by
 unfold EntF at hE
 have HF:=hid hF
 have hPl:=hp.lt
 have hsl:=hs.lt
 have HRes:Hid (chainP el ops s=chainGo el ops (s.r.length+1) (el s).1 (el s).2):=rfl
 obtain⟨R,hR⟩:∃R,chainP el ops s=R:=⟨_,rfl⟩
 rw[hR]at HRes ⊢
 clear hR hF
 have hx0:=(Ext.refl w).alloc (.cells #[.pointer (some ⟨P,0,none⟩)] 62)
 have hx1:=hx0.alloc (.cells #[.int .i64 0,.string ⟨#[]⟩,.string ⟨#[]⟩,.int .i64 0,.int .i64 0,.int .i64 0,.string ⟨#[]⟩,.slice none 0 0] 37)
 have HBx:Hid (Blk ((w.alloc (.cells #[.pointer (some ⟨P,0,none⟩)] 62)).alloc (.cells #[.int .i64 0,.string ⟨#[]⟩,.string ⟨#[]⟩,.int .i64 0,.int .i64 0,.int .i64 0,.string ⟨#[]⟩,.slice none 0 0] 37)) w.heap.size 62 [.pointer (some ⟨P,0,none⟩)]):=(Blk.of_new w 62 [.pointer (some ⟨P,0,none⟩)]).ext ((Ext.refl _).alloc _)
 have HR0:Hid (Blk ((w.alloc (.cells #[.pointer (some ⟨P,0,none⟩)] 62)).alloc (.cells #[.int .i64 0,.string ⟨#[]⟩,.string ⟨#[]⟩,.int .i64 0,.int .i64 0,.int .i64 0,.string ⟨#[]⟩,.slice none 0 0] 37)) (w.heap.size+1) 37 eZ):=by
  have:=Blk.of_new (w.alloc (.cells #[.pointer (some ⟨P,0,none⟩)] 62)) 37 eZ
  unfold Hid
  simpa using this
 have HSz:Hid (((w.alloc (.cells #[.pointer (some ⟨P,0,none⟩)] 62)).alloc (.cells #[.int .i64 0,.string ⟨#[]⟩,.string ⟨#[]⟩,.int .i64 0,.int .i64 0,.int .i64 0,.string ⟨#[]⟩,.slice none 0 0] 37)).heap.size=w.heap.size+2):=by
  unfold Hid
  simp
 have HS:=hid (hp.ext hx1)
 have HX1:=hid hx1
 have HSy:=hid (hs.ext hx1)
 clear hp hx0 hx1 hs
 go_enter Tryz.func77,Tryz.ntmps77
 go_upto_region 1 with fail
 generalize (w.alloc (.cells #[.pointer (some ⟨P,0,none⟩)] 62)).alloc (.cells #[.int .i64 0,.string ⟨#[]⟩,.string ⟨#[]⟩,.int .i64 0,.int .i64 0,.int .i64 0,.string ⟨#[]⟩,.slice none 0 0] 37)=wB at*
 obtain⟨n0,hn0⟩:∃n,w.heap.size=n:=⟨_,rfl⟩
 have HN0:=hid hn0
 rw[hn0]at HBx HR0 HSz hPl hsl ⊢
 clear hn0
 go_wp2_with fail
 refine(HF.out wB s HS.out (Nat.le_refl _)).mono ?_
 rintro _ w1 ⟨v,rfl,h1,h2,A1,k1,c1,rfl,h3⟩
 obtain⟨s1,hs1⟩:∃s1,(el s).2=s1:=⟨_,rfl⟩
 obtain⟨e1,he1⟩:∃e1,(el s).1=e1:=⟨_,rfl⟩
 have hln:s1.r.length≤s.r.length:=by rw[←hs1];exact hfw s
 rw[hs1,he1]at HRes
 rw[hs1]at h1
 rw[he1]at h3 ⊢
 clear hs1 he1
 obtain⟨⟨op,tb,nm,ix,vk,vi,vt⟩,ks⟩:=e1
 unfold Nd.val
 simp only[Ex.d]
 have hsz:=h2.size
 rw[HSz.out]at hsz h3
 have hx2:=(Ext.refl w1).alloc (.cells #[.int .i64 op,.string tb,.string nm,.int .i64 ix,.int .i64 vk,.int .i64 vi,.string vt,.slice A1 k1 c1] 37)
 have HE1:=hid (Blk.of_new w1 37 (eC op tb nm ix vk vi vt A1 k1 c1))
 have HS1:=hid (h1.ext hx2)
 have HCh1:=hid (((Chg.of (P:=P) HX1.out).trans h2).ext hx2)
 have HBx1:=hid ((h2.blk HBx.out (by omega)).ext hx2)
 have HR1:=hid ((h2.blk HR0.out (by omega)).ext hx2)
 have HSy1:=hid ((h2.blk HSy.out hsP).ext hx2)
 have HX1:Hid (ExS (fun q=>n0≤q∧q≠w1.heap.size∧q≠n0+1) (w1.alloc (.cells #[.int .i64 op,.string tb,.string nm,.int .i64 ix,.int .i64 vk,.int .i64 vi,.string vt,.slice A1 k1 c1] 37)) (.mk ⟨op,tb,nm,ix,vk,vi,vt⟩ ks) A1 k1 c1):=
  Stb.ext (h3.weak fun q hq hn=>⟨by omega,by omega,by omega⟩) hx2
 have HGe:Hid (n0+1<w1.heap.size):=by unfold Hid;omega
 clear h1 h2 h3 hx2 hsz HS HBx HR0 HSy HSz
 go_upto_region 2 with fail
 generalize w1.alloc (.cells #[.int .i64 op,.string tb,.string nm,.int .i64 ix,.int .i64 vk,.int .i64 vi,.string vt,.slice A1 k1 c1] 37)=wC at*
 generalize w1.heap.size=ge at*
 go_loopw [8] (fun _ wr=> ∃(n:Nat) (st:Ps) (e:Ex) (B:Option Addr) (k c':Nat),st.r.length<n∧st.r.length≤s.r.length∧R=chainGo el ops n e st∧PsAt 68 P A c L w0 wr st∧Blk wr ge 37 (e.d.cells B k c')∧ExS (fun q=>n0≤q∧q≠ge∧q≠n0+1) wr e B k c'∧
  Blk wr n0 62 [.pointer (some ⟨P,0,none⟩)]∧Blk wr (n0+1) 37 eZ∧Blk wr gs 120 (symCs ops)∧Chg P w wr) (fun _ wr=>20001-posOf P wr)
 case atStart=>exact⟨_,s1,_,A1,k1,c1,by omega,hln,HRes.out,HS1.out,HE1.out,HX1.out,HBx1.out,HR1.out,HSy1.out,HCh1.out⟩
 case round=>
  obtain⟨n,st,e,A1,k1,c1,hn,hls,hR,hps,hbe,hxe,hbx,hbr,hsy,hch⟩:=hrel
  clear HRes HS1 HE1 HX1 HBx1 HR1 HSy1 HCh1
  obtain⟨n,rfl⟩:∃m,n=m+1:=⟨n-1,by omega⟩
  obtain⟨⟨op,tb,nm,ix,vk,vi,vt⟩,ks⟩:=e
  rw[chainGo]at hR
  have HRr:=hid hR
  have HPs:=hid hps
  have HBe:=hid hbe
  have HXe:=hid hxe
  have HBx:=hid hbx
  have HBr:=hid hbr
  have HSy:=hid hsy
  have HCh:=hid hch
  have HI:=hid (index_sym hps hL ops n0 gs (hbx.cell_some rfl) hsy (by omega) hsP hl)
  have HM:Hid (posOf P wr=L.length-st.r.length):=hps.posOf
  have hle0:=hps.le
  have hne0:=hps.ne
  clear hR hps hbe hxe hbx hbr hsy hch
  go_wp2_with fail
  refine HI.out.mono ?_
  rintro _ w2 ⟨v,rfl,h1,h2,i,rfl,hres⟩
  have HBe2:Hid (Blk w2 ge 37 (eC op tb nm ix vk vi vt A1 k1 c1)):=h2.blk HBe.out (by have:=HGe.out;omega)
  have HXe2:Hid (ExS (fun q=>n0≤q∧q≠ge∧q≠n0+1) w2 (.mk ⟨op,tb,nm,ix,vk,vi,vt⟩ ks) A1 k1 c1):=Stb.grown HXe.out h2 (fun q hq e=>by have:=Option.some.inj e;omega)
  have HBx2:=hid (h2.blk HBx.out (by omega))
  have HBr2:=hid (h2.blk HBr.out (by omega))
  have HSy2:=hid (h2.blk HSy.out hsP)
  have HCh2:=hid (HCh.out.trans h2)
  have HPs2:=hid h1
  clear h1 h2 HI HBe HXe HBx HBr HSy HCh HPs
  rcases hres with ⟨hn1,hi⟩|⟨k,t,o,rfl,hk,ho⟩
  ·rw[hn1]at HRr
   rw[first_none _ _ hn1]at HPs2
   clear hn1
   obtain⟨b0,b1,b2,b3,b4,b5,b6,b7,-⟩:=cls HBe2.out
   obtain⟨z0,z1,z2,z3,z4,z5,z6,z7,-⟩:=cls HBr2.out
   obtain⟨y0,y1,y2,y3,y4,y5,y6,y7,-⟩:=frz HBr2.out
   have hz:=sts_blk HBr2.out (eC op tb nm ix vk vi vt A1 k1 c1) rfl
   have HGr:=hid (sts_grown (n0+1) (eC op tb nm ix vk vi vt A1 k1 c1) w2 0)
   simp only[sts]at hz
   have HZ:=hid hz
   clear hz
   go_wp2_with fail
   obtain⟨q0,q1,q2,q3,q4,q5,q6,q7,-⟩:=cls HZ.out
   exact bodyPost_ret (v:= .agg #[.int .i64 op,.string tb,.string nm,.int .i64 ix,.int .i64 vk,.int .i64 vi,.string vt,.slice A1 k1 c1]) (by simp[results,Tryz.results77,go_sem,q0,q1,q2,q3,q4,q5,q6,q7]) rfl ⟨_,rfl,by rw[HRr.out];exact HPs2.out.grown HGr.out (fun q hq=>by have:=Option.some.inj hq;omega),HCh2.out.own HGr.out (fun q hq=>by have:=Option.some.inj hq;rw[HN0.out];omega),by rw[HRr.out,HN0.out];exact⟨A1,k1,c1,rfl,Stb.weak (Stb.grown HXe2.out HGr.out (fun q hq e=>by have:=Option.some.inj e;omega)) (fun q _ hq=>hq.1)⟩⟩
  ·rw[ho]at HRr
   have hst:=first_some ho
   obtain⟨st1,hst1⟩:∃x,(firstP ops st).2=x:=⟨_,rfl⟩
   rw[hst1]at hst HPs2
   have hRs:R=chainGo el ops n (opE o [.mk ⟨op,tb,nm,ix,vk,vi,vt⟩ ks,(el st1).1]) (el st1).2:=by
    have:=HRr.out
    rw[←hst1]
    exact this
   have HRs:=hid hRs
   clear HRr hst1 hRs
   have HOd:=hid (HF.out w2.drew st1 (HPs2.out.ext (Ext.refl w2).drew) (by omega))
   have HO64:=hid (hops _ (List.mem_of_getElem? hk))
   have HFw:=hid (hfw st1)
   obtain⟨_,e1⟩:=symCs_get ops k (t,o) hk
   have cs:=HSy2.out.cell_some e1
   have hkl:=(List.getElem?_eq_some_iff.1 hk).1
   have i0:(0:Int)≤(k:Int):=by omega
   have i1:(k:Int)<(ops.length:Int):=by omega
   have i2:¬((k:Int)<0):=by omega
   have hgz:ge<w2.heap.size:=HBe2.out.lt
   have HGz:=hid hgz
   obtain⟨st2,hst2⟩:∃x,(el st1).2=x:=⟨_,rfl⟩
   obtain⟨e2,he2⟩:∃x,(el st1).1=x:=⟨_,rfl⟩
   rw[hst2,he2]at HRs HOd
   rw[hst2]at HFw
   clear hst2 he2 e1 hk hgz
   obtain⟨⟨op2,tb2,nm2,ix2,vk2,vi2,vt2⟩,ks2⟩:=e2
   have HOe:Hid (Calls Tryz.prog F #[.pointer (some ⟨P,0,none⟩)] w2.drew fun e w3=> ∃(A2:Option Addr) (k2 c2:Nat),e= .returned (.agg #[.int .i64 op2,.string tb2,.string nm2,.int .i64 ix2,.int .i64 vk2,.int .i64 vi2,.string vt2,.slice A2 k2 c2])∧PsAt 68 P A c L w0 w3 st2∧Chg P w2 w3∧ExS (fun q=>n0≤q∧q≠ge∧q≠n0+1) w3 (.mk ⟨op2,tb2,nm2,ix2,vk2,vi2,vt2⟩ ks2) A2 k2 c2):=
    HOd.out.mono fun e w3 ⟨v,he,h5,h6,A2,k2,c2,hv,h7⟩=>⟨A2,k2,c2,by rw[he,hv];rfl,h5,(Chg.of (Ext.refl w2).drew).trans h6,h7.weak fun q _ hn=>by
     have:=HGe.out
     have:=HGz.out
     have hn:w2.heap.size≤q:=hn
     exact⟨by omega,by omega,by omega⟩⟩
   clear HOd
   obtain⟨b0,b1,b2,b3,b4,b5,b6,b7,-⟩:=cls HBe2.out
   go_upto_region 5 with fail
   go_region_law (first
    |(go_simp;go_at_call 105;(with_reducible refine(op_any _ _ _ _ _).mono ?_);rintro _ w5 ⟨rfl,hx5⟩;have hx6:Ext w3 w5:=((Ext.refl w3).alloc (.cells #[.int .i64 op,.string tb,.string nm,.int .i64 ix,.int .i64 vk,.int .i64 vi,.string vt,.slice A1 k1 c1,.int .i64 op2,.string tb2,.string nm2,.int .i64 ix2,.int .i64 vk2,.int .i64 vi2,.string vt2,.slice A2 k2 c2] 37)).trans hx5;have HBe5:=HBe3.ext hx6;obtain⟨z0,z1,z2,z3,z4,z5,z6,z7,-⟩:=cls HBe5;obtain⟨y0,y1,y2,y3,y4,y5,y6,y7,-⟩:=frz HBe5)
    |(go_simp;(with_reducible refine HOe.out.mono ?_);rintro _ w3 ⟨A2,k2,c2,rfl,h5,h6,h7⟩;have HBe3:Blk w3 ge 37 (eC op tb nm ix vk vi vt A1 k1 c1):=h6.blk HBe2.out (by have:=HGe.out;omega);have cs3:=h6.keep cs hsP;have cs4:=((Ext.refl w3).alloc (.cells #[.int .i64 op,.string tb,.string nm,.int .i64 ix,.int .i64 vk,.int .i64 vi,.string vt,.slice A1 k1 c1,.int .i64 op2,.string tb2,.string nm2,.int .i64 ix2,.int .i64 vk2,.int .i64 vi2,.string vt2,.slice A2 k2 c2] 37)).keep cs3;obtain⟨d0,d1,d2,d3,d4,d5,d6,d7,-⟩:=cls HBe3))
   all_goals
    have hs3:=h6.size
    have hgz:=HGz.out
    have hge:=HGe.out
    have hS3:n0≤w3.heap.size∧w3.heap.size≠ge∧w3.heap.size≠n0+1:=⟨by omega,by omega,by omega⟩
    have hnew:ExS (fun q=>n0≤q∧q≠ge∧q≠n0+1) (w3.alloc (.cells #[.int .i64 op,.string tb,.string nm,.int .i64 ix,.int .i64 vk,.int .i64 vi,.string vt,.slice A1 k1 c1,.int .i64 op2,.string tb2,.string nm2,.int .i64 ix2,.int .i64 vk2,.int .i64 vi2,.string vt2,.slice A2 k2 c2] 37)) (opE o [.mk ⟨op,tb,nm,ix,vk,vi,vt⟩ ks,.mk ⟨op2,tb2,nm2,ix2,vk2,vi2,vt2⟩ ks2]) (some ⟨w3.heap.size,0,none⟩) 2 2:=
     exS_op2 (S:=fun q=>n0≤q∧q≠ge∧q≠n0+1) HO64.out hS3 (Stb.grown HXe2.out h6 (fun q hq e=>by have:=Option.some.inj e;omega)) h7
    have hgr:=sts_grown ge (eC o ⟨#[]⟩ ⟨#[]⟩ 0 0 0 ⟨#[]⟩ (some ⟨w3.heap.size,0,none⟩) 2 2) w5 0
    have HXn:=hid (Stb.grown (Stb.ext hnew hx5) hgr (fun q hq e=>by have:=Option.some.inj e;omega))
    have HBn:=hid (sts_blk HBe5 (eC o ⟨#[]⟩ ⟨#[]⟩ 0 0 0 ⟨#[]⟩ (some ⟨w3.heap.size,0,none⟩) 2 2) rfl)
    have HPn:=hid ((h5.ext hx6).grown hgr (fun q hq=>by have:=Option.some.inj hq;omega))
    have HBxn:=hid (((h6.blk HBx2.out (by omega)).ext hx6).grown hgr (fun e=>by have:=Option.some.inj e;omega))
    have HBrn:=hid (((h6.blk HBr2.out (by omega)).ext hx6).grown hgr (fun e=>by have:=Option.some.inj e;omega))
    have HSyn:=hid (((h6.blk HSy2.out hsP).ext hx6).grown hgr (fun e=>by have:=Option.some.inj e;omega))
    have HChn:=hid (((HCh2.out.trans h6).ext hx6).own hgr (fun q hq=>by have:=Option.some.inj hq;rw[HN0.out];omega))
    simp only[sts]at HXn HBn HPn HBxn HBrn HSyn HChn
    have hpl:=HPn.out.le
    clear h5 h6 h7 hx5 hx6 HBe3 HBe5 hnew hgr cs cs3 cs4 b0 b1 b2 b3 b4 b5 b6 b7 d0 d1 d2 d3 d4 d5 d6 d7 z0 z1 z2 z3 z4 z5 z6 z7 y0 y1 y2 y3 y4 y5 y6 y7
    go_wp2_with fail
    exact⟨⟨n,st2,_,some ⟨w3.heap.size,0,none⟩,2,2,by have:=HFw.out;omega,by have:=HFw.out;omega,HRs.out,HPn.out,HBn.out,HXn.out,HBxn.out,HBrn.out,HSyn.out,HChn.out⟩,by rw[HPn.out.posOf,HM.out];have:=HFw.out;have:=hL.len;have:=HPs2.out.le;omega⟩
end
end
section
open Lx (Tk)
theorem readsN (w:World) (cs:List Value) (e:TypeId) (k:Nat) (hl:cs.length=k):Reads (w.alloc (.cells cs.toArray e)) (w.heap.size+1) k (some ⟨w.heap.size,0,none⟩) 1 cs:=
 ⟨by simp[hl],fun _=>⟨_,rfl,Nat.lt_succ_self _,fun j u hu=>by
  have hadd:(⟨w.heap.size,0,none⟩:Addr).add j=⟨w.heap.size,0+j,none⟩:=by unfold Addr.add;split<;>simp_all
  rw[hadd,Nat.zero_add]
  exact(Blk.of_new w e cs).cell_some hu⟩⟩
theorem l_info {P:Program} {t:TypeId} {z:Value} {s b:Nat} (h:(P.info? t).map (fun i=> (i.zero,i.size,i.bytes))=some (some z,s,b)):∃i,P.info? t=some i∧i.zero=some z∧i.size=s∧i.bytes=b:=by
 cases hi:P.info? t with
 |none=>rw[hi]at h;cases h
 |some i=>
  rw[hi]at h
  simp only[Option.map_some,Option.some.injEq,Prod.mk.injEq]at h
  exact⟨i,rfl,h.1,h.2.1,h.2.2⟩
theorem infoL_ex:(Tryz.prog.info? 37).map (fun i=> (i.zero,i.size,i.bytes))=some (some (.agg #[.int .i64 0,.string ⟨#[]⟩,.string ⟨#[]⟩,.int .i64 0,.int .i64 0,.int .i64 0,.string ⟨#[]⟩,.slice none 0 0]),8,104):=by kernel_rfl
def Elex (n:Nat) (W:World) (a:Ex) (v:Value):Prop:=ExG n W a v
def Phiex (a:Ex) (cs:List Value) (w:World):Prop:=∃B k c,cs=a.d.cells B k c∧ExV w a B k c
section
variable {P c:Nat} {A:Option Addr} {L:List Tk} {w0 w:World} {s:Ps}
theorem list_ex (F:FuncId) (hE:EntF F) (el:M (Ex)) (hfw:Fwd el) (hp:PsAt 68 P A c L w0 w s) (hL:TkL L)
  (hF:∀(W:World) (st:Ps),PsAt 68 P A c L w0 W st→st.r.length≤s.r.length→Calls Tryz.prog F #[.pointer (some ⟨P,0,none⟩)] W (Ran 68 P A c L w0 W (el st).2 fun v W'=>Elex W.heap.size W' (el st).1 v)):
  Calls Tryz.prog 101 #[.pointer (some ⟨P,0,none⟩),.func (Fn.func F) #[.pointer (some ⟨P,0,none⟩)] #[]] w
   (Ran 68 P A c L w0 w (listP el s).2 fun v w'=> ∃B k,v= .slice B (listP el s).1.length k∧Stb (w.heap.size≤·) w' (fun w2=>Lst Phiex 8 w2 B (listP el s).1)):=by
 unfold EntF at hE
 obtain⟨ie,hie,hi0,hi1,hi2⟩:=l_info infoL_ex
 have HF:=hid hF
 have HS:=hid hp
 have hpl:=hp.lt
 have hple:=hp.le
 have hLl:=hL.len
 have HRes:Hid (listP el s=listGo el (s.r.length+1) [(el s).1] (el s).2):=rfl
 obtain⟨R,hR⟩:∃R,listP el s=R:=⟨_,rfl⟩
 rw[hR]at HRes ⊢
 clear hR hF hp
 go_enter Tryz.func101,Tryz.ntmps101
 go_wp2_with fail
 refine(HF.out w s HS.out (Nat.le_refl _)).mono ?_
 rintro _ w1 ⟨v,rfl,h1,h2,A1,k1,c1,rfl,h3⟩
 have hfl:=hfw s
 obtain⟨st1,hst1⟩:∃x,(el s).2=x:=⟨_,rfl⟩
 rw[hst1]at HRes h1 hfl
 clear hst1
 obtain⟨e1,he1⟩:∃x,(el s).1=x:=⟨_,rfl⟩
 rw[he1]at h3 ⊢
 (try rw[he1]at HRes)
 clear he1
 obtain⟨⟨op,tb,nm,ix,vk,vi,vt⟩,ks⟩:=e1
 unfold Nd.val
 simp only[Ex.d]
 have hsz1:=h2.size
 have HRow:Hid (RowS Phiex 37 8 w.heap.size (w1.alloc (.cells #[.int .i64 op,.string tb,.string nm,.int .i64 ix,.int .i64 vk,.int .i64 vi,.string vt,.slice A1 k1 c1] 37)) (.slice (some ⟨w1.heap.size,0,none⟩) 1 1) [(.mk ⟨op,tb,nm,ix,vk,vi,vt⟩ ks)] [(eC op tb nm ix vk vi vt A1 k1 c1)]):=RowS.start (eC op tb nm ix vk vi vt A1 k1 c1) rfl hsz1 (Stb.imp h3 fun w2 h=>⟨A1,k1,c1,rfl,h⟩)
 have hx:=(Ext.refl w1).alloc (.cells #[.int .i64 op,.string tb,.string nm,.int .i64 ix,.int .i64 vk,.int .i64 vi,.string vt,.slice A1 k1 c1] 37)
 have HS1:=hid (h1.ext hx)
 have HC1:=hid (h2.ext hx)
 clear h1 h2 hx hsz1 HS
 go_upto_region 2 with fail
 generalize w1.alloc (.cells #[.int .i64 op,.string tb,.string nm,.int .i64 ix,.int .i64 vk,.int .i64 vi,.string vt,.slice A1 k1 c1] 37)=w2 at*
 go_loopw [5,10] (fun vv _ wr=> ∃(m:Nat) (st:Ps) (l:List (Ex)) (css:List (List Value)),st.r.length<m∧l.length+st.r.length≤s.r.length+1∧R=listGo el m l st∧PsAt 68 P A c L w0 wr st∧RowS Phiex 37 8 w.heap.size wr vv l css∧Chg P w wr) (fun _ _ wr=>20001-posOf P wr)
 case atStart=>exact⟨_,st1,_,_,by omega,by simp;omega,HRes.out,HS1.out,HRow.out,HC1.out⟩
 case round=>
  obtain⟨m,st,l,css,hm,hll,hI,hps,hrow,hch⟩:=hrel
  clear HRes HS1 HRow HC1
  obtain⟨m,rfl⟩:∃x,m=x+1:=⟨m-1,by omega⟩
  rw[listGo]at hI
  have HI:=hid hI
  have HRw:=hid hrow
  have HC:=hid hch
  have HMs:Hid (posOf P wr=L.length-st.r.length):=hps.posOf
  have hle0:=hps.le
  have hne0:=hps.ne
  have HA:=hid (accept_any hps hL yCm)
  clear hI hrow hch hps
  go_wp2_with fail
  refine HA.out.mono ?_
  rintro _ w3 ⟨v,rfl,h1,h2,rfl⟩
  have HC3:=hid (HC.out.trans h2)
  have HRw3:=hid (HRw.out.chg h2 hpl)
  cases hcm:isS yCm st
  ·have e:(accP yCm st).2=st:=by simp[accP,hcm]
   rw[e]at h1
   rw[hcm]at HI
   have HS3:=hid h1
   clear h1 h2 e HRw HC HA
   obtain⟨B,k,hv,hst⟩:=HRw3.out.fin
   skip
   subst hv
   have hR2:R=(l,st):=HI.out
   have HR2:=hid hR2
   have HSt:=hid hst
   clear hR2 hst HI
   go_wp2_with fail
   go_ret
   exact⟨_,rfl,by rw[HR2.out];exact HS3.out,HC3.out,by rw[HR2.out];exact⟨B,k,rfl,HSt.out⟩⟩
  ·have e:(accP yCm st).2=st.next:=by simp[accP,hcm]
   rw[e]at h1
   rw[hcm]at HI
   have HS3:=hid h1
   have hln:=isS_len hcm
   clear h1 h2 e HRw HC HA
   go_wp2_with fail
   refine(HF.out w3 st.next HS3.out (by omega)).mono ?_
   rintro _ w4 ⟨v,rfl,h1,h2,A1,k1,c1,rfl,h3⟩
   have hfl2:=hfw st.next
   have hI2:R=listGo el m (l++ [(el st.next).1]) (el st.next).2:=HI.out
   obtain⟨st2,hst2⟩:∃x,(el st.next).2=x:=⟨_,rfl⟩
   rw[hst2]at hI2 h1 hfl2
   clear hst2 HI
   obtain⟨e1,he1⟩:∃x,(el st.next).1=x:=⟨_,rfl⟩
   rw[he1]at h3 hI2 ⊢
   (try rw[he1]at HRes)
   clear he1
   obtain⟨⟨op,tb,nm,ix,vk,vi,vt⟩,ks⟩:=e1
   unfold Nd.val
   simp only[Ex.d]
   have HI:=hid hI2
   have HC4:=hid (HC3.out.trans h2)
   have hx:=(Ext.refl w4).alloc (.cells #[.int .i64 op,.string tb,.string nm,.int .i64 ix,.int .i64 vk,.int .i64 vi,.string vt,.slice A1 k1 c1] 37)
   have HRw4:=hid ((HRw3.out.chg h2 hpl).ext hx)
   have HS4:=hid (h1.ext hx)
   have hnew:Stb (fun q=>w.heap.size≤q∧u5.ownBlock≠some q) (w4.alloc (.cells #[.int .i64 op,.string tb,.string nm,.int .i64 ix,.int .i64 vk,.int .i64 vi,.string vt,.slice A1 k1 c1] 37)) (Phiex (.mk ⟨op,tb,nm,ix,vk,vi,vt⟩ ks) (eC op tb nm ix vk vi vt A1 k1 c1)):=Stb.ext (Stb.weak (Stb.imp h3 fun w2 h=>⟨A1,k1,c1,rfl,h⟩) fun q hq hn=>⟨Nat.le_trans HC3.out.size hn,fun e=>by
    have:=(HRw3.out.own.lt q e).2
    have hn:w3.heap.size≤q:=hn
    omega⟩) hx
   have HNew:=hid hnew
   have hszw:w.heap.size≤(w4.alloc (.cells #[.int .i64 op,.string tb,.string nm,.int .i64 ix,.int .i64 vk,.int .i64 vi,.string vt,.slice A1 k1 c1] 37)).heap.size:=Nat.le_trans HC4.out.size hx.size
   have HSzw:=hid hszw
   clear h1 h2 hx hnew hszw hI2 HRw3 HS3 HC3
   go_wp2_with (at_builtin;refine wpList_append_any _ rfl (.tmp 11) (.tmp 14) 27 rfl w.heap.size 37 ie _ 8 104 Tryz.underlying27 hie hi0 hi1 hi2 rfl (by decide) _ l.length _ rfl HRw4.out.own _ _ 1 1 (eC op tb nm ix vk vi vt A1 k1 c1) rfl (readsN w4 (eC op tb nm ix vk vi vt A1 k1 c1) 37 8 rfl) (by simp[Value.oneCell']) (by unfold maxLen;omega) (by omega) HSzw.out ?_;intro v7 w7 hown7 hgr7 hblk7)
   have hpush:=HRw4.out.push rfl hown7 hgr7 hblk7 HNew.out
   have hg7:∀q,u5.ownBlock=some q→w.heap.size≤q:=fun q hq=> (HRw4.out.own.lt q hq).1
   have HP7:=hid (HS4.out.grown hgr7 (fun q hq=>Nat.lt_of_lt_of_le hpl (hg7 q hq)))
   have HC7:=hid ((HC4.out.alloc _).own hgr7 hg7)
   exact⟨⟨m,st2,_,_,by omega,by rw[List.length_append,List.length_singleton];omega,HI.out,HP7.out,hpush,HC7.out⟩,by rw[HP7.out.posOf,HMs.out];omega⟩
end
section
variable {P c:Nat} {A:Option Addr} {L:List Tk} {w0 w:World} {s:Ps}
end
def Phirow (a:List Ex) (cs:List Value) (w:World):Prop:=∃B k,cs= [.slice B a.length k]∧a.length≤9223372036854775807∧KidsAt w B a
section
variable {P c:Nat} {A:Option Addr} {L:List Tk} {w0 w:World} {s:Ps}
end
def Phiasg (a:Asg) (cs:List Value) (w:World):Prop:=∃B k c,cs= [.string a.cl,.int .i64 a.ix,.int .i64 a.ex.d.op,.string a.ex.d.tb,.string a.ex.d.nm,.int .i64 a.ex.d.ix,.int .i64 a.ex.d.vk,.int .i64 a.ex.d.vi,.string a.ex.d.vt,.slice B k c]∧(a.cl.size≤9223372036854775807∧I64 a.ix)∧ExV w a.ex B k c
section
variable {P c:Nat} {A:Option Addr} {L:List Tk} {w0 w:World} {s:Ps}
end
theorem infoL_itm:(Tryz.prog.info? 84).map (fun i=> (i.zero,i.size,i.bytes))=some (some (.agg #[.int .i64 0,.int .i64 0,.string ⟨#[]⟩,.string ⟨#[]⟩,.int .i64 0,.int .i64 0,.int .i64 0,.string ⟨#[]⟩,.slice none 0 0]),9,112):=by kernel_rfl
def Elitm (n:Nat) (W:World) (a:Itm) (v:Value):Prop:=∃B k c,v= .agg #[.int .i64 a.ag,.int .i64 a.ex.d.op,.string a.ex.d.tb,.string a.ex.d.nm,.int .i64 a.ex.d.ix,.int .i64 a.ex.d.vk,.int .i64 a.ex.d.vi,.string a.ex.d.vt,.slice B k c]∧I64 a.ag∧Stb (n≤·) W (fun w2=>ExV w2 a.ex B k c)
def Phiitm (a:Itm) (cs:List Value) (w:World):Prop:=∃B k c,cs= [.int .i64 a.ag,.int .i64 a.ex.d.op,.string a.ex.d.tb,.string a.ex.d.nm,.int .i64 a.ex.d.ix,.int .i64 a.ex.d.vk,.int .i64 a.ex.d.vi,.string a.ex.d.vt,.slice B k c]∧I64 a.ag∧ExV w a.ex B k c
section
variable {P c:Nat} {A:Option Addr} {L:List Tk} {w0 w:World} {s:Ps}
theorem list_itm (F:FuncId) (hE:EntF F) (el:M (Itm)) (hfw:Fwd el) (hp:PsAt 68 P A c L w0 w s) (hL:TkL L)
  (hF:∀(W:World) (st:Ps),PsAt 68 P A c L w0 W st→st.r.length≤s.r.length→Calls Tryz.prog F #[.pointer (some ⟨P,0,none⟩)] W (Ran 68 P A c L w0 W (el st).2 fun v W'=>Elitm W.heap.size W' (el st).1 v)):
  Calls Tryz.prog 102 #[.pointer (some ⟨P,0,none⟩),.func (Fn.func F) #[.pointer (some ⟨P,0,none⟩)] #[]] w
   (Ran 68 P A c L w0 w (listP el s).2 fun v w'=> ∃B k,v= .slice B (listP el s).1.length k∧Stb (w.heap.size≤·) w' (fun w2=>Lst Phiitm 9 w2 B (listP el s).1)):=by
 unfold EntF at hE
 obtain⟨ie,hie,hi0,hi1,hi2⟩:=l_info infoL_itm
 have HF:=hid hF
 have HS:=hid hp
 have hpl:=hp.lt
 have hple:=hp.le
 have hLl:=hL.len
 have HRes:Hid (listP el s=listGo el (s.r.length+1) [(el s).1] (el s).2):=rfl
 obtain⟨R,hR⟩:∃R,listP el s=R:=⟨_,rfl⟩
 rw[hR]at HRes ⊢
 clear hR hF hp
 go_enter Tryz.func102,Tryz.ntmps102
 go_wp2_with fail
 refine(HF.out w s HS.out (Nat.le_refl _)).mono ?_
 rintro _ w1 ⟨v,rfl,h1,h2,A1,k1,c1,rfl,h3,h4⟩
 have hfl:=hfw s
 obtain⟨st1,hst1⟩:∃x,(el s).2=x:=⟨_,rfl⟩
 rw[hst1]at HRes h1 hfl
 clear hst1
 obtain⟨e1,he1⟩:∃x,(el s).1=x:=⟨_,rfl⟩
 rw[he1]at h3 h4 ⊢
 (try rw[he1]at HRes)
 clear he1
 obtain⟨ag,⟨op,tb,nm,ix,vk,vi,vt⟩,ks⟩:=e1
 simp only[Ex.d]
 have hsz1:=h2.size
 have HRow:Hid (RowS Phiitm 84 9 w.heap.size (w1.alloc (.cells #[.int .i64 ag,.int .i64 op,.string tb,.string nm,.int .i64 ix,.int .i64 vk,.int .i64 vi,.string vt,.slice A1 k1 c1] 84)) (.slice (some ⟨w1.heap.size,0,none⟩) 1 1) [⟨ag,.mk ⟨op,tb,nm,ix,vk,vi,vt⟩ ks⟩] [[.int .i64 ag,.int .i64 op,.string tb,.string nm,.int .i64 ix,.int .i64 vk,.int .i64 vi,.string vt,.slice A1 k1 c1]]):=RowS.start [.int .i64 ag,.int .i64 op,.string tb,.string nm,.int .i64 ix,.int .i64 vk,.int .i64 vi,.string vt,.slice A1 k1 c1] rfl hsz1 (Stb.imp h4 fun w2 h=>⟨A1,k1,c1,rfl,h3,h⟩)
 have hx:=(Ext.refl w1).alloc (.cells #[.int .i64 ag,.int .i64 op,.string tb,.string nm,.int .i64 ix,.int .i64 vk,.int .i64 vi,.string vt,.slice A1 k1 c1] 84)
 have HS1:=hid (h1.ext hx)
 have HC1:=hid (h2.ext hx)
 clear h1 h2 hx hsz1 HS
 go_upto_region 2 with fail
 generalize w1.alloc (.cells #[.int .i64 ag,.int .i64 op,.string tb,.string nm,.int .i64 ix,.int .i64 vk,.int .i64 vi,.string vt,.slice A1 k1 c1] 84)=w2 at*
 go_loopw [5,10] (fun vv _ wr=> ∃(m:Nat) (st:Ps) (l:List (Itm)) (css:List (List Value)),st.r.length<m∧l.length+st.r.length≤s.r.length+1∧R=listGo el m l st∧PsAt 68 P A c L w0 wr st∧RowS Phiitm 84 9 w.heap.size wr vv l css∧Chg P w wr) (fun _ _ wr=>20001-posOf P wr)
 case atStart=>exact⟨_,st1,_,_,by omega,by simp;omega,HRes.out,HS1.out,HRow.out,HC1.out⟩
 case round=>
  obtain⟨m,st,l,css,hm,hll,hI,hps,hrow,hch⟩:=hrel
  clear HRes HS1 HRow HC1
  obtain⟨m,rfl⟩:∃x,m=x+1:=⟨m-1,by omega⟩
  rw[listGo]at hI
  have HI:=hid hI
  have HRw:=hid hrow
  have HC:=hid hch
  have HMs:Hid (posOf P wr=L.length-st.r.length):=hps.posOf
  have hle0:=hps.le
  have hne0:=hps.ne
  have HA:=hid (accept_any hps hL yCm)
  clear hI hrow hch hps
  go_wp2_with fail
  refine HA.out.mono ?_
  rintro _ w3 ⟨v,rfl,h1,h2,rfl⟩
  have HC3:=hid (HC.out.trans h2)
  have HRw3:=hid (HRw.out.chg h2 hpl)
  cases hcm:isS yCm st
  ·have e:(accP yCm st).2=st:=by simp[accP,hcm]
   rw[e]at h1
   rw[hcm]at HI
   have HS3:=hid h1
   clear h1 h2 e HRw HC HA
   obtain⟨B,k,hv,hst⟩:=HRw3.out.fin
   skip
   subst hv
   have hR2:R=(l,st):=HI.out
   have HR2:=hid hR2
   have HSt:=hid hst
   clear hR2 hst HI
   go_wp2_with fail
   go_ret
   exact⟨_,rfl,by rw[HR2.out];exact HS3.out,HC3.out,by rw[HR2.out];exact⟨B,k,rfl,HSt.out⟩⟩
  ·have e:(accP yCm st).2=st.next:=by simp[accP,hcm]
   rw[e]at h1
   rw[hcm]at HI
   have HS3:=hid h1
   have hln:=isS_len hcm
   clear h1 h2 e HRw HC HA
   go_wp2_with fail
   refine(HF.out w3 st.next HS3.out (by omega)).mono ?_
   rintro _ w4 ⟨v,rfl,h1,h2,A1,k1,c1,rfl,h3,h4⟩
   have hfl2:=hfw st.next
   have hI2:R=listGo el m (l++ [(el st.next).1]) (el st.next).2:=HI.out
   obtain⟨st2,hst2⟩:∃x,(el st.next).2=x:=⟨_,rfl⟩
   rw[hst2]at hI2 h1 hfl2
   clear hst2 HI
   obtain⟨e1,he1⟩:∃x,(el st.next).1=x:=⟨_,rfl⟩
   rw[he1]at h3 h4 hI2 ⊢
   (try rw[he1]at HRes)
   clear he1
   obtain⟨ag,⟨op,tb,nm,ix,vk,vi,vt⟩,ks⟩:=e1
   simp only[Ex.d]
   have HI:=hid hI2
   have HC4:=hid (HC3.out.trans h2)
   have hx:=(Ext.refl w4).alloc (.cells #[.int .i64 ag,.int .i64 op,.string tb,.string nm,.int .i64 ix,.int .i64 vk,.int .i64 vi,.string vt,.slice A1 k1 c1] 84)
   have HRw4:=hid ((HRw3.out.chg h2 hpl).ext hx)
   have HS4:=hid (h1.ext hx)
   have hnew:Stb (fun q=>w.heap.size≤q∧u5.ownBlock≠some q) (w4.alloc (.cells #[.int .i64 ag,.int .i64 op,.string tb,.string nm,.int .i64 ix,.int .i64 vk,.int .i64 vi,.string vt,.slice A1 k1 c1] 84)) (Phiitm ⟨ag,.mk ⟨op,tb,nm,ix,vk,vi,vt⟩ ks⟩ [.int .i64 ag,.int .i64 op,.string tb,.string nm,.int .i64 ix,.int .i64 vk,.int .i64 vi,.string vt,.slice A1 k1 c1]):=Stb.ext (Stb.weak (Stb.imp h4 fun w2 h=>⟨A1,k1,c1,rfl,h3,h⟩) fun q hq hn=>⟨Nat.le_trans HC3.out.size hn,fun e=>by
    have:=(HRw3.out.own.lt q e).2
    have hn:w3.heap.size≤q:=hn
    omega⟩) hx
   have HNew:=hid hnew
   have hszw:w.heap.size≤(w4.alloc (.cells #[.int .i64 ag,.int .i64 op,.string tb,.string nm,.int .i64 ix,.int .i64 vk,.int .i64 vi,.string vt,.slice A1 k1 c1] 84)).heap.size:=Nat.le_trans HC4.out.size hx.size
   have HSzw:=hid hszw
   clear h1 h2 hx hnew hszw hI2 HRw3 HS3 HC3
   go_wp2_with (at_builtin;refine wpList_append_any _ rfl (.tmp 11) (.tmp 14) 32 rfl w.heap.size 84 ie _ 9 112 Tryz.underlying32 hie hi0 hi1 hi2 rfl (by decide) _ l.length _ rfl HRw4.out.own _ _ 1 1 [.int .i64 ag,.int .i64 op,.string tb,.string nm,.int .i64 ix,.int .i64 vk,.int .i64 vi,.string vt,.slice A1 k1 c1] rfl (readsN w4 [.int .i64 ag,.int .i64 op,.string tb,.string nm,.int .i64 ix,.int .i64 vk,.int .i64 vi,.string vt,.slice A1 k1 c1] 84 9 rfl) (by simp[Value.oneCell']) (by unfold maxLen;omega) (by omega) HSzw.out ?_;intro v7 w7 hown7 hgr7 hblk7)
   have hpush:=HRw4.out.push rfl hown7 hgr7 hblk7 HNew.out
   have hg7:∀q,u5.ownBlock=some q→w.heap.size≤q:=fun q hq=> (HRw4.out.own.lt q hq).1
   have HP7:=hid (HS4.out.grown hgr7 (fun q hq=>Nat.lt_of_lt_of_le hpl (hg7 q hq)))
   have HC7:=hid ((HC4.out.alloc _).own hgr7 hg7)
   exact⟨⟨m,st2,_,_,by omega,by rw[List.length_append,List.length_singleton];omega,HI.out,HP7.out,hpush,HC7.out⟩,by rw[HP7.out.posOf,HMs.out];omega⟩
end
theorem infoL_ord:(Tryz.prog.info? 88).map (fun i=> (i.zero,i.size,i.bytes))=some (some (.agg #[.int .i64 0,.bool false]),2,16):=by kernel_rfl
def Elord (n:Nat) (W:World) (a:Ord') (v:Value):Prop:=v= .agg #[.int .i64 a.it,.bool a.ds]∧I64 a.it
def Phiord (a:Ord') (cs:List Value) (w:World):Prop:=cs= [.int .i64 a.it,.bool a.ds]∧I64 a.it
section
variable {P c:Nat} {A:Option Addr} {L:List Tk} {w0 w:World} {s:Ps}
theorem list_ord (F:FuncId) (hE:EntF F) (el:M (Ord')) (hfw:Fwd el) (hp:PsAt 68 P A c L w0 w s) (hL:TkL L)
  (hF:∀(W:World) (st:Ps),PsAt 68 P A c L w0 W st→st.r.length≤s.r.length→Calls Tryz.prog F #[.pointer (some ⟨P,0,none⟩)] W (Ran 68 P A c L w0 W (el st).2 fun v W'=>Elord W.heap.size W' (el st).1 v)):
  Calls Tryz.prog 107 #[.pointer (some ⟨P,0,none⟩),.func (Fn.func F) #[.pointer (some ⟨P,0,none⟩)] #[]] w
   (Ran 68 P A c L w0 w (listP el s).2 fun v w'=> ∃B k,v= .slice B (listP el s).1.length k∧Stb (w.heap.size≤·) w' (fun w2=>Lst Phiord 2 w2 B (listP el s).1)):=by
 unfold EntF at hE
 obtain⟨ie,hie,hi0,hi1,hi2⟩:=l_info infoL_ord
 have HF:=hid hF
 have HS:=hid hp
 have hpl:=hp.lt
 have hple:=hp.le
 have hLl:=hL.len
 have HRes:Hid (listP el s=listGo el (s.r.length+1) [(el s).1] (el s).2):=rfl
 obtain⟨R,hR⟩:∃R,listP el s=R:=⟨_,rfl⟩
 rw[hR]at HRes ⊢
 clear hR hF hp
 go_enter Tryz.func107,Tryz.ntmps107
 go_wp2_with fail
 refine(HF.out w s HS.out (Nat.le_refl _)).mono ?_
 rintro _ w1 ⟨v,rfl,h1,h2,rfl,h3⟩
 have hfl:=hfw s
 obtain⟨st1,hst1⟩:∃x,(el s).2=x:=⟨_,rfl⟩
 rw[hst1]at HRes h1 hfl
 clear hst1
 obtain⟨e1,he1⟩:∃x,(el s).1=x:=⟨_,rfl⟩
 rw[he1]at h3 ⊢
 (try rw[he1]at HRes)
 clear he1
 obtain⟨it,ds⟩:=e1
 simp only[]
 have hsz1:=h2.size
 have HRow:Hid (RowS Phiord 88 2 w.heap.size (w1.alloc (.cells #[.int .i64 it,.bool ds] 88)) (.slice (some ⟨w1.heap.size,0,none⟩) 1 1) [⟨it,ds⟩] [[.int .i64 it,.bool ds]]):=RowS.start [.int .i64 it,.bool ds] rfl hsz1 (fun w2 _ _=>⟨rfl,h3⟩)
 have hx:=(Ext.refl w1).alloc (.cells #[.int .i64 it,.bool ds] 88)
 have HS1:=hid (h1.ext hx)
 have HC1:=hid (h2.ext hx)
 clear h1 h2 hx hsz1 HS
 go_upto_region 2 with fail
 generalize w1.alloc (.cells #[.int .i64 it,.bool ds] 88)=w2 at*
 go_loopw [5,10] (fun vv _ wr=> ∃(m:Nat) (st:Ps) (l:List (Ord')) (css:List (List Value)),st.r.length<m∧l.length+st.r.length≤s.r.length+1∧R=listGo el m l st∧PsAt 68 P A c L w0 wr st∧RowS Phiord 88 2 w.heap.size wr vv l css∧Chg P w wr) (fun _ _ wr=>20001-posOf P wr)
 case atStart=>exact⟨_,st1,_,_,by omega,by simp;omega,HRes.out,HS1.out,HRow.out,HC1.out⟩
 case round=>
  obtain⟨m,st,l,css,hm,hll,hI,hps,hrow,hch⟩:=hrel
  clear HRes HS1 HRow HC1
  obtain⟨m,rfl⟩:∃x,m=x+1:=⟨m-1,by omega⟩
  rw[listGo]at hI
  have HI:=hid hI
  have HRw:=hid hrow
  have HC:=hid hch
  have HMs:Hid (posOf P wr=L.length-st.r.length):=hps.posOf
  have hle0:=hps.le
  have hne0:=hps.ne
  have HA:=hid (accept_any hps hL yCm)
  clear hI hrow hch hps
  go_wp2_with fail
  refine HA.out.mono ?_
  rintro _ w3 ⟨v,rfl,h1,h2,rfl⟩
  have HC3:=hid (HC.out.trans h2)
  have HRw3:=hid (HRw.out.chg h2 hpl)
  cases hcm:isS yCm st
  ·have e:(accP yCm st).2=st:=by simp[accP,hcm]
   rw[e]at h1
   rw[hcm]at HI
   have HS3:=hid h1
   clear h1 h2 e HRw HC HA
   obtain⟨B,k,hv,hst⟩:=HRw3.out.fin
   skip
   subst hv
   have hR2:R=(l,st):=HI.out
   have HR2:=hid hR2
   have HSt:=hid hst
   clear hR2 hst HI
   go_wp2_with fail
   go_ret
   exact⟨_,rfl,by rw[HR2.out];exact HS3.out,HC3.out,by rw[HR2.out];exact⟨B,k,rfl,HSt.out⟩⟩
  ·have e:(accP yCm st).2=st.next:=by simp[accP,hcm]
   rw[e]at h1
   rw[hcm]at HI
   have HS3:=hid h1
   have hln:=isS_len hcm
   clear h1 h2 e HRw HC HA
   go_wp2_with fail
   refine(HF.out w3 st.next HS3.out (by omega)).mono ?_
   rintro _ w4 ⟨v,rfl,h1,h2,rfl,h3⟩
   have hfl2:=hfw st.next
   have hI2:R=listGo el m (l++ [(el st.next).1]) (el st.next).2:=HI.out
   obtain⟨st2,hst2⟩:∃x,(el st.next).2=x:=⟨_,rfl⟩
   rw[hst2]at hI2 h1 hfl2
   clear hst2 HI
   obtain⟨e1,he1⟩:∃x,(el st.next).1=x:=⟨_,rfl⟩
   rw[he1]at h3 hI2 ⊢
   (try rw[he1]at HRes)
   clear he1
   obtain⟨it,ds⟩:=e1
   simp only[]
   have HI:=hid hI2
   have HC4:=hid (HC3.out.trans h2)
   have hx:=(Ext.refl w4).alloc (.cells #[.int .i64 it,.bool ds] 88)
   have HRw4:=hid ((HRw3.out.chg h2 hpl).ext hx)
   have HS4:=hid (h1.ext hx)
   have hnew:Stb (fun q=>w.heap.size≤q∧u5.ownBlock≠some q) (w4.alloc (.cells #[.int .i64 it,.bool ds] 88)) (Phiord ⟨it,ds⟩ [.int .i64 it,.bool ds]):=Stb.ext (Stb.weak (fun w2 _ _=>⟨rfl,h3⟩) fun q hq hn=>⟨Nat.le_trans HC3.out.size hn,fun e=>by
    have:=(HRw3.out.own.lt q e).2
    have hn:w3.heap.size≤q:=hn
    omega⟩) hx
   have HNew:=hid hnew
   have hszw:w.heap.size≤(w4.alloc (.cells #[.int .i64 it,.bool ds] 88)).heap.size:=Nat.le_trans HC4.out.size hx.size
   have HSzw:=hid hszw
   clear h1 h2 hx hnew hszw hI2 HRw3 HS3 HC3
   go_wp2_with (at_builtin;refine wpList_append_any _ rfl (.tmp 11) (.tmp 14) 38 rfl w.heap.size 88 ie _ 2 16 Tryz.underlying38 hie hi0 hi1 hi2 rfl (by decide) _ l.length _ rfl HRw4.out.own _ _ 1 1 [.int .i64 it,.bool ds] rfl (readsN w4 [.int .i64 it,.bool ds] 88 2 rfl) (by simp[Value.oneCell']) (by unfold maxLen;omega) (by omega) HSzw.out ?_;intro v7 w7 hown7 hgr7 hblk7)
   have hpush:=HRw4.out.push rfl hown7 hgr7 hblk7 HNew.out
   have hg7:∀q,u5.ownBlock=some q→w.heap.size≤q:=fun q hq=> (HRw4.out.own.lt q hq).1
   have HP7:=hid (HS4.out.grown hgr7 (fun q hq=>Nat.lt_of_lt_of_le hpl (hg7 q hq)))
   have HC7:=hid ((HC4.out.alloc _).own hgr7 hg7)
   exact⟨⟨m,st2,_,_,by omega,by rw[List.length_append,List.length_singleton];omega,HI.out,HP7.out,hpush,HC7.out⟩,by rw[HP7.out.posOf,HMs.out];omega⟩
end
end
section
open Lx (Tk)
def TFit (k:Nat) (x:List UInt8) (N:Nat):Prop:=k≤5∧k≠0∧x.length≤N+16∧(k=3→x≠[]∧(∀c∈x,48≤c.toNat∧c.toNat≤57)∧Lx.digVal x≤2147483648∧(Lx.digVal x=0↔x= [48]))
theorem num_fit (c:UInt8) (r:List UInt8) (hd:Lx.isDigit c=true) (k:Nat) (x:List UInt8) (n:Nat) (h:Lx.numL (c::r)= .tok k x n):TFit k x (c::r).length:=by
 unfold Lx.numL at h
 split at h
 ·cases h
 ·next h1=>
  split at h
  ·cases h
  ·next h2=>
   injection h with hk hx hn
   subst hk
   have hall:=Lx.span_all Lx.isDigit (c::r)
   rw[hx]at hall h2
   have hl:x.length≤(c::r).length:=by rw[←hx];simp[List.length_take];omega
   have hdig:∀c∈x,48≤c.toNat∧c.toNat≤57:=fun d hm=>by
    have:=hall d hm
    simpa[Lx.isDigit] using this
   have hs1:1≤Lx.spanN Lx.isDigit (c::r):=by rw[Lx.spanN,if_pos hd];omega
   have hne:x≠[]:=by
    rw[←hx]
    intro e
    have:=congrArg List.length e
    rw[List.length_take]at this
    simp at this
    omega
   refine⟨by omega,by omega,by omega,fun _=>⟨hne,hdig,by omega,?_⟩⟩
   constructor
   ·intro h0
    cases x with
    |nil=>exact absurd rfl hne
    |cons a y=>
     rw[Lx.dv_cons]at h0
     have ha:=hdig a (List.mem_cons_self ..)
     have h10:0<10^y.length:=Nat.pow_pos (by omega)
     have hz:(a.toNat-48)*10^y.length=0:=by omega
     have ha0:a.toNat-48=0:=by
      rcases Nat.mul_eq_zero.1 hz with h|h
      ·exact h
      ·omega
     have ha48:a=48:=by
      apply UInt8.toNat_inj.1
      show a.toNat=48
      omega
     subst ha48
     have hlen:((48:UInt8)::y).length=min (Lx.spanN Lx.isDigit (c::r)) (c::r).length:=by rw[←hx,List.length_take]
     have hhead:(c::r).head? =some 48:=by
      cases hsp:Lx.spanN Lx.isDigit (c::r)with
      |zero=>omega
      |succ m=>
       rw[hsp,List.take_succ_cons]at hx
       injection hx with hc _
       rw[hc];rfl
     have:¬1<Lx.spanN Lx.isDigit (c::r):=fun h=>h1 (.inl ⟨h,hhead⟩)
     cases y with
     |nil=>rfl
     |cons b z=>simp only[List.length_cons]at hlen;omega
   ·intro e
    rw[e];rfl
theorem tok_fit (c:UInt8) (r:List UInt8) (k:Nat) (x:List UInt8) (n:Nat) (h:Lx.tokL (c::r)= .tok k x n):TFit k x (c::r).length:=by
 rw[Lx.tokL]at h
 split at h
 ·unfold Lx.wordL at h
  split at h
  ·injection h with hk hx hn
   subst hk
   exact⟨by omega,by omega,by rw[←hx,List.length_map,List.length_take];omega,fun e=>by omega⟩
  ·split at h
   ·cases h
   ·injection h with hk hx hn
    subst hk
    exact⟨by omega,by omega,by rw[←hx,List.length_map,List.length_take];omega,fun e=>by omega⟩
 ·split at h
  ·next hd=>exact num_fit c r hd k x n h
  ·split at h
   ·unfold Lx.textL at h
    split at h
    ·cases h
    ·split at h
     ·cases h
     ·injection h with hk hx hn
      subst hk
      rw[←hx]
      exact⟨by omega,by omega,by omega,fun e=>by omega⟩
   ·unfold Lx.symL at h
    split at h
    ·cases h
    ·injection h with hk hx hn
     subst hk
     exact⟨by omega,by omega,by rw[←hx,List.length_take];omega,fun e=>by omega⟩
structure TkG (l:List UInt8) (p:Nat) (L:List Tk):Prop where
 len:1≤L.length∧L.length≤l.length+1
 last:∀(i:Nat) (a:Tk),L[i]? =some a→(a.kind=0↔i+1=L.length)
 fit:∀a∈L,(a.kind=0∧a.text= []∨TFit a.kind a.text l.length)∧a.pos≤p+l.length
theorem toks_fit:∀(f:Nat) (l:List UInt8) (p:Nat) (L:List Tk),Lx.toksF f l p= .ok L→TkG l p L
 |0,l,p,L,h=>by simp[Lx.toksF]at h
 |f+1,l,p,L,h=>by
  rw[Lx.toksF]at h
  have hsk:=Lx.skip_le false l
  cases hd:l.drop (Lx.skipN false l)with
  |nil=>
   rw[hd]at h
   injection h with h
   subst h
   refine⟨⟨Nat.le_refl _,by simp⟩,fun i a hi=>?_,fun a ha=>?_⟩
   ·cases i with
    |zero=>simp at hi;subst hi;simp
    |succ i=>simp at hi
   ·rw[List.mem_singleton.1 ha]
    exact⟨.inl ⟨rfl,rfl⟩,by show p+Lx.skipN false l≤_;omega⟩
  |cons c r=>
   rw[hd]at h
   have hlen:(c::r).length=l.length-Lx.skipN false l:=by rw[←hd,List.length_drop]
   cases ht:Lx.tokL (c::r)with
   |bad e=>simp only[ht]at h;cases h
   |tok k x n=>
    simp only[ht]at h
    have hb:=Lx.tok_bound c r k x n ht
    have hf:=tok_fit c r k x n ht
    cases hr:Lx.toksF f ((c::r).drop n) (p+Lx.skipN false l+n)with
    |bad a e=>rw[hr]at h;cases h
    |ok M=>
     rw[hr]at h
     have ih:=toks_fit f _ _ M hr
     have h2: [(⟨k,x,p+Lx.skipN false l⟩:Tk)]++M=L:=by injection h
     subst h2
     have hdl:((c::r).drop n).length=(c::r).length-n:=List.length_drop
     refine⟨⟨by simp,by have:=ih.len.2;simp only[List.length_append,List.length_singleton];omega⟩,fun i a hi=>?_,fun a ha=>?_⟩
     ·cases i with
      |zero=>
       simp at hi
       subst hi
       have:=ih.len.1
       simp only[List.length_append,List.length_singleton]
       exact⟨fun e=>absurd e hf.2.1,fun e=>by omega⟩
      |succ i=>
       have:=ih.last i a (by simpa using hi)
       rw[this]
       simp only[List.length_append,List.length_singleton]
       omega
     ·rcases List.mem_append.1 ha with ha|ha
      ·rw[List.mem_singleton.1 ha]
       refine⟨.inr ⟨hf.1,hf.2.1,?_,hf.2.2.2⟩,?_⟩
       ·have:=hf.2.2.1;show x.length≤_;omega
       ·show p+Lx.skipN false l≤_;omega
      ·have:=ih.fit a ha
       refine⟨?_,by omega⟩
       rcases this.1 with h9|h9
       ·exact .inl h9
       ·exact .inr ⟨h9.1,h9.2.1,by have:=h9.2.2.1;omega,h9.2.2.2⟩
theorem tkl_of {s:ByteArray} {L:List Tk} (h:Lx.tokAll s= .ok L):TkL L:=by
 unfold Lx.tokAll at h
 split at h
 ·cases h
 ·next hs=>
  have hg:=toks_fit _ _ _ L h
  have hl:s.data.toList.length=s.size:=Array.length_toList
  refine⟨by have:=hg.len.2;omega,hg.last,fun a ha=>?_,fun a ha=>?_,fun a ha=>?_,fun a ha hk=>?_⟩
  ·rcases(hg.fit a ha).1 with h9|h9
   ·omega
   ·exact h9.1
  ·rcases(hg.fit a ha).1 with h9|h9
   ·rw[h9.2];exact Nat.zero_le _
   ·have:=h9.2.2.1;omega
  ·have:=(hg.fit a ha).2;omega
  ·rcases(hg.fit a ha).1 with h9|h9
   ·omega
   ·obtain⟨h1,h2,h3,h4⟩:=h9.2.2.2 hk
    have e:(tkB a).data.toList=a.text:=by simp[tkB]
    refine⟨h1,h2,?_,?_⟩
    ·unfold digV;rw[e];omega
    ·unfold digV;rw[e,←h4];omega
end
section
open Lx (Tk)
theorem toks_err:∀(f:Nat) (l:List UInt8) (p a x:Nat),l.length<f→Lx.toksF f l p= .bad a x→x≠0
 |0,l,p,a,x,hl,_=>by omega
 |f+1,l,p,a,x,hl,h=>by
  rw[Lx.toksF]at h
  cases hd:l.drop (Lx.skipN false l)with
  |nil=>rw[hd]at h;cases h
  |cons c r=>
   rw[hd]at h
   have hlen:(c::r).length=l.length-Lx.skipN false l:=by rw[←hd,List.length_drop]
   cases ht:Lx.tokL (c::r)with
   |bad e=>
    simp only[ht]at h
    injection h with _ h
    have:=Lx.tok_bad c r e ht
    omega
   |tok k y n=>
    simp only[ht]at h
    have hb:=Lx.tok_bound c r k y n ht
    have hdl:((c::r).drop n).length=(c::r).length-n:=List.length_drop
    cases hr:Lx.toksF f ((c::r).drop n) (p+Lx.skipN false l+n)with
    |bad a2 e=>
     rw[hr]at h
     injection h with _ h
     subst h
     exact toks_err f _ _ _ _ (by omega) hr
    |ok M=>rw[hr]at h;cases h
theorem all_err {s:ByteArray} {a x:Nat} (h:Lx.tokAll s= .bad a x):x≠0:=by
 unfold Lx.tokAll at h
 split at h
 ·injection h with _ h;omega
 ·exact toks_err _ _ _ _ _ (Nat.lt_succ_self _) h
theorem begin_tok (s:ByteArray) (w:World) (hs:s.size≤20000) (hk:Lx.KwAt w):
  Calls Tryz.prog 28 #[.string s] w fun e w'=>Ext w w'∧((∃a x:Nat,Lx.tokAll s= .bad a x∧x≠0∧e= .returned (.tuple #[.pointer none,.int .i64 a,.int .i64 x]))∨
   ∃(L:List Tk) (P:Nat) (A:Option Addr) (c:Nat),Lx.tokAll s= .ok L∧e= .returned (.tuple #[.pointer (some ⟨P,0,none⟩),.int .i64 0,.int .i64 0])∧PsAt 68 P A c L w w' ⟨L,false⟩):=by
 have HT:=hid (Lx.tokens_cap s w hs hk)
 go_enter Tryz.func28,Tryz.ntmps28
 go_wp2_with fail
 refine HT.out.mono ?_
 rintro e w1 ⟨v,rfl,⟨A,c,rfl,hat,hc⟩,hx⟩
 have HX:=hid hx
 cases ht:Lx.tokAll s with
 |bad a x=>
  have hx0:=all_err ht
  have hxi:¬((x:Int)=0):=by omega
  rw[ht]at hat hc
  have h1:Lx.lsL (.bad a x)= []:=rfl
  have h2:Lx.lsP (.bad a x)=a:=rfl
  have h3:Lx.lsE (.bad a x)=x:=rfl
  rw[h1,h2,h3]
  clear hat hc h1 h2 h3
  go_wp2_with fail
  go_ret3
  exact⟨HX.out,.inl ⟨a,x,ht,hx0,rfl⟩⟩
 |ok l=>
  rw[ht]at hat hc
  have h1:Lx.lsL (.ok l)=l:=rfl
  have h2:Lx.lsP (.ok l)=0:=rfl
  have h3:Lx.lsE (.ok l)=0:=rfl
  rw[h1]at hat
  rw[h1,h2,h3]
  have HAt:=hid hat
  have HL:=hid (tkl_of ht)
  have HTk:=hid ht
  have HLen:Hid (0<l.length):=by
   unfold Lx.tokAll at ht
   split at ht
   ·cases ht
   ·exact(toks_fit _ _ _ l ht).len.1
  have HB:=hid (Blk.of_new w1 68 [.slice A l.length c,.int .i64 0,.bool false])
  clear hat hc h1 h2 h3 hx
  go_wp2_with fail
  go_ret3
  refine⟨HX.out.alloc _,.inr ⟨l,w1.heap.size,A,c,ht,rfl,?_⟩⟩
  refine⟨HX.out.alloc _,HX.out.size,?_,by simp,HLen.out,fun i a ha=>?_⟩
  ·rw[Nat.sub_self]
   exact HB.out
  ·obtain⟨b,off,hA,c0,c1,c2⟩:=HAt.out i a ha
   have hxa:=(Ext.refl w1).alloc (.cells #[.slice A l.length c,.int .i64 0,.bool false] 68)
   exact⟨b,off,hA,World.block_lt_of_cell? w1 _ c0,hxa.keep c0,hxa.keep c1,hxa.keep c2⟩
end
theorem svalid_large (s:St) (a:SA) (w:World) (hv:StV w s a) (hlen:s.all.length≤100000000) (hL:largeB s.all=true):
  Calls Tryz.prog 31 #[s.val a] w fun r w'=>r= .returned (.int .i64 3)∧Ext w w':=by
 have H1:=hid (fun W (hW:Ext w W)=>all_any s a W (hv.ext hW) hlen)
 have H2:=hid (fun (W:World) (A:Option Addr) (c:Nat) (hk:KidsAt W A s.all)=>large_any s.all A s.all.length c W rfl (by omega) hk)
 have HB:=hid (Blk.of_new w 40 (s.cells a))
 have HX:=hid ((Ext.refl w).alloc (.cells (s.cells a).toArray 40))
 rw[hL]at H2
 clear hv hlen hL
 unfold St.val at*
 unfold St.cells Sl.v at*
 go_enter Tryz.func31,Tryz.ntmps31
 go_upto_region 1 with fail
 generalize w.alloc (.cells _ 40)=w1 at*
 generalize w.heap.size=g at*
 go_wp2_with (first|(refine wpList_load_blk rfl 40 (.tmp 1) rfl g rfl 40 _ _ HB.out Tryz.underlying40 rfl (by kernel_rfl) ?_)|(go_at_call 63;(with_reducible refine(H1.out _ HX.out).mono ?_);rintro _ w2 ⟨A1,c1,rfl,hk1,hx2⟩)|(go_at_call 62;(with_reducible refine(H2.out _ _ _ hk1).mono ?_);rintro _ w3 ⟨rfl,hx3⟩))
 go_ret
 exact⟨rfl,HX.out.trans (hx2.trans hx3)⟩
end Go.Proofs.YtjigcpfjhfoheaaGreatDoor
