/- Walk: a chain of operands; Walks: lists; What the lexer yields. -/
import Derived.Test.YtjigcpfjhfoheaaGreatDoorYbg
import Derived.Test.YtjigcpfjhfoheaaGreatDoorYab
namespace Go.Proofs.YtjigcpfjhfoheaaGreatDoor
open Go.RowKit
set_option maxHeartbeats 2000000
set_option maxRecDepth 100000
set_option linter.unusedVariables false
set_option linter.unusedSimpArgs false
section
open Lx (Tk)
def dR (F:FuncId):Prop:=∀(args:Array Value) (W:World),(callFunc F args).run Tryz.prog W= .ok (.enter F args) W
def posOf (P:Nat) (w:World):Nat:=match w.cell? ⟨P,1,none⟩with
 |some v=> (intOf v).toNat
 |none=>0
theorem PsAt.posOf {T P c:Nat} {A:Option Addr} {L:List Tk} {w0 w:World} {s:Ps} (h:PsAt T P A c L w0 w s):posOf P w=L.length-s.r.length:=by
 have:=h.blk.cell_some (i:=1) rfl
 unfold Go.Proofs.YtjigcpfjhfoheaaGreatDoor.posOf
 rw[this]
 simp[intOf]
section
variable {P c:Nat} {A:Option Addr} {L:List Tk} {w0 w:World} {s:Ps}
theorem chain_any (F:FuncId) (hE:dR F) (a:M Ex) (ex:Fwd a) (ops:List (ByteArray×Int)) (hl:ops.length≤100) (c7:∀x∈ops,I64 x.2) (gs:Nat) (hs:Blk w gs 120 (symCs ops)) (Z:gs≠P)
  (hp:PsAt 68 P A c L w0 w s) (hL:TkL L)
  (hF:∀(W:World) (st:Ps),PsAt 68 P A c L w0 W st→st.r.length≤s.r.length→Calls Tryz.prog F #[.pointer (some ⟨P,0,none⟩)] W (Ran 68 P A c L w0 W (a st).2 fun v W'=>ExG W.heap.size W' (a st).1 v)):
  Calls Tryz.prog 77 #[.pointer (some ⟨P,0,none⟩),.func (Fn.func F) #[.pointer (some ⟨P,0,none⟩)] #[],.slice (some ⟨gs,0,none⟩) ops.length ops.length] w
   (Ran 68 P A c L w0 w (chainP a ops s).2 fun v w'=>ExG w.heap.size w' (chainP a ops s).1 v):=by
 unfold dR at hE
 have HF:=hid hF
 have e7:=hp.lt
 have fr:=hs.lt
 have E:Hid (chainP a ops s=bq a ops (s.r.length+1) (a s).1 (a s).2):=rfl
 obtain⟨R,hR⟩:∃R,chainP a ops s=R:=⟨_,rfl⟩
 rw[hR]at E ⊢
 clear hR hF
 have eb:=(Ext.refl w).alloc (.cells #[.pointer (some ⟨P,0,none⟩)] 62)
 have a2:=eb.alloc (.cells #[.int .i64 0,.string ⟨#[]⟩,.string ⟨#[]⟩,.int .i64 0,.int .i64 0,.int .i64 0,.string ⟨#[]⟩,.slice none 0 0] 37)
 have J:Hid (Blk ((w.alloc (.cells #[.pointer (some ⟨P,0,none⟩)] 62)).alloc (.cells #[.int .i64 0,.string ⟨#[]⟩,.string ⟨#[]⟩,.int .i64 0,.int .i64 0,.int .i64 0,.string ⟨#[]⟩,.slice none 0 0] 37)) w.heap.size 62 [.pointer (some ⟨P,0,none⟩)]):=(Blk.of_new w 62 [.pointer (some ⟨P,0,none⟩)]).ext ((Ext.refl _).alloc _)
 have bN:Hid (Blk ((w.alloc (.cells #[.pointer (some ⟨P,0,none⟩)] 62)).alloc (.cells #[.int .i64 0,.string ⟨#[]⟩,.string ⟨#[]⟩,.int .i64 0,.int .i64 0,.int .i64 0,.string ⟨#[]⟩,.slice none 0 0] 37)) (w.heap.size+1) 37 eZ):=by
  have:=Blk.of_new (w.alloc (.cells #[.pointer (some ⟨P,0,none⟩)] 62)) 37 eZ
  unfold Hid
  simpa using this
 have bx:Hid (((w.alloc (.cells #[.pointer (some ⟨P,0,none⟩)] 62)).alloc (.cells #[.int .i64 0,.string ⟨#[]⟩,.string ⟨#[]⟩,.int .i64 0,.int .i64 0,.int .i64 0,.string ⟨#[]⟩,.slice none 0 0] 37)).heap.size=w.heap.size+2):=by
  unfold Hid
  simp
 have HS:=hid (hp.ext a2)
 have a3:=hid a2
 have ad:=hid (hs.ext a2)
 clear hp eb a2 hs
 go_enter Tryz.func77,Tryz.ntmps77
 go_upto_region 1 with fail
 generalize (w.alloc (.cells #[.pointer (some ⟨P,0,none⟩)] 62)).alloc (.cells #[.int .i64 0,.string ⟨#[]⟩,.string ⟨#[]⟩,.int .i64 0,.int .i64 0,.int .i64 0,.string ⟨#[]⟩,.slice none 0 0] 37)=wB at*
 obtain⟨n0,bY⟩:∃n,w.heap.size=n:=⟨_,rfl⟩
 have b9:=hid bY
 rw[bY]at J bN bx e7 fr ⊢
 clear bY
 go_wp2_with fail
 refine(HF wB s HS (Nat.le_refl _)).mono ?_
 rintro _ w1 ⟨v,rfl,h1,y,f,h,c1,rfl,h3⟩
 obtain⟨s1,ax⟩:∃s1,(a s).2=s1:=⟨_,rfl⟩
 obtain⟨e1,cj⟩:∃e1,(a s).1=e1:=⟨_,rfl⟩
 have e6:s1.r.length≤s.r.length:=by rw[←ax];exact ex s
 rw[ax,cj]at E
 rw[ax]at h1
 rw[cj]at h3 ⊢
 clear ax cj
 obtain⟨⟨op,tb,nm,ix,vk,vi,vt⟩,ks⟩:=e1
 unfold Nd.val
 simp only[Ex.d]
 have dk:=y.size
 rw[bx.out]at dk h3
 have j:=(Ext.refl w1).alloc (.cells #[.int .i64 op,.string tb,.string nm,.int .i64 ix,.int .i64 vk,.int .i64 vi,.string vt,.slice f h c1] 37)
 have c8:=hid (Blk.of_new w1 37 (eC op tb nm ix vk vi vt f h c1))
 have es:=hid (h1.ext j)
 have bf:=hid (((Chg.of (P:=P) a3).trans y).ext j)
 have a9:=hid ((y.blk J (by omega)).ext j)
 have c3:=hid ((y.blk bN (by omega)).ext j)
 have a6:=hid ((y.blk ad Z).ext j)
 have a3:Hid (ExS (fun q=>n0≤q∧q≠w1.heap.size∧q≠n0+1) (w1.alloc (.cells #[.int .i64 op,.string tb,.string nm,.int .i64 ix,.int .i64 vk,.int .i64 vi,.string vt,.slice f h c1] 37)) (.mk ⟨op,tb,nm,ix,vk,vi,vt⟩ ks) f h c1):=
  Stb.ext (h3.weak fun q C hn=>⟨by omega,by omega,by omega⟩) j
 have a4:Hid (n0+1<w1.heap.size):=by unfold Hid;omega
 clear h1 y h3 j dk HS J bN ad bx
 go_upto_region 2 with fail
 generalize w1.alloc (.cells #[.int .i64 op,.string tb,.string nm,.int .i64 ix,.int .i64 vk,.int .i64 vi,.string vt,.slice f h c1] 37)=wC at*
 generalize w1.heap.size=ge at*
 go_loopw [8] (fun _ wr=> ∃(n:Nat) (st:Ps) (e:Ex) (B:Option Addr) (k c':Nat),st.r.length<n∧st.r.length≤s.r.length∧R=bq a ops n e st∧PsAt 68 P A c L w0 wr st∧Blk wr ge 37 (e.d.cells B k c')∧ExS (fun q=>n0≤q∧q≠ge∧q≠n0+1) wr e B k c'∧
  Blk wr n0 62 [.pointer (some ⟨P,0,none⟩)]∧Blk wr (n0+1) 37 eZ∧Blk wr gs 120 (symCs ops)∧Chg P w wr) (fun _ wr=>20001-posOf P wr)
 case atStart=>exact⟨_,s1,_,f,h,c1,by omega,e6,E,es,c8,a3,a9,c3,a6,bf⟩
 case round=>
  obtain⟨n,st,e,f,h,c1,hn,f2,hR,I,c0,dx,cf,c4,cc,cA⟩:=hrel
  clear E es c8 a3 a9 c3 a6 bf
  obtain⟨n,rfl⟩:∃m,n=m+1:=⟨n-1,by omega⟩
  obtain⟨⟨op,tb,nm,ix,vk,vi,vt⟩,ks⟩:=e
  rw[bq]at hR
  have Y:=hid hR
  have e8:=hid I
  have c6:=hid c0
  have cw:=hid dx
  have J:=hid cf
  have cy:=hid c4
  have ad:=hid cc
  have ee:=hid cA
  have HI:=hid (index_sym I hL ops n0 gs (cf.cell_some rfl) cc (by omega) Z hl)
  have HM:Hid (posOf P wr=L.length-st.r.length):=I.posOf
  have fs:=I.le
  have fA:=I.ne
  clear hR I c0 dx cf c4 cc cA
  go_wp2_with fail
  refine HI.mono ?_
  rintro _ w2 ⟨v,rfl,h1,y,i,rfl,cH⟩
  have D:Hid (Blk w2 ge 37 (eC op tb nm ix vk vi vt f h c1)):=y.blk c6 (by have:=a4.out;omega)
  have a5:Hid (ExS (fun q=>n0≤q∧q≠ge∧q≠n0+1) w2 (.mk ⟨op,tb,nm,ix,vk,vi,vt⟩ ks) f h c1):=Stb.grown cw y (fun q C e=>by have:=Option.some.inj e;omega)
  have dd:=hid (y.blk J (by omega))
  have u:=hid (y.blk cy (by omega))
  have be:=hid (y.blk ad Z)
  have ba:=hid (ee.trans y)
  have b:=hid h1
  clear h1 y HI c6 cw J cy ad ee e8
  rcases cH with ⟨hn1,hi⟩|⟨k,t,o,rfl,hk,ho⟩
  ·rw[hn1]at Y
   rw[jm _ _ hn1]at b
   clear hn1
   obtain⟨b0,b1,b2,b3,b4,b5,b6,b7,-⟩:=cls D
   obtain⟨z0,z1,z2,z3,z4,z5,z6,z7,-⟩:=cls u
   obtain⟨y0,y1,y2,y3,y4,y5,y6,y7,-⟩:=frz u
   have hz:=aE u (eC op tb nm ix vk vi vt f h c1) rfl
   have cb:=hid (ak (n0+1) (eC op tb nm ix vk vi vt f h c1) w2 0)
   simp only[sts]at hz
   have HZ:=hid hz
   clear hz
   go_wp2_with fail
   obtain⟨q0,q1,q2,q3,q4,q5,q6,q7,-⟩:=cls HZ
   exact bodyPost_ret (v:= .agg #[.int .i64 op,.string tb,.string nm,.int .i64 ix,.int .i64 vk,.int .i64 vi,.string vt,.slice f h c1]) (by simp[results,Tryz.results77,go_sem,q0,q1,q2,q3,q4,q5,q6,q7]) rfl ⟨_,rfl,by rw[Y.out];exact b.grown cb (fun q C=>by have:=Option.some.inj C;omega),ba.own cb (fun q C=>by have:=Option.some.inj C;rw[b9.out];omega),by rw[Y.out,b9.out];exact⟨f,h,c1,rfl,Stb.weak (Stb.grown a5 cb (fun q C e=>by have:=Option.some.inj e;omega)) (fun q _ C=>C.1)⟩⟩
  ·rw[ho]at Y
   have e9:=nF ho
   obtain⟨H,ac⟩:∃x,(firstP ops st).2=x:=⟨_,rfl⟩
   rw[ac]at e9 b
   have dc:R=bq a ops n (opE o [.mk ⟨op,tb,nm,ix,vk,vi,vt⟩ ks,(a H).1]) (a H).2:=by
    have:=Y.out
    rw[←ac]
    exact this
   have c5:=hid dc
   clear Y ac dc
   have ck:=hid (HF w2.drew H (b.ext (Ext.refl w2).drew) (by omega))
   have e3:=hid (c7 _ (List.mem_of_getElem? hk))
   have a1:=hid (ex H)
   obtain⟨_,e1⟩:=fh ops k (t,o) hk
   have cs:=be.cell_some e1
   have f1:=(List.getElem?_eq_some_iff.1 hk).1
   have i0:(0:Int)≤(k:Int):=by omega
   have i1:(k:Int)<(ops.length:Int):=by omega
   have i2:¬((k:Int)<0):=by omega
   have cd:ge<w2.heap.size:=D.lt
   have e0:=hid cd
   obtain⟨ds,an⟩:∃x,(a H).2=x:=⟨_,rfl⟩
   obtain⟨e2,df⟩:∃x,(a H).1=x:=⟨_,rfl⟩
   rw[an,df]at c5 ck
   rw[an]at a1
   clear an df e1 hk cd
   obtain⟨⟨U,O,G,Q,V,X,K⟩,cx⟩:=e2
   have e4:Hid (Calls Tryz.prog F #[.pointer (some ⟨P,0,none⟩)] w2.drew fun e g=> ∃(A2:Option Addr) (k2 c2:Nat),e= .returned (.agg #[.int .i64 U,.string O,.string G,.int .i64 Q,.int .i64 V,.int .i64 X,.string K,.slice A2 k2 c2])∧PsAt 68 P A c L w0 g ds∧Chg P w2 g∧ExS (fun q=>n0≤q∧q≠ge∧q≠n0+1) g (.mk ⟨U,O,G,Q,V,X,K⟩ cx) A2 k2 c2):=
    ck.mono fun e g ⟨v,he,h5,h6,A2,k2,c2,hv,h7⟩=>⟨A2,k2,c2,by rw[he,hv];rfl,h5,(Chg.of (Ext.refl w2).drew).trans h6,h7.weak fun q _ hn=>by
     have:=a4.out
     have:=e0.out
     have hn:w2.heap.size≤q:=hn
     exact⟨by omega,by omega,by omega⟩⟩
   clear ck
   obtain⟨b0,b1,b2,b3,b4,b5,b6,b7,-⟩:=cls D
   go_upto_region 5 with fail
   go_region_law (first
    |(go_simp;go_at_call 105;(with_reducible refine(cR _ _ _ _ _).mono ?_);rintro _ w5 ⟨rfl,ci⟩;have p:Ext g w5:=((Ext.refl g).alloc (.cells #[.int .i64 op,.string tb,.string nm,.int .i64 ix,.int .i64 vk,.int .i64 vi,.string vt,.slice f h c1,.int .i64 U,.string O,.string G,.int .i64 Q,.int .i64 V,.int .i64 X,.string K,.slice A2 k2 c2] 37)).trans ci;have z:=ag.ext p;obtain⟨z0,z1,z2,z3,z4,z5,z6,z7,-⟩:=cls z;obtain⟨y0,y1,y2,y3,y4,y5,y6,y7,-⟩:=frz z)
    |(go_simp;(with_reducible refine e4.out.mono ?_);rintro _ g ⟨A2,k2,c2,rfl,h5,h6,h7⟩;have ag:Blk g ge 37 (eC op tb nm ix vk vi vt f h c1):=h6.blk D (by have:=a4.out;omega);have cv:=h6.keep cs Z;have fn:=((Ext.refl g).alloc (.cells #[.int .i64 op,.string tb,.string nm,.int .i64 ix,.int .i64 vk,.int .i64 vi,.string vt,.slice f h c1,.int .i64 U,.string O,.string G,.int .i64 Q,.int .i64 V,.int .i64 X,.string K,.slice A2 k2 c2] 37)).keep cv;obtain⟨d0,d1,d2,d3,d4,d5,d6,d7,-⟩:=cls ag))
   all_goals
    have f4:=h6.size
    have cd:=e0.out
    have f0:=a4.out
    have e5:n0≤g.heap.size∧g.heap.size≠ge∧g.heap.size≠n0+1:=⟨by omega,by omega,by omega⟩
    have bk:ExS (fun q=>n0≤q∧q≠ge∧q≠n0+1) (g.alloc (.cells #[.int .i64 op,.string tb,.string nm,.int .i64 ix,.int .i64 vk,.int .i64 vi,.string vt,.slice f h c1,.int .i64 U,.string O,.string G,.int .i64 Q,.int .i64 V,.int .i64 X,.string K,.slice A2 k2 c2] 37)) (opE o [.mk ⟨op,tb,nm,ix,vk,vi,vt⟩ ks,.mk ⟨U,O,G,Q,V,X,K⟩ cx]) (some ⟨g.heap.size,0,none⟩) 2 2:=
     cS (S:=fun q=>n0≤q∧q≠ge∧q≠n0+1) e3 e5 (Stb.grown a5 h6 (fun q C e=>by have:=Option.some.inj e;omega)) h7
    have l:=ak ge (eC o ⟨#[]⟩ ⟨#[]⟩ 0 0 0 ⟨#[]⟩ (some ⟨g.heap.size,0,none⟩) 2 2) w5 0
    have cl:=hid (Stb.grown (Stb.ext bk ci) l (fun q C e=>by have:=Option.some.inj e;omega))
    have c9:=hid (aE z (eC o ⟨#[]⟩ ⟨#[]⟩ 0 0 0 ⟨#[]⟩ (some ⟨g.heap.size,0,none⟩) 2 2) rfl)
    have a0:=hid ((h5.ext p).grown l (fun q C=>by have:=Option.some.inj C;omega))
    have bw:=hid (((h6.blk dd (by omega)).ext p).grown l (fun e=>by have:=Option.some.inj e;omega))
    have bd:=hid (((h6.blk u (by omega)).ext p).grown l (fun e=>by have:=Option.some.inj e;omega))
    have bm:=hid (((h6.blk be Z).ext p).grown l (fun e=>by have:=Option.some.inj e;omega))
    have bn:=hid (((ba.trans h6).ext p).own l (fun q C=>by have:=Option.some.inj C;rw[b9.out];omega))
    simp only[sts]at cl c9 a0 bw bd bm bn
    have f3:=a0.le
    clear h5 h6 h7 ci p ag z bk l cs cv fn b0 b1 b2 b3 b4 b5 b6 b7 d0 d1 d2 d3 d4 d5 d6 d7 z0 z1 z2 z3 z4 z5 z6 z7 y0 y1 y2 y3 y4 y5 y6 y7
    go_wp2_with fail
    exact⟨⟨n,ds,_,some ⟨g.heap.size,0,none⟩,2,2,by have:=a1.out;omega,by have:=a1.out;omega,c5,a0,c9,cl,bw,bd,bm,bn⟩,by rw[a0.out.posOf,HM.out];have:=a1.out;have:=hL.len;have:=b.le;omega⟩
end
end
section
open Lx (Tk)
theorem bM.capa {α:Type} {Φ:α→List Value→World→Prop} {T b n0:Nat} {w:World} {v:Value} {l:List α} {a:List (List Value)} (h:bM Φ T b n0 w v l a) {A:Option Addr} {c:Nat} (e:v= .slice A l.length c):l.length≤c:=by
 rcases h.own.2 with ⟨h1,h0⟩|⟨g,cap,cur,h1,_,_,h2,_⟩
 ·rw[h0];exact Nat.zero_le _
 ·rw[e]at h1
  injection h1 with _ _ h1
  rw[h1]
  exact h2
theorem bW (w:World) (cs:List Value) (e:TypeId) (k:Nat) (f:cs.length=k):Reads (w.alloc (.cells cs.toArray e)) (w.heap.size+1) k (some ⟨w.heap.size,0,none⟩) 1 cs:=
 ⟨by simp[f],fun _=>⟨_,rfl,Nat.lt_succ_self _,fun j u b=>by
  have a:(⟨w.heap.size,0,none⟩:Addr).add j=⟨w.heap.size,0+j,none⟩:=by unfold Addr.add;split<;>simp_all
  rw[a,Nat.zero_add]
  exact(Blk.of_new w e cs).cell_some b⟩⟩
theorem aX {P:Program} {t:TypeId} {z:Value} {s b:Nat} (h:(P.info? t).map (fun i=> (i.zero,i.size,i.bytes))=some (some z,s,b)):∃i,P.info? t=some i∧i.zero=some z∧i.size=s∧i.bytes=b:=by
 cases hi:P.info? t with
 |none=>rw[hi]at h;cases h
 |some i=>
  rw[hi]at h
  simp only[Option.map_some,Option.some.injEq,Prod.mk.injEq]at h
  exact⟨i,rfl,h.1,h.2.1,h.2.2⟩
theorem infoL_ex:(Tryz.prog.info? 37).map (fun i=> (i.zero,i.size,i.bytes))=some (some (.agg #[.int .i64 0,.string ⟨#[]⟩,.string ⟨#[]⟩,.int .i64 0,.int .i64 0,.int .i64 0,.string ⟨#[]⟩,.slice none 0 0]),8,104):=by kernel_rfl
def Elex (n:Nat) (W:World) (a:Ex) (v:Value):Prop:=ExG n W a v
def cu (a:Ex) (cs:List Value) (w:World):Prop:=∃B k c,cs=a.d.cells B k c∧ExV w a B k c
section
variable {P c:Nat} {A:Option Addr} {L:List Tk} {w0 w:World} {s:Ps}
theorem list_ex (F:FuncId) (hE:dR F) (b:M (Ex)) (bd:Fwd b) (hp:PsAt 68 P A c L w0 w s) (hL:TkL L)
  (hF:∀(W:World) (st:Ps),PsAt 68 P A c L w0 W st→st.r.length≤s.r.length→Calls Tryz.prog F #[.pointer (some ⟨P,0,none⟩)] W (Ran 68 P A c L w0 W (b st).2 fun v W'=>Elex W.heap.size W' (b st).1 v)):
  Calls Tryz.prog 101 #[.pointer (some ⟨P,0,none⟩),.func (Fn.func F) #[.pointer (some ⟨P,0,none⟩)] #[]] w
   (Ran 68 P A c L w0 w (listP b s).2 fun v w'=> ∃B k,v= .slice B (listP b s).1.length k∧Stb (w.heap.size≤·) w' (fun w2=>Lst cu 8 w2 B (listP b s).1)):=by
 unfold dR at hE
 obtain⟨ie,bx,bw,b1,bn⟩:=aX infoL_ex
 have HF:=hid hF
 have HS:=hid hp
 have Z:=hp.lt
 have b3:=hp.le
 have b5:=hL.len
 have a:Hid (listP b s=listGo b (s.r.length+1) [(b s).1] (b s).2):=rfl
 obtain⟨R,hR⟩:∃R,listP b s=R:=⟨_,rfl⟩
 rw[hR]at a ⊢
 clear hR hF hp
 go_enter Tryz.func101,Tryz.ntmps101
 go_wp2_with fail
 refine(HF w s HS (Nat.le_refl _)).mono ?_
 rintro _ w1 ⟨v,rfl,i,o,g,n,c1,rfl,h3⟩
 have bk:=bd s
 obtain⟨bf,H⟩:∃x,(b s).2=x:=⟨_,rfl⟩
 rw[H]at a i bk
 clear H
 obtain⟨e1,f⟩:∃x,(b s).1=x:=⟨_,rfl⟩
 rw[f]at h3 ⊢
 (try rw[f]at a)
 clear f
 obtain⟨⟨op,tb,nm,ix,vk,vi,vt⟩,ks⟩:=e1
 unfold Nd.val
 simp only[Ex.d]
 have O:=o.size
 have U:Hid (bM cu 37 8 w.heap.size (w1.alloc (.cells #[.int .i64 op,.string tb,.string nm,.int .i64 ix,.int .i64 vk,.int .i64 vi,.string vt,.slice g n c1] 37)) (.slice (some ⟨w1.heap.size,0,none⟩) 1 1) [(.mk ⟨op,tb,nm,ix,vk,vi,vt⟩ ks)] [(eC op tb nm ix vk vi vt g n c1)]):=bM.start (eC op tb nm ix vk vi vt g n c1) rfl O (Stb.imp h3 fun w2 h=>⟨g,n,c1,rfl,h⟩)
 have E:=(Ext.refl w1).alloc (.cells #[.int .i64 op,.string tb,.string nm,.int .i64 ix,.int .i64 vk,.int .i64 vi,.string vt,.slice g n c1] 37)
 have a6:=hid (i.ext E)
 have a1:=hid (o.ext E)
 clear i o E O HS
 go_upto_region 2 with fail
 generalize w1.alloc (.cells #[.int .i64 op,.string tb,.string nm,.int .i64 ix,.int .i64 vk,.int .i64 vi,.string vt,.slice g n c1] 37)=w2 at*
 go_loopw [5,10] (fun vv _ wr=> ∃(m:Nat) (st:Ps) (l:List (Ex)) (ba:List (List Value)),st.r.length<m∧l.length+st.r.length≤s.r.length+1∧R=listGo b m l st∧PsAt 68 P A c L w0 wr st∧bM cu 37 8 w.heap.size wr vv l ba∧Chg P w wr) (fun _ _ wr=>20001-posOf P wr)
 case atStart=>exact⟨_,bf,_,_,by omega,by simp;omega,a,a6,U,a1⟩
 case round=>
  obtain⟨m,st,l,ba,hm,b7,hI,p,Q,ag⟩:=hrel
  clear a a6 U a1
  obtain⟨m,rfl⟩:∃x,m=x+1:=⟨m-1,by omega⟩
  rw[listGo]at hI
  have I:=hid hI
  have Y:=hid Q
  have HC:=hid ag
  have b0:Hid (posOf P wr=L.length-st.r.length):=p.posOf
  have b2:=p.le
  have b4:=p.ne
  have HA:=hid (ai p hL yCm)
  clear hI Q ag p
  go_wp2_with fail
  refine HA.mono ?_
  rintro _ w3 ⟨v,rfl,i,o,rfl⟩
  have D:=hid (HC.trans o)
  have j:=hid (Y.chg o Z)
  cases y:isS yCm st
  ·have e:(aq yCm st).2=st:=by simp[aq,y]
   rw[e]at i
   rw[y]at I
   have z:=hid i
   clear i o e Y HC HA
   obtain⟨B,k,hv,a4⟩:=j.fin
   skip
   subst hv
   have a9:R=(l,st):=I.out
   have an:=hid a9
   have bm:=hid a4
   clear a9 a4 I
   go_wp2_with fail
   go_ret
   exact⟨_,rfl,by rw[an.out];exact z,D,by rw[an.out];exact⟨B,k,rfl,bm⟩⟩
  ·have e:(aq yCm st).2=st.next:=by simp[aq,y]
   rw[e]at i
   rw[y]at I
   have z:=hid i
   have b6:=aM y
   clear i o e Y HC HA
   go_wp2_with fail
   refine(HF w3 st.next z (by omega)).mono ?_
   rintro _ w4 ⟨v,rfl,i,o,g,n,c1,rfl,h3⟩
   have ax:=bd st.next
   have C:R=listGo b m (l++ [(b st.next).1]) (b st.next).2:=I.out
   obtain⟨bY,J⟩:∃x,(b st.next).2=x:=⟨_,rfl⟩
   rw[J]at C i ax
   clear J I
   obtain⟨e1,f⟩:∃x,(b st.next).1=x:=⟨_,rfl⟩
   rw[f]at h3 C ⊢
   (try rw[f]at a)
   clear f
   obtain⟨⟨op,tb,nm,ix,vk,vi,vt⟩,ks⟩:=e1
   unfold Nd.val
   simp only[Ex.d]
   have I:=hid C
   have a0:=hid (D.trans o)
   have E:=(Ext.refl w4).alloc (.cells #[.int .i64 op,.string tb,.string nm,.int .i64 ix,.int .i64 vk,.int .i64 vi,.string vt,.slice g n c1] 37)
   have u:=hid ((j.chg o Z).ext E)
   have be:=hid (i.ext E)
   have K:Stb (fun q=>w.heap.size≤q∧u5.ownBlock≠some q) (w4.alloc (.cells #[.int .i64 op,.string tb,.string nm,.int .i64 ix,.int .i64 vk,.int .i64 vi,.string vt,.slice g n c1] 37)) (cu (.mk ⟨op,tb,nm,ix,vk,vi,vt⟩ ks) (eC op tb nm ix vk vi vt g n c1)):=Stb.ext (Stb.weak (Stb.imp h3 fun w2 h=>⟨g,n,c1,rfl,h⟩) fun q hq hn=>⟨Nat.le_trans D.size hn,fun e=>by
    have:=(j.own.lt q e).2
    have hn:w3.heap.size≤q:=hn
    omega⟩) E
   have a5:=hid K
   have G:w.heap.size≤(w4.alloc (.cells #[.int .i64 op,.string tb,.string nm,.int .i64 ix,.int .i64 vk,.int .i64 vi,.string vt,.slice g n c1] 37)).heap.size:=Nat.le_trans a0.size E.size
   have a3:=hid G
   clear i o E K G C j z D
   go_wp2_with (at_builtin;refine ap _ rfl (.tmp 11) (.tmp 14) 27 rfl w.heap.size 37 ie _ 8 104 Tryz.underlying27 bx bw b1 bn rfl (by decide) _ l.length _ rfl u.own _ _ 1 1 (eC op tb nm ix vk vi vt g n c1) rfl (bW w4 (eC op tb nm ix vk vi vt g n c1) 37 8 rfl) (by simp[Value.oneCell']) (by unfold maxLen;omega) (by omega) a3 ?_;intro v7 w7 V t ac)
   have X:=u.push rfl V t ac a5
   have a2:∀q,u5.ownBlock=some q→w.heap.size≤q:=fun q hq=> (u.own.lt q hq).1
   have ad:=hid (be.grown t (fun q hq=>Nat.lt_of_lt_of_le Z (a2 q hq)))
   have bN:=hid ((a0.alloc _).own t a2)
   exact⟨⟨m,bY,_,_,by omega,by rw[List.length_append,List.length_singleton];omega,I,ad,X,bN⟩,by rw[ad.out.posOf,b0.out];omega⟩
end
theorem infoL_str:(Tryz.prog.info? 9).map (fun i=> (i.zero,i.size,i.bytes))=some (some (.string ⟨#[]⟩),1,16):=by kernel_rfl
def Elstr (n:Nat) (W:World) (a:ByteArray) (v:Value):Prop:=v= .string a∧a.size≤9223372036854775807
def jS (a:ByteArray) (cs:List Value) (w:World):Prop:=cs= [.string a]∧a.size≤9223372036854775807
section
variable {P c:Nat} {A:Option Addr} {L:List Tk} {w0 w:World} {s:Ps}
theorem list_str (F:FuncId) (hE:dR F) (a:M (ByteArray)) (a9:Fwd a) (hp:PsAt 68 P A c L w0 w s) (hL:TkL L)
  (hF:∀(W:World) (st:Ps),PsAt 68 P A c L w0 W st→st.r.length≤s.r.length→Calls Tryz.prog F #[.pointer (some ⟨P,0,none⟩)] W (Ran 68 P A c L w0 W (a st).2 fun v W'=>Elstr W.heap.size W' (a st).1 v)):
  Calls Tryz.prog 232 #[.pointer (some ⟨P,0,none⟩),.func (Fn.func F) #[.pointer (some ⟨P,0,none⟩)] #[]] w
   (Ran 68 P A c L w0 w (listP a s).2 fun v w'=> ∃B k,v= .slice B (listP a s).1.length k∧(listP a s).1.length≤k∧Stb (w.heap.size≤·) w' (fun w2=>Lst jS 1 w2 B (listP a s).1)):=by
 unfold dR at hE
 obtain⟨ie,bw,bn,b0,bk⟩:=aX infoL_str
 have HF:=hid hF
 have HS:=hid hp
 have X:=hp.lt
 have b2:=hp.le
 have b4:=hL.len
 have b:Hid (listP a s=listGo a (s.r.length+1) [(a s).1] (a s).2):=rfl
 obtain⟨R,hR⟩:∃R,listP a s=R:=⟨_,rfl⟩
 rw[hR]at b ⊢
 clear hR hF hp
 go_enter Tryz.func232,Tryz.ntmps232
 go_wp2_with fail
 refine(HF w s HS (Nat.le_refl _)).mono ?_
 rintro _ w1 ⟨v,rfl,i,j,rfl,h3⟩
 have be:=a9 s
 obtain⟨bd,E⟩:∃x,(a s).2=x:=⟨_,rfl⟩
 rw[E]at b i be
 clear E
 obtain⟨h,g⟩:∃x,(a s).1=x:=⟨_,rfl⟩
 rw[g]at h3 ⊢
 (try rw[g]at b)
 clear g
 have J:=j.size
 have O:Hid (bM jS 9 1 w.heap.size (w1.alloc (.cells #[.string h] 9)) (.slice (some ⟨w1.heap.size,0,none⟩) 1 1) [h] [[.string h]]):=bM.start [.string h] rfl J (fun w2 _ _=>⟨rfl,h3⟩)
 have C:=(Ext.refl w1).alloc (.cells #[.string h] 9)
 have a4:=hid (i.ext C)
 have ax:=hid (j.ext C)
 clear i j C J HS
 go_upto_region 2 with fail
 generalize w1.alloc (.cells #[.string h] 9)=w2 at*
 go_loopw [5,10] (fun vv _ wr=> ∃(m:Nat) (st:Ps) (l:List (ByteArray)) (a6:List (List Value)),st.r.length<m∧l.length+st.r.length≤s.r.length+1∧R=listGo a m l st∧PsAt 68 P A c L w0 wr st∧bM jS 9 1 w.heap.size wr vv l a6∧Chg P w wr) (fun _ _ wr=>20001-posOf P wr)
 case atStart=>exact⟨_,bd,_,_,by omega,by simp;omega,b,a4,O,ax⟩
 case round=>
  obtain⟨m,st,l,a6,hm,b6,hI,n,K,ac⟩:=hrel
  clear b a4 O ax
  obtain⟨m,rfl⟩:∃x,m=x+1:=⟨m-1,by omega⟩
  rw[listGo]at hI
  have G:=hid hI
  have V:=hid K
  have HC:=hid ac
  have bY:Hid (posOf P wr=L.length-st.r.length):=n.posOf
  have b1:=n.le
  have b3:=n.ne
  have HA:=hid (ai n hL yCm)
  clear hI K ac n
  go_wp2_with fail
  refine HA.mono ?_
  rintro _ w3 ⟨v,rfl,i,j,rfl⟩
  have z:=hid (HC.trans j)
  have f:=hid (V.chg j X)
  cases t:isS yCm st
  ·have e:(aq yCm st).2=st:=by simp[aq,t]
   rw[e]at i
   rw[t]at G
   have u:=hid i
   clear i j e V HC HA
   obtain⟨B,k,hv,a2⟩:=f.fin
   have bm:=hid (f.capa hv)
   subst hv
   have a5:R=(l,st):=G.out
   have ad:=hid a5
   have bf:=hid a2
   clear a5 a2 G
   go_wp2_with fail
   go_ret
   exact⟨_,rfl,by rw[ad.out];exact u,z,by rw[ad.out];exact⟨B,k,rfl,bm,bf⟩⟩
  ·have e:(aq yCm st).2=st.next:=by simp[aq,t]
   rw[e]at i
   rw[t]at G
   have u:=hid i
   have b5:=aM t
   clear i j e V HC HA
   go_wp2_with fail
   refine(HF w3 st.next u (by omega)).mono ?_
   rintro _ w4 ⟨v,rfl,i,j,rfl,h3⟩
   have ag:=a9 st.next
   have y:R=listGo a m (l++ [(a st.next).1]) (a st.next).2:=G.out
   obtain⟨bN,H⟩:∃x,(a st.next).2=x:=⟨_,rfl⟩
   rw[H]at y i ag
   clear H G
   obtain⟨h,g⟩:∃x,(a st.next).1=x:=⟨_,rfl⟩
   rw[g]at h3 y ⊢
   (try rw[g]at b)
   clear g
   have G:=hid y
   have an:=hid (z.trans j)
   have C:=(Ext.refl w4).alloc (.cells #[.string h] 9)
   have p:=hid ((f.chg j X).ext C)
   have ba:=hid (i.ext C)
   have I:Stb (fun q=>w.heap.size≤q∧u5.ownBlock≠some q) (w4.alloc (.cells #[.string h] 9)) (jS h [.string h]):=Stb.ext (Stb.weak (fun w2 _ _=>⟨rfl,h3⟩) fun q hq hn=>⟨Nat.le_trans z.size hn,fun e=>by
    have:=(f.own.lt q e).2
    have hn:w3.heap.size≤q:=hn
    omega⟩) C
   have a3:=hid I
   have D:w.heap.size≤(w4.alloc (.cells #[.string h] 9)).heap.size:=Nat.le_trans an.size C.size
   have a1:=hid D
   clear i j C I D y f u z
   go_wp2_with (at_builtin;refine ap _ rfl (.tmp 11) (.tmp 14) 101 rfl w.heap.size 9 ie _ 1 16 Tryz.underlying101 bw bn b0 bk rfl (by decide) _ l.length _ rfl p.own _ _ 1 1 [.string h] rfl (bW w4 [.string h] 9 1 rfl) (by simp[Value.oneCell']) (by unfold maxLen;omega) (by omega) a1 ?_;intro v7 w7 Q o Y)
   have U:=p.push rfl Q o Y a3
   have a0:∀q,u5.ownBlock=some q→w.heap.size≤q:=fun q hq=> (p.own.lt q hq).1
   have Z:=hid (ba.grown o (fun q hq=>Nat.lt_of_lt_of_le X (a0 q hq)))
   have bx:=hid ((an.alloc _).own o a0)
   exact⟨⟨m,bN,_,_,by omega,by rw[List.length_append,List.length_singleton];omega,G,Z,U,bx⟩,by rw[Z.out.posOf,bY.out];omega⟩
end
theorem infoL_row:(Tryz.prog.info? 27).map (fun i=> (i.zero,i.size,i.bytes))=some (some (.slice none 0 0),1,24):=by kernel_rfl
def Elrow (n:Nat) (W:World) (a:List Ex) (v:Value):Prop:=∃B k,v= .slice B a.length k∧a.length≤9223372036854775807∧Stb (n≤·) W (fun w2=>KidsAt w2 B a)
def fO (a:List Ex) (cs:List Value) (w:World):Prop:=∃B k,cs= [.slice B a.length k]∧a.length≤9223372036854775807∧KidsAt w B a
section
variable {P c:Nat} {A:Option Addr} {L:List Tk} {w0 w:World} {s:Ps}
theorem list_row (F:FuncId) (hE:dR F) (b:M (List Ex)) (be:Fwd b) (hp:PsAt 68 P A c L w0 w s) (hL:TkL L)
  (hF:∀(W:World) (st:Ps),PsAt 68 P A c L w0 W st→st.r.length≤s.r.length→Calls Tryz.prog F #[.pointer (some ⟨P,0,none⟩)] W (Ran 68 P A c L w0 W (b st).2 fun v W'=>Elrow W.heap.size W' (b st).1 v)):
  Calls Tryz.prog 56 #[.pointer (some ⟨P,0,none⟩),.func (Fn.func F) #[.pointer (some ⟨P,0,none⟩)] #[]] w
   (Ran 68 P A c L w0 w (listP b s).2 fun v w'=> ∃B k,v= .slice B (listP b s).1.length k∧Stb (w.heap.size≤·) w' (fun w2=>Lst fO 1 w2 B (listP b s).1)):=by
 unfold dR at hE
 obtain⟨ie,bN,bx,b2,bw⟩:=aX infoL_row
 have HF:=hid hF
 have HS:=hid hp
 have ac:=hp.lt
 have b4:=hp.le
 have b6:=hL.len
 have a:Hid (listP b s=listGo b (s.r.length+1) [(b s).1] (b s).2):=rfl
 obtain⟨R,hR⟩:∃R,listP b s=R:=⟨_,rfl⟩
 rw[hR]at a ⊢
 clear hR hF hp
 go_enter Tryz.func56,Tryz.ntmps56
 go_wp2_with fail
 refine(HF w s HS (Nat.le_refl _)).mono ?_
 rintro _ w1 ⟨v,rfl,i,p,j,o,rfl,h3,h4⟩
 have bm:=be s
 obtain⟨bk,I⟩:∃x,(b s).2=x:=⟨_,rfl⟩
 rw[I]at a i bm
 clear I
 obtain⟨g,f⟩:∃x,(b s).1=x:=⟨_,rfl⟩
 rw[f]at h3 h4 ⊢
 (try rw[f]at a)
 clear f
 have Q:=p.size
 have V:Hid (bM fO 27 1 w.heap.size (w1.alloc (.cells #[.slice j g.length o] 27)) (.slice (some ⟨w1.heap.size,0,none⟩) 1 1) [g] [[.slice j g.length o]]):=bM.start [.slice j g.length o] rfl Q (Stb.imp h4 fun w2 h=>⟨j,o,rfl,h3,h⟩)
 have G:=(Ext.refl w1).alloc (.cells #[.slice j g.length o] 27)
 have a9:=hid (i.ext G)
 have a2:=hid (p.ext G)
 clear i p G Q HS
 go_upto_region 2 with fail
 generalize w1.alloc (.cells #[.slice j g.length o] 27)=w2 at*
 go_loopw [5,10] (fun vv _ wr=> ∃(m:Nat) (st:Ps) (l:List (List Ex)) (bd:List (List Value)),st.r.length<m∧l.length+st.r.length≤s.r.length+1∧R=listGo b m l st∧PsAt 68 P A c L w0 wr st∧bM fO 27 1 w.heap.size wr vv l bd∧Chg P w wr) (fun _ _ wr=>20001-posOf P wr)
 case atStart=>exact⟨_,bk,_,_,by omega,by simp;omega,a,a9,V,a2⟩
 case round=>
  obtain⟨m,st,l,bd,hm,b9,hI,t,U,an⟩:=hrel
  clear a a9 V a2
  obtain⟨m,rfl⟩:∃x,m=x+1:=⟨m-1,by omega⟩
  rw[listGo]at hI
  have J:=hid hI
  have Z:=hid U
  have HC:=hid an
  have b1:Hid (posOf P wr=L.length-st.r.length):=t.posOf
  have b3:=t.le
  have b5:=t.ne
  have HA:=hid (ai t hL yCm)
  clear hI U an t
  go_wp2_with fail
  refine HA.mono ?_
  rintro _ w3 ⟨v,rfl,i,p,rfl⟩
  have E:=hid (HC.trans p)
  have n:=hid (Z.chg p ac)
  cases z:isS yCm st
  ·have e:(aq yCm st).2=st:=by simp[aq,z]
   rw[e]at i
   rw[z]at J
   have C:=hid i
   clear i p e Z HC HA
   obtain⟨B,k,hv,a5⟩:=n.fin
   skip
   subst hv
   have ba:R=(l,st):=J.out
   have ax:=hid ba
   have bn:=hid a5
   clear ba a5 J
   go_wp2_with fail
   go_ret
   exact⟨_,rfl,by rw[ax.out];exact C,E,by rw[ax.out];exact⟨B,k,rfl,bn⟩⟩
  ·have e:(aq yCm st).2=st.next:=by simp[aq,z]
   rw[e]at i
   rw[z]at J
   have C:=hid i
   have b7:=aM z
   clear i p e Z HC HA
   go_wp2_with fail
   refine(HF w3 st.next C (by omega)).mono ?_
   rintro _ w4 ⟨v,rfl,i,p,j,o,rfl,h3,h4⟩
   have a0:=be st.next
   have D:R=listGo b m (l++ [(b st.next).1]) (b st.next).2:=J.out
   obtain⟨b0,K⟩:∃x,(b st.next).2=x:=⟨_,rfl⟩
   rw[K]at D i a0
   clear K J
   obtain⟨g,f⟩:∃x,(b st.next).1=x:=⟨_,rfl⟩
   rw[f]at h3 h4 D ⊢
   (try rw[f]at a)
   clear f
   have J:=hid D
   have a1:=hid (E.trans p)
   have G:=(Ext.refl w4).alloc (.cells #[.slice j g.length o] 27)
   have y:=hid ((n.chg p ac).ext G)
   have bf:=hid (i.ext G)
   have O:Stb (fun q=>w.heap.size≤q∧u5.ownBlock≠some q) (w4.alloc (.cells #[.slice j g.length o] 27)) (fO g [.slice j g.length o]):=Stb.ext (Stb.weak (Stb.imp h4 fun w2 h=>⟨j,o,rfl,h3,h⟩) fun q hq hn=>⟨Nat.le_trans E.size hn,fun e=>by
    have:=(n.own.lt q e).2
    have hn:w3.heap.size≤q:=hn
    omega⟩) G
   have a6:=hid O
   have H:w.heap.size≤(w4.alloc (.cells #[.slice j g.length o] 27)).heap.size:=Nat.le_trans a1.size G.size
   have a4:=hid H
   clear i p G O H D n C E
   go_wp2_with (at_builtin;refine ap _ rfl (.tmp 11) (.tmp 14) 30 rfl w.heap.size 27 ie _ 1 24 Tryz.underlying30 bN bx b2 bw rfl (by decide) _ l.length _ rfl y.own _ _ 1 1 [.slice j g.length o] rfl (bW w4 [.slice j g.length o] 27 1 rfl) (by simp[Value.oneCell']) (by unfold maxLen;omega) (by omega) a4 ?_;intro v7 w7 X u ad)
   have Y:=y.push rfl X u ad a6
   have a3:∀q,u5.ownBlock=some q→w.heap.size≤q:=fun q hq=> (y.own.lt q hq).1
   have ag:=hid (bf.grown u (fun q hq=>Nat.lt_of_lt_of_le ac (a3 q hq)))
   have bY:=hid ((a1.alloc _).own u a3)
   exact⟨⟨m,b0,_,_,by omega,by rw[List.length_append,List.length_singleton];omega,J,ag,Y,bY⟩,by rw[ag.out.posOf,b1.out];omega⟩
end
theorem infoL_asg:(Tryz.prog.info? 82).map (fun i=> (i.zero,i.size,i.bytes))=some (some (.agg #[.string ⟨#[]⟩,.int .i64 0,.int .i64 0,.string ⟨#[]⟩,.string ⟨#[]⟩,.int .i64 0,.int .i64 0,.int .i64 0,.string ⟨#[]⟩,.slice none 0 0]),10,128):=by kernel_rfl
def Elasg (n:Nat) (W:World) (a:Asg) (v:Value):Prop:=∃B k c,v= .agg #[.string a.cl,.int .i64 a.ix,.int .i64 a.ex.d.op,.string a.ex.d.tb,.string a.ex.d.nm,.int .i64 a.ex.d.ix,.int .i64 a.ex.d.vk,.int .i64 a.ex.d.vi,.string a.ex.d.vt,.slice B k c]∧(a.cl.size≤9223372036854775807∧I64 a.ix)∧Stb (n≤·) W (fun w2=>ExV w2 a.ex B k c)
def fP (a:Asg) (cs:List Value) (w:World):Prop:=∃B k c,cs= [.string a.cl,.int .i64 a.ix,.int .i64 a.ex.d.op,.string a.ex.d.tb,.string a.ex.d.nm,.int .i64 a.ex.d.ix,.int .i64 a.ex.d.vk,.int .i64 a.ex.d.vi,.string a.ex.d.vt,.slice B k c]∧(a.cl.size≤9223372036854775807∧I64 a.ix)∧ExV w a.ex B k c
section
variable {P c:Nat} {A:Option Addr} {L:List Tk} {w0 w:World} {s:Ps}
theorem list_asg (F:FuncId) (hE:dR F) (b:M (Asg)) (bf:Fwd b) (hp:PsAt 68 P A c L w0 w s) (hL:TkL L)
  (hF:∀(W:World) (st:Ps),PsAt 68 P A c L w0 W st→st.r.length≤s.r.length→Calls Tryz.prog F #[.pointer (some ⟨P,0,none⟩)] W (Ran 68 P A c L w0 W (b st).2 fun v W'=>Elasg W.heap.size W' (b st).1 v)):
  Calls Tryz.prog 58 #[.pointer (some ⟨P,0,none⟩),.func (Fn.func F) #[.pointer (some ⟨P,0,none⟩)] #[]] w
   (Ran 68 P A c L w0 w (listP b s).2 fun v w'=> ∃B k,v= .slice B (listP b s).1.length k∧Stb (w.heap.size≤·) w' (fun w2=>Lst fP 10 w2 B (listP b s).1)):=by
 unfold dR at hE
 obtain⟨ie,bY,bN,b3,bx⟩:=aX infoL_asg
 have HF:=hid hF
 have HS:=hid hp
 have ac:=hp.lt
 have b5:=hp.le
 have b7:=hL.len
 have a:Hid (listP b s=listGo b (s.r.length+1) [(b s).1] (b s).2):=rfl
 obtain⟨R,hR⟩:∃R,listP b s=R:=⟨_,rfl⟩
 rw[hR]at a ⊢
 clear hR hF hp
 go_enter Tryz.func58,Tryz.ntmps58
 go_wp2_with fail
 refine(HF w s HS (Nat.le_refl _)).mono ?_
 rintro _ w1 ⟨v,rfl,j,p,g,o,c1,rfl,h3,h4⟩
 have bn:=bf s
 obtain⟨bm,I⟩:∃x,(b s).2=x:=⟨_,rfl⟩
 rw[I]at a j bn
 clear I
 obtain⟨e1,f⟩:∃x,(b s).1=x:=⟨_,rfl⟩
 rw[f]at h3 h4 ⊢
 (try rw[f]at a)
 clear f
 obtain⟨cl,i,⟨op,tb,nm,ix,vk,vi,vt⟩,ks⟩:=e1
 simp only[Ex.d]
 have Q:=p.size
 have V:Hid (bM fP 82 10 w.heap.size (w1.alloc (.cells #[.string cl,.int .i64 i,.int .i64 op,.string tb,.string nm,.int .i64 ix,.int .i64 vk,.int .i64 vi,.string vt,.slice g o c1] 82)) (.slice (some ⟨w1.heap.size,0,none⟩) 1 1) [⟨cl,i,.mk ⟨op,tb,nm,ix,vk,vi,vt⟩ ks⟩] [[.string cl,.int .i64 i,.int .i64 op,.string tb,.string nm,.int .i64 ix,.int .i64 vk,.int .i64 vi,.string vt,.slice g o c1]]):=bM.start [.string cl,.int .i64 i,.int .i64 op,.string tb,.string nm,.int .i64 ix,.int .i64 vk,.int .i64 vi,.string vt,.slice g o c1] rfl Q (Stb.imp h4 fun w2 h=>⟨g,o,c1,rfl,h3,h⟩)
 have G:=(Ext.refl w1).alloc (.cells #[.string cl,.int .i64 i,.int .i64 op,.string tb,.string nm,.int .i64 ix,.int .i64 vk,.int .i64 vi,.string vt,.slice g o c1] 82)
 have ba:=hid (j.ext G)
 have a3:=hid (p.ext G)
 clear j p G Q HS
 go_upto_region 2 with fail
 generalize w1.alloc (.cells #[.string cl,.int .i64 i,.int .i64 op,.string tb,.string nm,.int .i64 ix,.int .i64 vk,.int .i64 vi,.string vt,.slice g o c1] 82)=w2 at*
 go_loopw [5,10] (fun vv _ wr=> ∃(m:Nat) (st:Ps) (l:List (Asg)) (be:List (List Value)),st.r.length<m∧l.length+st.r.length≤s.r.length+1∧R=listGo b m l st∧PsAt 68 P A c L w0 wr st∧bM fP 82 10 w.heap.size wr vv l be∧Chg P w wr) (fun _ _ wr=>20001-posOf P wr)
 case atStart=>exact⟨_,bm,_,_,by omega,by simp;omega,a,ba,V,a3⟩
 case round=>
  obtain⟨m,st,l,be,hm,cb,hI,t,U,an⟩:=hrel
  clear a ba V a3
  obtain⟨m,rfl⟩:∃x,m=x+1:=⟨m-1,by omega⟩
  rw[listGo]at hI
  have J:=hid hI
  have Z:=hid U
  have HC:=hid an
  have b2:Hid (posOf P wr=L.length-st.r.length):=t.posOf
  have b4:=t.le
  have b6:=t.ne
  have HA:=hid (ai t hL yCm)
  clear hI U an t
  go_wp2_with fail
  refine HA.mono ?_
  rintro _ w3 ⟨v,rfl,j,p,rfl⟩
  have E:=hid (HC.trans p)
  have n:=hid (Z.chg p ac)
  cases z:isS yCm st
  ·have e:(aq yCm st).2=st:=by simp[aq,z]
   rw[e]at j
   rw[z]at J
   have C:=hid j
   clear j p e Z HC HA
   obtain⟨B,k,hv,a6⟩:=n.fin
   skip
   subst hv
   have bd:R=(l,st):=J.out
   have a0:=hid bd
   have bw:=hid a6
   clear bd a6 J
   go_wp2_with fail
   go_ret
   exact⟨_,rfl,by rw[a0.out];exact C,E,by rw[a0.out];exact⟨B,k,rfl,bw⟩⟩
  ·have e:(aq yCm st).2=st.next:=by simp[aq,z]
   rw[e]at j
   rw[z]at J
   have C:=hid j
   have b9:=aM z
   clear j p e Z HC HA
   go_wp2_with fail
   refine(HF w3 st.next C (by omega)).mono ?_
   rintro _ w4 ⟨v,rfl,j,p,g,o,c1,rfl,h3,h4⟩
   have a1:=bf st.next
   have D:R=listGo b m (l++ [(b st.next).1]) (b st.next).2:=J.out
   obtain⟨b1,K⟩:∃x,(b st.next).2=x:=⟨_,rfl⟩
   rw[K]at D j a1
   clear K J
   obtain⟨e1,f⟩:∃x,(b st.next).1=x:=⟨_,rfl⟩
   rw[f]at h3 h4 D ⊢
   (try rw[f]at a)
   clear f
   obtain⟨cl,i,⟨op,tb,nm,ix,vk,vi,vt⟩,ks⟩:=e1
   simp only[Ex.d]
   have J:=hid D
   have a2:=hid (E.trans p)
   have G:=(Ext.refl w4).alloc (.cells #[.string cl,.int .i64 i,.int .i64 op,.string tb,.string nm,.int .i64 ix,.int .i64 vk,.int .i64 vi,.string vt,.slice g o c1] 82)
   have y:=hid ((n.chg p ac).ext G)
   have bk:=hid (j.ext G)
   have O:Stb (fun q=>w.heap.size≤q∧u5.ownBlock≠some q) (w4.alloc (.cells #[.string cl,.int .i64 i,.int .i64 op,.string tb,.string nm,.int .i64 ix,.int .i64 vk,.int .i64 vi,.string vt,.slice g o c1] 82)) (fP ⟨cl,i,.mk ⟨op,tb,nm,ix,vk,vi,vt⟩ ks⟩ [.string cl,.int .i64 i,.int .i64 op,.string tb,.string nm,.int .i64 ix,.int .i64 vk,.int .i64 vi,.string vt,.slice g o c1]):=Stb.ext (Stb.weak (Stb.imp h4 fun w2 h=>⟨g,o,c1,rfl,h3,h⟩) fun q hq hn=>⟨Nat.le_trans E.size hn,fun e=>by
    have:=(n.own.lt q e).2
    have hn:w3.heap.size≤q:=hn
    omega⟩) G
   have a9:=hid O
   have H:w.heap.size≤(w4.alloc (.cells #[.string cl,.int .i64 i,.int .i64 op,.string tb,.string nm,.int .i64 ix,.int .i64 vk,.int .i64 vi,.string vt,.slice g o c1] 82)).heap.size:=Nat.le_trans a2.size G.size
   have a5:=hid H
   clear j p G O H D n C E
   go_wp2_with (at_builtin;refine ap _ rfl (.tmp 11) (.tmp 14) 31 rfl w.heap.size 82 ie _ 10 128 Tryz.underlying31 bY bN b3 bx rfl (by decide) _ l.length _ rfl y.own _ _ 1 1 [.string cl,.int .i64 i,.int .i64 op,.string tb,.string nm,.int .i64 ix,.int .i64 vk,.int .i64 vi,.string vt,.slice g o c1] rfl (bW w4 [.string cl,.int .i64 i,.int .i64 op,.string tb,.string nm,.int .i64 ix,.int .i64 vk,.int .i64 vi,.string vt,.slice g o c1] 82 10 rfl) (by simp[Value.oneCell']) (by unfold maxLen;omega) (by omega) a5 ?_;intro v7 w7 X u ad)
   have Y:=y.push rfl X u ad a9
   have a4:∀q,u5.ownBlock=some q→w.heap.size≤q:=fun q hq=> (y.own.lt q hq).1
   have ag:=hid (bk.grown u (fun q hq=>Nat.lt_of_lt_of_le ac (a4 q hq)))
   have b0:=hid ((a2.alloc _).own u a4)
   exact⟨⟨m,b1,_,_,by omega,by rw[List.length_append,List.length_singleton];omega,J,ag,Y,b0⟩,by rw[ag.out.posOf,b2.out];omega⟩
end
theorem infoL_itm:(Tryz.prog.info? 84).map (fun i=> (i.zero,i.size,i.bytes))=some (some (.agg #[.int .i64 0,.int .i64 0,.string ⟨#[]⟩,.string ⟨#[]⟩,.int .i64 0,.int .i64 0,.int .i64 0,.string ⟨#[]⟩,.slice none 0 0]),9,112):=by kernel_rfl
def Elitm (n:Nat) (W:World) (a:Itm) (v:Value):Prop:=∃B k c,v= .agg #[.int .i64 a.ag,.int .i64 a.ex.d.op,.string a.ex.d.tb,.string a.ex.d.nm,.int .i64 a.ex.d.ix,.int .i64 a.ex.d.vk,.int .i64 a.ex.d.vi,.string a.ex.d.vt,.slice B k c]∧I64 a.ag∧Stb (n≤·) W (fun w2=>ExV w2 a.ex B k c)
def bO (a:Itm) (cs:List Value) (w:World):Prop:=∃B k c,cs= [.int .i64 a.ag,.int .i64 a.ex.d.op,.string a.ex.d.tb,.string a.ex.d.nm,.int .i64 a.ex.d.ix,.int .i64 a.ex.d.vk,.int .i64 a.ex.d.vi,.string a.ex.d.vt,.slice B k c]∧I64 a.ag∧ExV w a.ex B k c
section
variable {P c:Nat} {A:Option Addr} {L:List Tk} {w0 w:World} {s:Ps}
theorem list_itm (F:FuncId) (hE:dR F) (b:M (Itm)) (be:Fwd b) (hp:PsAt 68 P A c L w0 w s) (hL:TkL L)
  (hF:∀(W:World) (st:Ps),PsAt 68 P A c L w0 W st→st.r.length≤s.r.length→Calls Tryz.prog F #[.pointer (some ⟨P,0,none⟩)] W (Ran 68 P A c L w0 W (b st).2 fun v W'=>Elitm W.heap.size W' (b st).1 v)):
  Calls Tryz.prog 102 #[.pointer (some ⟨P,0,none⟩),.func (Fn.func F) #[.pointer (some ⟨P,0,none⟩)] #[]] w
   (Ran 68 P A c L w0 w (listP b s).2 fun v w'=> ∃B k,v= .slice B (listP b s).1.length k∧Stb (w.heap.size≤·) w' (fun w2=>Lst bO 9 w2 B (listP b s).1)):=by
 unfold dR at hE
 obtain⟨ie,bN,bx,b2,bw⟩:=aX infoL_itm
 have HF:=hid hF
 have HS:=hid hp
 have Z:=hp.lt
 have b4:=hp.le
 have b6:=hL.len
 have a:Hid (listP b s=listGo b (s.r.length+1) [(b s).1] (b s).2):=rfl
 obtain⟨R,hR⟩:∃R,listP b s=R:=⟨_,rfl⟩
 rw[hR]at a ⊢
 clear hR hF hp
 go_enter Tryz.func102,Tryz.ntmps102
 go_wp2_with fail
 refine(HF w s HS (Nat.le_refl _)).mono ?_
 rintro _ w1 ⟨v,rfl,i,o,g,n,c1,rfl,h3,h4⟩
 have bm:=be s
 obtain⟨bk,H⟩:∃x,(b s).2=x:=⟨_,rfl⟩
 rw[H]at a i bm
 clear H
 obtain⟨e1,f⟩:∃x,(b s).1=x:=⟨_,rfl⟩
 rw[f]at h3 h4 ⊢
 (try rw[f]at a)
 clear f
 obtain⟨ag,⟨op,tb,nm,ix,vk,vi,vt⟩,ks⟩:=e1
 simp only[Ex.d]
 have O:=o.size
 have U:Hid (bM bO 84 9 w.heap.size (w1.alloc (.cells #[.int .i64 ag,.int .i64 op,.string tb,.string nm,.int .i64 ix,.int .i64 vk,.int .i64 vi,.string vt,.slice g n c1] 84)) (.slice (some ⟨w1.heap.size,0,none⟩) 1 1) [⟨ag,.mk ⟨op,tb,nm,ix,vk,vi,vt⟩ ks⟩] [[.int .i64 ag,.int .i64 op,.string tb,.string nm,.int .i64 ix,.int .i64 vk,.int .i64 vi,.string vt,.slice g n c1]]):=bM.start [.int .i64 ag,.int .i64 op,.string tb,.string nm,.int .i64 ix,.int .i64 vk,.int .i64 vi,.string vt,.slice g n c1] rfl O (Stb.imp h4 fun w2 h=>⟨g,n,c1,rfl,h3,h⟩)
 have E:=(Ext.refl w1).alloc (.cells #[.int .i64 ag,.int .i64 op,.string tb,.string nm,.int .i64 ix,.int .i64 vk,.int .i64 vi,.string vt,.slice g n c1] 84)
 have a9:=hid (i.ext E)
 have a2:=hid (o.ext E)
 clear i o E O HS
 go_upto_region 2 with fail
 generalize w1.alloc (.cells #[.int .i64 ag,.int .i64 op,.string tb,.string nm,.int .i64 ix,.int .i64 vk,.int .i64 vi,.string vt,.slice g n c1] 84)=w2 at*
 go_loopw [5,10] (fun vv _ wr=> ∃(m:Nat) (st:Ps) (l:List (Itm)) (bd:List (List Value)),st.r.length<m∧l.length+st.r.length≤s.r.length+1∧R=listGo b m l st∧PsAt 68 P A c L w0 wr st∧bM bO 84 9 w.heap.size wr vv l bd∧Chg P w wr) (fun _ _ wr=>20001-posOf P wr)
 case atStart=>exact⟨_,bk,_,_,by omega,by simp;omega,a,a9,U,a2⟩
 case round=>
  obtain⟨m,st,l,bd,hm,b9,hI,p,Q,an⟩:=hrel
  clear a a9 U a2
  obtain⟨m,rfl⟩:∃x,m=x+1:=⟨m-1,by omega⟩
  rw[listGo]at hI
  have I:=hid hI
  have Y:=hid Q
  have HC:=hid an
  have b1:Hid (posOf P wr=L.length-st.r.length):=p.posOf
  have b3:=p.le
  have b5:=p.ne
  have HA:=hid (ai p hL yCm)
  clear hI Q an p
  go_wp2_with fail
  refine HA.mono ?_
  rintro _ w3 ⟨v,rfl,i,o,rfl⟩
  have D:=hid (HC.trans o)
  have j:=hid (Y.chg o Z)
  cases y:isS yCm st
  ·have e:(aq yCm st).2=st:=by simp[aq,y]
   rw[e]at i
   rw[y]at I
   have z:=hid i
   clear i o e Y HC HA
   obtain⟨B,k,hv,a5⟩:=j.fin
   skip
   subst hv
   have ba:R=(l,st):=I.out
   have ax:=hid ba
   have bn:=hid a5
   clear ba a5 I
   go_wp2_with fail
   go_ret
   exact⟨_,rfl,by rw[ax.out];exact z,D,by rw[ax.out];exact⟨B,k,rfl,bn⟩⟩
  ·have e:(aq yCm st).2=st.next:=by simp[aq,y]
   rw[e]at i
   rw[y]at I
   have z:=hid i
   have b7:=aM y
   clear i o e Y HC HA
   go_wp2_with fail
   refine(HF w3 st.next z (by omega)).mono ?_
   rintro _ w4 ⟨v,rfl,i,o,g,n,c1,rfl,h3,h4⟩
   have a0:=be st.next
   have C:R=listGo b m (l++ [(b st.next).1]) (b st.next).2:=I.out
   obtain⟨b0,J⟩:∃x,(b st.next).2=x:=⟨_,rfl⟩
   rw[J]at C i a0
   clear J I
   obtain⟨e1,f⟩:∃x,(b st.next).1=x:=⟨_,rfl⟩
   rw[f]at h3 h4 C ⊢
   (try rw[f]at a)
   clear f
   obtain⟨ag,⟨op,tb,nm,ix,vk,vi,vt⟩,ks⟩:=e1
   simp only[Ex.d]
   have I:=hid C
   have a1:=hid (D.trans o)
   have E:=(Ext.refl w4).alloc (.cells #[.int .i64 ag,.int .i64 op,.string tb,.string nm,.int .i64 ix,.int .i64 vk,.int .i64 vi,.string vt,.slice g n c1] 84)
   have u:=hid ((j.chg o Z).ext E)
   have bf:=hid (i.ext E)
   have K:Stb (fun q=>w.heap.size≤q∧u5.ownBlock≠some q) (w4.alloc (.cells #[.int .i64 ag,.int .i64 op,.string tb,.string nm,.int .i64 ix,.int .i64 vk,.int .i64 vi,.string vt,.slice g n c1] 84)) (bO ⟨ag,.mk ⟨op,tb,nm,ix,vk,vi,vt⟩ ks⟩ [.int .i64 ag,.int .i64 op,.string tb,.string nm,.int .i64 ix,.int .i64 vk,.int .i64 vi,.string vt,.slice g n c1]):=Stb.ext (Stb.weak (Stb.imp h4 fun w2 h=>⟨g,n,c1,rfl,h3,h⟩) fun q hq hn=>⟨Nat.le_trans D.size hn,fun e=>by
    have:=(j.own.lt q e).2
    have hn:w3.heap.size≤q:=hn
    omega⟩) E
   have a6:=hid K
   have G:w.heap.size≤(w4.alloc (.cells #[.int .i64 ag,.int .i64 op,.string tb,.string nm,.int .i64 ix,.int .i64 vk,.int .i64 vi,.string vt,.slice g n c1] 84)).heap.size:=Nat.le_trans a1.size E.size
   have a4:=hid G
   clear i o E K G C j z D
   go_wp2_with (at_builtin;refine ap _ rfl (.tmp 11) (.tmp 14) 32 rfl w.heap.size 84 ie _ 9 112 Tryz.underlying32 bN bx b2 bw rfl (by decide) _ l.length _ rfl u.own _ _ 1 1 [.int .i64 ag,.int .i64 op,.string tb,.string nm,.int .i64 ix,.int .i64 vk,.int .i64 vi,.string vt,.slice g n c1] rfl (bW w4 [.int .i64 ag,.int .i64 op,.string tb,.string nm,.int .i64 ix,.int .i64 vk,.int .i64 vi,.string vt,.slice g n c1] 84 9 rfl) (by simp[Value.oneCell']) (by unfold maxLen;omega) (by omega) a4 ?_;intro v7 w7 V t ac)
   have X:=u.push rfl V t ac a6
   have a3:∀q,u5.ownBlock=some q→w.heap.size≤q:=fun q hq=> (u.own.lt q hq).1
   have ad:=hid (bf.grown t (fun q hq=>Nat.lt_of_lt_of_le Z (a3 q hq)))
   have bY:=hid ((a1.alloc _).own t a3)
   exact⟨⟨m,b0,_,_,by omega,by rw[List.length_append,List.length_singleton];omega,I,ad,X,bY⟩,by rw[ad.out.posOf,b1.out];omega⟩
end
theorem infoL_ord:(Tryz.prog.info? 88).map (fun i=> (i.zero,i.size,i.bytes))=some (some (.agg #[.int .i64 0,.bool false]),2,16):=by kernel_rfl
def Elord (n:Nat) (W:World) (a:Ord') (v:Value):Prop:=v= .agg #[.int .i64 a.it,.bool a.ds]∧I64 a.it
def ea (a:Ord') (cs:List Value) (w:World):Prop:=cs= [.int .i64 a.it,.bool a.ds]∧I64 a.it
section
variable {P c:Nat} {A:Option Addr} {L:List Tk} {w0 w:World} {s:Ps}
theorem list_ord (F:FuncId) (hE:dR F) (b:M (Ord')) (a6:Fwd b) (hp:PsAt 68 P A c L w0 w s) (hL:TkL L)
  (hF:∀(W:World) (st:Ps),PsAt 68 P A c L w0 W st→st.r.length≤s.r.length→Calls Tryz.prog F #[.pointer (some ⟨P,0,none⟩)] W (Ran 68 P A c L w0 W (b st).2 fun v W'=>Elord W.heap.size W' (b st).1 v)):
  Calls Tryz.prog 107 #[.pointer (some ⟨P,0,none⟩),.func (Fn.func F) #[.pointer (some ⟨P,0,none⟩)] #[]] w
   (Ran 68 P A c L w0 w (listP b s).2 fun v w'=> ∃B k,v= .slice B (listP b s).1.length k∧Stb (w.heap.size≤·) w' (fun w2=>Lst ea 2 w2 B (listP b s).1)):=by
 unfold dR at hE
 obtain⟨ie,bm,bk,bN,bf⟩:=aX infoL_ord
 have HF:=hid hF
 have HS:=hid hp
 have V:=hp.lt
 have b0:=hp.le
 have b2:=hL.len
 have a:Hid (listP b s=listGo b (s.r.length+1) [(b s).1] (b s).2):=rfl
 obtain⟨R,hR⟩:∃R,listP b s=R:=⟨_,rfl⟩
 rw[hR]at a ⊢
 clear hR hF hp
 go_enter Tryz.func107,Tryz.ntmps107
 go_wp2_with fail
 refine(HF w s HS (Nat.le_refl _)).mono ?_
 rintro _ w1 ⟨v,rfl,g,i,rfl,h3⟩
 have bd:=a6 s
 obtain⟨ba,D⟩:∃x,(b s).2=x:=⟨_,rfl⟩
 rw[D]at a g bd
 clear D
 obtain⟨e1,f⟩:∃x,(b s).1=x:=⟨_,rfl⟩
 rw[f]at h3 ⊢
 (try rw[f]at a)
 clear f
 obtain⟨it,ds⟩:=e1
 simp only[]
 have I:=i.size
 have K:Hid (bM ea 88 2 w.heap.size (w1.alloc (.cells #[.int .i64 it,.bool ds] 88)) (.slice (some ⟨w1.heap.size,0,none⟩) 1 1) [⟨it,ds⟩] [[.int .i64 it,.bool ds]]):=bM.start [.int .i64 it,.bool ds] rfl I (fun w2 _ _=>⟨rfl,h3⟩)
 have z:=(Ext.refl w1).alloc (.cells #[.int .i64 it,.bool ds] 88)
 have a3:=hid (g.ext z)
 have an:=hid (i.ext z)
 clear g i z I HS
 go_upto_region 2 with fail
 generalize w1.alloc (.cells #[.int .i64 it,.bool ds] 88)=w2 at*
 go_loopw [5,10] (fun vv _ wr=> ∃(m:Nat) (st:Ps) (l:List (Ord')) (a5:List (List Value)),st.r.length<m∧l.length+st.r.length≤s.r.length+1∧R=listGo b m l st∧PsAt 68 P A c L w0 wr st∧bM ea 88 2 w.heap.size wr vv l a5∧Chg P w wr) (fun _ _ wr=>20001-posOf P wr)
 case atStart=>exact⟨_,ba,_,_,by omega,by simp;omega,a,a3,K,an⟩
 case round=>
  obtain⟨m,st,l,a5,hm,b4,hI,j,J,Z⟩:=hrel
  clear a a3 K an
  obtain⟨m,rfl⟩:∃x,m=x+1:=⟨m-1,by omega⟩
  rw[listGo]at hI
  have E:=hid hI
  have U:=hid J
  have HC:=hid Z
  have bx:Hid (posOf P wr=L.length-st.r.length):=j.posOf
  have bY:=j.le
  have b1:=j.ne
  have HA:=hid (ai j hL yCm)
  clear hI J Z j
  go_wp2_with fail
  refine HA.mono ?_
  rintro _ w3 ⟨v,rfl,g,i,rfl⟩
  have y:=hid (HC.trans i)
  have h:=hid (U.chg i V)
  cases p:isS yCm st
  ·have e:(aq yCm st).2=st:=by simp[aq,p]
   rw[e]at g
   rw[p]at E
   have t:=hid g
   clear g i e U HC HA
   obtain⟨B,k,hv,a1⟩:=h.fin
   skip
   subst hv
   have a4:R=(l,st):=E.out
   have ac:=hid a4
   have be:=hid a1
   clear a4 a1 E
   go_wp2_with fail
   go_ret
   exact⟨_,rfl,by rw[ac.out];exact t,y,by rw[ac.out];exact⟨B,k,rfl,be⟩⟩
  ·have e:(aq yCm st).2=st.next:=by simp[aq,p]
   rw[e]at g
   rw[p]at E
   have t:=hid g
   have b3:=aM p
   clear g i e U HC HA
   go_wp2_with fail
   refine(HF w3 st.next t (by omega)).mono ?_
   rintro _ w4 ⟨v,rfl,g,i,rfl,h3⟩
   have ad:=a6 st.next
   have u:R=listGo b m (l++ [(b st.next).1]) (b st.next).2:=E.out
   obtain⟨bw,G⟩:∃x,(b st.next).2=x:=⟨_,rfl⟩
   rw[G]at u g ad
   clear G E
   obtain⟨e1,f⟩:∃x,(b st.next).1=x:=⟨_,rfl⟩
   rw[f]at h3 u ⊢
   (try rw[f]at a)
   clear f
   obtain⟨it,ds⟩:=e1
   simp only[]
   have E:=hid u
   have ag:=hid (y.trans i)
   have z:=(Ext.refl w4).alloc (.cells #[.int .i64 it,.bool ds] 88)
   have o:=hid ((h.chg i V).ext z)
   have a9:=hid (g.ext z)
   have H:Stb (fun q=>w.heap.size≤q∧u5.ownBlock≠some q) (w4.alloc (.cells #[.int .i64 it,.bool ds] 88)) (ea ⟨it,ds⟩ [.int .i64 it,.bool ds]):=Stb.ext (Stb.weak (fun w2 _ _=>⟨rfl,h3⟩) fun q hq hn=>⟨Nat.le_trans y.size hn,fun e=>by
    have:=(h.own.lt q e).2
    have hn:w3.heap.size≤q:=hn
    omega⟩) z
   have a2:=hid H
   have C:w.heap.size≤(w4.alloc (.cells #[.int .i64 it,.bool ds] 88)).heap.size:=Nat.le_trans ag.size z.size
   have a0:=hid C
   clear g i z H C u h t y
   go_wp2_with (at_builtin;refine ap _ rfl (.tmp 11) (.tmp 14) 38 rfl w.heap.size 88 ie _ 2 16 Tryz.underlying38 bm bk bN bf rfl (by decide) _ l.length _ rfl o.own _ _ 1 1 [.int .i64 it,.bool ds] rfl (bW w4 [.int .i64 it,.bool ds] 88 2 rfl) (by simp[Value.oneCell']) (by unfold maxLen;omega) (by omega) a0 ?_;intro v7 w7 O n X)
   have Q:=o.push rfl O n X a2
   have ax:∀q,u5.ownBlock=some q→w.heap.size≤q:=fun q hq=> (o.own.lt q hq).1
   have Y:=hid (a9.grown n (fun q hq=>Nat.lt_of_lt_of_le V (ax q hq)))
   have bn:=hid ((ag.alloc _).own n ax)
   exact⟨⟨m,bw,_,_,by omega,by rw[List.length_append,List.length_singleton];omega,E,Y,Q,bn⟩,by rw[Y.out.posOf,bx.out];omega⟩
end
end
section
open Lx (Tk)
def TFit (k:Nat) (x:List UInt8) (N:Nat):Prop:=k≤5∧k≠0∧x.length≤N+16∧(k=3→x≠[]∧(∀c∈x,48≤c.toNat∧c.toNat≤57)∧Lx.digVal x≤2147483648∧(Lx.digVal x=0↔x= [48]))
theorem num_fit (c:UInt8) (r:List UInt8) (hd:Lx.isDigit c=true) (k:Nat) (x:List UInt8) (n:Nat) (h:Lx.numL (c::r)= .tok k x n):TFit k x (c::r).length:=by
 unfold Lx.numL at h
 split at h
 ·cases h
 ·next h1=>
  split at h
  ·cases h
  ·next h2=>
   injection h with hk hx hn
   subst hk
   have g:=Lx.span_all Lx.isDigit (c::r)
   rw[hx]at g h2
   have F:x.length≤(c::r).length:=by rw[←hx];simp[List.length_take];omega
   have f:∀c∈x,48≤c.toNat∧c.toNat≤57:=fun d B=>by
    have:=g d B
    simpa[Lx.isDigit] using this
   have q:1≤Lx.spanN Lx.isDigit (c::r):=by rw[Lx.spanN,if_pos hd];omega
   have l:x≠[]:=by
    rw[←hx]
    intro e
    have:=congrArg List.length e
    rw[List.length_take]at this
    simp at this
    omega
   refine⟨by omega,by omega,by omega,fun _=>⟨l,f,by omega,?_⟩⟩
   constructor
   ·intro u
    cases x with
    |nil=>exact absurd rfl l
    |cons a y=>
     rw[Lx.dv_cons]at u
     have E:=f a (List.mem_cons_self ..)
     have C:0<10^y.length:=Nat.pow_pos (by omega)
     have D:(a.toNat-48)*10^y.length=0:=by omega
     have t:a.toNat-48=0:=by
      rcases Nat.mul_eq_zero.1 D with h|h
      ·exact h
      ·omega
     have j:a=48:=by
      apply UInt8.toNat_inj.1
      show a.toNat=48
      omega
     subst j
     have o:((48:UInt8)::y).length=min (Lx.spanN Lx.isDigit (c::r)) (c::r).length:=by rw[←hx,List.length_take]
     have i:(c::r).head? =some 48:=by
      cases p:Lx.spanN Lx.isDigit (c::r)with
      |zero=>omega
      |succ m=>
       rw[p,List.take_succ_cons]at hx
       injection hx with hc _
       rw[hc];rfl
     have:¬1<Lx.spanN Lx.isDigit (c::r):=fun h=>h1 (.inl ⟨h,i⟩)
     cases y with
     |nil=>rfl
     |cons b z=>simp only[List.length_cons]at o;omega
   ·intro e
    rw[e];rfl
theorem tok_fit (c:UInt8) (r:List UInt8) (k:Nat) (x:List UInt8) (n:Nat) (h:Lx.tokL (c::r)= .tok k x n):TFit k x (c::r).length:=by
 rw[Lx.tokL]at h
 split at h
 ·unfold Lx.wordL at h
  split at h
  ·injection h with hk hx hn
   subst hk
   exact⟨by omega,by omega,by rw[←hx,List.length_map,List.length_take];omega,fun e=>by omega⟩
  ·split at h
   ·cases h
   ·injection h with hk hx hn
    subst hk
    exact⟨by omega,by omega,by rw[←hx,List.length_map,List.length_take];omega,fun e=>by omega⟩
 ·split at h
  ·next hd=>exact num_fit c r hd k x n h
  ·split at h
   ·unfold Lx.textL at h
    split at h
    ·cases h
    ·split at h
     ·cases h
     ·injection h with hk hx hn
      subst hk
      rw[←hx]
      exact⟨by omega,by omega,by omega,fun e=>by omega⟩
   ·unfold Lx.symL at h
    split at h
    ·cases h
    ·injection h with hk hx hn
     subst hk
     exact⟨by omega,by omega,by rw[←hx,List.length_take];omega,fun e=>by omega⟩
structure TkG (l:List UInt8) (p:Nat) (L:List Tk):Prop where
 len:1≤L.length∧L.length≤l.length+1
 last:∀(i:Nat) (a:Tk),L[i]? =some a→(a.kind=0↔i+1=L.length)
 fit:∀a∈L,(a.kind=0∧a.text= []∨TFit a.kind a.text l.length)∧a.pos≤p+l.length
theorem jT:∀(f:Nat) (l:List UInt8) (p:Nat) (L:List Tk),Lx.toksF f l p= .ok L→TkG l p L
 |0,l,p,L,h=>by simp[Lx.toksF]at h
 |f+1,l,p,L,h=>by
  rw[Lx.toksF]at h
  have y:=Lx.skip_le false l
  cases hd:l.drop (Lx.skipN false l)with
  |nil=>
   rw[hd]at h
   injection h with h
   subst h
   refine⟨⟨Nat.le_refl _,by simp⟩,fun i a hi=>?_,fun a b=>?_⟩
   ·cases i with
    |zero=>simp at hi;subst hi;simp
    |succ i=>simp at hi
   ·rw[List.mem_singleton.1 b]
    exact⟨.inl ⟨rfl,rfl⟩,by show p+Lx.skipN false l≤_;omega⟩
  |cons c r=>
   rw[hd]at h
   have q:(c::r).length=l.length-Lx.skipN false l:=by rw[←hd,List.length_drop]
   cases j:Lx.tokL (c::r)with
   |bad e=>simp only[j]at h;cases h
   |tok k x n=>
    simp only[j]at h
    have z:=Lx.tok_bound c r k x n j
    have g:=tok_fit c r k x n j
    cases o:Lx.toksF f ((c::r).drop n) (p+Lx.skipN false l+n)with
    |bad a e=>rw[o]at h;cases h
    |ok M=>
     rw[o]at h
     have m:=jT f _ _ M o
     have u: [(⟨k,x,p+Lx.skipN false l⟩:Tk)]++M=L:=by injection h
     subst u
     have t:((c::r).drop n).length=(c::r).length-n:=List.length_drop
     refine⟨⟨by simp,by have:=m.len.2;simp only[List.length_append,List.length_singleton];omega⟩,fun i a hi=>?_,fun a b=>?_⟩
     ·cases i with
      |zero=>
       simp at hi
       subst hi
       have:=m.len.1
       simp only[List.length_append,List.length_singleton]
       exact⟨fun e=>absurd e g.2.1,fun e=>by omega⟩
      |succ i=>
       have:=m.last i a (by simpa using hi)
       rw[this]
       simp only[List.length_append,List.length_singleton]
       omega
     ·rcases List.mem_append.1 b with b|b
      ·rw[List.mem_singleton.1 b]
       refine⟨.inr ⟨g.1,g.2.1,?_,g.2.2.2⟩,?_⟩
       ·have:=g.2.2.1;show x.length≤_;omega
       ·show p+Lx.skipN false l≤_;omega
      ·have:=m.fit a b
       refine⟨?_,by omega⟩
       rcases this.1 with h9|h9
       ·exact .inl h9
       ·exact .inr ⟨h9.1,h9.2.1,by have:=h9.2.2.1;omega,h9.2.2.2⟩
theorem eD {s:ByteArray} {L:List Tk} (h:Lx.tokAll s= .ok L):TkL L:=by
 unfold Lx.tokAll at h
 split at h
 ·cases h
 ·next hs=>
  have f:=jT _ _ _ L h
  have l:s.data.toList.length=s.size:=Array.length_toList
  refine⟨by have:=f.len.2;omega,f.last,fun a b=>?_,fun a b=>?_,fun a b=>?_,fun a b i=>?_⟩
  ·rcases(f.fit a b).1 with h9|h9
   ·omega
   ·exact h9.1
  ·rcases(f.fit a b).1 with h9|h9
   ·rw[h9.2];exact Nat.zero_le _
   ·have:=h9.2.2.1;omega
  ·have:=(f.fit a b).2;omega
  ·rcases(f.fit a b).1 with h9|h9
   ·omega
   ·obtain⟨j,g,m,k⟩:=h9.2.2.2 i
    have e:(tkB a).data.toList=a.text:=by simp[tkB]
    refine⟨j,g,?_,?_⟩
    ·unfold eh;rw[e];omega
    ·unfold eh;rw[e,←k];omega
end
end Go.Proofs.YtjigcpfjhfoheaaGreatDoor
