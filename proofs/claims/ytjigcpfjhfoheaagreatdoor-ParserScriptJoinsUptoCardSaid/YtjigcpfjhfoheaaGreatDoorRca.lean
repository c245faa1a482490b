/- Walks: the operators that are tried; chains; Walk: a chain of operands; What the lexer yields; Walk: begin; Valid of a statement that is too large: without a bound on its bulk. -/
import Derived.Test.YtjigcpfjhfoheaaGreatDoorRbj
import Derived.Test.YtjigcpfjhfoheaaGreatDoorRab
import Derived.Test.YtjigcpfjhfoheaaGreatDoorRac
import Derived.Test.YtjigcpfjhfoheaaGreatDoorRbh
namespace Go.Proofs.YtjigcpfjhfoheaaGreatDoor
open Go.RowKit
set_option maxHeartbeats 2000000
set_option maxRecDepth 100000
set_option linter.unusedVariables false
set_option linter.unusedSimpArgs false
section
open Lx (Tk)
def symCs (l:List (ByteArray×Int)):List Value:=l.flatMap fun x=> [.string x.1,.int .i64 x.2]
theorem gU (l:List (ByteArray×Int)):∀(i:Nat) (x:ByteArray×Int),l[i]? =some x→(symCs l)[i*2]? =some (.string x.1)∧(symCs l)[i*2+1]? =some (.int .i64 x.2):=by
 induction l with
 |nil=>intro i x h;simp at h
 |cons y l ih=>
  intro i x h
  cases i with
  |zero=>simp at h;subst h;exact⟨rfl,rfl⟩
  |succ i=>
   have:=ih i x (by simpa using h)
   unfold symCs at*
   rw[List.flatMap_cons,show(i+1)*2=i*2+2 by omega,show i*2+2+1=(i*2+1)+2 by omega]
   simpa using this
theorem ent_sym:∀(args:Array Value) (W:World),(callFunc 151 args).run Tryz.prog W= .ok (.enter 151 args) W:=fun _ _=>by kernel_rfl
section
variable {P c:Nat} {A:Option Addr} {L:List Tk} {w0 w:World} {s:Ps}
theorem sym1_any (g:PsAt 68 P A c L w0 w s) (l:TkL L) (t:ByteArray) (o:Int) (b:Nat) (f:w.cell? ⟨b,0,none⟩=some (.pointer (some ⟨P,0,none⟩))):
  Calls Tryz.prog 151 #[.agg #[.string t,.int .i64 o],.pointer (some ⟨b,0,none⟩)] w (Ran 68 P A c L w0 w (iV t s).2 fun v _=>v= .bool (isS t s)):=by
 have a:=(Ext.refl w).alloc (.cells #[.string t,.int .i64 o] 120)
 have i:=hid a
 have m:=a.keep f
 have h:=hid (ey (g.ext a) l t)
 clear g a f
 go_enter Tryz.func151,Tryz.ntmps151
 go_wp2_with fail
 refine h.mono ?_
 rintro e n ⟨v,rfl,j,k,rfl⟩
 go_wp2_with fail
 go_ret
 exact⟨_,rfl,j,(Chg.of i).trans k,rfl⟩
theorem index_sym (G:PsAt 68 P A c L w0 w s) (O:TkL L) (ops:List (ByteArray×Int)) (u C:Nat) (D:w.cell? ⟨u,0,none⟩=some (.pointer (some ⟨P,0,none⟩))) (hs:Blk w C 120 (symCs ops)) (E:u≠P) (H:C≠P) (V:ops.length≤100):
  Calls Tryz.prog 150 #[.slice (some ⟨C,0,none⟩) ops.length ops.length,.func (Fn.func 151) #[] #[.pointer (some ⟨u,0,none⟩)]] w
   (Ran 68 P A c L w0 w (firstP ops s).2 fun v _=> ∃i:Int,v= .int .i64 i∧(((firstP ops s).1=none∧i<0)∨∃(k:Nat) (t:ByteArray) (o:Int),i=k∧ops[k]? =some (t,o)∧(firstP ops s).1=some o)):=by
 have R:=ent_sym
 go_enter Tryz.func150,Tryz.ntmps150
 go_wp2_with fail
 go_loopw [5,8] (fun _ Q wr=> ∃(k:Nat),k≤ops.length∧Q= .int .i64 k∧firstP ops s=firstP (ops.drop k) s∧PsAt 68 P A c L w0 wr s∧Chg P w wr) (fun _ i _=>ops.length- (intOf i).toNat)
 case atStart=>exact⟨0,Nat.zero_le _,rfl,rfl,G,Chg.refl P w⟩
 case round=>
  obtain⟨k,U,rfl,m,g,a⟩:=hrel
  by_cases F:k<ops.length
  ·obtain⟨⟨t,o⟩,y⟩:∃x,ops[k]? =some x:=⟨_,List.getElem?_eq_getElem F⟩
   have hd:ops.drop k=(t,o)::ops.drop (k+1):=by
    obtain⟨j,p⟩:=List.getElem?_eq_some_iff.1 y
    rw[List.drop_eq_getElem_cons j,p]
   rw[hd,firstP]at m
   have r:=hid (a.blk hs H)
   obtain⟨I,J⟩:=gU ops k (t,o) y
   have c0:=r.cell_some I
   have c1:=r.cell_some J
   have z:=hid (sym1_any g O t o u (a.keep D E))
   have l:=hid m
   have B:=hid a
   have K:=hid y
   clear m g a y hd hs I J D G
   have W:(0:Int)≤(k:Int):=by omega
   have X:(k:Int)<(ops.length:Int):=by omega
   go_wp2_with fail
   refine z.mono ?_
   rintro _ Y ⟨v,rfl,j,p,rfl⟩
   have b:=hid (B.trans p)
   cases h:isS t s
   ·rw[h]at l
    have e:(iV t s).2=s:=by simp[iV,h]
    rw[e]at j
    have n:=hid j
    have f:=hid (l)
    clear j p z c0 c1 r
    go_wp2_with fail
    exact⟨⟨k+1,by omega,by go_num,f,n,b⟩,by simp[intOf];omega⟩
   ·rw[h]at l
    have e:(iV t s).2=s.next:=by simp[iV,h]
    rw[e]at j
    have n:=hid j
    have f:Hid (firstP ops s=(some o,s.next)):=l.out
    clear j p z c0 c1 r
    go_wp2_with fail
    go_ret
    exact⟨_,rfl,by rw[f.out];exact n,b,k,rfl,.inr ⟨k,t,o,rfl,K,by rw[f.out]⟩⟩
  ·obtain rfl:k=ops.length:=by omega
   rw[List.drop_length,firstP]at m
   have l:=hid m
   have n:=hid g
   have b:=hid a
   clear m g a G hs D
   go_wp2_with fail
   go_ret
   exact⟨_,rfl,by rw[l.out];exact n,b,-1,rfl,.inl ⟨by rw[l.out],by omega⟩⟩
end
end
section
open Lx (Tk)
def gu (F:FuncId):Prop:=∀(args:Array Value) (W:World),(callFunc F args).run Tryz.prog W= .ok (.enter F args) W
def posOf (P:Nat) (w:World):Nat:=match w.cell? ⟨P,1,none⟩with
 |some v=> (intOf v).toNat
 |none=>0
theorem PsAt.posOf {T P c:Nat} {A:Option Addr} {L:List Tk} {w0 w:World} {s:Ps} (h:PsAt T P A c L w0 w s):posOf P w=L.length-s.r.length:=by
 have:=h.blk.cell_some (i:=1) rfl
 unfold Go.Proofs.YtjigcpfjhfoheaaGreatDoor.posOf
 rw[this]
 simp[intOf]
section
variable {P c:Nat} {A:Option Addr} {L:List Tk} {w0 w:World} {s:Ps}
theorem chain_any (F:FuncId) (hE:gu F) (el:M Ex) (dx:Fwd el) (ops:List (ByteArray×Int)) (hl:ops.length≤100) (d8:∀x∈ops,I64 x.2) (gs:Nat) (hs:Blk w gs 120 (symCs ops)) (ac:gs≠P)
  (hp:PsAt 68 P A c L w0 w s) (hL:TkL L)
  (hF:∀(W:World) (st:Ps),PsAt 68 P A c L w0 W st→st.r.length≤s.r.length→Calls Tryz.prog F #[.pointer (some ⟨P,0,none⟩)] W (Ran 68 P A c L w0 W (el st).2 fun v W'=>ExG W.heap.size W' (el st).1 v)):
  Calls Tryz.prog 77 #[.pointer (some ⟨P,0,none⟩),.func (Fn.func F) #[.pointer (some ⟨P,0,none⟩)] #[],.slice (some ⟨gs,0,none⟩) ops.length ops.length] w
   (Ran 68 P A c L w0 w (chainP el ops s).2 fun v w'=>ExG w.heap.size w' (chainP el ops s).1 v):=by
 unfold gu at hE
 have HF:=hid hF
 have e7:=hp.lt
 have fe:=hs.lt
 have C:Hid (chainP el ops s=aX el ops (s.r.length+1) (el s).1 (el s).2):=rfl
 obtain⟨R,hR⟩:∃R,chainP el ops s=R:=⟨_,rfl⟩
 rw[hR]at C ⊢
 clear hR hF
 have ee:=(Ext.refl w).alloc (.cells #[.pointer (some ⟨P,0,none⟩)] 62)
 have a3:=ee.alloc (.cells #[.int .i64 0,.string ⟨#[]⟩,.string ⟨#[]⟩,.int .i64 0,.int .i64 0,.int .i64 0,.string ⟨#[]⟩,.slice none 0 0] 37)
 have G:Hid (Blk ((w.alloc (.cells #[.pointer (some ⟨P,0,none⟩)] 62)).alloc (.cells #[.int .i64 0,.string ⟨#[]⟩,.string ⟨#[]⟩,.int .i64 0,.int .i64 0,.int .i64 0,.string ⟨#[]⟩,.slice none 0 0] 37)) w.heap.size 62 [.pointer (some ⟨P,0,none⟩)]):=(Blk.of_new w 62 [.pointer (some ⟨P,0,none⟩)]).ext ((Ext.refl _).alloc _)
 have bN:Hid (Blk ((w.alloc (.cells #[.pointer (some ⟨P,0,none⟩)] 62)).alloc (.cells #[.int .i64 0,.string ⟨#[]⟩,.string ⟨#[]⟩,.int .i64 0,.int .i64 0,.int .i64 0,.string ⟨#[]⟩,.slice none 0 0] 37)) (w.heap.size+1) 37 eZ):=by
  have:=Blk.of_new (w.alloc (.cells #[.pointer (some ⟨P,0,none⟩)] 62)) 37 eZ
  unfold Hid
  simpa using this
 have bY:Hid (((w.alloc (.cells #[.pointer (some ⟨P,0,none⟩)] 62)).alloc (.cells #[.int .i64 0,.string ⟨#[]⟩,.string ⟨#[]⟩,.int .i64 0,.int .i64 0,.int .i64 0,.string ⟨#[]⟩,.slice none 0 0] 37)).heap.size=w.heap.size+2):=by
  unfold Hid
  simp
 have HS:=hid (hp.ext a3)
 have a1:=hid a3
 have Z:=hid (hs.ext a3)
 clear hp ee a3 hs
 go_enter Tryz.func77,Tryz.ntmps77
 go_upto_region 1 with fail
 generalize (w.alloc (.cells #[.pointer (some ⟨P,0,none⟩)] 62)).alloc (.cells #[.int .i64 0,.string ⟨#[]⟩,.string ⟨#[]⟩,.int .i64 0,.int .i64 0,.int .i64 0,.string ⟨#[]⟩,.slice none 0 0] 37)=wB at*
 obtain⟨a,cd⟩:∃n,w.heap.size=n:=⟨_,rfl⟩
 have bw:=hid cd
 rw[cd]at G bN bY e7 fe ⊢
 clear cd
 go_wp2_with fail
 refine(HF wB s HS (Nat.le_refl _)).mono ?_
 rintro _ w1 ⟨v,rfl,h1,D,b,g,c1,rfl,h3⟩
 obtain⟨s1,a2⟩:∃s1,(el s).2=s1:=⟨_,rfl⟩
 obtain⟨e1,cb⟩:∃e1,(el s).1=e1:=⟨_,rfl⟩
 have e9:s1.r.length≤s.r.length:=by rw[←a2];exact dx s
 rw[a2,cb]at C
 rw[a2]at h1
 rw[cb]at h3 ⊢
 clear a2 cb
 obtain⟨⟨op,tb,nm,ix,vk,vi,vt⟩,ks⟩:=e1
 unfold Nd.val
 simp only[Ex.d]
 have eb:=D.size
 rw[bY.out]at eb h3
 have l:=(Ext.refl w1).alloc (.cells #[.int .i64 op,.string tb,.string nm,.int .i64 ix,.int .i64 vk,.int .i64 vi,.string vt,.slice b g c1] 37)
 have cx:=hid (Blk.of_new w1 37 (eC op tb nm ix vk vi vt b g c1))
 have c4:=hid (h1.ext l)
 have a7:=hid (((Chg.of (P:=P) a1).trans D).ext l)
 have a5:=hid ((D.blk G (by omega)).ext l)
 have c0:=hid ((D.blk bN (by omega)).ext l)
 have ba:=hid ((D.blk Z ac).ext l)
 have a1:Hid (ExS (fun q=>a≤q∧q≠w1.heap.size∧q≠a+1) (w1.alloc (.cells #[.int .i64 op,.string tb,.string nm,.int .i64 ix,.int .i64 vk,.int .i64 vi,.string vt,.slice b g c1] 37)) (.mk ⟨op,tb,nm,ix,vk,vi,vt⟩ ks) b g c1):=
  Stb.ext (h3.weak fun q E hn=>⟨by omega,by omega,by omega⟩) l
 have ax:Hid (a+1<w1.heap.size):=by unfold Hid;omega
 clear h1 D h3 l eb HS G bN Z bY
 go_upto_region 2 with fail
 generalize w1.alloc (.cells #[.int .i64 op,.string tb,.string nm,.int .i64 ix,.int .i64 vk,.int .i64 vi,.string vt,.slice b g c1] 37)=wC at*
 generalize w1.heap.size=ge at*
 go_loopw [8] (fun _ wr=> ∃(n:Nat) (st:Ps) (e:Ex) (B:Option Addr) (k c':Nat),st.r.length<n∧st.r.length≤s.r.length∧R=aX el ops n e st∧PsAt 68 P A c L w0 wr st∧Blk wr ge 37 (e.d.cells B k c')∧ExS (fun q=>a≤q∧q≠ge∧q≠a+1) wr e B k c'∧
  Blk wr a 62 [.pointer (some ⟨P,0,none⟩)]∧Blk wr (a+1) 37 eZ∧Blk wr gs 120 (symCs ops)∧Chg P w wr) (fun _ wr=>20001-posOf P wr)
 case atStart=>exact⟨_,s1,_,b,g,c1,by omega,e9,C,c4,cx,a1,a5,c0,ba,a7⟩
 case round=>
  obtain⟨n,st,e,b,g,c1,hn,f1,hR,I,c9,es,b9,df,ci,ds⟩:=hrel
  clear C c4 cx a1 a5 c0 ba a7
  obtain⟨n,rfl⟩:∃m,n=m+1:=⟨n-1,by omega⟩
  obtain⟨⟨op,tb,nm,ix,vk,vi,vt⟩,ks⟩:=e
  rw[aX]at hR
  have H:=hid hR
  have e5:=hid I
  have ck:=hid c9
  have c5:=hid es
  have G:=hid b9
  have cp:=hid df
  have Z:=hid ci
  have cw:=hid ds
  have HI:=hid (index_sym I hL ops a gs (b9.cell_some rfl) ci (by omega) ac hl)
  have HM:Hid (posOf P wr=L.length-st.r.length):=I.posOf
  have fr:=I.le
  have fs:=I.ne
  clear hR I c9 es b9 df ci ds
  go_wp2_with fail
  refine HI.mono ?_
  rintro _ w2 ⟨v,rfl,h1,D,i,rfl,d9⟩
  have u:Hid (Blk w2 ge 37 (eC op tb nm ix vk vi vt b g c1)):=D.blk ck (by have:=ax.out;omega)
  have bf:Hid (ExS (fun q=>a≤q∧q≠ge∧q≠a+1) w2 (.mk ⟨op,tb,nm,ix,vk,vi,vt⟩ ks) b g c1):=Stb.grown c5 D (fun q E e=>by have:=Option.some.inj e;omega)
  have cv:=hid (D.blk G (by omega))
  have z:=hid (D.blk cp (by omega))
  have bd:=hid (D.blk Z ac)
  have a8:=hid (cw.trans D)
  have f:=hid h1
  clear h1 D HI ck c5 G cp Z cw e5
  rcases d9 with ⟨hn1,hi⟩|⟨k,t,o,rfl,hk,ho⟩
  ·rw[hn1]at H
   rw[lc _ _ hn1]at f
   clear hn1
   obtain⟨b0,b1,b2,b3,b4,b5,b6,b7,-⟩:=cls u
   obtain⟨z0,z1,z2,z3,z4,z5,z6,z7,-⟩:=cls z
   obtain⟨y0,y1,y2,y3,y4,y5,y6,y7,-⟩:=frz z
   have hz:=jg z (eC op tb nm ix vk vi vt b g c1) rfl
   have bn:=hid (ea (a+1) (eC op tb nm ix vk vi vt b g c1) w2 0)
   simp only[sts]at hz
   have HZ:=hid hz
   clear hz
   go_wp2_with fail
   obtain⟨q0,q1,q2,q3,q4,q5,q6,q7,-⟩:=cls HZ
   exact bodyPost_ret (v:= .agg #[.int .i64 op,.string tb,.string nm,.int .i64 ix,.int .i64 vk,.int .i64 vi,.string vt,.slice b g c1]) (by simp[results,Tryz.results77,go_sem,q0,q1,q2,q3,q4,q5,q6,q7]) rfl ⟨_,rfl,by rw[H.out];exact f.grown bn (fun q E=>by have:=Option.some.inj E;omega),a8.own bn (fun q E=>by have:=Option.some.inj E;rw[bw.out];omega),by rw[H.out,bw.out];exact⟨b,g,c1,rfl,Stb.weak (Stb.grown bf bn (fun q E e=>by have:=Option.some.inj e;omega)) (fun q _ E=>E.1)⟩⟩
  ·rw[ho]at H
   have fn:=ip ho
   obtain⟨O,ad⟩:∃x,(firstP ops st).2=x:=⟨_,rfl⟩
   rw[ad]at fn f
   have c8:R=aX el ops n (opE o [.mk ⟨op,tb,nm,ix,vk,vi,vt⟩ ks,(el O).1]) (el O).2:=by
    have:=H.out
    rw[←ad]
    exact this
   have c3:=hid c8
   clear H ad c8
   have bx:=hid (HF w2.drew O (f.ext (Ext.refl w2).drew) (by omega))
   have cH:=hid (d8 _ (List.mem_of_getElem? hk))
   have an:=hid (dx O)
   obtain⟨_,e1⟩:=gU ops k (t,o) hk
   have cs:=bd.cell_some e1
   have fA:=(List.getElem?_eq_some_iff.1 hk).1
   have i0:(0:Int)≤(k:Int):=by omega
   have i1:(k:Int)<(ops.length:Int):=by omega
   have i2:¬((k:Int)<0):=by omega
   have cc:ge<w2.heap.size:=u.lt
   have cz:=hid cc
   obtain⟨e3,ag⟩:∃x,(el O).2=x:=⟨_,rfl⟩
   obtain⟨e2,dw⟩:∃x,(el O).1=x:=⟨_,rfl⟩
   rw[ag,dw]at c3 bx
   rw[ag]at an
   clear ag dw e1 hk cc
   obtain⟨⟨op2,Q,K,J,V,U,X⟩,e0⟩:=e2
   have e4:Hid (Calls Tryz.prog F #[.pointer (some ⟨P,0,none⟩)] w2.drew fun e h=> ∃(A2:Option Addr) (k2 c2:Nat),e= .returned (.agg #[.int .i64 op2,.string Q,.string K,.int .i64 J,.int .i64 V,.int .i64 U,.string X,.slice A2 k2 c2])∧PsAt 68 P A c L w0 h e3∧Chg P w2 h∧ExS (fun q=>a≤q∧q≠ge∧q≠a+1) h (.mk ⟨op2,Q,K,J,V,U,X⟩ e0) A2 k2 c2):=
    bx.mono fun e h ⟨v,he,h5,h6,A2,k2,c2,hv,h7⟩=>⟨A2,k2,c2,by rw[he,hv];rfl,h5,(Chg.of (Ext.refl w2).drew).trans h6,h7.weak fun q _ hn=>by
     have:=ax.out
     have:=cz.out
     have hn:w2.heap.size≤q:=hn
     exact⟨by omega,by omega,by omega⟩⟩
   clear bx
   obtain⟨b0,b1,b2,b3,b4,b5,b6,b7,-⟩:=cls u
   go_upto_region 5 with fail
   go_region_law (first
    |(go_simp;go_at_call 105;(with_reducible refine(ez _ _ _ _ _).mono ?_);rintro _ w5 ⟨rfl,cj⟩;have p:Ext h w5:=((Ext.refl h).alloc (.cells #[.int .i64 op,.string tb,.string nm,.int .i64 ix,.int .i64 vk,.int .i64 vi,.string vt,.slice b g c1,.int .i64 op2,.string Q,.string K,.int .i64 J,.int .i64 V,.int .i64 U,.string X,.slice A2 k2 c2] 37)).trans cj;have y:=Y.ext p;obtain⟨z0,z1,z2,z3,z4,z5,z6,z7,-⟩:=cls y;obtain⟨y0,y1,y2,y3,y4,y5,y6,y7,-⟩:=frz y)
    |(go_simp;(with_reducible refine e4.out.mono ?_);rintro _ h ⟨A2,k2,c2,rfl,h5,h6,h7⟩;have Y:Blk h ge 37 (eC op tb nm ix vk vi vt b g c1):=h6.blk u (by have:=ax.out;omega);have c7:=h6.keep cs ac;have e6:=((Ext.refl h).alloc (.cells #[.int .i64 op,.string tb,.string nm,.int .i64 ix,.int .i64 vk,.int .i64 vi,.string vt,.slice b g c1,.int .i64 op2,.string Q,.string K,.int .i64 J,.int .i64 V,.int .i64 U,.string X,.slice A2 k2 c2] 37)).keep c7;obtain⟨d0,d1,d2,d3,d4,d5,d6,d7,-⟩:=cls Y))
   all_goals
    have f3:=h6.size
    have cc:=cz.out
    have fw:=ax.out
    have e8:a≤h.heap.size∧h.heap.size≠ge∧h.heap.size≠a+1:=⟨by omega,by omega,by omega⟩
    have bm:ExS (fun q=>a≤q∧q≠ge∧q≠a+1) (h.alloc (.cells #[.int .i64 op,.string tb,.string nm,.int .i64 ix,.int .i64 vk,.int .i64 vi,.string vt,.slice b g c1,.int .i64 op2,.string Q,.string K,.int .i64 J,.int .i64 V,.int .i64 U,.string X,.slice A2 k2 c2] 37)) (opE o [.mk ⟨op,tb,nm,ix,vk,vi,vt⟩ ks,.mk ⟨op2,Q,K,J,V,U,X⟩ e0]) (some ⟨h.heap.size,0,none⟩) 2 2:=
     exS_op2 (S:=fun q=>a≤q∧q≠ge∧q≠a+1) cH e8 (Stb.grown bf h6 (fun q E e=>by have:=Option.some.inj e;omega)) h7
    have j:=ea ge (eC o ⟨#[]⟩ ⟨#[]⟩ 0 0 0 ⟨#[]⟩ (some ⟨h.heap.size,0,none⟩) 2 2) w5 0
    have c6:=hid (Stb.grown (Stb.ext bm cj) j (fun q E e=>by have:=Option.some.inj e;omega))
    have cl:=hid (jg y (eC o ⟨#[]⟩ ⟨#[]⟩ 0 0 0 ⟨#[]⟩ (some ⟨h.heap.size,0,none⟩) 2 2) rfl)
    have a0:=hid ((h5.ext p).grown j (fun q E=>by have:=Option.some.inj E;omega))
    have a6:=hid (((h6.blk cv (by omega)).ext p).grown j (fun e=>by have:=Option.some.inj e;omega))
    have a4:=hid (((h6.blk z (by omega)).ext p).grown j (fun e=>by have:=Option.some.inj e;omega))
    have be:=hid (((h6.blk bd ac).ext p).grown j (fun e=>by have:=Option.some.inj e;omega))
    have a9:=hid (((a8.trans h6).ext p).own j (fun q E=>by have:=Option.some.inj E;rw[bw.out];omega))
    simp only[sts]at c6 cl a0 a6 a4 be a9
    have f2:=a0.le
    clear h5 h6 h7 cj p Y y bm j cs c7 e6 b0 b1 b2 b3 b4 b5 b6 b7 d0 d1 d2 d3 d4 d5 d6 d7 z0 z1 z2 z3 z4 z5 z6 z7 y0 y1 y2 y3 y4 y5 y6 y7
    go_wp2_with fail
    exact⟨⟨n,e3,_,some ⟨h.heap.size,0,none⟩,2,2,by have:=an.out;omega,by have:=an.out;omega,c3,a0,cl,c6,a6,a4,be,a9⟩,by rw[a0.out.posOf,HM.out];have:=an.out;have:=hL.len;have:=f.le;omega⟩
end
end
section
open Lx (Tk)
def TFit (k:Nat) (x:List UInt8) (N:Nat):Prop:=k≤5∧k≠0∧x.length≤N+16∧(k=3→x≠[]∧(∀c∈x,48≤c.toNat∧c.toNat≤57)∧Lx.digVal x≤2147483648∧(Lx.digVal x=0↔x= [48]))
theorem num_fit (c:UInt8) (r:List UInt8) (hd:Lx.isDigit c=true) (k:Nat) (x:List UInt8) (n:Nat) (h:Lx.numL (c::r)= .tok k x n):TFit k x (c::r).length:=by
 unfold Lx.numL at h
 split at h
 ·cases h
 ·next h1=>
  split at h
  ·cases h
  ·next h2=>
   injection h with hk hx hn
   subst hk
   have f:=Lx.span_all Lx.isDigit (c::r)
   rw[hx]at f h2
   have G:x.length≤(c::r).length:=by rw[←hx];simp[List.length_take];omega
   have g:∀c∈x,48≤c.toNat∧c.toNat≤57:=fun d C=>by
    have:=f d C
    simpa[Lx.isDigit] using this
   have D:1≤Lx.spanN Lx.isDigit (c::r):=by rw[Lx.spanN,if_pos hd];omega
   have o:x≠[]:=by
    rw[←hx]
    intro e
    have:=congrArg List.length e
    rw[List.length_take]at this
    simp at this
    omega
   refine⟨by omega,by omega,by omega,fun _=>⟨o,g,by omega,?_⟩⟩
   constructor
   ·intro t
    cases x with
    |nil=>exact absurd rfl o
    |cons a y=>
     rw[Lx.dv_cons]at t
     have F:=g a (List.mem_cons_self ..)
     have u:0<10^y.length:=Nat.pow_pos (by omega)
     have E:(a.toNat-48)*10^y.length=0:=by omega
     have B:a.toNat-48=0:=by
      rcases Nat.mul_eq_zero.1 E with h|h
      ·exact h
      ·omega
     have j:a=48:=by
      apply UInt8.toNat_inj.1
      show a.toNat=48
      omega
     subst j
     have l:((48:UInt8)::y).length=min (Lx.spanN Lx.isDigit (c::r)) (c::r).length:=by rw[←hx,List.length_take]
     have i:(c::r).head? =some 48:=by
      cases p:Lx.spanN Lx.isDigit (c::r)with
      |zero=>omega
      |succ m=>
       rw[p,List.take_succ_cons]at hx
       injection hx with hc _
       rw[hc];rfl
     have:¬1<Lx.spanN Lx.isDigit (c::r):=fun h=>h1 (.inl ⟨h,i⟩)
     cases y with
     |nil=>rfl
     |cons b z=>simp only[List.length_cons]at l;omega
   ·intro e
    rw[e];rfl
theorem tok_fit (c:UInt8) (r:List UInt8) (k:Nat) (x:List UInt8) (n:Nat) (h:Lx.tokL (c::r)= .tok k x n):TFit k x (c::r).length:=by
 rw[Lx.tokL]at h
 split at h
 ·unfold Lx.wordL at h
  split at h
  ·injection h with hk hx hn
   subst hk
   exact⟨by omega,by omega,by rw[←hx,List.length_map,List.length_take];omega,fun e=>by omega⟩
  ·split at h
   ·cases h
   ·injection h with hk hx hn
    subst hk
    exact⟨by omega,by omega,by rw[←hx,List.length_map,List.length_take];omega,fun e=>by omega⟩
 ·split at h
  ·next hd=>exact num_fit c r hd k x n h
  ·split at h
   ·unfold Lx.textL at h
    split at h
    ·cases h
    ·split at h
     ·cases h
     ·injection h with hk hx hn
      subst hk
      rw[←hx]
      exact⟨by omega,by omega,by omega,fun e=>by omega⟩
   ·unfold Lx.symL at h
    split at h
    ·cases h
    ·injection h with hk hx hn
     subst hk
     exact⟨by omega,by omega,by rw[←hx,List.length_take];omega,fun e=>by omega⟩
structure TkG (l:List UInt8) (p:Nat) (L:List Tk):Prop where
 len:1≤L.length∧L.length≤l.length+1
 last:∀(i:Nat) (a:Tk),L[i]? =some a→(a.kind=0↔i+1=L.length)
 fit:∀a∈L,(a.kind=0∧a.text= []∨TFit a.kind a.text l.length)∧a.pos≤p+l.length
theorem mc:∀(f:Nat) (l:List UInt8) (p:Nat) (L:List Tk),Lx.toksF f l p= .ok L→TkG l p L
 |0,l,p,L,h=>by simp[Lx.toksF]at h
 |f+1,l,p,L,h=>by
  rw[Lx.toksF]at h
  have z:=Lx.skip_le false l
  cases hd:l.drop (Lx.skipN false l)with
  |nil=>
   rw[hd]at h
   injection h with h
   subst h
   refine⟨⟨Nat.le_refl _,by simp⟩,fun i a hi=>?_,fun a b=>?_⟩
   ·cases i with
    |zero=>simp at hi;subst hi;simp
    |succ i=>simp at hi
   ·rw[List.mem_singleton.1 b]
    exact⟨.inl ⟨rfl,rfl⟩,by show p+Lx.skipN false l≤_;omega⟩
  |cons c r=>
   rw[hd]at h
   have t:(c::r).length=l.length-Lx.skipN false l:=by rw[←hd,List.length_drop]
   cases j:Lx.tokL (c::r)with
   |bad e=>simp only[j]at h;cases h
   |tok k x n=>
    simp only[j]at h
    have B:=Lx.tok_bound c r k x n j
    have g:=tok_fit c r k x n j
    cases o:Lx.toksF f ((c::r).drop n) (p+Lx.skipN false l+n)with
    |bad a e=>rw[o]at h;cases h
    |ok M=>
     rw[o]at h
     have m:=mc f _ _ M o
     have u: [(⟨k,x,p+Lx.skipN false l⟩:Tk)]++M=L:=by injection h
     subst u
     have y:((c::r).drop n).length=(c::r).length-n:=List.length_drop
     refine⟨⟨by simp,by have:=m.len.2;simp only[List.length_append,List.length_singleton];omega⟩,fun i a hi=>?_,fun a b=>?_⟩
     ·cases i with
      |zero=>
       simp at hi
       subst hi
       have:=m.len.1
       simp only[List.length_append,List.length_singleton]
       exact⟨fun e=>absurd e g.2.1,fun e=>by omega⟩
      |succ i=>
       have:=m.last i a (by simpa using hi)
       rw[this]
       simp only[List.length_append,List.length_singleton]
       omega
     ·rcases List.mem_append.1 b with b|b
      ·rw[List.mem_singleton.1 b]
       refine⟨.inr ⟨g.1,g.2.1,?_,g.2.2.2⟩,?_⟩
       ·have:=g.2.2.1;show x.length≤_;omega
       ·show p+Lx.skipN false l≤_;omega
      ·have:=m.fit a b
       refine⟨?_,by omega⟩
       rcases this.1 with h9|h9
       ·exact .inl h9
       ·exact .inr ⟨h9.1,h9.2.1,by have:=h9.2.2.1;omega,h9.2.2.2⟩
theorem iC {s:ByteArray} {L:List Tk} (h:Lx.tokAll s= .ok L):TkL L:=by
 unfold Lx.tokAll at h
 split at h
 ·cases h
 ·next hs=>
  have f:=mc _ _ _ L h
  have m:s.data.toList.length=s.size:=Array.length_toList
  refine⟨by have:=f.len.2;omega,f.last,fun a b=>?_,fun a b=>?_,fun a b=>?_,fun a b k=>?_⟩
  ·rcases(f.fit a b).1 with h9|h9
   ·omega
   ·exact h9.1
  ·rcases(f.fit a b).1 with h9|h9
   ·rw[h9.2];exact Nat.zero_le _
   ·have:=h9.2.2.1;omega
  ·have:=(f.fit a b).2;omega
  ·rcases(f.fit a b).1 with h9|h9
   ·omega
   ·obtain⟨g,i,l,j⟩:=h9.2.2.2 k
    have e:(tkB a).data.toList=a.text:=by simp[tkB]
    refine⟨g,i,?_,?_⟩
    ·unfold fc;rw[e];omega
    ·unfold fc;rw[e,←j];omega
end
section
open Lx (Tk)
theorem pG:∀(f:Nat) (l:List UInt8) (p a x:Nat),l.length<f→Lx.toksF f l p= .bad a x→x≠0
 |0,l,p,a,x,hl,_=>by omega
 |f+1,l,p,a,x,hl,h=>by
  rw[Lx.toksF]at h
  cases hd:l.drop (Lx.skipN false l)with
  |nil=>rw[hd]at h;cases h
  |cons c r=>
   rw[hd]at h
   have i:(c::r).length=l.length-Lx.skipN false l:=by rw[←hd,List.length_drop]
   cases b:Lx.tokL (c::r)with
   |bad e=>
    simp only[b]at h
    injection h with _ h
    have:=Lx.tok_bad c r e b
    omega
   |tok k y n=>
    simp only[b]at h
    have m:=Lx.tok_bound c r k y n b
    have j:((c::r).drop n).length=(c::r).length-n:=List.length_drop
    cases g:Lx.toksF f ((c::r).drop n) (p+Lx.skipN false l+n)with
    |bad a2 e=>
     rw[g]at h
     injection h with _ h
     subst h
     exact pG f _ _ _ _ (by omega) g
    |ok M=>rw[g]at h;cases h
theorem all_err {s:ByteArray} {a x:Nat} (h:Lx.tokAll s= .bad a x):x≠0:=by
 unfold Lx.tokAll at h
 split at h
 ·injection h with _ h;omega
 ·exact pG _ _ _ _ _ (Nat.lt_succ_self _) h
theorem jZ (s:ByteArray) (w:World) (hs:s.size≤20000) (G:Lx.KwAt w):
  Calls Tryz.prog 28 #[.string s] w fun e w'=>Ext w w'∧((∃a x:Nat,Lx.tokAll s= .bad a x∧x≠0∧e= .returned (.tuple #[.pointer none,.int .i64 a,.int .i64 x]))∨
   ∃(L:List Tk) (P:Nat) (A:Option Addr) (c:Nat),Lx.tokAll s= .ok L∧e= .returned (.tuple #[.pointer (some ⟨P,0,none⟩),.int .i64 0,.int .i64 0])∧PsAt 68 P A c L w w' ⟨L,false⟩):=by
 have C:=hid (Lx.tokens_cap s w hs G)
 go_enter Tryz.func28,Tryz.ntmps28
 go_wp2_with fail
 refine C.mono ?_
 rintro e r ⟨v,rfl,⟨A,c,rfl,f,p⟩,z⟩
 have o:=hid z
 cases g:Lx.tokAll s with
 |bad a x=>
  have u:=all_err g
  have H:¬((x:Int)=0):=by omega
  rw[g]at f p
  have j:Lx.lsL (.bad a x)= []:=rfl
  have m:Lx.lsP (.bad a x)=a:=rfl
  have n:Lx.lsE (.bad a x)=x:=rfl
  rw[j,m,n]
  clear f p j m n
  go_wp2_with fail
  go_ret3
  exact⟨o,.inl ⟨a,x,g,u,rfl⟩⟩
 |ok l=>
  rw[g]at f p
  have j:Lx.lsL (.ok l)=l:=rfl
  have m:Lx.lsP (.ok l)=0:=rfl
  have n:Lx.lsE (.ok l)=0:=rfl
  rw[j]at f
  rw[j,m,n]
  have t:=hid f
  have I:=hid (iC g)
  have D:=hid g
  have k:Hid (0<l.length):=by
   unfold Lx.tokAll at g
   split at g
   ·cases g
   ·exact(mc _ _ _ l g).len.1
  have B:=hid (Blk.of_new r 68 [.slice A l.length c,.int .i64 0,.bool false])
  clear f p j m n z
  go_wp2_with fail
  go_ret3
  refine⟨o.alloc _,.inr ⟨l,r.heap.size,A,c,g,rfl,?_⟩⟩
  refine⟨o.alloc _,o.size,?_,by simp,k,fun i a F=>?_⟩
  ·rw[Nat.sub_self]
   exact B
  ·obtain⟨b,y,E,c0,c1,c2⟩:=t i a F
   have h:=(Ext.refl r).alloc (.cells #[.slice A l.length c,.int .i64 0,.bool false] 68)
   exact⟨b,y,E,World.block_lt_of_cell? r _ c0,h.keep c0,h.keep c1,h.keep c2⟩
end
theorem oj (s:St) (a:SA) (w:World) (l:StV w s a) (b:s.all.length≤100000000) (k:largeB s.all=true):
  Calls Tryz.prog 31 #[s.val a] w fun r w'=>r= .returned (.int .i64 3)∧Ext w w':=by
 have m:=hid (fun W (o:Ext w W)=>all_any s a W (l.ext o) b)
 have i:=hid (fun (W:World) (A:Option Addr) (c:Nat) (p:KidsAt W A s.all)=>jO s.all A s.all.length c W rfl (by omega) p)
 have n:=hid (Blk.of_new w 40 (s.cells a))
 have j:=hid ((Ext.refl w).alloc (.cells (s.cells a).toArray 40))
 rw[k]at i
 clear l b k
 unfold St.val at*
 unfold St.cells Sl.v at*
 go_enter Tryz.func31,Tryz.ntmps31
 go_upto_region 1 with fail
 generalize w.alloc (.cells _ 40)=u at*
 generalize w.heap.size=g at*
 go_wp2_with (first|(refine am rfl 40 (.tmp 1) rfl g rfl 40 _ _ n Tryz.underlying40 rfl (by kernel_rfl) ?_)|(go_at_call 63;(with_reducible refine(m.out _ j.out).mono ?_);rintro _ x ⟨t,c1,rfl,e,f⟩)|(go_at_call 62;(with_reducible refine(i.out _ _ _ e).mono ?_);rintro _ y ⟨rfl,h⟩))
 go_ret
 exact⟨rfl,j.trans (f.trans h)⟩
end Go.Proofs.YtjigcpfjhfoheaaGreatDoor
