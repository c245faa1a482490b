/- Expressions: the parser reads them as exprP does; Walks: names, tuples, bounds, WHERE; Walks: tuples, numbers other than 0, sources, assignments; Walks: sources, elements of ORDER BY. -/
import Derived.Test.YtjigcpfjhfoheaaGreatDoorYcb
import Derived.Test.YtjigcpfjhfoheaaGreatDoorYbh
import Derived.Test.YtjigcpfjhfoheaaGreatDoorYaj
import Derived.BigQuiet
namespace Go.Proofs.YtjigcpfjhfoheaaGreatDoor
open Go.RowKit
set_option maxHeartbeats 2000000
set_option maxRecDepth 100000
set_option linter.unusedVariables false
set_option linter.unusedSimpArgs false
section
open Lx (Tk)
section
variable {P c:Nat} {A:Option Addr} {L:List Tk} {w0:World}
theorem j2 (f:Er w0) (b:TkL L):∀n,Rdr 68 P A c L w0 n 39 (exprP n)
 |0=>fun _ _ _ h=>absurd h (Nat.not_lt_zero _)
 |n+1=>by
  have a:=mh (jo n)
  have i:=prim_rd f b (j2 f b n)
  have g:Rdr 68 P A c L w0 (n+1) 297 (fo (bQ (exprP n))):=fun W st e h=>unary_rd i h e b
  have j:Rdr 68 P A c L w0 (n+1) 278 (proP (bQ (exprP n))):=fun W st e h=>oc a g h e b
  have o:Rdr 68 P A c L w0 (n+1) 258 (sumP (bQ (exprP n))):=fun W st e h=>sum_rd a j h e b
  have k:=test_rd a b o
  have m:=not_rd k b (n+1) (Nat.le_refl _)
  have l:Rdr 68 P A c L w0 (n+1) 78 (andP (bQ (exprP n))):=fun W st e h=>and_rd a m h e b
  exact fun W st e h=>expr_rd a l h e b
end
end
section
open Lx (Tk)
theorem j3 {α:Type} {a:M α} (h:Fwd a):∀(n:Nat) (o:List α) (s:Ps),(listGo a n o s).1.length≤o.length+s.r.length
 |0,o,s=>by rw[listGo];show o.length≤_;omega
 |n+1,o,s=>by
  rw[listGo]
  split
  ·next hs=>
   have b:=j3 h n (o++ [(a s.next).1]) (a s.next).2
   have e:=h s.next
   have f:=aM hs
   rw[List.length_append,List.length_singleton]at b
   omega
  ·show o.length≤_
   omega
theorem dw {α:Type} {a:M α} (h:Fwd a) (s:Ps):(listP a s).1.length≤s.r.length+1:=by
 have b:=j3 h (s.r.length+1) [(a s).1] (a s).2
 have e:=h s
 unfold listP
 simp only[List.length_singleton]at b
 omega
theorem lst_strs {w:World} {B:Option Addr} {l:List ByteArray} (h:Lst jS 1 w B l):aO w B l:=fun i a hi=>by
 obtain⟨cs,_,⟨b,f,g,k⟩,e,j⟩:=h i a hi
 subst e
 refine⟨j,b,f,g,?_⟩
 have:=k 0 (.string a) rfl
 simpa using this
theorem j4 {w:World} {B:Option Addr} {l:List Ex} (h:Lst cu 8 w B l):KidsAt w B l:=by
 unfold KidsAt
 rw[cJ]
 intro j e k
 obtain⟨cs,_,m,f,i,c1,b,a⟩:=h j e k
 refine⟨cs,by simpa using m,?_⟩
 cases e with
 |mk d ks=>
  rw[ExC]
  have g:ks.length=i:=a.len
  subst g
  exact⟨a.fit,a.le,f,c1,b,a.kids⟩
def NmsG (n:Nat) (W:World) (l:List ByteArray) (v:Value):Prop:=∃B k,v= .slice B l.length k∧(l.length≤20001∧l.length≤k)∧Stb (n≤·) W (fun w2=>aO w2 B l)
section
variable {P c:Nat} {A:Option Addr} {L:List Tk} {w0 w:World} {s:Ps}
theorem fl (E:PsAt 68 P A c L w0 w s) (f:TkL L):
  Calls Tryz.prog 176 #[.pointer (some ⟨P,0,none⟩)] w (Ran 68 P A c L w0 w (namesP s).2 fun v w'=>NmsG w.heap.size w' (namesP s).1 v):=by
 have O:=hid (az (E.ext ((Ext.refl w).alloc (.cells #[.string yLp] 9))) f yLp w.heap.size (by simp[World.cell?_alloc_new]))
 have K:=hid ((Ext.refl w).alloc (.cells #[.string yLp] 9))
 have u:=hid E.lt
 have x:Hid (namesP s=((listP (takP 1) (needP yLp s)).1,needP yRp (listP (takP 1) (needP yLp s)).2)):=rfl
 obtain⟨R,F⟩:∃R,namesP s=R:=⟨_,rfl⟩
 rw[F]at x ⊢
 clear F
 go_enter Tryz.func176,Tryz.ntmps176
 go_wp2_with fail
 refine O.mono ?_
 rintro _ H ⟨v,rfl,g,a,_⟩
 replace a:Chg P w H:=(Chg.of K).trans a
 go_wp2_with fail
 refine(list_str 55 (fun _ _=>by kernel_rfl) (takP 1) (fwd_tak 1) g f (fun W st z _=> (bV z f).mono fun e w' ⟨v,Q,Y,U,X⟩=>⟨v,Q,Y,U,X,by have:=z.tak_size f 1;omega⟩)).mono ?_
 rintro _ b ⟨v,rfl,G,D,B,k,rfl,i,C⟩
 have m:=dw (fwd_tak 1) (needP yLp s)
 have o:=g.le
 have p:Hid ((listP (takP 1) (needP yLp s)).1.length≤20001∧(listP (takP 1) (needP yLp s)).1.length≤k):=by have:=f.len;unfold Hid;omega
 have y:Hid (Stb (w.heap.size≤·) b (fun b=>aO b B (listP (takP 1) (needP yLp s)).1)):=(C.imp fun _ h=>lst_strs h).weak fun q _ V=>Nat.le_trans a.size V
 have r:=hid (az (G.ext ((Ext.refl b).alloc (.cells #[.string yRp] 9))) f yRp b.heap.size (by simp[World.cell?_alloc_new]))
 have I:=hid (a.trans D)
 have j:=hid ((Ext.refl b).alloc (.cells #[.string yRp] 9))
 clear g a G D C m o i
 generalize (listP (takP 1) (needP yLp s)).1=l at*
 go_wp2_with fail
 refine r.mono ?_
 rintro _ Z ⟨v,rfl,g,a,_⟩
 have J:=hid g
 have t:=hid ((I.ext j).trans a)
 have n:=hid (Stb.chg (Stb.ext y j) a u)
 clear g a
 go_wp2_with fail
 go_ret
 exact⟨_,rfl,by rw[x.out];exact J,t,by rw[x.out];exact⟨B,k,rfl,p,n⟩⟩
theorem kO (n:PsAt 68 P A c L w0 w s) (i:TkL L) (p:Er w0):
  Calls Tryz.prog 233 #[.pointer (some ⟨P,0,none⟩)] w (Ran 68 P A c L w0 w (bndP s).2 fun v _=>v= .int .i64 (bndP s).1):=by
 have u:=hid (ai n i dU)
 have h:Hid (bndP s=if isS dU s=true then (-(numP s.next).1,(numP s.next).2)else numP s):=rfl
 obtain⟨R,o⟩:∃R,bndP s=R:=⟨_,rfl⟩
 rw[o]at h ⊢
 clear o n
 go_enter Tryz.func233,Tryz.ntmps233
 go_wp2_with fail
 refine u.mono ?_
 rintro _ x ⟨v,rfl,a,g,rfl⟩
 cases j:isS dU s
 ·have e:(aq dU s).2=s:=by simp[aq,j]
  rw[e]at a
  rw[j]at h
  have k:=hid g
  have l:=hid (ct a i p)
  have f:R=numP s:=h.out
  have b:=hid f
  clear a g h f
  go_wp2_with fail
  refine l.mono ?_
  rintro _ r ⟨v,rfl,a,g,rfl⟩
  go_wp2_with fail
  go_ret
  exact⟨_,rfl,by rw[b.out];exact a,k.trans g,by rw[b.out];rfl⟩
 ·have e:(aq dU s).2=s.next:=by simp[aq,j]
  rw[e]at a
  rw[j]at h
  have k:=hid g
  have l:=hid (ct a i p)
  have t:=a.num_le i
  have f:R=(-(numP s.next).1,(numP s.next).2):=h.out
  have b:=hid f
  clear a g h f
  generalize (numP s.next).1=V at*
  go_wp2_with fail
  refine l.mono ?_
  rintro _ r ⟨v,rfl,a,g,rfl⟩
  have q:=hid a
  have m:=hid (k.trans g)
  clear a g
  go_wp2_with fail
  go_ret
  exact⟨_,rfl,by rw[b.out];exact q,m,by rw[b.out];rfl⟩
theorem mT {n:Nat} {ex:M Ex} (hr:Rdr 68 P A c L w0 n 39 ex) (hn:s.r.length<n) (Z:PsAt 68 P A c L w0 w s) (hL:TkL L):
  Calls Tryz.prog 60 #[.pointer (some ⟨P,0,none⟩)] w (Ran 68 P A c L w0 w (whrP ex s).2 fun v w'=>ExG w.heap.size w' (whrP ex s).1 v):=by
 have j:=(Ext.refl w).alloc (.cells #[.int .i64 0,.string ⟨#[]⟩,.string ⟨#[]⟩,.int .i64 0,.int .i64 0,.int .i64 0,.string ⟨#[]⟩,.slice none 0 0] 37)
 have F:=hid (Z.ext j)
 have H:Hid (P<w.heap.size):=Z.lt
 have y:=hid (Blk.of_new w 37 eZ)
 have G:=hid (Chg.of (P:=P) j)
 have K:Hid (whrP ex s=if isS dj s=true then ex s.next else (exZ,s)):=rfl
 have ac:Hid (w.heap.size≤(w.alloc (.cells #[.int .i64 0,.string ⟨#[]⟩,.string ⟨#[]⟩,.int .i64 0,.int .i64 0,.int .i64 0,.string ⟨#[]⟩,.slice none 0 0] 37)).heap.size):=j.size
 obtain⟨R,hR⟩:∃R,whrP ex s=R:=⟨_,rfl⟩
 rw[hR]at K ⊢
 clear Z j hR
 go_enter Tryz.func60,Tryz.ntmps60
 go_upto_region 1 with fail
 generalize w.alloc (.cells #[.int .i64 0,.string ⟨#[]⟩,.string ⟨#[]⟩,.int .i64 0,.int .i64 0,.int .i64 0,.string ⟨#[]⟩,.slice none 0 0] 37)=wz at*
 obtain⟨I,o⟩:∃g,w.heap.size=g:=⟨_,rfl⟩
 have i:=hid o
 rw[o]at H y ac ⊢
 clear o
 have O:=H
 go_wp2_with fail
 refine(ai F hL dj).mono ?_
 rintro _ w1 ⟨v,rfl,J,B,rfl⟩
 have h:=hid J
 have f:=hid (B.blk y (by have:=O.out;omega))
 have t:=hid (G.trans B)
 clear J B
 clear y G F
 cases b:isS dj s
 ·have e:(aq dj s).2=s:=by simp[aq,b]
  rw[e]at h
  clear e
  have z:Hid (ExG (I+1) w1 exZ (.agg #[.int .i64 0,.string ⟨#[]⟩,.string ⟨#[]⟩,.int .i64 0,.int .i64 0,.int .i64 0,.string ⟨#[]⟩,.slice none 0 0])):=exG_zero _ _
  have p:Hid (R.1=exZ):=by
   rw[K.out,b]
   rfl
  have m:Hid (R.2=s):=by
   rw[K.out,b]
   rfl
  obtain⟨z0,z1,z2,z3,z4,z5,z6,z7,-⟩:=cls f
  obtain⟨y0,y1,y2,y3,y4,y5,y6,y7,-⟩:=frz f
  have u:=aE f eZ rfl
  have a:=hid (ak I eZ w1 0)
  simp only[sts]at u
  have HZ:=hid u
  clear u
  go_wp2_with fail
  obtain⟨q0,q1,W,V,U,q5,X,Y,-⟩:=cls HZ
  exact bodyPost_ret (v:= .agg #[.int .i64 0,.string ⟨#[]⟩,.string ⟨#[]⟩,.int .i64 0,.int .i64 0,.int .i64 0,.string ⟨#[]⟩,.slice none 0 0]) (by simp[results,Tryz.results60,go_sem,q0,q1,W,V,U,q5,X,Y]) rfl ⟨_,rfl,by rw[m.out];exact h.grown a (fun q k=>by have:=O.out;have:=Option.some.inj k;omega),t.own a (fun q k=>by have:=Option.some.inj k;rw[i.out];omega),by rw[p.out,i.out];exact eA z a (Nat.lt_succ_self _)⟩
 ·have e:(aq dj s).2=s.next:=by simp[aq,b]
  rw[e]at h
  clear e
  have an:=aM b
  go_wp2_with fail
  refine(hr _ _ h (by omega)).mono ?_
  rintro _ w2 ⟨v,rfl,J,B,D,E,c1,rfl,h3⟩
  have Q:=hid J
  have x:=hid (B.blk f (by have:=O.out;omega))
  have ad:=hid (t.trans B)
  obtain⟨e1,C⟩:∃e,(ex s.next).1=e:=⟨_,rfl⟩
  have ag:=hid C
  rw[C]at h3 ⊢
  clear C
  obtain⟨⟨op,tb,nm,ix,vk,vi,vt⟩,ks⟩:=e1
  unfold Nd.val
  simp only[Ex.d]
  have l:Hid (Stb (I+1≤·) w2 fun w'=>ExV w' (.mk ⟨op,tb,nm,ix,vk,vi,vt⟩ ks) D E c1):=h3.weak fun q _ k=>Nat.le_trans f.lt k
  clear J B h3
  clear f t h
  have z:Hid (ExG (I+1) w2 (.mk ⟨op,tb,nm,ix,vk,vi,vt⟩ ks) (.agg #[.int .i64 op,.string tb,.string nm,.int .i64 ix,.int .i64 vk,.int .i64 vi,.string vt,.slice D E c1])):=⟨D,E,c1,rfl,l⟩
  have p:Hid (R.1=(.mk ⟨op,tb,nm,ix,vk,vi,vt⟩ ks)):=by
   rw[K.out,b]
   exact ag
  have m:Hid (R.2=(ex s.next).2):=by
   rw[K.out,b]
   rfl
  obtain⟨z0,z1,z2,z3,z4,z5,z6,z7,-⟩:=cls x
  obtain⟨y0,y1,y2,y3,y4,y5,y6,y7,-⟩:=frz x
  have u:=aE x (eC op tb nm ix vk vi vt D E c1) rfl
  have a:=hid (ak I (eC op tb nm ix vk vi vt D E c1) w2 0)
  simp only[sts]at u
  have HZ:=hid u
  clear u
  go_wp2_with fail
  obtain⟨q0,q1,W,V,U,q5,X,Y,-⟩:=cls HZ
  exact bodyPost_ret (v:= .agg #[.int .i64 op,.string tb,.string nm,.int .i64 ix,.int .i64 vk,.int .i64 vi,.string vt,.slice D E c1]) (by simp[results,Tryz.results60,go_sem,q0,q1,W,V,U,q5,X,Y]) rfl ⟨_,rfl,by rw[m.out];exact Q.grown a (fun q k=>by have:=O.out;have:=Option.some.inj k;omega),ad.own a (fun q k=>by have:=Option.some.inj k;rw[i.out];omega),by rw[p.out,i.out];exact eA z a (Nat.lt_succ_self _)⟩
end
end
section
open Lx (Tk)
section
variable {P c:Nat} {A:Option Addr} {L:List Tk} {w0 w:World} {s:Ps}
theorem tuple_rd {n:Nat} {ex:M Ex} (j:Fwd ex) (Q:Rdr 68 P A c L w0 n 39 ex) (hn:s.r.length<n) (E:PsAt 68 P A c L w0 w s) (o:TkL L):
  Calls Tryz.prog 57 #[.pointer (some ⟨P,0,none⟩)] w (Ran 68 P A c L w0 w (tupP ex s).2 fun v w'=>Elrow w.heap.size w' (tupP ex s).1 v):=by
 have U:=hid (az (E.ext ((Ext.refl w).alloc (.cells #[.string yLp] 9))) o yLp w.heap.size (by simp[World.cell?_alloc_new]))
 have O:=hid ((Ext.refl w).alloc (.cells #[.string yLp] 9))
 have x:=hid E.lt
 have y:Hid (tupP ex s=((listP ex (needP yLp s)).1,needP yRp (listP ex (needP yLp s)).2)):=rfl
 obtain⟨R,F⟩:∃R,tupP ex s=R:=⟨_,rfl⟩
 rw[F]at y ⊢
 clear F
 go_enter Tryz.func57,Tryz.ntmps57
 go_wp2_with fail
 refine U.mono ?_
 rintro _ I ⟨v,rfl,e,a,_⟩
 replace a:Chg P w I:=(Chg.of O).trans a
 have Y:=aH yLp s
 go_wp2_with fail
 refine(list_ex 39 (fun _ _=>by kernel_rfl) ex j e o (fun W st H V=>Q W st H (by omega))).mono ?_
 rintro _ b ⟨v,rfl,G,D,B,k,rfl,C⟩
 have g:=dw j (needP yLp s)
 have m:=e.le
 have p:Hid ((listP ex (needP yLp s)).1.length≤9223372036854775807):=by have:=o.len;unfold Hid;omega
 have z:Hid (Stb (w.heap.size≤·) b (fun b=>KidsAt b B (listP ex (needP yLp s)).1)):=(C.imp fun _ h=>j4 h).weak fun q _ X=>Nat.le_trans a.size X
 have t:=hid (az (G.ext ((Ext.refl b).alloc (.cells #[.string yRp] 9))) o yRp b.heap.size (by simp[World.cell?_alloc_new]))
 have J:=hid (a.trans D)
 have f:=hid ((Ext.refl b).alloc (.cells #[.string yRp] 9))
 clear e a G D C g m
 generalize (listP ex (needP yLp s)).1=l at*
 go_wp2_with fail
 refine t.mono ?_
 rintro _ Z ⟨v,rfl,e,a,_⟩
 have K:=hid e
 have u:=hid ((J.ext f).trans a)
 have i:=hid (Stb.chg (Stb.ext z f) a x)
 clear e a
 go_wp2_with fail
 go_ret
 exact⟨_,rfl,by rw[y.out];exact K,u,by rw[y.out];exact⟨B,k,rfl,p,i⟩⟩
theorem dig_zero {L:List Tk} (b:TkL L) {a:Tk} (e:a∈L) (f:a.kind=3):(eh (tkB a)==0)=decide (tkB a=⟨#[48]⟩):=by
 obtain⟨_,_,_,g⟩:=b.num a e f
 rw[Bool.eq_iff_iff,beq_iff_eq,decide_eq_true_iff,g]
 unfold tkB
 constructor
 ·intro h;rw[h]
 ·intro h
  simp only[ByteArray.mk.injEq]at h
  have:=congrArg Array.toList h
  simpa using this
theorem gE (k:PsAt 68 P A c L w0 w s) (m:TkL L) (F:Er w0):
  Calls Tryz.prog 109 #[.pointer (some ⟨P,0,none⟩)] w (Ran 68 P A c L w0 w (posP s).2 fun v _=>v= .int .i64 (posP s).1):=by
 have j:Hid (posP s=numP (if (hasK 3 s&&eh (tkB s.hd)==0)=true then s.fail else s)):=rfl
 obtain⟨R,J⟩:∃R,posP s=R:=⟨_,rfl⟩
 rw[J]at j ⊢
 clear J
 have U:=hid k
 have n:∀x:ae w,Calls Tryz.prog 43 #[.pointer (some ⟨P,0,none⟩),.int .i64 3] x.now fun e w'=>e= .returned (.bool (hasK 3 s))∧Ext x.now w':=fun x=>gB (k.ext x.ext) m 3
 obtain⟨b,Y,W,hb,c0,c1,c2⟩:=k.cells
 subst W
 obtain⟨Z,G,-⟩:=cls k.blk
 have hi:=k.lti
 have hl:=m.len
 have t:Hid (hasK 3 s=true→(eh (tkB s.hd)==0)=decide (tkB s.hd=⟨#[48]⟩)):=fun h=>dig_zero m k.mem (by simp[hasK]at h;exact h.2)
 obtain⟨i,o⟩:∃i,L.length-s.r.length=i:=⟨_,rfl⟩
 rw[o]at G c0 c1 c2 hi
 have i0:(0:Int)≤(i:Int):=by omega
 have i1:(i:Int)<(L.length:Int):=by omega
 clear k o
 go_enter Tryz.func109,Tryz.ntmps109
 go_upto_region 1 with fail
 have K:=ae.keep Z
 have H:=ae.keep G
 have Q:=ae.keep c1
 generalize tkB s.hd=X at*
 cases D:hasK 3 s
 ·rw[D]at n j
  refine aa (by kernel_rfl) (by kernel_rfl) ?_
  repeat (go_big_quiet_step ((first|(go_at_call 43;exact am (n _)))))
  refine wpQuiet_nil ?_
  intro w' g
  have l:=af g
  have q:=hid (ct (U.ext l) m F)
  have f:R=numP s:=j.out
  have a:=hid f
  have B:=hid l
  clear g l j f K H Q n
  go_wp2_with fail
  refine q.mono ?_
  rintro _ I ⟨v,rfl,y,u,rfl⟩
  go_wp2_with fail
  go_ret
  exact⟨_,rfl,by rw[a.out];exact y,(Chg.of B).trans u,by rw[a.out];rfl⟩
 ·have O:=t D
  rw[D,O]at j
  rw[D]at n
  clear O t
  refine aa (by kernel_rfl) (by kernel_rfl) ?_
  repeat (go_big_quiet_step ((first|(go_at_call 43;exact am (n _)))))
  refine wpQuiet_nil ?_
  intro w' g
  have l:=af g
  have p:(X.toList== [48])=decide (X=⟨#[48]⟩):=by
   have:=iU X ⟨#[48]⟩
   rw[←this]
   congr 1
   rw[ByteArray.toList_eq]
  rw[p]
  clear p
  have B:=hid l
  have z:=hid (U.ext l)
  clear g l K H Q n
  cases C:decide (X=⟨#[48]⟩)
  ·rw[C]at j
   have f:R=numP s:=j.out
   have a:=hid f
   have q:=hid (ct z m F)
   clear f j C
   go_wp2_with fail
   refine q.mono ?_
   rintro _ I ⟨v,rfl,y,u,rfl⟩
   go_wp2_with fail
   go_ret
   exact⟨_,rfl,by rw[a.out];exact y,(Chg.of B).trans u,by rw[a.out];rfl⟩
  ·rw[C]at j
   have f:R=numP s.fail:=j.out
   have a:=hid f
   have E:=hid z.fail
   have q:=hid (ct E m F)
   have V:=hid ((Chg.of (P:=P) B).set 2 (.bool true))
   have p2:=z.blk.cell_some (i:=2) rfl
   have f2:=z.blk.frozen 2
   clear f j C
   go_wp2_with fail
   refine q.mono ?_
   rintro _ I ⟨v,rfl,y,u,rfl⟩
   go_wp2_with fail
   go_ret
   exact⟨_,rfl,by rw[a.out];exact y,V.trans u,by rw[a.out];rfl⟩
end
end
section
open Lx (Tk)
section
variable {P c:Nat} {A:Option Addr} {L:List Tk} {w0 w:World} {s:Ps}
theorem kP (hp:PsAt 68 P A c L w0 w s) (hL:TkL L):
  Calls Tryz.prog 104 #[.pointer (some ⟨P,0,none⟩)] w (Ran 68 P A c L w0 w (srcP s).2 fun v w'=>v= .agg #[.string (srcP s).1.tb,.string (srcP s).1.al]∧(srcP s).1.tb.size≤20000∧(srcP s).1.al.size≤20000):=by
 have r:=(Ext.refl w).alloc (.cells #[.string ⟨#[]⟩,.string ⟨#[]⟩] 86)
 have C:=hid (hp.ext r)
 have ad:Hid (P<w.heap.size):=hp.lt
 have K:=hid (Blk.of_new w 86 [.string ⟨#[]⟩,.string ⟨#[]⟩])
 have ac:=hid (Chg.of (P:=P) r)
 have U:Hid (srcP s=if isS kAS (takP 1 s).2=true then (⟨(takP 1 s).1,(takP 1 (takP 1 s).2.next).1⟩,(takP 1 (takP 1 s).2.next).2)else (⟨(takP 1 s).1,⟨#[]⟩⟩,(takP 1 s).2)):=rfl
 have a4:Hid (w.heap.size≤(w.alloc (.cells #[.string ⟨#[]⟩,.string ⟨#[]⟩] 86)).heap.size):=r.size
 obtain⟨R,hR⟩:∃R,srcP s=R:=⟨_,rfl⟩
 rw[hR]at U ⊢
 clear hp r hR
 go_enter Tryz.func104,Tryz.ntmps104
 go_upto_region 1 with fail
 generalize w.alloc (.cells #[.string ⟨#[]⟩,.string ⟨#[]⟩] 86)=wz at*
 obtain⟨g0,G⟩:∃g,w.heap.size=g:=⟨_,rfl⟩
 have D:=hid G
 rw[G]at ad K a4 ⊢
 clear G
 have y:=ad
 have V:=hid (C.tak_size hL 1)
 go_wp2_with fail
 refine(bV C hL).mono ?_
 rintro _ Z ⟨v,rfl,z,j,rfl⟩
 have J:=hid z
 have E:=hid (j.blk K (by have:=y.out;omega))
 have ax:=hid (ac.trans j)
 clear z j
 clear K ac C
 obtain⟨X,hX⟩:∃x,(takP 1 s).1=x:=⟨_,rfl⟩
 obtain⟨u,B⟩:∃x,(takP 1 s).2=x:=⟨_,rfl⟩
 rw[hX,B]at U
 rw[hX]at V ⊢
 rw[B]at J
 clear hX B
 go_upto_region 2 with fail
 have hx:=(Ext.refl Z).alloc (.cells #[.string X,.string ⟨#[]⟩] 86)
 have a1:=hid (E.ext hx)
 have a3:=hid (ax.ext hx)
 have W:=hid (J.ext hx)
 have n:=hid (Blk.of_new Z 86 [.string X,.string ⟨#[]⟩])
 have o:Hid (g0<Z.heap.size):=E.lt
 clear hx
 clear E ax J
 generalize Z.alloc (.cells #[.string X,.string ⟨#[]⟩] 86)=w2 at*
 generalize Z.heap.size=gv at*
 go_wp2_with fail
 refine(ai W hL kAS).mono ?_
 rintro _ w3 ⟨v,rfl,z,j,rfl⟩
 have f:=hid z
 have k:=hid (j.blk a1 (by have:=y.out;omega))
 have Q:=hid (a3.trans j)
 have b:=hid (j.blk n (by have:=y.out;have:=o.out;omega))
 clear z j
 clear a1 a3 W n
 cases h:isS kAS u
 ·have e:(aq kAS u).2=u:=by simp[aq,h]
  rw[e]at f
  clear e
  obtain⟨b0,b1,-⟩:=cls b
  have H:Hid (R.1=⟨X,⟨#[]⟩⟩):=by
   rw[U.out,h]
   rfl
  have F:Hid (R.2=u):=by
   rw[U.out,h]
   rfl
  obtain⟨z0,z1,-⟩:=cls k
  have y0:=k.frozen 0
  have y1:=k.frozen 1
  have I:=aE k [.string X,.string ⟨#[]⟩] rfl
  have l:=hid (ak g0 [.string X,.string ⟨#[]⟩] w3 0)
  simp only[sts]at I
  have HZ:=hid I
  clear I
  go_wp2_with fail
  obtain⟨q0,q1,-⟩:=cls HZ
  exact bodyPost_ret (v:= .agg #[.string X,.string ⟨#[]⟩]) (by simp[results,Tryz.results104,go_sem,q0,q1]) rfl ⟨_,rfl,by rw[F.out];exact f.grown l (fun q m=>by have:=y.out;have:=Option.some.inj m;omega),Q.own l (fun q m=>by have:=Option.some.inj m;rw[D.out];omega),by rw[H.out];exact⟨rfl,V,Nat.zero_le _⟩⟩
 ·have e:(aq kAS u).2=u.next:=by simp[aq,h]
  rw[e]at f
  clear e
  have an:=hid (f.tak_size hL 1)
  go_wp2_with fail
  refine(bV f hL).mono ?_
  rintro _ w4 ⟨v,rfl,z,j,rfl⟩
  have a2:=hid z
  have a0:=hid (j.blk k (by have:=y.out;omega))
  have ag:=hid (Q.trans j)
  have a:=hid (j.blk b (by have:=y.out;have:=o.out;omega))
  clear z j
  clear k Q f b
  obtain⟨Y,hY⟩:∃x,(takP 1 u.next).1=x:=⟨_,rfl⟩
  rw[hY]at U an ⊢
  clear hY
  have z9:=a.cell_some (i:=1) rfl
  have y9:=a.frozen 1
  have p:=ak gv [.string Y] w4 1
  simp only[sts]at p
  have a6:=hid (a2.grown p (fun q m=>by have:=Option.some.inj m;have:=y.out;have:=o.out;omega))
  have t:=hid (a0.grown p (fun e=>by have:=Option.some.inj e;have:=o.out;omega))
  have a5:=hid (ag.own p (fun q m=>by have:=Option.some.inj m;have:=o.out;rw[D.out];omega))
  have O:=hid (a.set 1 (.string Y))
  clear p
  clear a0 ag a2 a
  go_upto_region 4 with fail
  generalize w4.setCell ⟨gv,1,none⟩ (.string Y)=w5 at*
  clear z9 y9
  obtain⟨b0,b1,-⟩:=cls O
  have H:Hid (R.1=⟨X,Y⟩):=by
   rw[U.out,h]
   rfl
  have F:Hid (R.2=(takP 1 u.next).2):=by
   rw[U.out,h]
   rfl
  obtain⟨z0,z1,-⟩:=cls t
  have y0:=t.frozen 0
  have y1:=t.frozen 1
  have I:=aE t [.string X,.string Y] rfl
  have l:=hid (ak g0 [.string X,.string Y] w5 0)
  simp only[sts]at I
  have HZ:=hid I
  clear I
  go_wp2_with fail
  obtain⟨q0,q1,-⟩:=cls HZ
  exact bodyPost_ret (v:= .agg #[.string X,.string Y]) (by simp[results,Tryz.results104,go_sem,q0,q1]) rfl ⟨_,rfl,by rw[F.out];exact a6.grown l (fun q m=>by have:=y.out;have:=Option.some.inj m;omega),a5.own l (fun q m=>by have:=Option.some.inj m;rw[D.out];omega),by rw[H.out];exact⟨rfl,V,an⟩⟩
theorem order_rd (hE:Er w0) (hp:PsAt 68 P A c L w0 w s) (hL:TkL L):
  Calls Tryz.prog 108 #[.pointer (some ⟨P,0,none⟩)] w (Ran 68 P A c L w0 w (fE posP s).2 fun v w'=>Elord w.heap.size w' (fE posP s).1 v):=by
 have H:=(Ext.refl w).alloc (.cells #[.int .i64 0,.bool false] 88)
 have G:=hid (hp.ext H)
 have a0:Hid (P<w.heap.size):=hp.lt
 have Z:=hid (Blk.of_new w 88 [.int .i64 0,.bool false])
 have ax:=hid (Chg.of (P:=P) H)
 have Q:Hid (fE posP s=if isS kASC (posP s).2=true then (⟨(posP s).1,false⟩,(posP s).2.next)else if isS ku (posP s).2=true then (⟨(posP s).1,true⟩,(posP s).2.next)else (⟨(posP s).1,false⟩,(posP s).2)):=rfl
 have a4:Hid (w.heap.size≤(w.alloc (.cells #[.int .i64 0,.bool false] 88)).heap.size):=H.size
 obtain⟨R,hR⟩:∃R,fE posP s=R:=⟨_,rfl⟩
 rw[hR]at Q ⊢
 clear hp H hR
 go_enter Tryz.func108,Tryz.ntmps108
 go_upto_region 1 with fail
 generalize w.alloc (.cells #[.int .i64 0,.bool false] 88)=wz at*
 obtain⟨g0,X⟩:∃g,w.heap.size=g:=⟨_,rfl⟩
 have y:=hid X
 rw[X]at a0 Z a4 ⊢
 clear X
 have F:=a0
 have K:Hid (I64 (posP s).1):=by
  have h9:0≤(posP s).1∧(posP s).1≤2147483648:=by
   unfold posP
   split
   ·exact G.fail.num_le hL
   ·exact G.num_le hL
  unfold Hid I64
  omega
 go_wp2_with fail
 refine(gE G hL hE).mono ?_
 rintro _ w1 ⟨v,rfl,O,t,rfl⟩
 have Y:=hid O
 have W:=hid (t.blk Z (by have:=F.out;omega))
 have a1:=hid (ax.trans t)
 clear O t
 clear Z ax G
 obtain⟨V,hV⟩:∃x,(posP s).1=x:=⟨_,rfl⟩
 obtain⟨r,U⟩:∃x,(posP s).2=x:=⟨_,rfl⟩
 rw[hV,U]at Q
 rw[hV]at K ⊢
 rw[U]at Y
 clear hV U
 go_upto_region 2 with fail
 have hx:=(Ext.refl w1).alloc (.cells #[.int .i64 V,.bool false] 88)
 have a2:=hid (W.ext hx)
 have a3:=hid (a1.ext hx)
 have an:=hid (Y.ext hx)
 have E:=hid (Blk.of_new w1 88 [.int .i64 V,.bool false])
 have l:Hid (g0<w1.heap.size):=W.lt
 clear hx
 clear W a1 Y
 generalize w1.alloc (.cells #[.int .i64 V,.bool false] 88)=w2 at*
 generalize w1.heap.size=gv at*
 go_wp2_with fail
 refine(ai an hL kASC).mono ?_
 rintro _ w3 ⟨v,rfl,O,t,rfl⟩
 have z:=hid O
 have u:=hid (t.blk a2 (by have:=F.out;omega))
 have ag:=hid (a3.trans t)
 have m:=hid (t.blk E (by have:=F.out;have:=l.out;omega))
 clear O t
 clear a2 a3 an E
 cases k:isS kASC r
 ·have e:(aq kASC r).2=r:=by simp[aq,k]
  rw[e]at z
  clear e
  go_wp2_with fail
  refine(ai z hL ku).mono ?_
  rintro _ w4 ⟨v,rfl,O,t,rfl⟩
  have p:=hid O
  have J:=hid (t.blk u (by have:=F.out;omega))
  have I:=hid (ag.trans t)
  have a:=hid (t.blk m (by have:=F.out;have:=l.out;omega))
  clear O t
  clear u ag z m
  cases o:isS ku r
  ·have e:(aq ku r).2=r:=by simp[aq,o]
   rw[e]at p
   clear e
   have z9:=a.cell_some (i:=1) rfl
   have y9:=a.frozen 1
   have b:=ak gv [.bool false] w4 1
   simp only[sts]at b
   have ad:=hid (p.grown b (fun q h=>by have:=Option.some.inj h;have:=F.out;have:=l.out;omega))
   have f:=hid (J.grown b (fun e=>by have:=Option.some.inj e;have:=l.out;omega))
   have ac:=hid (I.own b (fun q h=>by have:=Option.some.inj h;have:=l.out;rw[y.out];omega))
   have n:=hid (a.set 1 (.bool false))
   clear b
   clear J I p a
   go_upto_region 4 with fail
   generalize w4.setCell ⟨gv,1,none⟩ (.bool false)=w5 at*
   clear z9 y9
   obtain⟨b0,b1,-⟩:=cls n
   have C:Hid (R.1=⟨V,false⟩):=by
    rw[Q.out,k,o]
    rfl
   have B:Hid (R.2=r):=by
    rw[Q.out,k,o]
    rfl
   obtain⟨z0,z1,-⟩:=cls f
   have y0:=f.frozen 0
   have y1:=f.frozen 1
   have D:=aE f [.int .i64 V,.bool false] rfl
   have j:=hid (ak g0 [.int .i64 V,.bool false] w5 0)
   simp only[sts]at D
   have HZ:=hid D
   clear D
   go_wp2_with fail
   obtain⟨q0,q1,-⟩:=cls HZ
   exact bodyPost_ret (v:= .agg #[.int .i64 V,.bool false]) (by simp[results,Tryz.results108,go_sem,q0,q1]) rfl ⟨_,rfl,by rw[B.out];exact ad.grown j (fun q h=>by have:=F.out;have:=Option.some.inj h;omega),ac.own j (fun q h=>by have:=Option.some.inj h;rw[y.out];omega),by rw[C.out];exact⟨rfl,K⟩⟩
  ·have e:(aq ku r).2=r.next:=by simp[aq,o]
   rw[e]at p
   clear e
   have z9:=a.cell_some (i:=1) rfl
   have y9:=a.frozen 1
   have b:=ak gv [.bool true] w4 1
   simp only[sts]at b
   have ad:=hid (p.grown b (fun q h=>by have:=Option.some.inj h;have:=F.out;have:=l.out;omega))
   have f:=hid (J.grown b (fun e=>by have:=Option.some.inj e;have:=l.out;omega))
   have ac:=hid (I.own b (fun q h=>by have:=Option.some.inj h;have:=l.out;rw[y.out];omega))
   have n:=hid (a.set 1 (.bool true))
   clear b
   clear J I p a
   go_upto_region 4 with fail
   generalize w4.setCell ⟨gv,1,none⟩ (.bool true)=w5 at*
   clear z9 y9
   obtain⟨b0,b1,-⟩:=cls n
   have C:Hid (R.1=⟨V,true⟩):=by
    rw[Q.out,k,o]
    rfl
   have B:Hid (R.2=r.next):=by
    rw[Q.out,k,o]
    rfl
   obtain⟨z0,z1,-⟩:=cls f
   have y0:=f.frozen 0
   have y1:=f.frozen 1
   have D:=aE f [.int .i64 V,.bool true] rfl
   have j:=hid (ak g0 [.int .i64 V,.bool true] w5 0)
   simp only[sts]at D
   have HZ:=hid D
   clear D
   go_wp2_with fail
   obtain⟨q0,q1,-⟩:=cls HZ
   exact bodyPost_ret (v:= .agg #[.int .i64 V,.bool true]) (by simp[results,Tryz.results108,go_sem,q0,q1]) rfl ⟨_,rfl,by rw[B.out];exact ad.grown j (fun q h=>by have:=F.out;have:=Option.some.inj h;omega),ac.own j (fun q h=>by have:=Option.some.inj h;rw[y.out];omega),by rw[C.out];exact⟨rfl,K⟩⟩
 ·have e:(aq kASC r).2=r.next:=by simp[aq,k]
  rw[e]at z
  clear e
  obtain⟨b0,b1,-⟩:=cls m
  have C:Hid (R.1=⟨V,false⟩):=by
   rw[Q.out,k]
   rfl
  have B:Hid (R.2=r.next):=by
   rw[Q.out,k]
   rfl
  obtain⟨z0,z1,-⟩:=cls u
  have y0:=u.frozen 0
  have y1:=u.frozen 1
  have D:=aE u [.int .i64 V,.bool false] rfl
  have j:=hid (ak g0 [.int .i64 V,.bool false] w3 0)
  simp only[sts]at D
  have HZ:=hid D
  clear D
  go_wp2_with fail
  obtain⟨q0,q1,-⟩:=cls HZ
  exact bodyPost_ret (v:= .agg #[.int .i64 V,.bool false]) (by simp[results,Tryz.results108,go_sem,q0,q1]) rfl ⟨_,rfl,by rw[B.out];exact z.grown j (fun q h=>by have:=F.out;have:=Option.some.inj h;omega),ag.own j (fun q h=>by have:=Option.some.inj h;rw[y.out];omega),by rw[C.out];exact⟨rfl,K⟩⟩
end
end
end Go.Proofs.YtjigcpfjhfoheaaGreatDoor
