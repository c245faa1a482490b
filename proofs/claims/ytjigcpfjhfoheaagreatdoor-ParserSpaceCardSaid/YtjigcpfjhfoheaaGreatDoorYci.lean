/- Walk: an assignment; Statements: how they lie in memory, whole structs loaded and stored; a parser's steps with known answers; Walk: a statement. -/
import Derived.Test.YtjigcpfjhfoheaaGreatDoorYcc
import Derived.Test.YtjigcpfjhfoheaaGreatDoorYbg
import Derived.Test.YtjigcpfjhfoheaaGreatDoorYce
import Derived.Great.Walk
namespace Go.Proofs.YtjigcpfjhfoheaaGreatDoor
open Go.RowKit
set_option maxHeartbeats 4000000
set_option maxRecDepth 100000
set_option linter.unusedVariables false
set_option linter.unusedSimpArgs false
section
open Lx (Tk)
section
variable {P c:Nat} {A:Option Addr} {L:List Tk} {w0 w:World} {s:Ps}
theorem kl {n:Nat} {ex:M Ex} (hr:Rdr 68 P A c L w0 n 39 ex) (hn:s.r.length<n) (hp:PsAt 68 P A c L w0 w s) (hL:TkL L):
  Calls Tryz.prog 59 #[.pointer (some ⟨P,0,none⟩)] w (Ran 68 P A c L w0 w (asgP ex s).2 fun v w'=>Elasg w.heap.size w' (asgP ex s).1 v):=by
 have y:=(Ext.refl w).alloc (.cells #[.string ⟨#[]⟩,.int .i64 0,.int .i64 0,.string ⟨#[]⟩,.string ⟨#[]⟩,.int .i64 0,.int .i64 0,.int .i64 0,.string ⟨#[]⟩,.slice none 0 0] 82)
 have Y:=hid (hp.ext y)
 have an:Hid (P<w.heap.size):=hp.lt
 have E:=hid (Blk.of_new w 82 [.string ⟨#[]⟩,.int .i64 0,.int .i64 0,.string ⟨#[]⟩,.string ⟨#[]⟩,.int .i64 0,.int .i64 0,.int .i64 0,.string ⟨#[]⟩,.slice none 0 0])
 have bd:=hid (Chg.of (P:=P) y)
 have HM:Hid (asgP ex s=(⟨(takP 1 s).1,0,(ex (needP yEq (takP 1 s).2)).1⟩,(ex (needP yEq (takP 1 s).2)).2)):=rfl
 have bw:Hid (w.heap.size≤(w.alloc (.cells #[.string ⟨#[]⟩,.int .i64 0,.int .i64 0,.string ⟨#[]⟩,.string ⟨#[]⟩,.int .i64 0,.int .i64 0,.int .i64 0,.string ⟨#[]⟩,.slice none 0 0] 82)).heap.size):=y.size
 obtain⟨R,hR⟩:∃R,asgP ex s=R:=⟨_,rfl⟩
 rw[hR]at HM ⊢
 clear hp y hR
 go_enter Tryz.func59,Tryz.ntmps59
 go_upto_region 1 with fail
 generalize w.alloc (.cells #[.string ⟨#[]⟩,.int .i64 0,.int .i64 0,.string ⟨#[]⟩,.string ⟨#[]⟩,.int .i64 0,.int .i64 0,.int .i64 0,.string ⟨#[]⟩,.slice none 0 0] 82)=wz at*
 obtain⟨g0,I⟩:∃g,w.heap.size=g:=⟨_,rfl⟩
 have O:=hid I
 rw[I]at an E bw ⊢
 clear I
 have HG:=an
 have a3:=hid (Y.tak_size hL 1)
 have bf:=fwd_tak 1 s
 go_wp2_with fail
 refine(bV Y hL).mono ?_
 rintro _ w1 ⟨v,rfl,B,h,rfl⟩
 have ac:=hid B
 have H:=hid (h.blk E (by have:=HG.out;omega))
 have a5:=hid (bd.trans h)
 clear B h
 clear E bd Y
 obtain⟨X,hX⟩:∃x,(takP 1 s).1=x:=⟨_,rfl⟩
 obtain⟨s1,D⟩:∃x,(takP 1 s).2=x:=⟨_,rfl⟩
 rw[hX,D]at HM
 rw[hX]at a3 ⊢
 rw[D]at ac bf
 clear hX D
 go_upto_region 2 with fail
 have hx:=(Ext.refl w1).alloc (.cells #[.string X,.int .i64 0,.int .i64 0,.string ⟨#[]⟩,.string ⟨#[]⟩,.int .i64 0,.int .i64 0,.int .i64 0,.string ⟨#[]⟩,.slice none 0 0] 82)
 have a1:=hid (H.ext hx)
 have a2:=hid (a5.ext hx)
 have ba:=hid (ac.ext hx)
 have k:=hid (Blk.of_new w1 82 [.string X,.int .i64 0,.int .i64 0,.string ⟨#[]⟩,.string ⟨#[]⟩,.int .i64 0,.int .i64 0,.int .i64 0,.string ⟨#[]⟩,.slice none 0 0])
 have p:Hid (g0<w1.heap.size):=H.lt
 clear hx
 clear H a5 ac
 generalize w1.alloc (.cells #[.string X,.int .i64 0,.int .i64 0,.string ⟨#[]⟩,.string ⟨#[]⟩,.int .i64 0,.int .i64 0,.int .i64 0,.string ⟨#[]⟩,.slice none 0 0] 82)=w2 at*
 generalize w1.heap.size=u at*
 go_wp2_with fail
 refine(az (ba.ext ((Ext.refl w2).alloc (.cells #[.string yEq] 9))) hL yEq w2.heap.size (by simp[World.cell?_alloc_new])).mono ?_
 rintro _ w3 ⟨v,rfl,B,h,_⟩
 replace h:Chg P w2 w3:=(Chg.of ((Ext.refl w2).alloc (.cells #[.string yEq] 9))).trans h
 have a0:=hid B
 have G:=hid (h.blk a1 (by have:=HG.out;omega))
 have a9:=hid (a2.trans h)
 have j:=hid (h.blk k (by have:=HG.out;have:=p.out;omega))
 clear B h
 clear a1 a2 ba k
 have bN:=aH yEq s1
 go_wp2_with fail
 refine(hr _ _ a0 (by omega)).mono ?_
 rintro _ w4 ⟨v,rfl,B,h,z,C,c1,rfl,h3⟩
 have ax:=hid B
 have a6:=hid (h.blk G (by have:=HG.out;omega))
 have a4:=hid (a9.trans h)
 have b:=hid (h.blk j (by have:=HG.out;have:=p.out;omega))
 obtain⟨e1,ag⟩:∃e,(ex (needP yEq s1)).1=e:=⟨_,rfl⟩
 have be:=hid ag
 rw[ag]at h3 ⊢
 clear ag
 obtain⟨⟨op,tb,nm,ix,vk,vi,vt⟩,ks⟩:=e1
 unfold Nd.val
 simp only[Ex.d]
 have m:Hid (Stb (Sx g0 u) w4 fun w'=>ExV w' (.mk ⟨op,tb,nm,ix,vk,vi,vt⟩ ks) z C c1):=h3.weak fun q _ f=>⟨Nat.le_trans G.lt f,by have h8:=j.lt;have h9:w3.heap.size≤q:=f;omega⟩
 clear B h h3
 clear G a9 a0 j
 have z0:=b.cell_some (i:=2) rfl
 have y0:=b.frozen 2
 have z1:=b.cell_some (i:=3) rfl
 have y1:=b.frozen 3
 have z2:=b.cell_some (i:=4) rfl
 have y2:=b.frozen 4
 have z3:=b.cell_some (i:=5) rfl
 have y3:=b.frozen 5
 have z4:=b.cell_some (i:=6) rfl
 have y4:=b.frozen 6
 have z5:=b.cell_some (i:=7) rfl
 have y5:=b.frozen 7
 have z6:=b.cell_some (i:=8) rfl
 have y6:=b.frozen 8
 have z7:=b.cell_some (i:=9) rfl
 have y7:=b.frozen 9
 have t:=ak u (eC op tb nm ix vk vi vt z C c1) w4 2
 have ad:=d9 u 82 (eC op tb nm ix vk vi vt z C c1) w4 [.string X,.int .i64 0] eZ rfl b
 have hs:=ax.grown t (fun q f=>by have:=Option.some.inj f;have:=HG.out;have:=p.out;omega)
 have K:=a6.grown t (fun e=>by have:=Option.some.inj e;have:=p.out;omega)
 have U:=a4.own t (fun q f=>by have:=Option.some.inj f;have:=p.out;rw[O.out];omega)
 have l:=Stb.grown m t (fun q f e=>f.2 (Option.some.inj e).symm)
 simp only[List.length_cons,List.length_nil,sts]at ad hs K U l
 have bx:=hid hs
 have Z:=hid K
 have bm:=hid U
 have J:=hid ad
 have F:=hid l
 clear t ad hs K U l
 clear a6 a4 ax m b
 go_upto_region 4 with fail
 generalize (((((((w4.setCell ⟨u,2,none⟩ (.int .i64 op)).setCell ⟨u,3,none⟩ (.string tb)).setCell ⟨u,4,none⟩ (.string nm)).setCell ⟨u,5,none⟩ (.int .i64 ix)).setCell ⟨u,6,none⟩ (.int .i64 vk)).setCell ⟨u,7,none⟩ (.int .i64 vi)).setCell ⟨u,8,none⟩ (.string vt)).setCell ⟨u,9,none⟩ (.slice z C c1)=w5 at*
 clear z0 y0 z1 y1 z2 y2 z3 y3 z4 y4 z5 y5 z6 y6 z7 y7
 obtain⟨b0,b1,b2,b3,b4,b5,b6,b7,b8,b9,-⟩:=cls J
 have bn:Hid (R.1=⟨X,0,(.mk ⟨op,tb,nm,ix,vk,vi,vt⟩ ks)⟩):=by
  rw[HM.out]
  exact congrArg (fun x=> (⟨X,0,x⟩:Asg)) be
 have bk:Hid (R.2=(ex (needP yEq s1)).2):=by
  rw[HM.out]
  rfl
 obtain⟨z0,z1,z2,z3,z4,z5,z6,z7,z8,z9,-⟩:=cls Z
 obtain⟨y0,y1,y2,y3,y4,y5,y6,y7,y8,y9,-⟩:=frz Z
 have hz:=aE Z [.string X,.int .i64 0,.int .i64 op,.string tb,.string nm,.int .i64 ix,.int .i64 vk,.int .i64 vi,.string vt,.slice z C c1] rfl
 have W:=hid (ak g0 [.string X,.int .i64 0,.int .i64 op,.string tb,.string nm,.int .i64 ix,.int .i64 vk,.int .i64 vi,.string vt,.slice z C c1] w5 0)
 simp only[sts]at hz
 have HZ:=hid hz
 clear hz
 go_wp2_with fail
 obtain⟨q0,q1,q2,q3,q4,q5,q6,q7,q8,q9,-⟩:=cls HZ
 exact bodyPost_ret (v:= .agg #[.string X,.int .i64 0,.int .i64 op,.string tb,.string nm,.int .i64 ix,.int .i64 vk,.int .i64 vi,.string vt,.slice z C c1]) (by simp[results,Tryz.results59,go_sem,q0,q1,q2,q3,q4,q5,q6,q7,q8,q9]) rfl ⟨_,rfl,by rw[bk.out];exact bx.grown W (fun q f=>by have:=HG.out;have:=Option.some.inj f;omega),bm.own W (fun q f=>by have:=Option.some.inj f;rw[O.out];omega),by rw[bn.out];exact⟨z,C,c1,rfl,⟨by have:=a3.out;show X.size≤_;omega,bG⟩,by rw[O.out];exact Stb.weak (Stb.grown F W (fun q f e=>by have:=f.1;have:=Option.some.inj e;omega)) (fun q _ f=>Nat.le_of_succ_le f.1)⟩⟩
end
end
section
open Lx (Tk)
section
variable {ops:Array Oper} {rest:List Oper} {o:Oper} {a:Act} {w:World} {Q:Exit→Act→World→Prop}
theorem ldS {x:Operand} (b:o.guard=none) (e:o.op= .load 40 x) (g:Nat) (j:a.eval x= .pointer (some ⟨g,0,none⟩)) {cs:List Value} (i:Blk w g 40 cs) (f:cs.length=22) (h:wpList Tryz.prog ops Q rest (a.put o.dst (.agg cs.toArray)) w):wpList Tryz.prog ops Q (o::rest) a w:=
 aw b 40 x e g j 40 cs _ i Tryz.underlying40 rfl (by rw[f];kernel_rfl) h
theorem stS {x y:Operand} (b:o.guard=none) (f:o.op= .store 40 x y) (hd:o.dst=none) (g:Nat) (ds:List Value) (m:a.eval x= .pointer (some ⟨g,0,none⟩)) (i:a.eval y= .agg ds.toArray) {cs:List Value} (k:Blk w g 40 cs) (j:cs.length=22) (e:ds.length=22) (l:ds.toArray.all (·.oneCell')=true)
  (h:wpList Tryz.prog ops Q rest a (w.setRow g ds.toArray)):wpList Tryz.prog ops Q (o::rest) a w:=
 wpList_store_rowTo b 40 x y f hd g ds.toArray m i 40 cs.toArray k (by rw[List.size_toArray,e];kernel_rfl) (by rw[List.size_toArray,List.size_toArray,j,e]) l h
theorem stS' {x y:Operand} (b:o.guard=none) (f:o.op= .store 40 x y) (hd:o.dst=none) (ds:List Value) (k:a.eval x= .pointer (some ⟨w.heap.size,0,none⟩)) (g:a.eval y= .agg ds.toArray) {cs:List Value} (i:cs.length=22) (e:ds.length=22) (j:ds.toArray.all (·.oneCell')=true)
  (h:wpList Tryz.prog ops Q rest a (w.alloc (.cells ds.toArray 40))):wpList Tryz.prog ops Q (o::rest) a (w.alloc (.cells cs.toArray 40)):=
 wpList_store_rowTo b 40 x y f hd w.heap.size ds.toArray k g 40 cs.toArray (heap_alloc_new w _) (by rw[List.size_toArray,e];kernel_rfl) (by rw[List.size_toArray,List.size_toArray,i,e]) j (by rw[World.setRow_alloc_new];exact h)
end
section
variable {T P c:Nat} {A:Option Addr} {L:List Tk} {w0 wi w w':World} {s:Ps} {V:List Vb} {Φ:World→Prop}
theorem En.mid (h:En T P A c L w0 wi w s V Φ) {j g t:Nat} (pre old vs post:List Value) (b:V[j]? =some (g,t,pre++old++post)) (e:old.length=vs.length):En T P A c L w0 wi (sts w g pre.length vs) s (V.set j (g,t,pre++vs++post)) Φ:=
 h.put b (ak g vs w pre.length) (lD (h.get b) e)
theorem mid8 {w:World} {g t:Nat} {p C B r y x D q u z f i n j k m b e:Value} {l:List Value} (h:Blk w g t ([p,C,B,r,y,x,D,q,u,z,f,i,n,j,k,m,b,e]++l)):w.cell? ⟨g,10,none⟩=some f∧w.cell? ⟨g,11,none⟩=some i∧w.cell? ⟨g,12,none⟩=some n∧w.cell? ⟨g,13,none⟩=some j∧w.cell? ⟨g,14,none⟩=some k∧w.cell? ⟨g,15,none⟩=some m∧w.cell? ⟨g,16,none⟩=some b∧w.cell? ⟨g,17,none⟩=some e∧
  w.frozen? ⟨g,10,none⟩=false∧w.frozen? ⟨g,11,none⟩=false∧w.frozen? ⟨g,12,none⟩=false∧w.frozen? ⟨g,13,none⟩=false∧w.frozen? ⟨g,14,none⟩=false∧w.frozen? ⟨g,15,none⟩=false∧w.frozen? ⟨g,16,none⟩=false∧w.frozen? ⟨g,17,none⟩=false:=
 ⟨h.cell_some rfl,h.cell_some rfl,h.cell_some rfl,h.cell_some rfl,h.cell_some rfl,h.cell_some rfl,h.cell_some rfl,h.cell_some rfl,h.frozen 10,h.frozen 11,h.frozen 12,h.frozen 13,h.frozen 14,h.frozen 15,h.frozen 16,h.frozen 17⟩
end
theorem lst_rows {w:World} {B:Option Addr} {l:List (List Ex)} (h:Lst fO 1 w B l):cV w B l:=fun i a hi=>by
 obtain⟨cs,_,⟨b,f,g,n⟩,j,k,e,p,m⟩:=h i a hi
 subst e
 exact⟨b,f,j,a.length,k,g,by simpa using n 0 _ rfl,rfl,m⟩
theorem lst_asgs {w:World} {B:Option Addr} {l:List Asg} (h:Lst fP 10 w B l):dF w B l:=fun i a hi=>by
 obtain⟨cs,_,⟨b,g,j,e⟩,m,k,c2,f,p,n⟩:=h i a hi
 subst f
 refine⟨p,b,g,m,k,c2,j,by simpa using e 0 _ rfl,e 1 _ rfl,⟨?_,?_,?_,?_,?_,?_,?_,?_,n⟩⟩
 ·exact e 2 _ rfl
 ·exact e 3 _ rfl
 ·exact e 4 _ rfl
 ·exact e 5 _ rfl
 ·exact e 6 _ rfl
 ·exact e 7 _ rfl
 ·exact e 8 _ rfl
 ·exact e 9 _ rfl
def lowS (k:Int) (X N:ByteArray) (V:List (List Ex)) (S:List Asg) (e:Ex):St:= { stZ with kd:=k,tb:=X,vals:=V,sets:=S,whr:=e,nm:=N }
def ft (B C D:Option Addr) (k n m c d f:Nat):SA:=⟨⟨none,0,0⟩,⟨none,0,0⟩,⟨none,0,0⟩,⟨none,0,0⟩,⟨B,k,c⟩,⟨C,n,d⟩,⟨none,0,0⟩,⟨none,0,0⟩,⟨D,m,f⟩,⟨none,0,0⟩,⟨none,0,0⟩⟩
theorem lE {w:World} {k:Int} {X N:ByteArray} {V:List (List Ex)} {S:List Asg} {e:Ex} {B C D:Option Addr} {m c d f:Nat} (q:I64 k) (u:X.size≤20000) (y:N.size≤20000) (F:V.length≤20001) (t:S.length≤20001)
  (g:Lst fO 1 w B V) (n:Lst fP 10 w C S) (r:ExV w e D m f):StV w (lowS k X N V S e) (ft B C D V.length S.length m c d f):=by
 have b:∀A:Option Addr,KidsAt w A []:=fun A=>by unfold KidsAt;exact trivial
 refine⟨q,by show X.size≤_;omega,bG,by show N.size≤_;omega,⟨rfl,by show 0≤_;omega,fun i x h=>by cases h⟩,⟨rfl,by show 0≤_;omega,fun i x h=>by cases h⟩,⟨rfl,by show 0≤_;omega,fun i x h=>by cases h⟩,⟨rfl,by show 0≤_;omega,b _⟩,
  ⟨rfl,by show V.length≤_;omega,lst_rows g⟩,?_,⟨rfl,by show S.length≤_;omega,lst_asgs n⟩,⟨rfl,by show 0≤_;omega,fun i x h=>by cases h⟩,⟨rfl,by show 0≤_;omega,fun i x h=>by cases h⟩,r,⟨rfl,by show 0≤_;omega,b _⟩,⟨rfl,by show 0≤_;omega,fun i x h=>by cases h⟩⟩
 intro l p
 obtain⟨i,hi⟩:=List.getElem?_of_mem p
 obtain⟨cs,_,_,z,E,_,j,_⟩:=g i l hi
 exact j
theorem cY {α:Type} {Φ:α→List Value→World→Prop} {n:Nat} {w:World} {B:Option Addr} :Lst Φ n w B []:=fun i a h=>by cases h
theorem dC {w:World} {k:Int} {X N:ByteArray} (e:I64 k) (f:X.size≤20000) (b:N.size≤20000):StV w (lowS k X N [] [] exZ) (ft none none none 0 0 0 0 0 0):=lE e f b (by simp) (by simp) cY cY (ib w)
section
variable {P c:Nat} {A:Option Addr} {L:List Tk} {w0 w:World} {s:Ps}
theorem atk1 (h:PsAt 68 P A c L w0 w s) (g:TkL L) {t:ByteArray} (f:isS t s=true):
  Calls Tryz.prog 53 #[.pointer (some ⟨P,0,none⟩),.string t] w fun e w'=>e= .returned (.bool true)∧PsAt 68 P A c L w0 w' s.next∧Chg P w w':=
 (ai h g t).mono fun e w' ⟨v,i,b,j,k⟩=>⟨by rw[i,k,f],by rw[aq,f]at b;exact b,j⟩
theorem atk0 (h:PsAt 68 P A c L w0 w s) (g:TkL L) {t:ByteArray} (f:isS t s=false):
  Calls Tryz.prog 53 #[.pointer (some ⟨P,0,none⟩),.string t] w fun e w'=>e= .returned (.bool false)∧PsAt 68 P A c L w0 w' s∧Chg P w w':=
 (ai h g t).mono fun e w' ⟨v,i,b,j,k⟩=>⟨by rw[i,k,f],by rw[aq,f]at b;exact b,j⟩
theorem pneed (g:PsAt 68 P A c L w0 w s) (b:TkL L) (t:ByteArray):
  Calls Tryz.prog 44 #[.pointer (some ⟨P,0,none⟩),.slice (some ⟨w.heap.size,0,none⟩) 1 1] (w.alloc (.cells #[.string t] 9)) fun e w'=> ∃v,e= .returned v∧PsAt 68 P A c L w0 w' (needP t s)∧Chg P w w':=
 (az (g.ext ((Ext.refl w).alloc _)) b t w.heap.size (by simp[World.cell?_alloc_new])).mono fun e w' ⟨v,h,f,i,_⟩=>⟨v,h,f,(Chg.of ((Ext.refl w).alloc _)).trans i⟩
theorem kS (g:PsAt 68 P A c L w0 w s) (b:TkL L):
  Calls Tryz.prog 55 #[.pointer (some ⟨P,0,none⟩)] w fun e w'=>e= .returned (.string (takP 1 s).1)∧PsAt 68 P A c L w0 w' (takP 1 s).2∧Chg P w w':=
 (bV g b).mono fun e w' ⟨v,h,f,i,j⟩=>⟨by rw[h,j],f,i⟩
end
theorem ran_ex {T P c:Nat} {A:Option Addr} {L:List Tk} {w0 w:World} {F:Nat} {x:Array Value} {R:Ex×Ps} (h:Calls Tryz.prog F x w (Ran T P A c L w0 w R.2 fun v w'=>ExG w.heap.size w' R.1 v)):
  ∃(op ix vk vi:Int) (tb nm vt:ByteArray) (ks:List Ex) (b:Ps),R=(.mk ⟨op,tb,nm,ix,vk,vi,vt⟩ ks,b)∧Calls Tryz.prog F x w fun e w'=> ∃f g c1,e= .returned (.agg #[.int .i64 op,.string tb,.string nm,.int .i64 ix,.int .i64 vk,.int .i64 vi,.string vt,.slice f g c1])∧PsAt T P A c L w0 w' b∧Chg P w w'∧
   Stb (w.heap.size≤·) w' (fun u=>ExV u (.mk ⟨op,tb,nm,ix,vk,vi,vt⟩ ks) f g c1):=by
 obtain⟨⟨⟨op,tb,nm,ix,vk,vi,vt⟩,ks⟩,b⟩:=R
 exact⟨op,ix,vk,vi,tb,nm,vt,ks,b,rfl,h.mono fun e w' ⟨v,j,i,l,f,g,c1,m,k⟩=>⟨f,g,c1,by rw[j,m];rfl,i,l,k⟩⟩
end
section
open Lx (Tk)
section
variable {P c:Nat} {A:Option Addr} {L:List Tk} {w0 w:World} {s:Ps}
theorem lF {n:Nat} {ex:M Ex} (hr:Rdr 68 P A c L w0 n 39 ex) (hn:s.r.length<n) (hp:PsAt 68 P A c L w0 w s) (C:TkL L)
  (bw:isS iG s=true→∀W st,PsAt 68 P A c L w0 W st→st.r.length<n→Calls Tryz.prog 54 #[.pointer (some ⟨P,0,none⟩)] W (Ran 68 P A c L w0 W (createP ex st).2 fun v w'=>ElSt W.heap.size w' (createP ex st).1 v))
  (bx:isS iJ s=true→∀W st,PsAt 68 P A c L w0 W st→st.r.length<n→Calls Tryz.prog 61 #[.pointer (some ⟨P,0,none⟩)] W (Ran 68 P A c L w0 W (queryP ex posP andL st).2 fun v w'=>ElSt W.heap.size w' (queryP ex posP andL st).1 v))
  (bm:isS iH s=true→∀W st,PsAt 68 P A c L w0 W st→st.r.length<n→Calls Tryz.prog 56 #[.pointer (some ⟨P,0,none⟩),.func (Fn.func 57) #[.pointer (some ⟨P,0,none⟩)] #[]] W (Ran 68 P A c L w0 W (listP (tupP ex) st).2 fun v w'=> (listP (tupP ex) st).1.length≤st.r.length+1∧∃B k,v= .slice B (listP (tupP ex) st).1.length k∧Stb (W.heap.size≤·) w' (fun w2=>Lst fO 1 w2 B (listP (tupP ex) st).1)))
  (bk:isS iI s=true→∀W st,PsAt 68 P A c L w0 W st→st.r.length<n→Calls Tryz.prog 58 #[.pointer (some ⟨P,0,none⟩),.func (Fn.func 59) #[.pointer (some ⟨P,0,none⟩)] #[]] W (Ran 68 P A c L w0 W (listP (asgP ex) st).2 fun v w'=> (listP (asgP ex) st).1.length≤st.r.length+1∧(listP (asgP ex) st).2.r.length≤st.r.length∧∃B k,v= .slice B (listP (asgP ex) st).1.length k∧Stb (W.heap.size≤·) w' (fun w2=>Lst fP 10 w2 B (listP (asgP ex) st).1))):
  Calls Tryz.prog 29 #[.pointer (some ⟨P,0,none⟩)] w (Ran 68 P A c L w0 w (eq ex posP andL gh s).2 fun v w'=>ElSt w.heap.size w' (eq ex posP andL gh s).1 v):=by
 have D:Hid (eq ex posP andL gh s=if isS iG s=true then createP ex s.next else if isS iH s=true then
   (lowS 2 (takP 1 (needP kINTO s.next)).1 ⟨#[]⟩ (listP (tupP ex) (needP kVALUES (takP 1 (needP kINTO s.next)).2)).1 [] exZ,(listP (tupP ex) (needP kVALUES (takP 1 (needP kINTO s.next)).2)).2)
  else if isS iI s=true then (lowS 3 (takP 1 s.next).1 ⟨#[]⟩ [] (listP (asgP ex) (needP kSET (takP 1 s.next).2)).1 (whrP ex (listP (asgP ex) (needP kSET (takP 1 s.next).2)).2).1,(whrP ex (listP (asgP ex) (needP kSET (takP 1 s.next).2)).2).2)
  else if isS lb s=true then (lowS 4 (takP 1 (needP kFROM s.next)).1 ⟨#[]⟩ [] [] (whrP ex (takP 1 (needP kFROM s.next)).2).1,(whrP ex (takP 1 (needP kFROM s.next)).2).2)
  else if isS iJ s=true then queryP ex posP andL s.next
  else if isS kBEGIN s=true then (lowS 6 ⟨#[]⟩ ⟨#[]⟩ [] [] exZ,s.next)
  else if isS lc s=true then (lowS 7 ⟨#[]⟩ ⟨#[]⟩ [] [] exZ,s.next)
  else if isS gJ s=true then (if isS kTO s.next=true then (lowS 10 ⟨#[]⟩ (takP 1 s.next.next).1 [] [] exZ,(takP 1 s.next.next).2)else (lowS 8 ⟨#[]⟩ ⟨#[]⟩ [] [] exZ,s.next))
  else if isS fD s=true then (lowS 9 ⟨#[]⟩ (takP 1 s.next).1 [] [] exZ,(takP 1 s.next).2)
  else if isS jf s=true then (lowS 11 ⟨#[]⟩ (takP 1 s.next).1 [] [] exZ,(takP 1 s.next).2)else (lowS 0 ⟨#[]⟩ ⟨#[]⟩ [] [] exZ,s.fail)):=rfl
 obtain⟨R,hR⟩:∃R,eq ex posP andL gh s=R:=⟨_,rfl⟩
 rw[hR]at D ⊢
 clear hR
 have b9:=hp.le
 have b6:=C.len
 replace bw:=hid bw
 replace bx:=hid bx
 replace bm:=hid bm
 replace bk:=hid bk
 go_enter Tryz.func29,Tryz.ntmps29
 go_upto_region 1 with fail
 generalize hw:World.alloc _ _=w1
 have E:=hid (en_of (cs:=sC) hp hw)
 obtain⟨g0,b2⟩:∃g,w.heap.size=g:=⟨_,rfl⟩
 rw[b2]at E ⊢
 clear hw hp b2
 go_wp2_with fail
 cases ag:isS iG s
 rotate_left
 ·refine(atk1 E.ps C ag).mono ?_
  rintro _ w2 ⟨rfl,f,b⟩
  replace E:=hid (E.call f b)
  clear f b
  have a9:=aM ag
  go_wp2_with fail
  refine(bw ag _ _ E.ps (by omega)).mono ?_
  rintro _ w3 ⟨_,rfl,f,b,a1,rfl,h3⟩
  replace E:=hid (E.calls f b h3)
  clear f b h3
  obtain⟨Y,hY⟩:∃x,createP ex s.next=x:=⟨_,rfl⟩
  rw[hY]at E D ⊢
  clear hY
  unfold St.val
  obtain rfl:Y=R:=by rw[D.out,if_pos ag]
  go_wp2_with (first|(refine stS rfl rfl rfl _ (St.cells Y.1 a1) rfl rfl (E.get (j:=0) rfl) rfl rfl (by kernel_rfl) ?_))
  refine bodyPost_ret (v:= .agg ((St.cells Y.1 a1)).toArray) (results_cell_row (p:=2) (ty:=40) rfl _ _ g0 40 _ _ _ (by rfl) ((E.row (j:=0) rfl (St.cells Y.1 a1)).get (j:=0) rfl) Tryz.underlying40 rfl (by kernel_rfl)) rfl ?_
  have F:=E.row (j:=0) rfl (St.cells Y.1 a1)
  exact⟨_,rfl,F.ps,F.chg,a1,rfl,F.keep.imp fun u h=>h.2⟩
 refine(atk0 E.ps C ag).mono ?_
 rintro _ w2 ⟨rfl,f,b⟩
 replace E:=hid (E.call f b)
 clear f b
 have l:=D.out
 rw[if_neg (by rw[ag];simp)]at l
 replace D:=hid l
 clear l
 go_wp2_with fail
 cases ad:isS iH s
 rotate_left
 ·refine(atk1 E.ps C ad).mono ?_
  rintro _ w3 ⟨rfl,f,b⟩
  replace E:=hid (E.call f b)
  clear f b
  have a9:=aM ad
  have b5:=aH kINTO s.next
  go_wp2_with fail
  refine(pneed E.ps C kINTO).mono ?_
  rintro _ w4 ⟨v,rfl,f,b⟩
  replace E:=hid (E.call f b)
  clear f b
  have hX:=E.ps.tak_size C 1
  go_wp2_with fail
  refine(kS E.ps C).mono ?_
  rintro _ w5 ⟨rfl,f,b⟩
  replace E:=hid (E.call f b)
  clear f b
  have a3:=fwd_tak 1 (needP kINTO s.next)
  generalize a4:(takP 1 (needP kINTO s.next)).1=X at*
  generalize a0:(takP 1 (needP kINTO s.next)).2=s1 at*
  go_upto_region 6 with (first|(refine wpList_buildTo rfl 40 _ rfl _ rfl #[.int .i64 2,.string X,.slice none 0 0,.slice none 0 0,.slice none 0 0,.slice none 0 0,.slice none 0 0,.slice none 0 0,.slice none 0 0,.slice none 0 0,.int .i64 0,.string ⟨#[]⟩,.string ⟨#[]⟩,.int .i64 0,.int .i64 0,.int .i64 0,.string ⟨#[]⟩,.slice none 0 0,.slice none 0 0,.slice none 0 0,.int .i64 0,.string ⟨#[]⟩] (by kernel_rfl) ?_)|(refine Great.wpList_allocTo rfl _ rfl (.pointer (some ⟨_,0,none⟩)) (.cells #[.int .i64 0,.string ⟨#[]⟩,.slice none 0 0,.slice none 0 0,.slice none 0 0,.slice none 0 0,.slice none 0 0,.slice none 0 0,.slice none 0 0,.slice none 0 0,.int .i64 0,.string ⟨#[]⟩,.string ⟨#[]⟩,.int .i64 0,.int .i64 0,.int .i64 0,.string ⟨#[]⟩,.slice none 0 0,.slice none 0 0,.slice none 0 0,.int .i64 0,.string ⟨#[]⟩] 40) (by kernel_rfl) ?_)|(refine stS' rfl rfl rfl (sC (k:=2) (t:=X)) rfl rfl (cs:=sC) rfl rfl (by kernel_rfl) ?_))
  generalize hw:World.alloc _ _=w6
  replace E:=hid (jQ (cs:=(sC (k:=2) (t:=X))) E hw)
  obtain⟨g3,ac⟩:∃g,w5.heap.size=g:=⟨_,rfl⟩
  rw[ac]at E ⊢
  clear hw ac
  have b1:=aH kVALUES s1
  go_wp2_with fail
  refine(pneed E.ps C kVALUES).mono ?_
  rintro _ w7 ⟨v,rfl,f,b⟩
  replace E:=hid (E.call f b)
  clear f b
  go_wp2_with fail
  refine(bm ad _ _ E.ps (by omega)).mono ?_
  rintro _ w8 ⟨_,rfl,f,b,b3,B,k,rfl,h3⟩
  replace E:=hid (E.calls f b h3)
  clear f b h3
  generalize b4:listP (tupP ex) (needP kVALUES s1)=Z at*
  have z6:=(E.get (j:=0) rfl).cell_some (i:=6) rfl
  have y6:=(E.get (j:=0) rfl).frozen 6
  go_upto_region 8 with fail
  replace E:=hid (E.set (j:=0) rfl 6 (.slice B Z.1.length k))
  simp only[List.set_cons_zero,List.set_cons_succ]at E
  clear z6 y6
  obtain rfl:R=(lowS 2 X ⟨#[]⟩ (Z.1) ([]) (exZ),Z.2):=by rw[D.out,if_pos ad]
  go_wp2_with (first|(refine ldS rfl rfl _ rfl (E.get (j:=0) rfl) rfl ?_)|(refine stS rfl rfl rfl _ (sC (k:=2) (t:=X) (v:= .slice B Z.1.length k)) rfl rfl (E.get (j:=1) rfl) rfl rfl (by kernel_rfl) ?_))
  refine bodyPost_ret (v:= .agg ((sC (k:=2) (t:=X) (v:= .slice B Z.1.length k))).toArray) (results_cell_row (p:=2) (ty:=40) rfl _ _ g0 40 _ _ _ (by rfl) ((E.row (j:=1) rfl (sC (k:=2) (t:=X) (v:= .slice B Z.1.length k))).get (j:=1) rfl) Tryz.underlying40 rfl (by kernel_rfl)) rfl ?_
  have F:=E.row (j:=1) rfl (sC (k:=2) (t:=X) (v:= .slice B Z.1.length k))
  exact⟨_,rfl,F.ps,F.chg,ft B none none Z.1.length 0 0 k 0 0,rfl,F.keep.imp fun u h=>StW.of (lE (by unfold I64;omega) hX (Nat.zero_le _) (by omega) (Nat.zero_le _) h.2 cY (ib u)) rfl rfl⟩
 refine(atk0 E.ps C ad).mono ?_
 rintro _ w3 ⟨rfl,f,b⟩
 replace E:=hid (E.call f b)
 clear f b
 have l:=D.out
 rw[if_neg (by rw[ad];simp)]at l
 replace D:=hid l
 clear l
 go_wp2_with fail
 cases an:isS iI s
 rotate_left
 ·refine(atk1 E.ps C an).mono ?_
  rintro _ w4 ⟨rfl,f,b⟩
  replace E:=hid (E.call f b)
  clear f b
  have a9:=aM an
  have hX:=E.ps.tak_size C 1
  go_wp2_with fail
  refine(kS E.ps C).mono ?_
  rintro _ w5 ⟨rfl,f,b⟩
  replace E:=hid (E.call f b)
  clear f b
  have a3:=fwd_tak 1 s.next
  generalize a4:(takP 1 s.next).1=X at*
  generalize a0:(takP 1 s.next).2=s1 at*
  go_upto_region 11 with (first|(refine wpList_buildTo rfl 40 _ rfl _ rfl #[.int .i64 3,.string X,.slice none 0 0,.slice none 0 0,.slice none 0 0,.slice none 0 0,.slice none 0 0,.slice none 0 0,.slice none 0 0,.slice none 0 0,.int .i64 0,.string ⟨#[]⟩,.string ⟨#[]⟩,.int .i64 0,.int .i64 0,.int .i64 0,.string ⟨#[]⟩,.slice none 0 0,.slice none 0 0,.slice none 0 0,.int .i64 0,.string ⟨#[]⟩] (by kernel_rfl) ?_)|(refine Great.wpList_allocTo rfl _ rfl (.pointer (some ⟨_,0,none⟩)) (.cells #[.int .i64 0,.string ⟨#[]⟩,.slice none 0 0,.slice none 0 0,.slice none 0 0,.slice none 0 0,.slice none 0 0,.slice none 0 0,.slice none 0 0,.slice none 0 0,.int .i64 0,.string ⟨#[]⟩,.string ⟨#[]⟩,.int .i64 0,.int .i64 0,.int .i64 0,.string ⟨#[]⟩,.slice none 0 0,.slice none 0 0,.slice none 0 0,.int .i64 0,.string ⟨#[]⟩] 40) (by kernel_rfl) ?_)|(refine stS' rfl rfl rfl (sC (k:=3) (t:=X)) rfl rfl (cs:=sC) rfl rfl (by kernel_rfl) ?_))
  generalize hw:World.alloc _ _=w6
  replace E:=hid (jQ (cs:=(sC (k:=3) (t:=X))) E hw)
  obtain⟨g3,ac⟩:∃g,w5.heap.size=g:=⟨_,rfl⟩
  rw[ac]at E ⊢
  clear hw ac
  have b1:=aH kSET s1
  go_wp2_with fail
  refine(pneed E.ps C kSET).mono ?_
  rintro _ w7 ⟨v,rfl,f,b⟩
  replace E:=hid (E.call f b)
  clear f b
  go_wp2_with fail
  refine(bk an _ _ E.ps (by omega)).mono ?_
  rintro _ w8 ⟨_,rfl,f,b,b3,cb,B,k,rfl,h3⟩
  replace E:=hid (E.calls f b h3)
  clear f b h3
  generalize b4:listP (asgP ex) (needP kSET s1)=Z at*
  have z7:=(E.get (j:=0) rfl).cell_some (i:=7) rfl
  have y7:=(E.get (j:=0) rfl).frozen 7
  go_upto_region 13 with fail
  replace E:=hid (E.set (j:=0) rfl 7 (.slice B Z.1.length k))
  simp only[List.set_cons_zero,List.set_cons_succ]at E
  clear z7 y7
  obtain⟨H,K,J,O,I,U,G,b0,s4,bN,hc⟩:=ran_ex (mT hr (by omega) E.ps C)
  go_wp2_with fail
  refine hc.mono ?_
  rintro _ w9 ⟨A4,k4,c4,rfl,f,b,h3⟩
  replace E:=hid (E.calls f b h3)
  clear f b h3 hc
  obtain⟨z0,z1,z2,z3,z4,z5,z6,z7,y0,y1,y2,y3,y4,y5,y6,y7⟩:=mid8 (E.get (j:=0) rfl)
  go_upto_region 14 with fail
  replace E:=hid (E.mid (j:=0) [.int .i64 3,.string X,.slice none 0 0,.slice none 0 0,.slice none 0 0,.slice none 0 0,.slice none 0 0,.slice B Z.1.length k,.slice none 0 0,.slice none 0 0] eZ (eC H I U K J O G A4 k4 c4) [.slice none 0 0,.slice none 0 0,.int .i64 0,.string ⟨#[]⟩] rfl rfl)
  simp only[sts,List.length_cons,List.length_nil,List.cons_append,List.nil_append,List.set_cons_zero,Nat.zero_add,Nat.reduceAdd]at E
  clear z0 z1 z2 z3 z4 z5 z6 z7 y0 y1 y2 y3 y4 y5 y6 y7
  obtain rfl:R=(lowS 3 X ⟨#[]⟩ ([]) (Z.1) (.mk ⟨H,I,U,K,J,O,G⟩ b0),s4):=by rw[D.out,if_pos an,bN]
  go_wp2_with (first|(refine ldS rfl rfl _ rfl (E.get (j:=0) rfl) rfl ?_)|(refine stS rfl rfl rfl _ (sC (k:=3) (t:=X) (s:= .slice B Z.1.length k) (o:=H) (q:=I) (m:=U) (x:=K) (y:=J) (z:=O) (u:=G) (e:= .slice A4 k4 c4)) rfl rfl (E.get (j:=1) rfl) rfl rfl (by kernel_rfl) ?_))
  refine bodyPost_ret (v:= .agg ((sC (k:=3) (t:=X) (s:= .slice B Z.1.length k) (o:=H) (q:=I) (m:=U) (x:=K) (y:=J) (z:=O) (u:=G) (e:= .slice A4 k4 c4))).toArray) (results_cell_row (p:=2) (ty:=40) rfl _ _ g0 40 _ _ _ (by rfl) ((E.row (j:=1) rfl (sC (k:=3) (t:=X) (s:= .slice B Z.1.length k) (o:=H) (q:=I) (m:=U) (x:=K) (y:=J) (z:=O) (u:=G) (e:= .slice A4 k4 c4))).get (j:=1) rfl) Tryz.underlying40 rfl (by kernel_rfl)) rfl ?_
  have F:=E.row (j:=1) rfl (sC (k:=3) (t:=X) (s:= .slice B Z.1.length k) (o:=H) (q:=I) (m:=U) (x:=K) (y:=J) (z:=O) (u:=G) (e:= .slice A4 k4 c4))
  exact⟨_,rfl,F.ps,F.chg,ft none B A4 0 Z.1.length k4 0 k c4,rfl,F.keep.imp fun u h=>StW.of (lE (by unfold I64;omega) hX (Nat.zero_le _) (Nat.zero_le _) (by omega) cY h.1.2 h.2) rfl rfl⟩
 refine(atk0 E.ps C an).mono ?_
 rintro _ w4 ⟨rfl,f,b⟩
 replace E:=hid (E.call f b)
 clear f b
 have l:=D.out
 rw[if_neg (by rw[an];simp)]at l
 replace D:=hid l
 clear l
 go_wp2_with fail
 cases a2:isS lb s
 rotate_left
 ·refine(atk1 E.ps C a2).mono ?_
  rintro _ w5 ⟨rfl,f,b⟩
  replace E:=hid (E.call f b)
  clear f b
  have a9:=aM a2
  have b5:=aH kFROM s.next
  go_wp2_with fail
  refine(pneed E.ps C kFROM).mono ?_
  rintro _ w6 ⟨v,rfl,f,b⟩
  replace E:=hid (E.call f b)
  clear f b
  have hX:=E.ps.tak_size C 1
  go_wp2_with fail
  refine(kS E.ps C).mono ?_
  rintro _ w7 ⟨rfl,f,b⟩
  replace E:=hid (E.call f b)
  clear f b
  have a3:=fwd_tak 1 (needP kFROM s.next)
  generalize a4:(takP 1 (needP kFROM s.next)).1=X at*
  generalize a0:(takP 1 (needP kFROM s.next)).2=s1 at*
  go_upto_region 18 with (first|(refine wpList_buildTo rfl 40 _ rfl _ rfl #[.int .i64 4,.string X,.slice none 0 0,.slice none 0 0,.slice none 0 0,.slice none 0 0,.slice none 0 0,.slice none 0 0,.slice none 0 0,.slice none 0 0,.int .i64 0,.string ⟨#[]⟩,.string ⟨#[]⟩,.int .i64 0,.int .i64 0,.int .i64 0,.string ⟨#[]⟩,.slice none 0 0,.slice none 0 0,.slice none 0 0,.int .i64 0,.string ⟨#[]⟩] (by kernel_rfl) ?_)|(refine Great.wpList_allocTo rfl _ rfl (.pointer (some ⟨_,0,none⟩)) (.cells #[.int .i64 0,.string ⟨#[]⟩,.slice none 0 0,.slice none 0 0,.slice none 0 0,.slice none 0 0,.slice none 0 0,.slice none 0 0,.slice none 0 0,.slice none 0 0,.int .i64 0,.string ⟨#[]⟩,.string ⟨#[]⟩,.int .i64 0,.int .i64 0,.int .i64 0,.string ⟨#[]⟩,.slice none 0 0,.slice none 0 0,.slice none 0 0,.int .i64 0,.string ⟨#[]⟩] 40) (by kernel_rfl) ?_)|(refine stS' rfl rfl rfl (sC (k:=4) (t:=X)) rfl rfl (cs:=sC) rfl rfl (by kernel_rfl) ?_))
  generalize hw:World.alloc _ _=w8
  replace E:=hid (jQ (cs:=(sC (k:=4) (t:=X))) E hw)
  obtain⟨g3,ac⟩:∃g,w7.heap.size=g:=⟨_,rfl⟩
  rw[ac]at E ⊢
  clear hw ac
  obtain⟨H,K,J,O,I,U,G,b0,s4,bN,hc⟩:=ran_ex (mT hr (by omega) E.ps C)
  go_wp2_with fail
  refine hc.mono ?_
  rintro _ w9 ⟨A4,k4,c4,rfl,f,b,h3⟩
  replace E:=hid (E.calls f b h3)
  clear f b h3 hc
  obtain⟨z0,z1,z2,z3,z4,z5,z6,z7,y0,y1,y2,y3,y4,y5,y6,y7⟩:=mid8 (E.get (j:=0) rfl)
  go_upto_region 19 with fail
  replace E:=hid (E.mid (j:=0) [.int .i64 4,.string X,.slice none 0 0,.slice none 0 0,.slice none 0 0,.slice none 0 0,.slice none 0 0,.slice none 0 0,.slice none 0 0,.slice none 0 0] eZ (eC H I U K J O G A4 k4 c4) [.slice none 0 0,.slice none 0 0,.int .i64 0,.string ⟨#[]⟩] rfl rfl)
  simp only[sts,List.length_cons,List.length_nil,List.cons_append,List.nil_append,List.set_cons_zero,Nat.zero_add,Nat.reduceAdd]at E
  clear z0 z1 z2 z3 z4 z5 z6 z7 y0 y1 y2 y3 y4 y5 y6 y7
  obtain rfl:R=(lowS 4 X ⟨#[]⟩ ([]) ([]) (.mk ⟨H,I,U,K,J,O,G⟩ b0),s4):=by rw[D.out,if_pos a2,bN]
  go_wp2_with (first|(refine ldS rfl rfl _ rfl (E.get (j:=0) rfl) rfl ?_)|(refine stS rfl rfl rfl _ (sC (k:=4) (t:=X) (o:=H) (q:=I) (m:=U) (x:=K) (y:=J) (z:=O) (u:=G) (e:= .slice A4 k4 c4)) rfl rfl (E.get (j:=1) rfl) rfl rfl (by kernel_rfl) ?_))
  refine bodyPost_ret (v:= .agg ((sC (k:=4) (t:=X) (o:=H) (q:=I) (m:=U) (x:=K) (y:=J) (z:=O) (u:=G) (e:= .slice A4 k4 c4))).toArray) (results_cell_row (p:=2) (ty:=40) rfl _ _ g0 40 _ _ _ (by rfl) ((E.row (j:=1) rfl (sC (k:=4) (t:=X) (o:=H) (q:=I) (m:=U) (x:=K) (y:=J) (z:=O) (u:=G) (e:= .slice A4 k4 c4))).get (j:=1) rfl) Tryz.underlying40 rfl (by kernel_rfl)) rfl ?_
  have F:=E.row (j:=1) rfl (sC (k:=4) (t:=X) (o:=H) (q:=I) (m:=U) (x:=K) (y:=J) (z:=O) (u:=G) (e:= .slice A4 k4 c4))
  exact⟨_,rfl,F.ps,F.chg,ft none none A4 0 0 k4 0 0 c4,rfl,F.keep.imp fun u h=>StW.of (lE (by unfold I64;omega) hX (Nat.zero_le _) (Nat.zero_le _) (Nat.zero_le _) cY cY h.2) rfl rfl⟩
 refine(atk0 E.ps C a2).mono ?_
 rintro _ w5 ⟨rfl,f,b⟩
 replace E:=hid (E.call f b)
 clear f b
 have l:=D.out
 rw[if_neg (by rw[a2];simp)]at l
 replace D:=hid l
 clear l
 go_wp2_with fail
 cases ax:isS iJ s
 rotate_left
 ·refine(atk1 E.ps C ax).mono ?_
  rintro _ w6 ⟨rfl,f,b⟩
  replace E:=hid (E.call f b)
  clear f b
  have a9:=aM ax
  go_wp2_with fail
  refine(bx ax _ _ E.ps (by omega)).mono ?_
  rintro _ w7 ⟨_,rfl,f,b,a1,rfl,h3⟩
  replace E:=hid (E.calls f b h3)
  clear f b h3
  obtain⟨Y,hY⟩:∃x,queryP ex posP andL s.next=x:=⟨_,rfl⟩
  rw[hY]at E D ⊢
  clear hY
  unfold St.val
  obtain rfl:Y=R:=by rw[D.out,if_pos ax]
  go_wp2_with (first|(refine stS rfl rfl rfl _ (St.cells Y.1 a1) rfl rfl (E.get (j:=0) rfl) rfl rfl (by kernel_rfl) ?_))
  refine bodyPost_ret (v:= .agg ((St.cells Y.1 a1)).toArray) (results_cell_row (p:=2) (ty:=40) rfl _ _ g0 40 _ _ _ (by rfl) ((E.row (j:=0) rfl (St.cells Y.1 a1)).get (j:=0) rfl) Tryz.underlying40 rfl (by kernel_rfl)) rfl ?_
  have F:=E.row (j:=0) rfl (St.cells Y.1 a1)
  exact⟨_,rfl,F.ps,F.chg,a1,rfl,F.keep.imp fun u h=>h.2⟩
 refine(atk0 E.ps C ax).mono ?_
 rintro _ w6 ⟨rfl,f,b⟩
 replace E:=hid (E.call f b)
 clear f b
 have l:=D.out
 rw[if_neg (by rw[ax];simp)]at l
 replace D:=hid l
 clear l
 go_wp2_with fail
 cases be:isS kBEGIN s
 rotate_left
 ·refine(atk1 E.ps C be).mono ?_
  rintro _ w7 ⟨rfl,f,b⟩
  replace E:=hid (E.call f b)
  clear f b
  obtain rfl:R=(lowS 6 ⟨#[]⟩ ⟨#[]⟩ ([]) ([]) (exZ),s.next):=by rw[D.out,if_pos be]
  go_wp2_with (first|(refine wpList_buildTo rfl 40 _ rfl _ rfl #[.int .i64 6,.string ⟨#[]⟩,.slice none 0 0,.slice none 0 0,.slice none 0 0,.slice none 0 0,.slice none 0 0,.slice none 0 0,.slice none 0 0,.slice none 0 0,.int .i64 0,.string ⟨#[]⟩,.string ⟨#[]⟩,.int .i64 0,.int .i64 0,.int .i64 0,.string ⟨#[]⟩,.slice none 0 0,.slice none 0 0,.slice none 0 0,.int .i64 0,.string ⟨#[]⟩] (by kernel_rfl) ?_)|(refine stS rfl rfl rfl _ (sC (k:=6)) rfl rfl (E.get (j:=0) rfl) rfl rfl (by kernel_rfl) ?_))
  refine bodyPost_ret (v:= .agg ((sC (k:=6))).toArray) (results_cell_row (p:=2) (ty:=40) rfl _ _ g0 40 _ _ _ (by rfl) ((E.row (j:=0) rfl (sC (k:=6))).get (j:=0) rfl) Tryz.underlying40 rfl (by kernel_rfl)) rfl ?_
  have F:=E.row (j:=0) rfl (sC (k:=6))
  exact⟨_,rfl,F.ps,F.chg,ft none none none 0 0 0 0 0 0,rfl,F.keep.imp fun u _=>StW.of (dC (by unfold I64;omega) (Nat.zero_le _) (Nat.zero_le _)) rfl rfl⟩
 refine(atk0 E.ps C be).mono ?_
 rintro _ w7 ⟨rfl,f,b⟩
 replace E:=hid (E.call f b)
 clear f b
 have l:=D.out
 rw[if_neg (by rw[be];simp)]at l
 replace D:=hid l
 clear l
 go_wp2_with fail
 cases bd:isS lc s
 rotate_left
 ·refine(atk1 E.ps C bd).mono ?_
  rintro _ w8 ⟨rfl,f,b⟩
  replace E:=hid (E.call f b)
  clear f b
  obtain rfl:R=(lowS 7 ⟨#[]⟩ ⟨#[]⟩ ([]) ([]) (exZ),s.next):=by rw[D.out,if_pos bd]
  go_wp2_with (first|(refine wpList_buildTo rfl 40 _ rfl _ rfl #[.int .i64 7,.string ⟨#[]⟩,.slice none 0 0,.slice none 0 0,.slice none 0 0,.slice none 0 0,.slice none 0 0,.slice none 0 0,.slice none 0 0,.slice none 0 0,.int .i64 0,.string ⟨#[]⟩,.string ⟨#[]⟩,.int .i64 0,.int .i64 0,.int .i64 0,.string ⟨#[]⟩,.slice none 0 0,.slice none 0 0,.slice none 0 0,.int .i64 0,.string ⟨#[]⟩] (by kernel_rfl) ?_)|(refine stS rfl rfl rfl _ (sC (k:=7)) rfl rfl (E.get (j:=0) rfl) rfl rfl (by kernel_rfl) ?_))
  refine bodyPost_ret (v:= .agg ((sC (k:=7))).toArray) (results_cell_row (p:=2) (ty:=40) rfl _ _ g0 40 _ _ _ (by rfl) ((E.row (j:=0) rfl (sC (k:=7))).get (j:=0) rfl) Tryz.underlying40 rfl (by kernel_rfl)) rfl ?_
  have F:=E.row (j:=0) rfl (sC (k:=7))
  exact⟨_,rfl,F.ps,F.chg,ft none none none 0 0 0 0 0 0,rfl,F.keep.imp fun u _=>StW.of (dC (by unfold I64;omega) (Nat.zero_le _) (Nat.zero_le _)) rfl rfl⟩
 refine(atk0 E.ps C bd).mono ?_
 rintro _ w8 ⟨rfl,f,b⟩
 replace E:=hid (E.call f b)
 clear f b
 have l:=D.out
 rw[if_neg (by rw[bd];simp)]at l
 replace D:=hid l
 clear l
 go_wp2_with fail
 cases a5:isS gJ s
 rotate_left
 ·refine(atk1 E.ps C a5).mono ?_
  rintro _ w9 ⟨rfl,f,b⟩
  replace E:=hid (E.call f b)
  clear f b
  have l:=D.out
  rw[if_pos a5]at l
  replace D:=hid l
  clear l
  go_wp2_with fail
  cases bf:isS kTO s.next
  rotate_left
  ·refine(atk1 E.ps C bf).mono ?_
   rintro _ bn ⟨rfl,f,b⟩
   replace E:=hid (E.call f b)
   clear f b
   have hX:=E.ps.tak_size C 1
   go_wp2_with fail
   refine(kS E.ps C).mono ?_
   rintro _ bY ⟨rfl,f,b⟩
   replace E:=hid (E.call f b)
   clear f b
   have a3:=fwd_tak 1 s.next.next
   generalize a4:(takP 1 s.next.next).1=X at*
   generalize a0:(takP 1 s.next.next).2=s1 at*
   obtain rfl:R=(lowS 10 ⟨#[]⟩ X ([]) ([]) (exZ),s1):=by rw[D.out,if_pos bf]
   go_wp2_with (first|(refine wpList_buildTo rfl 40 _ rfl _ rfl #[.int .i64 10,.string ⟨#[]⟩,.slice none 0 0,.slice none 0 0,.slice none 0 0,.slice none 0 0,.slice none 0 0,.slice none 0 0,.slice none 0 0,.slice none 0 0,.int .i64 0,.string ⟨#[]⟩,.string ⟨#[]⟩,.int .i64 0,.int .i64 0,.int .i64 0,.string ⟨#[]⟩,.slice none 0 0,.slice none 0 0,.slice none 0 0,.int .i64 0,.string X] (by kernel_rfl) ?_)|(refine stS rfl rfl rfl _ (sC (k:=10) (n:=X)) rfl rfl (E.get (j:=0) rfl) rfl rfl (by kernel_rfl) ?_))
   refine bodyPost_ret (v:= .agg ((sC (k:=10) (n:=X))).toArray) (results_cell_row (p:=2) (ty:=40) rfl _ _ g0 40 _ _ _ (by rfl) ((E.row (j:=0) rfl (sC (k:=10) (n:=X))).get (j:=0) rfl) Tryz.underlying40 rfl (by kernel_rfl)) rfl ?_
   have F:=E.row (j:=0) rfl (sC (k:=10) (n:=X))
   exact⟨_,rfl,F.ps,F.chg,ft none none none 0 0 0 0 0 0,rfl,F.keep.imp fun u _=>StW.of (dC (by unfold I64;omega) (Nat.zero_le _) hX) rfl rfl⟩
  refine(atk0 E.ps C bf).mono ?_
  rintro _ bn ⟨rfl,f,b⟩
  replace E:=hid (E.call f b)
  clear f b
  have l:=D.out
  rw[if_neg (by rw[bf];simp)]at l
  replace D:=hid l
  clear l
  obtain rfl:R=(lowS 8 ⟨#[]⟩ ⟨#[]⟩ ([]) ([]) (exZ),s.next):=by rw[D.out]
  go_wp2_with (first|(refine wpList_buildTo rfl 40 _ rfl _ rfl #[.int .i64 8,.string ⟨#[]⟩,.slice none 0 0,.slice none 0 0,.slice none 0 0,.slice none 0 0,.slice none 0 0,.slice none 0 0,.slice none 0 0,.slice none 0 0,.int .i64 0,.string ⟨#[]⟩,.string ⟨#[]⟩,.int .i64 0,.int .i64 0,.int .i64 0,.string ⟨#[]⟩,.slice none 0 0,.slice none 0 0,.slice none 0 0,.int .i64 0,.string ⟨#[]⟩] (by kernel_rfl) ?_)|(refine stS rfl rfl rfl _ (sC (k:=8)) rfl rfl (E.get (j:=0) rfl) rfl rfl (by kernel_rfl) ?_))
  refine bodyPost_ret (v:= .agg ((sC (k:=8))).toArray) (results_cell_row (p:=2) (ty:=40) rfl _ _ g0 40 _ _ _ (by rfl) ((E.row (j:=0) rfl (sC (k:=8))).get (j:=0) rfl) Tryz.underlying40 rfl (by kernel_rfl)) rfl ?_
  have F:=E.row (j:=0) rfl (sC (k:=8))
  exact⟨_,rfl,F.ps,F.chg,ft none none none 0 0 0 0 0 0,rfl,F.keep.imp fun u _=>StW.of (dC (by unfold I64;omega) (Nat.zero_le _) (Nat.zero_le _)) rfl rfl⟩
 refine(atk0 E.ps C a5).mono ?_
 rintro _ w9 ⟨rfl,f,b⟩
 replace E:=hid (E.call f b)
 clear f b
 have l:=D.out
 rw[if_neg (by rw[a5];simp)]at l
 replace D:=hid l
 clear l
 go_wp2_with fail
 cases a6:isS fD s
 rotate_left
 ·refine(atk1 E.ps C a6).mono ?_
  rintro _ bn ⟨rfl,f,b⟩
  replace E:=hid (E.call f b)
  clear f b
  have hX:=E.ps.tak_size C 1
  go_wp2_with fail
  refine(kS E.ps C).mono ?_
  rintro _ bY ⟨rfl,f,b⟩
  replace E:=hid (E.call f b)
  clear f b
  have a3:=fwd_tak 1 s.next
  generalize a4:(takP 1 s.next).1=X at*
  generalize a0:(takP 1 s.next).2=s1 at*
  obtain rfl:R=(lowS 9 ⟨#[]⟩ X ([]) ([]) (exZ),s1):=by rw[D.out,if_pos a6]
  go_wp2_with (first|(refine wpList_buildTo rfl 40 _ rfl _ rfl #[.int .i64 9,.string ⟨#[]⟩,.slice none 0 0,.slice none 0 0,.slice none 0 0,.slice none 0 0,.slice none 0 0,.slice none 0 0,.slice none 0 0,.slice none 0 0,.int .i64 0,.string ⟨#[]⟩,.string ⟨#[]⟩,.int .i64 0,.int .i64 0,.int .i64 0,.string ⟨#[]⟩,.slice none 0 0,.slice none 0 0,.slice none 0 0,.int .i64 0,.string X] (by kernel_rfl) ?_)|(refine stS rfl rfl rfl _ (sC (k:=9) (n:=X)) rfl rfl (E.get (j:=0) rfl) rfl rfl (by kernel_rfl) ?_))
  refine bodyPost_ret (v:= .agg ((sC (k:=9) (n:=X))).toArray) (results_cell_row (p:=2) (ty:=40) rfl _ _ g0 40 _ _ _ (by rfl) ((E.row (j:=0) rfl (sC (k:=9) (n:=X))).get (j:=0) rfl) Tryz.underlying40 rfl (by kernel_rfl)) rfl ?_
  have F:=E.row (j:=0) rfl (sC (k:=9) (n:=X))
  exact⟨_,rfl,F.ps,F.chg,ft none none none 0 0 0 0 0 0,rfl,F.keep.imp fun u _=>StW.of (dC (by unfold I64;omega) (Nat.zero_le _) hX) rfl rfl⟩
 refine(atk0 E.ps C a6).mono ?_
 rintro _ bn ⟨rfl,f,b⟩
 replace E:=hid (E.call f b)
 clear f b
 have l:=D.out
 rw[if_neg (by rw[a6];simp)]at l
 replace D:=hid l
 clear l
 go_wp2_with fail
 cases ba:isS jf s
 rotate_left
 ·refine(atk1 E.ps C ba).mono ?_
  rintro _ bY ⟨rfl,f,b⟩
  replace E:=hid (E.call f b)
  clear f b
  have hX:=E.ps.tak_size C 1
  go_wp2_with fail
  refine(kS E.ps C).mono ?_
  rintro _ b7 ⟨rfl,f,b⟩
  replace E:=hid (E.call f b)
  clear f b
  have a3:=fwd_tak 1 s.next
  generalize a4:(takP 1 s.next).1=X at*
  generalize a0:(takP 1 s.next).2=s1 at*
  obtain rfl:R=(lowS 11 ⟨#[]⟩ X ([]) ([]) (exZ),s1):=by rw[D.out,if_pos ba]
  go_wp2_with (first|(refine wpList_buildTo rfl 40 _ rfl _ rfl #[.int .i64 11,.string ⟨#[]⟩,.slice none 0 0,.slice none 0 0,.slice none 0 0,.slice none 0 0,.slice none 0 0,.slice none 0 0,.slice none 0 0,.slice none 0 0,.int .i64 0,.string ⟨#[]⟩,.string ⟨#[]⟩,.int .i64 0,.int .i64 0,.int .i64 0,.string ⟨#[]⟩,.slice none 0 0,.slice none 0 0,.slice none 0 0,.int .i64 0,.string X] (by kernel_rfl) ?_)|(refine stS rfl rfl rfl _ (sC (k:=11) (n:=X)) rfl rfl (E.get (j:=0) rfl) rfl rfl (by kernel_rfl) ?_))
  refine bodyPost_ret (v:= .agg ((sC (k:=11) (n:=X))).toArray) (results_cell_row (p:=2) (ty:=40) rfl _ _ g0 40 _ _ _ (by rfl) ((E.row (j:=0) rfl (sC (k:=11) (n:=X))).get (j:=0) rfl) Tryz.underlying40 rfl (by kernel_rfl)) rfl ?_
  have F:=E.row (j:=0) rfl (sC (k:=11) (n:=X))
  exact⟨_,rfl,F.ps,F.chg,ft none none none 0 0 0 0 0 0,rfl,F.keep.imp fun u _=>StW.of (dC (by unfold I64;omega) (Nat.zero_le _) hX) rfl rfl⟩
 refine(atk0 E.ps C ba).mono ?_
 rintro _ bY ⟨rfl,f,b⟩
 replace E:=hid (E.call f b)
 clear f b
 have l:=D.out
 rw[if_neg (by rw[ba];simp)]at l
 replace D:=hid l
 clear l
 have f2:=E.ps.blk.frozen 2
 have p2:=E.ps.blk.cell_some (i:=2) rfl
 replace E:=hid E.fail
 go_upto_region 35 with fail
 obtain rfl:R=(lowS 0 ⟨#[]⟩ ⟨#[]⟩ ([]) ([]) (exZ),s.fail):=by rw[D.out]
 go_wp2_with (first|(refine wpList_buildTo rfl 40 _ rfl _ rfl #[.int .i64 0,.string ⟨#[]⟩,.slice none 0 0,.slice none 0 0,.slice none 0 0,.slice none 0 0,.slice none 0 0,.slice none 0 0,.slice none 0 0,.slice none 0 0,.int .i64 0,.string ⟨#[]⟩,.string ⟨#[]⟩,.int .i64 0,.int .i64 0,.int .i64 0,.string ⟨#[]⟩,.slice none 0 0,.slice none 0 0,.slice none 0 0,.int .i64 0,.string ⟨#[]⟩] (by kernel_rfl) ?_)|(refine stS rfl rfl rfl _ sC rfl rfl (E.get (j:=0) rfl) rfl rfl (by kernel_rfl) ?_))
 refine bodyPost_ret (v:= .agg (sC).toArray) (results_cell_row (p:=2) (ty:=40) rfl _ _ g0 40 _ _ _ (by rfl) ((E.row (j:=0) rfl sC).get (j:=0) rfl) Tryz.underlying40 rfl (by kernel_rfl)) rfl ?_
 have F:=E.row (j:=0) rfl sC
 exact⟨_,rfl,F.ps,F.chg,ft none none none 0 0 0 0 0 0,rfl,F.keep.imp fun u _=>StW.of (dC (by unfold I64;omega) (Nat.zero_le _) (Nat.zero_le _)) rfl rfl⟩
end
end
end Go.Proofs.YtjigcpfjhfoheaaGreatDoor
