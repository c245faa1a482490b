/- Walks: Statement and Expression, over what they call; Walk: Script, over what it calls; What Statement, Expression and Script return; Walk: awake; The wrap of a row that lists variables, the world's shape kept; what the library's . -/
import Derived.Test.YtjigcpfjhfoheaaGreatDoorYci
import Derived.Test.YtjigcpfjhfoheaaGreatDoorYbi
import Derived.Test.YtjigcpfjhfoheaaGreatDoorYae
import Derived.StillTactics
import Derived.Test.YtjigcpfjhfoheaaGreatDoorYcg
import Derived.Test.YtjigcpfjhfoheaaGreatDoorYch
import Derived.Test.YtjigcpfjhfoheaaGreatDoorYcc
import Derived.Test.YtjigcpfjhfoheaaGreatDoorYbj
import Derived.Test.YtjigcpfjhfoheaaGreatDoorYbe
import Derived.Test.YtjigcpfjhfoheaaGreatDoorYai
import Derived.Handed
import Derived.SizedLaws
import Derived.Shelf.Vars
import Derived.Stop.LaidErr
import Derived.Lib.LaidTab
import Derived.LaidMore
import Derived.Stop.Joined
import Derived.MakeChecks
import Derived.Test.YtjigcpfjhfoheaaGreatDoorRows
namespace Go.Proofs.YtjigcpfjhfoheaaGreatDoor
open Go.RowKit
set_option maxHeartbeats 4000000
set_option maxRecDepth 100000
set_option linter.unusedVariables false
set_option linter.unusedSimpArgs false
section
open Lx (Tk)
theorem bo {e:Program} {f:Func} {p q r:Tmp} {ty:TypeId} (h:f.results= #[.cell p ty,.tmp q,.tmp r]) (a:Array Value) (w:World) (g:Nat) (t:TypeId) (cs:Array Value) (i:Nat×Nat) (d:TypeDesc)
  (j:a.getD p undef= .pointer (some ⟨g,0,none⟩)) (k:w.heap[g]? =some (.cells cs t i))
  (l:e.underlying ty=some d) (hd:(match d with| .struct _| .array _ _=>true|_=>false)=true) (hi:(e.info? ty).map (·.size)=some cs.size):
  (results f a).run e w= .ok (.tuple #[.agg cs,a.getD q undef,a.getD r undef]) w:=by
 have b:a[p]?.getD undef= .pointer (some ⟨g,0,none⟩):=by simpa using j
 simp[results,h,b,asAddr,run_loadVar_row w g t ty cs i d k l hd hi]
theorem stE' {ops:Array Oper} {rest:List Oper} {o:Oper} {a:Act} {w:World} {Q:Exit→Act→World→Prop} {x y:Operand} (b:o.guard=none) (f:o.op= .store 37 x y) (hd:o.dst=none) (ds:List Value) (k:a.eval x= .pointer (some ⟨w.heap.size,0,none⟩)) (g:a.eval y= .agg ds.toArray) {cs:List Value} (i:cs.length=8) (e:ds.length=8) (j:ds.toArray.all (·.oneCell')=true)
  (h:wpList Tryz.prog ops Q rest a (w.alloc (.cells ds.toArray 37))):wpList Tryz.prog ops Q (o::rest) a (w.alloc (.cells cs.toArray 37)):=
 wpList_store_rowTo b 37 x y f hd w.heap.size ds.toArray k g 37 cs.toArray (heap_alloc_new w _) (by rw[List.size_toArray,e];kernel_rfl) (by rw[List.size_toArray,List.size_toArray,i,e]) j (by rw[World.setRow_alloc_new];exact h)
theorem iX {w0 w:World} (h:Ext w0 w) {g:Nat} (b:w0.heap.size≤g) (cs:Array Value):Ext w0 (w.setRow g cs):=h.grown (fN w g cs) fun q a=>by have:=Option.some.inj a;omega
theorem nq {n g:Nat} {w:World} {Φ:World→Prop} (h:Stb (n≤·) w Φ) (b:g<n) (cs:Array Value):Stb (n≤·) (w.setRow g cs) Φ:=h.grown (fN w g cs) fun q a e=>by
 have:=Option.some.inj e
 have a:n≤q:=a
 omega
theorem nr {w:World} {g T:Nat} {cs:List Value} (h:Blk w g T cs):w.setRow g cs.toArray=w:=by
 have e:(w.setRow g cs.toArray).heap=w.heap:=by
  apply Array.ext_getElem?
  intro i
  unfold World.setRow
  simp only
  rw[Array.getElem?_modify]
  split
  ·next e=>subst e;unfold Blk at h;rw[h];rfl
  ·rfl
 cases w
 unfold World.setRow at e ⊢
 simp only at e ⊢
 rw[e]
theorem cZ {P:Program} {ops:Array Oper} {w:World} {Q:Act→Prop} {a:Act} {o:Oper} {rest:List Oper} (b:o.guard=none) (ty:TypeId) {x y:Operand} (i:o.op= .store ty x y) (hd:o.dst=none) (g:Nat) (cs:List Value) (l:a.eval x= .pointer (some ⟨g,0,none⟩)) (f:a.eval y= .agg cs.toArray)
  {T:Nat} (e:Blk w g T cs) (hi:(P.info? ty).map (·.size)=some cs.toArray.size) (j:cs.toArray.all (·.oneCell')=true) (h:wpStill P ops w Q rest a):wpStill P ops w Q (o::rest) a:=by
 refine wpStill_step fun K k=>?_
 rw[if_pos (by simp[Region.wanted,b])]
 unfold Oper.still execOp
 simp only[i,l,f,Instr.storeAt,Instr.sureAddr,Sem.run_bind,Sem.run_pure,Result.andThen_ok,run_storeVar_row w g T ty _ _ e hi rfl j,nr e]
 refine⟨rfl,?_⟩
 rw[hd]
 exact k _ h
def triB (cs:List Value):Bool:=(List.range cs.length).all fun i=>match cs[i]?,cs[i+1]?,cs[i+2]? with|some (.int _ _),some (.string _),some (.int _ _)=>false|_,_,_=>true
theorem not_tok {w:World} {b a g T:Nat} {cs:List Value} {i p:IntKind} {j m:Int} {l:ByteArray} (h:Blk w g T cs) (o:triB cs=true) (q:w.cell? ⟨b,a,none⟩=some (.int i j)) (n:w.cell? ⟨b,a+1,none⟩=some (.string l)) (k:w.cell? ⟨b,a+2,none⟩=some (.int p m)):b≠g:=by
 intro e
 subst e
 have c0:=(h.cell a).symm.trans q
 have c1:=(h.cell (a+1)).symm.trans n
 have c2:=(h.cell (a+2)).symm.trans k
 have f:=List.all_eq_true.1 o a (List.mem_range.2 (List.getElem?_eq_some_iff.1 c0).1)
 rw[c0,c1,c2]at f
 cases f
theorem j9 (u:World):StW u stZ (ft none none none 0 0 0 0 0 0):=StW.of (dC (k:=0) (by unfold I64;omega) (Nat.zero_le _) (Nat.zero_le _)) rfl rfl
theorem lG (i:St→Int) (s:ByteArray) (w:World) (hs:s.size≤20000) (hk:Lx.KwAt w)
  (ba:∀(L:List Tk) (P:Nat) (A:Option Addr) (c:Nat) (W0 W:World),Ext w W0→Lx.tokAll s= .ok L→PsAt 68 P A c L W0 W ⟨L,false⟩→Calls Tryz.prog 29 #[.pointer (some ⟨P,0,none⟩)] W (Ran 68 P A c L W0 W (stmP (L.length+1) ⟨L,false⟩).2 fun v w'=>ElSt W.heap.size w' (stmP (L.length+1) ⟨L,false⟩).1 v))
  (a2:∀(L:List Tk) (a:SA) (W:World),Ext w W→Lx.tokAll s= .ok L→(stmP (L.length+1) ⟨L,false⟩).2.bad=false→StW W (stmP (L.length+1) ⟨L,false⟩).1 a→Calls Tryz.prog 31 #[St.val (stmP (L.length+1) ⟨L,false⟩).1 a] W fun r w'=>r= .returned (.int .i64 (i (stmP (L.length+1) ⟨L,false⟩).1))∧Ext W w'):
  Calls Tryz.prog 13 #[.string s] w fun e w'=>Ext w w'∧∃a,e= .returned (.tuple #[St.val (parS i s).1 a,.int .i64 (parS i s).2.1,.int .i64 (parS i s).2.2])∧Stb (w.heap.size≤·) w' (fun u=>StW u (parS i s).1 a):=by
 have j:∀a x:Nat,Lx.tokAll s= .bad a x→parS i s=(stZ,(a:Int),(x:Int)):=fun a x h=>by unfold parS;rw[h]
 have t:∀L,Lx.tokAll s= .ok L→parS i s=if (endP (stmP (L.length+1) ⟨L,false⟩).2).bad=true then (stZ,((endP (stmP (L.length+1) ⟨L,false⟩).2).hd.pos:Int),2)else if i (stmP (L.length+1) ⟨L,false⟩).1=0 then ((stmP (L.length+1) ⟨L,false⟩).1,0,0)else (stZ,((⟨L,false⟩:Ps).hd.pos:Int),i (stmP (L.length+1) ⟨L,false⟩).1):=fun L h=>by
  unfold parS dl
  rw[h]
  simp only
  cases hb:(endP (stmP (L.length+1) ⟨L,false⟩).2).bad<;>simp[hb]
 obtain⟨R,hR⟩:∃R,parS i s=R:=⟨_,rfl⟩
 rw[hR]at j t ⊢
 have ac:=hid ba
 have an:=hid a2
 replace t:=hid t
 replace j:=hid j
 clear ba a2 hR
 go_enter Tryz.func13,Tryz.ntmps13
 go_upto_region 1 with fail
 have k:=hid ((Ext.refl w).alloc (.cells #[.int .i64 0,.string ⟨#[]⟩,.slice none 0 0,.slice none 0 0,.slice none 0 0,.slice none 0 0,.slice none 0 0,.slice none 0 0,.slice none 0 0,.slice none 0 0,.int .i64 0,.string ⟨#[]⟩,.string ⟨#[]⟩,.int .i64 0,.int .i64 0,.int .i64 0,.string ⟨#[]⟩,.slice none 0 0,.slice none 0 0,.slice none 0 0,.int .i64 0,.string ⟨#[]⟩] 40))
 have B:=hid (Blk.of_new w 40 sC)
 generalize w.alloc (.cells #[.int .i64 0,.string ⟨#[]⟩,.slice none 0 0,.slice none 0 0,.slice none 0 0,.slice none 0 0,.slice none 0 0,.slice none 0 0,.slice none 0 0,.slice none 0 0,.int .i64 0,.string ⟨#[]⟩,.string ⟨#[]⟩,.int .i64 0,.int .i64 0,.int .i64 0,.string ⟨#[]⟩,.slice none 0 0,.slice none 0 0,.slice none 0 0,.int .i64 0,.string ⟨#[]⟩] 40)=w1 at*
 obtain⟨o,D⟩:∃g,w.heap.size=g:=⟨_,rfl⟩
 have HG:Hid (w.heap.size≤o):=Nat.le_of_eq D
 rw[D]at B ⊢
 have bm:=hid D
 clear D
 go_wp2_with fail
 refine(hH s w1 hs (hk.ext k)).mono ?_
 rintro _ w2 ⟨C,h|h⟩
 ·obtain⟨a,x,V,ci,rfl⟩:=h
  have b7:¬((x:Int)=0):=by omega
  have bN:=hid (k.trans C)
  have bf:=hid (B.ext C)
  obtain rfl:=j a x V
  clear k B C ac an t j V
  go_wp2_with (first|(refine wpList_buildTo rfl 40 _ rfl _ rfl #[.int .i64 0,.string ⟨#[]⟩,.slice none 0 0,.slice none 0 0,.slice none 0 0,.slice none 0 0,.slice none 0 0,.slice none 0 0,.slice none 0 0,.slice none 0 0,.int .i64 0,.string ⟨#[]⟩,.string ⟨#[]⟩,.int .i64 0,.int .i64 0,.int .i64 0,.string ⟨#[]⟩,.slice none 0 0,.slice none 0 0,.slice none 0 0,.int .i64 0,.string ⟨#[]⟩] (by kernel_rfl) ?_)|(refine stS rfl rfl rfl _ sC rfl rfl bf rfl rfl (by kernel_rfl) ?_))
  refine bodyPost_ret (v:=_) (bo (p:=2) (q:=3) (r:=4) (ty:=40) rfl _ _ o 40 _ _ _ (by rfl) (eB bf sC) Tryz.underlying40 rfl (by kernel_rfl)) rfl ?_
  exact⟨iX bN HG _,ft none none none 0 0 0 0 0 0,rfl,fun u _ _=>j9 u⟩
 ·obtain⟨L,P,A,c,V,rfl,hp⟩:=h
  have hL:=eD V
  have b4:=hL.len
  have n:=hid (t L V)
  have Z:Hid (o<P):=Nat.lt_of_lt_of_le B.lt hp.low
  have a5:Hid (o<w2.heap.size):=Nat.lt_trans Z hp.lt
  have HC:=hid (ac L P A c w1 w2 k V hp)
  have z:=hid (fun a W h1 U h3=>an L a W h1 V U h3)
  have bw:=hid hp.lt
  obtain⟨⟨X,s1⟩,hX⟩:∃x,stmP (L.length+1) ⟨L,false⟩=x:=⟨_,rfl⟩
  rw[hX]at HC n z
  simp only at HC n z
  clear hX hp ac an t j C
  go_wp2_with fail
  refine HC.mono ?_
  rintro _ w3 ⟨_,rfl,h1,U,a1,rfl,h3⟩
  have Y:=hid h1
  have a0:=hid h3
  clear h1 U h3 HC
  unfold St.val
  go_upto_region 5 with (first|(refine Great.wpList_allocTo rfl _ rfl (.pointer (some ⟨_,0,none⟩)) (.cells #[.int .i64 0,.string ⟨#[]⟩,.slice none 0 0,.slice none 0 0,.slice none 0 0,.slice none 0 0,.slice none 0 0,.slice none 0 0,.slice none 0 0,.slice none 0 0,.int .i64 0,.string ⟨#[]⟩,.string ⟨#[]⟩,.int .i64 0,.int .i64 0,.int .i64 0,.string ⟨#[]⟩,.slice none 0 0,.slice none 0 0,.slice none 0 0,.int .i64 0,.string ⟨#[]⟩] 40) (by kernel_rfl) ?_)|(refine stS' rfl rfl rfl (St.cells X a1) rfl rfl (cs:=sC) rfl rfl (by kernel_rfl) ?_))
  have hx:=(Ext.refl w3).alloc (.cells ((St.cells X a1)).toArray 40)
  have Q:=hid (Y.ext hx)
  have K:=hid (Stb.ext a0 hx)
  have F:=hid (Blk.of_new w3 40 (St.cells X a1))
  have a3:Hid (P<w3.heap.size):=Y.lt
  clear hx Y a0
  generalize hw:World.alloc _ _=w4
  rw[hw]at Q K F
  obtain⟨g8,be⟩:∃g,w3.heap.size=g:=⟨_,rfl⟩
  rw[be]at F a3 ⊢
  clear hw be
  go_wp2_with fail
  refine(end_any Q hL).mono ?_
  rintro _ w5 ⟨_,rfl,h1,U,_⟩
  have f:=hid h1
  have O:=hid (U.blk F (by have:=a3.out;omega))
  have J:=hid (Stb.chg K U bw)
  have E:Hid ((endP s1).bad=false→s1.bad=false):=fun h=>by
   unfold endP at h
   split at h
   ·exact h
   ·cases h
  clear h1 U Q F K
  generalize endP s1=s2 at*
  have G:=hid (B.ext f.base)
  obtain⟨b,b6,hA,hb,c0,c1,c2⟩:=f.cells
  obtain⟨t0,I⟩:∃t0,L[0]? =some t0:=⟨_,List.getElem?_eq_getElem (by have:=f.ne;have:=f.le;omega)⟩
  have bx:Hid ((⟨L,false⟩:Ps).hd=t0):=by
   unfold Ps.hd
   cases L with
   |nil=>cases I
   |cons a l=>cases I;rfl
  obtain⟨b9,b2,ax,bk,d0,d1,d2⟩:=f.tks 0 t0 I
  subst hA
  injection ax with ax
  injection ax with e1 e2
  subst e1 e2
  rw[Nat.zero_mul,Nat.add_zero]at d0 d1 d2
  have a4:b≠o:=not_tok G (by rfl) d0 d1 d2
  have b1:¬(o=b):=fun e=>a4 e.symm
  have cf:¬(P=o):=by have:=Z.out;omega
  have b3:¬(o=P):=by have:=Z.out;omega
  have b0:¬(b=o):=a4
  have cc:0<L.length:=by have:=f.ne;have:=f.le;omega
  have b5:(0:Int)<(L.length:Int):=by have:=f.ne;have:=f.le;omega
  obtain⟨p0,p1,p2,-⟩:=cls f.blk
  have hi:=f.lti
  have cd:=f.ne
  have cb:=f.le
  clear hb c0 c1 d0 d1 bk I
  cases a6:s2.bad
  ·rw[a6]at p2 n E
   have a9:=hid (z a1 w5 (k.trans f.base) (E rfl) J.now)
   rw[if_neg (by simp)]at n
   clear z E
   go_wp2_with (first|(refine ldS rfl rfl _ rfl O rfl ?_))
   refine a9.mono ?_
   rintro _ w6 ⟨rfl,m⟩
   have bd:=hid (f.ext m)
   have ad:=hid (G.ext m)
   have bY:=hid (O.ext m)
   have bn:=hid (Stb.ext J m)
   replace d2:=m.keep d2
   replace p0:=m.keep p0
   clear a9 m f G O J p1 p2 c2
   by_cases hv:i X=0
   ·rw[if_pos hv]at n
    rw[hv]
    obtain rfl:R=(X,0,0):=n.out
    clear n d2 p0
    go_wp2_with (first|(refine ldS rfl rfl _ rfl bY rfl ?_)|(refine stS rfl rfl rfl _ (St.cells X a1) rfl rfl ad rfl rfl (by kernel_rfl) ?_))
    refine bodyPost_ret (v:=_) (bo (p:=2) (q:=3) (r:=4) (ty:=40) rfl _ _ o 40 _ _ _ (by rfl) (eB ad (St.cells X a1)) Tryz.underlying40 rfl (by kernel_rfl)) rfl ?_
    exact⟨iX (k.trans bd.base) HG _,a1,rfl,(nq bn a5 _).weak fun q _ hq=>by have hq:w2.heap.size≤q:=hq;have:=a5.out;have:=bm.out;show w.heap.size≤q;omega⟩
   ·rw[if_neg hv]at n
    obtain rfl:R=(stZ,((t0.pos:Nat):Int),i X):=by rw[←bx.out];exact n
    clear n
    have y:=ad.ext (Ext.refl w6).drew
    go_upto_region 10 with fail
    refine wp_region_still_lit (by kernel_rfl) (by kernel_rfl) ?_
    iterate 9 still_step
    refine cZ rfl 40 rfl rfl o sC rfl rfl y (by kernel_rfl) (by kernel_rfl) ?_
    iterate 2 still_step
    refine wpStill_nil ?_
    have ag:=(k.trans bd.base).trans (Ext.refl w6).drew
    go_wp2_with fail
    refine bodyPost_ret (v:=_) (bo (p:=2) (q:=3) (r:=4) (ty:=40) rfl _ _ o 40 _ _ _ (by rfl) (y) Tryz.underlying40 rfl (by kernel_rfl)) rfl ?_
    exact⟨ag,ft none none none 0 0 0 0 0 0,rfl,fun u _ _=>j9 u⟩
  ·rw[a6]at p2 n
   rw[if_pos rfl]at n
   obtain rfl:R=(stZ,((s2.hd.pos:Nat):Int),2):=n.out
   clear n z E d2
   have y:=G.ext (Ext.refl w5).drew
   go_upto_region 7 with fail
   refine wp_region_still_lit (by kernel_rfl) (by kernel_rfl) ?_
   iterate 12 still_step
   refine cZ rfl 40 rfl rfl o sC rfl rfl y (by kernel_rfl) (by kernel_rfl) ?_
   iterate 2 still_step
   refine wpStill_nil ?_
   have ag:=(k.trans f.base).trans (Ext.refl w5).drew
   go_wp2_with fail
   refine bodyPost_ret (v:=_) (bo (p:=2) (q:=3) (r:=4) (ty:=40) rfl _ _ o 40 _ _ _ (by rfl) (y) Tryz.underlying40 rfl (by kernel_rfl)) rfl ?_
   exact⟨ag,ft none none none 0 0 0 0 0 0,rfl,fun u _ _=>j9 u⟩
theorem km (i:Ex→Int) (s:ByteArray) (w:World) (hs:s.size≤20000) (hk:Lx.KwAt w)
  (bd:∀(L:List Tk) (P:Nat) (A:Option Addr) (c:Nat) (W0 W:World),Ext w W0→Lx.tokAll s= .ok L→PsAt 68 P A c L W0 W ⟨L,false⟩→Calls Tryz.prog 39 #[.pointer (some ⟨P,0,none⟩)] W (Ran 68 P A c L W0 W (exprP (L.length+1) ⟨L,false⟩).2 fun v w'=>ExG W.heap.size w' (exprP (L.length+1) ⟨L,false⟩).1 v))
  (a3:∀(L:List Tk) (m:Option Addr) (o c1:Nat) (W:World),Ext w W→Lx.tokAll s= .ok L→(exprP (L.length+1) ⟨L,false⟩).2.bad=false→ExV W (exprP (L.length+1) ⟨L,false⟩).1 m o c1→Calls Tryz.prog 40 #[Nd.val (exprP (L.length+1) ⟨L,false⟩).1.d m o c1] W fun r w'=>r= .returned (.int .i64 (i (exprP (L.length+1) ⟨L,false⟩).1))∧Ext W w'):
  Calls Tryz.prog 17 #[.string s] w fun e w'=>Ext w w'∧∃m o c1,e= .returned (.tuple #[Nd.val (parE i s).1.d m o c1,.int .i64 (parE i s).2.1,.int .i64 (parE i s).2.2])∧Stb (w.heap.size≤·) w' (fun u=>ExV u (parE i s).1 m o c1):=by
 have j:∀a x:Nat,Lx.tokAll s= .bad a x→parE i s=(exZ,(a:Int),(x:Int)):=fun a x h=>by unfold parE;rw[h]
 have z:∀L,Lx.tokAll s= .ok L→parE i s=if (endP (exprP (L.length+1) ⟨L,false⟩).2).bad=true then (exZ,((endP (exprP (L.length+1) ⟨L,false⟩).2).hd.pos:Int),2)else if i (exprP (L.length+1) ⟨L,false⟩).1=0 then ((exprP (L.length+1) ⟨L,false⟩).1,0,0)else (exZ,((⟨L,false⟩:Ps).hd.pos:Int),i (exprP (L.length+1) ⟨L,false⟩).1):=fun L h=>by
  unfold parE dl
  rw[h]
  simp only
  cases hb:(endP (exprP (L.length+1) ⟨L,false⟩).2).bad<;>simp[hb]
 obtain⟨R,hR⟩:∃R,parE i s=R:=⟨_,rfl⟩
 rw[hR]at j z ⊢
 have ag:=hid bd
 have a0:=hid a3
 replace z:=hid z
 replace j:=hid j
 clear bd a3 hR
 go_enter Tryz.func17,Tryz.ntmps17
 go_upto_region 1 with fail
 have k:=hid ((Ext.refl w).alloc (.cells #[.int .i64 0,.string ⟨#[]⟩,.string ⟨#[]⟩,.int .i64 0,.int .i64 0,.int .i64 0,.string ⟨#[]⟩,.slice none 0 0] 37))
 have D:=hid (Blk.of_new w 37 eZ)
 generalize w.alloc (.cells #[.int .i64 0,.string ⟨#[]⟩,.string ⟨#[]⟩,.int .i64 0,.int .i64 0,.int .i64 0,.string ⟨#[]⟩,.slice none 0 0] 37)=w1 at*
 obtain⟨y,F⟩:∃g,w.heap.size=g:=⟨_,rfl⟩
 have HG:Hid (w.heap.size≤y):=Nat.le_of_eq F
 rw[F]at D ⊢
 have bn:=hid F
 clear F
 go_wp2_with fail
 refine(hH s w1 hs (hk.ext k)).mono ?_
 rintro _ w2 ⟨E,h|h⟩
 ·obtain⟨a,x,Z,cj,rfl⟩:=h
  have cb:¬((x:Int)=0):=by omega
  have bY:=hid (k.trans E)
  have bk:=hid (D.ext E)
  obtain rfl:=j a x Z
  clear k D E ag a0 z j Z
  go_wp2_with (first|(refine wpList_buildTo rfl 37 _ rfl _ rfl #[.int .i64 0,.string ⟨#[]⟩,.string ⟨#[]⟩,.int .i64 0,.int .i64 0,.int .i64 0,.string ⟨#[]⟩,.slice none 0 0] (by kernel_rfl) ?_)|(refine stE rfl rfl rfl _ eZ rfl rfl bk rfl rfl (by kernel_rfl) ?_))
  refine bodyPost_ret (v:=_) (bo (p:=2) (q:=3) (r:=4) (ty:=37) rfl _ _ y 37 _ _ _ (by rfl) (eB bk eZ) Tryz.underlying37 rfl (by kernel_rfl)) rfl ?_
  exact⟨iX bY HG _,none,0,0,rfl,fun u _ _=>ib u⟩
 ·obtain⟨L,P,A,c,Z,rfl,hp⟩:=h
  have hL:=eD Z
  have b5:=hL.len
  have t:=hid (z L Z)
  have ad:Hid (y<P):=Nat.lt_of_lt_of_le D.lt hp.low
  have a6:Hid (y<w2.heap.size):=Nat.lt_trans ad hp.lt
  have HC:=hid (ag L P A c w1 w2 k Z hp)
  have C:=hid (fun m o c1 W h1 Y h3=>a0 L m o c1 W h1 Z Y h3)
  have bx:=hid hp.lt
  obtain⟨⟨X,s1⟩,hX⟩:∃x,exprP (L.length+1) ⟨L,false⟩=x:=⟨_,rfl⟩
  rw[hX]at HC t C
  simp only at HC t C
  clear hX hp ag a0 z j E
  go_wp2_with fail
  refine HC.mono ?_
  rintro _ w3 ⟨_,rfl,h1,Y,m,o,c1,rfl,h3⟩
  have ac:=hid h1
  have a2:=hid h3
  clear h1 Y h3 HC
  unfold Nd.val
  go_upto_region 5 with (first|(refine Great.wpList_allocTo rfl _ rfl (.pointer (some ⟨_,0,none⟩)) (.cells #[.int .i64 0,.string ⟨#[]⟩,.string ⟨#[]⟩,.int .i64 0,.int .i64 0,.int .i64 0,.string ⟨#[]⟩,.slice none 0 0] 37) (by kernel_rfl) ?_)|(refine stE' rfl rfl rfl (X.d.cells m o c1) rfl rfl (cs:=eZ) rfl rfl (by kernel_rfl) ?_))
  have hx:=(Ext.refl w3).alloc (.cells ((X.d.cells m o c1)).toArray 37)
  have V:=hid (ac.ext hx)
  have Q:=hid (Stb.ext a2 hx)
  have I:=hid (Blk.of_new w3 37 (X.d.cells m o c1))
  have a4:Hid (P<w3.heap.size):=ac.lt
  clear hx ac a2
  generalize hw:World.alloc _ _=w4
  rw[hw]at V Q I
  obtain⟨g8,bf⟩:∃g,w3.heap.size=g:=⟨_,rfl⟩
  rw[bf]at I a4 ⊢
  clear hw bf
  go_wp2_with fail
  refine(end_any V hL).mono ?_
  rintro _ w5 ⟨_,rfl,h1,Y,_⟩
  have f:=hid h1
  have U:=hid (Y.blk I (by have:=a4.out;omega))
  have O:=hid (Stb.chg Q Y bx)
  have G:Hid ((endP s1).bad=false→s1.bad=false):=fun h=>by
   unfold endP at h
   split at h
   ·exact h
   ·cases h
  clear h1 Y V I Q
  generalize endP s1=s2 at*
  have J:=hid (D.ext f.base)
  obtain⟨b,b7,hA,hb,c0,c1,c2⟩:=f.cells
  obtain⟨t0,K⟩:∃t0,L[0]? =some t0:=⟨_,List.getElem?_eq_getElem (by have:=f.ne;have:=f.le;omega)⟩
  have bN:Hid ((⟨L,false⟩:Ps).hd=t0):=by
   unfold Ps.hd
   cases L with
   |nil=>cases K
   |cons a l=>cases K;rfl
  obtain⟨b9,b3,a1,bm,d0,d1,d2⟩:=f.tks 0 t0 K
  subst hA
  injection a1 with a1
  injection a1 with e1 e2
  subst e1 e2
  rw[Nat.zero_mul,Nat.add_zero]at d0 d1 d2
  have a5:b≠y:=not_tok J (by rfl) d0 d1 d2
  have b2:¬(y=b):=fun e=>a5 e.symm
  have ci:¬(P=y):=by have:=ad.out;omega
  have b4:¬(y=P):=by have:=ad.out;omega
  have b1:¬(b=y):=a5
  have cd:0<L.length:=by have:=f.ne;have:=f.le;omega
  have b6:(0:Int)<(L.length:Int):=by have:=f.ne;have:=f.le;omega
  obtain⟨p0,p1,p2,-⟩:=cls f.blk
  have hi:=f.lti
  have cf:=f.ne
  have cc:=f.le
  clear hb c0 c1 d0 d1 bm K
  cases a9:s2.bad
  ·rw[a9]at p2 t G
   have ba:=hid (C m o c1 w5 (k.trans f.base) (G rfl) O.now)
   rw[if_neg (by simp)]at t
   clear C G
   go_wp2_with (first|(refine ldE rfl rfl _ rfl U rfl ?_))
   refine ba.mono ?_
   rintro _ w6 ⟨rfl,n⟩
   have be:=hid (f.ext n)
   have an:=hid (J.ext n)
   have b0:=hid (U.ext n)
   have bw:=hid (Stb.ext O n)
   replace d2:=n.keep d2
   replace p0:=n.keep p0
   clear ba n f J U O p1 p2 c2
   by_cases hv:i X=0
   ·rw[if_pos hv]at t
    rw[hv]
    obtain rfl:R=(X,0,0):=t.out
    clear t d2 p0
    go_wp2_with (first|(refine ldE rfl rfl _ rfl b0 rfl ?_)|(refine stE rfl rfl rfl _ (X.d.cells m o c1) rfl rfl an rfl rfl (by kernel_rfl) ?_))
    refine bodyPost_ret (v:=_) (bo (p:=2) (q:=3) (r:=4) (ty:=37) rfl _ _ y 37 _ _ _ (by rfl) (eB an (X.d.cells m o c1)) Tryz.underlying37 rfl (by kernel_rfl)) rfl ?_
    exact⟨iX (k.trans be.base) HG _,m,o,c1,rfl,(nq bw a6 _).weak fun q _ hq=>by have hq:w2.heap.size≤q:=hq;have:=a6.out;have:=bn.out;show w.heap.size≤q;omega⟩
   ·rw[if_neg hv]at t
    obtain rfl:R=(exZ,((t0.pos:Nat):Int),i X):=by rw[←bN.out];exact t
    clear t
    have B:=an.ext (Ext.refl w6).drew
    go_upto_region 10 with fail
    refine wp_region_still_lit (by kernel_rfl) (by kernel_rfl) ?_
    iterate 9 still_step
    refine cZ rfl 37 rfl rfl y eZ rfl rfl B (by kernel_rfl) (by kernel_rfl) ?_
    iterate 2 still_step
    refine wpStill_nil ?_
    have ax:=(k.trans be.base).trans (Ext.refl w6).drew
    go_wp2_with fail
    refine bodyPost_ret (v:=_) (bo (p:=2) (q:=3) (r:=4) (ty:=37) rfl _ _ y 37 _ _ _ (by rfl) (B) Tryz.underlying37 rfl (by kernel_rfl)) rfl ?_
    exact⟨ax,none,0,0,rfl,fun u _ _=>ib u⟩
  ·rw[a9]at p2 t
   rw[if_pos rfl]at t
   obtain rfl:R=(exZ,((s2.hd.pos:Nat):Int),2):=t.out
   clear t C G d2
   have B:=J.ext (Ext.refl w5).drew
   go_upto_region 7 with fail
   refine wp_region_still_lit (by kernel_rfl) (by kernel_rfl) ?_
   iterate 12 still_step
   refine cZ rfl 37 rfl rfl y eZ rfl rfl B (by kernel_rfl) (by kernel_rfl) ?_
   iterate 2 still_step
   refine wpStill_nil ?_
   have ax:=(k.trans f.base).trans (Ext.refl w5).drew
   go_wp2_with fail
   refine bodyPost_ret (v:=_) (bo (p:=2) (q:=3) (r:=4) (ty:=37) rfl _ _ y 37 _ _ _ (by rfl) (B) Tryz.underlying37 rfl (by kernel_rfl)) rfl ?_
   exact⟨ax,none,0,0,rfl,fun u _ _=>ib u⟩
end
section
open Lx (Tk)
theorem ns:(Tryz.prog.info? 40).map (fun i=> (i.zero,i.size,i.bytes))=some (some (.agg #[.int .i64 0,.string ⟨#[]⟩,.slice none 0 0,.slice none 0 0,.slice none 0 0,.slice none 0 0,.slice none 0 0,.slice none 0 0,.slice none 0 0,.slice none 0 0,.int .i64 0,.string ⟨#[]⟩,.string ⟨#[]⟩,.int .i64 0,.int .i64 0,.int .i64 0,.string ⟨#[]⟩,.slice none 0 0,.slice none 0 0,.slice none 0 0,.int .i64 0,.string ⟨#[]⟩]),22,392):=by kernel_rfl
def Phist (x:St) (cs:List Value) (w:World):Prop:=∃a,cs=x.cells a∧StW w x a
theorem bsS {ops:Array Oper} {rest:List Oper} {o:Oper} {a:Act} {w:World} {Q:Exit→Act→World→Prop} {x:Operand} (e:o.guard=none) (i:o.op= .buildSlice 49 1 #[(0,x)]) (X:St) (b:SA) (l:a.eval x= .agg (X.cells b).toArray)
  (h:wpList Tryz.prog ops Q rest (a.put o.dst (.slice (some ⟨w.heap.size,0,none⟩) 1 1)) (w.alloc (.cells (X.cells b).toArray 40))):wpList Tryz.prog ops Q (o::rest) a w:=by
 obtain⟨k,g,j,f,m⟩:=aX ns
 refine wpList_buildSlice e _ 40 1 _ i _ k _ rfl g j (by rw[f];decide) (by rw[f];decide) ?_ h
 rw[f]
 simp only[List.map_toArray,List.map_cons,List.map_nil,l]
 kernel_rfl
theorem bM.nil {α:Type} {Φ:α→List Value→World→Prop} {T b n0:Nat} {w:World} :bM Φ T b n0 w (.slice none 0 0) [] []:=⟨rfl,by simp,⟨by simp,.inl ⟨rfl,rfl⟩⟩,fun i a cs h=>by simp at h⟩
theorem st_one (X:St) (a:SA):∀u∈X.cells a,u.oneCell'=true:=List.all_eq_true.1 (by rfl:(X.cells a).all (·.oneCell')=true)
theorem oe (a:M St) (b:St→Int) (n:Nat) (e:List St) (s:Ps):kv a b (n+1) e s=if s.hd.kind=0 then .inr e
  else if (needP gf (a s).2).bad=true then .inl ((needP gf (a s).2).hd.pos,2)
  else if b (a s).1≠0 then .inl (s.hd.pos,b (a s).1)
  else kv a b n (e++ [(a s).1]) (needP gf (a s).2):=rfl
theorem need_ok {t:ByteArray} {s:Ps} (h:(needP t s).bad=false):s.bad=false∧(needP t s).r.length<s.r.length:=by
 unfold needP at h ⊢
 split at h
 ·next h1=>
  rw[if_pos h1]
  exact⟨(ce h1).1,by have:=aM h1;omega⟩
 ·cases h
def lOf:((Nat×Int) ⊕ List St)→List St×Int×Int
 | .inl q=> ([],(q.1:Int),q.2)
 | .inr l=> (l,0,0)
theorem script_fn (f:St→Int) (s:ByteArray) (w:World) (hs:s.size≤20000) (hk:Lx.KwAt w)
  (ax:∀(L:List Tk) (P:Nat) (A:Option Addr) (c:Nat) (W:World) (st:Ps),Lx.tokAll s= .ok L→PsAt 68 P A c L w W st→Calls Tryz.prog 29 #[.pointer (some ⟨P,0,none⟩)] W (Ran 68 P A c L w W (stmP (L.length+1) st).2 fun v w'=>ElSt W.heap.size w' (stmP (L.length+1) st).1 v))
  (b7:∀(L:List Tk) (st:Ps) (a:SA) (W:World),Ext w W→Lx.tokAll s= .ok L→st.r=L.drop (L.length-st.r.length)→st.bad=false→(stmP (L.length+1) st).2.bad=false→StW W (stmP (L.length+1) st).1 a→Calls Tryz.prog 31 #[St.val (stmP (L.length+1) st).1 a] W fun r w'=>r= .returned (.int .i64 (f (stmP (L.length+1) st).1))∧Ext W w'):
  Calls Tryz.prog 20 #[.string s] w fun e w'=>Ext w w'∧∃B k,e= .returned (.tuple #[.slice B (parL f s).1.length k,.int .i64 (parL f s).2.1,.int .i64 (parL f s).2.2])∧(parL f s).1.length≤20001∧Stb (w.heap.size≤·) w' (fun u=>Lst Phist 22 u B (parL f s).1):=by
 have i:∀a x:Nat,Lx.tokAll s= .bad a x→parL f s=([],(a:Int),(x:Int)):=fun a x h=>by unfold parL;rw[h]
 have C:∀L,Lx.tokAll s= .ok L→parL f s=lOf (kv (stmP (L.length+1)) f (L.length+1) [] ⟨L,false⟩):=fun L h=>by
  unfold parL lOf
  rw[h]
  rfl
 obtain⟨R,hR⟩:∃R,parL f s=R:=⟨_,rfl⟩
 rw[hR]at i C ⊢
 obtain⟨ie,c3,cH,c9,cA⟩:=aX ns
 have bw:=hid ax
 have b0:=hid b7
 replace C:=hid C
 replace i:=hid i
 clear ax b7 hR
 go_enter Tryz.func20,Tryz.ntmps20
 go_wp2_with fail
 refine(hH s w hs hk).mono ?_
 rintro _ F ⟨bf,h|h⟩
 ·obtain⟨a,x,ht,ee,rfl⟩:=h
  have d5:¬((x:Int)=0):=by omega
  obtain rfl:=i a x ht
  clear bw b0 C i ht
  go_wp2_with fail
  go_ret3
  exact⟨bf,none,⟨0,rfl⟩,fun u _ _=>cY⟩
 ·obtain⟨L,P,A,c,ht,rfl,hp⟩:=h
  have hL:=eD ht
  have d1:=hL.len
  have HR:=hid (C L ht)
  have HC:=hid (fun W st=>bw L P A c W st ht)
  have b1:=hid (fun st a W G=>b0 L st a W G ht)
  have bn:=hid hp.lt
  have cw:Hid (w.heap.size≤F.heap.size):=bf.size
  have cf:=hid hp
  clear hp bw b0 C i bf
  go_upto_region 5 with fail
  go_loopw [8] (fun vv wr=> ∃(m:Nat) (st:Ps) (l:List St) (ck:List (List Value)),st.r.length<m∧l.length+st.r.length≤L.length+1∧st.bad=false∧R=lOf (kv (stmP (L.length+1)) f m l st)∧F.heap.size≤wr.heap.size∧PsAt 68 P A c L w wr st∧bM Phist 40 22 F.heap.size wr vv l ck) (fun _ wr=>20001-posOf P wr)
  case atStart=>exact⟨_,⟨L,false⟩,[],[],by simp,by simp,rfl,HR,Nat.le_refl _,cf,bM.nil⟩
  case round=>
   obtain⟨m,st,l,ck,hm,eb,b5,hI,cl,D,a5⟩:=hrel
   obtain⟨m,rfl⟩:∃x,m=x+1:=⟨m-1,by omega⟩
   rw[oe]at hI
   have y:=hid hI
   have n:=hid a5
   have O:=hid D
   have c8:Hid (posOf P wr=L.length-st.r.length):=D.posOf
   have ds:=D.le
   have dx:=D.ne
   have cj:=hid D.suf
   clear hI a5 D HR cf
   generalize wr=d3 at*
   go_wp2_with fail
   refine(gB O hL 0).mono ?_
   rintro _ p ⟨rfl,hx⟩
   replace O:=hid (O.ext hx)
   replace n:=hid (n.ext hx)
   have a0:F.heap.size≤p.heap.size:=Nat.le_trans cl hx.size
   clear hx cl
   cases J:hasK 0 st
   ·have bx:¬st.hd.kind=0:=fun e=>by unfold hasK at J;rw[b5,e]at J;cases J
    rw[if_neg bx]at y
    obtain⟨⟨X,s1⟩,hX⟩:∃x,stmP (L.length+1) st=x:=⟨_,rfl⟩
    have el:s1.r.length≤st.r.length:=by
     obtain⟨B,G,_⟩:=(iR (L.length+1)).sfx st
     rw[hX]at G
     have E:=congrArg List.length G
     simp only[List.length_append]at E
     omega
    have ag:=hid (fun W h=>HC W st h)
    have I:=hid (fun a W G E=>b1 st a W G cj b5 E)
    rw[hX]at y ag I
    simp only at y ag I
    clear hX HC b1
    obtain⟨b,d4,hA,hb,c0,c1,c2⟩:=O.cells
    subst hA
    obtain⟨p0,p1,-⟩:=cls O.blk
    have hi:=O.lti
    have d6:L.length-st.r.length<L.length:=by omega
    replace O:=hid (O.ext (Ext.refl p).drew)
    replace n:=hid (n.ext (Ext.refl p).drew)
    go_upto_region 6 with fail
    refine wp_region_still_lit (by kernel_rfl) (by kernel_rfl) ?_
    iterate 12 still_step
    refine wpStill_nil ?_
    clear hb c0 c1 c2 p0 p1 hi
    have a6:Hid (F.heap.size≤p.drew.heap.size):=a0
    clear a0
    have cd:({ p with drawn:=p.drawn+1 } :World)=p.drew:=rfl
    rw[cd]
    clear cd
    generalize p.drew=cc at*
    go_wp2_with fail
    refine(ag cc O).mono ?_
    have dd:=hid O.lt
    have c7:=hid (fun q hq=> (n.own.lt q hq).2)
    rintro _ w3 ⟨_,rfl,G,E,z,rfl,h3⟩
    have Z:=hid G
    have Q:=hid h3
    have cb:Hid (P<w3.heap.size):=G.lt
    have o:=hid (n.chg E bn)
    have bk:Hid (F.heap.size≤w3.heap.size):=Nat.le_trans a6 E.size
    clear G E h3 ag n O
    unfold St.val
    go_upto_region 8 with (first|(refine Great.wpList_allocTo rfl _ rfl (.pointer (some ⟨_,0,none⟩)) (.cells #[.int .i64 0,.string ⟨#[]⟩,.slice none 0 0,.slice none 0 0,.slice none 0 0,.slice none 0 0,.slice none 0 0,.slice none 0 0,.slice none 0 0,.slice none 0 0,.int .i64 0,.string ⟨#[]⟩,.string ⟨#[]⟩,.int .i64 0,.int .i64 0,.int .i64 0,.string ⟨#[]⟩,.slice none 0 0,.slice none 0 0,.slice none 0 0,.int .i64 0,.string ⟨#[]⟩] 40) (by kernel_rfl) ?_)|(refine stS' rfl rfl rfl (St.cells X z) rfl rfl (cs:=sC) rfl rfl (by kernel_rfl) ?_))
    have hx:=(Ext.refl w3).alloc (.cells ((St.cells X z)).toArray 40)
    replace Z:=hid (Z.ext hx)
    replace Q:=hid (Stb.ext Q hx)
    replace o:=hid (o.ext hx)
    have ad:=hid (Blk.of_new w3 40 (St.cells X z))
    have V:Hid (F.heap.size≤(w3.alloc (.cells ((St.cells X z)).toArray 40)).heap.size):=Nat.le_trans bk hx.size
    clear hx
    generalize hw:World.alloc _ _=w4
    rw[hw]at V Z Q ad o
    obtain⟨g8,cv⟩:∃g,w3.heap.size=g:=⟨_,rfl⟩
    rw[cv]at ad cb ⊢
    clear hw cv
    go_wp2_with fail
    refine(pneed Z hL gf).mono ?_
    rintro _ w5 ⟨_,rfl,G,E⟩
    have j:=hid G
    have be:=hid (E.blk ad (by have:=cb.out;omega))
    have ba:=hid (Stb.chg Q E dd)
    have a9:=hid (o.chg E bn)
    have bN:Hid (F.heap.size≤w5.heap.size):=Nat.le_trans V E.size
    clear G E Z ad Q o
    have cy:=need_ok (t:=gf) (s:=s1)
    generalize needP gf s1=s2 at*
    obtain⟨b2,d0,hA,hb,c0,c1,c2⟩:=j.cells
    injection hA with hA
    injection hA with e1 e2
    subst e1 e2
    obtain⟨p0,p1,p2,-⟩:=cls j.blk
    have hi:=j.lti
    have df:=j.ne
    have dk:=j.le
    have d2:L.length-s2.r.length<L.length:=by omega
    cases an:s2.bad
    ·rw[an]at p2 y
     rw[if_neg (by simp)]at y
     obtain⟨cx,d7⟩:=cy an
     replace I:=hid (I z w5 j.base cx ba.now)
     go_wp2_with (first|(refine ldS rfl rfl _ rfl be rfl ?_))
     refine I.mono ?_
     rintro _ w6 ⟨rfl,K⟩
     have b4:=hid (j.ext K)
     have c4:=hid (be.ext K)
     have b9:=hid (Stb.ext ba K)
     have a2:=hid (a9.ext K)
     have bY:Hid (F.heap.size≤w6.heap.size):=Nat.le_trans bN K.size
     clear I K j be ba a9 p0 p1 p2 c0 c1 c2 hi hb
     by_cases hv:f X=0
     ·rw[if_neg (by simp[hv])]at y
      rw[hv]
      have Y:=(Ext.refl w6).alloc (.cells ((St.cells X z)).toArray 40)
      have dc:=hid (b4.ext Y)
      have U:=hid (a2.ext Y)
      have a3:Stb (fun q=>F.heap.size≤q∧u8.ownBlock≠some q) (w6.alloc (.cells ((St.cells X z)).toArray 40)) (Phist X (St.cells X z)):=Stb.ext ((b9.weak fun q hq hn=>⟨Nat.le_trans a6 hn,fun e=>by
       have:=c7 q e
       have hn:cc.heap.size≤q:=hn
       omega⟩).imp fun u h=>⟨z,rfl,h⟩) Y
      have ci:=hid a3
      have a4:Hid (F.heap.size≤(w6.alloc (.cells ((St.cells X z)).toArray 40)).heap.size):=Nat.le_trans bY Y.size
      clear a3 Y a2 b9 b4
      go_wp2_with (first|(at_builtin;refine ap _ rfl (.tmp 62) (.tmp 64) 49 rfl F.heap.size 40 ie _ 22 392 Tryz.underlying49 c3 cH c9 cA rfl (by decide) _ l.length _ rfl U.own _ _ 1 1 (St.cells X z) rfl (bW w6 (St.cells X z) 40 22 rfl) (st_one X z) (by unfold maxLen;omega) (by omega) a4 ?_;intro v7 w7 bd ac b3)|(refine ldS rfl rfl _ rfl c4 rfl ?_)|(refine bsS rfl rfl X z rfl ?_))
      have bm:=U.push rfl bd ac b3 ci
      have c6:∀q,u8.ownBlock=some q→F.heap.size≤q:=fun q hq=> (U.own.lt q hq).1
      have b6:=hid (dc.grown ac (fun q hq=>Nat.lt_of_lt_of_le bn (c6 q hq)))
      exact⟨⟨m,s2,_,_,by omega,by rw[List.length_append,List.length_singleton];omega,an,y,Nat.le_trans a4 (World.grownBy.size ac),b6,bm⟩,by rw[b6.out.posOf,c8.out];omega⟩
     ·rw[if_pos hv]at y
      obtain rfl:R=([],((st.hd.pos:Nat):Int),f X):=y.out
      go_wp2_with fail
      go_ret3
      exact⟨b4.base,none,⟨0,rfl⟩,fun u _ _=>cY⟩
    ·rw[an]at p2 y
     rw[if_pos rfl]at y
     obtain rfl:R=([],((s2.hd.pos:Nat):Int),2):=y.out
     go_upto_region 10 with fail
     refine wp_region_still_lit (by kernel_rfl) (by kernel_rfl) ?_
     iterate 14 still_step
     refine wpStill_nil ?_
     have c5:=j.base.trans (Ext.refl w5).drew
     go_wp2_with fail
     go_ret3
     exact⟨c5,none,⟨0,rfl⟩,fun u _ _=>cY⟩
   ·have bx:st.hd.kind=0:=by unfold hasK at J;rw[b5]at J;simpa using J
    rw[if_pos bx]at y
    obtain⟨B,k,hv,ax⟩:=n.fin
    subst hv
    obtain rfl:R=(l,0,0):=y.out
    clear y HC b1
    go_wp2_with fail
    go_ret3
    exact⟨O.base,B,⟨k,rfl⟩,by show l.length≤_;omega,ax.weak fun q _ hq=>Nat.le_trans cw hq⟩
end
section
open Lx (Tk)
theorem read_at {s:ByteArray} {L:List Tk} (h:Lx.tokAll s= .ok L) {st:Ps} (b:st.r=L.drop (L.length-st.r.length)) {n:Nat} (t:L.length<n) (k:(stmP n st).2.bad=false):
  (stmP n st).1.formed=true∧(stmP n st).1.all.length≤100000∧(largeB (stmP n st).1.all=false→(stmP n st).1.bulk≤100000):=by
 have o:=wsm_all h
 have m:wsm st.r≤wsm L:=by
  have e:wsm (L.take (L.length-st.r.length)++L.drop (L.length-st.r.length))=wsm L:=by rw[List.take_append_drop]
  rw[wsm_app,←b]at e
  omega
 have l:=lin_stmt (jq n) andL st
 have q:(stmP n st).1.cst≤65548:=by
  unfold stmP
  omega
 have f:st.r.length<n:=by
  rw[b,List.length_drop]
  omega
 have g:(stmP n st).1.formed=true:=((yld_stm n st ⟨f,fun a i=>gt_of h a (List.mem_of_mem_drop (b ▸ i))⟩).2 k).1
 refine⟨g,by have:=all_cst (stmP n st).1;omega,fun j=>?_⟩
 have u:=bulk_cst g
 have p:=iu j
 omega
structure Pg (w:World):Prop where
 gd:Gd w
 er:Er w
 kw:Lx.KwAt w
theorem Pg.ext {w w':World} (h:Pg w) (a:Ext w w'):Pg w':=⟨h.gd.ext a,ly h.er a,h.kw.ext a⟩
theorem ke {s:ByteArray} {L:List Tk} (h:Lx.tokAll s= .ok L) {st:Ps} (e:st.r=L.drop (L.length-st.r.length)) {n:Nat} (l:L.length<n) (j:(stmP n st).2.bad=false) {a:SA} {W:World} (i:Gd W) (b:StW W (stmP n st).1 a):
  Calls Tryz.prog 31 #[St.val (stmP n st).1 a] W fun r w'=>r= .returned (.int .i64 (validS (stmP n st).1))∧Ext W w':=by
 obtain⟨_,m,g⟩:=read_at h e l j
 cases f:largeB (stmP n st).1.all
 ·exact nT _ a W i b.1 b.2.1 b.2.2 (Nat.le_trans (g f) (by omega))
 ·refine(lz _ a W b.1 (by omega) f).mono fun r w' k=>⟨?_,k.2⟩
  unfold validS
  rw[if_pos f]
  exact k.1
theorem ent5_tup:dR 57:=fun args W=>rfl
theorem ent5_asg:dR 59:=fun args W=>rfl
section
variable {P c:Nat} {A:Option Addr} {L:List Tk} {w0 w:World} {s:Ps}
theorem fwd_tup {ex:M Ex} (h:Fwd ex):Fwd (tupP ex):=ay (a7 _) fun _=>ay (dN h) fun _=>ay (a7 _) fun _=>aT _
theorem lH {ex:M Ex} (h:Fwd ex):Fwd (asgP ex):=ay (fwd_tak 1) fun _=>ay (a7 _) fun _=>ay h fun _=>aT _
theorem stm_all {n:Nat} (j:Er w0) (a:TkL L) (u:s.r.length<n) (q:PsAt 68 P A c L w0 w s):
  Calls Tryz.prog 29 #[.pointer (some ⟨P,0,none⟩)] w (Ran 68 P A c L w0 w (stmP n s).2 fun v w'=>ElSt w.heap.size w' (stmP n s).1 v):=by
 have f:=j2 (P:=P) (A:=A) (c:=c) j a n
 have b:=jo n
 unfold stmP
 exact lF f u q a (fun _ W st h hs=>create_rd f b hs j h a) (fun _ W st h hs=>query_rd f b hs j h a)
  (fun _ W st h hs=> (list_row _ ent5_tup _ (fwd_tup b) h a fun t p i m=>tuple_rd b f (by omega) i a).mono fun e w' ⟨v,k,g,l,o⟩=>⟨v,k,g,l,dw (fwd_tup b) st,o⟩)
  (fun _ W st h hs=> (list_asg _ ent5_asg _ (lH b) h a fun t p i m=>kl f (by omega) i a).mono fun e w' ⟨v,k,g,l,o⟩=>⟨v,k,g,l,dw (lH b) st,dN (lH b) st,o⟩)
end
theorem bX (s:ByteArray) (w:World) (hs:s.size≤20000) (b:Pg w):
  Calls Tryz.prog 13 #[.string s] w fun e w'=>Ext w w'∧∃a,e= .returned (.tuple #[St.val (parS validS s).1 a,.int .i64 (parS validS s).2.1,.int .i64 (parS validS s).2.2])∧Stb (w.heap.size≤·) w' (fun u=>StW u (parS validS s).1 a):=
 lG validS s w hs b.kw (fun L P A c k W f g h=>stm_all (ly b.er f) (eD g) (Nat.lt_succ_self _) h)
  (fun L a W f g i j=>ke g (st:=⟨L,false⟩) (by simp) (Nat.lt_succ_self _) i (b.gd.ext f) j)
theorem ef (s:ByteArray) (w:World) (hs:s.size≤20000) (f:Pg w):
  Calls Tryz.prog 17 #[.string s] w fun e w'=>Ext w w'∧∃a b c1,e= .returned (.tuple #[Nd.val (parE validE s).1.d a b c1,.int .i64 (parE validE s).2.1,.int .i64 (parE validE s).2.2])∧Stb (w.heap.size≤·) w' (fun u=>ExV u (parE validE s).1 a b c1):=
 km validE s w hs f.kw (fun L P A c l W g h i=>j2 (ly f.er g) (eD h) _ _ _ i (Nat.lt_succ_self _))
  (fun L a b c1 W g h k j=>valid_any _ a b c1 W j (f.gd.ext g).sh)
theorem nt (s:ByteArray) (w:World) (hs:s.size≤20000) (f:Pg w):
  Calls Tryz.prog 20 #[.string s] w fun e w'=>Ext w w'∧∃B k,e= .returned (.tuple #[.slice B (parL validS s).1.length k,.int .i64 (parL validS s).2.1,.int .i64 (parL validS s).2.2])∧(parL validS s).1.length≤20001∧Stb (w.heap.size≤·) w' (fun u=>Lst Phist 22 u B (parL validS s).1):=
 script_fn validS s w hs f.kw (fun L P A c W st g h=>stm_all f.er (eD g) (Nat.lt_succ_of_le h.le) h)
  (fun L st a W m g b j i l=>ke g b (Nat.lt_succ_self _) i (f.gd.ext m) l)
end
section
open Lx (Tk)
theorem awk_any (w:World) (hg:Pg w):Calls Tryz.prog 11 #[] w fun e w'=>e= .returned (.bool true)∧Ext w w':=by
 have O:=hid hg
 have l:=hid (Ext.refl w)
 have q:=hid (fun W h=>ef aw1 W (by decide) h)
 have r:=hid (fun W h=>ef aw4 W (by decide) h)
 have t:=hid (fun W h=>bX aw2 W (by decide) h)
 have p:=hid (fun W h=>bX aw3 W (by decide) h)
 have u:=hid (fun W h=>nt aw5 W (by decide) h)
 have a1:=aw_1
 have z:=aw_1t
 have a2:=aw_2
 have E:=aw_2t
 have x:=aw_2f
 have a3:=aw_3
 have a4:=aw_4
 have a5:=aw_5
 have C:=aw_5n
 generalize parE validE aw1=R1 at*
 generalize parE validE aw4=R4 at*
 generalize parS validS aw2=R2 at*
 generalize parS validS aw3=R3 at*
 generalize parL validS aw5=R5 at*
 obtain⟨R,r1⟩:=R1
 obtain⟨e4,r4⟩:=R4
 obtain⟨U,r2⟩:=R2
 obtain⟨s3,r3⟩:=R3
 obtain⟨l5,r5⟩:=R5
 simp only at a1 a2 a3 a4 a5 z E x C q r t p u
 subst a1 a2 a3 a4 a5
 simp only at q r t p u
 have HT:=hid z
 have K:=hid E
 have ag:=hid x
 have ad:=hid C
 clear z E x C hg
 go_enter Tryz.func11,Tryz.ntmps11
 go_wp2_with fail
 refine(q w O).mono ?_
 rintro _ w1 ⟨a,Q,V,c1,rfl,o⟩
 replace l:=hid (l.trans a)
 clear a
 have f:=hid o.now
 clear o q
 unfold Nd.val
 go_upto_region 2 with (first|(refine Great.wpList_allocTo rfl _ rfl (.pointer (some ⟨_,0,none⟩)) (.cells #[.int .i64 0,.string ⟨#[]⟩,.string ⟨#[]⟩,.int .i64 0,.int .i64 0,.int .i64 0,.string ⟨#[]⟩,.slice none 0 0] 37) (by kernel_rfl) ?_)|(refine stE' rfl rfl rfl (R.d.cells Q V c1) rfl rfl (cs:=eZ) rfl rfl (by kernel_rfl) ?_))
 have a:=(Ext.refl w1).alloc (.cells ((R.d.cells Q V c1)).toArray 37)
 have k:=hid (Blk.of_new w1 37 (R.d.cells Q V c1))
 replace l:=hid (l.trans a)
 replace f:=hid (f.ext a)
 clear a
 generalize m:World.alloc _ _=w2
 obtain⟨g1,D⟩:∃g,w1.heap.size=g:=⟨_,rfl⟩
 rw[m,D]at k
 rw[m]at l f
 rw[D]
 clear m D
 go_wp2_with fail
 refine(t w2 (O.ext l)).mono ?_
 rintro _ w3 ⟨a,G,rfl,o⟩
 replace l:=hid (l.trans a)
 replace f:=hid (f.ext a)
 replace k:=hid (k.ext a)
 clear a
 have b:=hid o.now.1
 clear o t
 unfold St.val
 go_upto_region 3 with (first|(refine Great.wpList_allocTo rfl _ rfl (.pointer (some ⟨_,0,none⟩)) (.cells #[.int .i64 0,.string ⟨#[]⟩,.slice none 0 0,.slice none 0 0,.slice none 0 0,.slice none 0 0,.slice none 0 0,.slice none 0 0,.slice none 0 0,.slice none 0 0,.int .i64 0,.string ⟨#[]⟩,.string ⟨#[]⟩,.int .i64 0,.int .i64 0,.int .i64 0,.string ⟨#[]⟩,.slice none 0 0,.slice none 0 0,.slice none 0 0,.int .i64 0,.string ⟨#[]⟩] 40) (by kernel_rfl) ?_)|(refine stS' rfl rfl rfl (St.cells U G) rfl rfl (cs:=sC) rfl rfl (by kernel_rfl) ?_))
 have a:=(Ext.refl w3).alloc (.cells ((St.cells U G)).toArray 40)
 have j:=hid (Blk.of_new w3 40 (St.cells U G))
 replace l:=hid (l.trans a)
 replace f:=hid (f.ext a)
 replace k:=hid (k.ext a)
 replace b:=hid (b.ext a)
 clear a
 generalize m:World.alloc _ _=w4
 obtain⟨g2,B⟩:∃g,w3.heap.size=g:=⟨_,rfl⟩
 rw[m,B]at j
 rw[m]at l f k b
 rw[B]
 clear m B
 go_wp2_with fail
 refine(p w4 (O.ext l)).mono ?_
 rintro _ Y ⟨a,b3,rfl,o⟩
 replace l:=hid (l.trans a)
 replace f:=hid (f.ext a)
 replace k:=hid (k.ext a)
 replace b:=hid (b.ext a)
 replace j:=hid (j.ext a)
 clear a
 clear o p
 unfold St.val
 go_upto_region 4 with (first|(refine Great.wpList_allocTo rfl _ rfl (.pointer (some ⟨_,0,none⟩)) (.cells #[.int .i64 0,.string ⟨#[]⟩,.slice none 0 0,.slice none 0 0,.slice none 0 0,.slice none 0 0,.slice none 0 0,.slice none 0 0,.slice none 0 0,.slice none 0 0,.int .i64 0,.string ⟨#[]⟩,.string ⟨#[]⟩,.int .i64 0,.int .i64 0,.int .i64 0,.string ⟨#[]⟩,.slice none 0 0,.slice none 0 0,.slice none 0 0,.int .i64 0,.string ⟨#[]⟩] 40) (by kernel_rfl) ?_)|(refine stS' rfl rfl rfl (St.cells s3 b3) rfl rfl (cs:=sC) rfl rfl (by kernel_rfl) ?_))
 have a:=(Ext.refl Y).alloc (.cells ((St.cells s3 b3)).toArray 40)
 have I:=hid (Blk.of_new Y 40 (St.cells s3 b3))
 replace l:=hid (l.trans a)
 replace f:=hid (f.ext a)
 replace k:=hid (k.ext a)
 replace b:=hid (b.ext a)
 replace j:=hid (j.ext a)
 clear a
 generalize m:World.alloc _ _=w6
 obtain⟨g3,y⟩:∃g,Y.heap.size=g:=⟨_,rfl⟩
 rw[m,y]at I
 rw[m]at l f k b j
 rw[y]
 clear m y
 go_wp2_with fail
 refine(r w6 (O.ext l)).mono ?_
 rintro _ Z ⟨a,A4,X,c4,rfl,o⟩
 replace l:=hid (l.trans a)
 replace f:=hid (f.ext a)
 replace k:=hid (k.ext a)
 replace b:=hid (b.ext a)
 replace j:=hid (j.ext a)
 clear a
 clear o r I
 unfold Nd.val
 go_upto_region 5 with (first|(refine Great.wpList_allocTo rfl _ rfl (.pointer (some ⟨_,0,none⟩)) (.cells #[.int .i64 0,.string ⟨#[]⟩,.string ⟨#[]⟩,.int .i64 0,.int .i64 0,.int .i64 0,.string ⟨#[]⟩,.slice none 0 0] 37) (by kernel_rfl) ?_)|(refine stE' rfl rfl rfl (e4.d.cells A4 X c4) rfl rfl (cs:=eZ) rfl rfl (by kernel_rfl) ?_))
 have a:=(Ext.refl Z).alloc (.cells ((e4.d.cells A4 X c4)).toArray 37)
 have J:=hid (Blk.of_new Z 37 (e4.d.cells A4 X c4))
 replace l:=hid (l.trans a)
 replace f:=hid (f.ext a)
 replace k:=hid (k.ext a)
 replace b:=hid (b.ext a)
 replace j:=hid (j.ext a)
 clear a
 generalize m:World.alloc _ _=w8
 obtain⟨g4,F⟩:∃g,Z.heap.size=g:=⟨_,rfl⟩
 rw[m,F]at J
 rw[m]at l f k b j
 rw[F]
 clear m F
 clear J
 go_wp2_with (first|(refine ldE rfl rfl _ rfl k rfl ?_))
 refine(jE R Q V c1 w8 f).mono ?_
 rintro _ w9 ⟨rfl,a⟩
 rw[HT.out]
 replace l:=hid (l.trans a)
 replace b:=hid (b.ext a)
 replace j:=hid (j.ext a)
 clear a f k HT
 obtain⟨z0,z1,z2,z3,z4,z5,z6,z7,_⟩:=mid8 j
 go_wp2_with fail
 refine(jE U.whr G.whr.A G.whr.n G.whr.c w9 b.whr).mono ?_
 rintro _ ac ⟨rfl,a⟩
 rw[K.out]
 replace l:=hid (l.trans a)
 replace b:=hid (b.ext a)
 replace j:=hid (j.ext a)
 clear a K z0 z1 z2 z3 z4 z5 z6 z7
 go_wp2_with fail
 refine(u ac (O.ext l)).mono ?_
 rintro _ an ⟨a,B5,k5,rfl,_,o⟩
 replace l:=hid (l.trans a)
 replace b:=hid (b.ext a)
 replace j:=hid (j.ext a)
 clear a
 clear o u
 rw[ad.out]
 have z9:=j.cell_some (i:=9) rfl
 have hn:=b.frm.1
 rw[ag.out]at hn
 unfold Sl.v at z9
 rw[←hn]at z9
 clear hn
 go_wp2_with fail
 go_ret
 exact⟨rfl,l⟩
end
section
open Go Go.RowKit Go.Stop
section
variable {H:Type} {enc:TypeId×Value→H}
theorem handed_and {a:Assume} {C:Checked} {os:Os} {f:FuncId} {l:Func} {s:ChangeSpec} {h:List PathCond} {apart fresh g n:Bool} {X:World→Array Value→Prop}
  (I:∀(w w':World) (args:Array Value),w.heap=w'.heap→X w args→X w' args)
  (own:ownKnob C.prog.godebug=none) (m:os.Started) (q:C.prog.inits.idxOf? f=none) (z:C.prog.funcs[f]? =some l)
  (o:∃(w:World) (tape:Tape) (i:Input),w.os=os∧(w.forCall tape i).Shaped C.prog∧i.vars= []∧Input.okWide C.prog (w.forCall tape i) .any w.heap.size f i∧
   ((s.pre enc C.prog l h apart (w.forCall tape i).memory i.args∧X (w.forCall tape i).memory i.args)∧sizedMet enc C.prog l (OpenSpec.ofChange s) apart (w.forCall tape i).memory i.args)∧a.holds C.prog (lone (Frame.enter C.prog f i.args .normal) [] (w.forCall tape i)))
  (k:∀(W:World) (base:Nat) (args:Array Value) (ds gs:List (DataW H)) (b:List MemPlace),
   (∀(j:Nat) t v,l.params[j]? =some t→args[j]? =some v→Value.okWide C.prog W .any base t v)→
   DataW.Whole enc C.prog l.params.toList s.vars apart W args.toList ds gs b→
   h.all (PathCond.test C.prog ⟨l.params.toList,ds,s.plain.varTypes C.prog,gs⟩)=true→
   (DataW.weightsEach C.prog (l.params.toList++s.plain.varTypes C.prog) (ds++gs)).all (·≤reachBytes)=true→X W args→W.ShapedOpen C.prog→
   a.holds C.prog (lone (Frame.enter C.prog f args .normal) [] W)→
   Calls C.prog f args W fun e G=> ∃v,e= .returned v∧s.post enc C.prog l apart fresh g n W args v G):
  ReturnsInHanded a C os f .any (fun w args=> (s.pre enc C.prog l h apart w args∧X w args)∧sizedMet enc C.prog l (OpenSpec.ofChange s) apart w args) (s.post enc C.prog l apart fresh g n):=by
 refine returnsInHanded_of_calls own m q o ?_
 intro w tape i _ D _ B x p
 obtain⟨_,_,_,E,u,_,_,_,_,r⟩:=B
 have e:E=l:=Option.some.inj (u.symm.trans z)
 subst e
 obtain⟨⟨⟨ds,gs,b,F,J⟩,R⟩,Q⟩:=x
 have y:=DataW.Whole.of_heap (w':=w.forCall tape i) (by rfl) F
 refine(k (w.forCall tape i) w.heap.size i.args ds gs b r y J (Q.weights F) (I _ _ _ (by rfl) R) D p).mono fun e G ⟨v,O,K⟩=>?_
 subst O
 exact ChangeSpec.post_blind K
end
theorem sh_of {W:World} (h:W.ShapedOpen Tryz.prog):Sh W:=
 cell_of_shapedOpen_int (g:=1) (t:=3) (zero:=#[.int .i64 0]) h (by decide) (by kernel_rfl) rfl (by kernel_rfl) (by kernel_rfl) Tryz.underlying3
theorem tyTab:(Tryz.prog.globals[4]?).map (·.type)=some 256:=by kernel_rfl
theorem gSyn:Tryz.prog.globalNamed "strconv.ErrSyntax" =some 2:=by kernel_rfl
theorem gRng:Tryz.prog.globalNamed "strconv.ErrRange" =some 3:=by kernel_rfl
theorem tySyn:(Tryz.prog.globals[2]?).map (·.type)=some 198:=by kernel_rfl
theorem tyRng:(Tryz.prog.globals[3]?).map (·.type)=some 198:=by kernel_rfl
theorem starE: "*" ++ "errors.errorString" = "*errors.errorString" :=by decide
theorem rowE (u:TypeId) (h:Tryz.prog.typeName? 3 u=some "*errors.errorString"):u=260:=
 typeName_ptr_named (nm:= "errors.errorString") (by rw[starE];kernel_rfl) (by kernel_rfl) (by decide) u (by rw[starE];exact h)
theorem kT {x0 x1 j:String×DataW Unit} {r:List (String×DataW Unit)} {W:World}
  (h:laidMet Tryz.prog (x0::x1::("internal/strconv.uint64pow10",Rows.laid_internal_strconv_uint64pow10)::j::("strconv.ErrRange",Rows.laid_strconv_ErrRange)::("strconv.ErrSyntax",Rows.laid_strconv_ErrSyntax)::r) W):Tab W∧Er W:=by
 have f:=h.tail.tail
 have g:=f.tail.tail
 have i:=g.tail
 have a:Lib.TabIs Tryz.prog W "internal/strconv.uint64pow10" .u64 Lib.pow10Tab:=Lib.tabIs_of_head gTab tyTab Tryz.underlying256 Tryz.underlying232 (by kernel_rfl) (by kernel_rfl) f
 obtain⟨k,l,e,_,_,_⟩:=laid_sentinel g gRng tyRng Tryz.underlying198 rowE Tryz.underlying260 Tryz.underlying262 rfl rfl Tryz.underlying9 (by kernel_rfl) (by kernel_rfl)
 obtain⟨n,m,b,_,_,_⟩:=laid_sentinel i gSyn tySyn Tryz.underlying198 rowE Tryz.underlying260 Tryz.underlying262 rfl rfl Tryz.underlying9 (by kernel_rfl) (by kernel_rfl)
 refine⟨⟨a,?_⟩,⟨260,_,by simpa using World.var?_cell gSyn b 0⟩,⟨260,_,by simpa using World.var?_cell gRng e 0⟩⟩
 have:=fT (a.cell gTab 0 (by decide))
 exact this
theorem gKw:Tryz.prog.globalNamed "disjoint/lexer.keywords" =some 0:=by kernel_rfl
theorem tyKw:(Tryz.prog.globals[0]?).map (·.type)=some 101:=by kernel_rfl
def kwData {H:Type} :List (DataW H):=Lx.kwNames.map fun l=> .lit (.string l)
theorem kwData_eq {H:Type} :(Rows.laid_disjoint_lexer_keywords:DataW H)= .slice kwData []:=rfl
theorem spot_none {w:World} {a:Addr} {v:Value} (h:w.cell? a=some v):a.spot=none:=by
 unfold World.cell? at h
 split at h
 ·split at h
  ·cases h
  ·rename_i hs
   cases b:a.spot
   ·rfl
   ·rw[b]at hs;simp at hs
 ·cases h
theorem kw_of {x0:String×DataW Unit} {r:List (String×DataW Unit)} {W:World} (h:laidMet Tryz.prog (x0::("disjoint/lexer.keywords",Rows.laid_disjoint_lexer_keywords)::r) W):Lx.KwAt W:=by
 obtain⟨ps,⟨R,U,cs,C,p,q,o,y,k,hd,_,_⟩,_⟩:=h.tail
 obtain rfl:=Option.some.inj (gKw.symm.trans o)
 obtain rfl:=Option.some.inj (tyKw.symm.trans y)
 rw[kwData_eq]at hd
 obtain⟨a,g,u,_,m⟩:=open_row Tryz.underlying101 (by kernel_rfl) hd
 have I:((kwData:List (DataW Unit))).length=47:=rfl
 have e:∀j,j<47→W.cell? (a.add j)=some (.string (Lx.kwStr j)):=by
  intro j l
  have t:(kwData:List (DataW Unit))[j]? =some (.lit (.string (Lx.kwAt j))):=by
   unfold kwData Lx.kwAt
   rw[List.getElem?_map,List.getD_eq_getElem?_getD,List.getElem?_eq_getElem (show j<Lx.kwNames.length from l)]
   rfl
  obtain⟨v,n,V,G,F⟩:=m j _ t
  obtain⟨s,D,Q,_⟩:=DataW.trod_string Tryz.underlying9 F
  simp only[List.cons.injEq,and_true]at D
  subst D
  rw[G]
  have E:s.data.toList=Lx.kwAt j:=by
   have:=congrArg Prod.fst Q
   simp only[DataW.lit.injEq,Lit.string.injEq]at this
   exact this.symm
  congr 2
  unfold Lx.kwStr
  rw[←E]
 obtain⟨b,f,B⟩:=a
 have z:B=none:=by
  have J:=e 0 (by decide)
  have:=spot_none J
  unfold Addr.add at this
  cases B with
  |none=>rfl
  |some x=>simp at this
 subst z
 refine⟨b,f,g,?_,fun j l=>?_⟩
 ·have O:=World.var?_cell gKw k 0
  rw[O]
  have K:cs= #[Value.slice (some ⟨b,f,none⟩) 47 g]:=by
   apply Array.toList_inj.1
   rw[u,I]
  rw[K]
  rfl
 ·have:=e j l
  have i:(⟨b,f,none⟩:Addr).add j=⟨b,f+j,none⟩:=by unfold Addr.add;split<;>simp_all
  rwa [i]at this
theorem gd_of {x0 x1 a:String×DataW Unit} {r:List (String×DataW Unit)} {W:World} (h:laidMetH Tryz.prog (x0::x1::("internal/strconv.uint64pow10",Rows.laid_internal_strconv_uint64pow10)::a::("strconv.ErrRange",Rows.laid_strconv_ErrRange)::("strconv.ErrSyntax",Rows.laid_strconv_ErrSyntax)::("disjoint/lexer.keywords",Rows.laid_disjoint_lexer_keywords)::r) W)
  (e:laidMetH Tryz.prog (x0::x1::("internal/strconv.uint64pow10",Rows.laid_internal_strconv_uint64pow10)::a::("strconv.ErrRange",Rows.laid_strconv_ErrRange)::("strconv.ErrSyntax",Rows.laid_strconv_ErrSyntax)::("disjoint/lexer.keywords",Rows.laid_disjoint_lexer_keywords)::r) W=laidMet Tryz.prog (x0::x1::("internal/strconv.uint64pow10",Rows.laid_internal_strconv_uint64pow10)::a::("strconv.ErrRange",Rows.laid_strconv_ErrRange)::("strconv.ErrSyntax",Rows.laid_strconv_ErrSyntax)::("disjoint/lexer.keywords",Rows.laid_disjoint_lexer_keywords)::r) W) (hs:W.ShapedOpen Tryz.prog):Pg W:=by
 have b:=e ▸ h
 exact⟨⟨sh_of hs,(kT b).1⟩,(kT b).2,kw_of b.tail.tail.tail.tail.tail⟩
end
end Go.Proofs.YtjigcpfjhfoheaaGreatDoor
