/- Walks: Statement and Expression, over what they call; Walk: Script, over what it calls; Walk: an element of a definition; Walk: CREATE TABLE. -/
import Derived.Test.YtjigcpfjhfoheaaGreatDoorRch
import Derived.Test.YtjigcpfjhfoheaaGreatDoorRca
import Derived.Test.YtjigcpfjhfoheaaGreatDoorRad
import Derived.StillTactics
import Derived.Test.YtjigcpfjhfoheaaGreatDoorRce
import Derived.Test.YtjigcpfjhfoheaaGreatDoorRcf
namespace Go.Proofs.YtjigcpfjhfoheaaGreatDoor
open Go.RowKit
set_option maxHeartbeats 4000000
set_option maxRecDepth 100000
set_option linter.unusedVariables false
set_option linter.unusedSimpArgs false
section
open Lx (Tk)
theorem bD {b:Program} {f:Func} {p q r:Tmp} {ty:TypeId} (h:f.results= #[.cell p ty,.tmp q,.tmp r]) (a:Array Value) (w:World) (g:Nat) (t:TypeId) (cs:Array Value) (i:Nat×Nat) (d:TypeDesc)
  (k:a.getD p undef= .pointer (some ⟨g,0,none⟩)) (j:w.heap[g]? =some (.cells cs t i))
  (l:b.underlying ty=some d) (hd:(match d with| .struct _| .array _ _=>true|_=>false)=true) (hi:(b.info? ty).map (·.size)=some cs.size):
  (results f a).run b w= .ok (.tuple #[.agg cs,a.getD q undef,a.getD r undef]) w:=by
 have e:a[p]?.getD undef= .pointer (some ⟨g,0,none⟩):=by simpa using k
 simp[results,h,e,asAddr,run_loadVar_row w g t ty cs i d j l hd hi]
theorem stE' {ops:Array Oper} {rest:List Oper} {o:Oper} {a:Act} {w:World} {Q:Exit→Act→World→Prop} {x y:Operand} (b:o.guard=none) (i:o.op= .store 37 x y) (hd:o.dst=none) (ds:List Value) (j:a.eval x= .pointer (some ⟨w.heap.size,0,none⟩)) (k:a.eval y= .agg ds.toArray) {cs:List Value} (g:cs.length=8) (e:ds.length=8) (f:ds.toArray.all (·.oneCell')=true)
  (h:wpList Tryz.prog ops Q rest a (w.alloc (.cells ds.toArray 37))):wpList Tryz.prog ops Q (o::rest) a (w.alloc (.cells cs.toArray 37)):=
 wpList_store_rowTo b 37 x y i hd w.heap.size ds.toArray j k 37 cs.toArray (heap_alloc_new w _) (by rw[List.size_toArray,e];kernel_rfl) (by rw[List.size_toArray,List.size_toArray,g,e]) f (by rw[World.setRow_alloc_new];exact h)
theorem kQ {w0 w:World} (h:Ext w0 w) {g:Nat} (b:w0.heap.size≤g) (cs:Array Value):Ext w0 (w.setRow g cs):=h.grown (iB w g cs) fun q a=>by have:=Option.some.inj a;omega
theorem qg {n g:Nat} {w:World} {Φ:World→Prop} (h:Stb (n≤·) w Φ) (b:g<n) (cs:Array Value):Stb (n≤·) (w.setRow g cs) Φ:=h.grown (iB w g cs) fun q a e=>by
 have:=Option.some.inj e
 have a:n≤q:=a
 omega
theorem qh {w:World} {g T:Nat} {cs:List Value} (h:Blk w g T cs):w.setRow g cs.toArray=w:=by
 have e:(w.setRow g cs.toArray).heap=w.heap:=by
  apply Array.ext_getElem?
  intro i
  unfold World.setRow
  simp only
  rw[Array.getElem?_modify]
  split
  ·next e=>subst e;unfold Blk at h;rw[h];rfl
  ·rfl
 cases w
 unfold World.setRow at e ⊢
 simp only at e ⊢
 rw[e]
theorem dT {P:Program} {ops:Array Oper} {w:World} {Q:Act→Prop} {a:Act} {o:Oper} {rest:List Oper} (b:o.guard=none) (ty:TypeId) {x y:Operand} (j:o.op= .store ty x y) (hd:o.dst=none) (g:Nat) (cs:List Value) (k:a.eval x= .pointer (some ⟨g,0,none⟩)) (l:a.eval y= .agg cs.toArray)
  {T:Nat} (e:Blk w g T cs) (hi:(P.info? ty).map (·.size)=some cs.toArray.size) (f:cs.toArray.all (·.oneCell')=true) (h:wpStill P ops w Q rest a):wpStill P ops w Q (o::rest) a:=by
 refine wpStill_step fun K i=>?_
 rw[if_pos (by simp[Region.wanted,b])]
 unfold Oper.still execOp
 simp only[j,k,l,Instr.storeAt,Instr.sureAddr,Sem.run_bind,Sem.run_pure,Result.andThen_ok,run_storeVar_row w g T ty _ _ e hi rfl f,qh e]
 refine⟨rfl,?_⟩
 rw[hd]
 exact i _ h
def triB (cs:List Value):Bool:=(List.range cs.length).all fun i=>match cs[i]?,cs[i+1]?,cs[i+2]? with|some (.int _ _),some (.string _),some (.int _ _)=>false|_,_,_=>true
theorem not_tok {w:World} {b a g T:Nat} {cs:List Value} {o p:IntKind} {m n:Int} {r:ByteArray} (h:Blk w g T cs) (l:triB cs=true) (i:w.cell? ⟨b,a,none⟩=some (.int o m)) (j:w.cell? ⟨b,a+1,none⟩=some (.string r)) (k:w.cell? ⟨b,a+2,none⟩=some (.int p n)):b≠g:=by
 intro e
 subst e
 have c0:=(h.cell a).symm.trans i
 have c1:=(h.cell (a+1)).symm.trans j
 have c2:=(h.cell (a+2)).symm.trans k
 have f:=List.all_eq_true.1 l a (List.mem_range.2 (List.getElem?_eq_some_iff.1 c0).1)
 rw[c0,c1,c2]at f
 cases f
theorem mC (u:World):StW u stZ (hZ none none none 0 0 0 0 0 0):=StW.of (eQ (k:=0) (by unfold I64;omega) (Nat.zero_le _) (Nat.zero_le _)) rfl rfl
theorem oK (i:St→Int) (s:ByteArray) (w:World) (hs:s.size≤20000) (hk:Lx.KwAt w)
  (a7:∀(L:List Tk) (P:Nat) (A:Option Addr) (c:Nat) (W0 W:World),Ext w W0→Lx.tokAll s= .ok L→PsAt 68 P A c L W0 W ⟨L,false⟩→Calls Tryz.prog 29 #[.pointer (some ⟨P,0,none⟩)] W (Ran 68 P A c L W0 W (stmP (L.length+1) ⟨L,false⟩).2 fun v w'=>ElSt W.heap.size w' (stmP (L.length+1) ⟨L,false⟩).1 v))
  (a8:∀(L:List Tk) (a:SA) (W:World),Ext w W→Lx.tokAll s= .ok L→(stmP (L.length+1) ⟨L,false⟩).2.bad=false→StW W (stmP (L.length+1) ⟨L,false⟩).1 a→Calls Tryz.prog 31 #[St.val (stmP (L.length+1) ⟨L,false⟩).1 a] W fun r w'=>r= .returned (.int .i64 (i (stmP (L.length+1) ⟨L,false⟩).1))∧Ext W w'):
  Calls Tryz.prog 13 #[.string s] w fun e w'=>Ext w w'∧∃a,e= .returned (.tuple #[St.val (parS i s).1 a,.int .i64 (parS i s).2.1,.int .i64 (parS i s).2.2])∧Stb (w.heap.size≤·) w' (fun u=>StW u (parS i s).1 a):=by
 have j:∀a x:Nat,Lx.tokAll s= .bad a x→parS i s=(stZ,(a:Int),(x:Int)):=fun a x h=>by unfold parS;rw[h]
 have t:∀L,Lx.tokAll s= .ok L→parS i s=if (endP (stmP (L.length+1) ⟨L,false⟩).2).bad=true then (stZ,((endP (stmP (L.length+1) ⟨L,false⟩).2).hd.pos:Int),2)else if i (stmP (L.length+1) ⟨L,false⟩).1=0 then ((stmP (L.length+1) ⟨L,false⟩).1,0,0)else (stZ,((⟨L,false⟩:Ps).hd.pos:Int),i (stmP (L.length+1) ⟨L,false⟩).1):=fun L h=>by
  unfold parS jG
  rw[h]
  simp only
  cases hb:(endP (stmP (L.length+1) ⟨L,false⟩).2).bad<;>simp[hb]
 obtain⟨R,hR⟩:∃R,parS i s=R:=⟨_,rfl⟩
 rw[hR]at j t ⊢
 have V:=hid a7
 have Z:=hid a8
 replace t:=hid t
 replace j:=hid j
 clear a7 a8 hR
 go_enter Tryz.func13,Tryz.ntmps13
 go_upto_region 1 with fail
 have k:=hid ((Ext.refl w).alloc (.cells #[.int .i64 0,.string ⟨#[]⟩,.slice none 0 0,.slice none 0 0,.slice none 0 0,.slice none 0 0,.slice none 0 0,.slice none 0 0,.slice none 0 0,.slice none 0 0,.int .i64 0,.string ⟨#[]⟩,.string ⟨#[]⟩,.int .i64 0,.int .i64 0,.int .i64 0,.string ⟨#[]⟩,.slice none 0 0,.slice none 0 0,.slice none 0 0,.int .i64 0,.string ⟨#[]⟩] 40))
 have y:=hid (Blk.of_new w 40 sC)
 generalize w.alloc (.cells #[.int .i64 0,.string ⟨#[]⟩,.slice none 0 0,.slice none 0 0,.slice none 0 0,.slice none 0 0,.slice none 0 0,.slice none 0 0,.slice none 0 0,.slice none 0 0,.int .i64 0,.string ⟨#[]⟩,.string ⟨#[]⟩,.int .i64 0,.int .i64 0,.int .i64 0,.string ⟨#[]⟩,.slice none 0 0,.slice none 0 0,.slice none 0 0,.int .i64 0,.string ⟨#[]⟩] 40)=w1 at*
 obtain⟨o,F⟩:∃g,w.heap.size=g:=⟨_,rfl⟩
 have HG:Hid (w.heap.size≤o):=Nat.le_of_eq F
 rw[F]at y ⊢
 have ba:=hid F
 clear F
 go_wp2_with fail
 refine(jZ s w1 hs (hk.ext k)).mono ?_
 rintro _ w2 ⟨H,h|h⟩
 ·obtain⟨a,x,ht,b6,rfl⟩:=h
  have b7:¬((x:Int)=0):=by omega
  have bm:=hid (k.trans H)
  have ag:=hid (y.ext H)
  obtain rfl:=j a x ht
  clear k y H V Z t j ht
  go_wp2_with (first|(refine wpList_buildTo rfl 40 _ rfl _ rfl #[.int .i64 0,.string ⟨#[]⟩,.slice none 0 0,.slice none 0 0,.slice none 0 0,.slice none 0 0,.slice none 0 0,.slice none 0 0,.slice none 0 0,.slice none 0 0,.int .i64 0,.string ⟨#[]⟩,.string ⟨#[]⟩,.int .i64 0,.int .i64 0,.int .i64 0,.string ⟨#[]⟩,.slice none 0 0,.slice none 0 0,.slice none 0 0,.int .i64 0,.string ⟨#[]⟩] (by kernel_rfl) ?_)|(refine stS rfl rfl rfl _ sC rfl rfl ag rfl rfl (by kernel_rfl) ?_))
  refine bodyPost_ret (v:=_) (bD (p:=2) (q:=3) (r:=4) (ty:=40) rfl _ _ o 40 _ _ _ (by rfl) (gq ag sC) Tryz.underlying40 rfl (by kernel_rfl)) rfl ?_
  exact⟨kQ bm HG _,hZ none none none 0 0 0 0 0 0,rfl,fun u _ _=>mC u⟩
 ·obtain⟨L,P,A,c,ht,rfl,hp⟩:=h
  have hL:=iC ht
  have b0:=hL.len
  have n:=hid (t L ht)
  have O:Hid (o<P):=Nat.lt_of_lt_of_le y.lt hp.low
  have ax:Hid (o<w2.heap.size):=Nat.lt_trans O hp.lt
  have HC:=hid (V L P A c w1 w2 k ht hp)
  have z:=hid (fun a W h1 h2 h3=>Z L a W h1 ht h2 h3)
  have bd:=hid hp.lt
  obtain⟨⟨X,s1⟩,hX⟩:∃x,stmP (L.length+1) ⟨L,false⟩=x:=⟨_,rfl⟩
  rw[hX]at HC n z
  simp only at HC n z
  clear hX hp V Z t j H
  go_wp2_with fail
  refine HC.mono ?_
  rintro _ w3 ⟨_,rfl,h1,h2,a1,rfl,h3⟩
  have Q:=hid h1
  have an:=hid h3
  clear h1 h2 h3 HC
  unfold St.val
  go_upto_region 5 with (first|(refine Great.wpList_allocTo rfl _ rfl (.pointer (some ⟨_,0,none⟩)) (.cells #[.int .i64 0,.string ⟨#[]⟩,.slice none 0 0,.slice none 0 0,.slice none 0 0,.slice none 0 0,.slice none 0 0,.slice none 0 0,.slice none 0 0,.slice none 0 0,.int .i64 0,.string ⟨#[]⟩,.string ⟨#[]⟩,.int .i64 0,.int .i64 0,.int .i64 0,.string ⟨#[]⟩,.slice none 0 0,.slice none 0 0,.slice none 0 0,.int .i64 0,.string ⟨#[]⟩] 40) (by kernel_rfl) ?_)|(refine stS' rfl rfl rfl (St.cells X a1) rfl rfl (cs:=sC) rfl rfl (by kernel_rfl) ?_))
  have hx:=(Ext.refl w3).alloc (.cells ((St.cells X a1)).toArray 40)
  have U:=hid (Q.ext hx)
  have J:=hid (Stb.ext an hx)
  have E:=hid (Blk.of_new w3 40 (St.cells X a1))
  have a0:Hid (P<w3.heap.size):=Q.lt
  clear hx Q an
  generalize hw:World.alloc _ _=w4
  rw[hw]at U J E
  obtain⟨g8,a5⟩:∃g,w3.heap.size=g:=⟨_,rfl⟩
  rw[a5]at E a0 ⊢
  clear hw a5
  go_wp2_with fail
  refine(end_any U hL).mono ?_
  rintro _ w5 ⟨_,rfl,h1,h2,_⟩
  have f:=hid h1
  have Y:=hid (h2.blk E (by have:=a0.out;omega))
  have K:=hid (Stb.chg J h2 bd)
  have D:Hid ((endP s1).bad=false→s1.bad=false):=fun h=>by
   unfold endP at h
   split at h
   ·exact h
   ·cases h
  clear h1 h2 U E J
  generalize endP s1=s2 at*
  have C:=hid (y.ext f.base)
  obtain⟨b,cb,hA,hb,c0,c1,c2⟩:=f.cells
  obtain⟨t0,G⟩:∃t0,L[0]? =some t0:=⟨_,List.getElem?_eq_getElem (by have:=f.ne;have:=f.le;omega)⟩
  have be:Hid ((⟨L,false⟩:Ps).hd=t0):=by
   unfold Ps.hd
   cases L with
   |nil=>cases G
   |cons a l=>cases G;rfl
  obtain⟨b9,bY,ac,bn,d0,d1,d2⟩:=f.tks 0 t0 G
  subst hA
  injection ac with ac
  injection ac with e1 e2
  subst e1 e2
  rw[Nat.zero_mul,Nat.add_zero]at d0 d1 d2
  have a4:b≠o:=not_tok C (by rfl) d0 d1 d2
  have bx:¬(o=b):=fun e=>a4 e.symm
  have b1:¬(P=o):=by have:=O.out;omega
  have bw:¬(o=P):=by have:=O.out;omega
  have bN:¬(b=o):=a4
  have b3:0<L.length:=by have:=f.ne;have:=f.le;omega
  have b2:(0:Int)<(L.length:Int):=by have:=f.ne;have:=f.le;omega
  obtain⟨p0,p1,p2,-⟩:=cls f.blk
  have hi:=f.lti
  have b5:=f.ne
  have b4:=f.le
  clear hb c0 c1 d0 d1 bn G
  cases a6:s2.bad
  ·rw[a6]at p2 n D
   have a3:=hid (z a1 w5 (k.trans f.base) (D rfl) K.now)
   rw[if_neg (by simp)]at n
   clear z D
   go_wp2_with (first|(refine ldS rfl rfl _ rfl Y rfl ?_))
   refine a3.mono ?_
   rintro _ w6 ⟨rfl,m⟩
   have a2:=hid (f.ext m)
   have I:=hid (C.ext m)
   have bf:=hid (Y.ext m)
   have a9:=hid (Stb.ext K m)
   replace d2:=m.keep d2
   replace p0:=m.keep p0
   clear a3 m f C Y K p1 p2 c2
   by_cases hv:i X=0
   ·rw[if_pos hv]at n
    rw[hv]
    obtain rfl:R=(X,0,0):=n.out
    clear n d2 p0
    go_wp2_with (first|(refine ldS rfl rfl _ rfl bf rfl ?_)|(refine stS rfl rfl rfl _ (St.cells X a1) rfl rfl I rfl rfl (by kernel_rfl) ?_))
    refine bodyPost_ret (v:=_) (bD (p:=2) (q:=3) (r:=4) (ty:=40) rfl _ _ o 40 _ _ _ (by rfl) (gq I (St.cells X a1)) Tryz.underlying40 rfl (by kernel_rfl)) rfl ?_
    exact⟨kQ (k.trans a2.base) HG _,a1,rfl,(qg a9 ax _).weak fun q _ hq=>by have hq:w2.heap.size≤q:=hq;have:=ax.out;have:=ba.out;show w.heap.size≤q;omega⟩
   ·rw[if_neg hv]at n
    obtain rfl:R=(stZ,((t0.pos:Nat):Int),i X):=by rw[←be.out];exact n
    clear n
    have B:=I.ext (Ext.refl w6).drew
    go_upto_region 10 with fail
    refine wp_region_still_lit (by kernel_rfl) (by kernel_rfl) ?_
    iterate 9 still_step
    refine dT rfl 40 rfl rfl o sC rfl rfl B (by kernel_rfl) (by kernel_rfl) ?_
    iterate 2 still_step
    refine wpStill_nil ?_
    have ad:=(k.trans a2.base).trans (Ext.refl w6).drew
    go_wp2_with fail
    refine bodyPost_ret (v:=_) (bD (p:=2) (q:=3) (r:=4) (ty:=40) rfl _ _ o 40 _ _ _ (by rfl) (B) Tryz.underlying40 rfl (by kernel_rfl)) rfl ?_
    exact⟨ad,hZ none none none 0 0 0 0 0 0,rfl,fun u _ _=>mC u⟩
  ·rw[a6]at p2 n
   rw[if_pos rfl]at n
   obtain rfl:R=(stZ,((s2.hd.pos:Nat):Int),2):=n.out
   clear n z D d2
   have B:=C.ext (Ext.refl w5).drew
   go_upto_region 7 with fail
   refine wp_region_still_lit (by kernel_rfl) (by kernel_rfl) ?_
   iterate 12 still_step
   refine dT rfl 40 rfl rfl o sC rfl rfl B (by kernel_rfl) (by kernel_rfl) ?_
   iterate 2 still_step
   refine wpStill_nil ?_
   have ad:=(k.trans f.base).trans (Ext.refl w5).drew
   go_wp2_with fail
   refine bodyPost_ret (v:=_) (bD (p:=2) (q:=3) (r:=4) (ty:=40) rfl _ _ o 40 _ _ _ (by rfl) (B) Tryz.underlying40 rfl (by kernel_rfl)) rfl ?_
   exact⟨ad,hZ none none none 0 0 0 0 0 0,rfl,fun u _ _=>mC u⟩
theorem mL (i:Ex→Int) (s:ByteArray) (w:World) (hs:s.size≤20000) (hk:Lx.KwAt w)
  (a8:∀(L:List Tk) (P:Nat) (A:Option Addr) (c:Nat) (W0 W:World),Ext w W0→Lx.tokAll s= .ok L→PsAt 68 P A c L W0 W ⟨L,false⟩→Calls Tryz.prog 39 #[.pointer (some ⟨P,0,none⟩)] W (Ran 68 P A c L W0 W (exprP (L.length+1) ⟨L,false⟩).2 fun v w'=>ExG W.heap.size w' (exprP (L.length+1) ⟨L,false⟩).1 v))
  (a9:∀(L:List Tk) (m:Option Addr) (o c1:Nat) (W:World),Ext w W→Lx.tokAll s= .ok L→(exprP (L.length+1) ⟨L,false⟩).2.bad=false→ExV W (exprP (L.length+1) ⟨L,false⟩).1 m o c1→Calls Tryz.prog 40 #[Nd.val (exprP (L.length+1) ⟨L,false⟩).1.d m o c1] W fun r w'=>r= .returned (.int .i64 (i (exprP (L.length+1) ⟨L,false⟩).1))∧Ext W w'):
  Calls Tryz.prog 17 #[.string s] w fun e w'=>Ext w w'∧∃m o c1,e= .returned (.tuple #[Nd.val (parE i s).1.d m o c1,.int .i64 (parE i s).2.1,.int .i64 (parE i s).2.2])∧Stb (w.heap.size≤·) w' (fun u=>ExV u (parE i s).1 m o c1):=by
 have j:∀a x:Nat,Lx.tokAll s= .bad a x→parE i s=(exZ,(a:Int),(x:Int)):=fun a x h=>by unfold parE;rw[h]
 have z:∀L,Lx.tokAll s= .ok L→parE i s=if (endP (exprP (L.length+1) ⟨L,false⟩).2).bad=true then (exZ,((endP (exprP (L.length+1) ⟨L,false⟩).2).hd.pos:Int),2)else if i (exprP (L.length+1) ⟨L,false⟩).1=0 then ((exprP (L.length+1) ⟨L,false⟩).1,0,0)else (exZ,((⟨L,false⟩:Ps).hd.pos:Int),i (exprP (L.length+1) ⟨L,false⟩).1):=fun L h=>by
  unfold parE jG
  rw[h]
  simp only
  cases hb:(endP (exprP (L.length+1) ⟨L,false⟩).2).bad<;>simp[hb]
 obtain⟨R,hR⟩:∃R,parE i s=R:=⟨_,rfl⟩
 rw[hR]at j z ⊢
 have Z:=hid a8
 have ad:=hid a9
 replace z:=hid z
 replace j:=hid j
 clear a8 a9 hR
 go_enter Tryz.func17,Tryz.ntmps17
 go_upto_region 1 with fail
 have k:=hid ((Ext.refl w).alloc (.cells #[.int .i64 0,.string ⟨#[]⟩,.string ⟨#[]⟩,.int .i64 0,.int .i64 0,.int .i64 0,.string ⟨#[]⟩,.slice none 0 0] 37))
 have B:=hid (Blk.of_new w 37 eZ)
 generalize w.alloc (.cells #[.int .i64 0,.string ⟨#[]⟩,.string ⟨#[]⟩,.int .i64 0,.int .i64 0,.int .i64 0,.string ⟨#[]⟩,.slice none 0 0] 37)=w1 at*
 obtain⟨y,H⟩:∃g,w.heap.size=g:=⟨_,rfl⟩
 have HG:Hid (w.heap.size≤y):=Nat.le_of_eq H
 rw[H]at B ⊢
 have bd:=hid H
 clear H
 go_wp2_with fail
 refine(jZ s w1 hs (hk.ext k)).mono ?_
 rintro _ w2 ⟨J,h|h⟩
 ·obtain⟨a,x,ht,b7,rfl⟩:=h
  have cb:¬((x:Int)=0):=by omega
  have bn:=hid (k.trans J)
  have ax:=hid (B.ext J)
  obtain rfl:=j a x ht
  clear k B J Z ad z j ht
  go_wp2_with (first|(refine wpList_buildTo rfl 37 _ rfl _ rfl #[.int .i64 0,.string ⟨#[]⟩,.string ⟨#[]⟩,.int .i64 0,.int .i64 0,.int .i64 0,.string ⟨#[]⟩,.slice none 0 0] (by kernel_rfl) ?_)|(refine stE rfl rfl rfl _ eZ rfl rfl ax rfl rfl (by kernel_rfl) ?_))
  refine bodyPost_ret (v:=_) (bD (p:=2) (q:=3) (r:=4) (ty:=37) rfl _ _ y 37 _ _ _ (by rfl) (gq ax eZ) Tryz.underlying37 rfl (by kernel_rfl)) rfl ?_
  exact⟨kQ bn HG _,none,0,0,rfl,fun u _ _=>fL u⟩
 ·obtain⟨L,P,A,c,ht,rfl,hp⟩:=h
  have hL:=iC ht
  have b1:=hL.len
  have t:=hid (z L ht)
  have U:Hid (y<P):=Nat.lt_of_lt_of_le B.lt hp.low
  have a1:Hid (y<w2.heap.size):=Nat.lt_trans U hp.lt
  have HC:=hid (Z L P A c w1 w2 k ht hp)
  have C:=hid (fun m o c1 W h1 h2 h3=>ad L m o c1 W h1 ht h2 h3)
  have be:=hid hp.lt
  obtain⟨⟨X,s1⟩,hX⟩:∃x,exprP (L.length+1) ⟨L,false⟩=x:=⟨_,rfl⟩
  rw[hX]at HC t C
  simp only at HC t C
  clear hX hp Z ad z j J
  go_wp2_with fail
  refine HC.mono ?_
  rintro _ w3 ⟨_,rfl,h1,h2,m,o,c1,rfl,h3⟩
  have V:=hid h1
  have a0:=hid h3
  clear h1 h2 h3 HC
  unfold Nd.val
  go_upto_region 5 with (first|(refine Great.wpList_allocTo rfl _ rfl (.pointer (some ⟨_,0,none⟩)) (.cells #[.int .i64 0,.string ⟨#[]⟩,.string ⟨#[]⟩,.int .i64 0,.int .i64 0,.int .i64 0,.string ⟨#[]⟩,.slice none 0 0] 37) (by kernel_rfl) ?_)|(refine stE' rfl rfl rfl (X.d.cells m o c1) rfl rfl (cs:=eZ) rfl rfl (by kernel_rfl) ?_))
  have hx:=(Ext.refl w3).alloc (.cells ((X.d.cells m o c1)).toArray 37)
  have Y:=hid (V.ext hx)
  have O:=hid (Stb.ext a0 hx)
  have G:=hid (Blk.of_new w3 37 (X.d.cells m o c1))
  have a2:Hid (P<w3.heap.size):=V.lt
  clear hx V a0
  generalize hw:World.alloc _ _=w4
  rw[hw]at Y O G
  obtain⟨g8,a6⟩:∃g,w3.heap.size=g:=⟨_,rfl⟩
  rw[a6]at G a2 ⊢
  clear hw a6
  go_wp2_with fail
  refine(end_any Y hL).mono ?_
  rintro _ w5 ⟨_,rfl,h1,h2,_⟩
  have f:=hid h1
  have ac:=hid (h2.blk G (by have:=a2.out;omega))
  have Q:=hid (Stb.chg O h2 be)
  have F:Hid ((endP s1).bad=false→s1.bad=false):=fun h=>by
   unfold endP at h
   split at h
   ·exact h
   ·cases h
  clear h1 h2 Y G O
  generalize endP s1=s2 at*
  have E:=hid (B.ext f.base)
  obtain⟨b,cc,hA,hb,c0,c1,c2⟩:=f.cells
  obtain⟨t0,I⟩:∃t0,L[0]? =some t0:=⟨_,List.getElem?_eq_getElem (by have:=f.ne;have:=f.le;omega)⟩
  have bf:Hid ((⟨L,false⟩:Ps).hd=t0):=by
   unfold Ps.hd
   cases L with
   |nil=>cases I
   |cons a l=>cases I;rfl
  obtain⟨b9,b0,ag,bw,d0,d1,d2⟩:=f.tks 0 t0 I
  subst hA
  injection ag with ag
  injection ag with e1 e2
  subst e1 e2
  rw[Nat.zero_mul,Nat.add_zero]at d0 d1 d2
  have a5:b≠y:=not_tok E (by rfl) d0 d1 d2
  have bN:¬(y=b):=fun e=>a5 e.symm
  have b2:¬(P=y):=by have:=U.out;omega
  have bx:¬(y=P):=by have:=U.out;omega
  have bY:¬(b=y):=a5
  have b4:0<L.length:=by have:=f.ne;have:=f.le;omega
  have b3:(0:Int)<(L.length:Int):=by have:=f.ne;have:=f.le;omega
  obtain⟨p0,p1,p2,-⟩:=cls f.blk
  have hi:=f.lti
  have b6:=f.ne
  have b5:=f.le
  clear hb c0 c1 d0 d1 bw I
  cases a7:s2.bad
  ·rw[a7]at p2 t F
   have a4:=hid (C m o c1 w5 (k.trans f.base) (F rfl) Q.now)
   rw[if_neg (by simp)]at t
   clear C F
   go_wp2_with (first|(refine ldE rfl rfl _ rfl ac rfl ?_))
   refine a4.mono ?_
   rintro _ w6 ⟨rfl,n⟩
   have a3:=hid (f.ext n)
   have K:=hid (E.ext n)
   have bm:=hid (ac.ext n)
   have ba:=hid (Stb.ext Q n)
   replace d2:=n.keep d2
   replace p0:=n.keep p0
   clear a4 n f E ac Q p1 p2 c2
   by_cases hv:i X=0
   ·rw[if_pos hv]at t
    rw[hv]
    obtain rfl:R=(X,0,0):=t.out
    clear t d2 p0
    go_wp2_with (first|(refine ldE rfl rfl _ rfl bm rfl ?_)|(refine stE rfl rfl rfl _ (X.d.cells m o c1) rfl rfl K rfl rfl (by kernel_rfl) ?_))
    refine bodyPost_ret (v:=_) (bD (p:=2) (q:=3) (r:=4) (ty:=37) rfl _ _ y 37 _ _ _ (by rfl) (gq K (X.d.cells m o c1)) Tryz.underlying37 rfl (by kernel_rfl)) rfl ?_
    exact⟨kQ (k.trans a3.base) HG _,m,o,c1,rfl,(qg ba a1 _).weak fun q _ hq=>by have hq:w2.heap.size≤q:=hq;have:=a1.out;have:=bd.out;show w.heap.size≤q;omega⟩
   ·rw[if_neg hv]at t
    obtain rfl:R=(exZ,((t0.pos:Nat):Int),i X):=by rw[←bf.out];exact t
    clear t
    have D:=K.ext (Ext.refl w6).drew
    go_upto_region 10 with fail
    refine wp_region_still_lit (by kernel_rfl) (by kernel_rfl) ?_
    iterate 9 still_step
    refine dT rfl 37 rfl rfl y eZ rfl rfl D (by kernel_rfl) (by kernel_rfl) ?_
    iterate 2 still_step
    refine wpStill_nil ?_
    have an:=(k.trans a3.base).trans (Ext.refl w6).drew
    go_wp2_with fail
    refine bodyPost_ret (v:=_) (bD (p:=2) (q:=3) (r:=4) (ty:=37) rfl _ _ y 37 _ _ _ (by rfl) (D) Tryz.underlying37 rfl (by kernel_rfl)) rfl ?_
    exact⟨an,none,0,0,rfl,fun u _ _=>fL u⟩
  ·rw[a7]at p2 t
   rw[if_pos rfl]at t
   obtain rfl:R=(exZ,((s2.hd.pos:Nat):Int),2):=t.out
   clear t C F d2
   have D:=E.ext (Ext.refl w5).drew
   go_upto_region 7 with fail
   refine wp_region_still_lit (by kernel_rfl) (by kernel_rfl) ?_
   iterate 12 still_step
   refine dT rfl 37 rfl rfl y eZ rfl rfl D (by kernel_rfl) (by kernel_rfl) ?_
   iterate 2 still_step
   refine wpStill_nil ?_
   have an:=(k.trans f.base).trans (Ext.refl w5).drew
   go_wp2_with fail
   refine bodyPost_ret (v:=_) (bD (p:=2) (q:=3) (r:=4) (ty:=37) rfl _ _ y 37 _ _ _ (by rfl) (D) Tryz.underlying37 rfl (by kernel_rfl)) rfl ?_
   exact⟨an,none,0,0,rfl,fun u _ _=>fL u⟩
end
section
open Lx (Tk)
theorem qi:(Tryz.prog.info? 40).map (fun i=> (i.zero,i.size,i.bytes))=some (some (.agg #[.int .i64 0,.string ⟨#[]⟩,.slice none 0 0,.slice none 0 0,.slice none 0 0,.slice none 0 0,.slice none 0 0,.slice none 0 0,.slice none 0 0,.slice none 0 0,.int .i64 0,.string ⟨#[]⟩,.string ⟨#[]⟩,.int .i64 0,.int .i64 0,.int .i64 0,.string ⟨#[]⟩,.slice none 0 0,.slice none 0 0,.slice none 0 0,.int .i64 0,.string ⟨#[]⟩]),22,392):=by kernel_rfl
def Phist (x:St) (cs:List Value) (w:World):Prop:=∃a,cs=x.cells a∧StW w x a
theorem bsS {ops:Array Oper} {rest:List Oper} {o:Oper} {a:Act} {w:World} {Q:Exit→Act→World→Prop} {x:Operand} (f:o.guard=none) (j:o.op= .buildSlice 49 1 #[(0,x)]) (X:St) (b:SA) (k:a.eval x= .agg (X.cells b).toArray)
  (h:wpList Tryz.prog ops Q rest (a.put o.dst (.slice (some ⟨w.heap.size,0,none⟩) 1 1)) (w.alloc (.cells (X.cells b).toArray 40))):wpList Tryz.prog ops Q (o::rest) a w:=by
 obtain⟨l,g,i,e,m⟩:=oC qi
 refine wpList_buildSlice f _ 40 1 _ j _ l _ rfl g i (by rw[e];decide) (by rw[e];decide) ?_ h
 rw[e]
 simp only[List.map_toArray,List.map_cons,List.map_nil,k]
 kernel_rfl
theorem gp.nil {α:Type} {Φ:α→List Value→World→Prop} {T e b:Nat} {w:World} :gp Φ T e b w (.slice none 0 0) [] []:=⟨rfl,by simp,⟨by simp,.inl ⟨rfl,rfl⟩⟩,fun i a cs h=>by simp at h⟩
theorem readsN (w:World) (cs:List Value) (e:TypeId) (k:Nat) (b:cs.length=k):Reads (w.alloc (.cells cs.toArray e)) (w.heap.size+1) k (some ⟨w.heap.size,0,none⟩) 1 cs:=
 ⟨by simp[b],fun _=>⟨_,rfl,Nat.lt_succ_self _,fun j u f=>by
  have a:(⟨w.heap.size,0,none⟩:Addr).add j=⟨w.heap.size,0+j,none⟩:=by unfold Addr.add;split<;>simp_all
  rw[a,Nat.zero_add]
  exact(Blk.of_new w e cs).cell_some f⟩⟩
theorem st_one (X:St) (a:SA):∀u∈X.cells a,u.oneCell'=true:=List.all_eq_true.1 (by rfl:(X.cells a).all (·.oneCell')=true)
theorem rb (a:M St) (b:St→Int) (n:Nat) (out:List St) (s:Ps):mR a b (n+1) out s=if s.hd.kind=0 then .inr out
  else if (needP iY (a s).2).bad=true then .inl ((needP iY (a s).2).hd.pos,2)
  else if b (a s).1≠0 then .inl (s.hd.pos,b (a s).1)
  else mR a b n (out++ [(a s).1]) (needP iY (a s).2):=rfl
theorem need_ok {t:ByteArray} {s:Ps} (h:(needP t s).bad=false):s.bad=false∧(needP t s).r.length<s.r.length:=by
 unfold needP at h ⊢
 split at h
 ·next h1=>
  rw[if_pos h1]
  exact⟨(cu h1).1,by have:=ay h1;omega⟩
 ·cases h
def lOf:((Nat×Int) ⊕ List St)→List St×Int×Int
 | .inl q=> ([],(q.1:Int),q.2)
 | .inr l=> (l,0,0)
theorem script_fn (f:St→Int) (s:ByteArray) (w:World) (hs:s.size≤20000) (hk:Lx.KwAt w)
  (an:∀(L:List Tk) (P:Nat) (A:Option Addr) (c:Nat) (W:World) (st:Ps),Lx.tokAll s= .ok L→PsAt 68 P A c L w W st→Calls Tryz.prog 29 #[.pointer (some ⟨P,0,none⟩)] W (Ran 68 P A c L w W (stmP (L.length+1) st).2 fun v w'=>ElSt W.heap.size w' (stmP (L.length+1) st).1 v))
  (ci:∀(L:List Tk) (st:Ps) (a:SA) (W:World),Ext w W→Lx.tokAll s= .ok L→st.r=L.drop (L.length-st.r.length)→st.bad=false→(stmP (L.length+1) st).2.bad=false→StW W (stmP (L.length+1) st).1 a→Calls Tryz.prog 31 #[St.val (stmP (L.length+1) st).1 a] W fun r w'=>r= .returned (.int .i64 (f (stmP (L.length+1) st).1))∧Ext W w'):
  Calls Tryz.prog 20 #[.string s] w fun e w'=>Ext w w'∧∃B k,e= .returned (.tuple #[.slice B (parL f s).1.length k,.int .i64 (parL f s).2.1,.int .i64 (parL f s).2.2])∧(parL f s).1.length≤20001∧Stb (w.heap.size≤·) w' (fun u=>Lst Phist 22 u B (parL f s).1):=by
 have i:∀a x:Nat,Lx.tokAll s= .bad a x→parL f s=([],(a:Int),(x:Int)):=fun a x h=>by unfold parL;rw[h]
 have G:∀L,Lx.tokAll s= .ok L→parL f s=lOf (mR (stmP (L.length+1)) f (L.length+1) [] ⟨L,false⟩):=fun L h=>by
  unfold parL lOf
  rw[h]
  rfl
 obtain⟨R,hR⟩:∃R,parL f s=R:=⟨_,rfl⟩
 rw[hR]at i G ⊢
 obtain⟨ie,c7,c4,c5,c6⟩:=oC qi
 have bf:=hid an
 have bn:=hid ci
 replace G:=hid G
 replace i:=hid i
 clear an ci hR
 go_enter Tryz.func20,Tryz.ntmps20
 go_wp2_with fail
 refine(jZ s w hs hk).mono ?_
 rintro _ J ⟨b3,h|h⟩
 ·obtain⟨a,x,ht,d8,rfl⟩:=h
  have d9:¬((x:Int)=0):=by omega
  obtain rfl:=i a x ht
  clear bf bn G i ht
  go_wp2_with fail
  go_ret3
  exact⟨b3,none,⟨0,rfl⟩,fun u _ _=>dS⟩
 ·obtain⟨L,P,A,c,ht,rfl,hp⟩:=h
  have hL:=iC ht
  have d2:=hL.len
  have HR:=hid (G L ht)
  have HC:=hid (fun W st=>bf L P A c W st ht)
  have bw:=hid (fun st a W D=>bn L st a W D ht)
  have a8:=hid hp.lt
  have cH:Hid (w.heap.size≤J.heap.size):=b3.size
  have b9:=hid hp
  clear hp bf bn G i b3
  go_upto_region 5 with fail
  go_loopw [8] (fun vv wr=> ∃(m:Nat) (st:Ps) (l:List St) (cb:List (List Value)),st.r.length<m∧l.length+st.r.length≤L.length+1∧st.bad=false∧R=lOf (mR (stmP (L.length+1)) f m l st)∧J.heap.size≤wr.heap.size∧PsAt 68 P A c L w wr st∧gp Phist 40 22 J.heap.size wr vv l cb) (fun _ wr=>20001-posOf P wr)
  case atStart=>exact⟨_,⟨L,false⟩,[],[],by simp,by simp,rfl,HR,Nat.le_refl _,b9,gp.nil⟩
  case round=>
   obtain⟨m,st,l,cb,hm,d6,bY,hI,ck,H,a5⟩:=hrel
   obtain⟨m,rfl⟩:∃x,m=x+1:=⟨m-1,by omega⟩
   rw[rb]at hI
   have y:=hid hI
   have n:=hid a5
   have K:=hid H
   have cp:Hid (posOf P wr=L.length-st.r.length):=H.posOf
   have ds:=H.le
   have dx:=H.ne
   have cd:=hid H.suf
   clear hI a5 H HR b9
   generalize wr=ee at*
   go_wp2_with fail
   refine(jh K hL 0).mono ?_
   rintro _ p ⟨rfl,hx⟩
   replace K:=hid (K.ext hx)
   replace n:=hid (n.ext hx)
   have a6:J.heap.size≤p.heap.size:=Nat.le_trans ck hx.size
   clear hx ck
   cases F:hasK 0 st
   ·have bN:¬st.hd.kind=0:=fun e=>by unfold hasK at F;rw[bY,e]at F;cases F
    rw[if_neg bN]at y
    obtain⟨⟨X,s1⟩,hX⟩:∃x,stmP (L.length+1) st=x:=⟨_,rfl⟩
    have d3:s1.r.length≤st.r.length:=by
     obtain⟨B,D,_⟩:=(rdy_stm (L.length+1)).sfx st
     rw[hX]at D
     have E:=congrArg List.length D
     simp only[List.length_append]at E
     omega
    have ac:=hid (fun W h=>HC W st h)
    have C:=hid (fun a W D E=>bw st a W D cd bY E)
    rw[hX]at y ac C
    simp only at y ac C
    clear hX HC bw
    obtain⟨b,eb,hA,hb,c0,c1,c2⟩:=K.cells
    subst hA
    obtain⟨p0,p1,-⟩:=cls K.blk
    have hi:=K.lti
    have d4:L.length-st.r.length<L.length:=by omega
    replace K:=hid (K.ext (Ext.refl p).drew)
    replace n:=hid (n.ext (Ext.refl p).drew)
    go_upto_region 6 with fail
    refine wp_region_still_lit (by kernel_rfl) (by kernel_rfl) ?_
    iterate 12 still_step
    refine wpStill_nil ?_
    clear hb c0 c1 c2 p0 p1 hi
    have a3:Hid (J.heap.size≤p.drew.heap.size):=a6
    clear a6
    have cj:({ p with drawn:=p.drawn+1 } :World)=p.drew:=rfl
    rw[cj]
    clear cj
    generalize p.drew=cl at*
    go_wp2_with fail
    refine(ac cl K).mono ?_
    have cw:=hid K.lt
    have cv:=hid (fun q hq=> (n.own.lt q hq).2)
    rintro _ w3 ⟨_,rfl,D,E,z,rfl,h3⟩
    have V:=hid D
    have O:=hid h3
    have b5:Hid (P<w3.heap.size):=D.lt
    have o:=hid (n.chg E a8)
    have a9:Hid (J.heap.size≤w3.heap.size):=Nat.le_trans a3 E.size
    clear D E h3 ac n K
    unfold St.val
    go_upto_region 8 with (first|(refine Great.wpList_allocTo rfl _ rfl (.pointer (some ⟨_,0,none⟩)) (.cells #[.int .i64 0,.string ⟨#[]⟩,.slice none 0 0,.slice none 0 0,.slice none 0 0,.slice none 0 0,.slice none 0 0,.slice none 0 0,.slice none 0 0,.slice none 0 0,.int .i64 0,.string ⟨#[]⟩,.string ⟨#[]⟩,.int .i64 0,.int .i64 0,.int .i64 0,.string ⟨#[]⟩,.slice none 0 0,.slice none 0 0,.slice none 0 0,.int .i64 0,.string ⟨#[]⟩] 40) (by kernel_rfl) ?_)|(refine stS' rfl rfl rfl (St.cells X z) rfl rfl (cs:=sC) rfl rfl (by kernel_rfl) ?_))
    have hx:=(Ext.refl w3).alloc (.cells ((St.cells X z)).toArray 40)
    replace V:=hid (V.ext hx)
    replace O:=hid (Stb.ext O hx)
    replace o:=hid (o.ext hx)
    have ad:=hid (Blk.of_new w3 40 (St.cells X z))
    have Q:Hid (J.heap.size≤(w3.alloc (.cells ((St.cells X z)).toArray 40)).heap.size):=Nat.le_trans a9 hx.size
    clear hx
    generalize hw:World.alloc _ _=w4
    rw[hw]at Q V O ad o
    obtain⟨g8,cc⟩:∃g,w3.heap.size=g:=⟨_,rfl⟩
    rw[cc]at ad b5 ⊢
    clear hw cc
    go_wp2_with fail
    refine(pneed V hL iY).mono ?_
    rintro _ w5 ⟨_,rfl,D,E⟩
    have j:=hid D
    have bm:=hid (E.blk ad (by have:=b5.out;omega))
    have a7:=hid (Stb.chg O E cw)
    have ax:=hid (o.chg E a8)
    have ba:Hid (J.heap.size≤w5.heap.size):=Nat.le_trans Q E.size
    clear D E V ad O o
    have c9:=need_ok (t:=iY) (s:=s1)
    generalize needP iY s1=s2 at*
    obtain⟨b2,d1,hA,hb,c0,c1,c2⟩:=j.cells
    injection hA with hA
    injection hA with e1 e2
    subst e1 e2
    obtain⟨p0,p1,p2,-⟩:=cls j.blk
    have hi:=j.lti
    have d0:=j.ne
    have dw:=j.le
    have d5:L.length-s2.r.length<L.length:=by omega
    cases ag:s2.bad
    ·rw[ag]at p2 y
     rw[if_neg (by simp)]at y
     obtain⟨c8,d7⟩:=c9 ag
     replace C:=hid (C z w5 j.base c8 a7.now)
     go_wp2_with (first|(refine ldS rfl rfl _ rfl bm rfl ?_))
     refine C.mono ?_
     rintro _ w6 ⟨rfl,I⟩
     have be:=hid (j.ext I)
     have cz:=hid (bm.ext I)
     have b4:=hid (Stb.ext a7 I)
     have a0:=hid (ax.ext I)
     have bd:Hid (J.heap.size≤w6.heap.size):=Nat.le_trans ba I.size
     clear C I j bm a7 ax p0 p1 p2 c0 c1 c2 hi hb
     by_cases hv:f X=0
     ·rw[if_neg (by simp[hv])]at y
      rw[hv]
      have Z:=(Ext.refl w6).alloc (.cells ((St.cells X z)).toArray 40)
      have cx:=hid (be.ext Z)
      have U:=hid (a0.ext Z)
      have a4:Stb (fun q=>J.heap.size≤q∧u8.ownBlock≠some q) (w6.alloc (.cells ((St.cells X z)).toArray 40)) (Phist X (St.cells X z)):=Stb.ext ((b4.weak fun q hq hn=>⟨Nat.le_trans a3 hn,fun e=>by
       have:=cv q e
       have hn:cl.heap.size≤q:=hn
       omega⟩).imp fun u h=>⟨z,rfl,h⟩) Z
      have b6:=hid a4
      have a2:Hid (J.heap.size≤(w6.alloc (.cells ((St.cells X z)).toArray 40)).heap.size):=Nat.le_trans bd Z.size
      clear a4 Z a0 b4 be
      go_wp2_with (first|(at_builtin;refine wpList_append_any _ rfl (.tmp 62) (.tmp 64) 49 rfl J.heap.size 40 ie _ 22 392 Tryz.underlying49 c7 c4 c5 c6 rfl (by decide) _ l.length _ rfl U.out.own _ _ 1 1 (St.cells X z) rfl (readsN w6 (St.cells X z) 40 22 rfl) (st_one X z) (by unfold maxLen;omega) (by omega) a2.out ?_;intro v7 w7 b0 Y bx)|(refine ldS rfl rfl _ rfl cz.out rfl ?_)|(refine bsS rfl rfl X z rfl ?_))
      have b1:=U.push rfl b0 Y bx b6
      have c3:∀q,u8.ownBlock=some q→J.heap.size≤q:=fun q hq=> (U.own.lt q hq).1
      have b7:=hid (cx.grown Y (fun q hq=>Nat.lt_of_lt_of_le a8 (c3 q hq)))
      exact⟨⟨m,s2,_,_,by omega,by rw[List.length_append,List.length_singleton];omega,ag,y,Nat.le_trans a2 (World.grownBy.size Y),b7,b1⟩,by rw[b7.out.posOf,cp.out];omega⟩
     ·rw[if_pos hv]at y
      obtain rfl:R=([],((st.hd.pos:Nat):Int),f X):=y.out
      go_wp2_with fail
      go_ret3
      exact⟨be.base,none,⟨0,rfl⟩,fun u _ _=>dS⟩
    ·rw[ag]at p2 y
     rw[if_pos rfl]at y
     obtain rfl:R=([],((s2.hd.pos:Nat):Int),2):=y.out
     go_upto_region 10 with fail
     refine wp_region_still_lit (by kernel_rfl) (by kernel_rfl) ?_
     iterate 14 still_step
     refine wpStill_nil ?_
     have df:=j.base.trans (Ext.refl w5).drew
     go_wp2_with fail
     go_ret3
     exact⟨df,none,⟨0,rfl⟩,fun u _ _=>dS⟩
   ·have bN:st.hd.kind=0:=by unfold hasK at F;rw[bY]at F;simpa using F
    rw[if_pos bN]at y
    obtain⟨B,k,hv,an⟩:=n.fin
    subst hv
    obtain rfl:R=(l,0,0):=y.out
    clear y HC bw
    go_wp2_with fail
    go_ret3
    exact⟨K.base,B,⟨k,rfl⟩,by show l.length≤_;omega,an.weak fun q _ hq=>Nat.le_trans cH hq⟩
end
section
open Lx (Tk)
abbrev DV (n0 gs M:Nat) (V:List Vb) (tb:ByteArray) (d:Df) (l:List ByteArray) (v1 v2 v3 v4:Value) (x1 x2 x3 x4:List Value):List Vb:=
 ow n0 99 6 v1 d.cols.length x1::ow n0 101 1 v2 d.keys.length x2::ow n0 103 3 v3 d.frs.length x3::ow n0 37 8 v4 d.chk.length x4::mp M l::bk gs 40 (.int .i64 1:: .string tb::v1::v2::v3::v4::zS.drop 6)::V
abbrev DP (d:Df) (x1 x2 x3 x4:List Value) (u:World):Prop:=Els oE 6 d.cols x1 u∧Els Phikey 1 d.keys x2 u∧Els Phifrn 3 d.frs x3 u∧Els Phiex 8 d.chk x4 u
def DfE (P:Nat) (A:Option Addr) (c:Nat) (L:List Tk) (w0 wi:World) (gs M:Nat) (V:List Vb) (tb:ByteArray) (w:World) (s:Ps) (d:Df) (l:List ByteArray):Prop:=
 ∃v1 v2 v3 v4 x1 x2 x3 x4,En 68 P A c L w0 wi w s (DV wi.heap.size gs M V tb d l v1 v2 v3 v4 x1 x2 x3 x4) (DP d x1 x2 x3 x4)
section
variable {P c:Nat} {A:Option Addr} {L:List Tk} {w0 wi w:World} {s:Ps}
theorem mD {n:Nat} {ex:M Ex} (hr:Rdr 68 P A c L w0 n 39 ex) (hn:s.r.length<n) (hE:Er w0) (m:TkL L) {gs M:Nat} {V:List Vb} {tb:ByteArray} {d:Df} {l:List ByteArray} (hb:d.cols.length≤1000000∧d.keys.length≤1000000∧d.frs.length≤1000000∧d.chk.length≤1000000∧l.length≤1000000000)
  (E:DfE P A c L w0 wi gs M V tb w s d l):Calls Tryz.prog 99 #[.pointer (some ⟨P,0,none⟩),.pointer (some ⟨gs,2,none⟩),.map (some M)] w fun e w'=>e= .returned (.tuple #[])∧DfE P A c L w0 wi gs M V tb w' (elemP ex d l s).2 (elemP ex d l s).1.1 (elemP ex d l s).1.2:=by
 obtain⟨v1,v2,v3,v4,x1,x2,x3,x4,E⟩:=E
 obtain⟨a3,a4,a5,a6,a7⟩:=hb
 have a:Hid (elemP ex d l s=if isS ei s=true then (({ d with keys:=d.keys++ [(namesP (needP kKEY s.next)).1] },l++(namesP (needP kKEY s.next)).1),(namesP (needP kKEY s.next)).2)else if isS ft s=true then (({ d with keys:=d.keys++ [(namesP s.next).1] },l),(namesP s.next).2)else if isS jD s=true then (({ d with chk:=d.chk++ [(ex (needP yLp s.next)).1] },l),needP yRp (ex (needP yLp s.next)).2)else if isS fV s=true then (({ d with frs:=d.frs++ [(refP (needP kKEY s.next)).1] },l),(refP (needP kKEY s.next)).2)else (({ d with cols:=d.cols++ [(fQ s).1] },l),(fQ s).2)):=rfl
 obtain⟨R,hR⟩:∃R,elemP ex d l s=R:=⟨_,rfl⟩
 rw[hR]at a ⊢
 clear hR
 go_enter Tryz.func99,Tryz.ntmps99
 go_wp2_with (first|(go_at_call 53;refine E.tk m ei rfl (fun X u E=>?_) (fun X u E=>?_))|(go_at_call 53;refine E.tk m ft rfl (fun h2 u E=>?_) (fun h2 u E=>?_))|(go_at_call 53;refine E.tk m jD rfl (fun h3 u E=>?_) (fun h3 u E=>?_))|(go_at_call 53;refine E.tk m fV rfl (fun h4 u E=>?_) (fun h4 u E=>?_)))
 ·rw[X,if_pos rfl]at a
  go_wp2_with (first|(go_at_call 44;refine E.nd m kKEY rfl rfl fun v u E=>?_)|(refine E.nms m fun B k u Y E=>?_))
  obtain⟨⟨ks,s1⟩,I⟩:∃x,namesP (needP kKEY s.next)=x:=⟨_,rfl⟩
  rw[I]at a Y E ⊢
  simp only at a Y E ⊢
  clear I
  have a9:(0:Int)≤(ks.length:Int):=by omega
  go_loopw [31] (fun iv wr=> ∃j:Nat,j≤ks.length∧iv= .int .i64 j∧En 68 P A c L w0 wi wr s1 (DV wi.heap.size gs M V tb d (l++ks.take j) v1 v2 v3 v4 x1 x2 x3 x4) (fun u=>DP d x1 x2 x3 x4 u∧aM u B ks)) (fun i _=>ks.length- (intOf i).toNat)
  case atStart=>exact⟨0,Nat.zero_le _,rfl,by simpa using E⟩
  case round=>
   clear E
   obtain⟨j,hj,rfl,E⟩:=hrel
   by_cases ad:j<ks.length
   ·obtain⟨hz,b,be,rfl,p⟩:=E.stb.now.2 j _ (List.getElem?_eq_getElem ad)
    have i0:(0:Int)≤(j:Int):=by omega
    have i1:(j:Int)<(ks.length:Int):=by omega
    have ag:=hid hz
    go_wp2_with (refine E.mput (j:=4) rfl rfl rfl Tryz.underlying134 rfl (by rw[List.length_append,List.length_take];omega) ks[j] ag rfl rfl fun u E=>?_)
    exact⟨⟨j+1,by omega,by go_num,by rw[List.take_add_one,List.getElem?_eq_getElem ad,←List.append_assoc];exact E⟩,by simp[intOf];omega⟩
   ·obtain rfl:j=ks.length:=by omega
    rw[List.take_length]at E
    have a8:([.slice B ks.length k]:List Value).length=1:=rfl
    go_wp2_with (first|(refine E.l1 (j:=5) rfl rfl rfl rfl rfl (by kernel_rfl) ?_)|(at_builtin;refine E.ap ks ap_key (j:=1) rfl rfl rfl rfl rfl rfl rfl (by simp[Value.oneCell']) (by omega) fun f D c' u z E=>?_)|(refine E.sm (j:=5) rfl rfl rfl rfl rfl (by first|exact cA rfl|exact cS rfl|exact cI rfl|exact cL rfl|exact cB rfl) (by kernel_rfl) (by kernel_rfl) (by kernel_rfl) fun u E=>?_))
    obtain rfl:=z.out
    rw[a.out]
    exact bodyPost_end (v:= .tuple #[]) (by simp[results,Tryz.results99,go_sem]) rfl ⟨rfl,_,_,_,_,_,_,_,_,E.imp fun u h=>⟨h.1.1,Els.snoc h.1.2.1 rfl ⟨B,k,rfl,Y,h.2⟩,h.1.2.2⟩⟩
 ·rw[X,if_neg (by simp),h2,if_pos rfl]at a
  obtain⟨⟨ks,s1⟩,I⟩:∃x,namesP s.next=x:=⟨_,rfl⟩
  rw[I]at a
  simp only at a
  have U:=(E.get (j:=5) rfl).cell_some (i:=3) rfl
  replace E:=hid (E.ext (Ext.refl _).drew)
  have z2:=(E.get (j:=5) rfl).cell_some (i:=3) rfl
  go_upto_region 11 with fail
  go_region_law (first
   |(refine E.aps ks ap_key (j:=1) rfl rfl rfl rfl rfl rfl rfl (by simp[Value.oneCell']) (by omega) fun f D c' u z E=>?_;have z9:=(E.get (j:=5) rfl).cell_some (i:=3) rfl;have Z:=(E.get (j:=5) rfl).frozen 3;replace E:=hid E)
   |(go_simp;(go_at_call 176;have p:=nB E.ps m;rw[I]at p;(with_reducible refine p.mono ?_);rintro _ Q ⟨v,rfl,F,G,B,k,rfl,Y,H⟩;replace E:=hid (E.calls F G H);have HK:=hid Y;clear F G H Y p);have W:=(E.get (j:=5) rfl).cell_some (i:=3) rfl;have z4:=fun o=> ((Ext.refl Q).alloc o).keep W))
  all_goals
   replace E:=E.set (j:=5) rfl 3 (.slice D f.length c')
   go_wp2_with fail
   obtain rfl:=z.out
   rw[a.out]
   exact bodyPost_end (v:= .tuple #[]) (by simp[results,Tryz.results99,go_sem]) rfl ⟨rfl,_,_,_,_,_,_,_,_,E.imp fun u h=>⟨h.1.1,Els.snoc h.1.2.1 rfl ⟨B,k,rfl,HK,h.2⟩,h.1.2.2⟩⟩
 ·rw[X,if_neg (by simp),h2,if_neg (by simp),h3,if_pos rfl]at a
  have ba:=ay h3
  have a1:=aF yLp s.next
  go_upto_region 14 with (go_at_call 44;refine E.nd m yLp rfl rfl fun v u E=>?_)
  obtain⟨s2,a2⟩:∃x,needP yLp s.next=x:=⟨_,rfl⟩
  obtain⟨⟨y,s3⟩,hy⟩:∃x,ex s2=x:=⟨_,rfl⟩
  rw[a2]at a E a1
  rw[hy]at a
  simp only at a
  have C:=(E.own (j:=3) rfl).1
  obtain⟨ax,cx,rfl⟩:=fk (E.own (j:=3) rfl)
  have bd:(0:Int)≤(d.chk.length:Int):=by omega
  go_cut [] from 68 to 79 (fun wx=> ∃(f:List Ex) (D:Option Addr) (c':Nat) (B:Option Addr) (k c2:Nat),f=d.chk++ [y]∧En 68 P A c L w0 wi wx s3 (DV wi.heap.size gs M V tb { d with chk:=f } l v1 v2 v3 (.slice D f.length c') x1 x2 x3 (x4++y.d.cells B k c2)) (fun u=>DP d x1 x2 x3 x4 u∧ExV u y B k c2))
  case first=>
   have U:=(E.get (j:=5) rfl).cell_some (i:=5) rfl
   have E0:=hid E
   replace E:=hid (E.ext (Ext.refl _).drew)
   have z2:=(E.get (j:=5) rfl).cell_some (i:=5) rfl
   have bf:=fun o=> ((Ext.refl u.drew).alloc o).keep z2
   have z5:=fun o=> ((Ext.refl u).alloc o).keep U
   have z6:=fun o=> ((Ext.refl u).alloc o).drew.keep U
   go_region_law (first
    |(refine E.aps y ap_ex (j:=3) rfl rfl rfl rfl rfl rfl rfl (by simp[Value.oneCell']) (by omega) fun f D c' u z E=>?_;have ib:=snoc_lt z;obtain⟨g7,rfl⟩:=oD (E.own (j:=3) rfl) (by omega);replace E:=hid E;first|(obtain⟨⟨e0,e1,e2,e3,e4,e5,e6,e7⟩,⟨f0,f1,f2,f3,f4,f5,f6,f7⟩,n1,n2⟩:=E.last8 (j:=3) (k:=5) rfl C rfl (by decide);have z9:=(E.get (j:=5) rfl).cell_some (i:=5) rfl;have Z:=(E.get (j:=5) rfl).frozen 5)|skip)
    |(refine E.apBs y ap_ex (j:=4) (jb:=0) rfl rfl rfl rfl rfl rfl rfl (by simp[Value.oneCell']) (by omega) fun f D c' u z E=>?_;replace E:=E.pop;have ib:=snoc_lt z;obtain⟨g7,rfl⟩:=oD (E.own (j:=3) rfl) (by omega);replace E:=hid E;first|(obtain⟨⟨e0,e1,e2,e3,e4,e5,e6,e7⟩,⟨f0,f1,f2,f3,f4,f5,f6,f7⟩,n1,n2⟩:=E.last8 (j:=3) (k:=5) rfl C rfl (by decide);have z9:=(E.get (j:=5) rfl).cell_some (i:=5) rfl;have Z:=(E.get (j:=5) rfl).frozen 5)|skip)
    |(go_simp;go_at_call 39;obtain⟨y5,s5,J,p⟩:=hr.at_ E.ps (by omega);cases hy.symm.trans J;(with_reducible refine p.mono ?_);rintro _ Q ⟨K,O,c2,rfl,F,G,H⟩;replace E:=hid (E.calls F G H);clear F G H J p;have W:=(E.get (j:=5) rfl).cell_some (i:=5) rfl;have z4:=fun o=> ((Ext.refl Q).alloc o).keep W;first|(obtain⟨⟨e0,e1,e2,e3,e4,e5,e6,e7⟩,⟨f0,f1,f2,f3,f4,f5,f6,f7⟩,n1,n2⟩:=E.last8 (j:=3) (k:=5) rfl C rfl (by decide);have z9:=(E.get (j:=5) rfl).cell_some (i:=5) rfl;have Z:=(E.get (j:=5) rfl).frozen 5)|skip)
    |(go_simp;go_at_call 39;replace E:=hid ((E0.alloc 37 zE).ext (Ext.refl _).drew);obtain⟨y5,s5,J,p⟩:=hr.at_ E.ps (by omega);cases hy.symm.trans J;(with_reducible refine p.mono ?_);rintro _ Q ⟨K,O,c2,rfl,F,G,H⟩;replace E:=hid (E.calls F G H);clear F G H J p;have W:=(E.get (j:=6) rfl).cell_some (i:=5) rfl;have z4:=fun o=> ((Ext.refl Q).alloc o).keep W;first|(obtain⟨⟨e0,e1,e2,e3,e4,e5,e6,e7⟩,⟨f0,f1,f2,f3,f4,f5,f6,f7⟩,n1,n2⟩:=E.last8 (j:=3) (k:=5) rfl C rfl (by decide);have z9:=(E.get (j:=5) rfl).cell_some (i:=5) rfl;have Z:=(E.get (j:=5) rfl).frozen 5)|skip))
   all_goals
    have E1:=(E.last (j:=3) (ds:=y.d.cells K O c2) rfl C rfl).set (j:=5) rfl 5 (.slice (some ⟨g7,0,none⟩) f.length c')
    have E2:=(E.set (j:=5) rfl 5 (.slice (some ⟨g7,0,none⟩) f.length c')).last (j:=3) (ds:=y.d.cells K O c2) rfl C rfl
    simp only[sts,Nd.cells,Nat.add_assoc,Nat.reduceAdd]at E1 E2
    go_wp2_with fail
    go_meet
    first|exact⟨f,_,c',K,O,c2,z,E1.at_ (by with_reducible rfl)⟩|exact⟨f,_,c',K,O,c2,z.out,E2.at_ (by with_reducible rfl)⟩
  case rest=>
   obtain⟨f,D,c',B,k,c2,rfl,E⟩:=hcut
   go_wp2_with (go_at_call 44;refine E.nd m yRp rfl rfl fun v u E=>?_)
   rw[a.out]
   exact bodyPost_end (v:= .tuple #[]) (by simp[results,Tryz.results99,go_sem]) rfl ⟨rfl,_,_,_,_,_,_,_,_,E.imp fun u h=>⟨h.1.1,h.1.2.1,h.1.2.2.1,Els.snoc h.1.2.2.2 rfl ⟨B,k,c2,rfl,h.2⟩⟩⟩
 ·rw[X,if_neg (by simp),h2,if_neg (by simp),h3,if_neg (by simp),h4,if_pos rfl]at a
  go_upto_region 19 with (first|(go_at_call 44;refine E.nd m kKEY rfl rfl fun v u E=>?_)|(refine E.nms m fun B1 k1 u an E=>?_)|(refine E.al rfl _ rfl rfl (cs:= [.slice none 0 0,.string ⟨#[]⟩,.slice none 0 0]) (t:=103) (by kernel_rfl) fun g u E=>?_)|(refine E.sw (j:=0) (ty:=103) rfl rfl rfl rfl rfl rfl (by kernel_rfl) (by kernel_rfl) rfl fun u E=>?_))
  go_upto_region 22 with (first|(go_at_call 44;refine E.nd m kREFERENCES rfl rfl fun v u E=>?_)|(refine E.nms m fun K O u a0 E=>?_)|(go_at_call 55;have hz:=hid (E.ps.tak_size m 1);refine E.run (bF E.ps m) fun v u hv E=>?_;subst hv)|(refine E.sm (j:=0) rfl rfl rfl rfl rfl (by first|exact cA rfl|exact cS rfl|exact cI rfl|exact cL rfl|exact cB rfl) (by kernel_rfl) (by kernel_rfl) (by kernel_rfl) fun u E=>?_))
  obtain⟨r0,r1,r2,-⟩:=cls (E.get (j:=0) rfl)
  have U:=(E.get (j:=6) rfl).cell_some (i:=4) rfl
  replace E:=hid (E.ext (Ext.refl _).drew)
  obtain⟨d0,d1,d2,-⟩:=cls (E.get (j:=0) rfl)
  have z2:=(E.get (j:=6) rfl).cell_some (i:=4) rfl
  have z4:=fun o=> ((Ext.refl u.drew).alloc o).keep z2
  have z5:=fun o=> ((Ext.refl u).alloc o).keep U
  have z6:=fun o=> ((Ext.refl u).alloc o).drew.keep U
  go_region_law (refine E.aps ⟨(namesP (needP kKEY s.next)).1,(takP 1 (needP kREFERENCES (namesP (needP kKEY s.next)).2)).1,(namesP (takP 1 (needP kREFERENCES (namesP (needP kKEY s.next)).2)).2).1⟩ ap_ref (j:=3) rfl rfl rfl rfl rfl rfl rfl (by simp[Value.oneCell']) (by omega) fun f D c' u z E=>?_;have z9:=(E.get (j:=6) rfl).cell_some (i:=4) rfl;have Z:=(E.get (j:=6) rfl).frozen 4;replace E:=hid E)
  all_goals
   replace E:=(E.set (j:=6) rfl 4 (.slice D f.length c')).pop
   go_wp2_with fail
   obtain rfl:=z.out
   rw[a.out]
   exact bodyPost_end (v:= .tuple #[]) (by simp[results,Tryz.results99,go_sem]) rfl ⟨rfl,_,_,_,_,_,_,_,_,E.imp fun u h=>⟨h.1.1.1,h.1.1.2.1,Els.snoc h.1.1.2.2.1 rfl ⟨B1,k1,K,O,rfl,by have:=hz.out;exact Nat.le_trans this (by omega),an,a0,h.1.2,h.2⟩,h.1.1.2.2.2⟩⟩
 ·rw[X,if_neg (by simp),h2,if_neg (by simp),h3,if_neg (by simp),h4,if_neg (by simp)]at a
  obtain⟨⟨cd,s1⟩,ac⟩:∃x,fQ s=x:=⟨_,rfl⟩
  rw[ac]at a
  simp only at a
  have U:=(E.get (j:=5) rfl).cell_some (i:=2) rfl
  replace E:=hid (E.ext (Ext.refl _).drew)
  have z2:=(E.get (j:=5) rfl).cell_some (i:=2) rfl
  go_upto_region 0 with fail
  go_region_law (first
   |(refine E.aps cd ap_col (j:=0) rfl rfl rfl rfl rfl rfl rfl (by simp[Value.oneCell']) (by omega) fun f D c' u z E=>?_;have z9:=(E.get (j:=5) rfl).cell_some (i:=2) rfl;have Z:=(E.get (j:=5) rfl).frozen 2;replace E:=hid E)
   |(go_simp;(go_at_call 177;have p:=mK hE E.ps m;rw[ac]at p;(with_reducible refine p.mono ?_);rintro _ Q ⟨v,rfl,F,G,rfl,H⟩;replace E:=hid (E.call F G);have HK:=hid H;clear F G H p);have W:=(E.get (j:=5) rfl).cell_some (i:=2) rfl;have z4:=fun o=> ((Ext.refl Q).alloc o).keep W))
  all_goals
   replace E:=E.set (j:=5) rfl 2 (.slice D f.length c')
   go_wp2_with fail
   obtain rfl:=z.out
   rw[a.out]
   exact bodyPost_end (v:= .tuple #[]) (by simp[results,Tryz.results99,go_sem]) rfl ⟨rfl,_,_,_,_,_,_,_,_,E.imp fun u h=>⟨Els.snoc h.1 rfl ⟨rfl,HK⟩,h.2⟩⟩
end
end
section
open Lx (Tk)
theorem qj {b:Nat} :∀(a:List (List Value)),(∀cs∈a,cs.length=b)→∀(i j:Nat) (cs:List Value) (u:Value),a[i]? =some cs→j<b→a.flatten.set (i*b+j) u=(a.set i (cs.set j u)).flatten
 | [],_,i,j,cs,u,h,_=>by simp at h
 |x::a,he,i,j,cs,u,h,hj=>by
  have e:=he x (List.mem_cons_self ..)
  rw[List.flatten_cons]
  cases i with
  |zero=>
   simp at h
   subst h
   rw[List.set_append_left _ _ (by omega),List.set_cons_zero,List.flatten_cons]
   simp
  |succ i=>
   rw[List.set_append_right _ _ (by rw[e,Nat.succ_mul];omega),e,show(i+1)*b+j-b=i*b+j by rw[Nat.succ_mul];omega,List.set_cons_succ,List.flatten_cons]
   rw[qj a (fun c f=>he c (List.mem_cons_of_mem _ f)) i j cs u (by simpa using h) hj]
theorem Els.nn {w:World} {cols:List Cd} {p:List Value} {i:Nat} {y:Cd} (b:Bool) (h:Els oE 6 cols p w) (hi:cols[i]? =some y):Els oE 6 (cols.set i { y with nn:=b }) (p.set (i*6+5) (.bool b)) w:=by
 obtain⟨a,r,t,m,n⟩:=h
 have l:=(List.getElem?_eq_some_iff.1 hi).1
 obtain⟨c,o⟩:∃c,a[i]? =some c:=⟨_,List.getElem?_eq_getElem (by omega)⟩
 obtain⟨rfl,f⟩:=n i y c hi o
 refine⟨a.set i [.string y.nm,.int .i64 y.ty,.int .i64 y.lo,.int .i64 y.hi,.int .i64 y.mx,.bool b],?_,by simp[t],fun z f=>?_,fun j z u g k=>?_⟩
 ·rw[←r]
  exact(qj a m i 5 _ (.bool b) o (by omega)).symm
 ·rcases List.mem_or_eq_of_mem_set f with f|rfl
  ·exact m z f
  ·rfl
 ·by_cases e:i=j
  ·subst e
   rw[List.getElem?_set_self l]at g
   rw[List.getElem?_set_self (by omega)]at k
   cases g
   cases k
   exact⟨rfl,f⟩
  ·rw[List.getElem?_set_ne e]at g
   rw[List.getElem?_set_ne e]at k
   exact n j z u g k
theorem nn_step (l:List ByteArray) (cols:List Cd) {k:Nat} {y:Cd} (h:cols[k]? =some y) (b:Bool) (f:b=(y.nn||l.contains y.nm)):((cols.take k).map (nnC l)++cols.drop k).set k { y with nn:=b } =(cols.take (k+1)).map (nnC l)++cols.drop (k+1)∧((cols.take k).map (nnC l)++cols.drop k)[k]? =some y:=by
 obtain⟨g,e⟩:=List.getElem?_eq_some_iff.1 h
 have a:((cols.take k).map (nnC l)).length=k:=by rw[List.length_map,List.length_take];omega
 rw[List.drop_eq_getElem_cons g,e]
 refine⟨?_,by rw[List.getElem?_append_right (by omega),a,Nat.sub_self];rfl⟩
 rw[List.set_append_right _ _ (by omega),a,Nat.sub_self,List.set_cons_zero,List.take_add_one,h,List.map_append,List.append_assoc]
 subst f
 rfl
section
variable {P c:Nat} {A:Option Addr} {L:List Tk} {w0 w:World} {s:Ps}
theorem create_rd {n:Nat} {ex:M Ex} (hr:Rdr 68 P A c L w0 n 39 ex) (G:Fwd ex) (hn:s.r.length<n) (hE:Er w0) (hp:PsAt 68 P A c L w0 w s) (C:TkL L):
  Calls Tryz.prog 54 #[.pointer (some ⟨P,0,none⟩)] w (Ran 68 P A c L w0 w (createP ex s).2 fun v w'=>ElSt w.heap.size w' (createP ex s).1 v):=by
 have E:=En.start hp
 have a0:=C.len
 have bd:=hp.le
 have a5:=fwd_tak 1 (needP eg s)
 have a6:=aF eg s
 have ag:=aF yLp (takP 1 (needP eg s)).2
 obtain⟨e,Q⟩:∃x,needP yLp (takP 1 (needP eg s)).2=x:=⟨_,rfl⟩
 rw[Q]at ag
 have Y:Hid (createP ex s=(creS (takP 1 (needP eg s)).1 (dv ex e).1,needP yRp (dv ex e).2)):=by subst Q;rfl
 obtain⟨R,hR⟩:∃R,createP ex s=R:=⟨_,rfl⟩
 rw[hR]at Y ⊢
 clear hR hp
 have a9:= @run_makeMap Tryz.prog
 go_enter Tryz.func54,Tryz.ntmps54
 go_upto_region 1 with (refine E.al rfl _ rfl rfl (cs:=zS) (t:=40) (by kernel_rfl) fun g0 u E=>?_)
 go_upto_region 5 with (first|(go_at_call 44;refine E.nd C eg rfl rfl fun v u E=>?_)|(go_at_call 44;refine E.nd C yLp rfl rfl fun v u E=>?_)|(go_at_call 55;have hz:=hid (E.ps.tak_size C 1);refine E.run (bF E.ps C) fun v u hv E=>?_;subst hv)|(refine E.al rfl _ rfl rfl (cs:=zS) (t:=40) (by kernel_rfl) fun gv u E=>?_)|(refine wpList_buildTo rfl 40 _ rfl _ rfl (.int .i64 1:: .string (takP 1 (needP eg s)).1::zS.drop 2).toArray (by kernel_rfl) ?_)|(refine E.sw (j:=0) (ty:=40) rfl rfl rfl rfl rfl rfl (by kernel_rfl) (by kernel_rfl) rfl fun u E=>?_))
 obtain⟨X,hX⟩:∃x,(takP 1 (needP eg s)).1=x:=⟨_,rfl⟩
 rw[hX]at Y hz E ⊢
 rw[Q]at E
 replace E:=(((E.map.row0 (α:=Ex) w.heap.size 37 8).row0 (α:=Rf) w.heap.size 103 3).row0 (α:=List ByteArray) w.heap.size 101 1).row0 (α:=Cd) w.heap.size 99 6
 have D:DfE P A c L w0 w gv u.heap.size [bk g0 40 zS] X (u.alloc (.map #[] 0)) e ⟨[],[],[],[]⟩ []:=⟨nl,nl,nl,nl,[],[],[],[],E.imp fun u _=>⟨Els.nil,Els.nil,Els.nil,Els.nil⟩⟩
 clear E
 obtain⟨M,hM⟩:∃M,u.heap.size=M:=⟨_,rfl⟩
 rw[hM]at D ⊢
 replace D:=hid D
 generalize World.alloc _ _=w5 at*
 go_wp2_with (go_at_call 99;refine(mD hr (by omega) hE C (by simp) D).mono ?_;rintro _ u ⟨rfl,D⟩;replace D:=hid D)
 obtain⟨FR,Z⟩:∃x,dv ex e=x:=⟨_,rfl⟩
 have z:=elems_eq ex e
 rw[Z]at Y z
 have o:=qc (ex:=ex) ⟨[],[],[],[]⟩ [] e
 have p:=nD G ⟨[],[],[],[]⟩ [] e
 have f:=mB G ⟨[],[],[],[]⟩ [] e
 obtain⟨⟨⟨d1,l1⟩,s4⟩,F⟩:∃x,elemP ex ⟨[],[],[],[]⟩ [] e=x:=⟨_,rfl⟩
 rw[F]at D z o p f
 simp only[List.length_nil]at o p f
 clear F Z
 go_loopw [22] (fun _ wr=> ∃(m:Nat) (st:Ps) (d:Df) (l:List ByteArray),FR=cr ex m d l st∧(st.r.length<m∧st.r.length≤e.r.length∧l.length+st.r.length≤e.r.length+1∧(d.cols.length+st.r.length≤e.r.length+1∧d.keys.length+st.r.length≤e.r.length+1∧d.frs.length+st.r.length≤e.r.length+1∧d.chk.length+st.r.length≤e.r.length+1))∧DfE P A c L w0 w gv M [bk g0 40 zS] X wr st d l) (fun _ wr=>20001-posOf P wr)
 case atStart=>exact⟨_,s4,d1,l1,z,by omega,D⟩
 case round=>
  clear z o p f D
  obtain⟨m,st,d,l,z,hB,D⟩:=hrel
  obtain⟨m,rfl⟩:∃x,m=x+1:=⟨m-1,by omega⟩
  rw[qd]at z
  have HB:=hid hB
  have J:Hid (posOf P wr=L.length-st.r.length∧st.r.length≤L.length):=by obtain⟨_,_,_,_,_,_,_,_,E⟩:=D;exact⟨E.ps.posOf,E.ps.le⟩
  replace z:=hid z
  clear hB
  obtain⟨v1,v2,v3,v4,x1,x2,x3,x4,E⟩:=D
  go_wp2_with (go_at_call 53;refine E.tk C yCm rfl (fun hb u E=>?_) (fun hb u E=>?_))
  ·have D:Hid (DfE P A c L w0 w gv M [bk g0 40 zS] X u st.next d l):=⟨v1,v2,v3,v4,x1,x2,x3,x4,E⟩
   clear E
   have a8:=ay hb
   have hB:=HB.out
   go_wp2_with (go_at_call 99;refine(mD hr (by omega) hE C (by omega) D).mono ?_;rintro _ u ⟨rfl,D⟩;replace D:=hid D)
   have a:=z.out
   rw[if_pos hb]at a
   have o:=qc (ex:=ex) d l st.next
   have p:=nD G d l st.next
   have f:=mB G d l st.next
   obtain⟨⟨⟨d2,l2⟩,s5⟩,F⟩:∃x,elemP ex d l st.next=x:=⟨_,rfl⟩
   rw[F]at D a o p f
   simp only at o p f a
   have ax:posOf P u=L.length-s5.r.length:=by obtain⟨_,_,_,_,_,_,_,_,E⟩:=D.out;exact E.ps.posOf
   exact⟨⟨m,s5,d2,l2,a,by omega,D⟩,by rw[ax,J.out.1];have:=J.2;omega⟩
  ·have a:FR=((d,l),st):=by have h:=z.out;rwa [if_neg (by rw[hb];simp)]at h
   rw[a]at Y
   have hB:=HB.out
   clear z a J HB
   obtain⟨Ac,cc,rfl⟩:=fk (E.own (j:=0) rfl)
   have be:(0:Int)≤(d.cols.length:Int):=by omega
   have a1:=hid hM
   clear hM
   go_wp2_with (first|(go_at_call 44;refine E.nd C yRp rfl rfl fun v u E=>?_)|(refine E.l1 (j:=5) rfl rfl rfl rfl rfl (by kernel_rfl) ?_))
   go_loopw [34] (fun iv wr=> ∃(k:Nat) (cs:List Cd) (x1:List Value),k≤d.cols.length∧iv= .int .i64 k∧cs=(d.cols.take k).map (nnC l)++d.cols.drop k∧En 68 P A c L w0 w wr (needP yRp st) (DV w.heap.size gv M [bk g0 40 zS] X { d with cols:=cs } l (.slice Ac cs.length cc) v2 v3 v4 x1 x2 x3 x4) (DP { d with cols:=cs } x1 x2 x3 x4)) (fun i _=>d.cols.length- (intOf i).toNat)
   case atStart=>exact⟨0,d.cols,x1,Nat.zero_le _,rfl,rfl,E⟩
   case round=>
    clear E
    obtain⟨k,cs,y1,hk,rfl,B,E⟩:=hrel
    have a2:cs.length=d.cols.length:=by rw[B,List.length_append,List.length_map,List.length_take,List.length_drop];omega
    by_cases an:k<d.cols.length
    ·obtain⟨⟨nm,ty,lo,hi,mx,nn⟩,hy⟩:∃y,d.cols[k]? =some y:=⟨_,List.getElem?_eq_getElem an⟩
     obtain⟨b,K⟩:∃b,b=(nn||l.contains nm):=⟨_,rfl⟩
     obtain⟨O,I⟩:=nn_step l d.cols hy b K
     rw[←B]at O I
     obtain⟨gr,rfl⟩:=oD (E.own (j:=0) rfl) (by omega)
     obtain⟨cz,ad,⟨rfl,ac⟩,H⟩:=E.stb.now.1.get I
     have i0:(0:Int)≤(k:Int):=by omega
     have i1:(k:Int)<(d.cols.length:Int):=by omega
     have i2:(k:Int)<(cs.length:Int):=by omega
     have U:=hid (And.intro O (And.intro I (And.intro K ac.1)))
     replace H:=hid H
     clear O I ac hy ad B K
     go_upto_region 12 with (first|(refine E.lr [.string nm,.int .i64 ty,.int .i64 lo,.int .i64 hi,.int .i64 mx,.bool nn] (j:=0) (ty:=99) rfl rfl rfl rfl H (by kernel_rfl) ?_)|(refine E.al rfl _ rfl rfl (cs:= [.string ⟨#[]⟩,.int .i64 0,.int .i64 0,.int .i64 0,.int .i64 0,.bool false]) (t:=99) (by kernel_rfl) fun g u E=>?_)|(refine E.sw (j:=0) (ty:=99) rfl rfl rfl rfl rfl rfl (by kernel_rfl) (by kernel_rfl) rfl fun u E=>?_;have ho:=E.own (j:=1) rfl;have a4:=(ho.cellAt (k*6+5) (by omega)).trans (H 5 _ rfl);have a3:=ho.frozenAt (k*6+5);have ba:=(E.get (j:=0) rfl).cell_some (i:=0) rfl;have a7:=(E.look (j:=5) rfl).look (t:=134) Tryz.underlying9 Tryz.underlying134 Tryz.underlying4 rfl nm U.2.2.2))
     have E2:=(E.setr (j:=1) rfl (k*6+5) (.bool b)).pop
     have h9:cs.length=(cs.set k ⟨nm,ty,lo,hi,mx,b⟩).length:=by rw[List.length_set]
     have E3:=hid E2
     clear E2
     cases nn
     all_goals
      go_wp2_with (first|(refine E.l1 (j:=0) rfl rfl rfl rfl rfl (by kernel_rfl) ?_)|(refine E.l1 (j:=6) rfl rfl rfl rfl rfl (by kernel_rfl) ?_))
      have W:=E3.out
      rw[h9]at W
      refine⟨⟨k+1,_,y1.set (k*6+5) (.bool b),by omega,by go_num,U.1,?_⟩,by simp[intOf];omega⟩
      first|(rw[show b=true from U.out.2.2.1]at W ⊢;exact W.imp fun u h=>⟨Els.nn _ h.1 U.2.1,h.2⟩)|(rw[show b=l.contains nm from U.out.2.2.1]at W ⊢;exact W.imp fun u h=>⟨Els.nn _ h.1 U.2.1,h.2⟩)
    ·obtain rfl:k=d.cols.length:=by omega
     rw[List.take_length,List.drop_length,List.append_nil]at B
     subst B
     obtain⟨B2,c2,rfl⟩:=fk (E.own (j:=1) rfl)
     obtain⟨B3,c3,rfl⟩:=fk (E.own (j:=2) rfl)
     obtain⟨B4,c4,rfl⟩:=fk (E.own (j:=3) rfl)
     go_wp2_with (first|(refine E.lw (j:=5) (ty:=40) rfl rfl rfl rfl (by kernel_rfl) ?_)|(refine E.sw (j:=6) (ty:=40) rfl rfl rfl rfl rfl rfl (by kernel_rfl) (by kernel_rfl) rfl fun u E=>?_))
     rw[Y.out]
     refine E.fi (j:=6) rfl rfl rfl rfl (by kernel_rfl) ⟨⟨⟨Ac,(d.cols.map (nnC l)).length,cc⟩,⟨B2,d.keys.length,c2⟩,⟨B3,d.frs.length,c3⟩,⟨B4,d.chk.length,c4⟩,⟨none,0,0⟩,⟨none,0,0⟩,⟨none,0,0⟩,⟨none,0,0⟩,⟨none,0,0⟩,⟨none,0,0⟩,⟨none,0,0⟩⟩,rfl,E.all2.imp fun u h=>?_⟩
     have k1:=h.1.1.lst' (h.2 0 _ rfl)
     have k2:=h.1.2.1.lst' (h.2 1 _ rfl)
     have k3:=h.1.2.2.1.lst' (h.2 2 _ rfl)
     have k4:=h.1.2.2.2.lst' (h.2 3 _ rfl)
     exact⟨by rw[List.length_map];exact create_st hz (by omega) (lst_cds k1) (lst_keys k2) (lst_rfs k3) (mA k4),lst_capk k2,lst_capr k3⟩
end
end
end Go.Proofs.YtjigcpfjhfoheaaGreatDoor
