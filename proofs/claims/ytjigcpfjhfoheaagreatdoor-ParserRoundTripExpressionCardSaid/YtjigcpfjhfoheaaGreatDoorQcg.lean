/- Walks: Statement and Expression, over what they call; Walk: Script, over what it calls; What Statement, Expression and Script return; What Statement and Script return on a text without CREATE, INSERT and UPDATE; Walk: awake, over . -/
import Derived.Test.YtjigcpfjhfoheaaGreatDoorQcf
import Derived.Test.YtjigcpfjhfoheaaGreatDoorQca
import Derived.Test.YtjigcpfjhfoheaaGreatDoorQad
import Derived.StillTactics
import Derived.Test.YtjigcpfjhfoheaaGreatDoorQce
import Derived.Test.YtjigcpfjhfoheaaGreatDoorQcb
import Derived.Test.YtjigcpfjhfoheaaGreatDoorQbj
import Derived.Test.YtjigcpfjhfoheaaGreatDoorQcc
import Derived.Test.YtjigcpfjhfoheaaGreatDoorQbe
import Derived.Test.YtjigcpfjhfoheaaGreatDoorQae
import Derived.Test.YtjigcpfjhfoheaaGreatDoorQai
import Derived.Test.YtjigcpfjhfoheaaGreatDoorQcd
import Derived.Test.YtjigcpfjhfoheaaGreatDoorQag
namespace Go.Proofs.YtjigcpfjhfoheaaGreatDoor
open Go.RowKit
set_option maxHeartbeats 4000000
set_option maxRecDepth 100000
set_option linter.unusedVariables false
set_option linter.unusedSimpArgs false
section
open Lx (Tk)
theorem bc {Pr:Program} {fn:Func} {p q r:Tmp} {ty:TypeId} (h:fn.results= #[.cell p ty,.tmp q,.tmp r]) (tmps:Array Value) (w:World) (g:Nat) (t:TypeId) (cs:Array Value) (fr:Nat×Nat) (d:TypeDesc)
  (hp:tmps.getD p undef= .pointer (some ⟨g,0,none⟩)) (hg:w.heap[g]? =some (.cells cs t fr))
  (hu:Pr.underlying ty=some d) (hd:(match d with| .struct _| .array _ _=>true|_=>false)=true) (hi:(Pr.info? ty).map (·.size)=some cs.size):
  (results fn tmps).run Pr w= .ok (.tuple #[.agg cs,tmps.getD q undef,tmps.getD r undef]) w:=by
 have hp':tmps[p]?.getD undef= .pointer (some ⟨g,0,none⟩):=by simpa using hp
 simp[results,h,hp',asAddr,run_loadVar_row w g t ty cs fr d hg hu hd hi]
theorem stE' {ops:Array Oper} {rest:List Oper} {o:Oper} {a:Act} {w:World} {Q:Exit→Act→World→Prop} {x y:Operand} (hgd:o.guard=none) (ho:o.op= .store 37 x y) (hd:o.dst=none) (ds:List Value) (hx:a.eval x= .pointer (some ⟨w.heap.size,0,none⟩)) (hy:a.eval y= .agg ds.toArray) {cs:List Value} (hl:cs.length=8) (hm:ds.length=8) (h1:ds.toArray.all (·.oneCell')=true)
  (h:wpList Tryz.prog ops Q rest a (w.alloc (.cells ds.toArray 37))):wpList Tryz.prog ops Q (o::rest) a (w.alloc (.cells cs.toArray 37)):=
 wpList_store_rowTo hgd 37 x y ho hd w.heap.size ds.toArray hx hy 37 cs.toArray (heap_alloc_new w _) (by rw[List.size_toArray,hm];kernel_rfl) (by rw[List.size_toArray,List.size_toArray,hl,hm]) h1 (by rw[World.setRow_alloc_new];exact h)
theorem iV {w0 w:World} (h:Ext w0 w) {g:Nat} (hg:w0.heap.size≤g) (cs:Array Value):Ext w0 (w.setRow g cs):=h.grown (fM w g cs) fun q hq=>by have:=Option.some.inj hq;omega
theorem mR {n g:Nat} {w:World} {Φ:World→Prop} (h:Stb (n≤·) w Φ) (hg:g<n) (cs:Array Value):Stb (n≤·) (w.setRow g cs) Φ:=h.grown (fM w g cs) fun q hq e=>by
 have:=Option.some.inj e
 have hq:n≤q:=hq
 omega
theorem mS {w:World} {g T:Nat} {cs:List Value} (h:Blk w g T cs):w.setRow g cs.toArray=w:=by
 have e:(w.setRow g cs.toArray).heap=w.heap:=by
  apply Array.ext_getElem?
  intro i
  unfold World.setRow
  simp only
  rw[Array.getElem?_modify]
  split
  ·next e=>subst e;unfold Blk at h;rw[h];rfl
  ·rfl
 cases w
 unfold World.setRow at e ⊢
 simp only at e ⊢
 rw[e]
theorem cX {P:Program} {ops:Array Oper} {w:World} {Q:Act→Prop} {a:Act} {o:Oper} {rest:List Oper} (hgd:o.guard=none) (ty:TypeId) {x y:Operand} (ho:o.op= .store ty x y) (hd:o.dst=none) (g:Nat) (cs:List Value) (hx:a.eval x= .pointer (some ⟨g,0,none⟩)) (hy:a.eval y= .agg cs.toArray)
  {T:Nat} (hb:Blk w g T cs) (hi:(P.info? ty).map (·.size)=some cs.toArray.size) (h1:cs.toArray.all (·.oneCell')=true) (h:wpStill P ops w Q rest a):wpStill P ops w Q (o::rest) a:=by
 refine wpStill_step fun K hK=>?_
 rw[if_pos (by simp[Region.wanted,hgd])]
 unfold Oper.still execOp
 simp only[ho,hx,hy,Instr.storeAt,Instr.sureAddr,Sem.run_bind,Sem.run_pure,Result.andThen_ok,run_storeVar_row w g T ty _ _ hb hi rfl h1,mS hb]
 refine⟨rfl,?_⟩
 rw[hd]
 exact hK _ h
def triB (cs:List Value):Bool:=(List.range cs.length).all fun i=>match cs[i]?,cs[i+1]?,cs[i+2]? with|some (.int _ _),some (.string _),some (.int _ _)=>false|_,_,_=>true
theorem not_tok {w:World} {b off g T:Nat} {cs:List Value} {k0 k2:IntKind} {i0 i2:Int} {s1:ByteArray} (h:Blk w g T cs) (ht:triB cs=true) (d0:w.cell? ⟨b,off,none⟩=some (.int k0 i0)) (d1:w.cell? ⟨b,off+1,none⟩=some (.string s1)) (d2:w.cell? ⟨b,off+2,none⟩=some (.int k2 i2)):b≠g:=by
 intro e
 subst e
 have c0:=(h.cell off).symm.trans d0
 have c1:=(h.cell (off+1)).symm.trans d1
 have c2:=(h.cell (off+2)).symm.trans d2
 have h1:=List.all_eq_true.1 ht off (List.mem_range.2 (List.getElem?_eq_some_iff.1 c0).1)
 rw[c0,c1,c2]at h1
 cases h1
theorem j5 (u:World):StW u stZ (fj none none none 0 0 0 0 0 0):=StW.of (dM (k:=0) (by unfold I64;omega) (Nat.zero_le _) (Nat.zero_le _)) rfl rfl
theorem lD (vld:St→Int) (s:ByteArray) (w:World) (hs:s.size≤20000) (hk:Lx.KwAt w)
  (hst:∀(L:List Tk) (P:Nat) (A:Option Addr) (c:Nat) (W0 W:World),Ext w W0→Lx.tokAll s= .ok L→PsAt 68 P A c L W0 W ⟨L,false⟩→Calls Tryz.prog 29 #[.pointer (some ⟨P,0,none⟩)] W (Ran 68 P A c L W0 W (stmP (L.length+1) ⟨L,false⟩).2 fun v w'=>ElSt W.heap.size w' (stmP (L.length+1) ⟨L,false⟩).1 v))
  (hva:∀(L:List Tk) (a:SA) (W:World),Ext w W→Lx.tokAll s= .ok L→(stmP (L.length+1) ⟨L,false⟩).2.bad=false→StW W (stmP (L.length+1) ⟨L,false⟩).1 a→Calls Tryz.prog 31 #[St.val (stmP (L.length+1) ⟨L,false⟩).1 a] W fun r w'=>r= .returned (.int .i64 (vld (stmP (L.length+1) ⟨L,false⟩).1))∧Ext W w'):
  Calls Tryz.prog 13 #[.string s] w fun e w'=>Ext w w'∧∃a,e= .returned (.tuple #[St.val (parS vld s).1 a,.int .i64 (parS vld s).2.1,.int .i64 (parS vld s).2.2])∧Stb (w.heap.size≤·) w' (fun u=>StW u (parS vld s).1 a):=by
 have hbad:∀a x:Nat,Lx.tokAll s= .bad a x→parS vld s=(stZ,(a:Int),(x:Int)):=fun a x h=>by unfold parS;rw[h]
 have hok:∀L,Lx.tokAll s= .ok L→parS vld s=if (endP (stmP (L.length+1) ⟨L,false⟩).2).bad=true then (stZ,((endP (stmP (L.length+1) ⟨L,false⟩).2).hd.pos:Int),2)else if vld (stmP (L.length+1) ⟨L,false⟩).1=0 then ((stmP (L.length+1) ⟨L,false⟩).1,0,0)else (stZ,((⟨L,false⟩:Ps).hd.pos:Int),vld (stmP (L.length+1) ⟨L,false⟩).1):=fun L h=>by
  unfold parS gI
  rw[h]
  simp only
  cases hb:(endP (stmP (L.length+1) ⟨L,false⟩).2).bad<;>simp[hb]
 obtain⟨R,hR⟩:∃R,parS vld s=R:=⟨_,rfl⟩
 rw[hR]at hbad hok ⊢
 have HSt:=hid hst
 have HVa:=hid hva
 replace hok:=hid hok
 replace hbad:=hid hbad
 clear hst hva hR
 go_enter Tryz.func13,Tryz.ntmps13
 go_upto_region 1 with fail
 have HX1:=hid ((Ext.refl w).alloc (.cells #[.int .i64 0,.string ⟨#[]⟩,.slice none 0 0,.slice none 0 0,.slice none 0 0,.slice none 0 0,.slice none 0 0,.slice none 0 0,.slice none 0 0,.slice none 0 0,.int .i64 0,.string ⟨#[]⟩,.string ⟨#[]⟩,.int .i64 0,.int .i64 0,.int .i64 0,.string ⟨#[]⟩,.slice none 0 0,.slice none 0 0,.slice none 0 0,.int .i64 0,.string ⟨#[]⟩] 40))
 have HB1:=hid (Blk.of_new w 40 [.int .i64 0,.string ⟨#[]⟩,.slice none 0 0,.slice none 0 0,.slice none 0 0,.slice none 0 0,.slice none 0 0,.slice none 0 0,.slice none 0 0,.slice none 0 0,.int .i64 0,.string ⟨#[]⟩,.string ⟨#[]⟩,.int .i64 0,.int .i64 0,.int .i64 0,.string ⟨#[]⟩,.slice none 0 0,.slice none 0 0,.slice none 0 0,.int .i64 0,.string ⟨#[]⟩])
 generalize w.alloc (.cells #[.int .i64 0,.string ⟨#[]⟩,.slice none 0 0,.slice none 0 0,.slice none 0 0,.slice none 0 0,.slice none 0 0,.slice none 0 0,.slice none 0 0,.slice none 0 0,.int .i64 0,.string ⟨#[]⟩,.string ⟨#[]⟩,.int .i64 0,.int .i64 0,.int .i64 0,.string ⟨#[]⟩,.slice none 0 0,.slice none 0 0,.slice none 0 0,.int .i64 0,.string ⟨#[]⟩] 40)=w1 at*
 obtain⟨g0,hg0⟩:∃g,w.heap.size=g:=⟨_,rfl⟩
 have HG:Hid (w.heap.size≤g0):=Nat.le_of_eq hg0
 rw[hg0]at HB1 ⊢
 have HG2:=hid hg0
 clear hg0
 go_wp2_with fail
 refine(gY s w1 hs (hk.ext HX1.out)).mono ?_
 rintro _ w2 ⟨hx2,h|h⟩
 ·obtain⟨a,x,ht,hx0,rfl⟩:=h
  have hxi:¬((x:Int)=0):=by omega
  have HX2:=hid (HX1.out.trans hx2)
  have HB2:=hid (HB1.out.ext hx2)
  obtain rfl:=hbad.out a x ht
  clear HX1 HB1 hx2 HSt HVa hok hbad ht
  go_wp2_with (first|(refine wpList_buildTo rfl 40 _ rfl _ rfl #[.int .i64 0,.string ⟨#[]⟩,.slice none 0 0,.slice none 0 0,.slice none 0 0,.slice none 0 0,.slice none 0 0,.slice none 0 0,.slice none 0 0,.slice none 0 0,.int .i64 0,.string ⟨#[]⟩,.string ⟨#[]⟩,.int .i64 0,.int .i64 0,.int .i64 0,.string ⟨#[]⟩,.slice none 0 0,.slice none 0 0,.slice none 0 0,.int .i64 0,.string ⟨#[]⟩] (by kernel_rfl) ?_)|(refine stS rfl rfl rfl _ [.int .i64 0,.string ⟨#[]⟩,.slice none 0 0,.slice none 0 0,.slice none 0 0,.slice none 0 0,.slice none 0 0,.slice none 0 0,.slice none 0 0,.slice none 0 0,.int .i64 0,.string ⟨#[]⟩,.string ⟨#[]⟩,.int .i64 0,.int .i64 0,.int .i64 0,.string ⟨#[]⟩,.slice none 0 0,.slice none 0 0,.slice none 0 0,.int .i64 0,.string ⟨#[]⟩] rfl rfl HB2.out rfl rfl (by kernel_rfl) ?_))
  refine bodyPost_ret (v:=_) (bc (p:=2) (q:=3) (r:=4) (ty:=40) rfl _ _ g0 40 _ _ _ (by rfl) (eB HB2.out [.int .i64 0,.string ⟨#[]⟩,.slice none 0 0,.slice none 0 0,.slice none 0 0,.slice none 0 0,.slice none 0 0,.slice none 0 0,.slice none 0 0,.slice none 0 0,.int .i64 0,.string ⟨#[]⟩,.string ⟨#[]⟩,.int .i64 0,.int .i64 0,.int .i64 0,.string ⟨#[]⟩,.slice none 0 0,.slice none 0 0,.slice none 0 0,.int .i64 0,.string ⟨#[]⟩]) Tryz.underlying40 rfl (by kernel_rfl)) rfl ?_
  exact⟨iV HX2.out HG.out _,fj none none none 0 0 0 0 0 0,rfl,fun u _ _=>j5 u⟩
 ·obtain⟨L,P,A,c,ht,rfl,hp⟩:=h
  have hL:=fO ht
  have hLl:=hL.len
  have HR:=hid (hok.out L ht)
  have HP0:Hid (g0<P):=Nat.lt_of_lt_of_le HB1.out.lt hp.low
  have HG3:Hid (g0<w2.heap.size):=Nat.lt_trans HP0.out hp.lt
  have HC:=hid (HSt.out L P A c w1 w2 HX1.out ht hp)
  have HVb:=hid (fun a W h1 h2 h3=>HVa.out L a W h1 ht h2 h3)
  have HPl:=hid hp.lt
  obtain⟨⟨X,s1⟩,hX⟩:∃x,stmP (L.length+1) ⟨L,false⟩=x:=⟨_,rfl⟩
  rw[hX]at HC HR HVb
  simp only at HC HR HVb
  clear hX hp HSt HVa hok hbad hx2
  go_wp2_with fail
  refine HC.out.mono ?_
  rintro _ w3 ⟨_,rfl,h1,h2,a1,rfl,h3⟩
  have HS3:=hid h1
  have HF3:=hid h3
  clear h1 h2 h3 HC
  unfold St.val
  go_upto_region 5 with (first|(refine Great.wpList_allocTo rfl _ rfl (.pointer (some ⟨_,0,none⟩)) (.cells #[.int .i64 0,.string ⟨#[]⟩,.slice none 0 0,.slice none 0 0,.slice none 0 0,.slice none 0 0,.slice none 0 0,.slice none 0 0,.slice none 0 0,.slice none 0 0,.int .i64 0,.string ⟨#[]⟩,.string ⟨#[]⟩,.int .i64 0,.int .i64 0,.int .i64 0,.string ⟨#[]⟩,.slice none 0 0,.slice none 0 0,.slice none 0 0,.int .i64 0,.string ⟨#[]⟩] 40) (by kernel_rfl) ?_)|(refine stS' rfl rfl rfl (St.cells X a1) rfl rfl (cs:= [.int .i64 0,.string ⟨#[]⟩,.slice none 0 0,.slice none 0 0,.slice none 0 0,.slice none 0 0,.slice none 0 0,.slice none 0 0,.slice none 0 0,.slice none 0 0,.int .i64 0,.string ⟨#[]⟩,.string ⟨#[]⟩,.int .i64 0,.int .i64 0,.int .i64 0,.string ⟨#[]⟩,.slice none 0 0,.slice none 0 0,.slice none 0 0,.int .i64 0,.string ⟨#[]⟩]) rfl rfl (by kernel_rfl) ?_))
  have hx:=(Ext.refl w3).alloc (.cells ((St.cells X a1)).toArray 40)
  have HS4:=hid (HS3.out.ext hx)
  have HF4:=hid (Stb.ext HF3.out hx)
  have HV4:=hid (Blk.of_new w3 40 (St.cells X a1))
  have HG4:Hid (P<w3.heap.size):=HS3.out.lt
  clear hx HS3 HF3
  generalize hw:World.alloc _ _=w4
  rw[hw]at HS4 HF4 HV4
  obtain⟨g8,hg8⟩:∃g,w3.heap.size=g:=⟨_,rfl⟩
  rw[hg8]at HV4 HG4 ⊢
  clear hw hg8
  go_wp2_with fail
  refine(end_any HS4.out hL).mono ?_
  rintro _ w5 ⟨_,rfl,h1,h2,_⟩
  have HS5:=hid h1
  have HV5:=hid (h2.blk HV4.out (by have:=HG4.out;omega))
  have HF5:=hid (Stb.chg HF4.out h2 HPl.out)
  have HEb:Hid ((endP s1).bad=false→s1.bad=false):=fun h=>by
   unfold endP at h
   split at h
   ·exact h
   ·cases h
  clear h1 h2 HS4 HV4 HF4
  generalize endP s1=s2 at*
  have HB5:=hid (HB1.out.ext HS5.out.base)
  obtain⟨b,off,hA,hb,c0,c1,c2⟩:=HS5.out.cells
  obtain⟨t0,ht0⟩:∃t0,L[0]? =some t0:=⟨_,List.getElem?_eq_getElem (by have:=HS5.out.ne;have:=HS5.out.le;omega)⟩
  have HT0:Hid ((⟨L,false⟩:Ps).hd=t0):=by
   unfold Ps.hd
   cases L with
   |nil=>cases ht0
   |cons a l=>cases ht0;rfl
  obtain⟨b9,off9,hA9,hb9,d0,d1,d2⟩:=HS5.out.tks 0 t0 ht0
  subst hA
  injection hA9 with hA9
  injection hA9 with e1 e2
  subst e1 e2
  rw[Nat.zero_mul,Nat.add_zero]at d0 d1 d2
  have hbg:b≠g0:=not_tok HB5.out (by rfl) d0 d1 d2
  have hbg2:¬(g0=b):=fun e=>hbg e.symm
  have hPg:¬(P=g0):=by have:=HP0.out;omega
  have hPg2:¬(g0=P):=by have:=HP0.out;omega
  have hbg3:¬(b=g0):=hbg
  have hl1:0<L.length:=by have:=HS5.out.ne;have:=HS5.out.le;omega
  have hl0:(0:Int)<(L.length:Int):=by have:=HS5.out.ne;have:=HS5.out.le;omega
  obtain⟨p0,p1,p2,-⟩:=cls HS5.out.blk
  have hi:=HS5.out.lti
  have hne:=HS5.out.ne
  have hle:=HS5.out.le
  clear hb c0 c1 d0 d1 hb9 ht0
  cases hsb:s2.bad
  ·rw[hsb]at p2 HR HEb
   have HVc:=hid (HVb.out a1 w5 (HX1.out.trans HS5.out.base) (HEb.out rfl) HF5.out.now)
   rw[if_neg (by simp)]at HR
   clear HVb HEb
   go_wp2_with (first|(refine ldS rfl rfl _ rfl HV5.out rfl ?_))
   refine HVc.out.mono ?_
   rintro _ w6 ⟨rfl,hx6⟩
   have HS6:=hid (HS5.out.ext hx6)
   have HB6:=hid (HB5.out.ext hx6)
   have HV6:=hid (HV5.out.ext hx6)
   have HF6:=hid (Stb.ext HF5.out hx6)
   replace d2:=hx6.keep d2
   replace p0:=hx6.keep p0
   clear HVc hx6 HS5 HB5 HV5 HF5 p1 p2 c2
   by_cases hv:vld X=0
   ·rw[if_pos hv]at HR
    rw[hv]
    obtain rfl:R=(X,0,0):=HR.out
    clear HR d2 p0
    go_wp2_with (first|(refine ldS rfl rfl _ rfl HV6.out rfl ?_)|(refine stS rfl rfl rfl _ (St.cells X a1) rfl rfl HB6.out rfl rfl (by kernel_rfl) ?_))
    refine bodyPost_ret (v:=_) (bc (p:=2) (q:=3) (r:=4) (ty:=40) rfl _ _ g0 40 _ _ _ (by rfl) (eB HB6.out (St.cells X a1)) Tryz.underlying40 rfl (by kernel_rfl)) rfl ?_
    exact⟨iV (HX1.out.trans HS6.out.base) HG.out _,a1,rfl,(mR HF6.out HG3.out _).weak fun q _ hq=>by have hq:w2.heap.size≤q:=hq;have:=HG3.out;have:=HG2.out;show w.heap.size≤q;omega⟩
   ·rw[if_neg hv]at HR
    obtain rfl:R=(stZ,((t0.pos:Nat):Int),vld X):=by rw[←HT0.out];exact HR.out
    clear HR
    have hz2:=HB6.out.ext (Ext.refl w6).drew
    go_upto_region 10 with fail
    refine wp_region_still_lit (by kernel_rfl) (by kernel_rfl) ?_
    iterate 9 still_step
    refine cX rfl 40 rfl rfl g0 [.int .i64 0,.string ⟨#[]⟩,.slice none 0 0,.slice none 0 0,.slice none 0 0,.slice none 0 0,.slice none 0 0,.slice none 0 0,.slice none 0 0,.slice none 0 0,.int .i64 0,.string ⟨#[]⟩,.string ⟨#[]⟩,.int .i64 0,.int .i64 0,.int .i64 0,.string ⟨#[]⟩,.slice none 0 0,.slice none 0 0,.slice none 0 0,.int .i64 0,.string ⟨#[]⟩] rfl rfl hz2 (by kernel_rfl) (by kernel_rfl) ?_
    iterate 2 still_step
    refine wpStill_nil ?_
    have hxe:=(HX1.out.trans HS6.out.base).trans (Ext.refl w6).drew
    go_wp2_with fail
    refine bodyPost_ret (v:=_) (bc (p:=2) (q:=3) (r:=4) (ty:=40) rfl _ _ g0 40 _ _ _ (by rfl) (hz2) Tryz.underlying40 rfl (by kernel_rfl)) rfl ?_
    exact⟨hxe,fj none none none 0 0 0 0 0 0,rfl,fun u _ _=>j5 u⟩
  ·rw[hsb]at p2 HR
   rw[if_pos rfl]at HR
   obtain rfl:R=(stZ,((s2.hd.pos:Nat):Int),2):=HR.out
   clear HR HVb HEb d2
   have hz2:=HB5.out.ext (Ext.refl w5).drew
   go_upto_region 7 with fail
   refine wp_region_still_lit (by kernel_rfl) (by kernel_rfl) ?_
   iterate 12 still_step
   refine cX rfl 40 rfl rfl g0 [.int .i64 0,.string ⟨#[]⟩,.slice none 0 0,.slice none 0 0,.slice none 0 0,.slice none 0 0,.slice none 0 0,.slice none 0 0,.slice none 0 0,.slice none 0 0,.int .i64 0,.string ⟨#[]⟩,.string ⟨#[]⟩,.int .i64 0,.int .i64 0,.int .i64 0,.string ⟨#[]⟩,.slice none 0 0,.slice none 0 0,.slice none 0 0,.int .i64 0,.string ⟨#[]⟩] rfl rfl hz2 (by kernel_rfl) (by kernel_rfl) ?_
   iterate 2 still_step
   refine wpStill_nil ?_
   have hxe:=(HX1.out.trans HS5.out.base).trans (Ext.refl w5).drew
   go_wp2_with fail
   refine bodyPost_ret (v:=_) (bc (p:=2) (q:=3) (r:=4) (ty:=40) rfl _ _ g0 40 _ _ _ (by rfl) (hz2) Tryz.underlying40 rfl (by kernel_rfl)) rfl ?_
   exact⟨hxe,fj none none none 0 0 0 0 0 0,rfl,fun u _ _=>j5 u⟩
theorem j9 (vld:Ex→Int) (s:ByteArray) (w:World) (hs:s.size≤20000) (hk:Lx.KwAt w)
  (hst:∀(L:List Tk) (P:Nat) (A:Option Addr) (c:Nat) (W0 W:World),Ext w W0→Lx.tokAll s= .ok L→PsAt 68 P A c L W0 W ⟨L,false⟩→Calls Tryz.prog 39 #[.pointer (some ⟨P,0,none⟩)] W (Ran 68 P A c L W0 W (exprP (L.length+1) ⟨L,false⟩).2 fun v w'=>ExG W.heap.size w' (exprP (L.length+1) ⟨L,false⟩).1 v))
  (hva:∀(L:List Tk) (A1:Option Addr) (k1 c1:Nat) (W:World),Ext w W→Lx.tokAll s= .ok L→(exprP (L.length+1) ⟨L,false⟩).2.bad=false→ExV W (exprP (L.length+1) ⟨L,false⟩).1 A1 k1 c1→Calls Tryz.prog 40 #[Nd.val (exprP (L.length+1) ⟨L,false⟩).1.d A1 k1 c1] W fun r w'=>r= .returned (.int .i64 (vld (exprP (L.length+1) ⟨L,false⟩).1))∧Ext W w'):
  Calls Tryz.prog 17 #[.string s] w fun e w'=>Ext w w'∧∃A1 k1 c1,e= .returned (.tuple #[Nd.val (parE vld s).1.d A1 k1 c1,.int .i64 (parE vld s).2.1,.int .i64 (parE vld s).2.2])∧Stb (w.heap.size≤·) w' (fun u=>ExV u (parE vld s).1 A1 k1 c1):=by
 have hbad:∀a x:Nat,Lx.tokAll s= .bad a x→parE vld s=(exZ,(a:Int),(x:Int)):=fun a x h=>by unfold parE;rw[h]
 have hok:∀L,Lx.tokAll s= .ok L→parE vld s=if (endP (exprP (L.length+1) ⟨L,false⟩).2).bad=true then (exZ,((endP (exprP (L.length+1) ⟨L,false⟩).2).hd.pos:Int),2)else if vld (exprP (L.length+1) ⟨L,false⟩).1=0 then ((exprP (L.length+1) ⟨L,false⟩).1,0,0)else (exZ,((⟨L,false⟩:Ps).hd.pos:Int),vld (exprP (L.length+1) ⟨L,false⟩).1):=fun L h=>by
  unfold parE gI
  rw[h]
  simp only
  cases hb:(endP (exprP (L.length+1) ⟨L,false⟩).2).bad<;>simp[hb]
 obtain⟨R,hR⟩:∃R,parE vld s=R:=⟨_,rfl⟩
 rw[hR]at hbad hok ⊢
 have HSt:=hid hst
 have HVa:=hid hva
 replace hok:=hid hok
 replace hbad:=hid hbad
 clear hst hva hR
 go_enter Tryz.func17,Tryz.ntmps17
 go_upto_region 1 with fail
 have HX1:=hid ((Ext.refl w).alloc (.cells #[.int .i64 0,.string ⟨#[]⟩,.string ⟨#[]⟩,.int .i64 0,.int .i64 0,.int .i64 0,.string ⟨#[]⟩,.slice none 0 0] 37))
 have HB1:=hid (Blk.of_new w 37 [.int .i64 0,.string ⟨#[]⟩,.string ⟨#[]⟩,.int .i64 0,.int .i64 0,.int .i64 0,.string ⟨#[]⟩,.slice none 0 0])
 generalize w.alloc (.cells #[.int .i64 0,.string ⟨#[]⟩,.string ⟨#[]⟩,.int .i64 0,.int .i64 0,.int .i64 0,.string ⟨#[]⟩,.slice none 0 0] 37)=w1 at*
 obtain⟨g0,hg0⟩:∃g,w.heap.size=g:=⟨_,rfl⟩
 have HG:Hid (w.heap.size≤g0):=Nat.le_of_eq hg0
 rw[hg0]at HB1 ⊢
 have HG2:=hid hg0
 clear hg0
 go_wp2_with fail
 refine(gY s w1 hs (hk.ext HX1.out)).mono ?_
 rintro _ w2 ⟨hx2,h|h⟩
 ·obtain⟨a,x,ht,hx0,rfl⟩:=h
  have hxi:¬((x:Int)=0):=by omega
  have HX2:=hid (HX1.out.trans hx2)
  have HB2:=hid (HB1.out.ext hx2)
  obtain rfl:=hbad.out a x ht
  clear HX1 HB1 hx2 HSt HVa hok hbad ht
  go_wp2_with (first|(refine wpList_buildTo rfl 37 _ rfl _ rfl #[.int .i64 0,.string ⟨#[]⟩,.string ⟨#[]⟩,.int .i64 0,.int .i64 0,.int .i64 0,.string ⟨#[]⟩,.slice none 0 0] (by kernel_rfl) ?_)|(refine stE rfl rfl rfl _ [.int .i64 0,.string ⟨#[]⟩,.string ⟨#[]⟩,.int .i64 0,.int .i64 0,.int .i64 0,.string ⟨#[]⟩,.slice none 0 0] rfl rfl HB2.out rfl rfl (by kernel_rfl) ?_))
  refine bodyPost_ret (v:=_) (bc (p:=2) (q:=3) (r:=4) (ty:=37) rfl _ _ g0 37 _ _ _ (by rfl) (eB HB2.out [.int .i64 0,.string ⟨#[]⟩,.string ⟨#[]⟩,.int .i64 0,.int .i64 0,.int .i64 0,.string ⟨#[]⟩,.slice none 0 0]) Tryz.underlying37 rfl (by kernel_rfl)) rfl ?_
  exact⟨iV HX2.out HG.out _,none,0,0,rfl,fun u _ _=>jR u⟩
 ·obtain⟨L,P,A,c,ht,rfl,hp⟩:=h
  have hL:=fO ht
  have hLl:=hL.len
  have HR:=hid (hok.out L ht)
  have HP0:Hid (g0<P):=Nat.lt_of_lt_of_le HB1.out.lt hp.low
  have HG3:Hid (g0<w2.heap.size):=Nat.lt_trans HP0.out hp.lt
  have HC:=hid (HSt.out L P A c w1 w2 HX1.out ht hp)
  have HVb:=hid (fun A1 k1 c1 W h1 h2 h3=>HVa.out L A1 k1 c1 W h1 ht h2 h3)
  have HPl:=hid hp.lt
  obtain⟨⟨X,s1⟩,hX⟩:∃x,exprP (L.length+1) ⟨L,false⟩=x:=⟨_,rfl⟩
  rw[hX]at HC HR HVb
  simp only at HC HR HVb
  clear hX hp HSt HVa hok hbad hx2
  go_wp2_with fail
  refine HC.out.mono ?_
  rintro _ w3 ⟨_,rfl,h1,h2,A1,k1,c1,rfl,h3⟩
  have HS3:=hid h1
  have HF3:=hid h3
  clear h1 h2 h3 HC
  unfold Nd.val
  go_upto_region 5 with (first|(refine Great.wpList_allocTo rfl _ rfl (.pointer (some ⟨_,0,none⟩)) (.cells #[.int .i64 0,.string ⟨#[]⟩,.string ⟨#[]⟩,.int .i64 0,.int .i64 0,.int .i64 0,.string ⟨#[]⟩,.slice none 0 0] 37) (by kernel_rfl) ?_)|(refine stE' rfl rfl rfl (X.d.cells A1 k1 c1) rfl rfl (cs:= [.int .i64 0,.string ⟨#[]⟩,.string ⟨#[]⟩,.int .i64 0,.int .i64 0,.int .i64 0,.string ⟨#[]⟩,.slice none 0 0]) rfl rfl (by kernel_rfl) ?_))
  have hx:=(Ext.refl w3).alloc (.cells ((X.d.cells A1 k1 c1)).toArray 37)
  have HS4:=hid (HS3.out.ext hx)
  have HF4:=hid (Stb.ext HF3.out hx)
  have HV4:=hid (Blk.of_new w3 37 (X.d.cells A1 k1 c1))
  have HG4:Hid (P<w3.heap.size):=HS3.out.lt
  clear hx HS3 HF3
  generalize hw:World.alloc _ _=w4
  rw[hw]at HS4 HF4 HV4
  obtain⟨g8,hg8⟩:∃g,w3.heap.size=g:=⟨_,rfl⟩
  rw[hg8]at HV4 HG4 ⊢
  clear hw hg8
  go_wp2_with fail
  refine(end_any HS4.out hL).mono ?_
  rintro _ w5 ⟨_,rfl,h1,h2,_⟩
  have HS5:=hid h1
  have HV5:=hid (h2.blk HV4.out (by have:=HG4.out;omega))
  have HF5:=hid (Stb.chg HF4.out h2 HPl.out)
  have HEb:Hid ((endP s1).bad=false→s1.bad=false):=fun h=>by
   unfold endP at h
   split at h
   ·exact h
   ·cases h
  clear h1 h2 HS4 HV4 HF4
  generalize endP s1=s2 at*
  have HB5:=hid (HB1.out.ext HS5.out.base)
  obtain⟨b,off,hA,hb,c0,c1,c2⟩:=HS5.out.cells
  obtain⟨t0,ht0⟩:∃t0,L[0]? =some t0:=⟨_,List.getElem?_eq_getElem (by have:=HS5.out.ne;have:=HS5.out.le;omega)⟩
  have HT0:Hid ((⟨L,false⟩:Ps).hd=t0):=by
   unfold Ps.hd
   cases L with
   |nil=>cases ht0
   |cons a l=>cases ht0;rfl
  obtain⟨b9,off9,hA9,hb9,d0,d1,d2⟩:=HS5.out.tks 0 t0 ht0
  subst hA
  injection hA9 with hA9
  injection hA9 with e1 e2
  subst e1 e2
  rw[Nat.zero_mul,Nat.add_zero]at d0 d1 d2
  have hbg:b≠g0:=not_tok HB5.out (by rfl) d0 d1 d2
  have hbg2:¬(g0=b):=fun e=>hbg e.symm
  have hPg:¬(P=g0):=by have:=HP0.out;omega
  have hPg2:¬(g0=P):=by have:=HP0.out;omega
  have hbg3:¬(b=g0):=hbg
  have hl1:0<L.length:=by have:=HS5.out.ne;have:=HS5.out.le;omega
  have hl0:(0:Int)<(L.length:Int):=by have:=HS5.out.ne;have:=HS5.out.le;omega
  obtain⟨p0,p1,p2,-⟩:=cls HS5.out.blk
  have hi:=HS5.out.lti
  have hne:=HS5.out.ne
  have hle:=HS5.out.le
  clear hb c0 c1 d0 d1 hb9 ht0
  cases hsb:s2.bad
  ·rw[hsb]at p2 HR HEb
   have HVc:=hid (HVb.out A1 k1 c1 w5 (HX1.out.trans HS5.out.base) (HEb.out rfl) HF5.out.now)
   rw[if_neg (by simp)]at HR
   clear HVb HEb
   go_wp2_with (first|(refine ldE rfl rfl _ rfl HV5.out rfl ?_))
   refine HVc.out.mono ?_
   rintro _ w6 ⟨rfl,hx6⟩
   have HS6:=hid (HS5.out.ext hx6)
   have HB6:=hid (HB5.out.ext hx6)
   have HV6:=hid (HV5.out.ext hx6)
   have HF6:=hid (Stb.ext HF5.out hx6)
   replace d2:=hx6.keep d2
   replace p0:=hx6.keep p0
   clear HVc hx6 HS5 HB5 HV5 HF5 p1 p2 c2
   by_cases hv:vld X=0
   ·rw[if_pos hv]at HR
    rw[hv]
    obtain rfl:R=(X,0,0):=HR.out
    clear HR d2 p0
    go_wp2_with (first|(refine ldE rfl rfl _ rfl HV6.out rfl ?_)|(refine stE rfl rfl rfl _ (X.d.cells A1 k1 c1) rfl rfl HB6.out rfl rfl (by kernel_rfl) ?_))
    refine bodyPost_ret (v:=_) (bc (p:=2) (q:=3) (r:=4) (ty:=37) rfl _ _ g0 37 _ _ _ (by rfl) (eB HB6.out (X.d.cells A1 k1 c1)) Tryz.underlying37 rfl (by kernel_rfl)) rfl ?_
    exact⟨iV (HX1.out.trans HS6.out.base) HG.out _,A1,k1,c1,rfl,(mR HF6.out HG3.out _).weak fun q _ hq=>by have hq:w2.heap.size≤q:=hq;have:=HG3.out;have:=HG2.out;show w.heap.size≤q;omega⟩
   ·rw[if_neg hv]at HR
    obtain rfl:R=(exZ,((t0.pos:Nat):Int),vld X):=by rw[←HT0.out];exact HR.out
    clear HR
    have hz2:=HB6.out.ext (Ext.refl w6).drew
    go_upto_region 10 with fail
    refine wp_region_still_lit (by kernel_rfl) (by kernel_rfl) ?_
    iterate 9 still_step
    refine cX rfl 37 rfl rfl g0 [.int .i64 0,.string ⟨#[]⟩,.string ⟨#[]⟩,.int .i64 0,.int .i64 0,.int .i64 0,.string ⟨#[]⟩,.slice none 0 0] rfl rfl hz2 (by kernel_rfl) (by kernel_rfl) ?_
    iterate 2 still_step
    refine wpStill_nil ?_
    have hxe:=(HX1.out.trans HS6.out.base).trans (Ext.refl w6).drew
    go_wp2_with fail
    refine bodyPost_ret (v:=_) (bc (p:=2) (q:=3) (r:=4) (ty:=37) rfl _ _ g0 37 _ _ _ (by rfl) (hz2) Tryz.underlying37 rfl (by kernel_rfl)) rfl ?_
    exact⟨hxe,none,0,0,rfl,fun u _ _=>jR u⟩
  ·rw[hsb]at p2 HR
   rw[if_pos rfl]at HR
   obtain rfl:R=(exZ,((s2.hd.pos:Nat):Int),2):=HR.out
   clear HR HVb HEb d2
   have hz2:=HB5.out.ext (Ext.refl w5).drew
   go_upto_region 7 with fail
   refine wp_region_still_lit (by kernel_rfl) (by kernel_rfl) ?_
   iterate 12 still_step
   refine cX rfl 37 rfl rfl g0 [.int .i64 0,.string ⟨#[]⟩,.string ⟨#[]⟩,.int .i64 0,.int .i64 0,.int .i64 0,.string ⟨#[]⟩,.slice none 0 0] rfl rfl hz2 (by kernel_rfl) (by kernel_rfl) ?_
   iterate 2 still_step
   refine wpStill_nil ?_
   have hxe:=(HX1.out.trans HS5.out.base).trans (Ext.refl w5).drew
   go_wp2_with fail
   refine bodyPost_ret (v:=_) (bc (p:=2) (q:=3) (r:=4) (ty:=37) rfl _ _ g0 37 _ _ _ (by rfl) (hz2) Tryz.underlying37 rfl (by kernel_rfl)) rfl ?_
   exact⟨hxe,none,0,0,rfl,fun u _ _=>jR u⟩
end
section
open Lx (Tk)
theorem mT:(Tryz.prog.info? 40).map (fun i=> (i.zero,i.size,i.bytes))=some (some (.agg #[.int .i64 0,.string ⟨#[]⟩,.slice none 0 0,.slice none 0 0,.slice none 0 0,.slice none 0 0,.slice none 0 0,.slice none 0 0,.slice none 0 0,.slice none 0 0,.int .i64 0,.string ⟨#[]⟩,.string ⟨#[]⟩,.int .i64 0,.int .i64 0,.int .i64 0,.string ⟨#[]⟩,.slice none 0 0,.slice none 0 0,.slice none 0 0,.int .i64 0,.string ⟨#[]⟩]),22,392):=by kernel_rfl
def Phist (x:St) (cs:List Value) (w:World):Prop:=∃a,cs=x.cells a∧StW w x a
theorem bsS {ops:Array Oper} {rest:List Oper} {o:Oper} {a:Act} {w:World} {Q:Exit→Act→World→Prop} {x:Operand} (hgd:o.guard=none) (ho:o.op= .buildSlice 49 1 #[(0,x)]) (X:St) (b:SA) (hx:a.eval x= .agg (X.cells b).toArray)
  (h:wpList Tryz.prog ops Q rest (a.put o.dst (.slice (some ⟨w.heap.size,0,none⟩) 1 1)) (w.alloc (.cells (X.cells b).toArray 40))):wpList Tryz.prog ops Q (o::rest) a w:=by
 obtain⟨ie,hie,h0,h1,h2⟩:=fN mT
 refine wpList_buildSlice hgd _ 40 1 _ ho _ ie _ rfl hie h0 (by rw[h1];decide) (by rw[h1];decide) ?_ h
 rw[h1]
 simp only[List.map_toArray,List.map_cons,List.map_nil,hx]
 kernel_rfl
theorem cL.nil {α:Type} {Φ:α→List Value→World→Prop} {T sz n0:Nat} {w:World} :cL Φ T sz n0 w (.slice none 0 0) [] []:=⟨rfl,by simp,⟨by simp,.inl ⟨rfl,rfl⟩⟩,fun i a cs h=>by simp at h⟩
theorem st_one (X:St) (a:SA):∀u∈X.cells a,u.oneCell'=true:=List.all_eq_true.1 (by rfl:(X.cells a).all (·.oneCell')=true)
theorem nM (stm:M St) (vld:St→Int) (n:Nat) (out:List St) (s:Ps):kj stm vld (n+1) out s=if s.hd.kind=0 then .inr out
  else if (needP f7 (stm s).2).bad=true then .inl ((needP f7 (stm s).2).hd.pos,2)
  else if vld (stm s).1≠0 then .inl (s.hd.pos,vld (stm s).1)
  else kj stm vld n (out++ [(stm s).1]) (needP f7 (stm s).2):=rfl
theorem need_ok {t:ByteArray} {s:Ps} (h:(needP t s).bad=false):s.bad=false∧(needP t s).r.length<s.r.length:=by
 unfold needP at h ⊢
 split at h
 ·next h1=>
  rw[if_pos h1]
  exact⟨(bx h1).1,by have:=aP h1;omega⟩
 ·cases h
def lOf:((Nat×Int) ⊕ List St)→List St×Int×Int
 | .inl q=> ([],(q.1:Int),q.2)
 | .inr l=> (l,0,0)
theorem script_fn (vld:St→Int) (s:ByteArray) (w:World) (hs:s.size≤20000) (hk:Lx.KwAt w)
  (hst:∀(L:List Tk) (P:Nat) (A:Option Addr) (c:Nat) (W:World) (st:Ps),Lx.tokAll s= .ok L→PsAt 68 P A c L w W st→Calls Tryz.prog 29 #[.pointer (some ⟨P,0,none⟩)] W (Ran 68 P A c L w W (stmP (L.length+1) st).2 fun v w'=>ElSt W.heap.size w' (stmP (L.length+1) st).1 v))
  (hva:∀(L:List Tk) (st:Ps) (a:SA) (W:World),Ext w W→Lx.tokAll s= .ok L→st.r=L.drop (L.length-st.r.length)→st.bad=false→(stmP (L.length+1) st).2.bad=false→StW W (stmP (L.length+1) st).1 a→Calls Tryz.prog 31 #[St.val (stmP (L.length+1) st).1 a] W fun r w'=>r= .returned (.int .i64 (vld (stmP (L.length+1) st).1))∧Ext W w'):
  Calls Tryz.prog 20 #[.string s] w fun e w'=>Ext w w'∧∃B k,e= .returned (.tuple #[.slice B (parL vld s).1.length k,.int .i64 (parL vld s).2.1,.int .i64 (parL vld s).2.2])∧(parL vld s).1.length≤20001∧Stb (w.heap.size≤·) w' (fun u=>Lst Phist 22 u B (parL vld s).1):=by
 have hbad:∀a x:Nat,Lx.tokAll s= .bad a x→parL vld s=([],(a:Int),(x:Int)):=fun a x h=>by unfold parL;rw[h]
 have hok:∀L,Lx.tokAll s= .ok L→parL vld s=lOf (kj (stmP (L.length+1)) vld (L.length+1) [] ⟨L,false⟩):=fun L h=>by
  unfold parL lOf
  rw[h]
  rfl
 obtain⟨R,hR⟩:∃R,parL vld s=R:=⟨_,rfl⟩
 rw[hR]at hbad hok ⊢
 obtain⟨ie,hie,hi0,hi1,hi2⟩:=fN mT
 have HSt:=hid hst
 have HVa:=hid hva
 replace hok:=hid hok
 replace hbad:=hid hbad
 clear hst hva hR
 go_enter Tryz.func20,Tryz.ntmps20
 go_wp2_with fail
 refine(gY s w hs hk).mono ?_
 rintro _ w2 ⟨hx2,h|h⟩
 ·obtain⟨a,x,ht,hx0,rfl⟩:=h
  have hxi:¬((x:Int)=0):=by omega
  obtain rfl:=hbad.out a x ht
  clear HSt HVa hok hbad ht
  go_wp2_with fail
  go_ret3
  exact⟨hx2,none,⟨0,rfl⟩,fun u _ _=>cW⟩
 ·obtain⟨L,P,A,c,ht,rfl,hp⟩:=h
  have hL:=fO ht
  have hLl:=hL.len
  have HR:=hid (hok.out L ht)
  have HC:=hid (fun W st=>HSt.out L P A c W st ht)
  have HVb:=hid (fun st a W h1=>HVa.out L st a W h1 ht)
  have HPl:=hid hp.lt
  have HWs:Hid (w.heap.size≤w2.heap.size):=hx2.size
  have HS2:=hid hp
  clear hp HSt HVa hok hbad hx2
  go_upto_region 5 with fail
  go_loopw [8] (fun vv wr=> ∃(m:Nat) (st:Ps) (l:List St) (css:List (List Value)),st.r.length<m∧l.length+st.r.length≤L.length+1∧st.bad=false∧R=lOf (kj (stmP (L.length+1)) vld m l st)∧w2.heap.size≤wr.heap.size∧PsAt 68 P A c L w wr st∧cL Phist 40 22 w2.heap.size wr vv l css) (fun _ wr=>20001-posOf P wr)
  case atStart=>exact⟨_,⟨L,false⟩,[],[],by simp,by simp,rfl,HR.out,Nat.le_refl _,HS2.out,cL.nil⟩
  case round=>
   obtain⟨m,st,l,css,hm,hll,hnb,hI,hwr,hps,hrow⟩:=hrel
   obtain⟨m,rfl⟩:∃x,m=x+1:=⟨m-1,by omega⟩
   rw[nM]at hI
   have HI:=hid hI
   have HRw:=hid hrow
   have HS:=hid hps
   have HMs:Hid (posOf P wr=L.length-st.r.length):=hps.posOf
   have hle0:=hps.le
   have hne0:=hps.ne
   have hsuf:=hid hps.suf
   clear hI hrow hps HR HS2
   generalize wr=w20 at*
   go_wp2_with fail
   refine(eY HS.out hL 0).mono ?_
   rintro _ w21 ⟨rfl,hx⟩
   replace HS:=hid (HS.out.ext hx)
   replace HRw:=hid (HRw.out.ext hx)
   have hw21:w2.heap.size≤w21.heap.size:=Nat.le_trans hwr hx.size
   clear hx hwr
   cases hk0:hasK 0 st
   ·have hkn:¬st.hd.kind=0:=fun e=>by unfold hasK at hk0;rw[hnb,e]at hk0;cases hk0
    rw[if_neg hkn]at HI
    obtain⟨⟨X,s1⟩,hX⟩:∃x,stmP (L.length+1) st=x:=⟨_,rfl⟩
    have hfw:s1.r.length≤st.r.length:=by
     obtain⟨B,h1,_⟩:=(rdy_stm (L.length+1)).sfx st
     rw[hX]at h1
     have h2:=congrArg List.length h1
     simp only[List.length_append]at h2
     omega
    have HCs:=hid (fun W h=>HC.out W st h)
    have HVc:=hid (fun a W h1 h2=>HVb.out st a W h1 hsuf.out hnb h2)
    rw[hX]at HI HCs HVc
    simp only at HI HCs HVc
    clear hX HC HVb
    obtain⟨b,off,hA,hb,c0,c1,c2⟩:=HS.out.cells
    subst hA
    obtain⟨p0,p1,-⟩:=cls HS.out.blk
    have hi:=HS.out.lti
    have hl1:L.length-st.r.length<L.length:=by omega
    replace HS:=hid (HS.out.ext (Ext.refl w21).drew)
    replace HRw:=hid (HRw.out.ext (Ext.refl w21).drew)
    go_upto_region 6 with fail
    refine wp_region_still_lit (by kernel_rfl) (by kernel_rfl) ?_
    iterate 12 still_step
    refine wpStill_nil ?_
    clear hb c0 c1 c2 p0 p1 hi
    have HW22:Hid (w2.heap.size≤w21.drew.heap.size):=hw21
    clear hw21
    have hw9:({ w21 with drawn:=w21.drawn+1 } :World)=w21.drew:=rfl
    rw[hw9]
    clear hw9
    generalize w21.drew=w22 at*
    go_wp2_with fail
    refine(HCs.out w22 HS.out).mono ?_
    have HPq:=hid HS.out.lt
    have HOl:=hid (fun q hq=> (HRw.out.own.lt q hq).2)
    rintro _ w3 ⟨_,rfl,h1,h2,a1,rfl,h3⟩
    have HS3:=hid h1
    have HF3:=hid h3
    have HG3:Hid (P<w3.heap.size):=h1.lt
    have HRw3:=hid (HRw.out.chg h2 HPl.out)
    have HRw3z:Hid (w2.heap.size≤w3.heap.size):=Nat.le_trans HW22.out h2.size
    clear h1 h2 h3 HCs HRw HS
    unfold St.val
    go_upto_region 8 with (first|(refine Great.wpList_allocTo rfl _ rfl (.pointer (some ⟨_,0,none⟩)) (.cells #[.int .i64 0,.string ⟨#[]⟩,.slice none 0 0,.slice none 0 0,.slice none 0 0,.slice none 0 0,.slice none 0 0,.slice none 0 0,.slice none 0 0,.slice none 0 0,.int .i64 0,.string ⟨#[]⟩,.string ⟨#[]⟩,.int .i64 0,.int .i64 0,.int .i64 0,.string ⟨#[]⟩,.slice none 0 0,.slice none 0 0,.slice none 0 0,.int .i64 0,.string ⟨#[]⟩] 40) (by kernel_rfl) ?_)|(refine stS' rfl rfl rfl (St.cells X a1) rfl rfl (cs:= [.int .i64 0,.string ⟨#[]⟩,.slice none 0 0,.slice none 0 0,.slice none 0 0,.slice none 0 0,.slice none 0 0,.slice none 0 0,.slice none 0 0,.slice none 0 0,.int .i64 0,.string ⟨#[]⟩,.string ⟨#[]⟩,.int .i64 0,.int .i64 0,.int .i64 0,.string ⟨#[]⟩,.slice none 0 0,.slice none 0 0,.slice none 0 0,.int .i64 0,.string ⟨#[]⟩]) rfl rfl (by kernel_rfl) ?_))
    have hx:=(Ext.refl w3).alloc (.cells ((St.cells X a1)).toArray 40)
    replace HS3:=hid (HS3.out.ext hx)
    replace HF3:=hid (Stb.ext HF3.out hx)
    replace HRw3:=hid (HRw3.out.ext hx)
    have HV3:=hid (Blk.of_new w3 40 (St.cells X a1))
    have HRw4z:Hid (w2.heap.size≤(w3.alloc (.cells ((St.cells X a1)).toArray 40)).heap.size):=Nat.le_trans HRw3z.out hx.size
    clear hx
    generalize hw:World.alloc _ _=w4
    rw[hw]at HRw4z HS3 HF3 HV3 HRw3
    obtain⟨g8,hg8⟩:∃g,w3.heap.size=g:=⟨_,rfl⟩
    rw[hg8]at HV3 HG3 ⊢
    clear hw hg8
    go_wp2_with fail
    refine(pneed HS3.out hL f7).mono ?_
    rintro _ w5 ⟨_,rfl,h1,h2⟩
    have HS5:=hid h1
    have HV5:=hid (h2.blk HV3.out (by have:=HG3.out;omega))
    have HF5:=hid (Stb.chg HF3.out h2 HPq.out)
    have HRw5:=hid (HRw3.out.chg h2 HPl.out)
    have HRw5z:Hid (w2.heap.size≤w5.heap.size):=Nat.le_trans HRw4z.out h2.size
    clear h1 h2 HS3 HV3 HF3 HRw3
    have hnk:=need_ok (t:=f7) (s:=s1)
    generalize needP f7 s1=s2 at*
    obtain⟨b2,off2,hA,hb,c0,c1,c2⟩:=HS5.out.cells
    injection hA with hA
    injection hA with e1 e2
    subst e1 e2
    obtain⟨p0,p1,p2,-⟩:=cls HS5.out.blk
    have hi:=HS5.out.lti
    have hne2:=HS5.out.ne
    have hle2:=HS5.out.le
    have hl2:L.length-s2.r.length<L.length:=by omega
    cases hsb:s2.bad
    ·rw[hsb]at p2 HI
     rw[if_neg (by simp)]at HI
     obtain⟨hn1,hn2⟩:=hnk hsb
     replace HVc:=hid (HVc.out a1 w5 HS5.out.base hn1 HF5.out.now)
     go_wp2_with (first|(refine ldS rfl rfl _ rfl HV5.out rfl ?_))
     refine HVc.out.mono ?_
     rintro _ w6 ⟨rfl,hx6⟩
     have HS6:=hid (HS5.out.ext hx6)
     have HV6:=hid (HV5.out.ext hx6)
     have HF6:=hid (Stb.ext HF5.out hx6)
     have HRw6:=hid (HRw5.out.ext hx6)
     have HRw6z:Hid (w2.heap.size≤w6.heap.size):=Nat.le_trans HRw5z.out hx6.size
     clear HVc hx6 HS5 HV5 HF5 HRw5 p0 p1 p2 c0 c1 c2 hi hb
     by_cases hv:vld X=0
     ·rw[if_neg (by simp[hv])]at HI
      rw[hv]
      have hxa:=(Ext.refl w6).alloc (.cells ((St.cells X a1)).toArray 40)
      have HS7:=hid (HS6.out.ext hxa)
      have HRw7:=hid (HRw6.out.ext hxa)
      have hnew:Stb (fun q=>w2.heap.size≤q∧u8.ownBlock≠some q) (w6.alloc (.cells ((St.cells X a1)).toArray 40)) (Phist X (St.cells X a1)):=Stb.ext ((HF6.out.weak fun q hq hn=>⟨Nat.le_trans HW22.out hn,fun e=>by
       have:=HOl.out q e
       have hn:w22.heap.size≤q:=hn
       omega⟩).imp fun u h=>⟨a1,rfl,h⟩) hxa
      have HNew:=hid hnew
      have HSzw:Hid (w2.heap.size≤(w6.alloc (.cells ((St.cells X a1)).toArray 40)).heap.size):=Nat.le_trans HRw6z.out hxa.size
      clear hnew hxa HRw6 HF6 HS6
      go_wp2_with (first|(at_builtin;refine ao _ rfl (.tmp 62) (.tmp 64) 49 rfl w2.heap.size 40 ie _ 22 392 Tryz.underlying49 hie hi0 hi1 hi2 rfl (by decide) _ l.length _ rfl HRw7.out.own _ _ 1 1 (St.cells X a1) rfl (eC w6 (St.cells X a1) 40 22 rfl) (st_one X a1) (by unfold maxLen;omega) (by omega) HSzw.out ?_;intro v7 w7 hown7 hgr7 hblk7)|(refine ldS rfl rfl _ rfl HV6.out rfl ?_)|(refine bsS rfl rfl X a1 rfl ?_))
      have hpush:=HRw7.out.push rfl hown7 hgr7 hblk7 HNew.out
      have hg7:∀q,u8.ownBlock=some q→w2.heap.size≤q:=fun q hq=> (HRw7.out.own.lt q hq).1
      have HP7:=hid (HS7.out.grown hgr7 (fun q hq=>Nat.lt_of_lt_of_le HPl.out (hg7 q hq)))
      exact⟨⟨m,s2,_,_,by omega,by rw[List.length_append,List.length_singleton];omega,hsb,HI.out,Nat.le_trans HSzw.out (World.grownBy.size hgr7),HP7.out,hpush⟩,by rw[HP7.out.posOf,HMs.out];omega⟩
     ·rw[if_pos hv]at HI
      obtain rfl:R=([],((st.hd.pos:Nat):Int),vld X):=HI.out
      go_wp2_with fail
      go_ret3
      exact⟨HS6.out.base,none,⟨0,rfl⟩,fun u _ _=>cW⟩
    ·rw[hsb]at p2 HI
     rw[if_pos rfl]at HI
     obtain rfl:R=([],((s2.hd.pos:Nat):Int),2):=HI.out
     go_upto_region 10 with fail
     refine wp_region_still_lit (by kernel_rfl) (by kernel_rfl) ?_
     iterate 14 still_step
     refine wpStill_nil ?_
     have hxe:=HS5.out.base.trans (Ext.refl w5).drew
     go_wp2_with fail
     go_ret3
     exact⟨hxe,none,⟨0,rfl⟩,fun u _ _=>cW⟩
   ·have hkn:st.hd.kind=0:=by unfold hasK at hk0;rw[hnb]at hk0;simpa using hk0
    rw[if_pos hkn]at HI
    obtain⟨B,k,hv,hst⟩:=HRw.out.fin
    subst hv
    obtain rfl:R=(l,0,0):=HI.out
    clear HI HC HVb
    go_wp2_with fail
    go_ret3
    exact⟨HS.out.base,B,⟨k,rfl⟩,by show l.length≤_;omega,hst.weak fun q _ hq=>Nat.le_trans HWs.out hq⟩
end
section
open Lx (Tk)
theorem read_at {s:ByteArray} {L:List Tk} (h:Lx.tokAll s= .ok L) {st:Ps} (hst:st.r=L.drop (L.length-st.r.length)) {n:Nat} (hn:L.length<n) (hb:(stmP n st).2.bad=false):
  (stmP n st).1.formed=true∧(stmP n st).1.all.length≤100000∧(largeB (stmP n st).1.all=false→(stmP n st).1.bulk≤100000):=by
 have h1:=wsm_all h
 have h0:wsm st.r≤wsm L:=by
  have e:wsm (L.take (L.length-st.r.length)++L.drop (L.length-st.r.length))=wsm L:=by rw[List.take_append_drop]
  rw[wsm_app,←hst]at e
  omega
 have h2:=lin_stmt (jo n) andL st
 have h3:(stmP n st).1.cst≤65548:=by
  unfold stmP
  omega
 have hlen:st.r.length<n:=by
  rw[hst,List.length_drop]
  omega
 have hf:(stmP n st).1.formed=true:=((yld_stm n st ⟨hlen,fun a ha=>gt_of h a (List.mem_of_mem_drop (hst ▸ ha))⟩).2 hb).1
 refine⟨hf,by have:=all_cst (stmP n st).1;omega,fun hl=>?_⟩
 have h4:=bulk_cst hf
 have h5:=ik hl
 omega
structure Pg (w:World):Prop where
 gd:Gd w
 er:Er w
 kw:Lx.KwAt w
theorem Pg.ext {w w':World} (h:Pg w) (hx:Ext w w'):Pg w':=⟨h.gd.ext hx,lm h.er hx,h.kw.ext hx⟩
theorem j6 {s:ByteArray} {L:List Tk} (h:Lx.tokAll s= .ok L) {st:Ps} (hst:st.r=L.drop (L.length-st.r.length)) {n:Nat} (hn:L.length<n) (hb:(stmP n st).2.bad=false) {a:SA} {W:World} (hg:Gd W) (hv:StW W (stmP n st).1 a):
  Calls Tryz.prog 31 #[St.val (stmP n st).1 a] W fun r w'=>r= .returned (.int .i64 (validS (stmP n st).1))∧Ext W w':=by
 obtain⟨_,h1,h2⟩:=read_at h hst hn hb
 cases hl:largeB (stmP n st).1.all
 ·exact ny _ a W hg hv.1 hv.2.1 hv.2.2 (Nat.le_trans (h2 hl) (by omega))
 ·refine(lp _ a W hv.1 (by omega) hl).mono fun r w' k=>⟨?_,k.2⟩
  unfold validS
  rw[if_pos hl]
  exact k.1
section
variable {P c:Nat} {A:Option Addr} {L:List Tk} {w0 w:World} {s:Ps}
end
theorem cT (s:ByteArray) (w:World) (hs:s.size≤20000) (hg:Pg w):
  Calls Tryz.prog 17 #[.string s] w fun e w'=>Ext w w'∧∃A1 k1 c1,e= .returned (.tuple #[Nd.val (parE validE s).1.d A1 k1 c1,.int .i64 (parE validE s).2.1,.int .i64 (parE validE s).2.2])∧Stb (w.heap.size≤·) w' (fun u=>ExV u (parE validE s).1 A1 k1 c1):=
 j9 validE s w hs hg.kw (fun L P A c W0 W hx ht hp=>jO (lm hg.er hx) (fO ht) _ _ _ hp (Nat.lt_succ_self _))
  (fun L A1 k1 c1 W hx ht hb hv=>valid_any _ A1 k1 c1 W hv (hg.gd.ext hx).sh)
end
section
open Lx (Tk)
def noK (s:ByteArray):Bool:=
 match Lx.tokAll s with
 | .ok L=>L.all fun a=>!(isS kCREATE ⟨[a],false⟩||isS dF ⟨[a],false⟩||isS dG ⟨[a],false⟩)
 |_=>true
theorem noK_is {s:ByteArray} {L:List Tk} (hn:noK s=true) (h:Lx.tokAll s= .ok L) {st:Ps} (hst:st.r=L.drop (L.length-st.r.length)):isS kCREATE st=false∧isS dF st=false∧isS dG st=false:=by
 unfold noK at hn
 rw[h]at hn
 simp only at hn
 have H:∀t:ByteArray,isS t st=true→∃a∈L,isS t ⟨[a],false⟩=true:=fun t ht=>by
  obtain⟨hb,a,l,h1,h2,h3,h4⟩:=bx ht
  refine⟨a,List.mem_of_mem_drop (i:=L.length-st.r.length) (hst ▸ (by rw[h1];simp)),?_⟩
  obtain⟨r,b⟩:=st
  simp only at hb h1
  subst hb h1
  exact ht
 have K:∀a∈L,isS kCREATE ⟨[a],false⟩=false∧isS dF ⟨[a],false⟩=false∧isS dG ⟨[a],false⟩=false:=fun a ha=>by
  have h1:=List.all_eq_true.1 hn a ha
  simp only[Bool.not_eq_true',Bool.or_eq_false_iff]at h1
  exact⟨h1.1.1,h1.1.2,h1.2⟩
 refine⟨?_,?_,?_⟩<;>refine Bool.eq_false_iff.2 fun ht=>?_
 ·obtain⟨a,ha,h1⟩:=H _ ht
  rw[(K a ha).1]at h1
  cases h1
 ·obtain⟨a,ha,h1⟩:=H _ ht
  rw[(K a ha).2.1]at h1
  cases h1
 ·obtain⟨a,ha,h1⟩:=H _ ht
  rw[(K a ha).2.2]at h1
  cases h1
section
variable {P c:Nat} {A:Option Addr} {L:List Tk} {w0 w:World} {s:Ps}
theorem stm_few {n:Nat} (hE:Er w0) (hL:TkL L) (hn:s.r.length<n) (hp:PsAt 68 P A c L w0 w s) (hk:isS kCREATE s=false∧isS dF s=false∧isS dG s=false):
  Calls Tryz.prog 29 #[.pointer (some ⟨P,0,none⟩)] w (Ran 68 P A c L w0 w (stmP n s).2 fun v w'=>ElSt w.heap.size w' (stmP n s).1 v):=by
 have hr:=jO (P:=P) (A:=A) (c:=c) hE hL n
 have hf:=dr n
 unfold stmP
 exact lC hr hn hp hL (fun h=>absurd h (by rw[hk.1];simp)) (fun _ W st h hs=>query_rd hr hf hs hE h hL) (fun h=>absurd h (by rw[hk.2.1];simp)) (fun h=>absurd h (by rw[hk.2.2];simp))
end
theorem fq (s:ByteArray) (w:World) (hs:s.size≤20000) (hg:Pg w) (hn:noK s=true):
  Calls Tryz.prog 13 #[.string s] w fun e w'=>Ext w w'∧∃a,e= .returned (.tuple #[St.val (parS validS s).1 a,.int .i64 (parS validS s).2.1,.int .i64 (parS validS s).2.2])∧Stb (w.heap.size≤·) w' (fun u=>StW u (parS validS s).1 a):=
 lD validS s w hs hg.kw (fun L P A c W0 W hx ht hp=>stm_few (lm hg.er hx) (fO ht) (Nat.lt_succ_self _) hp (noK_is hn ht (by simp)))
  (fun L a W hx ht hb hv=>j6 ht (st:=⟨L,false⟩) (by simp) (Nat.lt_succ_self _) hb (hg.gd.ext hx) hv)
theorem nN (s:ByteArray) (w:World) (hs:s.size≤20000) (hg:Pg w) (hn:noK s=true):
  Calls Tryz.prog 20 #[.string s] w fun e w'=>Ext w w'∧∃B k,e= .returned (.tuple #[.slice B (parL validS s).1.length k,.int .i64 (parL validS s).2.1,.int .i64 (parL validS s).2.2])∧(parL validS s).1.length≤20001∧Stb (w.heap.size≤·) w' (fun u=>Lst Phist 22 u B (parL validS s).1):=
 script_fn validS s w hs hg.kw (fun L P A c W st ht hp=>stm_few hg.er (fO ht) (Nat.lt_succ_of_le hp.le) hp (noK_is hn ht hp.suf))
  (fun L st a W hx ht hsuf hnb hb hv=>j6 ht hsuf (Nat.lt_succ_self _) hb (hg.gd.ext hx) hv)
end
section
open Lx (Tk)
theorem awake_few (w:World) (hg:Pg w):Calls Tryz.prog 11 #[] w fun e w'=>e= .returned (.bool true)∧Ext w w':=by
 have HG:=hid hg
 have HX:=hid (Ext.refl w)
 have HE1:=hid (fun W h=>cT aw1 W (by decide) h)
 have HE4:=hid (fun W h=>cT aw4 W (by decide) h)
 have HS2:=hid (fun W h=>fq aw2 W (by decide) h (by kernel_rfl))
 have HS3:=hid (fun W h=>fq aw3 W (by decide) h (by kernel_rfl))
 have HL5:=hid (fun W h=>nN aw5 W (by decide) h (by kernel_rfl))
 have a1:=aw_1
 have a1t:=aw_1t
 have a2:=aw_2
 have a2t:=aw_2t
 have a2f:=aw_2f
 have a3:=aw_3
 have a4:=aw_4
 have a5:=aw_5
 have a5n:=aw_5n
 generalize parE validE aw1=R1 at*
 generalize parE validE aw4=R4 at*
 generalize parS validS aw2=R2 at*
 generalize parS validS aw3=R3 at*
 generalize parL validS aw5=R5 at*
 obtain⟨e1,r1⟩:=R1
 obtain⟨e4,r4⟩:=R4
 obtain⟨s2,r2⟩:=R2
 obtain⟨s3,r3⟩:=R3
 obtain⟨l5,r5⟩:=R5
 simp only at a1 a2 a3 a4 a5 a1t a2t a2f a5n HE1 HE4 HS2 HS3 HL5
 subst a1 a2 a3 a4 a5
 simp only at HE1 HE4 HS2 HS3 HL5
 have HT:=hid a1t
 have HT2:=hid a2t
 have HF2:=hid a2f
 have HN5:=hid a5n
 clear a1t a2t a2f a5n hg
 go_enter Tryz.func11,Tryz.ntmps11
 go_wp2_with fail
 refine(HE1.out w HG.out).mono ?_
 rintro _ w1 ⟨hx,A1,k1,c1,rfl,h3⟩
 replace HX:=hid (HX.out.trans hx)
 clear hx
 have HV1:=hid h3.now
 clear h3 HE1
 unfold Nd.val
 go_upto_region 2 with (first|(refine Great.wpList_allocTo rfl _ rfl (.pointer (some ⟨_,0,none⟩)) (.cells #[.int .i64 0,.string ⟨#[]⟩,.string ⟨#[]⟩,.int .i64 0,.int .i64 0,.int .i64 0,.string ⟨#[]⟩,.slice none 0 0] 37) (by kernel_rfl) ?_)|(refine stE' rfl rfl rfl (e1.d.cells A1 k1 c1) rfl rfl (cs:= [.int .i64 0,.string ⟨#[]⟩,.string ⟨#[]⟩,.int .i64 0,.int .i64 0,.int .i64 0,.string ⟨#[]⟩,.slice none 0 0]) rfl rfl (by kernel_rfl) ?_))
 have hx:=(Ext.refl w1).alloc (.cells ((e1.d.cells A1 k1 c1)).toArray 37)
 have HB1:=hid (Blk.of_new w1 37 (e1.d.cells A1 k1 c1))
 replace HX:=hid (HX.out.trans hx)
 replace HV1:=hid (HV1.out.ext hx)
 clear hx
 generalize hw:World.alloc _ _=w2
 obtain⟨g1,hg1⟩:∃g,w1.heap.size=g:=⟨_,rfl⟩
 rw[hw,hg1]at HB1
 rw[hw]at HX HV1
 rw[hg1]
 clear hw hg1
 go_wp2_with fail
 refine(HS2.out w2 (HG.out.ext HX.out)).mono ?_
 rintro _ w3 ⟨hx,b2,rfl,h3⟩
 replace HX:=hid (HX.out.trans hx)
 replace HV1:=hid (HV1.out.ext hx)
 replace HB1:=hid (HB1.out.ext hx)
 clear hx
 have HV2:=hid h3.now.1
 clear h3 HS2
 unfold St.val
 go_upto_region 3 with (first|(refine Great.wpList_allocTo rfl _ rfl (.pointer (some ⟨_,0,none⟩)) (.cells #[.int .i64 0,.string ⟨#[]⟩,.slice none 0 0,.slice none 0 0,.slice none 0 0,.slice none 0 0,.slice none 0 0,.slice none 0 0,.slice none 0 0,.slice none 0 0,.int .i64 0,.string ⟨#[]⟩,.string ⟨#[]⟩,.int .i64 0,.int .i64 0,.int .i64 0,.string ⟨#[]⟩,.slice none 0 0,.slice none 0 0,.slice none 0 0,.int .i64 0,.string ⟨#[]⟩] 40) (by kernel_rfl) ?_)|(refine stS' rfl rfl rfl (St.cells s2 b2) rfl rfl (cs:= [.int .i64 0,.string ⟨#[]⟩,.slice none 0 0,.slice none 0 0,.slice none 0 0,.slice none 0 0,.slice none 0 0,.slice none 0 0,.slice none 0 0,.slice none 0 0,.int .i64 0,.string ⟨#[]⟩,.string ⟨#[]⟩,.int .i64 0,.int .i64 0,.int .i64 0,.string ⟨#[]⟩,.slice none 0 0,.slice none 0 0,.slice none 0 0,.int .i64 0,.string ⟨#[]⟩]) rfl rfl (by kernel_rfl) ?_))
 have hx:=(Ext.refl w3).alloc (.cells ((St.cells s2 b2)).toArray 40)
 have HB2:=hid (Blk.of_new w3 40 (St.cells s2 b2))
 replace HX:=hid (HX.out.trans hx)
 replace HV1:=hid (HV1.out.ext hx)
 replace HB1:=hid (HB1.out.ext hx)
 replace HV2:=hid (HV2.out.ext hx)
 clear hx
 generalize hw:World.alloc _ _=w4
 obtain⟨g2,hg2⟩:∃g,w3.heap.size=g:=⟨_,rfl⟩
 rw[hw,hg2]at HB2
 rw[hw]at HX HV1 HB1 HV2
 rw[hg2]
 clear hw hg2
 go_wp2_with fail
 refine(HS3.out w4 (HG.out.ext HX.out)).mono ?_
 rintro _ w5 ⟨hx,b3,rfl,h3⟩
 replace HX:=hid (HX.out.trans hx)
 replace HV1:=hid (HV1.out.ext hx)
 replace HB1:=hid (HB1.out.ext hx)
 replace HV2:=hid (HV2.out.ext hx)
 replace HB2:=hid (HB2.out.ext hx)
 clear hx
 clear h3 HS3
 unfold St.val
 go_upto_region 4 with (first|(refine Great.wpList_allocTo rfl _ rfl (.pointer (some ⟨_,0,none⟩)) (.cells #[.int .i64 0,.string ⟨#[]⟩,.slice none 0 0,.slice none 0 0,.slice none 0 0,.slice none 0 0,.slice none 0 0,.slice none 0 0,.slice none 0 0,.slice none 0 0,.int .i64 0,.string ⟨#[]⟩,.string ⟨#[]⟩,.int .i64 0,.int .i64 0,.int .i64 0,.string ⟨#[]⟩,.slice none 0 0,.slice none 0 0,.slice none 0 0,.int .i64 0,.string ⟨#[]⟩] 40) (by kernel_rfl) ?_)|(refine stS' rfl rfl rfl (St.cells s3 b3) rfl rfl (cs:= [.int .i64 0,.string ⟨#[]⟩,.slice none 0 0,.slice none 0 0,.slice none 0 0,.slice none 0 0,.slice none 0 0,.slice none 0 0,.slice none 0 0,.slice none 0 0,.int .i64 0,.string ⟨#[]⟩,.string ⟨#[]⟩,.int .i64 0,.int .i64 0,.int .i64 0,.string ⟨#[]⟩,.slice none 0 0,.slice none 0 0,.slice none 0 0,.int .i64 0,.string ⟨#[]⟩]) rfl rfl (by kernel_rfl) ?_))
 have hx:=(Ext.refl w5).alloc (.cells ((St.cells s3 b3)).toArray 40)
 have HB3:=hid (Blk.of_new w5 40 (St.cells s3 b3))
 replace HX:=hid (HX.out.trans hx)
 replace HV1:=hid (HV1.out.ext hx)
 replace HB1:=hid (HB1.out.ext hx)
 replace HV2:=hid (HV2.out.ext hx)
 replace HB2:=hid (HB2.out.ext hx)
 clear hx
 generalize hw:World.alloc _ _=w6
 obtain⟨g3,hg3⟩:∃g,w5.heap.size=g:=⟨_,rfl⟩
 rw[hw,hg3]at HB3
 rw[hw]at HX HV1 HB1 HV2 HB2
 rw[hg3]
 clear hw hg3
 go_wp2_with fail
 refine(HE4.out w6 (HG.out.ext HX.out)).mono ?_
 rintro _ w7 ⟨hx,A4,k4,c4,rfl,h3⟩
 replace HX:=hid (HX.out.trans hx)
 replace HV1:=hid (HV1.out.ext hx)
 replace HB1:=hid (HB1.out.ext hx)
 replace HV2:=hid (HV2.out.ext hx)
 replace HB2:=hid (HB2.out.ext hx)
 clear hx
 clear h3 HE4 HB3
 unfold Nd.val
 go_upto_region 5 with (first|(refine Great.wpList_allocTo rfl _ rfl (.pointer (some ⟨_,0,none⟩)) (.cells #[.int .i64 0,.string ⟨#[]⟩,.string ⟨#[]⟩,.int .i64 0,.int .i64 0,.int .i64 0,.string ⟨#[]⟩,.slice none 0 0] 37) (by kernel_rfl) ?_)|(refine stE' rfl rfl rfl (e4.d.cells A4 k4 c4) rfl rfl (cs:= [.int .i64 0,.string ⟨#[]⟩,.string ⟨#[]⟩,.int .i64 0,.int .i64 0,.int .i64 0,.string ⟨#[]⟩,.slice none 0 0]) rfl rfl (by kernel_rfl) ?_))
 have hx:=(Ext.refl w7).alloc (.cells ((e4.d.cells A4 k4 c4)).toArray 37)
 have HB4:=hid (Blk.of_new w7 37 (e4.d.cells A4 k4 c4))
 replace HX:=hid (HX.out.trans hx)
 replace HV1:=hid (HV1.out.ext hx)
 replace HB1:=hid (HB1.out.ext hx)
 replace HV2:=hid (HV2.out.ext hx)
 replace HB2:=hid (HB2.out.ext hx)
 clear hx
 generalize hw:World.alloc _ _=w8
 obtain⟨g4,hg4⟩:∃g,w7.heap.size=g:=⟨_,rfl⟩
 rw[hw,hg4]at HB4
 rw[hw]at HX HV1 HB1 HV2 HB2
 rw[hg4]
 clear hw hg4
 clear HB4
 go_wp2_with (first|(refine ldE rfl rfl _ rfl HB1.out rfl ?_))
 refine(fH e1 A1 k1 c1 w8 HV1.out).mono ?_
 rintro _ w9 ⟨rfl,hx⟩
 rw[HT.out]
 replace HX:=hid (HX.out.trans hx)
 replace HV2:=hid (HV2.out.ext hx)
 replace HB2:=hid (HB2.out.ext hx)
 clear hx HV1 HB1 HT
 obtain⟨z0,z1,z2,z3,z4,z5,z6,z7,_⟩:=mid8 HB2.out
 go_wp2_with fail
 refine(fH s2.whr b2.whr.A b2.whr.n b2.whr.c w9 HV2.out.whr).mono ?_
 rintro _ w10 ⟨rfl,hx⟩
 rw[HT2.out]
 replace HX:=hid (HX.out.trans hx)
 replace HV2:=hid (HV2.out.ext hx)
 replace HB2:=hid (HB2.out.ext hx)
 clear hx HT2 z0 z1 z2 z3 z4 z5 z6 z7
 go_wp2_with fail
 refine(HL5.out w10 (HG.out.ext HX.out)).mono ?_
 rintro _ w11 ⟨hx,B5,k5,rfl,_,h3⟩
 replace HX:=hid (HX.out.trans hx)
 replace HV2:=hid (HV2.out.ext hx)
 replace HB2:=hid (HB2.out.ext hx)
 clear hx
 clear h3 HL5
 rw[HN5.out]
 have z9:=HB2.out.cell_some (i:=9) rfl
 have hn:=HV2.out.frm.1
 rw[HF2.out]at hn
 unfold Sl.v at z9
 rw[←hn]at z9
 clear hn
 go_wp2_with fail
 go_ret
 exact⟨rfl,HX.out⟩
end
section
open Lx (Tk)
theorem law_rte2 (e:Ex) (A:Option Addr) (n c:Nat) (w:World) (hv:ExV w e A n c) (hg:Pg w):
  Calls Tryz.prog 7 #[e.d.val A n c] w fun r w'=>r= .returned (.bool true)∧Ext w w':=by
 have HG:=hid hg
 have HV:=hid hv
 have HR:Hid (validE e=0→parE validE (textE e)=(e.st0,0,0)∧(textE e).size≤20000):=fun h=>by
  have h1:=(valid_len h).2
  unfold textE
  rw[if_pos h]
  exact⟨round_ex h h1,Nat.le_trans h1 (by omega)⟩
 have HSa:Hid (e.st0.same e=true):=st0_same e
 have HTl:=hid (fun W h1=>cT (textE e) W h1)
 have HTx:=hid (fun W h=>fH e A n c W h)
 have HSm:=hid (fun W h=>ns e A n c W h)
 generalize validE e=vl at*
 clear hg hv
 unfold Nd.val
 go_enter Tryz.func7,Tryz.ntmps7
 go_upto_region 1 with fail
 have hx:=(Ext.refl w).alloc (.cells #[.int .i64 e.d.op,.string e.d.tb,.string e.d.nm,.int .i64 e.d.ix,.int .i64 e.d.vk,.int .i64 e.d.vi,.string e.d.vt,.slice A n c] 37)
 have HB:=hid (Blk.of_new w 37 [.int .i64 e.d.op,.string e.d.tb,.string e.d.nm,.int .i64 e.d.ix,.int .i64 e.d.vk,.int .i64 e.d.vi,.string e.d.vt,.slice A n c])
 replace HV:=hid (HV.out.ext hx)
 have HX:=hid hx
 clear hx
 generalize hw:World.alloc _ _=w1
 obtain⟨g,hg⟩:∃g,w.heap.size=g:=⟨_,rfl⟩
 rw[hw]at HB HV HX
 rw[hg]at HB ⊢
 clear hw hg
 go_wp2_with fail
 refine(awake_few w1 (HG.out.ext HX.out)).mono ?_
 rintro _ w2 ⟨rfl,hx⟩
 replace HB:=hid (HB.out.ext hx);replace HV:=hid (HV.out.ext hx);replace HX:=hid (HX.out.trans hx);clear hx
 go_wp2_with (first|(refine ldE rfl rfl _ rfl HB.out rfl ?_))
 refine(HSm.out w2 HV.out).mono ?_
 rintro _ w3 ⟨rfl,hx⟩
 replace HB:=hid (HB.out.ext hx);replace HV:=hid (HV.out.ext hx);replace HX:=hid (HX.out.trans hx);clear hx
 generalize e.small=sm at*
 cases sm
 ·go_wp2_with fail
  go_ret
  exact⟨rfl,HX.out⟩
 go_wp2_with (first|(refine ldE rfl rfl _ rfl HB.out rfl ?_))
 refine(HTx.out w3 HV.out).mono ?_
 rintro _ w4 ⟨rfl,hx⟩
 replace HB:=hid (HB.out.ext hx);replace HV:=hid (HV.out.ext hx);replace HX:=hid (HX.out.trans hx);clear hx
 by_cases hv:vl=0
 ·obtain⟨hr1,hr2⟩:=HR.out hv
  have HC:=hid (HTl.out w4 hr2 (HG.out.ext HX.out))
  rw[hr1]at HC
  simp only at HC
  rw[hv]
  clear hr1 hr2 HR HTl
  go_wp2_with fail
  refine HC.out.mono ?_
  rintro _ w5 ⟨hx,A1,k1,c1,rfl,h3⟩
  replace HB:=hid (HB.out.ext hx);replace HV:=hid (HV.out.ext hx);replace HX:=hid (HX.out.trans hx);clear hx
  have HV5:=hid h3.now
  clear h3 HC
  unfold Nd.val
  go_upto_region 9 with (first|(refine Great.wpList_allocTo rfl _ rfl (.pointer (some ⟨_,0,none⟩)) (.cells #[.int .i64 0,.string ⟨#[]⟩,.string ⟨#[]⟩,.int .i64 0,.int .i64 0,.int .i64 0,.string ⟨#[]⟩,.slice none 0 0] 37) (by kernel_rfl) ?_)|(refine stE' rfl rfl rfl (e.st0.d.cells A1 k1 c1) rfl rfl (cs:= [.int .i64 0,.string ⟨#[]⟩,.string ⟨#[]⟩,.int .i64 0,.int .i64 0,.int .i64 0,.string ⟨#[]⟩,.slice none 0 0]) rfl rfl (by kernel_rfl) ?_))
  have hx:=(Ext.refl w5).alloc (.cells (e.st0.d.cells A1 k1 c1).toArray 37)
  have HB5:=hid (Blk.of_new w5 37 (e.st0.d.cells A1 k1 c1))
  replace HB:=hid (HB.out.ext hx);replace HV:=hid (HV.out.ext hx);replace HX:=hid (HX.out.trans hx);replace HV5:=hid (HV5.out.ext hx);clear hx
  generalize hw:World.alloc _ _=w6
  obtain⟨g5,hg⟩:∃g,w5.heap.size=g:=⟨_,rfl⟩
  rw[hw]at HB HV HX HV5 HB5
  rw[hg]at HB5 ⊢
  clear hw hg
  obtain⟨y0,y1,y2,y3,y4,y5,y6,y7⟩:=cells8 HB5.out
  obtain⟨z0,z1,z2,z3,z4,z5,z6,z7⟩:=cells8 HB.out
  go_wp2_with fail
  refine(rsame_any e.st0 e A1 A k1 n c1 c w6 HV5.out HV.out).mono ?_
  rintro _ w7 ⟨rfl,hx⟩
  rw[HSa.out]
  go_wp2_with fail
  go_ret
  exact⟨rfl,HX.out.trans hx⟩
 ·go_wp2_with fail
  go_ret
  exact⟨rfl,HX.out⟩
end
end Go.Proofs.YtjigcpfjhfoheaaGreatDoor
