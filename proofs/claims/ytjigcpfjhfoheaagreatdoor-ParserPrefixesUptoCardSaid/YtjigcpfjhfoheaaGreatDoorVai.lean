/- Walks: IndexFunc and ContainsFunc, for the slices of a statement; Walks: list, for the slices of a statement; Walks: wrong, for the slices of a statement; Walks: the small predicates of a well-formed statement; Walks: well-formed . -/
import Derived.Test.YtjigcpfjhfoheaaGreatDoorVah
import Derived.Deep.RegionHeldLaw
namespace Go.Proofs.YtjigcpfjhfoheaaGreatDoor
open Go.RowKit List Go.Proofs.Tryz
set_option maxHeartbeats 8000000
set_option maxRecDepth 100000
set_option linter.unusedVariables false
set_option linter.unusedSimpArgs false
abbrev VStr (x:BA) (W:World) (v:Value):Prop:=v= .string x∧x.size≤9223372036854775807
abbrev VCd (x:Cd) (W:World) (v:Value):Prop:=v= .agg #[.string x.nm,i4 x.ty,i4 x.lo,i4 x.hi,i4 x.mx,.bool x.nn]∧x.nm.size≤9223372036854775807∧I64 x.ty∧I64 x.lo∧I64 x.hi∧I64 x.mx
abbrev VKey (x:List BA) (W:World) (v:Value):Prop:=∃(A:OA) (n c:Nat),v= .slice A n c∧x.length=n∧n≤9223372036854775807∧bi W A x
abbrev VRf (x:Rf) (W:World) (v:Value):Prop:=∃(A:OA) (n c:Nat) (B:OA) (m k:Nat),v= .agg #[.slice A n c,.string x.tb,.slice B m k]∧x.tb.size≤9223372036854775807∧x.cs.length=n∧n≤9223372036854775807∧bi W A x.cs∧x.tg.length=m∧m≤9223372036854775807∧bi W B x.tg
abbrev VRow (x:List Ex) (W:World) (v:Value):Prop:=∃(A:OA) (n c:Nat),v= .slice A n c∧x.length=n∧KidsAt W A x
abbrev VAsg (x:Asg) (W:World) (v:Value):Prop:=∃(Ai:OA) (ni ci:Nat),v= .agg #[.string x.cl,i4 x.ix,i4 x.ex.d.op,.string x.ex.d.tb,.string x.ex.d.nm,i4 x.ex.d.ix,i4 x.ex.d.vk,i4 x.ex.d.vi,.string x.ex.d.vt,.slice Ai ni ci]∧ExV W x.ex Ai ni ci
abbrev VItm (x:Itm) (W:World) (v:Value):Prop:=∃(Ai:OA) (ni ci:Nat),v= .agg #[i4 x.ag,i4 x.ex.d.op,.string x.ex.d.tb,.string x.ex.d.nm,i4 x.ex.d.ix,i4 x.ex.d.vk,i4 x.ex.d.vi,.string x.ex.d.vt,.slice Ai ni ci]∧ExV W x.ex Ai ni ci
abbrev VSrc (x:Src) (W:World) (v:Value):Prop:=v= .agg #[.string x.tb,.string x.al]∧x.tb.size≤9223372036854775807∧x.al.size≤9223372036854775807
abbrev VOrd (x:Ord') (W:World) (v:Value):Prop:=v= .agg #[i4 x.it,.bool x.ds]∧I64 x.it
abbrev VEx (x:Ex) (W:World) (v:Value):Prop:=∃(A:OA) (n c:Nat),v=x.d.val A n c∧ExV W x A n c
abbrev FnT {α:Type} (F:FuncId) (a:Value→Array Value) (V:α→World→Value→Prop) (p:α→Value) (l:List α) (w:World):Prop:=∀x∈l,∀(W:World),Ext w W→∀v,V x W v→Cl F (a v) W fun r W'=>r= .returned (p x)∧Ext W W'
abbrev CkF {α:Type} (g:FuncId) (V:α→World→Value→Prop) (At:World→OA→List α→Prop) (F:FuncId) (P:Array Value) (a:Value→Array Value) (A:OA) (n c:Nat) (w:World) (R:Bool→Ending→Prop):Prop:=∀(p:α→Bool) (l:List α),l.length=n→At w A l→FnT F a V (fun x=> .bool (p x)) l w→Cl g #[.slice A n c,.func (Fn.func F) #[] P] w fun r w'=>R (l.any p) r∧Ext w w'
theorem ixs (F:FuncId) (hE:Ent F) (P:Value) (A:OA) (n c:Nat) (w:World) (hn:n≤9223372036854775807):CkF 267 VStr bi F #[] (fun v=>#[v]) A n c w jN∧CkF 268 VCd jz F #[P] (fun v=>#[v,P]) A n c w jN∧CkF 269 VKey fL F #[P] (fun v=>#[v,P]) A n c w jN∧CkF 270 VRf jA F #[P] (fun v=>#[v,P]) A n c w jN∧CkF 245 VRow ep F #[P] (fun v=>#[v,P]) A n c w jN∧CkF 246 VAsg fM F #[P] (fun v=>#[v,P]) A n c w jN∧CkF 271 VItm fN F #[P] (fun v=>#[v,P]) A n c w jN∧CkF 272 VSrc iz F #[P] (fun v=>#[v,P]) A n c w jN∧CkF 273 VOrd iA F #[P] (fun v=>#[v,P]) A n c w jN∧CkF 179 VEx KidsAt F #[P] (fun v=>#[v,P]) A n c w jN:=by
 unfold Ent at hE
 refine⟨?_,?_,?_,?_,?_,?_,?_,?_,?_,?_⟩
 all_goals
  intro p l hl Z Y
  have X:=hid hl
  have o:=hid Z
  have W:=hid Y
  clear hl Z Y
 go_enter func267,ntmps267
 rotate_left
 go_enter func268,ntmps268
 rotate_left
 go_enter func269,ntmps269
 rotate_left
 go_enter func270,ntmps270
 rotate_left
 go_enter func245,ntmps245
 rotate_left
 go_enter func246,ntmps246
 rotate_left
 go_enter func271,ntmps271
 rotate_left
 go_enter func272,ntmps272
 rotate_left
 go_enter func273,ntmps273
 rotate_left
 go_enter func179,ntmps179
 rotate_left
 all_goals
  go_wp2_with fail
  go_loopw [5,8] (fun _ iv wr=> ∃(k:Nat),k≤n∧iv= i4 k∧(l.take k).any p=false∧Ext w wr) (fun _ i _=>n- (intOf i).toNat)
  case atStart=>exact⟨0,Nat.zero_le _,rfl,rfl,Ext.refl w⟩
  case round=>
   obtain⟨k,ac,rfl,O,a⟩:=hrel
   have y:=hid a
   have E:=hid O
   by_cases L:k<n
   ·obtain⟨x,g⟩:=aC X L
    have V:=hid g
    have e:=W x (mem_of_getElem? g) wr a
    clear W
    first
    |(obtain⟨b,f,m,t,s,rfl,u,I,J,Q,R,U,q6,q7,q8,q9,h⟩:=fV (o.ext a) g;have j:=e _ ⟨m,t,s,rfl,h⟩)
    |(obtain⟨b,f,m,t,s,rfl,u,I,J,Q,R,U,q6,q7,q8,h⟩:=fW (o.ext a) g;have j:=e _ ⟨m,t,s,rfl,h⟩)
    |(obtain⟨b,f,m,t,s,rfl,u,I,J,Q,R,U,q6,q7,h⟩:=KidsAt.get (o.ext a) g;have j:=e _ ⟨m,t,s,rfl,h⟩)
    |(obtain⟨h0,b,f,A1,n1,c1,A2,n2,c2,rfl,u,I,J,h,G,K,h4,h5,h6⟩:=(o.ext a) k x g;have j:=e _ ⟨A1,n1,c1,A2,n2,c2,rfl,h0,h,G,K,h4,h5,h6⟩)
    |(obtain⟨H,b,f,rfl,u,I,J,Q,R,U⟩:=(o.ext a) k x g;have j:=e _ ⟨rfl,H⟩)
    |(obtain⟨b,f,m,t,s,rfl,u,h,G,K⟩:=(o.ext a) k x g;have j:=e _ ⟨m,t,s,rfl,h,G,K⟩)
    |(obtain⟨b,f,m,t,s,rfl,u,h,G⟩:=(o.ext a) k x g;have j:=e _ ⟨m,t,s,rfl,h,G⟩)
    |(obtain⟨H,b,f,rfl,u,I⟩:=(o.ext a) k x g;have j:=e _ ⟨rfl,H⟩)
    |(obtain⟨H,b,f,rfl,u⟩:=(o.ext a) k x g;have j:=e _ ⟨rfl,H⟩)
    have C:Hid (Cl F _ wr fun r W'=>r= .returned (.bool (p x))∧Ext wr W'):=j
    clear g a O e j
    try unfold Nd.val at C
    cases B:p x
    ·rw[B]at C
     have D:Hid ((l.take (k+1)).any p=false):=mm V E B
     clear B
     go_wp2_with fail
     refine C.mono ?_
     rintro _ w2 ⟨rfl,z⟩
     go_wp2_with fail
     go_roundw
     case rel=>exact⟨k+1,by omega,by go_num,D,y.trans z⟩
     case measure=>simp[intOf];omega
    ·rw[B]at C
     have D:Hid (l.any p=true):=pw V B
     clear B
     go_wp2_with fail
     refine C.mono ?_
     rintro _ w2 ⟨rfl,z⟩
     go_wp2_with fail
     go_ret
     exact⟨⟨k,⟨by omega,by omega⟩,rfl,by rw[D.out];simp⟩,y.trans z⟩
   ·obtain rfl:k=n:=by omega
    have D:Hid (l.any p=false):=sM X E
    clear O
    go_wp2_with fail
    go_ret
    exact⟨⟨-1,⟨by omega,by omega⟩,rfl,by rw[D.out];rfl⟩,y⟩
theorem cos (F:FuncId) (B:Ent F) (P:Value) (A:OA) (n c:Nat) (w:World) (C:n≤9223372036854775807):CkF 237 VStr bi F #[] (fun v=>#[v]) A n c w (fun b r=>r= .returned (.bool b))∧CkF 239 VCd jz F #[P] (fun v=>#[v,P]) A n c w (fun b r=>r= .returned (.bool b))∧CkF 241 VKey fL F #[P] (fun v=>#[v,P]) A n c w (fun b r=>r= .returned (.bool b))∧CkF 243 VRf jA F #[P] (fun v=>#[v,P]) A n c w (fun b r=>r= .returned (.bool b))∧CkF 189 VRow ep F #[P] (fun v=>#[v,P]) A n c w (fun b r=>r= .returned (.bool b))∧CkF 192 VAsg fM F #[P] (fun v=>#[v,P]) A n c w (fun b r=>r= .returned (.bool b))∧CkF 247 VItm fN F #[P] (fun v=>#[v,P]) A n c w (fun b r=>r= .returned (.bool b))∧CkF 249 VSrc iz F #[P] (fun v=>#[v,P]) A n c w (fun b r=>r= .returned (.bool b))∧CkF 251 VOrd iA F #[P] (fun v=>#[v,P]) A n c w (fun b r=>r= .returned (.bool b))∧CkF 111 VEx KidsAt F #[P] (fun v=>#[v,P]) A n c w (fun b r=>r= .returned (.bool b)):=by
 obtain⟨j,k,m,o,s,t,u,y,z,f⟩:=ixs F B P A n c w C
 refine⟨?_,?_,?_,?_,?_,?_,?_,?_,?_,?_⟩
 all_goals intro p l a b d
 have e:=hid (j p l a b d)
 go_enter func237,ntmps237
 rotate_left
 have e:=hid (k p l a b d)
 go_enter func239,ntmps239
 rotate_left
 have e:=hid (m p l a b d)
 go_enter func241,ntmps241
 rotate_left
 have e:=hid (o p l a b d)
 go_enter func243,ntmps243
 rotate_left
 have e:=hid (s p l a b d)
 go_enter func189,ntmps189
 rotate_left
 have e:=hid (t p l a b d)
 go_enter func192,ntmps192
 rotate_left
 have e:=hid (u p l a b d)
 go_enter func247,ntmps247
 rotate_left
 have e:=hid (y p l a b d)
 go_enter func249,ntmps249
 rotate_left
 have e:=hid (z p l a b d)
 go_enter func251,ntmps251
 rotate_left
 have e:=hid (f p l a b d)
 go_enter func111,ntmps111
 rotate_left
 all_goals
  clear a b d j k m o s t u y z f
  go_wp2_with ((with_reducible refine e.out.mono ?_);rintro _ E ⟨⟨x,D,rfl,g⟩,i⟩;have h:=hid g;clear g)
  go_ret
  exact⟨aa h,i⟩
theorem ez {α:Type} {l:List α} {i:Nat} {e:α} (h:l[i]? =some e):l.take (i+1)=l.take i++ [e]:=by
 obtain⟨hi,rfl⟩:=List.getElem?_eq_some_iff.1 h
 rw[take_succ_eq_append_getElem hi]
theorem reads_new1 (w:World) (v:Value) (e:TypeId):Reads (w.alloc (.cells #[v] e)) (w.heap.size+1) 1 (some ⟨w.heap.size,0,none⟩) 1 [v]:=
 ⟨by simp,fun _=>⟨_,rfl,Nat.lt_succ_self _,news_at w #[v] e w.heap.size rfl⟩⟩
theorem bg {w:World} {B e sz n:Nat} {v:Value} {b:LV} (h:w.ownsRow B e sz v n b):∀q,v.ownBlock=some q→B≤q:=fun q a=> (h.lt q a).1
theorem gN:(prog.info? 9).map (fun i=> (i.zero,i.size,i.bytes))=some (some (.string ⟨#[]⟩),1,16):=by kernel_rfl
def fH (l:List BA):LV:=l.map Value.string
theorem strV_get {l:List BA} {i:Nat} {s:BA} (h:l[i]? =some s):(fH l)[i]? =some (.string s):=by unfold fH;rw[getElem?_map,h];rfl
theorem pN {w:World} {B n:Nat} {v:Value} {l:List BA} (h:w.ownsRow B 9 1 v n (fH l)) (b:∀s∈l,s.size≤9223372036854775807):∃A c,v= .slice A n c∧bi w A l∧l.length=n:=by
 have a:l.length=n:=by have:=h.1;simpa[fH] using this
 rcases h.2 with ⟨rfl,hx⟩|⟨g,cap,cur,rfl,hb,hg,hrest⟩
 ·refine⟨none,0,?_,?_,a⟩
  ·have:l= []:=eq_nil_of_length_eq_zero (by simpa[a] using hx)
   subst this;subst a;rfl
  ·intro i s hs
   have:l= []:=eq_nil_of_length_eq_zero (by simpa[a] using hx)
   subst this;cases hs
 ·refine⟨_,_,rfl,fun i s hs=>⟨b s (mem_of_getElem? hs),g,0,rfl,?_⟩,a⟩
  have hi:i<l.length:=(List.getElem?_eq_some_iff.1 hs).1
  have:=h.cellAt i (by omega)
  rw[Nat.zero_add,this,strV_get hs]
theorem com_list:jQ.data.toList= [44,32]:=rfl
theorem cma_join (x:BA) (l:List BA):(⟨(Lib.join ((x::l).map (·.data.toList)) jQ.data.toList).toArray⟩:BA)=cma (x::l):=by
 have h:=join_tail l x
 apply t_inj
 show _=(l.foldl _ x).data.toList
 rw[h,com_list]
 show Lib.join (x.data.toList::l.map (·.data.toList)) [44,32]=_
 rw[Lib.join_cons]
theorem oV (l:List BA) (A:OA) (n c:Nat) (w:World) (o:l.length=n) (t:n≤c) (m:bi w A l) (C:bX l≤1000000000):
  Cl 203 #[.slice A n c,.string ⟨#[44,32]⟩] w (Rt (.string (cma l)) w):=by
 cases l with
 |nil=>
  subst o
  exact(Tryz.strings_Join_none A c ⟨#[44,32]⟩ w).mono fun r w' ⟨e,h⟩=>⟨e,h ▸ Ext.refl w⟩
 |cons x l=>
  obtain⟨_,b,g,rfl,s⟩:=m 0 x rfl
  have a:∀(j:Nat) y,(x::l)[j]? =some y→w.cell? ⟨b,g+j,none⟩=some (.string y):=fun j y u=>by
   obtain⟨_,B,p,i,e⟩:=m j y u
   simp only[Option.some.injEq,Addr.mk.injEq,and_true]at i
   obtain⟨rfl,rfl⟩:=i
   exact e
  have hs:=uI (x::l)
  have k:=cma_join x l
  have z:=aW (x::l)
  have f:(Lib.join ((x::l).map (·.data.toList)) jQ.data.toList).length=(cma (x::l)).size:=by
   rw[←k];show _=((Lib.join _ _).toArray).size;simp
  subst o
  refine(Tryz.strings_Join b g c (x::l) jQ w a (lT s) (by omega) t (by rw[f];omega)).mono fun r w' ⟨e,h⟩=>⟨?_,h⟩
  rw[e,k]
theorem own_cap {w:World} {B e sz n:Nat} {A:OA} {m c:Nat} {a:LV} (h:w.ownsRow B e sz (.slice A m c) n a):n≤c:=by
 rcases h.2 with ⟨h1,hx⟩|⟨g,cap,cur,h1,hb,hg,hrest⟩
 ·simp only[Value.slice.injEq]at h1;omega
 ·simp only[Value.slice.injEq]at h1;obtain⟨_,_,rfl⟩:=h1;exact hrest.1
theorem uL (l:List BA) (v:Value) (B n:Nat) (w:World) (h:w.ownsRow B 9 1 v n (fH l)) (e:bX l≤1000000000):
  Cl 203 #[v,.string ⟨#[44,32]⟩] w (Rt (.string (cma l)) w):=by
 obtain⟨A,c,rfl,a,b⟩:=pN h fun s hs=>by have:=fG hs;omega
 exact oV l A n c w b (own_cap h) a e
abbrev LsF {α:Type} (g:FuncId) (V:α→World→Value→Prop) (At:World→OA→List α→Prop):Prop:=∀(F:FuncId),Ent F→∀(p:α→BA) (l:List α) (A:OA) (n c:Nat) (w:World),l.length=n→n≤100000000→At w A l→bX (l.map p)≤1000000000→FnT F (fun v=>#[v]) V (fun x=> .string (p x)) l w→Cl g #[.slice A n c,.func (Fn.func F) #[] #[]] w (Rt (.string (cma (l.map p))) w)
theorem lss:LsF 204 VEx KidsAt∧LsF 126 VRow ep∧LsF 129 VAsg fM∧LsF 208 VItm fN∧LsF 211 VSrc iz∧LsF 213 VOrd iA:=by
 obtain⟨i0,hi,V,X,Y⟩:=info_parts gN
 refine⟨?_,?_,?_,?_,?_,?_⟩
 all_goals
  intro F hE p l A n c w hl hn hk hz hF
  unfold Ent at hE
  have HL:=hid hl
  have G:=hid hk
  have HF:=hid hF
  have HZ:=hid hz
  clear hl hk hF hz
 go_enter func204,ntmps204
 rotate_left
 go_enter func126,ntmps126
 rotate_left
 go_enter func129,ntmps129
 rotate_left
 go_enter func208,ntmps208
 rotate_left
 go_enter func211,ntmps211
 rotate_left
 go_enter func213,ntmps213
 rotate_left
 all_goals
  go_wp2_with fail
  go_loopw [5,10] (fun nv iv wr=> ∃(k:Nat),k≤n∧iv= i4 k∧wr.ownsRow w.heap.size 9 1 nv k (fH ((l.take k).map p))∧Ext w wr) (fun _ i _=>n- (intOf i).toNat)
  case atStart=>exact⟨0,Nat.zero_le _,rfl,World.ownsRow_nil _ _ _ _,Ext.refl w⟩
  case round=>
   obtain⟨k,ac,rfl,s,a⟩:=hrel
   have I:=hid s
   have y:=hid a
   clear s
   by_cases U:k<n
   ·obtain⟨x,t⟩:=aC HL U
    have e:=HF x (mem_of_getElem? t)
    first
    |(obtain⟨b,m,u,D,z,rfl,J,Z,q2,q3,q4,q5,q6,q7,q8,q9,B⟩:=fV (G.ext a) t;have E:=fun W (f:Ext wr W)=>e W (a.trans f) _ ⟨u,D,z,rfl,B.ext f⟩)
    |(obtain⟨b,m,u,D,z,rfl,J,Z,q2,q3,q4,q5,q6,q7,q8,B⟩:=fW (G.ext a) t;have E:=fun W (f:Ext wr W)=>e W (a.trans f) _ ⟨u,D,z,rfl,B.ext f⟩)
    |(obtain⟨b,m,u,D,z,rfl,J,Z,q2,q3,q4,q5,q6,q7,B⟩:=KidsAt.get (G.ext a) t;have E:=fun W (f:Ext wr W)=>e W (a.trans f) _ ⟨u,D,z,rfl,B.ext f⟩)
    |(obtain⟨b,m,u,D,z,rfl,J,B,h2⟩:=(G.ext a) k x t;have E:=fun W (f:Ext wr W)=>e W (a.trans f) _ ⟨u,D,z,rfl,B,h2.ext f⟩)
    |(obtain⟨hc,b,m,rfl,J,Z⟩:=(G.ext a) k x t;have E:=fun W (f:Ext wr W)=>e W (a.trans f) _ ⟨rfl,hc⟩)
    have K:Hid (∀W,Ext wr W→Cl F _ W fun r W'=>r= .returned (.string (p x))∧Ext W W'):=E
    clear e E
    have HT:Hid ((l.take (k+1)).map p=(l.take k).map p++ [p x]):=by unfold Hid;rw[ez t,map_append];rfl
    clear t a
    try unfold Nd.val at K
    go_wp2_with fail
    first
     |(refine(K _ (x10 wr _)).mono ?_;rintro _ H ⟨rfl,g⟩;have j:Hid (Ext wr H):=(x10 wr _).trans g)
     |(refine(K _ (Ext.refl wr)).mono ?_;rintro _ H ⟨rfl,g⟩;have j:Hid (Ext wr H):=g)
    clear g
    have O:=hid ((ownN_ext I j).alloc (.cells #[.string (p x)] 9))
    have Q:=hid (reads_new1 H (.string (p x)) 9)
    go_wp2_with (at_builtin;refine wpList_append_any _ rfl (.tmp 14) (.tmp 18) 101 rfl w.heap.size 9 i0 _ 1 16 underlying101 hi V X Y rfl (by decide) _ k _ rfl O.out _ _ 1 1 [.string (p x)] rfl Q.out (by simp[Value.oneCell']) (by unfold maxLen;omega) (by omega) (Nat.le_trans (y.out.trans j.out).size (by simp)) ?_;intro v1 w5 h o C;have P:=hid h;have L:=hid o;clear h o C)
    go_roundw
    case rel=>
     have R:=bg I
     refine⟨k+1,by omega,by go_num,?_,(((y.trans j).alloc _)).grown L fun q hq=>R q hq⟩
     rw[HT.out]
     unfold fH
     rw[map_append]
     exact P
    case measure=>simp[intOf];omega
   ·obtain rfl:k=n:=by omega
    rw[take_of_length_le (Nat.le_of_eq HL)]at I
    have HJ:=hid (uL (l.map p) _ _ _ wr I HZ)
    go_wp2_with (go_at_call 203;refine HJ.mono ?_;rintro _ H ⟨rfl,g⟩)
    go_ret
    exact⟨rfl,y.trans g⟩
abbrev W1F {α:Type} (g:FuncId) (V:α→World→Value→Prop):Prop:=Ent g∧∀(G:FuncId),Ent G→∀(b:Bool) (x:α) (h:Nat) (w:World) (v:Value),w.cell? ⟨h,0,none⟩=some (.func (Fn.func G) #[] #[])→V x w v→(∀(W:World),Ext w W→Cl G #[v] W fun r W'=>r= .returned (.bool b)∧Ext W W')→Cl g #[v,.pointer (some ⟨h,0,none⟩)] w (Rt (.bool (!b)) w)
theorem w1s:W1F 240 VCd∧W1F 242 VKey∧W1F 244 VRf∧W1F 190 VRow∧W1F 193 VAsg∧W1F 248 VItm∧W1F 250 VSrc∧W1F 252 VOrd∧W1F 191 VEx:=by
 refine⟨⟨fun _ _=>by kernel_rfl,?_⟩,⟨fun _ _=>by kernel_rfl,?_⟩,⟨fun _ _=>by kernel_rfl,?_⟩,⟨fun _ _=>by kernel_rfl,?_⟩,⟨fun _ _=>by kernel_rfl,?_⟩,⟨fun _ _=>by kernel_rfl,?_⟩,⟨fun _ _=>by kernel_rfl,?_⟩,⟨fun _ _=>by kernel_rfl,?_⟩,⟨fun _ _=>by kernel_rfl,?_⟩⟩
 all_goals
  intro G m b x h w v n a l
  unfold Ent at m
  have p:∀o,(w.alloc o).cell? ⟨h,0,none⟩=some (.func (Fn.func G) #[] #[]):=fun o=> (x10 w o).keep n
  have j:=hid l
  clear l
 obtain⟨rfl,-⟩:=a
 go_enter func240,ntmps240
 rotate_left
 obtain⟨f,i,g,rfl,-⟩:=a
 go_enter func242,ntmps242
 rotate_left
 obtain⟨s,u,c1,t,y,c2,rfl,-⟩:=a
 go_enter func244,ntmps244
 rotate_left
 obtain⟨f,i,g,rfl,-⟩:=a
 go_enter func190,ntmps190
 rotate_left
 obtain⟨f,i,g,rfl,-⟩:=a
 go_enter func193,ntmps193
 rotate_left
 obtain⟨f,i,g,rfl,-⟩:=a
 go_enter func248,ntmps248
 rotate_left
 obtain⟨rfl,-⟩:=a
 go_enter func250,ntmps250
 rotate_left
 obtain⟨rfl,-⟩:=a
 go_enter func252,ntmps252
 rotate_left
 obtain⟨f,i,g,rfl,-⟩:=a
 unfold Nd.val at j ⊢
 generalize x.d=d at*
 obtain⟨op,tb,nm,ix,vk,vi,vt⟩:=d
 simp only at*
 go_enter func191,ntmps191
 rotate_left
 all_goals
  go_wp2_with fail
  first
   |(refine(j _ (x10 w _)).mono ?_;rintro _ r ⟨rfl,k⟩;have e:=(x10 w _).trans k)
   |(refine(j _ (Ext.refl w)).mono ?_;rintro _ r ⟨rfl,e⟩)
  go_wp2_with fail
  go_ret
  exact⟨rfl,e⟩
abbrev WrF {α:Type} (g:FuncId) (V:α→World→Value→Prop) (At:World→OA→List α→Prop) (G:FuncId) (A:OA) (n c:Nat) (w:World):Prop:=∀(q:α→Bool) (l:List α),l.length=n→At w A l→FnT G (fun v=>#[v]) V (fun x=> .bool (q x)) l w→Cl g #[.slice A n c,.func (Fn.func G) #[] #[]] w (Rt (.bool (l.any fun x=>!q x)) w)
theorem wrs (G:FuncId) (C:Ent G) (A:OA) (n c:Nat) (w:World) (U:n≤9223372036854775807):WrF 185 VCd jz G A n c w∧WrF 187 VKey fL G A n c w∧WrF 188 VRf jA G A n c w∧WrF 119 VRow ep G A n c w∧WrF 122 VAsg fM G A n c w∧WrF 198 VItm fN G A n c w∧WrF 200 VSrc iz G A n c w∧WrF 201 VOrd iA G A n c w∧WrF 121 VEx KidsAt G A n c w:=by
 obtain⟨D,E,H,I,J,K,L,O,P⟩:=w1s
 have z:=fun (t:TypeId)=>Blk.of_new w t [.func (Fn.func G) #[] #[]]
 have r:=fun (F:FuncId) (R:Ent F) (t:TypeId)=>cos F R (.pointer (some ⟨w.heap.size,0,none⟩)) A n c (w.alloc (.cells #[.func (Fn.func G) #[] #[]] t)) U
 have g:=fun (o:Obj)=> x10 w o
 refine⟨?_,?_,?_,?_,?_,?_,?_,?_,?_⟩
 all_goals intro q l u s p
 have y:=hid ((r _ D.1 174).2.1 (fun x=>!q x) l u (s.ext (g _)) fun x j W b v f=>D.2 G C (q x) x w.heap.size W v (((z _).ext b).cell_some (i:=0) rfl) f fun h a=>p x j h (((g _).trans b).trans a) v f)
 go_enter func185,ntmps185
 rotate_left
 have y:=hid ((r _ E.1 171).2.2.1 (fun x=>!q x) l u (s.ext (g _)) fun x j W b v f=>E.2 G C (q x) x w.heap.size W v (((z _).ext b).cell_some (i:=0) rfl) f fun h a=>p x j h (((g _).trans b).trans a) v (let ⟨A,n,c,e,h1,h2,h3⟩:=f;⟨A,n,c,e,h1,h2,h3.ext a⟩))
 go_enter func187,ntmps187
 rotate_left
 have y:=hid ((r _ H.1 172).2.2.2.1 (fun x=>!q x) l u (s.ext (g _)) fun x j W b v f=>H.2 G C (q x) x w.heap.size W v (((z _).ext b).cell_some (i:=0) rfl) f fun h a=>p x j h (((g _).trans b).trans a) v (let ⟨A,n,c,B,m,k,e,h0,h1,h2,h3,h4,h5,h6⟩:=f;⟨A,n,c,B,m,k,e,h0,h1,h2,h3.ext a,h4,h5,h6.ext a⟩))
 go_enter func188,ntmps188
 rotate_left
 have y:=hid ((r _ I.1 89).2.2.2.2.1 (fun x=>!q x) l u (s.ext (g _)) fun x j W b v f=>I.2 G C (q x) x w.heap.size W v (((z _).ext b).cell_some (i:=0) rfl) f fun h a=>p x j h (((g _).trans b).trans a) v (let ⟨A,n,c,e,h1,h2⟩:=f;⟨A,n,c,e,h1,h2.ext a⟩))
 go_enter func119,ntmps119
 rotate_left
 have y:=hid ((r _ J.1 150).2.2.2.2.2.1 (fun x=>!q x) l u (s.ext (g _)) fun x j W b v f=>J.2 G C (q x) x w.heap.size W v (((z _).ext b).cell_some (i:=0) rfl) f fun h a=>p x j h (((g _).trans b).trans a) v (let ⟨A,n,c,e,h1⟩:=f;⟨A,n,c,e,h1.ext a⟩))
 go_enter func122,ntmps122
 rotate_left
 have y:=hid ((r _ K.1 181).2.2.2.2.2.2.1 (fun x=>!q x) l u (s.ext (g _)) fun x j W b v f=>K.2 G C (q x) x w.heap.size W v (((z _).ext b).cell_some (i:=0) rfl) f fun h a=>p x j h (((g _).trans b).trans a) v (let ⟨A,n,c,e,h1⟩:=f;⟨A,n,c,e,h1.ext a⟩))
 go_enter func198,ntmps198
 rotate_left
 have y:=hid ((r _ L.1 177).2.2.2.2.2.2.2.1 (fun x=>!q x) l u (s.ext (g _)) fun x j W b v f=>L.2 G C (q x) x w.heap.size W v (((z _).ext b).cell_some (i:=0) rfl) f fun h a=>p x j h (((g _).trans b).trans a) v f)
 go_enter func200,ntmps200
 rotate_left
 have y:=hid ((r _ O.1 179).2.2.2.2.2.2.2.2.1 (fun x=>!q x) l u (s.ext (g _)) fun x j W b v f=>O.2 G C (q x) x w.heap.size W v (((z _).ext b).cell_some (i:=0) rfl) f fun h a=>p x j h (((g _).trans b).trans a) v f)
 go_enter func201,ntmps201
 rotate_left
 have y:=hid ((r _ P.1 55).2.2.2.2.2.2.2.2.2 (fun x=>!q x) l u (s.ext (g _)) fun x j W b v f=>P.2 G C (q x) x w.heap.size W v (((z _).ext b).cell_some (i:=0) rfl) f fun h a=>p x j h (((g _).trans b).trans a) v (let ⟨A,n,c,e,h1⟩:=f;⟨A,n,c,e,h1.ext a⟩))
 go_enter func121,ntmps121
 rotate_left
 all_goals
  clear u s p r D E H I J K L O P
  go_wp2_with ((with_reducible refine y.out.mono ?_);rintro _ V ⟨rfl,Q⟩)
  go_ret
  exact⟨rfl,(g _).trans Q⟩
theorem names1 (s:BA) (w:World) (e:Sh w) (a:s.size≤9223372036854775807):Cl 238 #[.string s] w (Rt (.bool (!nameB s)) w):=by
 have f:=hid (name_any s w e a)
 clear e a
 generalize nameB s=b at*
 go_enter func238,ntmps238
 go_wp2_with (go_at_call 115;refine f.mono ?_;rintro _ _ ⟨rfl,rfl⟩)
 go_ret
 exact⟨rfl,Ext.refl _⟩
theorem wG:Ent 238:=fun _ _=>by kernel_rfl
theorem ent_names:Ent 184:=fun _ _=>by kernel_rfl
theorem wH:Ent 79:=fun _ _=>by kernel_rfl
theorem nL (l:List BA) (A:OA) (n c:Nat) (w:World) (j:Sh w) (g:l.length=n) (p:n≤9223372036854775807) (hs:bi w A l):
  Cl 184 #[.slice A n c] w (Rt (.bool (namesB l)) w):=by
 have h:=hid ((cos 238 wG (i4 0) A n c w p).1 (fun s=>!nameB s) l g hs fun x _ W m v t=>by obtain⟨rfl,o⟩:=t;exact names1 x W (j.ext m) o)
 have f:=hid (ro l)
 rw[g]at f
 generalize namesB l=R at*
 generalize (l.any fun s=>!nameB s)=b at*
 clear j hs g
 by_cases i:0<n
 ·have k:decide ((0:Int)<(n:Int))=true:=by simp;omega
  have a:Hid (R=!b):=by unfold Hid;rw[f.out];simp[i]
  go_enter func184,ntmps184
  go_wp2_with (go_at_call 237;refine h.mono ?_;rintro _ u ⟨rfl,e⟩)
  go_ret
  exact⟨aa a.symm,e⟩
 ·have k:decide ((0:Int)<(n:Int))=false:=by simp;omega
  have a:Hid (R=false):=by unfold Hid;rw[f.out];simp[i]
  go_enter func184,ntmps184
  go_wp2_with (go_at_call 237;refine h.mono ?_;rintro _ u ⟨rfl,e⟩)
  go_ret
  exact⟨aa a.symm,Ext.refl w⟩
theorem colok_any (x:Cd) (w:World) (s:Sh w) (p:x.nm.size≤9223372036854775807∧I64 x.ty∧I64 x.lo∧I64 x.hi∧I64 x.mx):
  Cl 186 #[.agg #[.string x.nm,i4 x.ty,i4 x.lo,i4 x.hi,i4 x.mx,.bool x.nn]] w (Rt (.bool x.ok) w):=by
 have m:=hid (fun W (y:Ext w W)=>name_any x.nm W (s.ext y) p.1)
 have f:=hid (fun W=>fo x.lo (-2147483648) 2147483648 W)
 have g:=hid (fun W=>fo x.hi (-2147483648) 2147483648 W)
 have h:=hid (fun W=>fo x.mx 0 2147483648 W)
 obtain⟨R,a⟩:∃R,x.ok=R:=⟨_,rfl⟩
 rw[a]
 unfold Cd.ok inB at a
 clear s p
 generalize nameB x.nm=o at*
 generalize (decide (-2147483648≤x.lo) &&decide (x.lo≤2147483648))=t at*
 generalize (decide (-2147483648≤x.hi) &&decide (x.hi≤2147483648))=u at*
 generalize (decide (0≤x.mx) &&decide (x.mx≤2147483648))=D at*
 obtain⟨z,i⟩:∃b,(x.ty==1)=b:=⟨_,rfl⟩
 obtain⟨A,j⟩:∃b,(x.ty==2)=b:=⟨_,rfl⟩
 obtain⟨B,k⟩:∃b,(x.lo==0)=b:=⟨_,rfl⟩
 obtain⟨C,l⟩:∃b,(x.hi==0)=b:=⟨_,rfl⟩
 obtain⟨E,e⟩:∃b,(x.mx==0)=b:=⟨_,rfl⟩
 rw[i,j,k,l,e]at a
 have n:=hid a
 clear a
 cases z
 ·cases A<;>cases o<;>cases B<;>cases C
  all_goals
   go_enter func186,ntmps186
   go_wp2_with (first|(go_at_call 115;(with_reducible refine(m.out _ (x10 w _)).mono ?_);rintro _ _ ⟨rfl,rfl⟩)|(go_at_call 197;(with_reducible refine(h.out _).mono ?_);rintro _ _ ⟨rfl,rfl⟩))
   go_ret
   exact⟨aa (by rw[←n.out];simp),x10 w _⟩
 ·cases o<;>cases t<;>cases u
  all_goals
   go_enter func186,ntmps186
   go_wp2_with (first|(go_at_call 115;(with_reducible refine(m.out _ (x10 w _)).mono ?_);rintro _ _ ⟨rfl,rfl⟩)|(go_at_call 197;(with_reducible refine(f.out _).mono ?_);rintro _ _ ⟨rfl,rfl⟩)|(go_at_call 197;(with_reducible refine(g.out _).mono ?_);rintro _ _ ⟨rfl,rfl⟩))
   go_ret
   exact⟨aa (by rw[←n.out];simp[e]),x10 w _⟩
theorem ent_col:Ent 186:=fun _ _=>by kernel_rfl
theorem rfok_any (x:Rf) (g:OA) (e c1:Nat) (h:OA) (f c2:Nat) (w:World) (i:Sh w)
  (C:x.tb.size≤9223372036854775807∧x.cs.length=e∧e≤9223372036854775807∧bi w g x.cs∧x.tg.length=f∧f≤9223372036854775807∧bi w h x.tg):
  Cl 183 #[.agg #[.slice g e c1,.string x.tb,.slice h f c2]] w (Rt (.bool x.ok) w):=by
 obtain⟨k,l,m,n,o,p,s⟩:=C
 have z:=hid (fun W (b:Ext w W)=>name_any x.tb W (i.ext b) k)
 have t:=hid (fun W (b:Ext w W)=>nL x.cs g e c1 W (i.ext b) l m (n.ext b))
 have u:=hid (fun W (b:Ext w W)=>nL x.tg h f c2 W (i.ext b) o p (s.ext b))
 have y:=hid (Blk.of_new w 103 [.slice g e c1,.string x.tb,.slice h f c2])
 clear i l m n o p s k
 unfold Rf.ok
 generalize nameB x.tb=B at*
 generalize namesB x.cs=A at*
 generalize namesB x.tg=D at*
 cases A<;>cases B
 all_goals
  go_enter func183,ntmps183
  go_wp2_with (first|(go_at_call 115;(with_reducible refine(z.out _ ((x10 w _).trans a)).mono ?_);rintro _ _ ⟨rfl,rfl⟩)|(go_at_call 184;(with_reducible refine(u.out _ ((x10 w _).trans a)).mono ?_);rintro _ H ⟨rfl,j⟩)|(go_at_call 184;(with_reducible refine(t.out _ (x10 w _)).mono ?_);rintro _ G ⟨rfl,a⟩;obtain⟨-,E,F,-⟩:=cls (y.ext a)))
  go_ret
  first|exact⟨rfl,((x10 w _).trans a).trans j⟩|exact⟨rfl,(x10 w _).trans a⟩
theorem ent_rf:Ent 183:=fun _ _=>by kernel_rfl
theorem itmok_any (x:Itm) (A:OA) (n c:Nat) (w:World) (o:Sh w) (k:ExV w x.ex A n c):
  Cl 199 #[.agg #[i4 x.ag,i4 x.ex.d.op,.string x.ex.d.tb,.string x.ex.d.nm,i4 x.ex.d.ix,i4 x.ex.d.vk,i4 x.ex.d.vi,.string x.ex.d.vt,.slice A n c]] w (Rt (.bool x.ok) w):=by
 have m:=hid (fun W (f:Ext w W)=>fp x.ex A n c W (k.ext f) (o.ext f))
 have l:=hid (fun W (f:Ext w W)=>lA x.ex A n c W (k.ext f))
 obtain⟨R,e⟩:∃R,x.ok=R:=⟨_,rfl⟩
 rw[e]
 unfold Itm.ok at e
 unfold Nd.val at m l
 clear o k
 generalize x.ex.formed=z at*
 generalize x.ex.absent=y at*
 generalize x.ex.d=d at*
 obtain⟨op,tb,nm,ix,vk,vi,vt⟩:=d
 simp only at*
 obtain⟨p,h⟩:∃b,(x.ag==1)=b:=⟨_,rfl⟩
 obtain⟨s,i⟩:∃b,decide (0≤x.ag)=b:=⟨_,rfl⟩
 obtain⟨t,j⟩:∃b,decide (x.ag≤5)=b:=⟨_,rfl⟩
 rw[h,i,j]at e
 have g:=hid e
 clear e
 cases p
 ·cases s<;>cases t
  all_goals
   go_enter func199,ntmps199
   go_wp2_with (go_at_call 79;(with_reducible refine(m.out _ (x10 w _)).mono ?_);rintro _ u ⟨rfl,a⟩)
   go_ret
   first|exact⟨aa (by rw[←g.out];simp),(x10 w _).trans a⟩|exact⟨aa (by rw[←g.out];simp),x10 w _⟩
 ·go_enter func199,ntmps199
  go_wp2_with (go_at_call 116;(with_reducible refine(l.out _ (x10 w _)).mono ?_);rintro _ u ⟨rfl,a⟩)
  go_ret
  exact⟨aa (by rw[←g.out];simp),(x10 w _).trans a⟩
theorem ent_itm:Ent 199:=fun _ _=>by kernel_rfl
theorem srcok_any (x:Src) (w:World) (i:Sh w) (g:x.tb.size≤9223372036854775807∧x.al.size≤9223372036854775807):
  Cl 194 #[.agg #[.string x.tb,.string x.al]] w (Rt (.bool x.ok) w):=by
 have j:=hid (fun W (f:Ext w W)=>name_any x.tb W (i.ext f) g.1)
 have e:=hid (fun W (f:Ext w W)=>name_any x.al W (i.ext f) g.2)
 obtain⟨R,a⟩:∃R,x.ok=R:=⟨_,rfl⟩
 rw[a]
 unfold Src.ok at a
 clear i g
 generalize nameB x.tb=l at*
 generalize nameB x.al=n at*
 obtain⟨m,h⟩:∃b,x.al.toList.isEmpty=b:=⟨_,rfl⟩
 rw[h]at a
 have k:=hid a
 clear a
 cases l<;>cases m
 all_goals
  go_enter func194,ntmps194
  go_wp2_with (first|(go_at_call 115;(with_reducible refine(j.out _ (x10 w _)).mono ?_);rintro _ _ ⟨rfl,rfl⟩)|(go_at_call 115;(with_reducible refine(e.out _ (x10 w _)).mono ?_);rintro _ _ ⟨rfl,rfl⟩))
  go_ret
  exact⟨aa (by rw[←k.out];simp),x10 w _⟩
theorem ent_src:Ent 194:=fun _ _=>by kernel_rfl
theorem colx_any (x:Ex) (A:OA) (n c:Nat) (w:World) (k:Sh w) (j:ExV w x A n c):
  Cl 195 #[x.d.val A n c] w (Rt (.bool (gJ x)) w):=by
 have g:=hid (fun W (i:Ext w W)=>fp x A n c W (j.ext i) (k.ext i))
 obtain⟨R,a⟩:∃R,gJ x=R:=⟨_,rfl⟩
 rw[a]
 unfold gJ at a
 unfold Nd.val at g ⊢
 clear k j
 generalize x.formed=m at*
 generalize x.d=d at*
 obtain⟨op,tb,nm,ix,vk,vi,vt⟩:=d
 simp only at*
 obtain⟨l,e⟩:∃b,(op==2)=b:=⟨_,rfl⟩
 rw[e]at a
 have h:=hid a
 clear a
 cases l
 all_goals
  go_enter func195,ntmps195
  go_wp2_with (go_at_call 79;(with_reducible refine(g.out _ (x10 w _)).mono ?_);rintro _ o ⟨rfl,f⟩)
  go_ret
  first|exact⟨aa (by rw[←h.out];simp),(x10 w _).trans f⟩|exact⟨aa (by rw[←h.out];simp),x10 w _⟩
theorem ent_colx:Ent 195:=fun _ _=>by kernel_rfl
theorem ordok_any (x:Ord') (w:World) (e:I64 x.it):
  Cl 196 #[.agg #[i4 x.it,.bool x.ds]] w (Rt (.bool x.ok) w):=by
 have b:=hid (fun W=>fo x.it 1 2147483648 W)
 obtain⟨R,a⟩:∃R,x.ok=R:=⟨_,rfl⟩
 rw[a]
 unfold Ord'.ok inB at a
 rw[a]at b
 clear e a
 go_enter func196,ntmps196
 go_wp2_with (go_at_call 197;(with_reducible refine(b.out _).mono ?_);rintro _ _ ⟨rfl,rfl⟩)
 go_ret
 exact⟨rfl,x10 w _⟩
theorem ent_ord:Ent 196:=fun _ _=>by kernel_rfl
theorem ox (l:List Ex) (A:OA) (n c:Nat) (w:World) (k:Sh w) (h:l.length=n) (i:n≤9223372036854775807) (g:KidsAt w A l):
  Cl 121 #[.slice A n c,.func (Fn.func 79) #[] #[]] w (Rt (.bool (!l.all Ex.formed)) w):=by
 have:=(wrs 79 wH A n c w i).2.2.2.2.2.2.2.2 Ex.formed l h g fun x _ W e v j=>by obtain⟨a,m,b,rfl,f⟩:=j;exact fp x a m b W f (k.ext e)
 rwa [kI]at this
theorem rowok_any (l:List Ex) (A:OA) (n c:Nat) (w:World) (j:Sh w) (m:n≤9223372036854775807) (f:l.length=n∧KidsAt w A l):
  Cl 120 #[.slice A n c] w (Rt (.bool (rowOk l)) w):=by
 have g:=hid (ox l A n c w j f.1 m f.2)
 have h:Hid (rowOk l=(decide (0<n) &&l.all Ex.formed)):=by unfold Hid rowOk;rw[f.1]
 clear j f
 generalize rowOk l=R at*
 generalize l.all Ex.formed=b at*
 by_cases i:0<n
 ·have k:decide ((0:Int)<(n:Int))=true:=by simp;omega
  have a:Hid (R=b):=by unfold Hid;rw[h.out];simp[i]
  go_enter func120,ntmps120
  go_wp2_with (go_at_call 121;refine g.mono ?_;rintro _ o ⟨rfl,e⟩)
  go_ret
  exact⟨aa (by first|exact a.symm|(rw[a.out];simp)),e⟩
 ·have k:decide ((0:Int)<(n:Int))=false:=by simp;omega
  have a:Hid (R=false):=by unfold Hid;rw[h.out];simp[i]
  go_enter func120,ntmps120
  go_wp2_with (go_at_call 121;refine g.mono ?_;rintro _ o ⟨rfl,e⟩)
  go_ret
  exact⟨aa a.symm,Ext.refl w⟩
theorem ent_row:Ent 120:=fun _ _=>by kernel_rfl
theorem asgok_any (x:Asg) (A:OA) (n c:Nat) (w:World) (e:Sh w) (j:x.cl.size≤9223372036854775807) (i:ExV w x.ex A n c):
  Cl 123 #[.agg #[.string x.cl,i4 x.ix,i4 x.ex.d.op,.string x.ex.d.tb,.string x.ex.d.nm,i4 x.ex.d.ix,i4 x.ex.d.vk,i4 x.ex.d.vi,.string x.ex.d.vt,.slice A n c]] w (Rt (.bool x.ok) w):=by
 have g:=hid (fun W (b:Ext w W)=>fp x.ex A n c W (i.ext b) (e.ext b))
 have k:=hid (fun W (b:Ext w W)=>name_any x.cl W (e.ext b) j)
 obtain⟨R,a⟩:∃R,x.ok=R:=⟨_,rfl⟩
 rw[a]
 unfold Asg.ok at a
 unfold Nd.val at g
 clear e i j
 generalize x.ex.formed=m at*
 generalize nameB x.cl=l at*
 generalize x.ex.d=d at*
 obtain⟨op,tb,nm,ix,vk,vi,vt⟩:=d
 simp only at*
 have h:=hid a
 clear a
 cases l
 all_goals
  go_enter func123,ntmps123
  go_wp2_with (first|(go_at_call 115;(with_reducible refine(k.out _ (x10 w _)).mono ?_);rintro _ _ ⟨rfl,rfl⟩)|(go_at_call 79;(with_reducible refine(g.out _ (x10 w _)).mono ?_);rintro _ o ⟨rfl,f⟩))
  go_ret
  first|exact⟨aa (by rw[←h.out];simp),(x10 w _).trans f⟩|exact⟨aa (by rw[←h.out];simp),x10 w _⟩
theorem ent_asg:Ent 123:=fun _ _=>by kernel_rfl
theorem rp (s:St) (a:SA) (w:World) (b:StV w s a) (f:s.cols.length+s.keys.length+s.frs.length+s.chk.length≤1048576):
  Cl 117 #[.agg #[.slice a.cols.A a.cols.n a.cols.c,.slice a.keys.A a.keys.n a.keys.c,.slice a.frs.A a.frs.n a.frs.c,.slice a.chk.A a.chk.n a.chk.c]] w (Rt (.bool s.noDef) w):=by
 have e:Hid (s.noDef=decide (a.cols.n+a.keys.n+a.frs.n+a.chk.n=0)):=by unfold Hid St.noDef;rw[b.cols.1,b.keys.1,b.frs.1,b.chk.1]
 rw[b.cols.1,b.keys.1,b.frs.1,b.chk.1]at f
 rw[e.out]
 clear b e
 generalize a.cols.n=g at*
 generalize a.keys.n=h at*
 generalize a.frs.n=i at*
 generalize a.chk.n=j at*
 go_enter func117,ntmps117
 go_wp2_with fail
 go_ret
 refine⟨aa ?_,x10 w _⟩
 rw[Bool.eq_iff_iff]
 simp only[beq_iff_eq,decide_eq_true_eq]
 omega
theorem def_any (s:St) (a:SA) (w:World) (o:Sh w) (f:StV w s a) (C:s.cols.length+s.keys.length+s.frs.length+s.chk.length≤1048576):
  Cl 118 #[.agg #[.slice a.cols.A a.cols.n a.cols.c,.slice a.keys.A a.keys.n a.keys.c,.slice a.frs.A a.frs.n a.frs.c,.slice a.chk.A a.chk.n a.chk.c]] w (Rt (.bool s.defOk) w):=by
 have G:=hid (fun W (h:Ext w W)=>rp s a W (f.ext h) C)
 have y:=hid (fun W (h:Ext w W)=> (wrs 186 ent_col a.cols.A a.cols.n a.cols.c W f.cols.2.1).1 Cd.ok s.cols f.cols.1 (f.cols.2.2.ext h) fun x _ m i v f=>by obtain⟨rfl,k⟩:=f;exact colok_any x m (o.ext (h.trans i)) k)
 have z:=hid (fun W (h:Ext w W)=> (wrs 184 ent_names a.keys.A a.keys.n a.keys.c W f.keys.2.1).2.1 namesB s.keys f.keys.1 (f.keys.2.2.ext h) fun x _ m i v f=>by obtain⟨F,Z,O,rfl,k⟩:=f;exact nL x F Z O m (o.ext (h.trans i)) k.1 k.2.1 k.2.2)
 have B:=hid (fun W (h:Ext w W)=> (wrs 183 ent_rf a.frs.A a.frs.n a.frs.c W f.frs.2.1).2.2.1 Rf.ok s.frs f.frs.1 (f.frs.2.2.ext h) fun x _ m i v f=>by obtain⟨D,X,c1,E,Y,c2,rfl,k⟩:=f;exact rfok_any x D X c1 E Y c2 m (o.ext (h.trans i)) k)
 have H:=hid (fun W (h:Ext w W)=>ox s.chk a.chk.A a.chk.n a.chk.c W (o.ext h) f.chk.1 f.chk.2.1 (f.chk.2.2.ext h))
 simp only[kI]at y z B
 have p:=hid (Blk.of_new w 29 [.slice a.cols.A a.cols.n a.cols.c,.slice a.keys.A a.keys.n a.keys.c,.slice a.frs.A a.frs.n a.frs.c,.slice a.chk.A a.chk.n a.chk.c])
 clear o f C
 obtain⟨R,t⟩:∃R,s.defOk=R:=⟨_,rfl⟩
 rw[t]
 unfold St.defOk at t
 generalize s.noDef=I at*
 generalize s.cols.all Cd.ok=J at*
 generalize s.keys.all namesB=K at*
 generalize s.frs.all Rf.ok=L at*
 generalize s.chk.all Ex.formed=b4 at*
 have l:=hid t
 clear t
 cases I<;>cases J<;>cases K<;>cases L
 all_goals
  go_enter func118,ntmps118
  go_wp2_with (first|(go_at_call 121;(with_reducible refine(H.out _ ((((x10 w _).trans b).trans e|>.trans g).trans j)).mono ?_);rintro _ w6 ⟨rfl,u⟩)|(go_at_call 188;(with_reducible refine(B.out _ (((x10 w _).trans b).trans e|>.trans g)).mono ?_);rintro _ w5 ⟨rfl,j⟩;have V:=(p.ext (((b.trans e).trans g).trans j)).cell 3;simp only[g10,g11]at V)|(go_at_call 187;(with_reducible refine(z.out _ (((x10 w _).trans b).trans e)).mono ?_);rintro _ w4 ⟨rfl,g⟩;have U:=(p.ext ((b.trans e).trans g)).cell 2;simp only[g10,g11]at U)|(go_at_call 185;(with_reducible refine(y.out _ ((x10 w _).trans b)).mono ?_);rintro _ w3 ⟨rfl,e⟩;have Q:=(p.ext (b.trans e)).cell 1;simp only[g10,g11]at Q)|(go_at_call 117;(with_reducible refine(G.out _ (x10 w _)).mono ?_);rintro _ w2 ⟨rfl,b⟩;have P:=(p.ext (b)).cell 0;simp only[g10,g11]at P))
  go_ret
  first|exact⟨aa (by rw[←l.out];simp),(((((x10 w _).trans b).trans e).trans g).trans j).trans u⟩|exact⟨aa (by rw[←l.out];simp),((((x10 w _).trans b).trans e).trans g).trans j⟩|exact⟨aa (by rw[←l.out];simp),(((x10 w _).trans b).trans e).trans g⟩|exact⟨aa (by rw[←l.out];simp),((x10 w _).trans b).trans e⟩|exact⟨aa (by rw[←l.out];simp),(x10 w _).trans b⟩
theorem query_any (s:St) (a:SA) (w:World) (P:Sh w) (o:StV w s a):
  Cl 124 #[s.val a] w (Rt (.bool s.qOk) w):=by
 have y:=hid (fun W (u:Ext w W)=> (wrs 199 ent_itm a.itms.A a.itms.n a.itms.c W o.itms.2.1).2.2.2.2.2.1 Itm.ok s.itms o.itms.1 (o.itms.2.2.ext u) fun x _ D p v o=>by obtain⟨Q,V,U,rfl,E⟩:=o;exact itmok_any x Q V U D (P.ext (u.trans p)) E)
 have z:=hid (fun W (u:Ext w W)=> (wrs 194 ent_src a.frm.A a.frm.n a.frm.c W o.frm.2.1).2.2.2.2.2.2.1 Src.ok s.frm o.frm.1 (o.frm.2.2.ext u) fun x _ D p v o=>by obtain⟨rfl,E⟩:=o;exact srcok_any x D (P.ext (u.trans p)) E)
 have B:=hid (fun W (u:Ext w W)=> (wrs 195 ent_colx a.grp.A a.grp.n a.grp.c W o.grp.2.1).2.2.2.2.2.2.2.2 gJ s.grp o.grp.1 (o.grp.2.2.ext u) fun x _ D p v o=>by obtain⟨Q,V,U,rfl,E⟩:=o;exact colx_any x Q V U D (P.ext (u.trans p)) E)
 have C:=hid (fun W (u:Ext w W)=> (wrs 196 ent_ord a.ord.A a.ord.n a.ord.c W o.ord.2.1).2.2.2.2.2.2.2.1 Ord'.ok s.ord o.ord.1 (o.ord.2.2.ext u) fun x _ D p v o=>by obtain⟨rfl,E⟩:=o;exact ordok_any x D E)
 have F:=hid (fun W=>fo s.lim 0 2147483648 W)
 simp only[kI]at y z B C
 have i:=hid (Blk.of_new w 40 (s.cells a))
 have H:=o.frm.1
 obtain⟨R,G⟩:∃R,s.qOk=R:=⟨_,rfl⟩
 rw[G]
 unfold St.qOk inB at G
 rw[H]at G
 clear P o H
 unfold St.val at*
 unfold St.cells at*
 unfold Sl.v at*
 generalize s.itms.all Itm.ok=Y at*
 generalize s.frm.all Src.ok=Z at*
 generalize s.grp.all gJ=b3 at*
 generalize s.ord.all Ord'.ok=b4 at*
 generalize (decide (0≤s.lim) &&decide (s.lim≤2147483648))=b5 at*
 obtain⟨X,I⟩:∃b,decide (0<a.frm.n)=b:=⟨_,rfl⟩
 rw[I]at G
 have ac:decide ((0:Int)<(a.frm.n:Int))=X:=by rw[←I];simp
 have j:=hid G
 clear G
 cases Y
 ·go_enter func124,ntmps124
  go_wp2_with (first|(go_at_call 197;(with_reducible refine(F.out _).mono ?_);rintro _ _ ⟨rfl,rfl⟩)|(go_at_call 201;(with_reducible refine(C.out _ ((((x10 w _).trans e).trans f).trans g)).mono ?_);rintro _ O ⟨rfl,h⟩;have m:=(i.ext (((e.trans f).trans g).trans h)).cell 20;simp only[g10,g11]at m)|(go_at_call 121;(with_reducible refine(B.out _ (((x10 w _).trans e).trans f)).mono ?_);rintro _ L ⟨rfl,g⟩;have l:=(i.ext ((e.trans f).trans g)).cell 19;simp only[g10,g11]at l)|(go_at_call 200;(with_reducible refine(z.out _ ((x10 w _).trans e)).mono ?_);rintro _ K ⟨rfl,f⟩;have k:=(i.ext (e.trans f)).cell 18;simp only[g10,g11]at k)|(go_at_call 198;(with_reducible refine(y.out _ (x10 w _)).mono ?_);rintro _ J ⟨rfl,e⟩;have t:=(i.ext (e)).cell 9;simp only[g10,g11]at t))
  go_ret
  first|exact⟨aa (by rw[←j.out];simp),((((x10 w _).trans e).trans f).trans g).trans h⟩|exact⟨aa (by rw[←j.out];simp),(((x10 w _).trans e).trans f).trans g⟩|exact⟨aa (by rw[←j.out];simp),((x10 w _).trans e).trans f⟩|exact⟨aa (by rw[←j.out];simp),(x10 w _).trans e⟩
 ·cases X
  ·go_enter func124,ntmps124
   go_wp2_with (first|(go_at_call 197;(with_reducible refine(F.out _).mono ?_);rintro _ _ ⟨rfl,rfl⟩)|(go_at_call 201;(with_reducible refine(C.out _ ((((x10 w _).trans e).trans f).trans g)).mono ?_);rintro _ O ⟨rfl,h⟩;have m:=(i.ext (((e.trans f).trans g).trans h)).cell 20;simp only[g10,g11]at m)|(go_at_call 121;(with_reducible refine(B.out _ (((x10 w _).trans e).trans f)).mono ?_);rintro _ L ⟨rfl,g⟩;have l:=(i.ext ((e.trans f).trans g)).cell 19;simp only[g10,g11]at l)|(go_at_call 200;(with_reducible refine(z.out _ ((x10 w _).trans e)).mono ?_);rintro _ K ⟨rfl,f⟩;have k:=(i.ext (e.trans f)).cell 18;simp only[g10,g11]at k)|(go_at_call 198;(with_reducible refine(y.out _ (x10 w _)).mono ?_);rintro _ J ⟨rfl,e⟩;have t:=(i.ext (e)).cell 9;simp only[g10,g11]at t))
   go_ret
   first|exact⟨aa (by rw[←j.out];simp),((((x10 w _).trans e).trans f).trans g).trans h⟩|exact⟨aa (by rw[←j.out];simp),(((x10 w _).trans e).trans f).trans g⟩|exact⟨aa (by rw[←j.out];simp),((x10 w _).trans e).trans f⟩|exact⟨aa (by rw[←j.out];simp),(x10 w _).trans e⟩
  ·cases Z
   ·go_enter func124,ntmps124
    go_wp2_with (first|(go_at_call 197;(with_reducible refine(F.out _).mono ?_);rintro _ _ ⟨rfl,rfl⟩)|(go_at_call 201;(with_reducible refine(C.out _ ((((x10 w _).trans e).trans f).trans g)).mono ?_);rintro _ O ⟨rfl,h⟩;have m:=(i.ext (((e.trans f).trans g).trans h)).cell 20;simp only[g10,g11]at m)|(go_at_call 121;(with_reducible refine(B.out _ (((x10 w _).trans e).trans f)).mono ?_);rintro _ L ⟨rfl,g⟩;have l:=(i.ext ((e.trans f).trans g)).cell 19;simp only[g10,g11]at l)|(go_at_call 200;(with_reducible refine(z.out _ ((x10 w _).trans e)).mono ?_);rintro _ K ⟨rfl,f⟩;have k:=(i.ext (e.trans f)).cell 18;simp only[g10,g11]at k)|(go_at_call 198;(with_reducible refine(y.out _ (x10 w _)).mono ?_);rintro _ J ⟨rfl,e⟩;have t:=(i.ext (e)).cell 9;simp only[g10,g11]at t))
    go_ret
    first|exact⟨aa (by rw[←j.out];simp),((((x10 w _).trans e).trans f).trans g).trans h⟩|exact⟨aa (by rw[←j.out];simp),(((x10 w _).trans e).trans f).trans g⟩|exact⟨aa (by rw[←j.out];simp),((x10 w _).trans e).trans f⟩|exact⟨aa (by rw[←j.out];simp),(x10 w _).trans e⟩
   ·cases b3
    ·go_enter func124,ntmps124
     go_wp2_with (first|(go_at_call 197;(with_reducible refine(F.out _).mono ?_);rintro _ _ ⟨rfl,rfl⟩)|(go_at_call 201;(with_reducible refine(C.out _ ((((x10 w _).trans e).trans f).trans g)).mono ?_);rintro _ O ⟨rfl,h⟩;have m:=(i.ext (((e.trans f).trans g).trans h)).cell 20;simp only[g10,g11]at m)|(go_at_call 121;(with_reducible refine(B.out _ (((x10 w _).trans e).trans f)).mono ?_);rintro _ L ⟨rfl,g⟩;have l:=(i.ext ((e.trans f).trans g)).cell 19;simp only[g10,g11]at l)|(go_at_call 200;(with_reducible refine(z.out _ ((x10 w _).trans e)).mono ?_);rintro _ K ⟨rfl,f⟩;have k:=(i.ext (e.trans f)).cell 18;simp only[g10,g11]at k)|(go_at_call 198;(with_reducible refine(y.out _ (x10 w _)).mono ?_);rintro _ J ⟨rfl,e⟩;have t:=(i.ext (e)).cell 9;simp only[g10,g11]at t))
     go_ret
     first|exact⟨aa (by rw[←j.out];simp),((((x10 w _).trans e).trans f).trans g).trans h⟩|exact⟨aa (by rw[←j.out];simp),(((x10 w _).trans e).trans f).trans g⟩|exact⟨aa (by rw[←j.out];simp),((x10 w _).trans e).trans f⟩|exact⟨aa (by rw[←j.out];simp),(x10 w _).trans e⟩
    ·cases b4
     ·go_enter func124,ntmps124
      go_wp2_with (first|(go_at_call 197;(with_reducible refine(F.out _).mono ?_);rintro _ _ ⟨rfl,rfl⟩)|(go_at_call 201;(with_reducible refine(C.out _ ((((x10 w _).trans e).trans f).trans g)).mono ?_);rintro _ O ⟨rfl,h⟩;have m:=(i.ext (((e.trans f).trans g).trans h)).cell 20;simp only[g10,g11]at m)|(go_at_call 121;(with_reducible refine(B.out _ (((x10 w _).trans e).trans f)).mono ?_);rintro _ L ⟨rfl,g⟩;have l:=(i.ext ((e.trans f).trans g)).cell 19;simp only[g10,g11]at l)|(go_at_call 200;(with_reducible refine(z.out _ ((x10 w _).trans e)).mono ?_);rintro _ K ⟨rfl,f⟩;have k:=(i.ext (e.trans f)).cell 18;simp only[g10,g11]at k)|(go_at_call 198;(with_reducible refine(y.out _ (x10 w _)).mono ?_);rintro _ J ⟨rfl,e⟩;have t:=(i.ext (e)).cell 9;simp only[g10,g11]at t))
      go_ret
      first|exact⟨aa (by rw[←j.out];simp),((((x10 w _).trans e).trans f).trans g).trans h⟩|exact⟨aa (by rw[←j.out];simp),(((x10 w _).trans e).trans f).trans g⟩|exact⟨aa (by rw[←j.out];simp),((x10 w _).trans e).trans f⟩|exact⟨aa (by rw[←j.out];simp),(x10 w _).trans e⟩
     ·go_enter func124,ntmps124
      go_wp2_with (first|(go_at_call 197;(with_reducible refine(F.out _).mono ?_);rintro _ _ ⟨rfl,rfl⟩)|(go_at_call 201;(with_reducible refine(C.out _ ((((x10 w _).trans e).trans f).trans g)).mono ?_);rintro _ O ⟨rfl,h⟩;have m:=(i.ext (((e.trans f).trans g).trans h)).cell 20;simp only[g10,g11]at m)|(go_at_call 121;(with_reducible refine(B.out _ (((x10 w _).trans e).trans f)).mono ?_);rintro _ L ⟨rfl,g⟩;have l:=(i.ext ((e.trans f).trans g)).cell 19;simp only[g10,g11]at l)|(go_at_call 200;(with_reducible refine(z.out _ ((x10 w _).trans e)).mono ?_);rintro _ K ⟨rfl,f⟩;have k:=(i.ext (e.trans f)).cell 18;simp only[g10,g11]at k)|(go_at_call 198;(with_reducible refine(y.out _ (x10 w _)).mono ?_);rintro _ J ⟨rfl,e⟩;have t:=(i.ext (e)).cell 9;simp only[g10,g11]at t))
      go_ret
      first|exact⟨aa (by rw[←j.out];simp),((((x10 w _).trans e).trans f).trans g).trans h⟩|exact⟨aa (by rw[←j.out];simp),(((x10 w _).trans e).trans f).trans g⟩|exact⟨aa (by rw[←j.out];simp),((x10 w _).trans e).trans f⟩|exact⟨aa (by rw[←j.out];simp),(x10 w _).trans e⟩
theorem f5 (a f e nd ne b:Bool):((a==!f) && (!a||e) && (nd==!ne) && (!nd||b))=!((a !=!f)||(a&&!e)||(nd !=!ne)||(nd&&!b)):=by
 cases a<;>cases f<;>cases e<;>cases nd<;>cases ne<;>cases b<;>rfl
theorem f8 (a e b:Bool):(a||e&&b)=!(!a&& (!e||!b)):=by cases a<;>cases e<;>cases b<;>rfl
theorem f10 (a e b v g s h f:Bool):((a==!e) && (b==v) && (g==s) && (h==f))=!((a !=!e)||(b !=v)||(g !=s)||(h !=f)):=by
 cases a<;>cases e<;>cases b<;>cases v<;>cases g<;>cases s<;>cases h<;>cases f<;>rfl
theorem f12 (a z l:Bool):(a||z&&l)=!(!a&& (!z||!l)):=by cases a<;>cases z<;>cases l<;>rfl
theorem qP (s:St) (a:SA) (w:World) (L:Sh w) (f:StV w s a) (hb:s.cols.length+s.keys.length+s.frs.length+s.chk.length≤1048576) (be:s.itms.length+s.grp.length+s.ord.length≤1048576):
  Cl 64 #[s.val a] w (Rt (.bool s.formed) w):=by
 have H1:=hid (fun W (k:Ext w W)=>name_any s.tb W (L.ext k) f.tb)
 have H2:=hid (fun W (k:Ext w W)=>name_any s.nm W (L.ext k) f.nm)
 have H3:=hid (fun W (k:Ext w W)=>lA s.whr a.whr.A a.whr.n a.whr.c W (f.whr.ext k))
 have H4:=hid (fun W (k:Ext w W)=>fp s.whr a.whr.A a.whr.n a.whr.c W (f.whr.ext k) (L.ext k))
 have H5:=hid (fun W (k:Ext w W)=>rp s a W (f.ext k) hb)
 have H6:=hid (fun W (k:Ext w W)=>def_any s a W (L.ext k) (f.ext k) hb)
 have H7:=hid (fun W (k:Ext w W)=> (wrs 120 ent_row a.vals.A a.vals.n a.vals.c W f.vals.2.1).2.2.2.1 rowOk s.vals f.vals.1 (f.vals.2.2.ext k) fun x hx W2 U v f=>by obtain⟨Ai,ni,ci,rfl,hc⟩:=f;exact rowok_any x Ai ni ci W2 (L.ext (k.trans U)) (by have:=f.valn x hx;omega) hc)
 have H8:=hid (fun W (k:Ext w W)=> (wrs 123 ent_asg a.sets.A a.sets.n a.sets.c W f.sets.2.1).2.2.2.2.1 Asg.ok s.sets f.sets.1 (f.sets.2.2.ext k) fun x hx W2 U v f=>by obtain⟨Ai,ni,ci,rfl,hc⟩:=f;exact asgok_any x Ai ni ci W2 (L.ext (k.trans U)) (by obtain⟨i,hi,rfl⟩:=getElem_of_mem hx;exact(f.sets.2.2 i _ (getElem?_eq_getElem hi)).1.1) hc)
 have H9:=hid (fun W (k:Ext w W)=>query_any s a W (L.ext k) (f.ext k))
 simp only[kI]at H7 H8
 have l:=hid (Blk.of_new w 40 (s.cells a))
 have P:=hid (x10 w (.cells (s.cells a).toArray 40))
 obtain⟨R,G⟩:∃R,s.formed=R:=⟨_,rfl⟩
 rw[G]
 unfold St.formed at G
 dsimp only at G
 rw[f.vals.1,f.sets.1,f.frm.1,f.itms.1,f.grp.1,f.ord.1]at G
 rw[f.itms.1,f.grp.1,f.ord.1]at be
 simp only[←beq_iff_eq (a:=s.kd)]at G
 clear L f hb
 unfold St.val at*
 unfold St.cells Sl.v at*
 unfold Nd.val at H3 H4
 generalize s.whr.absent=ba at*
 generalize s.whr.formed=bf at*
 generalize nameB s.tb=bn at*
 generalize nameB s.nm=bm at*
 generalize s.noDef=e0 at*
 generalize s.defOk=q1 at*
 generalize s.vals.all rowOk=q2 at*
 generalize s.sets.all Asg.ok=q3 at*
 generalize s.qOk=q5 at*
 obtain⟨te,b4⟩:∃b,s.tb.toList.isEmpty=b:=⟨_,rfl⟩
 obtain⟨ne,b2⟩:∃b,s.nm.toList.isEmpty=b:=⟨_,rfl⟩
 obtain⟨X,b3⟩:∃b,decide (s.kd≤4)=b:=⟨_,rfl⟩
 obtain⟨c1,bo⟩:∃b,decide (s.kd<1)=b:=⟨_,rfl⟩
 obtain⟨c2,bv⟩:∃b,decide (11<s.kd)=b:=⟨_,rfl⟩
 have d1:decide (1≤s.kd)=!c1:=by rw[←bo,Bool.eq_iff_iff];simp
 have d2:decide (s.kd≤11)=!c2:=by rw[←bv,Bool.eq_iff_iff];simp
 obtain⟨Y,bw⟩:∃b,(s.kd==1)=b:=⟨_,rfl⟩
 obtain⟨Z,bx⟩:∃b,(s.kd==2)=b:=⟨_,rfl⟩
 obtain⟨H,bN⟩:∃b,(s.kd==3)=b:=⟨_,rfl⟩
 obtain⟨k4,bY⟩:∃b,(s.kd==4)=b:=⟨_,rfl⟩
 obtain⟨o,I⟩:∃b,(s.kd==5)=b:=⟨_,rfl⟩
 obtain⟨n9,b1⟩:∃b,(s.kd==9)=b:=⟨_,rfl⟩
 obtain⟨D,ag⟩:∃b,(s.kd==10)=b:=⟨_,rfl⟩
 obtain⟨E,an⟩:∃b,(s.kd==11)=b:=⟨_,rfl⟩
 obtain⟨v0,aS⟩:∃b,decide (0<a.vals.n)=b:=⟨_,rfl⟩
 obtain⟨s0,ax⟩:∃b,decide (0<a.sets.n)=b:=⟨_,rfl⟩
 obtain⟨f0,ac⟩:∃b,decide (0<a.frm.n)=b:=⟨_,rfl⟩
 obtain⟨z0,a0⟩:∃b,decide (a.itms.n+a.grp.n+a.ord.n=0)=b:=⟨_,rfl⟩
 obtain⟨l0,ad⟩:∃b,(s.lim==0)=b:=⟨_,rfl⟩
 rw[b4,b2,b3,d1,d2,bw,bx,bN,bY,I,b1,ag,an,aS,ax,ac,a0,ad]at G
 replace G:(!(c1||c2) &&!((X !=!te)||(X&&!bn)||((n9||D||E) !=!ne)||((n9||D||E) &&!bm)) &&!(!ba&& (!(H||k4||o)||!bf)) &&!((Y !=!e0)||(Z !=v0)||(H !=s0)||(o !=f0)) &&!(!o&& (!z0||!l0)) && (if Y=true then q1 else if Z=true then q2 else if H=true then q3 else if o=true then q5 else true))=R:=by
  rw[←G,←f5,←f8,←f10,←f12,Bool.not_or]
  simp only[Bool.and_assoc]
 have F:=hid G
 clear G d1 d2
 have ct:(s.kd !=5)=!o:=by rw[bne,I]
 have cw:(s.lim !=0)=!l0:=by rw[bne,ad]
 go_enter func64,ntmps64
 go_upto_region 1 with fail
 generalize w.alloc (.cells _ 40)=w1 at*
 generalize w.heap.size=g at*
 have V:=(l).cell 0
 have p1:=(l).cell 1
 have K:=(l).cell 20
 have a9:=(l).cell 21
 have a1:=(l).cell 10
 have a2:=(l).cell 11
 have a3:=(l).cell 12
 have a4:=(l).cell 13
 have a5:=(l).cell 14
 have a6:=(l).cell 15
 have a7:=(l).cell 16
 have a8:=(l).cell 17
 simp only[g10,g11]at V p1 K a9 a1 a2 a3 a4 a5 a6 a7 a8
 go_cut [13] from 6 to 12 (fun p t=>p= .bool (c1||c2)∧w1=t)
 case first=>
  cases c1<;>cases c2
  all_goals
   go_wp2_with fail
   go_meet
   exact⟨rfl,rfl⟩
 case rest=>
  obtain⟨rfl,rfl⟩:=hcut
  generalize (c1||c2)=C1 at*
  cases C1
  ·go_upto_region 4 with fail
   go_cut [4] from 17 to 29 (fun p t=>p= .bool (n9||D||E)∧w1=t)
   case first=>
    cases n9<;>cases D<;>cases E
    all_goals
     go_wp2_with fail
     go_meet
     exact⟨rfl,rfl⟩
   case rest=>
    obtain⟨rfl,rfl⟩:=hcut
    generalize (n9||D||E)=nd at*
    go_upto_region 5 with fail
    go_cut [59] from 30 to 58 (fun p t=>p= .bool ((X !=!te)||(X&&!bn)||(nd !=!ne)||(nd&&!bm))∧w1=t)
    case first=>
     cases X<;>cases te<;>cases bn<;>cases nd<;>cases ne<;>cases bm
     all_goals
      go_wp2_with (first|(go_at_call 115;(with_reducible refine(H1.out _ P.out).mono ?_);rintro _ _ ⟨rfl,rfl⟩)|(go_at_call 115;(with_reducible refine(H2.out _ P.out).mono ?_);rintro _ _ ⟨rfl,rfl⟩))
      go_meet
      exact⟨rfl,rfl⟩
    case rest=>
     obtain⟨rfl,rfl⟩:=hcut
     generalize ((X !=!te)||(X&&!bn)||(nd !=!ne)||(nd&&!bm))=C5 at*
     cases C5
     ·go_upto_region 7 with fail
      go_cut [5] from 60 to 72 (fun p t=>p= .bool (H||k4||o)∧w1=t)
      case first=>
       cases H<;>cases k4<;>cases o
       all_goals
        go_wp2_with fail
        go_meet
        exact⟨rfl,rfl⟩
      case rest=>
       obtain⟨rfl,rfl⟩:=hcut
       generalize (H||k4||o)=cd at*
       go_upto_region 8 with fail
       go_cut [86] from 73 to 85 (fun p t=>p= .bool (!ba&& (!cd||!bf))∧Ext w1 t)
       case first=>
        cases ba<;>cases cd
        all_goals
         go_wp2_with (first|(go_at_call 116;(with_reducible refine(H3.out _ P.out).mono ?_);rintro _ w2 ⟨rfl,J⟩;obtain⟨-,-,-,-,-,-,-,-,-,-,b9,cb,cc,cj,ck,cl,cp,cs,-⟩:=cls (l.ext J))|(go_at_call 79;(with_reducible refine(H4.out _ (P.out.trans J)).mono ?_);rintro _ w3 ⟨rfl,b5⟩))
         go_meet
         first|exact⟨rfl,J.trans b5⟩|exact⟨rfl,J⟩
       case rest=>
        obtain⟨rfl,m⟩:=hcut
        generalize wc=wa at*
        have Q:=hid (P.trans m)
        replace l:=hid (l.ext m)
        clear m V p1 K a9 a1 a2 a3 a4 a5 a6 a7 a8 H1 H2 H3 H4
        generalize (!ba&& (!cd||!bf))=C8 at*
        cases C8
        ·have V:=l.cell 0
         simp only[getElem?_cons_zero]at V
         go_upto_region 10 with fail
         go_cut [124] from 87 to 123 (fun p t=>p= .bool ((Y !=!e0)||(Z !=v0)||(H !=s0)||(o !=f0))∧Ext wa t)
         case first=>
          have HE:Hid (∀z:ai wa,Cl 117 _ z.now _):=fun z=>H5 z.now (Q.trans z.ext)
          have cH:decide ((0:Int)<(a.vals.n:Int))=v0:=by rw[←aS];simp
          have cz:decide ((0:Int)<(a.sets.n:Int))=s0:=by rw[←ax];simp
          have cx:decide ((0:Int)<(a.frm.n:Int))=f0:=by rw[←ac];simp
          obtain⟨y1,u⟩:∃b,(Y==!e0)=b:=⟨_,rfl⟩
          obtain⟨y2,y⟩:∃b,(Z==v0)=b:=⟨_,rfl⟩
          obtain⟨y3,B⟩:∃b,(H==s0)=b:=⟨_,rfl⟩
          obtain⟨y4,C⟩:∃b,(o==f0)=b:=⟨_,rfl⟩
          obtain⟨r0,-,r2,r3,r4,r5,r6,r7,-,r9,-⟩:=lks l
          cases y1
          ·refine af (by kernel_rfl) (by kernel_rfl) ?_
           repeat (go_big_quiet_step ((go_at_call 117;with_reducible exact aq (HE.out _))))
           refine wpQuiet_nil ?_
           intro O h
           have e:=am h
           clear h
           go_wp2_with fail
           go_meet
           exact⟨by simp only[bne,u,y,B,C] <;>rfl,e⟩
          ·cases y2
           ·refine af (by kernel_rfl) (by kernel_rfl) ?_
            repeat (go_big_quiet_step ((go_at_call 117;with_reducible exact aq (HE.out _))))
            refine wpQuiet_nil ?_
            intro O h
            have e:=am h
            clear h
            go_wp2_with fail
            go_meet
            exact⟨by simp only[bne,u,y,B,C] <;>rfl,e⟩
           ·cases y3
            ·refine af (by kernel_rfl) (by kernel_rfl) ?_
             repeat (go_big_quiet_step ((go_at_call 117;with_reducible exact aq (HE.out _))))
             refine wpQuiet_nil ?_
             intro O h
             have e:=am h
             clear h
             go_wp2_with fail
             go_meet
             exact⟨by simp only[bne,u,y,B,C] <;>rfl,e⟩
            ·cases y4
             ·refine af (by kernel_rfl) (by kernel_rfl) ?_
              repeat (go_big_quiet_step ((go_at_call 117;with_reducible exact aq (HE.out _))))
              refine wpQuiet_nil ?_
              intro O h
              have e:=am h
              clear h
              go_wp2_with fail
              go_meet
              exact⟨by simp only[bne,u,y,B,C] <;>rfl,e⟩
             ·refine af (by kernel_rfl) (by kernel_rfl) ?_
              repeat (go_big_quiet_step ((go_at_call 117;with_reducible exact aq (HE.out _))))
              refine wpQuiet_nil ?_
              intro O h
              have e:=am h
              clear h
              go_wp2_with fail
              go_meet
              exact⟨by simp only[bne,u,y,B,C] <;>rfl,e⟩
         case rest=>
          obtain⟨rfl,m⟩:=hcut
          generalize wc=wb at*
          have j:=hid (Q.trans m)
          replace l:=hid (l.ext m)
          clear m V H5
          generalize ((Y !=!e0)||(Z !=v0)||(H !=s0)||(o !=f0))=C10 at*
          cases C10
          ·obtain⟨V,-,p2,p3,p4,p5,p6,p7,p8,-,-,-,-,-,-,-,-,-,b6,b7,K,-⟩:=cls (l)
           go_upto_region 12 with fail
           have c0:decide ((0:Int)<(a.itms.n:Int)+(a.grp.n:Int)+(a.ord.n:Int))=!z0:=by rw[←a0,Bool.eq_iff_iff];simp;omega
           go_cut [146] from 125 to 145 (fun p t=>p= .bool (!o&& (!z0||!l0))∧wb=t)
           case first=>
            cases o<;>cases z0<;>cases l0
            all_goals
             go_wp2_with fail
             go_meet
             exact⟨rfl,rfl⟩
           case rest=>
            obtain⟨rfl,rfl⟩:=hcut
            generalize (!o&& (!z0||!l0))=bd at*
            cases bd
            ·cases Y
             ·cases Z
              ·cases H
               ·cases o
                ·go_wp2_with fail
                 go_ret
                 exact⟨aa (by rw[←F.out];simp),j⟩
                ·go_upto_region 21 with fail
                 have b0:decide (s.kd=5)=true:=by simpa using I
                 clear I
                 clear V p2 p3 p4 p5 p6 p7 p8 b6 b7 K
                 go_upto_region 22 with fail
                 rotate_left
                 ·exfalso
                  have e5:= ‹(s.kd==5)=false›
                  rw[of_decide_eq_true b0]at e5
                  cases e5
                 go_wp2_with (first|(refine aw rfl 40 (.tmp 1) rfl g rfl 40 _ _ l underlying40 rfl (by kernel_rfl) ?_)|(go_at_call 124;(with_reducible refine(H9.out _ j.out).mono ?_);rintro _ O ⟨rfl,e⟩))
                 go_ret
                 exact⟨aa (by rw[←F.out];simp),j.trans e⟩
               ·go_wp2_with (go_at_call 122;(with_reducible refine(H8.out _ j.out).mono ?_);rintro _ O ⟨rfl,e⟩)
                go_ret
                exact⟨aa (by rw[←F.out];simp),j.trans e⟩
              ·go_wp2_with (go_at_call 119;(with_reducible refine(H7.out _ j.out).mono ?_);rintro _ O ⟨rfl,e⟩)
               go_ret
               exact⟨aa (by rw[←F.out];simp),j.trans e⟩
             ·go_wp2_with (go_at_call 118;(with_reducible refine(H6.out _ j.out).mono ?_);rintro _ O ⟨rfl,e⟩)
              go_ret
              exact⟨aa (by rw[←F.out];simp),j.trans e⟩
            ·go_wp2_with fail
             go_ret
             exact⟨aa (by rw[←F.out];simp),j⟩
          ·go_wp2_with fail
           go_ret
           exact⟨aa (by rw[←F.out];simp),j⟩
        ·go_wp2_with fail
         go_ret
         exact⟨aa (by rw[←F.out];simp),Q⟩
     ·go_wp2_with fail
      go_ret
      exact⟨aa (by rw[←F.out];simp),P⟩
  ·go_wp2_with fail
   go_ret
   exact⟨aa (by rw[←F.out];simp),P⟩
theorem exs1_any (x:Ex) (A:OA) (n c:Nat) (w:World) (f:Gd w) (g:ExV w x A n c) (e:x.formed=true) (hs:x.size≤1000):
  Cl 205 #[x.d.val A n c] w (Rt (.string (x.tx 1)) w):=by
 have h:=hid (fun W (b:Ext w W)=>jO x 1 A n c W (g.ext b) e hs (f.ext b))
 clear f g e hs
 unfold Nd.val at*
 generalize x.tx 1=T at*
 generalize x.d=d at*
 obtain⟨op,tb,nm,ix,vk,vi,vt⟩:=d
 simp only at*
 go_enter func205,ntmps205
 go_wp2_with (go_at_call 131;refine(h _ (x10 w _)).mono ?_;rintro _ i ⟨rfl,a⟩)
 go_ret
 exact⟨rfl,(x10 w _).trans a⟩
theorem ent_exs1:Ent 205:=fun _ _=>by kernel_rfl
theorem rq (l:List Ex) (A:OA) (n c:Nat) (w:World) (g:Gd w) (i:l.length=n) (h:KidsAt w A l) (b:l.all Ex.formed=true) (hs:sizeL l≤1000):
  Cl 128 #[.slice A n c] w (Rt (.string (exsT l)) w):=by
 have t:l.length≤sizeL l:=by rw[←jf];exact bW (fun a=>dX a) l
 have m:=hid (lss.1 205 ent_exs1 (fun e=>e.tx 1) l A n c w i (by omega) h (Nat.le_trans (gL b) (by omega)) fun x j W p v u=>by obtain⟨k,y,o,rfl,s⟩:=u;exact exs1_any x k y o W (g.ext p) s (List.all_eq_true.1 b x j) (Nat.le_trans (gf j) hs))
 unfold exsT
 generalize cma (l.map fun e=>e.tx 1)=T at*
 clear g i h b hs t
 go_enter func128,ntmps128
 go_wp2_with (go_at_call 204;refine m.mono ?_;rintro _ z ⟨rfl,f⟩)
 go_ret
 exact⟨rfl,f⟩
theorem rowt_any (l:List Ex) (A:OA) (n c:Nat) (w:World) (e:Gd w) (g:l.length=n) (f:KidsAt w A l) (a:l.all Ex.formed=true) (hs:sizeL l≤1000):
  Cl 127 #[.slice A n c] w (Rt (.string (dV l)) w):=by
 have h:=hid (rq l A n c w e g f a hs)
 have i:(exsT l).size≤100000:=Nat.le_trans (aW _) (Nat.le_trans (gL a) (by omega))
 unfold dV
 generalize exsT l=T at*
 clear e g f a hs
 go_enter func127,ntmps127
 go_wp2_with (go_at_call 128;refine h.mono ?_;rintro _ j ⟨rfl,b⟩)
 go_ret
 exact⟨rfl,b⟩
theorem ent_rowt:Ent 127:=fun _ _=>by kernel_rfl
theorem asgt_any (x:Asg) (A:OA) (n c:Nat) (w:World) (i:Gd w) (s:x.cl.size≤1000) (j:ExV w x.ex A n c) (b:x.ex.formed=true) (hs:x.ex.size≤1000):
  Cl 130 #[.agg #[.string x.cl,i4 x.ix,i4 x.ex.d.op,.string x.ex.d.tb,.string x.ex.d.nm,i4 x.ex.d.ix,i4 x.ex.d.vk,i4 x.ex.d.vi,.string x.ex.d.vt,.slice A n c]] w (Rt (.string x.tx) w):=by
 have m:=hid (fun W (h:Ext w W)=>jO x.ex 1 A n c W (j.ext h) b hs (i.ext h))
 have o:(x.ex.tx 1).size≤100000:=by have:=cK x.ex 1 b;omega
 unfold Asg.tx
 clear i j b hs
 unfold Nd.val at*
 generalize x.ex.tx 1=T at*
 generalize x.ex.d=d at*
 obtain⟨op,tb,nm,ix,vk,vi,vt⟩:=d
 simp only at*
 have l:=hid (Blk.of_new w 82 [.string x.cl,i4 x.ix,i4 op,.string tb,.string nm,i4 ix,i4 vk,i4 vi,.string vt,.slice A n c])
 have f:=hid (x10 w (.cells #[.string x.cl,i4 x.ix,i4 op,.string tb,.string nm,i4 ix,i4 vk,i4 vi,.string vt,.slice A n c] 82))
 go_enter func130,ntmps130
 go_wp2_with fail
 generalize w.alloc (.cells _ 82)=p at*
 generalize w.heap.size=g at*
 have k:Hid (∀z:ai p,Cl 131 _ z.now _):=fun z=>m z.now (f.trans z.ext)
 obtain⟨t,-,u,y,B,C,D,E,F,G,-⟩:=lks l
 refine af (by kernel_rfl) (by kernel_rfl) ?_
 repeat (go_big_quiet_step ((go_at_call 131;with_reducible exact aq (k.out _))))
 refine wpQuiet_nil ?_
 intro H a
 have e:=am a
 clear a
 go_wp2_with fail
 go_ret
 exact⟨rfl,f.trans e⟩
theorem ent_asgt:Ent 130:=fun _ _=>by kernel_rfl
theorem words_any (n:Int) (w:World) (h:2≤n∧n≤5):Cl 210 #[i4 n] w (Rt (.string (agW n)) w):=by
 have b:n=2∨n=3∨n=4∨n=5:=by omega
 clear h
 rcases b with rfl|rfl|rfl|rfl
 ·have a:∀w:World,(Instr.index 214 (.agg #[.string ⟨#[]⟩,.string ⟨#[]⟩,.string ⟨#[67,79,85,78,84]⟩,.string ⟨#[83,85,77]⟩,.string ⟨#[77,73,78]⟩,.string ⟨#[77,65,88]⟩]) (i4 2)).run prog w= .ok (.string ⟨#[67,79,85,78,84]⟩) w:=fun _=>by kernel_rfl
  go_enter func210,ntmps210
  go_wp2_with fail
  go_ret
  exact⟨rfl,Ext.refl w⟩
 ·have a:∀w:World,(Instr.index 214 (.agg #[.string ⟨#[]⟩,.string ⟨#[]⟩,.string ⟨#[67,79,85,78,84]⟩,.string ⟨#[83,85,77]⟩,.string ⟨#[77,73,78]⟩,.string ⟨#[77,65,88]⟩]) (i4 3)).run prog w= .ok (.string ⟨#[83,85,77]⟩) w:=fun _=>by kernel_rfl
  go_enter func210,ntmps210
  go_wp2_with fail
  go_ret
  exact⟨rfl,Ext.refl w⟩
 ·have a:∀w:World,(Instr.index 214 (.agg #[.string ⟨#[]⟩,.string ⟨#[]⟩,.string ⟨#[67,79,85,78,84]⟩,.string ⟨#[83,85,77]⟩,.string ⟨#[77,73,78]⟩,.string ⟨#[77,65,88]⟩]) (i4 4)).run prog w= .ok (.string ⟨#[77,73,78]⟩) w:=fun _=>by kernel_rfl
  go_enter func210,ntmps210
  go_wp2_with fail
  go_ret
  exact⟨rfl,Ext.refl w⟩
 ·have a:∀w:World,(Instr.index 214 (.agg #[.string ⟨#[]⟩,.string ⟨#[]⟩,.string ⟨#[67,79,85,78,84]⟩,.string ⟨#[83,85,77]⟩,.string ⟨#[77,73,78]⟩,.string ⟨#[77,65,88]⟩]) (i4 5)).run prog w= .ok (.string ⟨#[77,65,88]⟩) w:=fun _=>by kernel_rfl
  go_enter func210,ntmps210
  go_wp2_with fail
  go_ret
  exact⟨rfl,Ext.refl w⟩
theorem itmt_any (x:Itm) (A:OA) (n c:Nat) (w:World) (y:Gd w) (h:ExV w x.ex A n c) (a:x.ok=true) (hs:x.ex.size≤1000):
  Cl 209 #[.agg #[i4 x.ag,i4 x.ex.d.op,.string x.ex.d.tb,.string x.ex.d.nm,i4 x.ex.d.ix,i4 x.ex.d.vk,i4 x.ex.d.vi,.string x.ex.d.vt,.slice A n c]] w (Rt (.string x.tx) w):=by
 obtain⟨ag,ex⟩:=x
 unfold Itm.ok at a
 unfold Itm.tx
 simp only at*
 by_cases b:ag=1
 ·subst b
  clear a hs h
  generalize ex.d=d at*
  obtain⟨op,tb,nm,ix,vk,vi,vt⟩:=d
  simp only at*
  go_enter func209,ntmps209
  go_wp2_with fail
  go_ret
  exact⟨rfl,x10 w _⟩
 ·rw[if_neg (by simpa using b)]at a
  rw[if_neg b]
  simp only[Bool.and_eq_true,decide_eq_true_eq]at a
  have k:=hid (fun W (m:Ext w W)=>jO ex 1 A n c W (h.ext m) a.2 hs (y.ext m))
  have B:(ex.tx 1).size≤100000:=by have:=cK ex 1 a.2;omega
  by_cases f:ag=0
  ·subst f
   clear a hs h b
   unfold Nd.val at*
   generalize ex.tx 1=T at*
   generalize ex.d=d at*
   obtain⟨op,tb,nm,ix,vk,vi,vt⟩:=d
   simp only at*
   go_enter func209,ntmps209
   go_wp2_with (go_at_call 131;refine(k _ (x10 w _)).mono ?_;rintro _ Q ⟨rfl,i⟩)
   go_ret
   exact⟨rfl,(x10 w _).trans i⟩
  ·rw[if_neg f]
   have u:=hid (fun W=>words_any ag W ⟨by omega,a.1.2⟩)
   have C:=Nat.le_trans (uJ ag) (show 5≤1000 by omega)
   have E:(ag==1)=false:=by simpa using b
   have D:(ag==0)=false:=by simpa using f
   clear a hs h b f
   unfold Nd.val at*
   generalize agW ag=V at*
   generalize ex.tx 1=T at*
   generalize ex.d=d at*
   obtain⟨op,tb,nm,ix,vk,vi,vt⟩:=d
   simp only at*
   have t:=hid (Blk.of_new w 84 [i4 ag,i4 op,.string tb,.string nm,i4 ix,i4 vk,i4 vi,.string vt,.slice A n c])
   have l:=hid (x10 w (.cells #[i4 ag,i4 op,.string tb,.string nm,i4 ix,i4 vk,i4 vi,.string vt,.slice A n c] 84))
   go_enter func209,ntmps209
   go_wp2_with fail
   generalize w.alloc (.cells _ 84)=o at*
   generalize w.heap.size=g at*
   have p:Hid (∀z:ai o,Cl 131 _ z.now _):=fun z=>k z.now (l.trans z.ext)
   have s:Hid (∀z:ai o,Cl 210 _ z.now _):=fun z=>u z.now
   obtain⟨F,G,H,I,J,K,L,O,P,-⟩:=lks t
   refine af (by kernel_rfl) (by kernel_rfl) ?_
   repeat (go_big_quiet_step (first|(go_at_call 131;with_reducible exact aq (p.out _))|(go_at_call 210;with_reducible exact aq (s.out _))))
   refine wpQuiet_nil ?_
   intro R e
   have j:=am e
   clear e
   go_wp2_with fail
   go_ret
   exact⟨rfl,l.trans j⟩
theorem ent_itmt:Ent 209:=fun _ _=>by kernel_rfl
theorem srct_any (x:Src) (w:World) (b:x.tb.size≤1000∧x.al.size≤1000):
  Cl 212 #[.agg #[.string x.tb,.string x.al]] w (Rt (.string x.tx) w):=by
 obtain⟨tb,al⟩:=x
 unfold Src.tx
 simp only at*
 obtain⟨e,f⟩:=b
 by_cases a:al.size=0
 ·rw[if_pos a]
  obtain rfl:=bF a
  go_enter func212,ntmps212
  go_wp2_with fail
  go_ret
  exact⟨rfl,x10 w _⟩
 ·rw[if_neg a]
  have g:=bV a
  have h:=bH a
  clear a
  go_enter func212,ntmps212
  go_wp2_with fail
  go_ret
  exact⟨rfl,x10 w _⟩
theorem ent_srct:Ent 212:=fun _ _=>by kernel_rfl
theorem ordt_any (x:Ord') (w:World) (e:Gd w) (a:x.ok=true):
  Cl 214 #[.agg #[i4 x.it,.bool x.ds]] w (Rt (.string x.tx) w):=by
 obtain⟨it,ds⟩:=x
 unfold Ord'.tx
 unfold Ord'.ok at a
 rw[dC]at a
 simp only at*
 have f:=hid (fun W (g:Ext w W)=>number_any it W ((e.ext g).can ⟨by omega,by omega⟩))
 have h:=Nat.le_trans (bE it (by omega) (by omega)) (show 21≤1000 by omega)
 generalize itoB it=T at*
 clear e a
 cases ds
 all_goals
  go_enter func214,ntmps214
  go_wp2_with (go_at_call 202;refine(f _ (x10 w _)).mono ?_;rintro _ i ⟨rfl,b⟩)
  go_ret
  exact⟨rfl,(x10 w _).trans b⟩
theorem ent_ordt:Ent 214:=fun _ _=>by kernel_rfl
theorem rs (s:St) (a:SA) (w:World) (l:Gd w) (j:ExV w s.whr a.whr.A a.whr.n a.whr.c) (k:s.whr.absent=true∨s.whr.formed=true) (hs:s.whr.size≤1000):
  Cl 132 #[s.val a] w (Rt (.string s.whT) w):=by
 have g:=hid (fun W (i:Ext w W)=>lA s.whr a.whr.A a.whr.n a.whr.c W (j.ext i))
 unfold St.whT
 have p:=hid (Blk.of_new w 40 (s.cells a))
 have h:=hid (x10 w (.cells (s.cells a).toArray 40))
 unfold St.val at*
 unfold St.cells Sl.v at*
 unfold Nd.val at g
 cases b:s.whr.absent
 ·have f:=k.resolve_left (by rw[b];simp)
  have o:=hid (fun W (i:Ext w W)=>jO s.whr 1 a.whr.A a.whr.n a.whr.c W (j.ext i) f hs (l.ext i))
  have E:(s.whr.tx 1).size≤100000:=by have:=cK s.whr 1 f;omega
  unfold Nd.val at o
  rw[b]at g
  clear l j k hs b f
  unfold nI
  simp only[Bool.false_eq_true,if_false]
  generalize s.whr.tx 1=T at*
  go_enter func132,ntmps132
  go_wp2_with (first|(go_at_call 116;refine(g _ h).mono ?_;rintro _ F ⟨rfl,e⟩;obtain⟨-,-,-,-,-,-,-,-,-,-,t,u,x,y,z,B,C,D,-⟩:=cls (p.ext e))|(go_at_call 131;refine(o _ (h.trans e)).mono ?_;rintro _ G ⟨rfl,m⟩))
  go_ret
  exact⟨rfl,(h.trans e).trans m⟩
 ·rw[b]at g
  clear l j k hs b
  simp only[if_true]
  go_enter func132,ntmps132
  go_wp2_with (go_at_call 116;refine(g _ h).mono ?_;rintro _ F ⟨rfl,e⟩)
  go_ret
  exact⟨rfl,h.trans e⟩
theorem bh (l:List BA) (x:BA):fH (l++ [x])=fH l++ [.string x]:=by unfold fH;rw[map_append];rfl
theorem iN (l:List BA):bX l≤(cma l).size+2:=by
 cases l with
 |nil=>exact Nat.zero_le _
 |cons x l=>show bX (x::l)≤(l.foldl _ x).size+2;rw[lB,bX];omega
theorem own_ne {w:World} {B e sz n:Nat} {v:Value} {b:LV} (h:w.ownsRow B e sz v n b):some w.heap.size≠v.ownBlock:=fun a=>by have:=(h.lt _ a.symm).2;omega
theorem blk3 {w:World} {g t:Nat} {x y z:Value} (h:Blk w g t [x,y,z]):w.cell? ⟨g,0,none⟩=some x∧w.cell? ⟨g,1,none⟩=some y∧w.cell? ⟨g,2,none⟩=some z:=
 ⟨h.cell_some (i:=0) rfl,h.cell_some (i:=1) rfl,h.cell_some (i:=2) rfl⟩
set_option maxHeartbeats 8000000 in
theorem sX (s:St) (a:SA) (w:World) (hg:Gd w) (Y:StV w s a) (hk:nG w a.keys.A a.keys.n) (hr:nH w a.frs.A a.frs.n) (C:s.defOk=true) (hb:s.cols.length+s.keys.length+s.frs.length+s.chk.length≤1048576) (hz:bX s.elts≤400000000) (hs:sizeL s.chk≤1000):
  Cl 125 #[.agg #[a.cols.v,a.keys.v,a.frs.v,a.chk.v]] w (Rt (.string (cma s.elts)) w):=by
 obtain⟨i0,hi,R,U,V⟩:=info_parts gN
 have HX:=hid (x10 w (.cells #[.slice a.cols.A a.cols.n a.cols.c,.slice a.keys.A a.keys.n a.keys.c,.slice a.frs.A a.frs.n a.frs.c,.slice a.chk.A a.chk.n a.chk.c] 29))
 have a6:=hid Y.cols.1
 have a7:=hid Y.keys.1
 have a8:=hid Y.frs.1
 have a9:=hid Y.chk.1
 have b0:=hid (Y.cols.2.2.ext HX)
 have b1:=hid (Y.keys.2.2.ext HX)
 have b2:=hid (Y.frs.2.2.ext HX)
 have b3:=hid (Y.chk.2.2.ext HX)
 have bw:=hid (hk.ext HX)
 have bx:=hid (hr.ext HX)
 have an:=hid (hg.ext HX)
 have bo:=hid hs
 have HZ:=hid hz
 rw[Y.cols.1,Y.keys.1,Y.frs.1,Y.chk.1]at hb
 unfold St.defOk at C
 simp only[Bool.and_eq_true]at C
 have bf:=hid C.1.1.1.2
 have bm:=hid C.1.2
 have bn:=hid C.2
 have b4:Hid (∀x∈s.keys,keyT x∈s.elts):=fun x D=>by unfold St.elts;simp only[mem_append];exact .inl (.inl (.inr (mem_map_of_mem D)))
 have b5:Hid (∀x∈s.frs,Rf.tx x∈s.elts):=fun x D=>by unfold St.elts;simp only[mem_append];exact .inl (.inr (mem_map_of_mem D))
 have HB:=hid (Blk.of_new w 29 [.slice a.cols.A a.cols.n a.cols.c,.slice a.keys.A a.keys.n a.keys.c,.slice a.frs.A a.frs.n a.frs.c,.slice a.chk.A a.chk.n a.chk.c])
 clear hg Y hk hr C hz hs
 unfold Sl.v
 generalize a.cols.A=cA at*
 generalize a.keys.A=kA at*
 generalize a.frs.A=fA at*
 generalize a.chk.A=xA at*
 go_enter func125,ntmps125
 go_wp2_with fail
 generalize w.alloc (.cells _ 29)=J at*
 go_loopw [3,16] (fun nv iv wr=> ∃(k:Nat),k≤a.cols.n∧iv= i4 k∧wr.ownsRow J.heap.size 9 1 nv (k) (fH ((s.cols.take k).map Cd.tx))∧Ext J wr) (fun _ i _=>a.cols.n- (intOf i).toNat)
 case atStart=>exact⟨0,Nat.zero_le _,rfl,World.ownsRow_nil _ _ _ _,Ext.refl J⟩
 case round=>
  obtain⟨k,a1,rfl,p,l⟩:=hrel
  have t:=hid p
  have h:=hid l
  clear p
  by_cases I:k<a.cols.n
  ·obtain⟨x,D⟩:=aC a6 I
   obtain⟨⟨cc,cd,ax,aS,a0⟩,b,a5,rfl,q0,q1,q2,q3,q4,q5⟩:=(b0.ext l) k x D
   have K:Hid ((s.cols.take (k+1)).map Cd.tx=((s.cols.take k).map Cd.tx)++ [Cd.tx x]):=by unfold Hid;rw[ez D,map_append];rfl
   have C:=List.all_eq_true.1 bf x (mem_of_getElem? D)
   have c0:x.nm.size≤1000:=Nat.le_trans (cd_nm C) (by omega)
   have cl:=cd_ty C
   have cz:=Nat.le_trans (bE x.lo ax.1 ax.2) (show 21≤1000 by omega)
   have cx:=Nat.le_trans (bE x.hi aS.1 aS.2) (show 21≤1000 by omega)
   have cH:=Nat.le_trans (bE x.mx a0.1 a0.2) (show 21≤1000 by omega)
   have ba:=hid (fun W (hW:Ext J W)=>number_any x.lo W ((an.ext hW).can ax))
   have bd:=hid (fun W (hW:Ext J W)=>number_any x.hi W ((an.ext hW).can aS))
   have be:=hid (fun W (hW:Ext J W)=>number_any x.mx W ((an.ext hW).can a0))
   have o:Hid (Cd.tx x=if x.nn=true then (if x.ty=1 then x.nm++⟨#[32,73,78,84,69,71,69,82,40]⟩++itoB x.lo++⟨#[44,32]⟩++itoB x.hi++⟨#[41]⟩else x.nm++⟨#[32,84,69,88,84,40]⟩++itoB x.mx++⟨#[41]⟩)++⟨#[32,78,79,84,32,78,85,76,76]⟩else (if x.ty=1 then x.nm++⟨#[32,73,78,84,69,71,69,82,40]⟩++itoB x.lo++⟨#[44,32]⟩++itoB x.hi++⟨#[41]⟩else x.nm++⟨#[32,84,69,88,84,40]⟩++itoB x.mx++⟨#[41]⟩)):=rfl
   clear D l cc cd ax aS a0 C
   generalize Cd.tx x=TX at*
   generalize itoB x.lo=T1 at*
   generalize itoB x.hi=T2 at*
   generalize itoB x.mx=T3 at*
   obtain⟨nm,ty,lo,bv,mx,nn⟩:=x
   simp only at*
   have m:=hid (Blk.of_new wr 99 [.string nm,i4 ty,i4 lo,i4 bv,i4 mx,.bool nn])
   have f:=hid (x10 wr (.cells #[.string nm,i4 ty,i4 lo,i4 bv,i4 mx,.bool nn] 99))
   go_wp2_with fail
   generalize wr.alloc (.cells _ 99)=w2 at*
   generalize wr.heap.size=g2 at*
   have H1:Hid (∀z:ai w2,Cl 202 _ z.now _):=fun z=>ba z.now (h.trans (f.trans z.ext))
   have H2:Hid (∀z:ai w2,Cl 202 _ z.now _):=fun z=>bd z.now (h.trans (f.trans z.ext))
   obtain⟨l0,l1,l2,l3,l4,l5,-⟩:=lks m
   refine af (by kernel_rfl) (by kernel_rfl) ?_
   repeat (go_big_quiet_step (first|(go_at_call 202;with_reducible exact aq (H1.out _))|(go_at_call 202;with_reducible exact aq (H2.out _))))
   refine wpQuiet_nil ?_
   intro w3 L
   have F:=am L
   clear L
   clear l0 l1 l2 l3 l4 l5 H1 H2 ba bd q0 q1 q2 q3 q4 q5
   replace m:=hid (m.ext F)
   replace f:=hid (f.trans F)
   clear F
   have cw:(nm++⟨#[32,73,78,84,69,71,69,82,40]⟩++T1++⟨#[44,32]⟩++T2++⟨#[41]⟩).size≤10000:=by simp only[ByteArray.size_append];show nm.size+9+T1.size+2+T2.size+1≤_;omega
   generalize nm++⟨#[32,73,78,84,69,71,69,82,40]⟩++T1++⟨#[44,32]⟩++T2++⟨#[41]⟩=TB at*
   rcases cl with rfl|rfl
   ·cases nn
    ·have E:=o.out
     clear o
     simp only[if_true,Bool.false_eq_true,if_false,(by decide:¬(2:Int)=1)]at E
     rw[E]at K
     clear E
     obtain⟨e0,e1,e2,e3,e4,e5,-⟩:=cls (m)
     have O:=hid ((ownN_ext t f).alloc (.cells #[.string TB] 9))
     have P:=hid (reads_new1 w3 (.string TB) 9)
     go_wp2_with (at_builtin;refine wpList_append_any _ rfl (.tmp 48) (.tmp 50) 101 rfl J.heap.size 9 i0 _ 1 16 underlying101 hi R U V rfl (by decide) _ (k) _ rfl O.out _ _ 1 1 [.string TB] rfl P.out (by simp[Value.oneCell']) (by unfold maxLen;omega) (by omega) (Nat.le_trans (h.out.trans f.out).size (by simp)) ?_;intro v1 w5 e g j;have y:=hid e;have u:=hid g;clear e g j)
     go_roundw
     case rel=>
      have B:=bg t
      refine⟨k+1,by omega,by go_num,?_,((h.trans f).alloc _).grown u fun q X=>B q X⟩
      rw[K.out,bh]
      exact y
     case measure=>simp[intOf];omega
    ·have E:=o.out
     clear o
     simp only[if_true,Bool.false_eq_true,if_false,(by decide:¬(2:Int)=1)]at E
     rw[E]at K
     clear E
     obtain⟨e0,e1,e2,e3,e4,e5,-⟩:=cls (m)
     have O:=hid ((ownN_ext t f).alloc (.cells #[.string (TB++⟨#[32,78,79,84,32,78,85,76,76]⟩)] 9))
     have P:=hid (reads_new1 w3 (.string (TB++⟨#[32,78,79,84,32,78,85,76,76]⟩)) 9)
     go_wp2_with (at_builtin;refine wpList_append_any _ rfl (.tmp 48) (.tmp 50) 101 rfl J.heap.size 9 i0 _ 1 16 underlying101 hi R U V rfl (by decide) _ (k) _ rfl O.out _ _ 1 1 [.string (TB++⟨#[32,78,79,84,32,78,85,76,76]⟩)] rfl P.out (by simp[Value.oneCell']) (by unfold maxLen;omega) (by omega) (Nat.le_trans (h.out.trans f.out).size (by simp)) ?_;intro v1 w5 e g j;have y:=hid e;have u:=hid g;clear e g j)
     go_roundw
     case rel=>
      have B:=bg t
      refine⟨k+1,by omega,by go_num,?_,((h.trans f).alloc _).grown u fun q X=>B q X⟩
      rw[K.out,bh]
      exact y
     case measure=>simp[intOf];omega
   ·cases nn
    ·have E:=o.out
     clear o
     simp only[if_true,Bool.false_eq_true,if_false,(by decide:¬(2:Int)=1)]at E
     rw[E]at K
     clear E
     obtain⟨e0,e1,e2,e3,e4,e5,-⟩:=cls (m)
     go_wp2_with fail
     clear e0 e1 e2 e3 e4 e5
     have H3:Hid (∀z:ai w3,Cl 202 _ z.now _):=fun z=>be z.now (h.trans (f.trans z.ext))
     obtain⟨l0,l1,l2,l3,l4,l5,-⟩:=lks m
     refine af (by kernel_rfl) (by kernel_rfl) ?_
     repeat (go_big_quiet_step ((go_at_call 202;with_reducible exact aq (H3.out _))))
     refine wpQuiet_nil ?_
     intro w4 L
     have F:=am L
     clear L
     have cj:(nm++⟨#[32,84,69,88,84,40]⟩++T3++⟨#[41]⟩).size≤10000:=by simp only[ByteArray.size_append];show nm.size+6+T3.size+1≤_;omega
     generalize nm++⟨#[32,84,69,88,84,40]⟩++T3++⟨#[41]⟩=TC at*
     clear l0 l1 l2 l3 l4 l5 H3
     replace m:=hid (m.ext F)
     replace f:=hid (f.trans F)
     clear F
     obtain⟨e0,e1,e2,e3,e4,e5,-⟩:=cls (m)
     have O:=hid ((ownN_ext t f).alloc (.cells #[.string TC] 9))
     have P:=hid (reads_new1 w4 (.string TC) 9)
     go_wp2_with (at_builtin;refine wpList_append_any _ rfl (.tmp 48) (.tmp 50) 101 rfl J.heap.size 9 i0 _ 1 16 underlying101 hi R U V rfl (by decide) _ (k) _ rfl O.out _ _ 1 1 [.string TC] rfl P.out (by simp[Value.oneCell']) (by unfold maxLen;omega) (by omega) (Nat.le_trans (h.out.trans f.out).size (by simp)) ?_;intro v1 w5 e g j;have y:=hid e;have u:=hid g;clear e g j)
     go_roundw
     case rel=>
      have B:=bg t
      refine⟨k+1,by omega,by go_num,?_,((h.trans f).alloc _).grown u fun q X=>B q X⟩
      rw[K.out,bh]
      exact y
     case measure=>simp[intOf];omega
    ·have E:=o.out
     clear o
     simp only[if_true,Bool.false_eq_true,if_false,(by decide:¬(2:Int)=1)]at E
     rw[E]at K
     clear E
     obtain⟨e0,e1,e2,e3,e4,e5,-⟩:=cls (m)
     go_wp2_with fail
     clear e0 e1 e2 e3 e4 e5
     have H3:Hid (∀z:ai w3,Cl 202 _ z.now _):=fun z=>be z.now (h.trans (f.trans z.ext))
     obtain⟨l0,l1,l2,l3,l4,l5,-⟩:=lks m
     refine af (by kernel_rfl) (by kernel_rfl) ?_
     repeat (go_big_quiet_step ((go_at_call 202;with_reducible exact aq (H3.out _))))
     refine wpQuiet_nil ?_
     intro w4 L
     have F:=am L
     clear L
     have cj:(nm++⟨#[32,84,69,88,84,40]⟩++T3++⟨#[41]⟩).size≤10000:=by simp only[ByteArray.size_append];show nm.size+6+T3.size+1≤_;omega
     generalize nm++⟨#[32,84,69,88,84,40]⟩++T3++⟨#[41]⟩=TC at*
     clear l0 l1 l2 l3 l4 l5 H3
     replace m:=hid (m.ext F)
     replace f:=hid (f.trans F)
     clear F
     obtain⟨e0,e1,e2,e3,e4,e5,-⟩:=cls (m)
     have O:=hid ((ownN_ext t f).alloc (.cells #[.string (TC++⟨#[32,78,79,84,32,78,85,76,76]⟩)] 9))
     have P:=hid (reads_new1 w4 (.string (TC++⟨#[32,78,79,84,32,78,85,76,76]⟩)) 9)
     go_wp2_with (at_builtin;refine wpList_append_any _ rfl (.tmp 48) (.tmp 50) 101 rfl J.heap.size 9 i0 _ 1 16 underlying101 hi R U V rfl (by decide) _ (k) _ rfl O.out _ _ 1 1 [.string (TC++⟨#[32,78,79,84,32,78,85,76,76]⟩)] rfl P.out (by simp[Value.oneCell']) (by unfold maxLen;omega) (by omega) (Nat.le_trans (h.out.trans f.out).size (by simp)) ?_;intro v1 w5 e g j;have y:=hid e;have u:=hid g;clear e g j)
     go_roundw
     case rel=>
      have B:=bg t
      refine⟨k+1,by omega,by go_num,?_,((h.trans f).alloc _).grown u fun q X=>B q X⟩
      rw[K.out,bh]
      exact y
     case measure=>simp[intOf];omega
  ·obtain rfl:k=a.cols.n:=by omega
   rw[take_of_length_le (Nat.le_of_eq a6)]at t
   have cb:=(HB.ext l).cell 1
   simp only[g10,g11]at cb
   go_wp2_with fail
   clear cb l
   have ac:=t
   have ad:=h
   clear t h
   go_loopw [3,56] (fun nv iv wr=> ∃(k:Nat),k≤a.keys.n∧iv= i4 k∧wr.ownsRow J.heap.size 9 1 nv (a.cols.n+k) (fH (s.cols.map Cd.tx++(s.keys.take k).map keyT))∧Ext J wr) (fun _ i _=>a.keys.n- (intOf i).toNat)
   case atStart=>exact⟨0,Nat.zero_le _,rfl,by simpa using ac.out,ad⟩
   case round=>
    obtain⟨k,a1,rfl,p,l⟩:=hrel
    have t:=hid p
    have h:=hid l
    clear p
    by_cases I:k<a.keys.n
    ·obtain⟨x,D⟩:=aC a7 I
     obtain⟨b,a5,Ai,ni,ci,hA,q0,h1,h2,h3⟩:=(b1.ext l) k x D
     have Q:=bw.ext l
     rw[hA]at Q
     have H:=Q.at I q0
     have K:Hid (s.cols.map Cd.tx++(s.keys.take (k+1)).map keyT=(s.cols.map Cd.tx++(s.keys.take k).map keyT)++ [keyT x]):=by unfold Hid;rw[ez D,map_append];exact(append_assoc _ _ _).symm
     have a4:=fG (b4 x (mem_of_getElem? D))
     have a3:bX x≤(cma x).size+2:=iN x
     have a2:(keyT x).size=8+(cma x).size+1:=by unfold keyT;rw[ByteArray.size_append,ByteArray.size_append];rfl
     have b9:(cma x).size≤1000000000:=by have:=HZ.out;omega
     have HJ:=hid (oV x Ai ni ci wr h1 H h3 (by have:=HZ.out;omega))
     have o:Hid (keyT x=⟨#[85,78,73,81,85,69,32,40]⟩++cma x++⟨#[41]⟩):=rfl
     clear D l h1 h2 h3 Q H a4 a3 a2
     generalize cma x=T1 at*
     subst hA
     have E:=o.out
     clear o
     rw[E]at K
     clear E
     have f:Hid (Ext wr wr):=Ext.refl wr
     go_wp2_with (first|(go_at_call 203;refine HJ.out.mono ?_;rintro _ w2 ⟨rfl,ag⟩;replace f:Hid (Ext wr w2):=ag)|(at_builtin;generalize ⟨#[85,78,73,81,85,69,32,40]⟩++T1++⟨#[41]⟩=TB at*;refine wpList_append_any _ rfl (.tmp 60) (.tmp 65) 101 rfl J.heap.size 9 i0 _ 1 16 underlying101 hi R U V rfl (by decide) _ (a.cols.n+k) _ rfl ((ownN_ext t.out f.out).alloc _) _ _ 1 1 [.string TB] rfl (reads_new1 w2 _ _) (by simp[Value.oneCell']) (by unfold maxLen;omega) (by omega) (Nat.le_trans (h.out.trans f.out).size (by simp)) ?_;intro v1 w5 e g j;have y:=hid e;have u:=hid g;clear e g j))
     go_roundw
     case rel=>
      have B:=bg t
      refine⟨k+1,by omega,by go_num,?_,((h.trans f).alloc _).grown u fun q X=>B q X⟩
      rw[K.out,bh]
      exact y
     case measure=>simp[intOf];omega
    ·obtain rfl:k=a.keys.n:=by omega
     rw[take_of_length_le (Nat.le_of_eq a7)]at t
     have cb:=(HB.ext l).cell 2
     simp only[g10,g11]at cb
     go_wp2_with fail
     clear cb l
     have ac:=t
     have ad:=h
     clear t h
     go_loopw [3,71] (fun nv iv wr=> ∃(k:Nat),k≤a.frs.n∧iv= i4 k∧wr.ownsRow J.heap.size 9 1 nv (a.cols.n+a.keys.n+k) (fH (s.cols.map Cd.tx++s.keys.map keyT++(s.frs.take k).map Rf.tx))∧Ext J wr) (fun _ i _=>a.frs.n- (intOf i).toNat)
     case atStart=>exact⟨0,Nat.zero_le _,rfl,by simpa using ac.out,ad⟩
     case round=>
      obtain⟨k,a1,rfl,p,l⟩:=hrel
      have t:=hid p
      have h:=hid l
      clear p
      by_cases I:k<a.frs.n
      ·obtain⟨x,D⟩:=aC a8 I
       obtain⟨h0,b,a5,A1,n1,c1,A2,n2,c2,hA,q0,q1,q2,h1,h2,h3,h4,h5,h6⟩:=(b2.ext l) k x D
       have Q:=bx.ext l
       rw[hA]at Q
       have H:=Q.at I q0 q2
       have K:Hid (s.cols.map Cd.tx++s.keys.map keyT++(s.frs.take (k+1)).map Rf.tx=(s.cols.map Cd.tx++s.keys.map keyT++(s.frs.take k).map Rf.tx)++ [Rf.tx x]):=by unfold Hid;rw[ez D,map_append];exact(append_assoc _ _ _).symm
       have a4:=fG (b5 x (mem_of_getElem? D))
       have C:=List.all_eq_true.1 bm x (mem_of_getElem? D)
       have ck:bX x.cs≤(cma x.cs).size+2:=iN x.cs
       have a3:bX x.tg≤(cma x.tg).size+2:=iN x.tg
       have c3:x.tb.size≤1000:=Nat.le_trans (rf_nm C) (by omega)
       have a2:x.tx.size=13+(cma x.cs).size+13+x.tb.size+2+(cma x.tg).size+1:=by unfold Rf.tx;simp only[ByteArray.size_append];rfl
       have ct:(cma x.cs).size≤500000000:=by have:=HZ.out;omega
       have cv:(cma x.tg).size≤500000000:=by have:=HZ.out;omega
       have bN:=hid (fun W (hW:Ext wr W)=>oV x.cs A1 n1 c1 W h1 H.1 (h3.ext hW) (by omega))
       have bY:=hid (fun W (hW:Ext wr W)=>oV x.tg A2 n2 c2 W h4 H.2 (h6.ext hW) (by omega))
       have o:Hid (Rf.tx x=⟨#[70,79,82,69,73,71,78,32,75,69,89,32,40]⟩++cma x.cs++⟨#[41,32,82,69,70,69,82,69,78,67,69,83,32]⟩++x.tb++⟨#[32,40]⟩++cma x.tg++⟨#[41]⟩):=rfl
       clear D l h0 h1 h2 h3 h4 h5 h6 Q H a4 ck a3 a2 C
       generalize cma x.cs=T1 at*
       generalize cma x.tg=T2 at*
       generalize x.tb=tb at*
       subst hA
       have E:=o.out
       clear o
       rw[E]at K
       clear E
       have m:=hid (Blk.of_new wr 103 [.slice A1 n1 c1,.string tb,.slice A2 n2 c2])
       have f:=hid (x10 wr (.cells #[.slice A1 n1 c1,.string tb,.slice A2 n2 c2] 103))
       have b7:=hid (ownN_ext t f)
       have b6:=hid (own_ne t)
       go_wp2_with fail
       generalize wr.alloc (.cells _ 103)=w2 at*
       generalize wr.heap.size=g2 at*
       obtain⟨e0,e1,e2,-⟩:=cls (m)
       go_region_held_law (fun w'=>w'.cell? ⟨g2,0,none⟩=some (.slice A1 n1 c1)∧w'.cell? ⟨g2,1,none⟩=some (.string tb)∧w'.cell? ⟨g2,2,none⟩=some (.slice A2 n2 c2))
        (first|go_keep|exact blk3 (m.ext G)|exact blk3 ((m.ext G).ext Z)|exact blk3 (((m.ext G).ext Z).ext (x10 _ _))|exact blk3 ((((m.ext G).ext Z).ext (x10 _ _)).grown g b6))
        (first
         |(go_at_call 203;(with_reducible refine(bY.out _ (f.out.trans G)).mono ?_);rintro _ w4 ⟨rfl,Z⟩)
         |(go_at_call 203;(with_reducible refine(bN.out _ f.out.drew).mono ?_);rintro _ w3 ⟨rfl,G⟩;replace G:Ext w2 w3:=(Ext.refl w2).drew.trans G)
         |(generalize ⟨#[70,79,82,69,73,71,78,32,75,69,89,32,40]⟩++T1++⟨#[41,32,82,69,70,69,82,69,78,67,69,83,32]⟩++tb++⟨#[32,40]⟩++T2++⟨#[41]⟩=TB at*;refine fJ _ rfl (.tmp 75) (.tmp 90) 101 rfl J.heap.size 9 i0 _ 1 16 underlying101 hi R U V rfl (by decide) _ (a.cols.n+a.keys.n+k) _ rfl ((ownN_ext b7 (G.trans Z)).alloc _) _ _ 1 1 [.string TB] rfl (reads_new1 w4 _ _) (by simp[Value.oneCell']) (by unfold maxLen;omega) (by omega) (Nat.le_trans (h.trans (f.trans (G.trans Z))).size (by simp)) ?_;intro v1 w5 e g j))
       all_goals
        have y:=hid e
        have u:=hid g
        replace f:=hid (f.trans (G.trans Z))
        rename_i hHeld
        clear hHeld e g j e0 e1 e2
        go_wp2_with fail
        go_roundw
        case rel=>
         have B:=bg t
         refine⟨k+1,by omega,by go_num,?_,((h.trans f).alloc _).grown u fun q X=>B q X⟩
         rw[K.out,bh]
         exact y
        case measure=>simp[intOf];omega
      ·obtain rfl:k=a.frs.n:=by omega
       rw[take_of_length_le (Nat.le_of_eq a8)]at t
       have cb:=(HB.ext l).cell 3
       simp only[g10,g11]at cb
       go_wp2_with fail
       clear cb l
       have ac:=t
       have ad:=h
       clear t h
       go_loopw [3,96] (fun nv iv wr=> ∃(k:Nat),k≤a.chk.n∧iv= i4 k∧wr.ownsRow J.heap.size 9 1 nv (a.cols.n+a.keys.n+a.frs.n+k) (fH (s.cols.map Cd.tx++s.keys.map keyT++s.frs.map Rf.tx++(s.chk.take k).map gK))∧Ext J wr) (fun _ i _=>a.chk.n- (intOf i).toNat)
       case atStart=>exact⟨0,Nat.zero_le _,rfl,by simpa using ac.out,ad⟩
       case round=>
        obtain⟨k,a1,rfl,p,l⟩:=hrel
        have t:=hid p
        have h:=hid l
        clear p
        by_cases I:k<a.chk.n
        ·obtain⟨x,D⟩:=aC a9 I
         obtain⟨b,a5,Ai,ni,ci,rfl,q0,q1,q2,q3,q4,q5,q6,q7,h1⟩:=(b3.ext l).get D
         have K:Hid (s.cols.map Cd.tx++s.keys.map keyT++s.frs.map Rf.tx++(s.chk.take (k+1)).map gK=(s.cols.map Cd.tx++s.keys.map keyT++s.frs.map Rf.tx++(s.chk.take k).map gK)++ [gK x]):=by unfold Hid;rw[ez D,map_append];exact(append_assoc _ _ _).symm
         have hf:=List.all_eq_true.1 bn x (mem_of_getElem? D)
         have cp:=gf (mem_of_getElem? D)
         have HE:=hid (fun W (hW:Ext wr W)=>jO x 1 Ai ni ci W (h1.ext hW) hf (by have:=bo.out;omega) (an.ext (h.trans hW)))
         have b9:(x.tx 1).size≤100000:=by have:=cK x 1 hf;have:=bo.out;omega
         have o:Hid (gK x=⟨#[67,72,69,67,75,32,40]⟩++x.tx 1++⟨#[41]⟩):=rfl
         clear D l h1 hf cp
         unfold Nd.val at HE
         generalize x.tx 1=T1 at*
         have E:=o.out
         clear o
         rw[E]at K
         clear E
         generalize x.d=d at*
         obtain⟨op,tb,nm,ix,vk,vi,vt⟩:=d
         simp only at*
         go_wp2_with (first|(go_at_call 131;(with_reducible refine(HE.out _ (x10 wr _)).mono ?_);rintro _ w2 ⟨rfl,ag⟩;have f:Hid (Ext wr w2):=(x10 wr _).trans ag)|(at_builtin;generalize ⟨#[67,72,69,67,75,32,40]⟩++T1++⟨#[41]⟩=TB at*;refine wpList_append_any _ rfl (.tmp 100) (.tmp 105) 101 rfl J.heap.size 9 i0 _ 1 16 underlying101 hi R U V rfl (by decide) _ (a.cols.n+a.keys.n+a.frs.n+k) _ rfl ((ownN_ext t.out f.out).alloc _) _ _ 1 1 [.string TB] rfl (reads_new1 w2 _ _) (by simp[Value.oneCell']) (by unfold maxLen;omega) (by omega) (Nat.le_trans (h.out.trans f.out).size (by simp)) ?_;intro v1 w5 e g j;have y:=hid e;have u:=hid g;clear e g j))
         go_roundw
         case rel=>
          have B:=bg t
          refine⟨k+1,by omega,by go_num,?_,((h.trans f).alloc _).grown u fun q X=>B q X⟩
          rw[K.out,bh]
          exact y
         case measure=>simp[intOf];omega
        ·obtain rfl:k=a.chk.n:=by omega
         rw[take_of_length_le (Nat.le_of_eq a9)]at t
         have HJ:=hid (uL s.elts _ _ _ wr t (by have:=HZ.out;exact Nat.le_trans this (by omega)))
         go_wp2_with (go_at_call 203;refine HJ.mono ?_;rintro _ w2 ⟨rfl,ag⟩)
         go_ret
         exact⟨rfl,HX.trans (h.trans ag)⟩
end Go.Proofs.YtjigcpfjhfoheaaGreatDoor
