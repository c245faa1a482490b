/- The parser in memory: its own block, its tokens; what else changes; What a call has built stays: facts that hold in every world that keeps some blocks; expressions built anew; Rows that are read element by element; Walks over the . -/
import Derived.Test.YtjigcpfjhfoheaaGreatDoorEaf
import Derived.Test.YtjigcpfjhfoheaaGreatDoorEaa
import Derived.Deep.Cut
import Derived.Deep.RegionLaw
import Derived.Deep.RegionWith
import Derived.Deep.LoopGhost
import Derived.Deep.DeepMust
import Derived.Deep.RegionHeld3
import Derived.Deep.RegionHeldLaw
import Derived.Lib.ParseIntBTie
import Derived.Test.YtjigcpfjhfoheaaGreatDoorEag
import Derived.Laws.Rows
import Derived.Great.BuildSlice
namespace Go.Proofs.YtjigcpfjhfoheaaGreatDoor
open Go.RowKit
set_option maxHeartbeats 1000000
set_option maxRecDepth 100000
set_option linter.unusedVariables false
set_option linter.unusedSimpArgs false
section
open Lx (Tk)
def Chg (P:Nat) (w w':World):Prop:=w.grownBy w' (some P)
theorem ext_grown {w w':World} (hx:Ext w w') (b:Option Nat):w.grownBy w' b:=⟨Below.os hx,Below.tape hx,Below.output hx,Below.size hx,fun i hi _=>Below.block hx i hi⟩
theorem Chg.refl (P:Nat) (w:World):Chg P w w:=ext_grown (Ext.refl w) _
theorem Chg.of {P:Nat} {w w':World} (hx:Ext w w'):Chg P w w':=ext_grown hx _
theorem Chg.trans {P:Nat} {a b c:World} (h:Chg P a b) (k:Chg P b c):Chg P a c:=World.grownBy.trans h k
theorem Chg.ext {P:Nat} {a b c:World} (h:Chg P a b) (k:Ext b c):Chg P a c:=h.trans (Chg.of k)
theorem Chg.alloc {P:Nat} {a b:World} (h:Chg P a b) (o:Obj):Chg P a (b.alloc o):=h.ext ((Ext.refl b).alloc o)
theorem Chg.set {P:Nat} {a b:World} (h:Chg P a b) (j:Nat) (u:Value):Chg P a (b.setCell ⟨P,j,none⟩ u):=
 h.trans ⟨rfl,rfl,rfl,by simp[World.setCell],fun i _ hi=>Below.heap_setCell b ⟨P,j,none⟩ u i (fun e=>hi (by rw[e]))⟩
theorem Chg.size {P:Nat} {a b:World} (h:Chg P a b):a.heap.size≤b.heap.size:=World.grownBy.size h
theorem Chg.keep {P:Nat} {a b:World} (h:Chg P a b) {p:Addr} {v:Value} (hp:a.cell? p=some v) (hne:p.block≠P):b.cell? p=some v:=
 World.grownBy.cell h hp fun e=>hne (Option.some.inj e)
theorem Chg.blk {P:Nat} {a b:World} (h:Chg P a b) {g t:Nat} {cs:List Value} (hb:Blk a g t cs) (hne:g≠P):Blk b g t cs:=hb.grown h fun e=>hne (Option.some.inj e)
structure TkL (L:List Tk):Prop where
 len:L.length≤20000
 last:∀(i:Nat) (a:Tk),L[i]? =some a→(a.kind=0↔i+1=L.length)
 kd:∀a∈L,a.kind≤5
 txt:∀a∈L,a.text.length≤20000
 pos:∀a∈L,a.pos≤20000
 num:∀a∈L,a.kind=3→a.text≠[]∧(∀c∈a.text,48≤c.toNat∧c.toNat≤57)∧digV (tkB a)≤2147483648∧(digV (tkB a)=0↔a.text= [48])
structure PsAt (T P:Nat) (A:Option Addr) (c:Nat) (L:List Tk) (w0 w:World) (s:Ps):Prop where
 base:Ext w0 w
 low:w0.heap.size≤P
 blk:Blk w P T [.slice A L.length c,.int .i64 ((L.length-s.r.length:Nat):Int),.bool s.bad]
 suf:s.r=L.drop (L.length-s.r.length)
 ne:0<s.r.length
 tks:∀(i:Nat) (a:Tk),L[i]? =some a→∃b off,A=some ⟨b,off,none⟩∧b<P∧w.cell? ⟨b,off+i*3,none⟩=some (.int .i64 a.kind)∧w.cell? ⟨b,off+i*3+1,none⟩=some (.string (tkB a))∧
  w.cell? ⟨b,off+i*3+2,none⟩=some (.int .i64 a.pos)
section
variable {T P c:Nat} {A:Option Addr} {L:List Tk} {w0 w w':World} {s:Ps}
theorem PsAt.grown (h:PsAt T P A c L w0 w s) {b:Option Nat} (hg:w.grownBy w' b) (hb:∀q,b=some q→P<q):PsAt T P A c L w0 w' s:=
 ⟨h.base.grown hg (fun q hq=>by have:=hb q hq;have:=h.low;omega),h.low,h.blk.grown hg (fun e=>by have:=hb P e.symm;omega),h.suf,h.ne,fun i a ha=>by
  obtain⟨b0,off,h1,h2,h3,h4,h5⟩:=h.tks i a ha
  have ne:some b0≠b:=fun e=>by have:=hb b0 e.symm;omega
  exact⟨b0,off,h1,h2,hg.cell h3 ne,hg.cell h4 ne,hg.cell h5 ne⟩⟩
theorem PsAt.ext (h:PsAt T P A c L w0 w s) (hx:Ext w w'):PsAt T P A c L w0 w' s:=h.grown (ext_grown hx none) (fun _ e=>by cases e)
theorem PsAt.lt (h:PsAt T P A c L w0 w s):P<w.heap.size:=h.blk.lt
theorem PsAt.le (h:PsAt T P A c L w0 w s):s.r.length≤L.length:=by
 have:=congrArg List.length h.suf
 rw[List.length_drop]at this
 omega
theorem PsAt.lti (h:PsAt T P A c L w0 w s):L.length-s.r.length<L.length:=by
 have:=h.le
 have:=h.ne
 omega
theorem PsAt.head (h:PsAt T P A c L w0 w s):L[L.length-s.r.length]? =some s.hd:=by
 have h1:=h.ne
 have h2:=h.suf
 generalize L.length-s.r.length=i at h2
 unfold Ps.hd
 rw[h2,List.headD_eq_head?_getD,List.head?_drop]
 cases h3:L[i]? with
 |some a=>rfl
 |none=>
  rw[List.getElem?_eq_none_iff]at h3
  rw[h2,List.length_drop]at h1
  omega
theorem PsAt.mem (h:PsAt T P A c L w0 w s):s.hd∈L:=List.mem_of_getElem? h.head
theorem PsAt.cells (h:PsAt T P A c L w0 w s):∃b off,A=some ⟨b,off,none⟩∧b<P∧w.cell? ⟨b,off+(L.length-s.r.length)*3,none⟩=some (.int .i64 s.hd.kind)∧w.cell? ⟨b,off+(L.length-s.r.length)*3+1,none⟩=some (.string (tkB s.hd))∧
  w.cell? ⟨b,off+(L.length-s.r.length)*3+2,none⟩=some (.int .i64 s.hd.pos):=h.tks _ _ h.head
theorem PsAt.ne_of (h:PsAt T P A c L w0 w s) (hL:TkL L) (hk:s.hd.kind≠0):1<s.r.length:=by
 have h1:¬(L.length-s.r.length+1=L.length):=fun e=>hk ((hL.last _ _ h.head).2 e)
 have:=h.le
 have:=h.ne
 omega
theorem PsAt.next (h:PsAt T P A c L w0 w s) (hL:TkL L) (hk:s.hd.kind≠0):PsAt T P A c L w0 (w.setCell ⟨P,1,none⟩ (.int .i64 (((L.length-s.r.length:Nat):Int)+1))) s.next:=by
 have h1:=h.ne_of hL hk
 have h2:=h.le
 have hl:s.next.r.length=s.r.length-1:=by simp[Ps.next]
 refine⟨h.base.setCell h.low _,h.low,?_,?_,by omega,fun i a ha=>?_⟩
 ·have:=h.blk.set 1 (.int .i64 (((L.length-s.r.length:Nat):Int)+1))
  rw[hl]
  have e:((L.length- (s.r.length-1):Nat):Int)=((L.length-s.r.length:Nat):Int)+1:=by omega
  rw[e]
  exact this
 ·rw[hl]
  show s.r.tail=_
  rw[show L.length- (s.r.length-1)=L.length-s.r.length+1 by omega,←List.tail_drop,←h.suf]
 ·obtain⟨b0,off,h1,h2,h3,h4,h5⟩:=h.tks i a ha
  have hg:=(Chg.refl P w).set 1 (.int .i64 (((L.length-s.r.length:Nat):Int)+1))
  have hne:b0≠P:=by omega
  exact⟨b0,off,h1,h2,hg.keep h3 hne,hg.keep h4 hne,hg.keep h5 hne⟩
theorem PsAt.fail (h:PsAt T P A c L w0 w s):PsAt T P A c L w0 (w.setCell ⟨P,2,none⟩ (.bool true)) s.fail:=
 ⟨h.base.setCell h.low _,h.low,h.blk.set 2 (.bool true),h.suf,h.ne,fun i a ha=>by
  obtain⟨b0,off,h1,h2,h3,h4,h5⟩:=h.tks i a ha
  have hg:=(Chg.refl P w).set 2 (.bool true)
  have hne:b0≠P:=by omega
  exact⟨b0,off,h1,h2,hg.keep h3 hne,hg.keep h4 hne,hg.keep h5 hne⟩⟩
end
def Ran (T P:Nat) (A:Option Addr) (c:Nat) (L:List Tk) (w0 w:World) (s':Ps) (Q:Value→World→Prop):Ending→World→Prop:=fun e w'=>
 ∃v,e= .returned v∧PsAt T P A c L w0 w' s'∧Chg P w w'∧Q v w'
end
section
open Lx (Tk)
def Stb (S:Nat→Prop) (w:World) (Φ:World→Prop):Prop:=∀w':World,w.heap.size≤w'.heap.size→(∀q,q<w.heap.size→S q→w'.heap[q]? =w.heap[q]?)→Φ w'
section
variable {S S':Nat→Prop} {w w':World} {Φ Ψ:World→Prop}
theorem Stb.now (h:Stb S w Φ):Φ w:=h w (Nat.le_refl _) fun _ _ _=>rfl
theorem Stb.step (h:Stb S w Φ) (hs:w.heap.size≤w'.heap.size) (hk:∀q,q<w.heap.size→S q→w'.heap[q]? =w.heap[q]?):Stb S w' Φ:=fun w2 h1 h2=>
 h w2 (Nat.le_trans hs h1) fun q hq hS=> (h2 q (Nat.lt_of_lt_of_le hq hs) hS).trans (hk q hq hS)
theorem Stb.grown (h:Stb S w Φ) {b:Option Nat} (hg:w.grownBy w' b) (hS:∀q,S q→b≠some q):Stb S w' Φ:=
 h.step (World.grownBy.size hg) fun q hq hs=>World.grownBy.block hg q hq fun e=>hS q hs e.symm
theorem Stb.ext (h:Stb S w Φ) (hx:Ext w w'):Stb S w' Φ:=h.step hx.size fun q hq _=>Below.block hx q hq
theorem Stb.weak (h:Stb S w Φ) (hs:∀q,q<w.heap.size→S q→S' q):Stb S' w Φ:=fun w2 h1 h2=>h w2 h1 fun q hq hS=>h2 q hq (hs q hq hS)
theorem Stb.chg {P n:Nat} (h:Stb (n≤·) w Φ) (hc:Chg P w w') (hP:P<n):Stb (n≤·) w' Φ:=h.grown hc fun q hq e=>by have:=Option.some.inj e;omega
theorem Stb.imp (h:Stb S w Φ) (hi:∀w2,Φ w2→Ψ w2):Stb S w Ψ:=fun w2 h1 h2=>hi w2 (h w2 h1 h2)
theorem Stb.and (h:Stb S w Φ) (k:Stb S w Ψ):Stb S w (fun w2=>Φ w2∧Ψ w2):=fun w2 h1 h2=>⟨h w2 h1 h2,k w2 h1 h2⟩
theorem Stb.of {P:Prop} (h:P):Stb S w (fun _=>P):=fun _ _ _=>h
end
theorem Stb.cell {S:Nat→Prop} {w:World} {p:Addr} {v:Value} (h:w.cell? p=some v) (hS:S p.block):Stb S w (fun w2=>w2.cell? p=some v):=fun w2 _ h2=>
 (World.cell?_of_block (h2 p.block (World.block_lt_of_cell? w p h) hS)).trans h
theorem Stb.blk {S:Nat→Prop} {w:World} {g T:Nat} {cs:List Value} (h:Blk w g T cs) (hS:S g):Stb S w (fun w2=>Blk w2 g T cs):=fun w2 _ h2=> (h2 g h.lt hS).trans h
def ExG (n:Nat) (w:World) (e:Ex) (v:Value):Prop:=∃A k c,v=e.d.val A k c∧Stb (n≤·) w (fun w'=>ExV w' e A k c)
section
variable {n m P:Nat} {w w':World} {e:Ex} {v:Value}
theorem ExG.chg (h:ExG n w e v) (hc:Chg P w w') (hP:P<n):ExG n w' e v:=by
 obtain⟨A,k,c,h1,h2⟩:=h
 exact⟨A,k,c,h1,h2.chg hc hP⟩
theorem ExG.ext (h:ExG n w e v) (hx:Ext w w'):ExG n w' e v:=by
 obtain⟨A,k,c,h1,h2⟩:=h
 exact⟨A,k,c,h1,h2.ext hx⟩
theorem ExG.mono (h:ExG n w e v) (hm:m≤n):ExG m w e v:=by
 obtain⟨A,k,c,h1,h2⟩:=h
 exact⟨A,k,c,h1,h2.weak fun q _ hq=>Nat.le_trans hm hq⟩
end
theorem i64_0:I64 0:=by unfold I64;omega
theorem i64_1:I64 1:=by unfold I64;omega
theorem i64_2:I64 2:=by unfold I64;omega
theorem fit_op {o:Int} (ho:I64 o):(⟨o,⟨#[]⟩,⟨#[]⟩,0,0,0,⟨#[]⟩⟩:Nd).fit:=⟨ho,i64_0,i64_0,i64_0,by show 0≤9223372036854775807;omega,by show 0≤9223372036854775807;omega,by show 0≤9223372036854775807;omega⟩
theorem exG_leaf (n:Nat) (w:World) {d:Nd} (hf:d.fit):ExG n w (.mk d []) (d.val none 0 0):=
 ⟨none,0,0,rfl,fun w' _ _=>⟨rfl,by omega,hf,by unfold KidsAt Ex.ks;trivial⟩⟩
theorem exG_lit (n:Nat) (w:World) {k i:Int} {t:ByteArray} (hk:I64 k) (hi:I64 i) (ht:t.size≤9223372036854775807):ExG n w (litE k i t) (.agg #[.int .i64 1,.string ⟨#[]⟩,.string ⟨#[]⟩,.int .i64 0,.int .i64 k,.int .i64 i,.string t,.slice none 0 0]):=
 exG_leaf n w (d:=⟨1,⟨#[]⟩,⟨#[]⟩,0,k,i,t⟩) ⟨i64_1,i64_0,hk,hi,by show 0≤9223372036854775807;omega,by show 0≤9223372036854775807;omega,ht⟩
theorem exG_col (n:Nat) (w:World) {t m:ByteArray} (ht:t.size≤9223372036854775807) (hm:m.size≤9223372036854775807):ExG n w (colE t m) (.agg #[.int .i64 2,.string t,.string m,.int .i64 0,.int .i64 0,.int .i64 0,.string ⟨#[]⟩,.slice none 0 0]):=
 exG_leaf n w (d:=⟨2,t,m,0,0,0,⟨#[]⟩⟩) ⟨i64_2,i64_0,i64_0,i64_0,ht,hm,by show 0≤9223372036854775807;omega⟩
theorem exG_zero (n:Nat) (w:World):ExG n w exZ (.agg #[.int .i64 0,.string ⟨#[]⟩,.string ⟨#[]⟩,.int .i64 0,.int .i64 0,.int .i64 0,.string ⟨#[]⟩,.slice none 0 0]):=
 exG_leaf n w (d:=ndZ) (fit_op (o:=0) i64_0)
def exCs (l:List (Ex×Option Addr×Nat×Nat)):List Value:=l.flatMap fun x=>x.1.d.cells x.2.1 x.2.2.1 x.2.2.2
theorem exCs_cons (x:Ex×Option Addr×Nat×Nat) (l:List (Ex×Option Addr×Nat×Nat)):exCs (x::l)=x.1.d.cells x.2.1 x.2.2.1 x.2.2.2++exCs l:=by simp[exCs]
theorem exCs_get (l:List (Ex×Option Addr×Nat×Nat)):∀(i j:Nat) (x:Ex×Option Addr×Nat×Nat),l[i]? =some x→j<8→(exCs l)[i*8+j]? =(x.1.d.cells x.2.1 x.2.2.1 x.2.2.2)[j]? :=by
 induction l with
 |nil=>intro i j x h;simp at h
 |cons y l ih=>
  intro i j x h hj
  rw[exCs_cons]
  have hl:(y.1.d.cells y.2.1 y.2.2.1 y.2.2.2).length=8:=rfl
  cases i with
  |zero=>
   simp at h
   subst h
   rw[List.getElem?_append_left (by omega)]
   simp
  |succ i=>
   rw[List.getElem?_append_right (by omega),hl,show(i+1)*8+j-8=i*8+j by omega]
   exact ih i j x (by simpa using h) hj
theorem kids_new {w:World} {g T:Nat} (l:List (Ex×Option Addr×Nat×Nat)) (hb:Blk w g T (exCs l)) (hv:∀x∈l,ExV w x.1 x.2.1 x.2.2.1 x.2.2.2):KidsAt w (some ⟨g,0,none⟩) (l.map (·.1)):=by
 unfold KidsAt
 rw[exsAt_iff]
 intro j e he
 rw[List.getElem?_map]at he
 cases hx:l[j]? with
 |none=>rw[hx]at he;cases he
 |some x=>
  rw[hx]at he
  simp at he
  subst he
  have hm:=hv x (List.mem_of_getElem? hx)
  refine⟨x.1.d.cells x.2.1 x.2.2.1 x.2.2.2,⟨g,0,rfl,fun i v hi=>?_⟩,?_⟩
  ·have hi8:i<8:=(List.getElem?_eq_some_iff.1 hi).1
   have:=exCs_get l j i x hx hi8
   rw[show 0+(0+j)*8+i=j*8+i by omega]
   exact hb.cell_some (this.trans hi)
  ·obtain⟨e,B,k,c⟩:=x
   cases e with
   |mk d ks=>
    rw[ExC]
    have h1:ks.length=k:=hm.len
    subst h1
    exact⟨hm.fit,hm.le,B,c,rfl,hm.kids⟩
theorem exG_op1 {n T:Nat} {w:World} {a:Ex} {A:Option Addr} {k c:Nat} {o:Int} (ho:I64 o) (hn:n≤w.heap.size) (ha:Stb (n≤·) w (fun w'=>ExV w' a A k c)):
  ExG n (w.alloc (.cells (a.d.cells A k c).toArray T)) (opE o [a]) (.agg #[.int .i64 o,.string ⟨#[]⟩,.string ⟨#[]⟩,.int .i64 0,.int .i64 0,.int .i64 0,.string ⟨#[]⟩,.slice (some ⟨w.heap.size,0,none⟩) 1 1]):=by
 refine⟨some ⟨w.heap.size,0,none⟩,1,1,rfl,?_⟩
 have hb:=Stb.blk (S:=(n≤·)) (Blk.of_new w T (a.d.cells A k c)) hn
 have hv:=ha.ext ((Ext.refl w).alloc (.cells (a.d.cells A k c).toArray T))
 refine(hb.and hv).imp fun w2 ⟨h1,h2⟩=>⟨rfl,by omega,fit_op ho,?_⟩
 exact kids_new [(a,A,k,c)] (by rw[exCs_cons];simpa[exCs] using h1) (fun x hx=>by rw[List.mem_singleton.1 hx];exact h2)
def ExS (S:Nat→Prop) (w:World) (e:Ex) (A:Option Addr) (k c:Nat):Prop:=Stb S w (fun w'=>ExV w' e A k c)
theorem exS_op2 {S:Nat→Prop} {T:Nat} {w:World} {a b:Ex} {A B:Option Addr} {k c k' c':Nat} {o:Int} (ho:I64 o) (hn:S w.heap.size) (ha:ExS S w a A k c) (hb:ExS S w b B k' c'):
  ExS S (w.alloc (.cells (a.d.cells A k c++b.d.cells B k' c').toArray T)) (opE o [a,b]) (some ⟨w.heap.size,0,none⟩) 2 2:=by
 have hx:=(Ext.refl w).alloc (.cells (a.d.cells A k c++b.d.cells B k' c').toArray T)
 have h0:=Stb.blk (S:=S) (Blk.of_new w T (a.d.cells A k c++b.d.cells B k' c')) hn
 refine((h0.and (Stb.ext ha hx)).and (Stb.ext hb hx)).imp fun w2 ⟨⟨h1,h2⟩,h3⟩=>⟨rfl,by omega,fit_op ho,?_⟩
 refine kids_new [(a,A,k,c),(b,B,k',c')] (by rw[exCs_cons,exCs_cons];simpa[exCs] using h1) fun x hx=>?_
 simp at hx
 rcases hx with rfl|rfl
 ·exact h2
 ·exact h3
theorem fin_ex {g m:Nat} {w w':World} {e:Ex} {v:Value} (h:ExG m w e v) (hg:w.grownBy w' (some g)) (hm:g<m):ExG g w' e v:=by
 obtain⟨A,k,c,h1,h2⟩:=h
 exact⟨A,k,c,h1,(h2.grown hg fun q hq e=>by have:=Option.some.inj e;omega).weak fun q _ hq=>by omega⟩
def Sx (g0 ge:Nat) (q:Nat):Prop:=g0+1≤q∧q≠ge
theorem Stb.chg2 {P g0 ge:Nat} {w w':World} {Φ:World→Prop} (h:Stb (Sx g0 ge) w Φ) (hc:Chg P w w') (hP:P<g0+1):Stb (Sx g0 ge) w' Φ:=h.grown hc fun q hq e=>by have:=Option.some.inj e;have:=hq.1;omega
theorem exS_op1 {S:Nat→Prop} {T:Nat} {w:World} {a:Ex} {A:Option Addr} {k c:Nat} {o:Int} (ho:I64 o) (hn:S w.heap.size) (ha:ExS S w a A k c):
  ExS S (w.alloc (.cells (a.d.cells A k c).toArray T)) (opE o [a]) (some ⟨w.heap.size,0,none⟩) 1 1:=by
 have hb:=Stb.blk (S:=S) (Blk.of_new w T (a.d.cells A k c)) hn
 have hv:=Stb.ext ha ((Ext.refl w).alloc (.cells (a.d.cells A k c).toArray T))
 refine(hb.and hv).imp fun w2 ⟨h1,h2⟩=>⟨rfl,by omega,fit_op ho,?_⟩
 exact kids_new [(a,A,k,c)] (by rw[exCs_cons];simpa[exCs] using h1) (fun x hx=>by rw[List.mem_singleton.1 hx];exact h2)
theorem opt_eq (t:ByteArray) (s:Ps):(accP t s).2=optP t s:=rfl
theorem exS_leaf (S:Nat→Prop) (w:World) {d:Nd} (hf:d.fit):ExS S w (.mk d []) none 0 0:=fun w' _ _=>⟨rfl,by omega,hf,by unfold KidsAt Ex.ks;trivial⟩
theorem exS_lit (S:Nat→Prop) (w:World) {k i:Int} {t:ByteArray} (hk:I64 k) (hi:I64 i) (ht:t.size≤9223372036854775807):ExS S w (litE k i t) none 0 0:=
 exS_leaf S w (d:=⟨1,⟨#[]⟩,⟨#[]⟩,0,k,i,t⟩) ⟨i64_1,i64_0,hk,hi,by show 0≤9223372036854775807;omega,by show 0≤9223372036854775807;omega,ht⟩
theorem PsAt.tok_size {T P c:Nat} {A:Option Addr} {L:List Tk} {w0 w:World} {s:Ps} (h:PsAt T P A c L w0 w s) (hL:TkL L):(tkB s.hd).size≤20000:=by
 have:=hL.txt _ h.mem
 simpa[tkB,ByteArray.size] using this
theorem PsAt.tak_size {T P c:Nat} {A:Option Addr} {L:List Tk} {w0 w:World} {s:Ps} (h:PsAt T P A c L w0 w s) (hL:TkL L) (k:Nat):(takP k s).1.size≤20000:=by
 unfold takP
 split
 ·exact h.tok_size hL
 ·show 0≤20000;omega
theorem PsAt.num_le {T P c:Nat} {A:Option Addr} {L:List Tk} {w0 w:World} {s:Ps} (h:PsAt T P A c L w0 w s) (hL:TkL L):0≤(numP s).1∧(numP s).1≤2147483648:=by
 unfold numP takP
 split
 ·next hk=>
  have hk3:s.hd.kind=3:=by simp[hasK]at hk;exact hk.2
  exact⟨by unfold digV;omega,(hL.num _ h.mem hk3).2.2.1⟩
 ·show(0:Int)≤0∧(0:Int)≤2147483648
  omega
def sts (w:World) (g:Nat):Nat→List Value→World
 |_,[]=>w
 |i,v::vs=>sts (w.setCell ⟨g,i,none⟩ v) g (i+1) vs
theorem sts_grown (g:Nat) (vs:List Value):∀(w:World) (i:Nat),w.grownBy (sts w g i vs) (some g):=by
 induction vs with
 |nil=>intro w i;exact ext_grown (Ext.refl w) _
 |cons v vs ih=>
  intro w i
  have h1:w.grownBy (w.setCell ⟨g,i,none⟩ v) (some g):=⟨rfl,rfl,rfl,by simp[World.setCell],fun j _ hj=>Below.heap_setCell w ⟨g,i,none⟩ v j (fun e=>hj (by rw[e]))⟩
  exact World.grownBy.trans h1 (ih _ _)
theorem sts_blk_go (g T:Nat) (vs:List Value):∀(w:World) (pre old:List Value),old.length=vs.length→Blk w g T (pre++old)→Blk (sts w g pre.length vs) g T (pre++vs):=by
 induction vs with
 |nil=>
  intro w pre old hl h
  rw[List.eq_nil_of_length_eq_zero hl]at h
  exact h
 |cons v vs ih=>
  intro w pre old hl h
  cases old with
  |nil=>simp at hl
  |cons o old=>
   have h1:=h.set pre.length v
   rw[List.set_append_right _ _ (Nat.le_refl _),Nat.sub_self,List.set_cons_zero]at h1
   have h2:=ih (w.setCell ⟨g,pre.length,none⟩ v) (pre++ [v]) old (by simpa using hl) (by simpa using h1)
   rw[sts]
   simpa using h2
theorem sts_blk {w:World} {g T:Nat} {old:List Value} (h:Blk w g T old) (vs:List Value) (hl:old.length=vs.length):Blk (sts w g 0 vs) g T vs:=sts_blk_go g T vs w [] old hl h
theorem Chg.own {P:Nat} {a b c:World} (h:Chg P a b) {g:Option Nat} (hg:b.grownBy c g) (hn:∀q,g=some q→a.heap.size≤q):Chg P a c:=
 ⟨(World.grownBy.os hg).trans (World.grownBy.os h),(World.grownBy.tape hg).trans (World.grownBy.tape h),(World.grownBy.output hg).trans (World.grownBy.output h),Nat.le_trans (World.grownBy.size h) (World.grownBy.size hg),fun i hi hne=>
  (World.grownBy.block hg i (Nat.lt_of_lt_of_le hi (World.grownBy.size h)) fun e=>by have:=hn i e.symm;omega).trans (World.grownBy.block h i hi hne)⟩
end
section
open Lx (Tk)
def Lst {α:Type} (Φ:α→List Value→World→Prop) (sz:Nat) (w:World) (A:Option Addr) (l:List α):Prop:=∀(i:Nat) (a:α),l[i]? =some a→∃cs,cs.length=sz∧CellsAt w A (i*sz) cs∧Φ a cs w
structure RowS {α:Type} (Φ:α→List Value→World→Prop) (T sz n0:Nat) (w:World) (v:Value) (l:List α) (css:List (List Value)):Prop where
 len:css.length=l.length
 each:∀cs∈css,cs.length=sz
 own:w.ownsRow n0 T sz v l.length css.flatten
 at_:∀(i:Nat) (a:α) (cs:List Value),l[i]? =some a→css[i]? =some cs→Stb (fun q=>n0≤q∧v.ownBlock≠some q) w (Φ a cs)
section
variable {α:Type} {Φ:α→List Value→World→Prop} {T sz n0 P:Nat} {w w':World} {v v':Value} {l:List α} {css:List (List Value)}
theorem RowS.chg (h:RowS Φ T sz n0 w v l css) (hc:Chg P w w') (hP:P<n0):RowS Φ T sz n0 w' v l css:=
 ⟨h.len,h.each,h.own.kept hc (by
   cases hv:v.ownBlock with
   |none=>exact .inl rfl
   |some q=>exact .inr fun e=>by have:=(h.own.lt q hv).1;have:=Option.some.inj e;omega),
  fun i a cs hi hcs=> (h.at_ i a cs hi hcs).grown hc fun q hq e=>by have:=hq.1;have:=Option.some.inj e;omega⟩
theorem RowS.ext (h:RowS Φ T sz n0 w v l css) (hx:Ext w w'):RowS Φ T sz n0 w' v l css:=
 ⟨h.len,h.each,h.own.kept (ext_grown hx none) (by
   cases hv:v.ownBlock with
   |none=>exact .inl rfl
   |some q=>exact .inr fun e=>by cases e),
  fun i a cs hi hcs=> (h.at_ i a cs hi hcs).ext hx⟩
theorem own_new (w:World) (n0 T sz:Nat) (cs:List Value) (hl:cs.length=sz) (hn:n0≤w.heap.size):(w.alloc (.cells cs.toArray T)).ownsRow n0 T sz (.slice (some ⟨w.heap.size,0,none⟩) 1 1) 1 cs:=
 ⟨by omega,.inr ⟨w.heap.size,1,cs.toArray,rfl,hn,heap_alloc_new w _,Nat.le_refl _,by unfold maxLen;omega,by simp[hl],by simpa using List.take_of_length_le (Nat.le_of_eq hl)⟩⟩
theorem RowS.start (cs:List Value) {a:α} (hl:cs.length=sz) (hn:n0≤w.heap.size) (ha:Stb (n0≤·) w (Φ a cs)):
  RowS Φ T sz n0 (w.alloc (.cells cs.toArray T)) (.slice (some ⟨w.heap.size,0,none⟩) 1 1) [a] [cs]:=by
 refine⟨rfl,fun x hx=>by rw[List.mem_singleton.1 hx];exact hl,by simpa using own_new w n0 T sz cs hl hn,fun i b ds hi hds=>?_⟩
 cases i with
 |zero=>
  simp at hi hds
  subst hi hds
  exact(ha.weak (S':=fun q=>n0≤q∧(Value.slice (some ⟨w.heap.size,0,none⟩) 1 1).ownBlock≠some q) fun q hq h=>⟨h,fun e=>by simp[Value.ownBlock]at e;omega⟩).ext ((Ext.refl w).alloc _)
 |succ i=>simp at hi
theorem RowS.push (h:RowS Φ T sz n0 w v l css) {a:α} {cs:List Value} (hl:cs.length=sz) (ho:w'.ownsRow n0 T sz v' (l.length+1) (css.flatten++cs)) (hg:w.grownBy w' v.ownBlock) (hb:v'.ownBlock=v.ownBlock∨v'.ownBlock=some w.heap.size)
  (ha:Stb (fun q=>n0≤q∧v.ownBlock≠some q) w (Φ a cs)):RowS Φ T sz n0 w' v' (l++ [a]) (css++ [cs]):=by
 have key:∀ {Ψ:World→Prop},Stb (fun q=>n0≤q∧v.ownBlock≠some q) w Ψ→Stb (fun q=>n0≤q∧v'.ownBlock≠some q) w' Ψ:=fun {Ψ} hs=>by
  have h1:=hs.weak (S':=fun q=> (n0≤q∧v'.ownBlock≠some q)∧v.ownBlock≠some q) fun q hq hh=>⟨⟨hh.1,fun e=>by
   rcases hb with hb|hb
   ·exact hh.2 (hb.symm.trans e)
   ·rw[hb]at e
    have:=Option.some.inj e
    omega⟩,hh.2⟩
  have h2:=h1.grown hg fun q hq=>hq.2
  intro w2 hs2 hk
  exact h2 w2 hs2 fun q hq hh=>hk q hq hh.1
 refine⟨by simp[h.len],fun x hx=>?_,by simpa using ho,fun i b ds hi hds=>?_⟩
 ·rcases List.mem_append.1 hx with hx|hx
  ·exact h.each x hx
  ·rw[List.mem_singleton.1 hx];exact hl
 ·by_cases hi2:i<l.length
  ·rw[List.getElem?_append_left hi2]at hi
   rw[List.getElem?_append_left (by rw[h.len];exact hi2)]at hds
   exact key (h.at_ i b ds hi hds)
  ·have h1:=(List.getElem?_eq_some_iff.1 hi).1
   rw[List.length_append,List.length_singleton]at h1
   obtain rfl:i=l.length:=by omega
   rw[List.getElem?_append_right (Nat.le_refl _),Nat.sub_self]at hi
   rw[←h.len,List.getElem?_append_right (Nat.le_refl _),Nat.sub_self]at hds
   simp at hi hds
   subst hi hds
   exact key ha
theorem flat_get {sz:Nat} :∀(css:List (List Value)),(∀cs∈css,cs.length=sz)→∀(i j:Nat) (cs:List Value) (v:Value),css[i]? =some cs→cs[j]? =some v→css.flatten[i*sz+j]? =some v
 | [],_,i,j,cs,v,h,_=>by simp at h
 |x::css,he,i,j,cs,v,h,hv=>by
  have hx:=he x (List.mem_cons_self ..)
  rw[List.flatten_cons]
  cases i with
  |zero=>
   simp at h
   subst h
   rw[List.getElem?_append_left (by have:=(List.getElem?_eq_some_iff.1 hv).1;omega)]
   simpa using hv
  |succ i=>
   have hj:=(List.getElem?_eq_some_iff.1 hv).1
   rw[List.getElem?_append_right (by rw[hx,Nat.succ_mul];omega),hx,show(i+1)*sz+j-sz=i*sz+j by rw[Nat.succ_mul];omega]
   exact flat_get css (fun c hc=>he c (List.mem_cons_of_mem _ hc)) i j cs v (by simpa using h) hv
theorem RowS.fin (h:RowS Φ T sz n0 w v l css):∃A c,v= .slice A l.length c∧Stb (n0≤·) w (fun w2=>Lst Φ sz w2 A l):=by
 rcases h.own.2 with ⟨hv,h0⟩|⟨g,cap,cur,hv,hg,hh,hnc,hcm,hcs,htk⟩
 ·refine⟨none,0,by rw[hv,h0],fun w2 _ _ i a hi=>?_⟩
  have:=(List.getElem?_eq_some_iff.1 hi).1
  omega
 ·refine⟨some ⟨g,0,none⟩,cap,hv,fun w2 hs hk i a hi=>?_⟩
  have hil:=(List.getElem?_eq_some_iff.1 hi).1
  obtain⟨cs,hc⟩:∃cs,css[i]? =some cs:=⟨_,List.getElem?_eq_getElem (by rw[h.len];exact hil)⟩
  have hgl:g<w.heap.size:=(Array.getElem?_eq_some_iff.1 hh).1
  refine⟨cs,h.each cs (List.mem_of_getElem? hc),⟨g,0,rfl,fun j u hu=>?_⟩,(h.at_ i a cs hi hc) w2 hs fun q hq hS=>hk q hq hS.1⟩
  have h1:=flat_get css h.each i j cs u hc hu
  rw[←htk,List.getElem?_take]at h1
  have hg2:=(hk g hgl hg).trans hh
  split at h1
  ·rw[Nat.zero_add]
   simp[World.cell?,hg2]
   simpa using h1
  ·cases h1
end
end
section
open Lx (Tk)
theorem str_dec (a b:ByteArray):(a.toList==b.toList)=decide (a=b):=by
 rw[ByteArray.toList_eq,ByteArray.toList_eq,Bool.eq_iff_iff,beq_iff_eq,decide_eq_true_iff]
 constructor
 ·intro h
  cases a;cases b
  simp only[ByteArray.mk.injEq]
  exact Array.toList_inj.1 h
 ·rintro rfl;rfl
section
variable {P c:Nat} {A:Option Addr} {L:List Tk} {w0 w:World} {s:Ps}
theorem is_any (hp:PsAt 68 P A c L w0 w s) (hL:TkL L) (t:ByteArray):
  Calls Tryz.prog 98 #[.pointer (some ⟨P,0,none⟩),.string t] w fun e w'=>e= .returned (.bool (isS t s))∧Ext w w':=by
 obtain⟨b,off,hA,hb,c0,c1,c2⟩:=hp.cells
 subst hA
 obtain⟨p0,p1,p2,-⟩:=cls hp.blk
 have hi:=hp.lti
 have hl:=hL.len
 have HI:Hid (isS t s=(!s.bad&& ((s.hd.kind==2||s.hd.kind==5) &&decide (tkB s.hd=t)))):=rfl
 generalize isS t s=B at*
 generalize L.length-s.r.length=i at*
 generalize s.hd.kind=K at*
 generalize s.hd.pos=Ps9 at*
 generalize tkB s.hd=X at*
 generalize s.bad=bd at*
 have i0:(0:Int)≤(i:Int):=by omega
 have i1:(i:Int)<(L.length:Int):=by omega
 have hxa:=(Ext.refl w).alloc (.cells #[.int .i64 0,.string ⟨#[]⟩,.int .i64 0] 70)
 have HX:=hid hxa
 have ap0:=hxa.keep p0
 have ap1:=hxa.keep p1
 have ap2:=hxa.keep p2
 have ac0:=hxa.keep c0
 have ac1:=hxa.keep c1
 have ac2:=hxa.keep c2
 clear hp hL hxa
 go_enter Tryz.func98,Tryz.ntmps98
 go_upto_region 1 with fail
 go_region
 have hx1:Ext w (w.alloc (.cells #[.int .i64 (K:Int),.string X,.int .i64 (Ps9:Int)] 70)).drew:=((Ext.refl w).alloc _).drew
 have hbt:Blk (w.alloc (.cells #[.int .i64 (K:Int),.string X,.int .i64 (Ps9:Int)] 70)).drew w.heap.size 70 [.int .i64 (K:Int),.string X,.int .i64 (Ps9:Int)]:=(Blk.of_new w 70 [.int .i64 (K:Int),.string X,.int .i64 (Ps9:Int)]).drew
 have q2:=hx1.keep p2
 obtain⟨t0,t1,-⟩:=cls hbt
 have HX1:=hid hx1
 clear hx1 hbt p0 p1 p2 c0 c1 c2 ap0 ap1 ap2 ac0 ac1 ac2 hb hi
 generalize (w.alloc (.cells #[.int .i64 (K:Int),.string X,.int .i64 (Ps9:Int)] 70)).drew=w1 at*
 generalize w.heap.size=g1 at*
 have HB:=HI.out
 subst HB
 by_cases k2:K=2
 ·subst k2
  cases bd<;> (go_wp2_with fail;go_ret;exact⟨ret_bool (by simp[str_dec, *]),HX1.out⟩)
 ·by_cases k5:K=5
  ·subst k5
   cases bd<;> (go_wp2_with fail;go_ret;exact⟨ret_bool (by simp[str_dec, *]),HX1.out⟩)
  ·cases bd<;> (go_wp2_with fail;go_ret;exact⟨ret_bool (by simp[str_dec, *]),HX1.out⟩)
theorem accept_any (hp:PsAt 68 P A c L w0 w s) (hL:TkL L) (t:ByteArray):
  Calls Tryz.prog 53 #[.pointer (some ⟨P,0,none⟩),.string t] w (Ran 68 P A c L w0 w (accP t s).2 fun v _=>v= .bool (isS t s)):=by
 have HP:=hid hp
 have HI:=hid (is_any hp hL t)
 clear hp
 go_enter Tryz.func53,Tryz.ntmps53
 go_wp2_with fail
 refine HI.out.mono ?_
 rintro e w1 ⟨rfl,hx1⟩
 have HP1:=hid (HP.out.ext hx1)
 have p1:=HP1.out.blk.cell_some (i:=1) rfl
 have f1:=HP1.out.blk.frozen 1
 have HX1:=hid hx1
 clear hx1 HI
 have hst:(accP t s).2=if isS t s=true then s.next else s:=rfl
 have HS:=hid hst
 clear hst
 cases hs:isS t s
 ·go_wp2_with fail
  go_ret
  exact⟨_,rfl,by rw[HS.out,hs];exact HP1.out,Chg.of HX1.out,by rw[hs];rfl⟩
 ·have hk:s.hd.kind≠0:=by
   intro e
   simp[isS,e]at hs
  have HP2:=hid (HP1.out.next hL hk)
  have hi:=HP1.out.lti
  have hl:=hL.len
  generalize L.length-s.r.length=i at*
  go_wp2_with fail
  go_ret
  exact⟨_,rfl,by rw[HS.out,hs];exact HP2.out,(Chg.of HX1.out).set _ _,by rw[hs];rfl⟩
theorem need_any (hp:PsAt 68 P A c L w0 w s) (hL:TkL L) (t:ByteArray) (g:Nat) (hc:w.cell? ⟨g,0,none⟩=some (.string t)):
  Calls Tryz.prog 44 #[.pointer (some ⟨P,0,none⟩),.slice (some ⟨g,0,none⟩) 1 1] w (Ran 68 P A c L w0 w (needP t s) fun _ _=>True):=by
 have HA:=hid (accept_any hp hL t)
 have HS:Hid (needP t s=if isS t s=true then s.next else s.fail):=rfl
 have HT:Hid ((accP t s).2=if isS t s=true then s.next else s):=rfl
 clear hp
 go_enter Tryz.func44,Tryz.ntmps44
 go_wp2_with fail
 go_loopw [8] (fun iv wr=> (iv= .int .i64 0∧wr=w)∨(iv= .int .i64 1∧PsAt 68 P A c L w0 wr (needP t s)∧Chg P w wr)) (fun i _=>2- (intOf i).toNat)
 case atStart=>exact .inl ⟨rfl,rfl⟩
 case round=>
  rcases hrel with ⟨rfl,rfl⟩|⟨rfl,hp2,hg2⟩
  ·go_wp2_with fail
   refine HA.out.mono ?_
   rintro e w1 ⟨v1,rfl,hp1,hg1,rfl⟩
   rw[HT.out]at hp1
   cases hs:isS t s
   ·rw[hs]at hp1 HS
    have HP2:=hid hp1.fail
    have f2:=hp1.blk.frozen 2
    have p2:=hp1.blk.cell_some (i:=2) rfl
    have HG:=hid (hg1.set 2 (.bool true))
    clear hp1 hg1
    go_wp2_with fail
    exact⟨.inr ⟨rfl,by rw[HS.out];exact HP2.out,HG.out⟩,by simp[intOf]⟩
   ·rw[hs]at hp1 HS
    have HP2:=hid hp1
    have HG:=hid hg1
    clear hp1 hg1
    go_wp2_with fail
    exact⟨.inr ⟨rfl,by rw[HS.out];exact HP2.out,HG.out⟩,by simp[intOf]⟩
  ·have HP2:=hid hp2
   have HG:=hid hg2
   clear hp2 hg2
   go_wp2_with fail
   exact bodyPost_end (v:= .tuple #[]) (by simp[results,Tryz.results44,go_sem]) rfl ⟨_,rfl,HP2.out,HG.out,trivial⟩
end
end
section
open Lx (Tk)
theorem dv_ge (l:List UInt8):∀v:Nat,v≤l.foldl (fun v c=>10*v+(c.toNat-48)) v:=by
 induction l with
 |nil=>intro v;exact Nat.le_refl _
 |cons a l ih=>intro v;rw[List.foldl_cons];exact Nat.le_trans (by omega) (ih _)
theorem pu_dig (l:List UInt8):∀v:Nat,(∀c∈l,48≤c.toNat∧c.toNat≤57)→l.foldl (fun v c=>10*v+(c.toNat-48)) v≤2147483648→Lib.parseUint10 v l= .ok (l.foldl (fun v c=>10*v+(c.toNat-48)) v):=by
 induction l with
 |nil=>intro v _ _;rfl
 |cons a l ih=>
  intro v hd hb
  have h1:=hd a (List.mem_cons_self ..)
  rw[List.foldl_cons]at hb ⊢
  have h2:=dv_ge l (10*v+(a.toNat-48))
  rw[Lib.parseUint10,if_pos h1,if_neg (by omega),if_neg (by omega),Nat.mul_comm v 10]
  exact ih _ (fun c hc=>hd c (List.mem_cons_of_mem _ hc)) hb
theorem pi_dig (l:List UInt8) (hn:l≠[]) (hd:∀c∈l,48≤c.toNat∧c.toNat≤57) (hb:Lx.digVal l≤2147483648):Lib.parseIntB 64 l= .ok ((Lx.digVal l:Nat):Int):=by
 rw[Lib.parseIntB_64]
 have hp:=pu_dig l 0 hd hb
 cases l with
 |nil=>exact absurd rfl hn
 |cons c r=>
  have h1:=hd c (List.mem_cons_self ..)
  unfold Lib.atoiAll
  dsimp only
  rw[if_neg (by omega)]
  unfold Lib.parseMag
  rw[if_neg (by simp),hp]
  dsimp only
  change Lx.digVal (c::r)≤_ at hb
  have e:List.foldl (fun v (c:UInt8)=>10*v+(c.toNat-48)) 0 (c::r)=Lx.digVal (c::r):=rfl
  rw[e,if_neg (by omega),if_neg (by omega),if_neg (by omega)]
theorem tok_int {L:List Tk} (hL:TkL L) {a:Tk} (ha:a∈L) (hk:a.kind=3) (w:World):
  Calls Tryz.prog 234 #[.string (tkB a),.int .i64 10,.int .i64 64] w fun e w'=>e= .returned (.tuple #[.int .i64 (digV (tkB a)),.nilIface])∧Ext w w':=by
 obtain⟨h1,h2,h3,h4⟩:=hL.num a ha hk
 have hv:Lib.parseIntB 64 (tkB a).data.toList= .ok (digV (tkB a)):=by
  have e:(tkB a).data.toList=a.text:=by simp[tkB]
  unfold digV at h3 ⊢
  rw[e]at h3 ⊢
  exact pi_dig _ h1 h2 (by omega)
 have hs:(tkB a).size=a.text.length:=by simp[tkB,ByteArray.size]
 have:=hL.txt a ha
 refine(Tryz.strconv_ParseInt_10_at64_ok _ (by omega) _ hv w).mono ?_
 rintro e w' ⟨rfl,h⟩
 refine⟨rfl,?_⟩
 rcases h with rfl|⟨t,rfl⟩
 ·exact Ext.refl _
 ·exact Lib.bytesWorld_below _ _ _
theorem er_ext {w w':World} (h:Er w) (hx:Ext w w'):Er w':=by
 obtain⟨⟨te,pe,h2⟩,tf,pf,h3⟩:=h
 exact⟨⟨te,pe,hx.keep h2⟩,tf,pf,hx.keep h3⟩
theorem no_int (w:World) (hE:Er w):
  Calls Tryz.prog 234 #[.string ⟨#[]⟩,.int .i64 10,.int .i64 64] w fun e w'=> ∃x,e= .returned (.tuple #[.int .i64 0,x])∧Ext w w':=by
 obtain⟨⟨te,pe,h2⟩,_⟩:=hE
 refine(Any.strconv_ParseInt_10_at64_syntax Tryz.laysC174 ⟨#[]⟩ (by show 0≤281474976710656;omega) (by rw[Lib.parseIntB_64];rfl) _ w h2 (.inr ⟨te,pe,rfl⟩)).mono ?_
 rintro e w' ⟨n,rfl,_,_,hb⟩
 exact⟨_,rfl,hb⟩
end
section
open Lx (Tk)
theorem nat_beq (a b:Nat):((a:Int)==(b:Int))=(a==b):=by
 rw[Bool.eq_iff_iff]
 simp
 omega
section
variable {P c:Nat} {A:Option Addr} {L:List Tk} {w0 w:World} {s:Ps}
theorem has_any (hp:PsAt 68 P A c L w0 w s) (hL:TkL L) (k:Nat):
  Calls Tryz.prog 43 #[.pointer (some ⟨P,0,none⟩),.int .i64 (k:Nat)] w fun e w'=>e= .returned (.bool (hasK k s))∧Ext w w':=by
 obtain⟨b,off,hA,hb,c0,c1,c2⟩:=hp.cells
 subst hA
 obtain⟨p0,p1,p2,-⟩:=cls hp.blk
 have hi:=hp.lti
 have hl:=hL.len
 have HI:Hid (hasK k s=(!s.bad&&s.hd.kind==k)):=rfl
 generalize hasK k s=B at*
 generalize L.length-s.r.length=i at*
 generalize s.hd.kind=K at*
 generalize s.bad=bd at*
 have i0:(0:Int)≤(i:Int):=by omega
 have i1:(i:Int)<(L.length:Int):=by omega
 clear hp hL
 go_enter Tryz.func43,Tryz.ntmps43
 go_upto_region 1 with fail
 have HB:=HI.out
 subst HB
 cases bd
 ·go_region
  all_goals
   go_wp2_with fail
   go_ret
   exact⟨congrArg (fun b=>Ending.returned (.bool b)) (nat_beq K k),(Ext.refl w).drew⟩
 ·go_region
  all_goals
   go_wp2_with fail
   go_ret
   exact⟨rfl,(Ext.refl w).drew⟩
theorem take_any (hp:PsAt 68 P A c L w0 w s) (hL:TkL L) (k:Nat) (hk:k≠0):
  Calls Tryz.prog 100 #[.pointer (some ⟨P,0,none⟩),.int .i64 (k:Nat)] w (Ran 68 P A c L w0 w (takP k s).2 fun v _=>v= .string (takP k s).1):=by
 have HP:=hid hp
 have HI:=hid (has_any hp hL k)
 have HT:Hid (takP k s=if hasK k s=true then (tkB s.hd,s.next)else (⟨#[]⟩,s.fail)):=rfl
 clear hp
 go_enter Tryz.func100,Tryz.ntmps100
 go_wp2_with fail
 refine HI.out.mono ?_
 rintro e w1 ⟨rfl,hx1⟩
 have HP1:=hid (HP.out.ext hx1)
 have HX1:=hid hx1
 clear hx1 HI
 cases hs:hasK k s
 ·have f2:=HP1.out.blk.frozen 2
  have p2:=HP1.out.blk.cell_some (i:=2) rfl
  have HP2:=hid HP1.out.fail
  rw[hs]at HT
  go_wp2_with fail
  go_ret
  exact⟨_,rfl,by rw[HT.out];exact HP2.out,(Chg.of HX1.out).set _ _,by rw[HT.out];rfl⟩
 ·have hk0:s.hd.kind≠0:=by
   simp[hasK]at hs
   omega
  have HP2:=hid (HP1.out.next hL hk0)
  have p1:=HP1.out.blk.cell_some (i:=1) rfl
  have f1:=HP1.out.blk.frozen 1
  have hi:=HP1.out.lti
  have hl:=hL.len
  have hhd:=HP1.out.head
  rw[hs]at HT
  have HTs:=hid HP2.out.tks
  have HB2:=hid HP2.out.blk
  have hn:L.length-s.next.r.length=L.length-s.r.length+1:=by
   have:=HP1.out.le
   have:=HP1.out.ne_of hL hk0
   simp[Ps.next]
   omega
  rw[hn]at HB2
  clear hn
  obtain⟨b,off,hA,hb,d0,d1,d2⟩:=HP2.out.tks _ _ hhd
  subst hA
  generalize L.length-s.r.length=i at*
  obtain⟨q0,q1,-⟩:=cls HB2.out
  have HC:=hid ((Chg.of HX1.out).set (P:=P) 1 (.int .i64 ((i:Int)+1)))
  have i0:(0:Int)≤(i:Int):=by omega
  have i1:(i:Int)<(L.length:Int):=by omega
  have q1':(w1.setCell ⟨P,1,none⟩ (.int .i64 ((i:Int)+1))).cell? ⟨P,1,none⟩=some (.int .i64 ((i:Int)+1)):=by
   have:=q1
   simpa using this
  clear q1 hhd d0 d2
  go_upto_region 5 with fail
  generalize w1.setCell ⟨P,1,none⟩ (.int .i64 ((i:Int)+1))=w2 at*
  go_region
  all_goals
   go_wp2_with fail
   go_ret
   exact⟨_,rfl,by rw[HT.out];exact HP2.out.ext (Ext.refl w2).drew,HC.out.ext (Ext.refl w2).drew,by rw[HT.out];rfl⟩
end
end
section
open Lx (Tk)
abbrev Vb:=Nat×Nat×List Value
structure En (T P:Nat) (A:Option Addr) (c:Nat) (L:List Tk) (w0 wi w:World) (s:Ps) (V:List Vb) (Φ:World→Prop):Prop where
 ps:PsAt T P A c L w0 w s
 low:P<wi.heap.size
 chg:Chg P wi w
 blk:∀x∈V,Blk w x.1 x.2.1 x.2.2
 new:∀x∈V,wi.heap.size≤x.1
 nod:(V.map (·.1)).Nodup
 stb:Stb (fun q=>wi.heap.size≤q∧q∉V.map (·.1)) w Φ
section
variable {T P c:Nat} {A:Option Addr} {L:List Tk} {w0 wi w w':World} {s s':Ps} {V:List Vb} {Φ Ψ:World→Prop}
theorem En.start (h:PsAt T P A c L w0 w s):En T P A c L w0 w w s [] (fun _=>True):=⟨h,h.lt,Chg.refl P w,by simp,by simp,by simp,Stb.of trivial⟩
theorem En.size (h:En T P A c L w0 wi w s V Φ):wi.heap.size≤w.heap.size:=h.chg.size
theorem En.ext (h:En T P A c L w0 wi w s V Φ) (hx:Ext w w'):En T P A c L w0 wi w' s V Φ:=⟨h.ps.ext hx,h.low,h.chg.ext hx,fun x hm=> (h.blk x hm).ext hx,h.new,h.nod,h.stb.ext hx⟩
theorem En.call (h:En T P A c L w0 wi w s V Φ) (h1:PsAt T P A c L w0 w' s') (h2:Chg P w w'):En T P A c L w0 wi w' s' V Φ:=
 ⟨h1,h.low,h.chg.trans h2,fun x hm=>h2.blk (h.blk x hm) (by have:=h.new x hm;have:=h.low;omega),h.new,h.nod,h.stb.grown h2 fun q hq e=>by have:=hq.1;have:=h.low;have:=Option.some.inj e;omega⟩
theorem En.and {n:Nat} (h:En T P A c L w0 wi w s V Φ) (h3:Stb (n≤·) w Ψ) (hn:wi.heap.size≤n) (hV:∀x∈V,x.1<n):En T P A c L w0 wi w s V (fun u=>Φ u∧Ψ u):=
 ⟨h.ps,h.low,h.chg,h.blk,h.new,h.nod,h.stb.and (h3.weak fun q _ hq=>⟨Nat.le_trans hn hq,fun hm=>by
  obtain⟨x,hx,rfl⟩:=List.mem_map.1 hm
  have:=hV x hx
  have:n≤x.1:=hq
  omega⟩)⟩
theorem En.calls (h:En T P A c L w0 wi w s V Φ) (h1:PsAt T P A c L w0 w' s') (h2:Chg P w w') (h3:Stb (w.heap.size≤·) w' Ψ):En T P A c L w0 wi w' s' V (fun u=>Φ u∧Ψ u):=
 (h.call h1 h2).and h3 h.size fun x hm=> (h.blk x hm).lt
theorem En.alloc (h:En T P A c L w0 wi w s V Φ) (t:Nat) (cs:List Value):En T P A c L w0 wi (w.alloc (.cells cs.toArray t)) s ((w.heap.size,t,cs)::V) Φ:=by
 have hx:=(Ext.refl w).alloc (.cells cs.toArray t)
 refine⟨h.ps.ext hx,h.low,h.chg.ext hx,fun x hm=>?_,fun x hm=>?_,?_,Stb.ext (h.stb.weak fun q hl hq=>⟨hq.1,fun e=>by
  rcases List.mem_cons.1 e with e|e
  ·have e:q=w.heap.size:=e
   omega
  ·exact hq.2 e⟩) hx⟩
 ·rcases List.mem_cons.1 hm with rfl|hm
  ·exact Blk.of_new w t cs
  ·exact(h.blk x hm).ext hx
 ·rcases List.mem_cons.1 hm with rfl|hm
  ·exact h.size
  ·exact h.new x hm
 ·rw[List.map_cons,List.nodup_cons]
  refine⟨fun hm=>?_,h.nod⟩
  obtain⟨x,hx,e⟩:=List.mem_map.1 hm
  have:=(h.blk x hx).lt
  have e:x.1=w.heap.size:=e
  omega
theorem En.get (h:En T P A c L w0 wi w s V Φ) {j g t:Nat} {cs:List Value} (hj:V[j]? =some (g,t,cs)):Blk w g t cs:=h.blk _ (List.mem_of_getElem? hj)
theorem En.ge (h:En T P A c L w0 wi w s V Φ) {j g t:Nat} {cs:List Value} (hj:V[j]? =some (g,t,cs)):wi.heap.size≤g:=h.new _ (List.mem_of_getElem? hj)
theorem En.put (h:En T P A c L w0 wi w s V Φ) {j g t:Nat} {cs ds:List Value} (hj:V[j]? =some (g,t,cs)) (hg:w.grownBy w' (some g)) (hb:Blk w' g t ds):En T P A c L w0 wi w' s (V.set j (g,t,ds)) Φ:=by
 have hge:=h.ge hj
 have hm:(V.set j (g,t,ds)).map (·.1)=V.map (·.1):=by
  rw[List.map_set]
  refine List.ext_getElem? fun i=>?_
  rw[List.getElem?_set]
  split
  ·next e=>
   subst e
   split
   ·rw[List.getElem?_map,hj];rfl
   ·next hl=>rw[List.getElem?_eq_none (by omega)]
  ·rfl
 refine⟨h.ps.grown hg fun q hq=>by have:=h.low;have:=Option.some.inj hq;omega,h.low,h.chg.own hg fun q hq=>by have:=Option.some.inj hq;omega,fun x hx=>?_,fun x hx=>?_,by rw[hm];exact h.nod,?_⟩
 ·obtain⟨i,hi⟩:=List.getElem?_of_mem hx
  rw[List.getElem?_set]at hi
  split at hi
  ·split at hi
   ·cases hi;exact hb
   ·cases hi
  ·next hne=>
   refine(h.blk x (List.mem_of_getElem? hi)).grown hg fun e=>hne ?_
   have e:x.1=g:=Option.some.inj e
   have hn:=h.nod
   have hn:=List.pairwise_iff_getElem.1 hn
   have il:=(List.getElem?_eq_some_iff.1 hi).1
   have jl:=(List.getElem?_eq_some_iff.1 hj).1
   apply Classical.byContradiction
   intro hij
   have a1:(V.map (·.1))[i]'(by simpa using il)=g:=by rw[List.getElem_map,(List.getElem?_eq_some_iff.1 hi).2];exact e
   have a2:(V.map (·.1))[j]'(by simpa using jl)=g:=by rw[List.getElem_map,(List.getElem?_eq_some_iff.1 hj).2]
   rcases Nat.lt_or_gt_of_ne hij with hlt|hlt
   ·exact hn j i (by simpa using jl) (by simpa using il) hlt (a2.trans a1.symm)
   ·exact hn i j (by simpa using il) (by simpa using jl) hlt (a1.trans a2.symm)
 ·rw[List.mem_iff_getElem?]at hx
  obtain⟨i,hi⟩:=hx
  rw[List.getElem?_set]at hi
  split at hi
  ·split at hi
   ·cases hi;exact hge
   ·cases hi
  ·exact h.new x (List.mem_of_getElem? hi)
 ·rw[hm]
  exact h.stb.grown hg fun q hq e=>hq.2 (by rw[←Option.some.inj e];exact List.mem_map.2 ⟨_,List.mem_of_getElem? hj,rfl⟩)
theorem set1_grown (w:World) (g i:Nat) (v:Value):w.grownBy (w.setCell ⟨g,i,none⟩ v) (some g):=⟨rfl,rfl,rfl,by simp[World.setCell],fun j _ hj=>Below.heap_setCell w ⟨g,i,none⟩ v j (fun e=>hj (by rw[e]))⟩
theorem En.set (h:En T P A c L w0 wi w s V Φ) {j g t:Nat} {cs:List Value} (hj:V[j]? =some (g,t,cs)) (i:Nat) (v:Value):En T P A c L w0 wi (w.setCell ⟨g,i,none⟩ v) s (V.set j (g,t,cs.set i v)) Φ:=
 h.put hj (set1_grown w g i v) ((h.get hj).set i v)
theorem En.imp (h:En T P A c L w0 wi w s V Φ) (hi:∀u,Φ u→Ψ u):En T P A c L w0 wi w s V Ψ:=⟨h.ps,h.low,h.chg,h.blk,h.new,h.nod,h.stb.imp hi⟩
theorem En.keep (h:En T P A c L w0 wi w s V Φ):Stb (wi.heap.size≤·) w Φ:=h.stb.weak fun q _ hq=>hq.1
theorem En.next (h:En T P A c L w0 wi w s V Φ) (hL:TkL L) (hk:s.hd.kind≠0):En T P A c L w0 wi (w.setCell ⟨P,1,none⟩ (.int .i64 (((L.length-s.r.length:Nat):Int)+1))) s.next V Φ:=h.call (h.ps.next hL hk) ((Chg.refl P w).set _ _)
theorem En.fail (h:En T P A c L w0 wi w s V Φ):En T P A c L w0 wi (w.setCell ⟨P,2,none⟩ (.bool true)) s.fail V Φ:=h.call h.ps.fail ((Chg.refl P w).set _ _)
end
end
section
open Lx (Tk)
theorem row_grown' (w:World) (g:Nat) (cs:Array Value):w.grownBy (w.setRow g cs) (some g):=
 ⟨rfl,rfl,rfl,by simp[World.setRow],fun i _ hi=>by
  unfold World.setRow
  simp only
  rw[Array.getElem?_modify,if_neg (fun e=>hi (by rw[e]))]⟩
theorem row_blk' {w:World} {g T:Nat} {old:List Value} (h:Blk w g T old) (cs:List Value):Blk (w.setRow g cs.toArray) g T cs:=by
 unfold Blk at h ⊢
 unfold World.setRow
 simp only
 rw[Array.getElem?_modify,if_pos rfl,h]
 rfl
theorem En.row {T P c:Nat} {A:Option Addr} {L:List Tk} {w0 wi w:World} {s:Ps} {V:List Vb} {Φ:World→Prop} (h:En T P A c L w0 wi w s V Φ) {j g t:Nat} {cs:List Value} (hj:V[j]? =some (g,t,cs)) (ds:List Value):En T P A c L w0 wi (w.setRow g ds.toArray) s (V.set j (g,t,ds)) Φ:=
 h.put hj (row_grown' w g ds.toArray) (row_blk' (h.get hj) ds)
section
variable {ops:Array Oper} {rest:List Oper} {o:Oper} {a:Act} {w:World} {Q:Exit→Act→World→Prop}
theorem ldE {x:Operand} (hgd:o.guard=none) (ho:o.op= .load 37 x) (g:Nat) (hx:a.eval x= .pointer (some ⟨g,0,none⟩)) {cs:List Value} (hg:Blk w g 37 cs) (hl:cs.length=8) (h:wpList Tryz.prog ops Q rest (a.put o.dst (.agg cs.toArray)) w):wpList Tryz.prog ops Q (o::rest) a w:=
 wpList_load_blk hgd 37 x ho g hx 37 cs _ hg Tryz.underlying37 rfl (by rw[hl];kernel_rfl) h
theorem stE {x y:Operand} (hgd:o.guard=none) (ho:o.op= .store 37 x y) (hd:o.dst=none) (g:Nat) (ds:List Value) (hx:a.eval x= .pointer (some ⟨g,0,none⟩)) (hy:a.eval y= .agg ds.toArray) {cs:List Value} (hg:Blk w g 37 cs) (hl:cs.length=8) (hm:ds.length=8) (h1:ds.toArray.all (·.oneCell')=true)
  (h:wpList Tryz.prog ops Q rest a (w.setRow g ds.toArray)):wpList Tryz.prog ops Q (o::rest) a w:=
 wpList_store_rowTo hgd 37 x y ho hd g ds.toArray hx hy 37 cs.toArray hg (by rw[List.size_toArray,hm];kernel_rfl) (by rw[List.size_toArray,List.size_toArray,hl,hm]) h1 h
end
section
variable {T P c:Nat} {A:Option Addr} {L:List Tk} {w0 wi w w':World} {s:Ps} {V:List Vb} {Φ:World→Prop}
theorem en_of {t:Nat} {cs:List Value} (hp:PsAt T P A c L w0 w s) (hw:w.alloc (.cells cs.toArray t)=w'):En T P A c L w0 w w' s [(w.heap.size,t,cs)] (fun _=>True):=hw ▸ (En.start hp).alloc t cs
theorem en_alloc {t:Nat} {cs:List Value} (h:En T P A c L w0 wi w s V Φ) (hw:w.alloc (.cells cs.toArray t)=w'):En T P A c L w0 wi w' s ((w.heap.size,t,cs)::V) Φ:=hw ▸ h.alloc t cs
end
section
variable {T P c:Nat} {A:Option Addr} {L:List Tk} {w0 wi w w':World} {s:Ps} {V:List Vb} {Φ:World→Prop}
theorem En.here (h:En T P A c L w0 wi w s V Φ):wi.heap.size≤w.heap.size∧w.heap.size∉V.map (·.1):=⟨h.size,fun hm=>by
 obtain⟨x,h1,h2⟩:=List.mem_map.1 hm
 have:=(h.blk x h1).lt
 have h2:x.1=w.heap.size:=h2
 omega⟩
theorem En.far (h:En T P A c L w0 wi w s V Φ):∀q,w.heap.size≤q→wi.heap.size≤q∧q∉V.map (·.1):=fun q hq=>⟨Nat.le_trans h.size hq,fun hm=>by
 obtain⟨x,h1,h2⟩:=List.mem_map.1 hm
 have:=(h.blk x h1).lt
 have h2:x.1=q:=h2
 omega⟩
theorem En.stay {Ψ:World→Prop} (h:En T P A c L w0 wi w s V Φ) (hx:Ext w w') (hs:Stb (fun q=>wi.heap.size≤q∧q∉V.map (·.1)) w' Ψ):En T P A c L w0 wi w' s V Ψ:= { h.ext hx with stb:=hs }
theorem En.op1 {a:Ex} {B:Option Addr} {k c' T':Nat} {o:Int} (h:En T P A c L w0 wi w s V Φ) (h1:∀u,Φ u→ExV u a B k c') (ho:I64 o) (hx:Ext (w.alloc (.cells (a.d.cells B k c').toArray T')) w'):En T P A c L w0 wi w' s V (fun u=>ExV u (opE o [a]) (some ⟨w.heap.size,0,none⟩) 1 1):=
 { h.ext (((Ext.refl w).alloc _).trans hx)with stb:=Stb.ext (exS_op1 ho h.here (h.stb.imp h1)) hx }
theorem En.op2 {a b:Ex} {B C:Option Addr} {k c' k2 c2 T':Nat} {o:Int} (h:En T P A c L w0 wi w s V Φ) (h1:∀u,Φ u→ExV u a B k c') (h2:∀u,Φ u→ExV u b C k2 c2) (ho:I64 o) (hx:Ext (w.alloc (.cells (a.d.cells B k c'++b.d.cells C k2 c2).toArray T')) w'):
  En T P A c L w0 wi w' s V (fun u=>ExV u (opE o [a,b]) (some ⟨w.heap.size,0,none⟩) 2 2):=
 { h.ext (((Ext.refl w).alloc _).trans hx)with stb:=Stb.ext (exS_op2 ho h.here (h.stb.imp h1) (h.stb.imp h2)) hx }
theorem En.op1' {a:Ex} {B:Option Addr} {k c' T':Nat} {o:Int} (h:En T P A c L w0 wi w s V Φ) (h1:∀u,Φ u→ExV u a B k c') (ho:I64 o) (hx:Ext (w.alloc (.cells (a.d.cells B k c').toArray T')) w'):En T P A c L w0 wi w' s V (fun u=>Φ u∧ExV u (opE o [a]) (some ⟨w.heap.size,0,none⟩) 1 1):=
 { h.op1 h1 ho hx with stb:=(Stb.ext h.stb (((Ext.refl w).alloc _).trans hx)).and (h.op1 h1 ho hx).stb }
theorem En.op2' {a b:Ex} {B C:Option Addr} {k c' k2 c2 T':Nat} {o:Int} (h:En T P A c L w0 wi w s V Φ) (h1:∀u,Φ u→ExV u a B k c') (h2:∀u,Φ u→ExV u b C k2 c2) (ho:I64 o) (hx:Ext (w.alloc (.cells (a.d.cells B k c'++b.d.cells C k2 c2).toArray T')) w'):
  En T P A c L w0 wi w' s V (fun u=>Φ u∧ExV u (opE o [a,b]) (some ⟨w.heap.size,0,none⟩) 2 2):=
 { h.op2 h1 h2 ho hx with stb:=(Stb.ext h.stb (((Ext.refl w).alloc _).trans hx)).and (h.op2 h1 h2 ho hx).stb }
theorem En.stc (h:En T P A c L w0 wi w s V Φ) {j g t:Nat} {cs:List Value} (hj:V[j]? =some (g,t,cs)) (ds:List Value) (hl:cs.length=ds.length):En T P A c L w0 wi (sts w g 0 ds) s (V.set j (g,t,ds)) Φ:=h.put hj (sts_grown g ds w 0) (sts_blk (h.get hj) ds hl)
end
theorem exv_lit {u:World} {k i:Int} {t:ByteArray} (hk:I64 k) (hi:I64 i) (ht:t.size≤9223372036854775807):ExV u (litE k i t) none 0 0:=(exS_lit (fun _=>True) u hk hi ht).now
theorem cells8 {w:World} {g t:Nat} {v0 v1 v2 v3 v4 v5 v6 v7:Value} (h:Blk w g t [v0,v1,v2,v3,v4,v5,v6,v7]):w.cell? ⟨g,0,none⟩=some v0∧w.cell? ⟨g,1,none⟩=some v1∧w.cell? ⟨g,2,none⟩=some v2∧w.cell? ⟨g,3,none⟩=some v3∧w.cell? ⟨g,4,none⟩=some v4∧w.cell? ⟨g,5,none⟩=some v5∧w.cell? ⟨g,6,none⟩=some v6∧w.cell? ⟨g,7,none⟩=some v7:=
 ⟨h.cell_some rfl,h.cell_some rfl,h.cell_some rfl,h.cell_some rfl,h.cell_some rfl,h.cell_some rfl,h.cell_some rfl,h.cell_some rfl⟩
theorem froz8 {w:World} {g t:Nat} {cs:List Value} (h:Blk w g t cs):w.frozen? ⟨g,0,none⟩=false∧w.frozen? ⟨g,1,none⟩=false∧w.frozen? ⟨g,2,none⟩=false∧w.frozen? ⟨g,3,none⟩=false∧w.frozen? ⟨g,4,none⟩=false∧w.frozen? ⟨g,5,none⟩=false∧w.frozen? ⟨g,6,none⟩=false∧w.frozen? ⟨g,7,none⟩=false:=
 ⟨h.frozen 0,h.frozen 1,h.frozen 2,h.frozen 3,h.frozen 4,h.frozen 5,h.frozen 6,h.frozen 7⟩
def RX (P:Nat) (A:Option Addr) (c:Nat) (L:List Tk) (w0:World) (F:Nat) (x:Array Value) (K:Nat) (m:M Ex):Prop:=
 ∀(w:World) (s:Ps),PsAt 77 P A c L w0 w s→s.r.length<K→Calls Tryz.prog F x w fun e w'=> ∃A1 k1 c1,e= .returned ((m s).1.d.val A1 k1 c1)∧PsAt 77 P A c L w0 w' (m s).2∧Chg P w w'∧Stb (w.heap.size≤·) w' (fun u=>ExV u (m s).1 A1 k1 c1)
theorem RX.at_ {P:Nat} {A:Option Addr} {c:Nat} {L:List Tk} {w0 w:World} {F:Nat} {x:Array Value} {K:Nat} {m:M Ex} {s:Ps} (h:RX P A c L w0 F x K m) (hp:PsAt 77 P A c L w0 w s) (hn:s.r.length<K):
  ∃(op ix vk vi:Int) (tb nm vt:ByteArray) (ks:List Ex) (s1:Ps),m s=(.mk ⟨op,tb,nm,ix,vk,vi,vt⟩ ks,s1)∧Calls Tryz.prog F x w fun e w'=> ∃A1 k1 c1,e= .returned (.agg #[.int .i64 op,.string tb,.string nm,.int .i64 ix,.int .i64 vk,.int .i64 vi,.string vt,.slice A1 k1 c1])∧PsAt 77 P A c L w0 w' s1∧Chg P w w'∧
   Stb (w.heap.size≤·) w' (fun u=>ExV u (.mk ⟨op,tb,nm,ix,vk,vi,vt⟩ ks) A1 k1 c1):=by
 have H:=h w s hp hn
 generalize m s=R at*
 obtain⟨⟨⟨op,tb,nm,ix,vk,vi,vt⟩,ks⟩,s1⟩:=R
 exact⟨op,ix,vk,vi,tb,nm,vt,ks,s1,rfl,H⟩
end
section
open Lx (Tk)
section
variable {P c:Nat} {A:Option Addr} {L:List Tk} {w0 w:World} {s:Ps}
theorem name_tok (hp:PsAt 68 P A c L w0 w s) (hL:TkL L):
  Calls Tryz.prog 55 #[.pointer (some ⟨P,0,none⟩)] w (Ran 68 P A c L w0 w (takP 1 s).2 fun v _=>v= .string (takP 1 s).1):=by
 have HT:=hid (take_any hp hL 1 (by decide))
 clear hp
 go_enter Tryz.func55,Tryz.ntmps55
 go_wp2_with fail
 refine HT.out.mono ?_
 rintro e w1 ⟨v,rfl,h1,h2,rfl⟩
 go_wp2_with fail
 go_ret
 exact⟨_,rfl,h1,h2,rfl⟩
theorem number_tok (hp:PsAt 68 P A c L w0 w s) (hL:TkL L) (hE:Er w0):
  Calls Tryz.prog 178 #[.pointer (some ⟨P,0,none⟩)] w (Ran 68 P A c L w0 w (numP s).2 fun v _=>v= .int .i64 (numP s).1):=by
 have HT:=hid (take_any hp hL 3 (by decide))
 have HD:Hid (∀W:World,Ext w0 W→Calls Tryz.prog 234 #[.string (takP 3 s).1,.int .i64 10,.int .i64 64] W fun e w'=> ∃x,e= .returned (.tuple #[.int .i64 (numP s).1,x])∧Ext W w'):=by
  intro W hW
  unfold numP takP
  cases hs:hasK 3 s
  ·exact no_int W (er_ext hE hW)
  ·have hk3:s.hd.kind=3:=by simp[hasK]at hs;exact hs.2
   exact(tok_int hL hp.mem hk3 W).mono fun e w' h=>⟨_,h⟩
 have HN:Hid ((numP s).2=(takP 3 s).2):=rfl
 clear hp
 generalize (takP 3 s).1=X at*
 generalize (numP s).1=V at*
 go_enter Tryz.func178,Tryz.ntmps178
 go_wp2_with fail
 refine HT.out.mono ?_
 rintro e w1 ⟨v,rfl,h1,h2,rfl⟩
 go_wp2_with fail
 refine(HD.out _ h1.base).mono ?_
 rintro e w2 ⟨x,rfl,hx2⟩
 have H1:=hid (h1.ext hx2)
 have H2:=hid (h2.ext hx2)
 clear h1 h2 hx2
 go_wp2_with fail
 go_ret
 exact⟨_,rfl,by rw[HN.out];exact H1.out,H2.out,rfl⟩
theorem end_any (hp:PsAt 68 P A c L w0 w s) (hL:TkL L):
  Calls Tryz.prog 30 #[.pointer (some ⟨P,0,none⟩)] w (Ran 68 P A c L w0 w (endP s) fun _ _=>True):=by
 have HP:=hid hp
 have HI:=hid (has_any hp hL 0)
 have HT:Hid (endP s=if hasK 0 s=true then s else s.fail):=rfl
 clear hp
 go_enter Tryz.func30,Tryz.ntmps30
 go_wp2_with fail
 refine HI.out.mono ?_
 rintro e w1 ⟨rfl,hx1⟩
 have HP1:=hid (HP.out.ext hx1)
 have HX1:=hid hx1
 clear hx1 HI
 cases hs:hasK 0 s
 ·have f2:=HP1.out.blk.frozen 2
  have p2:=HP1.out.blk.cell_some (i:=2) rfl
  have HP2:=hid HP1.out.fail
  rw[hs]at HT
  go_wp2_with fail
  exact bodyPost_end (v:= .tuple #[]) (by simp[results,Tryz.results30,go_sem]) rfl ⟨_,rfl,by rw[HT.out];exact HP2.out,(Chg.of HX1.out).set _ _,trivial⟩
 ·rw[hs]at HT
  go_wp2_with fail
  exact bodyPost_end (v:= .tuple #[]) (by simp[results,Tryz.results30,go_sem]) rfl ⟨_,rfl,by rw[HT.out];exact HP1.out,Chg.of HX1.out,trivial⟩
theorem op_any (o:Int) (B:Option Addr) (k c':Nat) (W:World):
  Calls Tryz.prog 105 #[.int .i64 o,.slice B k c'] W fun e w'=>e= .returned (.agg #[.int .i64 o,.string ⟨#[]⟩,.string ⟨#[]⟩,.int .i64 0,.int .i64 0,.int .i64 0,.string ⟨#[]⟩,.slice B k c'])∧Ext W w':=by
 have HB:=hid (Blk.of_new W 37 (eC o ⟨#[]⟩ ⟨#[]⟩ 0 0 0 ⟨#[]⟩ B k c'))
 go_enter Tryz.func105,Tryz.ntmps105
 go_wp2_with fail
 obtain⟨q0,q1,q2,q3,q4,q5,q6,q7,-⟩:=cls HB.out
 exact bodyPost_ret (by simp[results,Tryz.results105,go_sem,q0,q1,q2,q3,q4,q5,q6,q7]) rfl ⟨rfl,(Ext.refl W).alloc _⟩
theorem lit_val (k i:Int) (t:ByteArray) (W:World):
  Calls Tryz.prog 260 #[.agg #[.int .i64 k,.int .i64 i,.string t]] W fun e w'=>e= .returned (.agg #[.int .i64 1,.string ⟨#[]⟩,.string ⟨#[]⟩,.int .i64 0,.int .i64 k,.int .i64 i,.string t,.slice none 0 0])∧Ext W w':=by
 have hx0:=(Ext.refl W).alloc (.cells #[.int .i64 k,.int .i64 i,.string t] 35)
 have HB:=hid (Blk.of_new (W.alloc (.cells #[.int .i64 k,.int .i64 i,.string t] 35)) 37 (eC 1 ⟨#[]⟩ ⟨#[]⟩ 0 k i t none 0 0))
 have HX:=hid (hx0.alloc (.cells #[.int .i64 1,.string ⟨#[]⟩,.string ⟨#[]⟩,.int .i64 0,.int .i64 k,.int .i64 i,.string t,.slice none 0 0] 37))
 clear hx0
 go_enter Tryz.func260,Tryz.ntmps260
 go_wp2_with fail
 obtain⟨q0,q1,q2,q3,q4,q5,q6,q7,-⟩:=cls HB.out
 exact bodyPost_ret (by simp[results,Tryz.results260,go_sem,q0,q1,q2,q3,q4,q5,q6,q7]) rfl ⟨rfl,HX.out⟩
theorem column_tok (hp:PsAt 68 P A c L w0 w s) (hL:TkL L):
  Calls Tryz.prog 106 #[.pointer (some ⟨P,0,none⟩)] w (Ran 68 P A c L w0 w (colP s).2 fun v w'=>ExG w.heap.size w' (colP s).1 v):=by
 have hx0:=(Ext.refl w).alloc (.cells #[.int .i64 0,.string ⟨#[]⟩,.string ⟨#[]⟩,.int .i64 0,.int .i64 0,.int .i64 0,.string ⟨#[]⟩,.slice none 0 0] 37)
 have HT:=hid (name_tok (hp.ext hx0) hL)
 have HS1:=hid (hp.tak_size hL 1)
 have HPl:=hid hp.lt
 have HC:Hid (colP s=if isS yDot (takP 1 s).2=true then (colE (takP 1 s).1 (takP 1 (takP 1 s).2.next).1,(takP 1 (takP 1 s).2.next).2)else (colE ⟨#[]⟩ (takP 1 s).1,(takP 1 s).2)):=rfl
 have HX0:=hid hx0
 have HR:=hid (Blk.of_new w 37 eZ)
 clear hp hx0
 go_enter Tryz.func106,Tryz.ntmps106
 have HP1l:Hid (w.heap.size≤(w.alloc (.cells #[.int .i64 0,.string ⟨#[]⟩,.string ⟨#[]⟩,.int .i64 0,.int .i64 0,.int .i64 0,.string ⟨#[]⟩,.slice none 0 0] 37)).heap.size):=HX0.out.size
 go_upto_region 1 with fail
 generalize w.alloc (.cells #[.int .i64 0,.string ⟨#[]⟩,.string ⟨#[]⟩,.int .i64 0,.int .i64 0,.int .i64 0,.string ⟨#[]⟩,.slice none 0 0] 37)=wa at*
 obtain⟨g0,hg0⟩:∃g,w.heap.size=g:=⟨_,rfl⟩
 have HG0:=hid hg0
 rw[hg0]at HR HPl ⊢
 clear hg0
 go_upto_region 2 with (go_at_call 55;(with_reducible refine HT.out.mono ?_);rintro _ w1 ⟨v,rfl,h1,h2,rfl⟩;have hsz:=h2.size)
 have HR1:=hid (h2.blk HR.out (by have:=HPl.out;omega))
 obtain⟨X,hX⟩:∃X,(takP 1 s).1=X:=⟨_,rfl⟩
 obtain⟨s1,hs1⟩:∃s1,(takP 1 s).2=s1:=⟨_,rfl⟩
 rw[hX,hs1]at HC
 rw[hX]at HS1
 rw[hs1]at h1
 rw[hX]
 have hx1:=(Ext.refl w1).alloc (.cells #[.int .i64 2,.string ⟨#[]⟩,.string X,.int .i64 0,.int .i64 0,.int .i64 0,.string ⟨#[]⟩,.slice none 0 0] 37)
 have HB1:=hid (Blk.of_new w1 37 (eC 2 ⟨#[]⟩ X 0 0 0 ⟨#[]⟩ none 0 0))
 have HR2:=hid (HR1.out.ext hx1)
 have HS2:=hid (h1.ext hx1)
 have HCh:=hid ((Chg.of (P:=P) HX0.out).trans (h2.ext hx1))
 have HA:=hid (accept_any HS2.out hL yDot)
 have HG1:Hid (g0<w1.heap.size∧P<g0):=⟨HR1.out.lt,HPl.out⟩
 clear hX hs1 h1 h2 hx1 hsz HR1 HR HT
 generalize w1.alloc (.cells #[.int .i64 2,.string ⟨#[]⟩,.string X,.int .i64 0,.int .i64 0,.int .i64 0,.string ⟨#[]⟩,.slice none 0 0] 37)=w2 at*
 generalize w1.heap.size=g1 at*
 go_wp2_with fail
 refine HA.out.mono ?_
 rintro e w3 ⟨v,rfl,h3,h4,rfl⟩
 have HS3:=hid h3
 have HCh3:=hid (HCh.out.trans h4)
 have HR3:=hid (h4.blk HR2.out (by have:=HG1.out;omega))
 have HB3:=hid (h4.blk HB1.out (by have:=HG1.out;omega))
 clear h3 h4 HA HS2 HB1 HR2 HCh
 cases hs:isS yDot s1
 ·have e:(accP yDot s1).2=s1:=by simp[accP,hs]
  rw[e]at HS3
  obtain⟨b0,b1,b2,b3,b4,b5,b6,b7,-⟩:=cls HB3.out
  obtain⟨z0,z1,z2,z3,z4,z5,z6,z7,-⟩:=cls HR3.out
  obtain⟨y0,y1,y2,y3,y4,y5,y6,y7,-⟩:=frz HR3.out
  have hz:=sts_blk HR3.out (eC 2 ⟨#[]⟩ X 0 0 0 ⟨#[]⟩ none 0 0) rfl
  have HGr:=hid (sts_grown g0 (eC 2 ⟨#[]⟩ X 0 0 0 ⟨#[]⟩ none 0 0) w3 0)
  simp only[sts]at hz
  have HZ:=hid hz
  clear hz
  go_wp2_with fail
  obtain⟨q0,q1,q2,q3,q4,q5,q6,q7,-⟩:=cls HZ.out
  exact bodyPost_ret (v:= .agg #[.int .i64 2,.string ⟨#[]⟩,.string X,.int .i64 0,.int .i64 0,.int .i64 0,.string ⟨#[]⟩,.slice none 0 0]) (by simp[results,Tryz.results106,go_sem,q0,q1,q2,q3,q4,q5,q6,q7]) rfl ⟨_,rfl,by rw[HC.out,hs];exact HS3.out.grown HGr.out (fun q hq=>by have:=HG1.out;have:=Option.some.inj hq;omega),HCh3.out.own HGr.out (fun q hq=>by have:=Option.some.inj hq;rw[HG0.out];omega),by rw[HC.out,hs];exact exG_col _ _ (Nat.zero_le _) (by have:=HS1.out;omega)⟩
 ·have e:(accP yDot s1).2=s1.next:=by simp[accP,hs]
  rw[e]at HS3
  have HT2:=hid (name_tok (HS3.out.ext (Ext.refl w3).drew) hL)
  have HT3:=hid (name_tok HS3.out hL)
  have HS4:=hid (HS3.out.tak_size hL 1)
  have b2:=HB3.out.cell_some (i:=2) rfl
  generalize (takP 1 s1.next).1=Y at*
  generalize (takP 1 s1.next).2=s2 at*
  go_upto_region 3 with fail
  go_region_with (go_at_call 55;(with_reducible refine HT2.out.mono ?_);rintro _ w4 ⟨v,rfl,h5,h6,rfl⟩;replace h6:Chg P w3 w4:=(Chg.of (Ext.refl w3).drew).trans h6;have HB4:=h6.blk HB3.out (by have:=HG1.out;omega);obtain⟨-,d1,d2,-⟩:=cls HB4;have k1:=HB4.frozen 1;have k2:=HB4.frozen 2)
  all_goals
   have HB5:=hid ((HB4.set 1 (.string X)).set 2 (.string Y))
   have hgr:w4.grownBy ((w4.setCell ⟨g1,1,none⟩ (.string X)).setCell ⟨g1,2,none⟩ (.string Y)) (some g1):=sts_grown g1 [.string X,.string Y] w4 1
   have HR5:=hid ((h6.blk HR3.out (by have:=HG1.out;omega)).grown hgr (fun e=>by have:=Option.some.inj e;have:=HG1.out;omega))
   have HS5:=hid (h5.grown hgr (fun q hq=>by have:=Option.some.inj hq;have:=HG1.out;omega))
   have HCh5:=hid ((HCh3.out.trans h6).own hgr (fun q hq=>by have:=Option.some.inj hq;have:=HG1.out;rw[HG0.out];omega))
   clear h5 h6 HB4 d1 d2 k1 k2 hgr b2
   generalize (w4.setCell ⟨g1,1,none⟩ (.string X)).setCell ⟨g1,2,none⟩ (.string Y)=w5 at*
   obtain⟨b0,b1,b2,b3,b4,b5,b6,b7,-⟩:=cls HB5.out
   obtain⟨z0,z1,z2,z3,z4,z5,z6,z7,-⟩:=cls HR5.out
   obtain⟨y0,y1,y2,y3,y4,y5,y6,y7,-⟩:=frz HR5.out
   have hz:=sts_blk HR5.out (eC 2 X Y 0 0 0 ⟨#[]⟩ none 0 0) rfl
   have HGr:=hid (sts_grown g0 (eC 2 X Y 0 0 0 ⟨#[]⟩ none 0 0) w5 0)
   simp only[sts]at hz
   have HZ:=hid hz
   clear hz
   go_wp2_with fail
   obtain⟨q0,q1,q2,q3,q4,q5,q6,q7,-⟩:=cls HZ.out
   exact bodyPost_ret (v:= .agg #[.int .i64 2,.string X,.string Y,.int .i64 0,.int .i64 0,.int .i64 0,.string ⟨#[]⟩,.slice none 0 0]) (by simp[results,Tryz.results106,go_sem,q0,q1,q2,q3,q4,q5,q6,q7]) rfl ⟨_,rfl,by rw[HC.out,hs];exact HS5.out.grown HGr.out (fun q hq=>by have:=HG1.out;have:=Option.some.inj hq;omega),HCh5.out.own HGr.out (fun q hq=>by have:=Option.some.inj hq;rw[HG0.out];omega),by rw[HC.out,hs];exact exG_col _ _ (by have:=HS1.out;omega) (by have:=HS4.out;omega)⟩
end
end
end Go.Proofs.YtjigcpfjhfoheaaGreatDoor
