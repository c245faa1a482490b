/- The parser in memory: its own block, its tokens; what else changes; What a call has built stays: facts that hold in every world that keeps some blocks; expressions built anew; Rows that are read element by element; Walks over the . -/
import Derived.Test.YtjigcpfjhfoheaaGreatDoorYad
import Derived.Test.YtjigcpfjhfoheaaGreatDoorYaa
import Derived.Deep.Cut
import Derived.Deep.RegionLaw
import Derived.Deep.RegionWith
import Derived.Deep.LoopGhost
import Derived.Deep.DeepMust
import Derived.Deep.RegionHeld3
import Derived.Deep.RegionHeldLaw
import Derived.Lib.ParseIntBTie
import Derived.Test.YtjigcpfjhfoheaaGreatDoorYae
import Derived.Laws.Rows
import Derived.Great.BuildSlice
namespace Go.Proofs.YtjigcpfjhfoheaaGreatDoor
open Go.RowKit
set_option maxHeartbeats 1000000
set_option maxRecDepth 100000
set_option linter.unusedVariables false
set_option linter.unusedSimpArgs false
section
open Lx (Tk)
def Chg (P:Nat) (w w':World):Prop:=w.grownBy w' (some P)
theorem ext_grown {w w':World} (f:Ext w w') (b:Option Nat):w.grownBy w' b:=⟨Below.os f,Below.tape f,Below.output f,Below.size f,fun i hi _=>Below.block f i hi⟩
theorem Chg.refl (P:Nat) (w:World):Chg P w w:=ext_grown (Ext.refl w) _
theorem Chg.of {P:Nat} {w w':World} (b:Ext w w'):Chg P w w':=ext_grown b _
theorem Chg.trans {P:Nat} {a b c:World} (h:Chg P a b) (k:Chg P b c):Chg P a c:=World.grownBy.trans h k
theorem Chg.ext {P:Nat} {a b c:World} (h:Chg P a b) (k:Ext b c):Chg P a c:=h.trans (Chg.of k)
theorem Chg.alloc {P:Nat} {a b:World} (h:Chg P a b) (o:Obj):Chg P a (b.alloc o):=h.ext ((Ext.refl b).alloc o)
theorem Chg.set {P:Nat} {a b:World} (h:Chg P a b) (j:Nat) (u:Value):Chg P a (b.setCell ⟨P,j,none⟩ u):=
 h.trans ⟨rfl,rfl,rfl,by simp[World.setCell],fun i _ hi=>Below.heap_setCell b ⟨P,j,none⟩ u i (fun e=>hi (by rw[e]))⟩
theorem Chg.size {P:Nat} {a b:World} (h:Chg P a b):a.heap.size≤b.heap.size:=World.grownBy.size h
theorem Chg.keep {P:Nat} {a b:World} (h:Chg P a b) {p:Addr} {v:Value} (g:a.cell? p=some v) (f:p.block≠P):b.cell? p=some v:=
 World.grownBy.cell h g fun e=>f (Option.some.inj e)
theorem Chg.blk {P:Nat} {a b:World} (h:Chg P a b) {g t:Nat} {cs:List Value} (i:Blk a g t cs) (f:g≠P):Blk b g t cs:=i.grown h fun e=>f (Option.some.inj e)
structure TkL (L:List Tk):Prop where
 len:L.length≤20000
 last:∀(i:Nat) (a:Tk),L[i]? =some a→(a.kind=0↔i+1=L.length)
 kd:∀a∈L,a.kind≤5
 txt:∀a∈L,a.text.length≤20000
 pos:∀a∈L,a.pos≤20000
 num:∀a∈L,a.kind=3→a.text≠[]∧(∀c∈a.text,48≤c.toNat∧c.toNat≤57)∧eh (tkB a)≤2147483648∧(eh (tkB a)=0↔a.text= [48])
structure PsAt (T P:Nat) (A:Option Addr) (c:Nat) (L:List Tk) (w0 w:World) (s:Ps):Prop where
 base:Ext w0 w
 low:w0.heap.size≤P
 blk:Blk w P T [.slice A L.length c,.int .i64 ((L.length-s.r.length:Nat):Int),.bool s.bad]
 suf:s.r=L.drop (L.length-s.r.length)
 ne:0<s.r.length
 tks:∀(i:Nat) (a:Tk),L[i]? =some a→∃b off,A=some ⟨b,off,none⟩∧b<P∧w.cell? ⟨b,off+i*3,none⟩=some (.int .i64 a.kind)∧w.cell? ⟨b,off+i*3+1,none⟩=some (.string (tkB a))∧
  w.cell? ⟨b,off+i*3+2,none⟩=some (.int .i64 a.pos)
section
variable {T P c:Nat} {A:Option Addr} {L:List Tk} {w0 w w':World} {s:Ps}
theorem PsAt.grown (h:PsAt T P A c L w0 w s) {b:Option Nat} (f:w.grownBy w' b) (g:∀q,b=some q→P<q):PsAt T P A c L w0 w' s:=
 ⟨h.base.grown f (fun q z=>by have:=g q z;have:=h.low;omega),h.low,h.blk.grown f (fun e=>by have:=g P e.symm;omega),h.suf,h.ne,fun i a r=>by
  obtain⟨j,k,t,p,u,y,x⟩:=h.tks i a r
  have ne:some j≠b:=fun e=>by have:=g j e.symm;omega
  exact⟨j,k,t,p,f.cell u ne,f.cell y ne,f.cell x ne⟩⟩
theorem PsAt.ext (h:PsAt T P A c L w0 w s) (b:Ext w w'):PsAt T P A c L w0 w' s:=h.grown (ext_grown b none) (fun _ e=>by cases e)
theorem PsAt.lt (h:PsAt T P A c L w0 w s):P<w.heap.size:=h.blk.lt
theorem PsAt.le (h:PsAt T P A c L w0 w s):s.r.length≤L.length:=by
 have:=congrArg List.length h.suf
 rw[List.length_drop]at this
 omega
theorem PsAt.lti (h:PsAt T P A c L w0 w s):L.length-s.r.length<L.length:=by
 have:=h.le
 have:=h.ne
 omega
theorem PsAt.head (h:PsAt T P A c L w0 w s):L[L.length-s.r.length]? =some s.hd:=by
 have g:=h.ne
 have b:=h.suf
 generalize L.length-s.r.length=i at b
 unfold Ps.hd
 rw[b,List.headD_eq_head?_getD,List.head?_drop]
 cases f:L[i]? with
 |some a=>rfl
 |none=>
  rw[List.getElem?_eq_none_iff]at f
  rw[b,List.length_drop]at g
  omega
theorem PsAt.mem (h:PsAt T P A c L w0 w s):s.hd∈L:=List.mem_of_getElem? h.head
theorem PsAt.cells (h:PsAt T P A c L w0 w s):∃b f,A=some ⟨b,f,none⟩∧b<P∧w.cell? ⟨b,f+(L.length-s.r.length)*3,none⟩=some (.int .i64 s.hd.kind)∧w.cell? ⟨b,f+(L.length-s.r.length)*3+1,none⟩=some (.string (tkB s.hd))∧
  w.cell? ⟨b,f+(L.length-s.r.length)*3+2,none⟩=some (.int .i64 s.hd.pos):=h.tks _ _ h.head
theorem PsAt.ne_of (h:PsAt T P A c L w0 w s) (f:TkL L) (b:s.hd.kind≠0):1<s.r.length:=by
 have g:¬(L.length-s.r.length+1=L.length):=fun e=>b ((f.last _ _ h.head).2 e)
 have:=h.le
 have:=h.ne
 omega
theorem PsAt.next (h:PsAt T P A c L w0 w s) (t:TkL L) (x:s.hd.kind≠0):PsAt T P A c L w0 (w.setCell ⟨P,1,none⟩ (.int .i64 (((L.length-s.r.length:Nat):Int)+1))) s.next:=by
 have p:=h.ne_of t x
 have j:=h.le
 have k:s.next.r.length=s.r.length-1:=by simp[Ps.next]
 refine⟨h.base.setCell h.low _,h.low,?_,?_,by omega,fun i a u=>?_⟩
 ·have:=h.blk.set 1 (.int .i64 (((L.length-s.r.length:Nat):Int)+1))
  rw[k]
  have e:((L.length- (s.r.length-1):Nat):Int)=((L.length-s.r.length:Nat):Int)+1:=by omega
  rw[e]
  exact this
 ·rw[k]
  show s.r.tail=_
  rw[show L.length- (s.r.length-1)=L.length-s.r.length+1 by omega,←List.tail_drop,←h.suf]
 ·obtain⟨q,g,p,j,y,B,z⟩:=h.tks i a u
  have f:=(Chg.refl P w).set 1 (.int .i64 (((L.length-s.r.length:Nat):Int)+1))
  have b:q≠P:=by omega
  exact⟨q,g,p,j,f.keep y b,f.keep B b,f.keep z b⟩
theorem PsAt.fail (h:PsAt T P A c L w0 w s):PsAt T P A c L w0 (w.setCell ⟨P,2,none⟩ (.bool true)) s.fail:=
 ⟨h.base.setCell h.low _,h.low,h.blk.set 2 (.bool true),h.suf,h.ne,fun i a p=>by
  obtain⟨j,g,q,k,r,u,t⟩:=h.tks i a p
  have f:=(Chg.refl P w).set 2 (.bool true)
  have b:j≠P:=by omega
  exact⟨j,g,q,k,f.keep r b,f.keep u b,f.keep t b⟩⟩
end
def Ran (T P:Nat) (A:Option Addr) (c:Nat) (L:List Tk) (w0 w:World) (s':Ps) (Q:Value→World→Prop):Ending→World→Prop:=fun e w'=>
 ∃v,e= .returned v∧PsAt T P A c L w0 w' s'∧Chg P w w'∧Q v w'
end
section
open Lx (Tk)
def Stb (S:Nat→Prop) (w:World) (Φ:World→Prop):Prop:=∀w':World,w.heap.size≤w'.heap.size→(∀q,q<w.heap.size→S q→w'.heap[q]? =w.heap[q]?)→Φ w'
section
variable {S S':Nat→Prop} {w w':World} {Φ Ψ:World→Prop}
theorem Stb.now (h:Stb S w Φ):Φ w:=h w (Nat.le_refl _) fun _ _ _=>rfl
theorem Stb.step (h:Stb S w Φ) (hs:w.heap.size≤w'.heap.size) (i:∀q,q<w.heap.size→S q→w'.heap[q]? =w.heap[q]?):Stb S w' Φ:=fun k j g=>
 h k (Nat.le_trans hs j) fun q f b=> (g q (Nat.lt_of_lt_of_le f hs) b).trans (i q f b)
theorem Stb.grown (h:Stb S w Φ) {b:Option Nat} (f:w.grownBy w' b) (g:∀q,S q→b≠some q):Stb S w' Φ:=
 h.step (World.grownBy.size f) fun q i hs=>World.grownBy.block f q i fun e=>g q hs e.symm
theorem Stb.ext (h:Stb S w Φ) (b:Ext w w'):Stb S w' Φ:=h.step b.size fun q f _=>Below.block b q f
theorem Stb.weak (h:Stb S w Φ) (hs:∀q,q<w.heap.size→S q→S' q):Stb S' w Φ:=fun j i g=>h j i fun q b f=>g q b (hs q b f)
theorem Stb.chg {P n:Nat} (h:Stb (n≤·) w Φ) (b:Chg P w w') (f:P<n):Stb (n≤·) w' Φ:=h.grown b fun q g e=>by have:=Option.some.inj e;omega
theorem Stb.imp (h:Stb S w Φ) (hi:∀b,Φ b→Ψ b):Stb S w Ψ:=fun b g f=>hi b (h b g f)
theorem Stb.and (h:Stb S w Φ) (k:Stb S w Ψ):Stb S w (fun b=>Φ b∧Ψ b):=fun b g f=>⟨h b g f,k b g f⟩
theorem Stb.of {P:Prop} (h:P):Stb S w (fun _=>P):=fun _ _ _=>h
end
theorem Stb.cell {S:Nat→Prop} {w:World} {p:Addr} {v:Value} (h:w.cell? p=some v) (f:S p.block):Stb S w (fun b=>b.cell? p=some v):=fun b _ g=>
 (World.cell?_of_block (g p.block (World.block_lt_of_cell? w p h) f)).trans h
theorem Stb.blk {S:Nat→Prop} {w:World} {g T:Nat} {cs:List Value} (h:Blk w g T cs) (f:S g):Stb S w (fun b=>Blk b g T cs):=fun b _ i=> (i g h.lt f).trans h
def ExG (n:Nat) (w:World) (e:Ex) (v:Value):Prop:=∃A k c,v=e.d.val A k c∧Stb (n≤·) w (fun w'=>ExV w' e A k c)
section
variable {n m P:Nat} {w w':World} {e:Ex} {v:Value}
theorem ExG.chg (h:ExG n w e v) (i:Chg P w w') (b:P<n):ExG n w' e v:=by
 obtain⟨A,k,c,g,f⟩:=h
 exact⟨A,k,c,g,f.chg i b⟩
theorem ExG.ext (h:ExG n w e v) (g:Ext w w'):ExG n w' e v:=by
 obtain⟨A,k,c,f,b⟩:=h
 exact⟨A,k,c,f,b.ext g⟩
theorem ExG.mono (h:ExG n w e v) (f:m≤n):ExG m w e v:=by
 obtain⟨A,k,c,g,b⟩:=h
 exact⟨A,k,c,g,b.weak fun q _ i=>Nat.le_trans f i⟩
end
theorem bG:I64 0:=by unfold I64;omega
theorem i64_1:I64 1:=by unfold I64;omega
theorem i64_2:I64 2:=by unfold I64;omega
theorem ez {o:Int} (b:I64 o):(⟨o,⟨#[]⟩,⟨#[]⟩,0,0,0,⟨#[]⟩⟩:Nd).fit:=⟨b,bG,bG,bG,by show 0≤9223372036854775807;omega,by show 0≤9223372036854775807;omega,by show 0≤9223372036854775807;omega⟩
theorem mI (n:Nat) (w:World) {d:Nd} (b:d.fit):ExG n w (.mk d []) (d.val none 0 0):=
 ⟨none,0,0,rfl,fun w' _ _=>⟨rfl,by omega,b,by unfold KidsAt Ex.ks;trivial⟩⟩
theorem exG_col (n:Nat) (w:World) {t m:ByteArray} (b:t.size≤9223372036854775807) (f:m.size≤9223372036854775807):ExG n w (colE t m) (.agg #[.int .i64 2,.string t,.string m,.int .i64 0,.int .i64 0,.int .i64 0,.string ⟨#[]⟩,.slice none 0 0]):=
 mI n w (d:=⟨2,t,m,0,0,0,⟨#[]⟩⟩) ⟨i64_2,bG,bG,bG,b,f,by show 0≤9223372036854775807;omega⟩
theorem exG_zero (n:Nat) (w:World):ExG n w exZ (.agg #[.int .i64 0,.string ⟨#[]⟩,.string ⟨#[]⟩,.int .i64 0,.int .i64 0,.int .i64 0,.string ⟨#[]⟩,.slice none 0 0]):=
 mI n w (d:=ndZ) (ez (o:=0) bG)
def exCs (l:List (Ex×Option Addr×Nat×Nat)):List Value:=l.flatMap fun x=>x.1.d.cells x.2.1 x.2.2.1 x.2.2.2
theorem dQ (x:Ex×Option Addr×Nat×Nat) (l:List (Ex×Option Addr×Nat×Nat)):exCs (x::l)=x.1.d.cells x.2.1 x.2.2.1 x.2.2.2++exCs l:=by simp[exCs]
theorem exCs_get (l:List (Ex×Option Addr×Nat×Nat)):∀(i j:Nat) (x:Ex×Option Addr×Nat×Nat),l[i]? =some x→j<8→(exCs l)[i*8+j]? =(x.1.d.cells x.2.1 x.2.2.1 x.2.2.2)[j]? :=by
 induction l with
 |nil=>intro i j x h;simp at h
 |cons y l ih=>
  intro i j x h b
  rw[dQ]
  have f:(y.1.d.cells y.2.1 y.2.2.1 y.2.2.2).length=8:=rfl
  cases i with
  |zero=>
   simp at h
   subst h
   rw[List.getElem?_append_left (by omega)]
   simp
  |succ i=>
   rw[List.getElem?_append_right (by omega),f,show(i+1)*8+j-8=i*8+j by omega]
   exact ih i j x (by simpa using h) b
theorem jP {w:World} {g T:Nat} (l:List (Ex×Option Addr×Nat×Nat)) (r:Blk w g T (exCs l)) (t:∀x∈l,ExV w x.1 x.2.1 x.2.2.1 x.2.2.2):KidsAt w (some ⟨g,0,none⟩) (l.map (·.1)):=by
 unfold KidsAt
 rw[cJ]
 intro j e b
 rw[List.getElem?_map]at b
 cases h:l[j]? with
 |none=>rw[h]at b;cases b
 |some x=>
  rw[h]at b
  simp at b
  subst b
  have f:=t x (List.mem_of_getElem? h)
  refine⟨x.1.d.cells x.2.1 x.2.2.1 x.2.2.2,⟨g,0,rfl,fun i v hi=>?_⟩,?_⟩
  ·have p:i<8:=(List.getElem?_eq_some_iff.1 hi).1
   have:=exCs_get l j i x h p
   rw[show 0+(0+j)*8+i=j*8+i by omega]
   exact r.cell_some (this.trans hi)
  ·obtain⟨e,B,k,c⟩:=x
   cases e with
   |mk d ks=>
    rw[ExC]
    have q:ks.length=k:=f.len
    subst q
    exact⟨f.fit,f.le,B,c,rfl,f.kids⟩
theorem exG_op1 {n T:Nat} {w:World} {a:Ex} {A:Option Addr} {k c:Nat} {o:Int} (b:I64 o) (q:n≤w.heap.size) (f:Stb (n≤·) w (fun w'=>ExV w' a A k c)):
  ExG n (w.alloc (.cells (a.d.cells A k c).toArray T)) (opE o [a]) (.agg #[.int .i64 o,.string ⟨#[]⟩,.string ⟨#[]⟩,.int .i64 0,.int .i64 0,.int .i64 0,.string ⟨#[]⟩,.slice (some ⟨w.heap.size,0,none⟩) 1 1]):=by
 refine⟨some ⟨w.heap.size,0,none⟩,1,1,rfl,?_⟩
 have i:=Stb.blk (S:=(n≤·)) (Blk.of_new w T (a.d.cells A k c)) q
 have j:=f.ext ((Ext.refl w).alloc (.cells (a.d.cells A k c).toArray T))
 refine(i.and j).imp fun r ⟨h,g⟩=>⟨rfl,by omega,ez b,?_⟩
 exact jP [(a,A,k,c)] (by rw[dQ];simpa[exCs] using h) (fun x p=>by rw[List.mem_singleton.1 p];exact g)
def ExS (S:Nat→Prop) (w:World) (e:Ex) (A:Option Addr) (k c:Nat):Prop:=Stb S w (fun w'=>ExV w' e A k c)
theorem cS {S:Nat→Prop} {T:Nat} {w:World} {a b:Ex} {A B:Option Addr} {k c f g:Nat} {o:Int} (i:I64 o) (y:S w.heap.size) (j:ExS S w a A k c) (t:ExS S w b B f g):
  ExS S (w.alloc (.cells (a.d.cells A k c++b.d.cells B f g).toArray T)) (opE o [a,b]) (some ⟨w.heap.size,0,none⟩) 2 2:=by
 have h:=(Ext.refl w).alloc (.cells (a.d.cells A k c++b.d.cells B f g).toArray T)
 have q:=Stb.blk (S:=S) (Blk.of_new w T (a.d.cells A k c++b.d.cells B f g)) y
 refine((q.and (Stb.ext j h)).and (Stb.ext t h)).imp fun z ⟨⟨r,p⟩,u⟩=>⟨rfl,by omega,ez i,?_⟩
 refine jP [(a,A,k,c),(b,B,f,g)] (by rw[dQ,dQ];simpa[exCs] using r) fun x h=>?_
 simp at h
 rcases h with rfl|rfl
 ·exact p
 ·exact u
theorem eA {g m:Nat} {w w':World} {e:Ex} {v:Value} (h:ExG m w e v) (i:w.grownBy w' (some g)) (p:g<m):ExG g w' e v:=by
 obtain⟨A,k,c,f,b⟩:=h
 exact⟨A,k,c,f,(b.grown i fun q j e=>by have:=Option.some.inj e;omega).weak fun q _ j=>by omega⟩
def Sx (g0 ge:Nat) (q:Nat):Prop:=g0+1≤q∧q≠ge
theorem Stb.chg2 {P b ge:Nat} {w w':World} {Φ:World→Prop} (h:Stb (Sx b ge) w Φ) (f:Chg P w w') (i:P<b+1):Stb (Sx b ge) w' Φ:=h.grown f fun q g e=>by have:=Option.some.inj e;have:=g.1;omega
theorem exS_op1 {S:Nat→Prop} {T:Nat} {w:World} {a:Ex} {A:Option Addr} {k c:Nat} {o:Int} (b:I64 o) (q:S w.heap.size) (g:ExS S w a A k c):
  ExS S (w.alloc (.cells (a.d.cells A k c).toArray T)) (opE o [a]) (some ⟨w.heap.size,0,none⟩) 1 1:=by
 have i:=Stb.blk (S:=S) (Blk.of_new w T (a.d.cells A k c)) q
 have j:=Stb.ext g ((Ext.refl w).alloc (.cells (a.d.cells A k c).toArray T))
 refine(i.and j).imp fun r ⟨h,f⟩=>⟨rfl,by omega,ez b,?_⟩
 exact jP [(a,A,k,c)] (by rw[dQ];simpa[exCs] using h) (fun x p=>by rw[List.mem_singleton.1 p];exact f)
theorem opt_eq (t:ByteArray) (s:Ps):(aq t s).2=optP t s:=rfl
theorem exS_leaf (S:Nat→Prop) (w:World) {d:Nd} (b:d.fit):ExS S w (.mk d []) none 0 0:=fun w' _ _=>⟨rfl,by omega,b,by unfold KidsAt Ex.ks;trivial⟩
theorem exS_lit (S:Nat→Prop) (w:World) {k i:Int} {t:ByteArray} (f:I64 k) (hi:I64 i) (b:t.size≤9223372036854775807):ExS S w (ei k i t) none 0 0:=
 exS_leaf S w (d:=⟨1,⟨#[]⟩,⟨#[]⟩,0,k,i,t⟩) ⟨i64_1,bG,f,hi,by show 0≤9223372036854775807;omega,by show 0≤9223372036854775807;omega,b⟩
theorem PsAt.tok_size {T P c:Nat} {A:Option Addr} {L:List Tk} {w0 w:World} {s:Ps} (h:PsAt T P A c L w0 w s) (b:TkL L):(tkB s.hd).size≤20000:=by
 have:=b.txt _ h.mem
 simpa[tkB,ByteArray.size] using this
theorem PsAt.tak_size {T P c:Nat} {A:Option Addr} {L:List Tk} {w0 w:World} {s:Ps} (h:PsAt T P A c L w0 w s) (b:TkL L) (k:Nat):(takP k s).1.size≤20000:=by
 unfold takP
 split
 ·exact h.tok_size b
 ·show 0≤20000;omega
theorem PsAt.num_le {T P c:Nat} {A:Option Addr} {L:List Tk} {w0 w:World} {s:Ps} (h:PsAt T P A c L w0 w s) (f:TkL L):0≤(numP s).1∧(numP s).1≤2147483648:=by
 unfold numP takP
 split
 ·next hk=>
  have b:s.hd.kind=3:=by simp[hasK]at hk;exact hk.2
  exact⟨by unfold eh;omega,(f.num _ h.mem b).2.2.1⟩
 ·show(0:Int)≤0∧(0:Int)≤2147483648
  omega
def sts (w:World) (g:Nat):Nat→List Value→World
 |_,[]=>w
 |i,v::vs=>sts (w.setCell ⟨g,i,none⟩ v) g (i+1) vs
theorem ak (g:Nat) (vs:List Value):∀(w:World) (i:Nat),w.grownBy (sts w g i vs) (some g):=by
 induction vs with
 |nil=>intro w i;exact ext_grown (Ext.refl w) _
 |cons v vs ih=>
  intro w i
  have b:w.grownBy (w.setCell ⟨g,i,none⟩ v) (some g):=⟨rfl,rfl,rfl,by simp[World.setCell],fun j _ f=>Below.heap_setCell w ⟨g,i,none⟩ v j (fun e=>f (by rw[e]))⟩
  exact World.grownBy.trans b (ih _ _)
theorem d9 (g T:Nat) (vs:List Value):∀(w:World) (pre old:List Value),old.length=vs.length→Blk w g T (pre++old)→Blk (sts w g pre.length vs) g T (pre++vs):=by
 induction vs with
 |nil=>
  intro w pre old b h
  rw[List.eq_nil_of_length_eq_zero b]at h
  exact h
 |cons v vs ih=>
  intro w pre old b h
  cases old with
  |nil=>simp at b
  |cons o old=>
   have f:=h.set pre.length v
   rw[List.set_append_right _ _ (Nat.le_refl _),Nat.sub_self,List.set_cons_zero]at f
   have i:=ih (w.setCell ⟨g,pre.length,none⟩ v) (pre++ [v]) old (by simpa using b) (by simpa using f)
   rw[sts]
   simpa using i
theorem aE {w:World} {g T:Nat} {old:List Value} (h:Blk w g T old) (vs:List Value) (b:old.length=vs.length):Blk (sts w g 0 vs) g T vs:=d9 g T vs w [] old b h
theorem Chg.own {P:Nat} {a b c:World} (h:Chg P a b) {g:Option Nat} (f:b.grownBy c g) (k:∀q,g=some q→a.heap.size≤q):Chg P a c:=
 ⟨(World.grownBy.os f).trans (World.grownBy.os h),(World.grownBy.tape f).trans (World.grownBy.tape h),(World.grownBy.output f).trans (World.grownBy.output h),Nat.le_trans (World.grownBy.size h) (World.grownBy.size f),fun i hi j=>
  (World.grownBy.block f i (Nat.lt_of_lt_of_le hi (World.grownBy.size h)) fun e=>by have:=k i e.symm;omega).trans (World.grownBy.block h i hi j)⟩
end
section
open Lx (Tk)
def Lst {α:Type} (Φ:α→List Value→World→Prop) (sz:Nat) (w:World) (A:Option Addr) (l:List α):Prop:=∀(i:Nat) (a:α),l[i]? =some a→∃cs,cs.length=sz∧CellsAt w A (i*sz) cs∧Φ a cs w
structure bM {α:Type} (Φ:α→List Value→World→Prop) (T sz n0:Nat) (w:World) (v:Value) (l:List α) (css:List (List Value)):Prop where
 len:css.length=l.length
 each:∀cs∈css,cs.length=sz
 own:w.ownsRow n0 T sz v l.length css.flatten
 at_:∀(i:Nat) (a:α) (cs:List Value),l[i]? =some a→css[i]? =some cs→Stb (fun q=>n0≤q∧v.ownBlock≠some q) w (Φ a cs)
section
variable {α:Type} {Φ:α→List Value→World→Prop} {T sz n0 P:Nat} {w w':World} {v v':Value} {l:List α} {css:List (List Value)}
theorem bM.chg (h:bM Φ T sz n0 w v l css) (f:Chg P w w') (k:P<n0):bM Φ T sz n0 w' v l css:=
 ⟨h.len,h.each,h.own.kept f (by
   cases g:v.ownBlock with
   |none=>exact .inl rfl
   |some q=>exact .inr fun e=>by have:=(h.own.lt q g).1;have:=Option.some.inj e;omega),
  fun i a cs hi b=> (h.at_ i a cs hi b).grown f fun q j e=>by have:=j.1;have:=Option.some.inj e;omega⟩
theorem bM.ext (h:bM Φ T sz n0 w v l css) (f:Ext w w'):bM Φ T sz n0 w' v l css:=
 ⟨h.len,h.each,h.own.kept (ext_grown f none) (by
   cases g:v.ownBlock with
   |none=>exact .inl rfl
   |some q=>exact .inr fun e=>by cases e),
  fun i a cs hi b=> (h.at_ i a cs hi b).ext f⟩
theorem own_new (w:World) (n0 T sz:Nat) (cs:List Value) (b:cs.length=sz) (f:n0≤w.heap.size):(w.alloc (.cells cs.toArray T)).ownsRow n0 T sz (.slice (some ⟨w.heap.size,0,none⟩) 1 1) 1 cs:=
 ⟨by omega,.inr ⟨w.heap.size,1,cs.toArray,rfl,f,heap_alloc_new w _,Nat.le_refl _,by unfold maxLen;omega,by simp[b],by simpa using List.take_of_length_le (Nat.le_of_eq b)⟩⟩
theorem bM.start (cs:List Value) {a:α} (g:cs.length=sz) (p:n0≤w.heap.size) (j:Stb (n0≤·) w (Φ a cs)):
  bM Φ T sz n0 (w.alloc (.cells cs.toArray T)) (.slice (some ⟨w.heap.size,0,none⟩) 1 1) [a] [cs]:=by
 refine⟨rfl,fun x k=>by rw[List.mem_singleton.1 k];exact g,by simpa using own_new w n0 T sz cs g p,fun i b ds hi f=>?_⟩
 cases i with
 |zero=>
  simp at hi f
  subst hi f
  exact(j.weak (S':=fun q=>n0≤q∧(Value.slice (some ⟨w.heap.size,0,none⟩) 1 1).ownBlock≠some q) fun q r h=>⟨h,fun e=>by simp[Value.ownBlock]at e;omega⟩).ext ((Ext.refl w).alloc _)
 |succ i=>simp at hi
theorem bM.push (h:bM Φ T sz n0 w v l css) {a:α} {cs:List Value} (D:cs.length=sz) (z:w'.ownsRow n0 T sz v' (l.length+1) (css.flatten++cs)) (F:w.grownBy w' v.ownBlock) (k:v'.ownBlock=v.ownBlock∨v'.ownBlock=some w.heap.size)
  (B:Stb (fun q=>n0≤q∧v.ownBlock≠some q) w (Φ a cs)):bM Φ T sz n0 w' v' (l++ [a]) (css++ [cs]):=by
 have j:∀ {Ψ:World→Prop},Stb (fun q=>n0≤q∧v.ownBlock≠some q) w Ψ→Stb (fun q=>n0≤q∧v'.ownBlock≠some q) w' Ψ:=fun {Ψ} hs=>by
  have u:=hs.weak (S':=fun q=> (n0≤q∧v'.ownBlock≠some q)∧v.ownBlock≠some q) fun q t p=>⟨⟨p.1,fun e=>by
   rcases k with k|k
   ·exact p.2 (k.symm.trans e)
   ·rw[k]at e
    have:=Option.some.inj e
    omega⟩,p.2⟩
  have E:=u.grown F fun q t=>t.2
  intro G y C
  exact E G y fun q t p=>C q t p.1
 refine⟨by simp[h.len],fun x r=>?_,by simpa using z,fun i b ds hi f=>?_⟩
 ·rcases List.mem_append.1 r with r|r
  ·exact h.each x r
  ·rw[List.mem_singleton.1 r];exact D
 ·by_cases g:i<l.length
  ·rw[List.getElem?_append_left g]at hi
   rw[List.getElem?_append_left (by rw[h.len];exact g)]at f
   exact j (h.at_ i b ds hi f)
  ·have u:=(List.getElem?_eq_some_iff.1 hi).1
   rw[List.length_append,List.length_singleton]at u
   obtain rfl:i=l.length:=by omega
   rw[List.getElem?_append_right (Nat.le_refl _),Nat.sub_self]at hi
   rw[←h.len,List.getElem?_append_right (Nat.le_refl _),Nat.sub_self]at f
   simp at hi f
   subst hi f
   exact j B
theorem bH {sz:Nat} :∀(css:List (List Value)),(∀cs∈css,cs.length=sz)→∀(i j:Nat) (cs:List Value) (v:Value),css[i]? =some cs→cs[j]? =some v→css.flatten[i*sz+j]? =some v
 | [],_,i,j,cs,v,h,_=>by simp at h
 |x::css,he,i,j,cs,v,h,hv=>by
  have b:=he x (List.mem_cons_self ..)
  rw[List.flatten_cons]
  cases i with
  |zero=>
   simp at h
   subst h
   rw[List.getElem?_append_left (by have:=(List.getElem?_eq_some_iff.1 hv).1;omega)]
   simpa using hv
  |succ i=>
   have g:=(List.getElem?_eq_some_iff.1 hv).1
   rw[List.getElem?_append_right (by rw[b,Nat.succ_mul];omega),b,show(i+1)*sz+j-sz=i*sz+j by rw[Nat.succ_mul];omega]
   exact bH css (fun c f=>he c (List.mem_cons_of_mem _ f)) i j cs v (by simpa using h) hv
theorem bM.fin (h:bM Φ T sz n0 w v l css):∃A c,v= .slice A l.length c∧Stb (n0≤·) w (fun f=>Lst Φ sz f A l):=by
 rcases h.own.2 with ⟨hv,h0⟩|⟨g,cap,cur,hv,hg,hh,hnc,hcm,hcs,htk⟩
 ·refine⟨none,0,by rw[hv,h0],fun f _ _ i a hi=>?_⟩
  have:=(List.getElem?_eq_some_iff.1 hi).1
  omega
 ·refine⟨some ⟨g,0,none⟩,cap,hv,fun f hs x i a hi=>?_⟩
  have r:=(List.getElem?_eq_some_iff.1 hi).1
  obtain⟨cs,t⟩:∃cs,css[i]? =some cs:=⟨_,List.getElem?_eq_getElem (by rw[h.len];exact r)⟩
  have k:g<w.heap.size:=(Array.getElem?_eq_some_iff.1 hh).1
  refine⟨cs,h.each cs (List.mem_of_getElem? t),⟨g,0,rfl,fun j u z=>?_⟩,(h.at_ i a cs hi t) f hs fun q B y=>x q B y.1⟩
  have b:=bH css h.each i j cs u t z
  rw[←htk,List.getElem?_take]at b
  have p:=(x g k hg).trans hh
  split at b
  ·rw[Nat.zero_add]
   simp[World.cell?,p]
   simpa using b
  ·cases b
end
end
section
open Lx (Tk)
theorem iU (a b:ByteArray):(a.toList==b.toList)=decide (a=b):=by
 rw[ByteArray.toList_eq,ByteArray.toList_eq,Bool.eq_iff_iff,beq_iff_eq,decide_eq_true_iff]
 constructor
 ·intro h
  cases a;cases b
  simp only[ByteArray.mk.injEq]
  exact Array.toList_inj.1 h
 ·rintro rfl;rfl
section
variable {P c:Nat} {A:Option Addr} {L:List Tk} {w0 w:World} {s:Ps}
theorem lx (p:PsAt 68 P A c L w0 w s) (G:TkL L) (t:ByteArray):
  Calls Tryz.prog 98 #[.pointer (some ⟨P,0,none⟩),.string t] w fun e w'=>e= .returned (.bool (isS t s))∧Ext w w':=by
 obtain⟨b,J,I,Y,c0,c1,c2⟩:=p.cells
 subst I
 obtain⟨H,F,u,-⟩:=cls p.blk
 have hi:=p.lti
 have hl:=G.len
 have U:Hid (isS t s=(!s.bad&& ((s.hd.kind==2||s.hd.kind==5) &&decide (tkB s.hd=t)))):=rfl
 generalize isS t s=B at*
 generalize L.length-s.r.length=i at*
 generalize s.hd.kind=K at*
 generalize s.hd.pos=g at*
 generalize tkB s.hd=X at*
 generalize s.bad=z at*
 have i0:(0:Int)≤(i:Int):=by omega
 have i1:(i:Int)<(L.length:Int):=by omega
 have f:=(Ext.refl w).alloc (.cells #[.int .i64 0,.string ⟨#[]⟩,.int .i64 0] 70)
 have HX:=hid f
 have y:=f.keep H
 have E:=f.keep F
 have C:=f.keep u
 have q:=f.keep c0
 have D:=f.keep c1
 have x:=f.keep c2
 clear p G f
 go_enter Tryz.func98,Tryz.ntmps98
 go_upto_region 1 with fail
 go_region
 have h:Ext w (w.alloc (.cells #[.int .i64 (K:Int),.string X,.int .i64 (g:Int)] 70)).drew:=((Ext.refl w).alloc _).drew
 have k:Blk (w.alloc (.cells #[.int .i64 (K:Int),.string X,.int .i64 (g:Int)] 70)).drew w.heap.size 70 [.int .i64 (K:Int),.string X,.int .i64 (g:Int)]:=(Blk.of_new w 70 [.int .i64 (K:Int),.string X,.int .i64 (g:Int)]).drew
 have q2:=h.keep u
 obtain⟨Z,t1,-⟩:=cls k
 have j:=hid h
 clear h k H F u c0 c1 c2 y E C q D x Y hi
 generalize (w.alloc (.cells #[.int .i64 (K:Int),.string X,.int .i64 (g:Int)] 70)).drew=w1 at*
 generalize w.heap.size=g1 at*
 have R:=U.out
 subst R
 by_cases W:K=2
 ·subst W
  cases z<;> (go_wp2_with fail;go_ret;exact⟨ab (by simp[iU, *]),j⟩)
 ·by_cases O:K=5
  ·subst O
   cases z<;> (go_wp2_with fail;go_ret;exact⟨ab (by simp[iU, *]),j⟩)
  ·cases z<;> (go_wp2_with fail;go_ret;exact⟨ab (by simp[iU, *]),j⟩)
theorem ai (k:PsAt 68 P A c L w0 w s) (j:TkL L) (t:ByteArray):
  Calls Tryz.prog 53 #[.pointer (some ⟨P,0,none⟩),.string t] w (Ran 68 P A c L w0 w (aq t s).2 fun v _=>v= .bool (isS t s)):=by
 have y:=hid k
 have u:=hid (lx k j t)
 clear k
 go_enter Tryz.func53,Tryz.ntmps53
 go_wp2_with fail
 refine u.mono ?_
 rintro e D ⟨rfl,f⟩
 have b:=hid (y.ext f)
 have C:=b.blk.cell_some (i:=1) rfl
 have z:=b.blk.frozen 1
 have h:=hid f
 clear f u
 have g:(aq t s).2=if isS t s=true then s.next else s:=rfl
 have q:=hid g
 clear g
 cases hs:isS t s
 ·go_wp2_with fail
  go_ret
  exact⟨_,rfl,by rw[q.out,hs];exact b,Chg.of h,by rw[hs];rfl⟩
 ·have x:s.hd.kind≠0:=by
   intro e
   simp[isS,e]at hs
  have p:=hid (b.next j x)
  have hi:=b.lti
  have B:=j.len
  generalize L.length-s.r.length=i at*
  go_wp2_with fail
  go_ret
  exact⟨_,rfl,by rw[q.out,hs];exact p,(Chg.of h).set _ _,by rw[hs];rfl⟩
theorem az (p:PsAt 68 P A c L w0 w s) (u:TkL L) (t:ByteArray) (g:Nat) (B:w.cell? ⟨g,0,none⟩=some (.string t)):
  Calls Tryz.prog 44 #[.pointer (some ⟨P,0,none⟩),.slice (some ⟨g,0,none⟩) 1 1] w (Ran 68 P A c L w0 w (needP t s) fun _ _=>True):=by
 have x:=hid (ai p u t)
 have k:Hid (needP t s=if isS t s=true then s.next else s.fail):=rfl
 have r:Hid ((aq t s).2=if isS t s=true then s.next else s):=rfl
 clear p
 go_enter Tryz.func44,Tryz.ntmps44
 go_wp2_with fail
 go_loopw [8] (fun q wr=> (q= .int .i64 0∧wr=w)∨(q= .int .i64 1∧PsAt 68 P A c L w0 wr (needP t s)∧Chg P w wr)) (fun i _=>2- (intOf i).toNat)
 case atStart=>exact .inl ⟨rfl,rfl⟩
 case round=>
  rcases hrel with ⟨rfl,rfl⟩|⟨rfl,hp2,hg2⟩
  ·go_wp2_with fail
   refine x.mono ?_
   rintro e z ⟨y,rfl,b,h,rfl⟩
   rw[r.out]at b
   cases hs:isS t s
   ·rw[hs]at b k
    have f:=hid b.fail
    have D:=b.blk.frozen 2
    have C:=b.blk.cell_some (i:=2) rfl
    have j:=hid (h.set 2 (.bool true))
    clear b h
    go_wp2_with fail
    exact⟨.inr ⟨rfl,by rw[k.out];exact f,j⟩,by simp[intOf]⟩
   ·rw[hs]at b k
    have f:=hid b
    have j:=hid h
    clear b h
    go_wp2_with fail
    exact⟨.inr ⟨rfl,by rw[k.out];exact f,j⟩,by simp[intOf]⟩
  ·have f:=hid hp2
   have j:=hid hg2
   clear hp2 hg2
   go_wp2_with fail
   exact bodyPost_end (v:= .tuple #[]) (by simp[results,Tryz.results44,go_sem]) rfl ⟨_,rfl,f,j,trivial⟩
end
end
section
open Lx (Tk)
theorem dv_ge (l:List UInt8):∀v:Nat,v≤l.foldl (fun v c=>10*v+(c.toNat-48)) v:=by
 induction l with
 |nil=>intro v;exact Nat.le_refl _
 |cons a l ih=>intro v;rw[List.foldl_cons];exact Nat.le_trans (by omega) (ih _)
theorem pu_dig (l:List UInt8):∀v:Nat,(∀c∈l,48≤c.toNat∧c.toNat≤57)→l.foldl (fun v c=>10*v+(c.toNat-48)) v≤2147483648→Lib.parseUint10 v l= .ok (l.foldl (fun v c=>10*v+(c.toNat-48)) v):=by
 induction l with
 |nil=>intro v _ _;rfl
 |cons a l ih=>
  intro v hd b
  have f:=hd a (List.mem_cons_self ..)
  rw[List.foldl_cons]at b ⊢
  have h:=dv_ge l (10*v+(a.toNat-48))
  rw[Lib.parseUint10,if_pos f,if_neg (by omega),if_neg (by omega),Nat.mul_comm v 10]
  exact ih _ (fun c g=>hd c (List.mem_cons_of_mem _ g)) b
theorem pi_dig (l:List UInt8) (g:l≠[]) (hd:∀c∈l,48≤c.toNat∧c.toNat≤57) (b:Lx.digVal l≤2147483648):Lib.parseIntB 64 l= .ok ((Lx.digVal l:Nat):Int):=by
 rw[Lib.parseIntB_64]
 have f:=pu_dig l 0 hd b
 cases l with
 |nil=>exact absurd rfl g
 |cons c r=>
  have h:=hd c (List.mem_cons_self ..)
  unfold Lib.atoiAll
  dsimp only
  rw[if_neg (by omega)]
  unfold Lib.parseMag
  rw[if_neg (by simp),f]
  dsimp only
  change Lx.digVal (c::r)≤_ at b
  have e:List.foldl (fun v (c:UInt8)=>10*v+(c.toNat-48)) 0 (c::r)=Lx.digVal (c::r):=rfl
  rw[e,if_neg (by omega),if_neg (by omega),if_neg (by omega)]
theorem tok_int {L:List Tk} (b:TkL L) {a:Tk} (f:a∈L) (j:a.kind=3) (w:World):
  Calls Tryz.prog 234 #[.string (tkB a),.int .i64 10,.int .i64 64] w fun e w'=>e= .returned (.tuple #[.int .i64 (eh (tkB a)),.nilIface])∧Ext w w':=by
 obtain⟨k,i,g,q⟩:=b.num a f j
 have p:Lib.parseIntB 64 (tkB a).data.toList= .ok (eh (tkB a)):=by
  have e:(tkB a).data.toList=a.text:=by simp[tkB]
  unfold eh at g ⊢
  rw[e]at g ⊢
  exact pi_dig _ k i (by omega)
 have hs:(tkB a).size=a.text.length:=by simp[tkB,ByteArray.size]
 have:=b.txt a f
 refine(Tryz.strconv_ParseInt_10_at64_ok _ (by omega) _ p w).mono ?_
 rintro e w' ⟨rfl,h⟩
 refine⟨rfl,?_⟩
 rcases h with rfl|⟨t,rfl⟩
 ·exact Ext.refl _
 ·exact Lib.bytesWorld_below _ _ _
theorem ly {w w':World} (h:Er w) (b:Ext w w'):Er w':=by
 obtain⟨⟨g,f,i⟩,k,p,j⟩:=h
 exact⟨⟨g,f,b.keep i⟩,k,p,b.keep j⟩
theorem no_int (w:World) (g:Er w):
  Calls Tryz.prog 234 #[.string ⟨#[]⟩,.int .i64 10,.int .i64 64] w fun e w'=> ∃x,e= .returned (.tuple #[.int .i64 0,x])∧Ext w w':=by
 obtain⟨⟨b,i,f⟩,_⟩:=g
 refine(Any.strconv_ParseInt_10_at64_syntax Tryz.laysC174 ⟨#[]⟩ (by show 0≤281474976710656;omega) (by rw[Lib.parseIntB_64];rfl) _ w f (.inr ⟨b,i,rfl⟩)).mono ?_
 rintro e w' ⟨n,rfl,_,_,h⟩
 exact⟨_,rfl,h⟩
end
section
open Lx (Tk)
theorem nat_beq (a b:Nat):((a:Int)==(b:Int))=(a==b):=by
 rw[Bool.eq_iff_iff]
 simp
 omega
section
variable {P c:Nat} {A:Option Addr} {L:List Tk} {w0 w:World} {s:Ps}
theorem gB (f:PsAt 68 P A c L w0 w s) (g:TkL L) (k:Nat):
  Calls Tryz.prog 43 #[.pointer (some ⟨P,0,none⟩),.int .i64 (k:Nat)] w fun e w'=>e= .returned (.bool (hasK k s))∧Ext w w':=by
 obtain⟨b,t,p,z,c0,c1,c2⟩:=f.cells
 subst p
 obtain⟨D,y,E,-⟩:=cls f.blk
 have hi:=f.lti
 have x:=g.len
 have q:Hid (hasK k s=(!s.bad&&s.hd.kind==k)):=rfl
 generalize hasK k s=B at*
 generalize L.length-s.r.length=i at*
 generalize s.hd.kind=K at*
 generalize s.bad=j at*
 have u:(0:Int)≤(i:Int):=by omega
 have C:(i:Int)<(L.length:Int):=by omega
 clear f g
 go_enter Tryz.func43,Tryz.ntmps43
 go_upto_region 1 with fail
 have h:=q.out
 subst h
 cases j
 ·go_region
  all_goals
   go_wp2_with fail
   go_ret
   exact⟨congrArg (fun b=>Ending.returned (.bool b)) (nat_beq K k),(Ext.refl w).drew⟩
 ·go_region
  all_goals
   go_wp2_with fail
   go_ret
   exact⟨rfl,(Ext.refl w).drew⟩
theorem gC (y:PsAt 68 P A c L w0 w s) (x:TkL L) (k:Nat) (hk:k≠0):
  Calls Tryz.prog 100 #[.pointer (some ⟨P,0,none⟩),.int .i64 (k:Nat)] w (Ran 68 P A c L w0 w (takP k s).2 fun v _=>v= .string (takP k s).1):=by
 have R:=hid y
 have D:=hid (gB y x k)
 have j:Hid (takP k s=if hasK k s=true then (tkB s.hd,s.next)else (⟨#[]⟩,s.fail)):=rfl
 clear y
 go_enter Tryz.func100,Tryz.ntmps100
 go_wp2_with fail
 refine D.mono ?_
 rintro e z ⟨rfl,h⟩
 have f:=hid (R.ext h)
 have t:=hid h
 clear h D
 cases hs:hasK k s
 ·have Y:=f.blk.frozen 2
  have X:=f.blk.cell_some (i:=2) rfl
  have g:=hid f.fail
  rw[hs]at j
  go_wp2_with fail
  go_ret
  exact⟨_,rfl,by rw[j.out];exact g,(Chg.of t).set _ _,by rw[j.out];rfl⟩
 ·have p:s.hd.kind≠0:=by
   simp[hasK]at hs
   omega
  have g:=hid (f.next x p)
  have W:=f.blk.cell_some (i:=1) rfl
  have f1:=f.blk.frozen 1
  have hi:=f.lti
  have Z:=x.len
  have q:=f.head
  rw[hs]at j
  have J:=hid g.tks
  have u:=hid g.blk
  have E:L.length-s.next.r.length=L.length-s.r.length+1:=by
   have:=f.le
   have:=f.ne_of x p
   simp[Ps.next]
   omega
  rw[E]at u
  clear E
  obtain⟨b,I,H,hb,O,d1,F⟩:=g.tks _ _ q
  subst H
  generalize L.length-s.r.length=i at*
  obtain⟨q0,C,-⟩:=cls u
  have G:=hid ((Chg.of t).set (P:=P) 1 (.int .i64 ((i:Int)+1)))
  have U:(0:Int)≤(i:Int):=by omega
  have i1:(i:Int)<(L.length:Int):=by omega
  have K:(z.setCell ⟨P,1,none⟩ (.int .i64 ((i:Int)+1))).cell? ⟨P,1,none⟩=some (.int .i64 ((i:Int)+1)):=by
   have:=C
   simpa using this
  clear C q O F
  go_upto_region 5 with fail
  generalize z.setCell ⟨P,1,none⟩ (.int .i64 ((i:Int)+1))=B at*
  go_region
  all_goals
   go_wp2_with fail
   go_ret
   exact⟨_,rfl,by rw[j.out];exact g.ext (Ext.refl B).drew,G.ext (Ext.refl B).drew,by rw[j.out];rfl⟩
end
end
section
open Lx (Tk)
abbrev Vb:=Nat×Nat×List Value
structure En (T P:Nat) (A:Option Addr) (c:Nat) (L:List Tk) (w0 wi w:World) (s:Ps) (V:List Vb) (Φ:World→Prop):Prop where
 ps:PsAt T P A c L w0 w s
 low:P<wi.heap.size
 chg:Chg P wi w
 blk:∀x∈V,Blk w x.1 x.2.1 x.2.2
 new:∀x∈V,wi.heap.size≤x.1
 nod:(V.map (·.1)).Nodup
 stb:Stb (fun q=>wi.heap.size≤q∧q∉V.map (·.1)) w Φ
section
variable {T P c:Nat} {A:Option Addr} {L:List Tk} {w0 wi w w':World} {s s':Ps} {V:List Vb} {Φ Ψ:World→Prop}
theorem En.start (h:PsAt T P A c L w0 w s):En T P A c L w0 w w s [] (fun _=>True):=⟨h,h.lt,Chg.refl P w,by simp,by simp,by simp,Stb.of trivial⟩
theorem En.size (h:En T P A c L w0 wi w s V Φ):wi.heap.size≤w.heap.size:=h.chg.size
theorem En.ext (h:En T P A c L w0 wi w s V Φ) (b:Ext w w'):En T P A c L w0 wi w' s V Φ:=⟨h.ps.ext b,h.low,h.chg.ext b,fun x f=> (h.blk x f).ext b,h.new,h.nod,h.stb.ext b⟩
theorem En.call (h:En T P A c L w0 wi w s V Φ) (g:PsAt T P A c L w0 w' s') (b:Chg P w w'):En T P A c L w0 wi w' s' V Φ:=
 ⟨g,h.low,h.chg.trans b,fun x f=>b.blk (h.blk x f) (by have:=h.new x f;have:=h.low;omega),h.new,h.nod,h.stb.grown b fun q i e=>by have:=i.1;have:=h.low;have:=Option.some.inj e;omega⟩
theorem En.and {n:Nat} (h:En T P A c L w0 wi w s V Φ) (g:Stb (n≤·) w Ψ) (j:wi.heap.size≤n) (k:∀x∈V,x.1<n):En T P A c L w0 wi w s V (fun u=>Φ u∧Ψ u):=
 ⟨h.ps,h.low,h.chg,h.blk,h.new,h.nod,h.stb.and (g.weak fun q _ b=>⟨Nat.le_trans j b,fun f=>by
  obtain⟨x,i,rfl⟩:=List.mem_map.1 f
  have:=k x i
  have:n≤x.1:=b
  omega⟩)⟩
theorem En.calls (h:En T P A c L w0 wi w s V Φ) (g:PsAt T P A c L w0 w' s') (b:Chg P w w') (i:Stb (w.heap.size≤·) w' Ψ):En T P A c L w0 wi w' s' V (fun u=>Φ u∧Ψ u):=
 (h.call g b).and i h.size fun x f=> (h.blk x f).lt
theorem En.alloc (h:En T P A c L w0 wi w s V Φ) (t:Nat) (cs:List Value):En T P A c L w0 wi (w.alloc (.cells cs.toArray t)) s ((w.heap.size,t,cs)::V) Φ:=by
 have f:=(Ext.refl w).alloc (.cells cs.toArray t)
 refine⟨h.ps.ext f,h.low,h.chg.ext f,fun x b=>?_,fun x b=>?_,?_,Stb.ext (h.stb.weak fun q i g=>⟨g.1,fun e=>by
  rcases List.mem_cons.1 e with e|e
  ·have e:q=w.heap.size:=e
   omega
  ·exact g.2 e⟩) f⟩
 ·rcases List.mem_cons.1 b with rfl|b
  ·exact Blk.of_new w t cs
  ·exact(h.blk x b).ext f
 ·rcases List.mem_cons.1 b with rfl|b
  ·exact h.size
  ·exact h.new x b
 ·rw[List.map_cons,List.nodup_cons]
  refine⟨fun b=>?_,h.nod⟩
  obtain⟨x,f,e⟩:=List.mem_map.1 b
  have:=(h.blk x f).lt
  have e:x.1=w.heap.size:=e
  omega
theorem En.get (h:En T P A c L w0 wi w s V Φ) {j g t:Nat} {cs:List Value} (b:V[j]? =some (g,t,cs)):Blk w g t cs:=h.blk _ (List.mem_of_getElem? b)
theorem En.ge (h:En T P A c L w0 wi w s V Φ) {j g t:Nat} {cs:List Value} (b:V[j]? =some (g,t,cs)):wi.heap.size≤g:=h.new _ (List.mem_of_getElem? b)
theorem En.put (h:En T P A c L w0 wi w s V Φ) {j g t:Nat} {cs ds:List Value} (b:V[j]? =some (g,t,cs)) (k:w.grownBy w' (some g)) (F:Blk w' g t ds):En T P A c L w0 wi w' s (V.set j (g,t,ds)) Φ:=by
 have z:=h.ge b
 have D:(V.set j (g,t,ds)).map (·.1)=V.map (·.1):=by
  rw[List.map_set]
  refine List.ext_getElem? fun i=>?_
  rw[List.getElem?_set]
  split
  ·next e=>
   subst e
   split
   ·rw[List.getElem?_map,b];rfl
   ·next hl=>rw[List.getElem?_eq_none (by omega)]
  ·rfl
 refine⟨h.ps.grown k fun q f=>by have:=h.low;have:=Option.some.inj f;omega,h.low,h.chg.own k fun q f=>by have:=Option.some.inj f;omega,fun x p=>?_,fun x p=>?_,by rw[D];exact h.nod,?_⟩
 ·obtain⟨i,hi⟩:=List.getElem?_of_mem p
  rw[List.getElem?_set]at hi
  split at hi
  ·split at hi
   ·cases hi;exact F
   ·cases hi
  ·next hne=>
   refine(h.blk x (List.mem_of_getElem? hi)).grown k fun e=>hne ?_
   have e:x.1=g:=Option.some.inj e
   have r:=h.nod
   have r:=List.pairwise_iff_getElem.1 r
   have B:=(List.getElem?_eq_some_iff.1 hi).1
   have u:=(List.getElem?_eq_some_iff.1 b).1
   apply Classical.byContradiction
   intro y
   have C:(V.map (·.1))[i]'(by simpa using B)=g:=by rw[List.getElem_map,(List.getElem?_eq_some_iff.1 hi).2];exact e
   have E:(V.map (·.1))[j]'(by simpa using u)=g:=by rw[List.getElem_map,(List.getElem?_eq_some_iff.1 b).2]
   rcases Nat.lt_or_gt_of_ne y with hlt|hlt
   ·exact r j i (by simpa using u) (by simpa using B) hlt (E.trans C.symm)
   ·exact r i j (by simpa using B) (by simpa using u) hlt (C.trans E.symm)
 ·rw[List.mem_iff_getElem?]at p
  obtain⟨i,hi⟩:=p
  rw[List.getElem?_set]at hi
  split at hi
  ·split at hi
   ·cases hi;exact z
   ·cases hi
  ·exact h.new x (List.mem_of_getElem? hi)
 ·rw[D]
  exact h.stb.grown k fun q f e=>f.2 (by rw[←Option.some.inj e];exact List.mem_map.2 ⟨_,List.mem_of_getElem? b,rfl⟩)
theorem nU (w:World) (g i:Nat) (v:Value):w.grownBy (w.setCell ⟨g,i,none⟩ v) (some g):=⟨rfl,rfl,rfl,by simp[World.setCell],fun j _ b=>Below.heap_setCell w ⟨g,i,none⟩ v j (fun e=>b (by rw[e]))⟩
theorem En.set (h:En T P A c L w0 wi w s V Φ) {j g t:Nat} {cs:List Value} (b:V[j]? =some (g,t,cs)) (i:Nat) (v:Value):En T P A c L w0 wi (w.setCell ⟨g,i,none⟩ v) s (V.set j (g,t,cs.set i v)) Φ:=
 h.put b (nU w g i v) ((h.get b).set i v)
theorem En.imp (h:En T P A c L w0 wi w s V Φ) (hi:∀u,Φ u→Ψ u):En T P A c L w0 wi w s V Ψ:=⟨h.ps,h.low,h.chg,h.blk,h.new,h.nod,h.stb.imp hi⟩
theorem En.keep (h:En T P A c L w0 wi w s V Φ):Stb (wi.heap.size≤·) w Φ:=h.stb.weak fun q _ b=>b.1
theorem En.next (h:En T P A c L w0 wi w s V Φ) (f:TkL L) (b:s.hd.kind≠0):En T P A c L w0 wi (w.setCell ⟨P,1,none⟩ (.int .i64 (((L.length-s.r.length:Nat):Int)+1))) s.next V Φ:=h.call (h.ps.next f b) ((Chg.refl P w).set _ _)
theorem En.fail (h:En T P A c L w0 wi w s V Φ):En T P A c L w0 wi (w.setCell ⟨P,2,none⟩ (.bool true)) s.fail V Φ:=h.call h.ps.fail ((Chg.refl P w).set _ _)
end
end
section
open Lx (Tk)
theorem fN (w:World) (g:Nat) (cs:Array Value):w.grownBy (w.setRow g cs) (some g):=
 ⟨rfl,rfl,rfl,by simp[World.setRow],fun i _ hi=>by
  unfold World.setRow
  simp only
  rw[Array.getElem?_modify,if_neg (fun e=>hi (by rw[e]))]⟩
theorem eB {w:World} {g T:Nat} {old:List Value} (h:Blk w g T old) (cs:List Value):Blk (w.setRow g cs.toArray) g T cs:=by
 unfold Blk at h ⊢
 unfold World.setRow
 simp only
 rw[Array.getElem?_modify,if_pos rfl,h]
 rfl
theorem En.row {T P c:Nat} {A:Option Addr} {L:List Tk} {w0 wi w:World} {s:Ps} {V:List Vb} {Φ:World→Prop} (h:En T P A c L w0 wi w s V Φ) {j g t:Nat} {cs:List Value} (b:V[j]? =some (g,t,cs)) (ds:List Value):En T P A c L w0 wi (w.setRow g ds.toArray) s (V.set j (g,t,ds)) Φ:=
 h.put b (fN w g ds.toArray) (eB (h.get b) ds)
section
variable {ops:Array Oper} {rest:List Oper} {o:Oper} {a:Act} {w:World} {Q:Exit→Act→World→Prop}
theorem ldE {x:Operand} (b:o.guard=none) (f:o.op= .load 37 x) (g:Nat) (k:a.eval x= .pointer (some ⟨g,0,none⟩)) {cs:List Value} (j:Blk w g 37 cs) (i:cs.length=8) (h:wpList Tryz.prog ops Q rest (a.put o.dst (.agg cs.toArray)) w):wpList Tryz.prog ops Q (o::rest) a w:=
 aw b 37 x f g k 37 cs _ j Tryz.underlying37 rfl (by rw[i];kernel_rfl) h
theorem stE {x y:Operand} (b:o.guard=none) (i:o.op= .store 37 x y) (hd:o.dst=none) (g:Nat) (ds:List Value) (r:a.eval x= .pointer (some ⟨g,0,none⟩)) (j:a.eval y= .agg ds.toArray) {cs:List Value} (p:Blk w g 37 cs) (k:cs.length=8) (f:ds.length=8) (q:ds.toArray.all (·.oneCell')=true)
  (h:wpList Tryz.prog ops Q rest a (w.setRow g ds.toArray)):wpList Tryz.prog ops Q (o::rest) a w:=
 wpList_store_rowTo b 37 x y i hd g ds.toArray r j 37 cs.toArray p (by rw[List.size_toArray,f];kernel_rfl) (by rw[List.size_toArray,List.size_toArray,k,f]) q h
end
section
variable {T P c:Nat} {A:Option Addr} {L:List Tk} {w0 wi w w':World} {s:Ps} {V:List Vb} {Φ:World→Prop}
theorem en_of {t:Nat} {cs:List Value} (f:PsAt T P A c L w0 w s) (b:w.alloc (.cells cs.toArray t)=w'):En T P A c L w0 w w' s [(w.heap.size,t,cs)] (fun _=>True):=b ▸ (En.start f).alloc t cs
theorem jQ {t:Nat} {cs:List Value} (h:En T P A c L w0 wi w s V Φ) (b:w.alloc (.cells cs.toArray t)=w'):En T P A c L w0 wi w' s ((w.heap.size,t,cs)::V) Φ:=b ▸ h.alloc t cs
end
section
variable {T P c:Nat} {A:Option Addr} {L:List Tk} {w0 wi w w':World} {s:Ps} {V:List Vb} {Φ:World→Prop}
theorem En.here (h:En T P A c L w0 wi w s V Φ):wi.heap.size≤w.heap.size∧w.heap.size∉V.map (·.1):=⟨h.size,fun f=>by
 obtain⟨x,g,b⟩:=List.mem_map.1 f
 have:=(h.blk x g).lt
 have b:x.1=w.heap.size:=b
 omega⟩
theorem En.op1 {a:Ex} {B:Option Addr} {k b g:Nat} {o:Int} (h:En T P A c L w0 wi w s V Φ) (j:∀u,Φ u→ExV u a B k b) (i:I64 o) (f:Ext (w.alloc (.cells (a.d.cells B k b).toArray g)) w'):En T P A c L w0 wi w' s V (fun u=>ExV u (opE o [a]) (some ⟨w.heap.size,0,none⟩) 1 1):=
 { h.ext (((Ext.refl w).alloc _).trans f)with stb:=Stb.ext (exS_op1 i h.here (h.stb.imp j)) f }
theorem En.op1' {a:Ex} {B:Option Addr} {k g j:Nat} {o:Int} (h:En T P A c L w0 wi w s V Φ) (i:∀u,Φ u→ExV u a B k g) (f:I64 o) (b:Ext (w.alloc (.cells (a.d.cells B k g).toArray j)) w'):En T P A c L w0 wi w' s V (fun u=>Φ u∧ExV u (opE o [a]) (some ⟨w.heap.size,0,none⟩) 1 1):=
 { h.op1 i f b with stb:=(Stb.ext h.stb (((Ext.refl w).alloc _).trans b)).and (h.op1 i f b).stb }
end
theorem exv_lit {u:World} {k i:Int} {t:ByteArray} (f:I64 k) (hi:I64 i) (b:t.size≤9223372036854775807):ExV u (ei k i t) none 0 0:=(exS_lit (fun _=>True) u f hi b).now
def RX (P:Nat) (A:Option Addr) (c:Nat) (L:List Tk) (w0:World) (F:Nat) (x:Array Value) (K:Nat) (m:M Ex):Prop:=
 ∀(w:World) (s:Ps),PsAt 77 P A c L w0 w s→s.r.length<K→Calls Tryz.prog F x w fun e w'=> ∃A1 k1 c1,e= .returned ((m s).1.d.val A1 k1 c1)∧PsAt 77 P A c L w0 w' (m s).2∧Chg P w w'∧Stb (w.heap.size≤·) w' (fun u=>ExV u (m s).1 A1 k1 c1)
theorem RX.at_ {P:Nat} {A:Option Addr} {c:Nat} {L:List Tk} {w0 w:World} {F:Nat} {x:Array Value} {K:Nat} {m:M Ex} {s:Ps} (h:RX P A c L w0 F x K m) (i:PsAt 77 P A c L w0 w s) (j:s.r.length<K):
  ∃(op ix vk vi:Int) (tb nm vt:ByteArray) (ks:List Ex) (b:Ps),m s=(.mk ⟨op,tb,nm,ix,vk,vi,vt⟩ ks,b)∧Calls Tryz.prog F x w fun e w'=> ∃f g c1,e= .returned (.agg #[.int .i64 op,.string tb,.string nm,.int .i64 ix,.int .i64 vk,.int .i64 vi,.string vt,.slice f g c1])∧PsAt 77 P A c L w0 w' b∧Chg P w w'∧
   Stb (w.heap.size≤·) w' (fun u=>ExV u (.mk ⟨op,tb,nm,ix,vk,vi,vt⟩ ks) f g c1):=by
 have H:=h w s i j
 generalize m s=R at*
 obtain⟨⟨⟨op,tb,nm,ix,vk,vi,vt⟩,ks⟩,b⟩:=R
 exact⟨op,ix,vk,vi,tb,nm,vt,ks,b,rfl,H⟩
end
section
open Lx (Tk)
section
variable {P c:Nat} {A:Option Addr} {L:List Tk} {w0 w:World} {s:Ps}
theorem bV (b:PsAt 68 P A c L w0 w s) (g:TkL L):
  Calls Tryz.prog 55 #[.pointer (some ⟨P,0,none⟩)] w (Ran 68 P A c L w0 w (takP 1 s).2 fun v _=>v= .string (takP 1 s).1):=by
 have f:=hid (gC b g 1 (by decide))
 clear b
 go_enter Tryz.func55,Tryz.ntmps55
 go_wp2_with fail
 refine f.mono ?_
 rintro e j ⟨v,rfl,i,h,rfl⟩
 go_wp2_with fail
 go_ret
 exact⟨_,rfl,i,h,rfl⟩
theorem ct (g:PsAt 68 P A c L w0 w s) (j:TkL L) (z:Er w0):
  Calls Tryz.prog 178 #[.pointer (some ⟨P,0,none⟩)] w (Ran 68 P A c L w0 w (numP s).2 fun v _=>v= .int .i64 (numP s).1):=by
 have t:=hid (gC g j 3 (by decide))
 have y:Hid (∀W:World,Ext w0 W→Calls Tryz.prog 234 #[.string (takP 3 s).1,.int .i64 10,.int .i64 64] W fun e w'=> ∃x,e= .returned (.tuple #[.int .i64 (numP s).1,x])∧Ext W w'):=by
  intro W q
  unfold numP takP
  cases hs:hasK 3 s
  ·exact no_int W (ly z q)
  ·have f:s.hd.kind=3:=by simp[hasK]at hs;exact hs.2
   exact(tok_int j g.mem f W).mono fun e w' h=>⟨_,h⟩
 have u:Hid ((numP s).2=(takP 3 s).2):=rfl
 clear g
 generalize (takP 3 s).1=X at*
 generalize (numP s).1=V at*
 go_enter Tryz.func178,Tryz.ntmps178
 go_wp2_with fail
 refine t.mono ?_
 rintro e B ⟨v,rfl,i,k,rfl⟩
 go_wp2_with fail
 refine(y _ i.base).mono ?_
 rintro e C ⟨x,rfl,b⟩
 have p:=hid (i.ext b)
 have r:=hid (k.ext b)
 clear i k b
 go_wp2_with fail
 go_ret
 exact⟨_,rfl,by rw[u.out];exact p,r,rfl⟩
theorem end_any (j:PsAt 68 P A c L w0 w s) (q:TkL L):
  Calls Tryz.prog 30 #[.pointer (some ⟨P,0,none⟩)] w (Ran 68 P A c L w0 w (endP s) fun _ _=>True):=by
 have r:=hid j
 have p:=hid (gB j q 0)
 have h:Hid (endP s=if hasK 0 s=true then s else s.fail):=rfl
 clear j
 go_enter Tryz.func30,Tryz.ntmps30
 go_wp2_with fail
 refine p.mono ?_
 rintro e t ⟨rfl,f⟩
 have b:=hid (r.ext f)
 have g:=hid f
 clear f p
 cases hs:hasK 0 s
 ·have x:=b.blk.frozen 2
  have u:=b.blk.cell_some (i:=2) rfl
  have k:=hid b.fail
  rw[hs]at h
  go_wp2_with fail
  exact bodyPost_end (v:= .tuple #[]) (by simp[results,Tryz.results30,go_sem]) rfl ⟨_,rfl,by rw[h.out];exact k,(Chg.of g).set _ _,trivial⟩
 ·rw[hs]at h
  go_wp2_with fail
  exact bodyPost_end (v:= .tuple #[]) (by simp[results,Tryz.results30,go_sem]) rfl ⟨_,rfl,by rw[h.out];exact b,Chg.of g,trivial⟩
theorem cR (o:Int) (B:Option Addr) (k b:Nat) (W:World):
  Calls Tryz.prog 105 #[.int .i64 o,.slice B k b] W fun e w'=>e= .returned (.agg #[.int .i64 o,.string ⟨#[]⟩,.string ⟨#[]⟩,.int .i64 0,.int .i64 0,.int .i64 0,.string ⟨#[]⟩,.slice B k b])∧Ext W w':=by
 have h:=hid (Blk.of_new W 37 (eC o ⟨#[]⟩ ⟨#[]⟩ 0 0 0 ⟨#[]⟩ B k b))
 go_enter Tryz.func105,Tryz.ntmps105
 go_wp2_with fail
 obtain⟨f,r,i,q,j,p,t,g,-⟩:=cls h
 exact bodyPost_ret (by simp[results,Tryz.results105,go_sem,f,r,i,q,j,p,t,g]) rfl ⟨rfl,(Ext.refl W).alloc _⟩
theorem lit_val (k i:Int) (t:ByteArray) (W:World):
  Calls Tryz.prog 260 #[.agg #[.int .i64 k,.int .i64 i,.string t]] W fun e w'=>e= .returned (.agg #[.int .i64 1,.string ⟨#[]⟩,.string ⟨#[]⟩,.int .i64 0,.int .i64 k,.int .i64 i,.string t,.slice none 0 0])∧Ext W w':=by
 have b:=(Ext.refl W).alloc (.cells #[.int .i64 k,.int .i64 i,.string t] 35)
 have h:=hid (Blk.of_new (W.alloc (.cells #[.int .i64 k,.int .i64 i,.string t] 35)) 37 (eC 1 ⟨#[]⟩ ⟨#[]⟩ 0 k i t none 0 0))
 have u:=hid (b.alloc (.cells #[.int .i64 1,.string ⟨#[]⟩,.string ⟨#[]⟩,.int .i64 0,.int .i64 k,.int .i64 i,.string t,.slice none 0 0] 37))
 clear b
 go_enter Tryz.func260,Tryz.ntmps260
 go_wp2_with fail
 obtain⟨f,x,g,r,p,q,y,j,-⟩:=cls h
 exact bodyPost_ret (by simp[results,Tryz.results260,go_sem,f,x,g,r,p,q,y,j]) rfl ⟨rfl,u⟩
theorem jR (hp:PsAt 68 P A c L w0 w s) (O:TkL L):
  Calls Tryz.prog 106 #[.pointer (some ⟨P,0,none⟩)] w (Ran 68 P A c L w0 w (dV s).2 fun v w'=>ExG w.heap.size w' (dV s).1 v):=by
 have G:=(Ext.refl w).alloc (.cells #[.int .i64 0,.string ⟨#[]⟩,.string ⟨#[]⟩,.int .i64 0,.int .i64 0,.int .i64 0,.string ⟨#[]⟩,.slice none 0 0] 37)
 have HT:=hid (bV (hp.ext G) O)
 have I:=hid (hp.tak_size O 1)
 have E:=hid hp.lt
 have HC:Hid (dV s=if isS yDot (takP 1 s).2=true then (colE (takP 1 s).1 (takP 1 (takP 1 s).2.next).1,(takP 1 (takP 1 s).2.next).2)else (colE ⟨#[]⟩ (takP 1 s).1,(takP 1 s).2)):=rfl
 have Z:=hid G
 have HR:=hid (Blk.of_new w 37 eZ)
 clear hp G
 go_enter Tryz.func106,Tryz.ntmps106
 have a3:Hid (w.heap.size≤(w.alloc (.cells #[.int .i64 0,.string ⟨#[]⟩,.string ⟨#[]⟩,.int .i64 0,.int .i64 0,.int .i64 0,.string ⟨#[]⟩,.slice none 0 0] 37)).heap.size):=Z.size
 go_upto_region 1 with fail
 generalize w.alloc (.cells #[.int .i64 0,.string ⟨#[]⟩,.string ⟨#[]⟩,.int .i64 0,.int .i64 0,.int .i64 0,.string ⟨#[]⟩,.slice none 0 0] 37)=wa at*
 obtain⟨g0,C⟩:∃g,w.heap.size=g:=⟨_,rfl⟩
 have z:=hid C
 rw[C]at HR E ⊢
 clear C
 go_upto_region 2 with (go_at_call 55;(with_reducible refine HT.out.mono ?_);rintro _ w1 ⟨v,rfl,h1,h2,rfl⟩;have ax:=h2.size)
 have B:=hid (h2.blk HR (by have:=E.out;omega))
 obtain⟨X,hX⟩:∃X,(takP 1 s).1=X:=⟨_,rfl⟩
 obtain⟨r,y⟩:∃r,(takP 1 s).2=r:=⟨_,rfl⟩
 rw[hX,y]at HC
 rw[hX]at I
 rw[y]at h1
 rw[hX]
 have t:=(Ext.refl w1).alloc (.cells #[.int .i64 2,.string ⟨#[]⟩,.string X,.int .i64 0,.int .i64 0,.int .i64 0,.string ⟨#[]⟩,.slice none 0 0] 37)
 have ad:=hid (Blk.of_new w1 37 (eC 2 ⟨#[]⟩ X 0 0 0 ⟨#[]⟩ none 0 0))
 have W:=hid (B.ext t)
 have ac:=hid (h1.ext t)
 have ag:=hid ((Chg.of (P:=P) Z).trans (h2.ext t))
 have HA:=hid (ai ac O yDot)
 have b:Hid (g0<w1.heap.size∧P<g0):=⟨B.lt,E⟩
 clear hX y h1 h2 t ax B HR HT
 generalize w1.alloc (.cells #[.int .i64 2,.string ⟨#[]⟩,.string X,.int .i64 0,.int .i64 0,.int .i64 0,.string ⟨#[]⟩,.slice none 0 0] 37)=w2 at*
 generalize w1.heap.size=K at*
 go_wp2_with fail
 refine HA.mono ?_
 rintro e w3 ⟨v,rfl,h3,h4,rfl⟩
 have f:=hid h3
 have x:=hid (ag.trans h4)
 have p:=hid (h4.blk W (by have:=b.out;omega))
 have D:=hid (h4.blk ad (by have:=b.out;omega))
 clear h3 h4 HA ac ad W ag
 cases hs:isS yDot r
 ·have e:(aq yDot r).2=r:=by simp[aq,hs]
  rw[e]at f
  obtain⟨b0,b1,b2,b3,b4,b5,b6,b7,-⟩:=cls D
  obtain⟨z0,z1,z2,z3,z4,z5,z6,z7,-⟩:=cls p
  obtain⟨y0,y1,y2,y3,y4,y5,y6,y7,-⟩:=frz p
  have F:=aE p (eC 2 ⟨#[]⟩ X 0 0 0 ⟨#[]⟩ none 0 0) rfl
  have k:=hid (ak g0 (eC 2 ⟨#[]⟩ X 0 0 0 ⟨#[]⟩ none 0 0) w3 0)
  simp only[sts]at F
  have HZ:=hid F
  clear F
  go_wp2_with fail
  obtain⟨q0,q1,q2,q3,q4,q5,q6,q7,-⟩:=cls HZ
  exact bodyPost_ret (v:= .agg #[.int .i64 2,.string ⟨#[]⟩,.string X,.int .i64 0,.int .i64 0,.int .i64 0,.string ⟨#[]⟩,.slice none 0 0]) (by simp[results,Tryz.results106,go_sem,q0,q1,q2,q3,q4,q5,q6,q7]) rfl ⟨_,rfl,by rw[HC.out,hs];exact f.grown k (fun q j=>by have:=b.out;have:=Option.some.inj j;omega),x.own k (fun q j=>by have:=Option.some.inj j;rw[z.out];omega),by rw[HC.out,hs];exact exG_col _ _ (Nat.zero_le _) (by have:=I.out;omega)⟩
 ·have e:(aq yDot r).2=r.next:=by simp[aq,hs]
  rw[e]at f
  have a0:=hid (bV (f.ext (Ext.refl w3).drew) O)
  have a4:=hid (bV f O)
  have an:=hid (f.tak_size O 1)
  have b2:=D.cell_some (i:=2) rfl
  generalize (takP 1 r.next).1=Y at*
  generalize (takP 1 r.next).2=s2 at*
  go_upto_region 3 with fail
  go_region_with (go_at_call 55;(with_reducible refine a0.out.mono ?_);rintro _ R ⟨v,rfl,h5,J,rfl⟩;replace J:Chg P w3 R:=(Chg.of (Ext.refl w3).drew).trans J;have h:=J.blk D (by have:=b.out;omega);obtain⟨-,d1,d2,-⟩:=cls h;have k1:=h.frozen 1;have k2:=h.frozen 2)
  all_goals
   have a1:=hid ((h.set 1 (.string X)).set 2 (.string Y))
   have u:R.grownBy ((R.setCell ⟨K,1,none⟩ (.string X)).setCell ⟨K,2,none⟩ (.string Y)) (some K):=ak K [.string X,.string Y] R 1
   have H:=hid ((J.blk p (by have:=b.out;omega)).grown u (fun e=>by have:=Option.some.inj e;have:=b.out;omega))
   have a2:=hid (h5.grown u (fun q j=>by have:=Option.some.inj j;have:=b.out;omega))
   have U:=hid ((x.trans J).own u (fun q j=>by have:=Option.some.inj j;have:=b.out;rw[z.out];omega))
   clear h5 J h d1 d2 k1 k2 u b2
   generalize (R.setCell ⟨K,1,none⟩ (.string X)).setCell ⟨K,2,none⟩ (.string Y)=w5 at*
   obtain⟨b0,b1,b2,b3,b4,b5,b6,b7,-⟩:=cls a1
   obtain⟨z0,z1,z2,z3,z4,z5,z6,z7,-⟩:=cls H
   obtain⟨y0,y1,y2,y3,y4,y5,y6,y7,-⟩:=frz H
   have F:=aE H (eC 2 X Y 0 0 0 ⟨#[]⟩ none 0 0) rfl
   have k:=hid (ak g0 (eC 2 X Y 0 0 0 ⟨#[]⟩ none 0 0) w5 0)
   simp only[sts]at F
   have HZ:=hid F
   clear F
   go_wp2_with fail
   obtain⟨q0,q1,q2,q3,q4,q5,q6,q7,-⟩:=cls HZ
   exact bodyPost_ret (v:= .agg #[.int .i64 2,.string X,.string Y,.int .i64 0,.int .i64 0,.int .i64 0,.string ⟨#[]⟩,.slice none 0 0]) (by simp[results,Tryz.results106,go_sem,q0,q1,q2,q3,q4,q5,q6,q7]) rfl ⟨_,rfl,by rw[HC.out,hs];exact a2.grown k (fun q j=>by have:=b.out;have:=Option.some.inj j;omega),U.own k (fun q j=>by have:=Option.some.inj j;rw[z.out];omega),by rw[HC.out,hs];exact exG_col _ _ (by have:=I.out;omega) (by have:=an.out;omega)⟩
end
end
section
open Lx (Tk)
def symCs (l:List (ByteArray×Int)):List Value:=l.flatMap fun x=> [.string x.1,.int .i64 x.2]
theorem fh (l:List (ByteArray×Int)):∀(i:Nat) (x:ByteArray×Int),l[i]? =some x→(symCs l)[i*2]? =some (.string x.1)∧(symCs l)[i*2+1]? =some (.int .i64 x.2):=by
 induction l with
 |nil=>intro i x h;simp at h
 |cons y l ih=>
  intro i x h
  cases i with
  |zero=>simp at h;subst h;exact⟨rfl,rfl⟩
  |succ i=>
   have:=ih i x (by simpa using h)
   unfold symCs at*
   rw[List.flatMap_cons,show(i+1)*2=i*2+2 by omega,show i*2+2+1=(i*2+1)+2 by omega]
   simpa using this
theorem ent_sym:∀(args:Array Value) (W:World),(callFunc 151 args).run Tryz.prog W= .ok (.enter 151 args) W:=fun _ _=>by kernel_rfl
section
variable {P c:Nat} {A:Option Addr} {L:List Tk} {w0 w:World} {s:Ps}
theorem sym1_any (g:PsAt 68 P A c L w0 w s) (i:TkL L) (t:ByteArray) (o:Int) (f:Nat) (h:w.cell? ⟨f,0,none⟩=some (.pointer (some ⟨P,0,none⟩))):
  Calls Tryz.prog 151 #[.agg #[.string t,.int .i64 o],.pointer (some ⟨f,0,none⟩)] w (Ran 68 P A c L w0 w (aq t s).2 fun v _=>v= .bool (isS t s)):=by
 have b:=(Ext.refl w).alloc (.cells #[.string t,.int .i64 o] 120)
 have q:=hid b
 have u:=b.keep h
 have p:=hid (ai (g.ext b) i t)
 clear g b h
 go_enter Tryz.func151,Tryz.ntmps151
 go_wp2_with fail
 refine p.mono ?_
 rintro e r ⟨v,rfl,k,j,rfl⟩
 go_wp2_with fail
 go_ret
 exact⟨_,rfl,k,(Chg.of q).trans j,rfl⟩
theorem index_sym (H:PsAt 68 P A c L w0 w s) (U:TkL L) (ops:List (ByteArray×Int)) (z gs:Nat) (I:w.cell? ⟨z,0,none⟩=some (.pointer (some ⟨P,0,none⟩))) (hs:Blk w gs 120 (symCs ops)) (E:z≠P) (F:gs≠P) (Y:ops.length≤100):
  Calls Tryz.prog 150 #[.slice (some ⟨gs,0,none⟩) ops.length ops.length,.func (Fn.func 151) #[] #[.pointer (some ⟨z,0,none⟩)]] w
   (Ran 68 P A c L w0 w (firstP ops s).2 fun v _=> ∃i:Int,v= .int .i64 i∧(((firstP ops s).1=none∧i<0)∨∃(k:Nat) (t:ByteArray) (o:Int),i=k∧ops[k]? =some (t,o)∧(firstP ops s).1=some o)):=by
 have hE:=ent_sym
 go_enter Tryz.func150,Tryz.ntmps150
 go_wp2_with fail
 go_loopw [5,8] (fun _ W wr=> ∃(k:Nat),k≤ops.length∧W= .int .i64 k∧firstP ops s=firstP (ops.drop k) s∧PsAt 68 P A c L w0 wr s∧Chg P w wr) (fun _ i _=>ops.length- (intOf i).toNat)
 case atStart=>exact⟨0,Nat.zero_le _,rfl,rfl,H,Chg.refl P w⟩
 case round=>
  obtain⟨k,hk,rfl,r,f,b⟩:=hrel
  by_cases J:k<ops.length
  ·obtain⟨⟨t,o⟩,C⟩:∃x,ops[k]? =some x:=⟨_,List.getElem?_eq_getElem J⟩
   have hd:ops.drop k=(t,o)::ops.drop (k+1):=by
    obtain⟨p,y⟩:=List.getElem?_eq_some_iff.1 C
    rw[List.drop_eq_getElem_cons p,y]
   rw[hd,firstP]at r
   have B:=hid (b.blk hs F)
   obtain⟨K,O⟩:=fh ops k (t,o) C
   have c0:=B.cell_some K
   have c1:=B.cell_some O
   have G:=hid (sym1_any f U t o z (b.keep I E))
   have q:=hid r
   have D:=hid b
   have R:=hid C
   clear r f b C hd hs K O I H
   have X:(0:Int)≤(k:Int):=by omega
   have Z:(k:Int)<(ops.length:Int):=by omega
   go_wp2_with fail
   refine G.mono ?_
   rintro _ w2 ⟨v,rfl,p,y,rfl⟩
   have g:=hid (D.trans y)
   cases h:isS t s
   ·rw[h]at q
    have e:(aq t s).2=s:=by simp[aq,h]
    rw[e]at p
    have u:=hid p
    have j:=hid (q)
    clear p y G c0 c1 B
    go_wp2_with fail
    exact⟨⟨k+1,by omega,by go_num,j,u,g⟩,by simp[intOf];omega⟩
   ·rw[h]at q
    have e:(aq t s).2=s.next:=by simp[aq,h]
    rw[e]at p
    have u:=hid p
    have j:Hid (firstP ops s=(some o,s.next)):=q.out
    clear p y G c0 c1 B
    go_wp2_with fail
    go_ret
    exact⟨_,rfl,by rw[j.out];exact u,g,k,rfl,.inr ⟨k,t,o,rfl,R,by rw[j.out]⟩⟩
  ·obtain rfl:k=ops.length:=by omega
   rw[List.drop_length,firstP]at r
   have q:=hid r
   have u:=hid f
   have g:=hid b
   clear r f b H hs I
   go_wp2_with fail
   go_ret
   exact⟨_,rfl,by rw[q.out];exact u,g,-1,rfl,.inl ⟨by rw[q.out],by omega⟩⟩
end
end
end Go.Proofs.YtjigcpfjhfoheaaGreatDoor
