/- The parser in memory: its own block, its tokens; what else changes; What a call has built stays: facts that hold in every world that keeps some blocks; expressions built anew; Rows that are read element by element; Walks over the . -/
import Derived.Test.YtjigcpfjhfoheaaGreatDoorVac
import Derived.Test.YtjigcpfjhfoheaaGreatDoorVad
import Derived.Test.YtjigcpfjhfoheaaGreatDoorVah
import Derived.Deep.Cut
import Derived.Deep.RegionLaw
import Derived.Deep.RegionWith
import Derived.Deep.LoopGhost
import Derived.Deep.DeepMust
import Derived.Deep.RegionHeld3
import Derived.Deep.RegionHeldLaw
import Derived.Lib.ParseIntBTie
import Derived.Laws.Rows
import Derived.Great.BuildSlice
namespace Go.Proofs.YtjigcpfjhfoheaaGreatDoor
open Go.RowKit List Go.Proofs.Tryz
set_option maxHeartbeats 2000000
set_option maxRecDepth 100000
set_option linter.unusedVariables false
set_option linter.unusedSimpArgs false
section
open Lx (Tk)
def Chg (P:Nat) (w w':World):Prop:=w.grownBy w' (some P)
theorem ext_grown {w w':World} (f:Ext w w') (b:Option Nat):w.grownBy w' b:=⟨Below.os f,Below.tape f,Below.output f,Below.size f,fun i hi _=>Below.block f i hi⟩
theorem Chg.refl (P:Nat) (w:World):Chg P w w:=ext_grown (Ext.refl w) _
theorem Chg.of {P:Nat} {w w':World} (b:Ext w w'):Chg P w w':=ext_grown b _
theorem Chg.trans {P:Nat} {a b c:World} (h:Chg P a b) (k:Chg P b c):Chg P a c:=World.grownBy.trans h k
theorem Chg.ext {P:Nat} {a b c:World} (h:Chg P a b) (k:Ext b c):Chg P a c:=h.trans (Chg.of k)
theorem Chg.alloc {P:Nat} {a b:World} (h:Chg P a b) (o:Obj):Chg P a (b.alloc o):=h.ext (x10 b o)
theorem Chg.set {P:Nat} {a b:World} (h:Chg P a b) (j:Nat) (u:Value):Chg P a (b.setCell ⟨P,j,none⟩ u):=
 h.trans ⟨rfl,rfl,rfl,by simp[World.setCell],fun i _ hi=>Below.heap_setCell b ⟨P,j,none⟩ u i (fun e=>hi (by rw[e]))⟩
theorem Chg.size {P:Nat} {a b:World} (h:Chg P a b):a.heap.size≤b.heap.size:=World.grownBy.size h
theorem Chg.keep {P:Nat} {a b:World} (h:Chg P a b) {p:Addr} {v:Value} (g:a.cell? p=some v) (f:p.block≠P):b.cell? p=some v:=
 World.grownBy.cell h g fun e=>f (Option.some.inj e)
theorem Chg.blk {P:Nat} {a b:World} (h:Chg P a b) {g t:Nat} {cs:LV} (i:Blk a g t cs) (f:g≠P):Blk b g t cs:=i.grown h fun e=>f (Option.some.inj e)
structure TkL (L:List Tk):Prop where
 len:L.length≤20000
 last:∀(i:Nat) (a:Tk),L[i]? =some a→(a.kind=0↔i+1=L.length)
 kd:∀a∈L,a.kind≤5
 txt:∀a∈L,a.text.length≤20000
 pos:∀a∈L,a.pos≤20000
 num:∀a∈L,a.kind=3→a.text≠[]∧(∀c∈a.text,48≤c.toNat∧c.toNat≤57)∧digV (tkB a)≤2147483648∧(digV (tkB a)=0↔a.text= [48])
structure PsAt (T P:Nat) (A:OA) (c:Nat) (L:List Tk) (w0 w:World) (s:Ps):Prop where
 base:Ext w0 w
 low:w0.heap.size≤P
 blk:Blk w P T [.slice A L.length c,i4 ((L.length-s.r.length:Nat):Int),.bool s.bad]
 suf:s.r=L.drop (L.length-s.r.length)
 ne:0<s.r.length
 tks:∀(i:Nat) (a:Tk),L[i]? =some a→∃b off,A=some ⟨b,off,none⟩∧b<P∧w.cell? ⟨b,off+i*3,none⟩=some (i4 a.kind)∧w.cell? ⟨b,off+i*3+1,none⟩=some (.string (tkB a))∧
  w.cell? ⟨b,off+i*3+2,none⟩=some (i4 a.pos)
section
variable {T P c:Nat} {A:OA} {L:List Tk} {w0 w w':World} {s:Ps}
theorem PsAt.grown (h:PsAt T P A c L w0 w s) {b:Option Nat} (f:w.grownBy w' b) (j:∀q,b=some q→P<q):PsAt T P A c L w0 w' s:=
 ⟨h.base.grown f (fun q z=>by have:=j q z;have:=h.low;omega),h.low,h.blk.grown f (fun e=>by have:=j P e.symm;omega),h.suf,h.ne,fun i a y=>by
  obtain⟨g,k,p,r,t,u,x⟩:=h.tks i a y
  have ne:some g≠b:=fun e=>by have:=j g e.symm;omega
  exact⟨g,k,p,r,f.cell t ne,f.cell u ne,f.cell x ne⟩⟩
theorem PsAt.ext (h:PsAt T P A c L w0 w s) (b:Ext w w'):PsAt T P A c L w0 w' s:=h.grown (ext_grown b none) (fun _ e=>by cases e)
theorem PsAt.lt (h:PsAt T P A c L w0 w s):P<w.heap.size:=h.blk.lt
theorem PsAt.le (h:PsAt T P A c L w0 w s):s.r.length≤L.length:=by
 have:=congrArg List.length h.suf
 rw[length_drop]at this
 omega
theorem PsAt.lti (h:PsAt T P A c L w0 w s):L.length-s.r.length<L.length:=by
 have:=h.le
 have:=h.ne
 omega
theorem PsAt.head (h:PsAt T P A c L w0 w s):L[L.length-s.r.length]? =some s.hd:=by
 have f:=h.ne
 have b:=h.suf
 generalize L.length-s.r.length=i at b
 unfold Ps.hd
 rw[b,headD_eq_head?_getD,head?_drop]
 cases g:L[i]? with
 |some a=>rfl
 |none=>
  rw[List.getElem?_eq_none_iff]at g
  rw[b,length_drop]at f
  omega
theorem PsAt.mem (h:PsAt T P A c L w0 w s):s.hd∈L:=mem_of_getElem? h.head
theorem PsAt.cells (h:PsAt T P A c L w0 w s):∃b f,A=some ⟨b,f,none⟩∧b<P∧w.cell? ⟨b,f+(L.length-s.r.length)*3,none⟩=some (i4 s.hd.kind)∧w.cell? ⟨b,f+(L.length-s.r.length)*3+1,none⟩=some (.string (tkB s.hd))∧
  w.cell? ⟨b,f+(L.length-s.r.length)*3+2,none⟩=some (i4 s.hd.pos):=h.tks _ _ h.head
theorem PsAt.ne_of (h:PsAt T P A c L w0 w s) (b:TkL L) (f:s.hd.kind≠0):1<s.r.length:=by
 have g:¬(L.length-s.r.length+1=L.length):=fun e=>f ((b.last _ _ h.head).2 e)
 have:=h.le
 have:=h.ne
 omega
theorem PsAt.next (h:PsAt T P A c L w0 w s) (z:TkL L) (C:s.hd.kind≠0):PsAt T P A c L w0 (w.setCell ⟨P,1,none⟩ (i4 (((L.length-s.r.length:Nat):Int)+1))) s.next:=by
 have k:=h.ne_of z C
 have p:=h.le
 have t:s.next.r.length=s.r.length-1:=by simp[Ps.next]
 refine⟨h.base.setCell h.low _,h.low,?_,?_,by omega,fun i a B=>?_⟩
 ·have:=h.blk.set 1 (i4 (((L.length-s.r.length:Nat):Int)+1))
  rw[t]
  have e:((L.length- (s.r.length-1):Nat):Int)=((L.length-s.r.length:Nat):Int)+1:=by omega
  rw[e]
  exact this
 ·rw[t]
  show s.r.tail=_
  rw[show L.length- (s.r.length-1)=L.length-s.r.length+1 by omega,←tail_drop,←h.suf]
 ·obtain⟨j,g,k,p,u,x,y⟩:=h.tks i a B
  have f:=(Chg.refl P w).set 1 (i4 (((L.length-s.r.length:Nat):Int)+1))
  have b:j≠P:=by omega
  exact⟨j,g,k,p,f.keep u b,f.keep x b,f.keep y b⟩
theorem PsAt.fail (h:PsAt T P A c L w0 w s):PsAt T P A c L w0 (w.setCell ⟨P,2,none⟩ (.bool true)) s.fail:=
 ⟨h.base.setCell h.low _,h.low,h.blk.set 2 (.bool true),h.suf,h.ne,fun i a x=>by
  obtain⟨j,g,k,p,r,t,u⟩:=h.tks i a x
  have f:=(Chg.refl P w).set 2 (.bool true)
  have b:j≠P:=by omega
  exact⟨j,g,k,p,f.keep r b,f.keep t b,f.keep u b⟩⟩
end
def Ran (T P:Nat) (A:OA) (c:Nat) (L:List Tk) (w0 w:World) (s':Ps) (Q:Value→World→Prop):Ending→World→Prop:=fun e w'=>
 ∃v,e= .returned v∧PsAt T P A c L w0 w' s'∧Chg P w w'∧Q v w'
end
section
open Lx (Tk)
def Stb (S:Nat→Prop) (w:World) (Φ:World→Prop):Prop:=∀w':World,w.heap.size≤w'.heap.size→(∀q,q<w.heap.size→S q→w'.heap[q]? =w.heap[q]?)→Φ w'
section
variable {S S':Nat→Prop} {w w':World} {Φ Ψ:World→Prop}
theorem Stb.now (h:Stb S w Φ):Φ w:=h w (Nat.le_refl _) fun _ _ _=>rfl
theorem Stb.step (h:Stb S w Φ) (hs:w.heap.size≤w'.heap.size) (j:∀q,q<w.heap.size→S q→w'.heap[q]? =w.heap[q]?):Stb S w' Φ:=fun k g i=>
 h k (Nat.le_trans hs g) fun q f b=> (i q (Nat.lt_of_lt_of_le f hs) b).trans (j q f b)
theorem Stb.grown (h:Stb S w Φ) {b:Option Nat} (f:w.grownBy w' b) (g:∀q,S q→b≠some q):Stb S w' Φ:=
 h.step (World.grownBy.size f) fun q i hs=>World.grownBy.block f q i fun e=>g q hs e.symm
theorem Stb.ext (h:Stb S w Φ) (b:Ext w w'):Stb S w' Φ:=h.step b.size fun q f _=>Below.block b q f
theorem Stb.weak (h:Stb S w Φ) (hs:∀q,q<w.heap.size→S q→S' q):Stb S' w Φ:=fun j f g=>h j f fun q b i=>g q b (hs q b i)
theorem Stb.chg {P n:Nat} (h:Stb (n≤·) w Φ) (b:Chg P w w') (f:P<n):Stb (n≤·) w' Φ:=h.grown b fun q g e=>by have:=Option.some.inj e;omega
theorem Stb.imp (h:Stb S w Φ) (hi:∀b,Φ b→Ψ b):Stb S w Ψ:=fun b f g=>hi b (h b f g)
theorem Stb.and (h:Stb S w Φ) (k:Stb S w Ψ):Stb S w (fun b=>Φ b∧Ψ b):=fun b f g=>⟨h b f g,k b f g⟩
theorem Stb.of {P:Prop} (h:P):Stb S w (fun _=>P):=fun _ _ _=>h
end
theorem Stb.cell {S:Nat→Prop} {w:World} {p:Addr} {v:Value} (h:w.cell? p=some v) (g:S p.block):Stb S w (fun b=>b.cell? p=some v):=fun b _ f=>
 (World.cell?_of_block (f p.block (World.block_lt_of_cell? w p h) g)).trans h
theorem Stb.blk {S:Nat→Prop} {w:World} {g T:Nat} {cs:LV} (h:Blk w g T cs) (i:S g):Stb S w (fun b=>Blk b g T cs):=fun b _ f=> (f g h.lt i).trans h
def ExG (n:Nat) (w:World) (e:Ex) (v:Value):Prop:=∃A k c,v=e.d.val A k c∧Stb (n≤·) w (fun w'=>ExV w' e A k c)
section
variable {n m P:Nat} {w w':World} {e:Ex} {v:Value}
theorem ExG.chg (h:ExG n w e v) (i:Chg P w w') (g:P<n):ExG n w' e v:=by
 obtain⟨A,k,c,b,f⟩:=h
 exact⟨A,k,c,b,f.chg i g⟩
theorem ExG.ext (h:ExG n w e v) (g:Ext w w'):ExG n w' e v:=by
 obtain⟨A,k,c,b,f⟩:=h
 exact⟨A,k,c,b,f.ext g⟩
theorem ExG.mono (h:ExG n w e v) (g:m≤n):ExG m w e v:=by
 obtain⟨A,k,c,b,f⟩:=h
 exact⟨A,k,c,b,f.weak fun q _ i=>Nat.le_trans g i⟩
end
theorem cy:I64 0:=by unfold I64;omega
theorem rv:I64 1:=by unfold I64;omega
theorem lb:I64 2:=by unfold I64;omega
theorem fit_op {o:Int} (b:I64 o):(⟨o,⟨#[]⟩,⟨#[]⟩,0,0,0,⟨#[]⟩⟩:Nd).fit:=⟨b,cy,cy,cy,by show 0≤9223372036854775807;omega,by show 0≤9223372036854775807;omega,by show 0≤9223372036854775807;omega⟩
theorem exG_leaf (n:Nat) (w:World) {d:Nd} (b:d.fit):ExG n w (.mk d []) (d.val none 0 0):=
 ⟨none,0,0,rfl,fun w' _ _=>⟨rfl,by omega,b,by unfold KidsAt Ex.ks;trivial⟩⟩
theorem exG_col (n:Nat) (w:World) {t m:BA} (f:t.size≤9223372036854775807) (b:m.size≤9223372036854775807):ExG n w (colE t m) (.agg #[i4 2,.string t,.string m,i4 0,i4 0,i4 0,.string ⟨#[]⟩,.slice none 0 0]):=
 exG_leaf n w (d:=⟨2,t,m,0,0,0,⟨#[]⟩⟩) ⟨lb,cy,cy,cy,f,b,by show 0≤9223372036854775807;omega⟩
def exCs (l:List (Ex×OA×Nat×Nat)):LV:=l.flatMap fun x=>x.1.d.cells x.2.1 x.2.2.1 x.2.2.2
theorem kK (x:Ex×OA×Nat×Nat) (l:List (Ex×OA×Nat×Nat)):exCs (x::l)=x.1.d.cells x.2.1 x.2.2.1 x.2.2.2++exCs l:=by simp[exCs]
theorem exCs_get (l:List (Ex×OA×Nat×Nat)):∀(i j:Nat) (x:Ex×OA×Nat×Nat),l[i]? =some x→j<8→(exCs l)[i*8+j]? =(x.1.d.cells x.2.1 x.2.2.1 x.2.2.2)[j]? :=by
 induction l with
 |nil=>intro i j x h;simp at h
 |cons y l ih=>
  intro i j x h b
  rw[kK]
  have f:(y.1.d.cells y.2.1 y.2.2.1 y.2.2.2).length=8:=rfl
  cases i with
  |zero=>
   simp at h
   subst h
   rw[getElem?_append_left (by omega)]
   simp
  |succ i=>
   rw[getElem?_append_right (by omega),f,show(i+1)*8+j-8=i*8+j by omega]
   exact ih i j x (by simpa using h) b
theorem uP {w:World} {g T:Nat} (l:List (Ex×OA×Nat×Nat)) (t:Blk w g T (exCs l)) (u:∀x∈l,ExV w x.1 x.2.1 x.2.2.1 x.2.2.2):KidsAt w (some ⟨g,0,none⟩) (l.map (·.1)):=by
 unfold KidsAt
 rw[dO]
 intro j e b
 rw[getElem?_map]at b
 cases h:l[j]? with
 |none=>rw[h]at b;cases b
 |some x=>
  rw[h]at b
  simp at b
  subst b
  have f:=u x (mem_of_getElem? h)
  refine⟨x.1.d.cells x.2.1 x.2.2.1 x.2.2.2,⟨g,0,rfl,fun i v hi=>?_⟩,?_⟩
  ·have p:i<8:=(List.getElem?_eq_some_iff.1 hi).1
   have:=exCs_get l j i x h p
   rw[show 0+(0+j)*8+i=j*8+i by omega]
   exact t.cell_some (this.trans hi)
  ·obtain⟨e,B,k,c⟩:=x
   cases e with
   |mk d ks=>
    rw[ExC]
    have r:ks.length=k:=f.len
    subst r
    exact⟨f.fit,f.le,B,c,rfl,f.kids⟩
def ExS (S:Nat→Prop) (w:World) (e:Ex) (A:OA) (k c:Nat):Prop:=Stb S w (fun w'=>ExV w' e A k c)
theorem ta {S:Nat→Prop} {T:Nat} {w:World} {a b:Ex} {A B:OA} {k c g c':Nat} {o:Int} (y:I64 o) (u:S w.heap.size) (r:ExS S w a A k c) (t:ExS S w b B g c'):
  ExS S (w.alloc (.cells (a.d.cells A k c++b.d.cells B g c').toArray T)) (opE o [a,b]) (some ⟨w.heap.size,0,none⟩) 2 2:=by
 have f:=x10 w (.cells (a.d.cells A k c++b.d.cells B g c').toArray T)
 have h:=Stb.blk (S:=S) (Blk.of_new w T (a.d.cells A k c++b.d.cells B g c')) u
 refine((h.and (Stb.ext r f)).and (Stb.ext t f)).imp fun z ⟨⟨i,j⟩,p⟩=>⟨rfl,by omega,fit_op y,?_⟩
 refine uP [(a,A,k,c),(b,B,g,c')] (by rw[kK,kK];simpa[exCs] using i) fun x f=>?_
 simp at f
 rcases f with rfl|rfl
 ·exact j
 ·exact p
def Sx (g0 ge:Nat) (q:Nat):Prop:=g0+1≤q∧q≠ge
theorem exS_op1 {S:Nat→Prop} {T:Nat} {w:World} {a:Ex} {A:OA} {k c:Nat} {o:Int} (j:I64 o) (i:S w.heap.size) (g:ExS S w a A k c):
  ExS S (w.alloc (.cells (a.d.cells A k c).toArray T)) (opE o [a]) (some ⟨w.heap.size,0,none⟩) 1 1:=by
 have h:=Stb.blk (S:=S) (Blk.of_new w T (a.d.cells A k c)) i
 have p:=Stb.ext g (x10 w (.cells (a.d.cells A k c).toArray T))
 refine(h.and p).imp fun t ⟨b,f⟩=>⟨rfl,by omega,fit_op j,?_⟩
 exact uP [(a,A,k,c)] (by rw[kK];simpa[exCs] using b) (fun x r=>by rw[List.mem_singleton.1 r];exact f)
theorem pR (S:Nat→Prop) (w:World) {d:Nd} (b:d.fit):ExS S w (.mk d []) none 0 0:=fun w' _ _=>⟨rfl,by omega,b,by unfold KidsAt Ex.ks;trivial⟩
theorem oW (S:Nat→Prop) (w:World) {k i:Int} {t:BA} (b:I64 k) (hi:I64 i) (f:t.size≤9223372036854775807):ExS S w (dF k i t) none 0 0:=
 pR S w (d:=⟨1,⟨#[]⟩,⟨#[]⟩,0,k,i,t⟩) ⟨rv,cy,b,hi,by show 0≤9223372036854775807;omega,by show 0≤9223372036854775807;omega,f⟩
theorem PsAt.tok_size {T P c:Nat} {A:OA} {L:List Tk} {w0 w:World} {s:Ps} (h:PsAt T P A c L w0 w s) (b:TkL L):(tkB s.hd).size≤20000:=by
 have:=b.txt _ h.mem
 simpa[tkB,ByteArray.size] using this
theorem PsAt.tak_size {T P c:Nat} {A:OA} {L:List Tk} {w0 w:World} {s:Ps} (h:PsAt T P A c L w0 w s) (b:TkL L) (k:Nat):(takP k s).1.size≤20000:=by
 unfold takP
 split
 ·exact h.tok_size b
 ·show 0≤20000;omega
theorem PsAt.num_le {T P c:Nat} {A:OA} {L:List Tk} {w0 w:World} {s:Ps} (h:PsAt T P A c L w0 w s) (f:TkL L):0≤(numP s).1∧(numP s).1≤2147483648:=by
 unfold numP takP
 split
 ·next hk=>
  have b:s.hd.kind=3:=by simp[hasK]at hk;exact hk.2
  exact⟨by unfold digV;omega,(f.num _ h.mem b).2.2.1⟩
 ·show(0:Int)≤0∧(0:Int)≤2147483648
  omega
def sts (w:World) (g:Nat):Nat→LV→World
 |_,[]=>w
 |i,v::vs=>sts (w.setCell ⟨g,i,none⟩ v) g (i+1) vs
theorem gm (g:Nat) (b:LV):∀(w:World) (i:Nat),w.grownBy (sts w g i b) (some g):=by
 induction b with
 |nil=>intro w i;exact ext_grown (Ext.refl w) _
 |cons v b ih=>
  intro w i
  have f:w.grownBy (w.setCell ⟨g,i,none⟩ v) (some g):=⟨rfl,rfl,rfl,by simp[World.setCell],fun j _ h=>Below.heap_setCell w ⟨g,i,none⟩ v j (fun e=>h (by rw[e]))⟩
  exact World.grownBy.trans f (ih _ _)
theorem wO (g T:Nat) (f:LV):∀(w:World) (pre b:LV),b.length=f.length→Blk w g T (pre++b)→Blk (sts w g pre.length f) g T (pre++f):=by
 induction f with
 |nil=>
  intro w pre b i h
  rw[eq_nil_of_length_eq_zero i]at h
  exact h
 |cons v f ih=>
  intro w pre b i h
  cases b with
  |nil=>simp at i
  |cons o b=>
   have j:=h.set pre.length v
   rw[set_append_right _ _ (Nat.le_refl _),Nat.sub_self,set_cons_zero]at j
   have k:=ih (w.setCell ⟨g,pre.length,none⟩ v) (pre++ [v]) b (by simpa using i) (by simpa using j)
   rw[sts]
   simpa using k
theorem mq {w:World} {g T:Nat} {b:LV} (h:Blk w g T b) (f:LV) (i:b.length=f.length):Blk (sts w g 0 f) g T f:=wO g T f w [] b i h
theorem Chg.own {P:Nat} {a b c:World} (h:Chg P a b) {g:Option Nat} (f:b.grownBy c g) (k:∀q,g=some q→a.heap.size≤q):Chg P a c:=
 ⟨(World.grownBy.os f).trans (World.grownBy.os h),(World.grownBy.tape f).trans (World.grownBy.tape h),(World.grownBy.output f).trans (World.grownBy.output h),Nat.le_trans (World.grownBy.size h) (World.grownBy.size f),fun i hi j=>
  (World.grownBy.block f i (Nat.lt_of_lt_of_le hi (World.grownBy.size h)) fun e=>by have:=k i e.symm;omega).trans (World.grownBy.block h i hi j)⟩
end
section
open Lx (Tk)
def Lst {α:Type} (Φ:α→LV→World→Prop) (sz:Nat) (w:World) (A:OA) (l:List α):Prop:=∀(i:Nat) (a:α),l[i]? =some a→∃cs,cs.length=sz∧CellsAt w A (i*sz) cs∧Φ a cs w
structure lF {α:Type} (Φ:α→LV→World→Prop) (T sz n0:Nat) (w:World) (v:Value) (l:List α) (css:List (LV)):Prop where
 len:css.length=l.length
 each:∀cs∈css,cs.length=sz
 own:w.ownsRow n0 T sz v l.length css.flatten
 at_:∀(i:Nat) (a:α) (cs:LV),l[i]? =some a→css[i]? =some cs→Stb (fun q=>n0≤q∧v.ownBlock≠some q) w (Φ a cs)
section
variable {α:Type} {Φ:α→LV→World→Prop} {T sz n0 P:Nat} {w w':World} {v v':Value} {l:List α} {css:List (LV)}
theorem lF.chg (h:lF Φ T sz n0 w v l css) (f:Chg P w w') (k:P<n0):lF Φ T sz n0 w' v l css:=
 ⟨h.len,h.each,h.own.kept f (by
   cases j:v.ownBlock with
   |none=>exact .inl rfl
   |some q=>exact .inr fun e=>by have:=(h.own.lt q j).1;have:=Option.some.inj e;omega),
  fun i a cs hi b=> (h.at_ i a cs hi b).grown f fun q g e=>by have:=g.1;have:=Option.some.inj e;omega⟩
theorem lF.ext (h:lF Φ T sz n0 w v l css) (f:Ext w w'):lF Φ T sz n0 w' v l css:=
 ⟨h.len,h.each,h.own.kept (ext_grown f none) (by
   cases g:v.ownBlock with
   |none=>exact .inl rfl
   |some q=>exact .inr fun e=>by cases e),
  fun i a cs hi b=> (h.at_ i a cs hi b).ext f⟩
theorem own_new (w:World) (n0 T sz:Nat) (cs:LV) (b:cs.length=sz) (f:n0≤w.heap.size):(w.alloc (.cells cs.toArray T)).ownsRow n0 T sz (.slice (some ⟨w.heap.size,0,none⟩) 1 1) 1 cs:=
 ⟨by omega,.inr ⟨w.heap.size,1,cs.toArray,rfl,f,heap_alloc_new w _,Nat.le_refl _,by unfold maxLen;omega,by simp[b],by simpa using take_of_length_le (Nat.le_of_eq b)⟩⟩
theorem lF.start (cs:LV) {a:α} (g:cs.length=sz) (k:n0≤w.heap.size) (j:Stb (n0≤·) w (Φ a cs)):
  lF Φ T sz n0 (w.alloc (.cells cs.toArray T)) (.slice (some ⟨w.heap.size,0,none⟩) 1 1) [a] [cs]:=by
 refine⟨rfl,fun x p=>by rw[List.mem_singleton.1 p];exact g,by simpa using own_new w n0 T sz cs g k,fun i b ds hi f=>?_⟩
 cases i with
 |zero=>
  simp at hi f
  subst hi f
  exact(j.weak (S':=fun q=>n0≤q∧(Value.slice (some ⟨w.heap.size,0,none⟩) 1 1).ownBlock≠some q) fun q r h=>⟨h,fun e=>by simp[Value.ownBlock]at e;omega⟩).ext (x10 w _)
 |succ i=>simp at hi
theorem lF.push (h:lF Φ T sz n0 w v l css) {a:α} {cs:LV} (E:cs.length=sz) (F:w'.ownsRow n0 T sz v' (l.length+1) (css.flatten++cs)) (C:w.grownBy w' v.ownBlock) (g:v'.ownBlock=v.ownBlock∨v'.ownBlock=some w.heap.size)
  (B:Stb (fun q=>n0≤q∧v.ownBlock≠some q) w (Φ a cs)):lF Φ T sz n0 w' v' (l++ [a]) (css++ [cs]):=by
 have r:∀ {Ψ:World→Prop},Stb (fun q=>n0≤q∧v.ownBlock≠some q) w Ψ→Stb (fun q=>n0≤q∧v'.ownBlock≠some q) w' Ψ:=fun {Ψ} hs=>by
  have u:=hs.weak (S':=fun q=> (n0≤q∧v'.ownBlock≠some q)∧v.ownBlock≠some q) fun q t j=>⟨⟨j.1,fun e=>by
   rcases g with g|g
   ·exact j.2 (g.symm.trans e)
   ·rw[g]at e
    have:=Option.some.inj e
    omega⟩,j.2⟩
  have z:=u.grown C fun q t=>t.2
  intro G y D
  exact z G y fun q t j=>D q t j.1
 refine⟨by simp[h.len],fun x p=>?_,by simpa using F,fun i b ds hi f=>?_⟩
 ·rcases List.mem_append.1 p with p|p
  ·exact h.each x p
  ·rw[List.mem_singleton.1 p];exact E
 ·by_cases k:i<l.length
  ·rw[getElem?_append_left k]at hi
   rw[getElem?_append_left (by rw[h.len];exact k)]at f
   exact r (h.at_ i b ds hi f)
  ·have u:=(List.getElem?_eq_some_iff.1 hi).1
   rw[length_append,length_singleton]at u
   obtain rfl:i=l.length:=by omega
   rw[getElem?_append_right (Nat.le_refl _),Nat.sub_self]at hi
   rw[←h.len,getElem?_append_right (Nat.le_refl _),Nat.sub_self]at f
   simp at hi f
   subst hi f
   exact r B
theorem pS {sz:Nat} :∀(css:List (LV)),(∀cs∈css,cs.length=sz)→∀(i j:Nat) (cs:LV) (v:Value),css[i]? =some cs→cs[j]? =some v→css.flatten[i*sz+j]? =some v
 | [],_,i,j,cs,v,h,_=>by simp at h
 |x::css,he,i,j,cs,v,h,hv=>by
  have b:=he x (mem_cons_self ..)
  rw[flatten_cons]
  cases i with
  |zero=>
   simp at h
   subst h
   rw[getElem?_append_left (by have:=(List.getElem?_eq_some_iff.1 hv).1;omega)]
   simpa using hv
  |succ i=>
   have g:=(List.getElem?_eq_some_iff.1 hv).1
   rw[getElem?_append_right (by rw[b,Nat.succ_mul];omega),b,show(i+1)*sz+j-sz=i*sz+j by rw[Nat.succ_mul];omega]
   exact pS css (fun c f=>he c (mem_cons_of_mem _ f)) i j cs v (by simpa using h) hv
theorem lF.fin (h:lF Φ T sz n0 w v l css):∃A c,v= .slice A l.length c∧Stb (n0≤·) w (fun f=>Lst Φ sz f A l):=by
 rcases h.own.2 with ⟨hv,h0⟩|⟨g,cap,cur,hv,hg,hh,hnc,hcm,hcs,htk⟩
 ·refine⟨none,0,by rw[hv,h0],fun f _ _ i a hi=>?_⟩
  have:=(List.getElem?_eq_some_iff.1 hi).1
  omega
 ·refine⟨some ⟨g,0,none⟩,cap,hv,fun f hs x i a hi=>?_⟩
  have t:=(List.getElem?_eq_some_iff.1 hi).1
  obtain⟨cs,k⟩:∃cs,css[i]? =some cs:=⟨_,getElem?_eq_getElem (by rw[h.len];exact t)⟩
  have r:g<w.heap.size:=(Array.getElem?_eq_some_iff.1 hh).1
  refine⟨cs,h.each cs (mem_of_getElem? k),⟨g,0,rfl,fun j u B=>?_⟩,(h.at_ i a cs hi k) f hs fun q z y=>x q z y.1⟩
  have b:=pS css h.each i j cs u k B
  rw[←htk,getElem?_take]at b
  have p:=(x g r hg).trans hh
  split at b
  ·rw[Nat.zero_add]
   simp[World.cell?,p]
   simpa using b
  ·cases b
end
end
section
open Lx (Tk)
theorem jh (a b:BA):(a.toList==b.toList)=decide (a=b):=by
 rw[ByteArray.toList_eq,ByteArray.toList_eq,Bool.eq_iff_iff,beq_iff_eq,decide_eq_true_iff]
 constructor
 ·intro h
  cases a;cases b
  simp only[ByteArray.mk.injEq]
  exact Array.toList_inj.1 h
 ·rintro rfl;rfl
section
variable {P c:Nat} {A:OA} {L:List Tk} {w0 w:World} {s:Ps}
theorem is_any (p:PsAt 68 P A c L w0 w s) (D:TkL L) (t:BA):
  Cl 98 #[.pointer (some ⟨P,0,none⟩),.string t] w fun e w'=>e= .returned (.bool (isS t s))∧Ext w w':=by
 obtain⟨b,U,I,J,c0,c1,c2⟩:=p.cells
 subst I
 obtain⟨E,F,C,-⟩:=cls p.blk
 have hi:=p.lti
 have Z:=D.len
 have H:Hid (isS t s=(!s.bad&& ((s.hd.kind==2||s.hd.kind==5) &&decide (tkB s.hd=t)))):=rfl
 generalize isS t s=B at*
 generalize L.length-s.r.length=i at*
 generalize s.hd.kind=K at*
 generalize s.hd.pos=g at*
 generalize tkB s.hd=X at*
 generalize s.bad=bd at*
 have i0:(0:Int)≤(i:Int):=by omega
 have i1:(i:Int)<(L.length:Int):=by omega
 have f:=x10 w (.cells #[i4 0,.string ⟨#[]⟩,i4 0] 70)
 have W:=hid f
 have ap0:=f.keep E
 have ap1:=f.keep F
 have z:=f.keep C
 have u:=f.keep c0
 have x:=f.keep c1
 have y:=f.keep c2
 clear p D f
 go_enter func98,ntmps98
 go_upto_region 1 with fail
 go_region
 have j:Ext w (w.alloc (.cells #[i4 (K:Int),.string X,i4 (g:Int)] 70)).drew:=(x10 w _).drew
 have k:Blk (w.alloc (.cells #[i4 (K:Int),.string X,i4 (g:Int)] 70)).drew w.heap.size 70 [i4 (K:Int),.string X,i4 (g:Int)]:=(Blk.of_new w 70 [i4 (K:Int),.string X,i4 (g:Int)]).drew
 have q2:=j.keep C
 obtain⟨t0,t1,-⟩:=cls k
 have h:=hid j
 clear j k E F C c0 c1 c2 ap0 ap1 z u x y J hi
 generalize (w.alloc (.cells #[i4 (K:Int),.string X,i4 (g:Int)] 70)).drew=w1 at*
 generalize w.heap.size=Y at*
 have G:=H.out
 subst G
 by_cases O:K=2
 ·subst O
  cases bd<;> (go_wp2_with fail;go_ret;exact⟨aa (by simp[jh, *]),h⟩)
 ·by_cases R:K=5
  ·subst R
   cases bd<;> (go_wp2_with fail;go_ret;exact⟨aa (by simp[jh, *]),h⟩)
  ·cases bd<;> (go_wp2_with fail;go_ret;exact⟨aa (by simp[jh, *]),h⟩)
theorem gP (p:PsAt 68 P A c L w0 w s) (k:TkL L) (t:BA):
  Cl 53 #[.pointer (some ⟨P,0,none⟩),.string t] w (Ran 68 P A c L w0 w (ir t s).2 fun v _=>v= .bool (isS t s)):=by
 have y:=hid p
 have u:=hid (is_any p k t)
 clear p
 go_enter func53,ntmps53
 go_wp2_with fail
 refine u.mono ?_
 rintro e E ⟨rfl,f⟩
 have b:=hid (y.ext f)
 have D:=b.blk.cell_some (i:=1) rfl
 have B:=b.blk.frozen 1
 have g:=hid f
 clear f u
 have h:(ir t s).2=if isS t s=true then s.next else s:=rfl
 have x:=hid h
 clear h
 cases hs:isS t s
 ·go_wp2_with fail
  go_ret
  exact⟨_,rfl,by rw[x.out,hs];exact b,Chg.of g,by rw[hs];rfl⟩
 ·have z:s.hd.kind≠0:=by
   intro e
   simp[isS,e]at hs
  have j:=hid (b.next k z)
  have hi:=b.lti
  have C:=k.len
  generalize L.length-s.r.length=i at*
  go_wp2_with fail
  go_ret
  exact⟨_,rfl,by rw[x.out,hs];exact j,(Chg.of g).set _ _,by rw[hs];rfl⟩
theorem need_any (p:PsAt 68 P A c L w0 w s) (y:TkL L) (t:BA) (g:Nat) (B:w.cell? ⟨g,0,none⟩=some (.string t)):
  Cl 44 #[.pointer (some ⟨P,0,none⟩),.slice (some ⟨g,0,none⟩) 1 1] w (Ran 68 P A c L w0 w (needP t s) fun _ _=>True):=by
 have u:=hid (gP p y t)
 have k:Hid (needP t s=if isS t s=true then s.next else s.fail):=rfl
 have x:Hid ((ir t s).2=if isS t s=true then s.next else s):=rfl
 clear p
 go_enter func44,ntmps44
 go_wp2_with fail
 go_loopw [8] (fun r wr=> (r= i4 0∧wr=w)∨(r= i4 1∧PsAt 68 P A c L w0 wr (needP t s)∧Chg P w wr)) (fun i _=>2- (intOf i).toNat)
 case atStart=>exact .inl ⟨rfl,rfl⟩
 case round=>
  rcases hrel with ⟨rfl,rfl⟩|⟨rfl,hp2,hg2⟩
  ·go_wp2_with fail
   refine u.mono ?_
   rintro e E ⟨D,rfl,b,h,rfl⟩
   rw[x.out]at b
   cases hs:isS t s
   ·rw[hs]at b k
    have f:=hid b.fail
    have z:=b.blk.frozen 2
    have C:=b.blk.cell_some (i:=2) rfl
    have j:=hid (h.set 2 (.bool true))
    clear b h
    go_wp2_with fail
    exact⟨.inr ⟨rfl,by rw[k.out];exact f,j⟩,by simp[intOf]⟩
   ·rw[hs]at b k
    have f:=hid b
    have j:=hid h
    clear b h
    go_wp2_with fail
    exact⟨.inr ⟨rfl,by rw[k.out];exact f,j⟩,by simp[intOf]⟩
  ·have f:=hid hp2
   have j:=hid hg2
   clear hp2 hg2
   go_wp2_with fail
   exact bodyPost_end (v:= .tuple #[]) (by simp[results,results44,go_sem]) rfl ⟨_,rfl,f,j,trivial⟩
end
end
section
open Lx (Tk)
theorem dv_ge (l:List UInt8):∀v:Nat,v≤l.foldl (fun v c=>10*v+(c.toNat-48)) v:=by
 induction l with
 |nil=>intro v;exact Nat.le_refl _
 |cons a l ih=>intro v;rw[foldl_cons];exact Nat.le_trans (by omega) (ih _)
theorem pu_dig (l:List UInt8):∀v:Nat,(∀c∈l,48≤c.toNat∧c.toNat≤57)→l.foldl (fun v c=>10*v+(c.toNat-48)) v≤2147483648→Lib.parseUint10 v l= .ok (l.foldl (fun v c=>10*v+(c.toNat-48)) v):=by
 induction l with
 |nil=>intro v _ _;rfl
 |cons a l ih=>
  intro v hd b
  have f:=hd a (mem_cons_self ..)
  rw[foldl_cons]at b ⊢
  have h:=dv_ge l (10*v+(a.toNat-48))
  rw[Lib.parseUint10,if_pos f,if_neg (by omega),if_neg (by omega),Nat.mul_comm v 10]
  exact ih _ (fun c g=>hd c (mem_cons_of_mem _ g)) b
theorem pi_dig (l:List UInt8) (f:l≠[]) (hd:∀c∈l,48≤c.toNat∧c.toNat≤57) (b:Lx.digVal l≤2147483648):Lib.parseIntB 64 l= .ok ((Lx.digVal l:Nat):Int):=by
 rw[Lib.parseIntB_64]
 have g:=pu_dig l 0 hd b
 cases l with
 |nil=>exact absurd rfl f
 |cons c r=>
  have h:=hd c (mem_cons_self ..)
  unfold Lib.atoiAll
  dsimp only
  rw[if_neg (by omega)]
  unfold Lib.parseMag
  rw[if_neg (by simp),g]
  dsimp only
  change Lx.digVal (c::r)≤_ at b
  have e:List.foldl (fun v (c:UInt8)=>10*v+(c.toNat-48)) 0 (c::r)=Lx.digVal (c::r):=rfl
  rw[e,if_neg (by omega),if_neg (by omega),if_neg (by omega)]
theorem tok_int {L:List Tk} (f:TkL L) {a:Tk} (g:a∈L) (k:a.kind=3) (w:World):
  Cl 234 #[.string (tkB a),i4 10,i4 64] w fun e w'=>e= .returned (.tuple #[i4 (digV (tkB a)),.nilIface])∧Ext w w':=by
 obtain⟨i,j,b,r⟩:=f.num a g k
 have p:Lib.parseIntB 64 (tkB a).data.toList= .ok (digV (tkB a)):=by
  have e:(tkB a).data.toList=a.text:=by simp[tkB]
  unfold digV at b ⊢
  rw[e]at b ⊢
  exact pi_dig _ i j (by omega)
 have hs:(tkB a).size=a.text.length:=by simp[tkB,ByteArray.size]
 have:=f.txt a g
 refine(Tryz.strconv_ParseInt_10_at64_ok _ (by omega) _ p w).mono ?_
 rintro e w' ⟨rfl,h⟩
 refine⟨rfl,?_⟩
 rcases h with rfl|⟨t,rfl⟩
 ·exact Ext.refl _
 ·exact Lib.bytesWorld_below _ _ _
theorem tc {w w':World} (h:Er w) (b:Ext w w'):Er w':=by
 obtain⟨⟨j,i,f⟩,k,pf,g⟩:=h
 exact⟨⟨j,i,b.keep f⟩,k,pf,b.keep g⟩
theorem no_int (w:World) (f:Er w):
  Cl 234 #[.string ⟨#[]⟩,i4 10,i4 64] w fun e w'=> ∃x,e= .returned (.tuple #[i4 0,x])∧Ext w w':=by
 obtain⟨⟨i,h,b⟩,_⟩:=f
 refine(Any.strconv_ParseInt_10_at64_syntax Tryz.laysC174 ⟨#[]⟩ (by show 0≤281474976710656;omega) (by rw[Lib.parseIntB_64];rfl) _ w b (.inr ⟨i,h,rfl⟩)).mono ?_
 rintro e w' ⟨n,rfl,_,_,g⟩
 exact⟨_,rfl,g⟩
end
section
open Lx (Tk)
theorem nat_beq (a b:Nat):((a:Int)==(b:Int))=(a==b):=by
 rw[Bool.eq_iff_iff]
 simp
 omega
section
variable {P c:Nat} {A:OA} {L:List Tk} {w0 w:World} {s:Ps}
theorem oX (f:PsAt 68 P A c L w0 w s) (g:TkL L) (k:Nat):
  Cl 43 #[.pointer (some ⟨P,0,none⟩),i4 (k:Nat)] w fun e w'=>e= .returned (.bool (hasK k s))∧Ext w w':=by
 obtain⟨b,t,p,u,c0,c1,c2⟩:=f.cells
 subst p
 obtain⟨C,D,E,-⟩:=cls f.blk
 have hi:=f.lti
 have x:=g.len
 have j:Hid (hasK k s=(!s.bad&&s.hd.kind==k)):=rfl
 generalize hasK k s=B at*
 generalize L.length-s.r.length=i at*
 generalize s.hd.kind=K at*
 generalize s.bad=bd at*
 have y:(0:Int)≤(i:Int):=by omega
 have z:(i:Int)<(L.length:Int):=by omega
 clear f g
 go_enter func43,ntmps43
 go_upto_region 1 with fail
 have h:=j.out
 subst h
 cases bd
 ·go_region
  all_goals
   go_wp2_with fail
   go_ret
   exact⟨congrArg (fun b=>Ending.returned (.bool b)) (nat_beq K k),(Ext.refl w).drew⟩
 ·go_region
  all_goals
   go_wp2_with fail
   go_ret
   exact⟨rfl,(Ext.refl w).drew⟩
theorem mr (z:PsAt 68 P A c L w0 w s) (y:TkL L) (k:Nat) (hk:k≠0):
  Cl 100 #[.pointer (some ⟨P,0,none⟩),i4 (k:Nat)] w (Ran 68 P A c L w0 w (takP k s).2 fun v _=>v= .string (takP k s).1):=by
 have H:=hid z
 have B:=hid (oX z y k)
 have j:Hid (takP k s=if hasK k s=true then (tkB s.hd,s.next)else (⟨#[]⟩,s.fail)):=rfl
 clear z
 go_enter func100,ntmps100
 go_wp2_with fail
 refine B.mono ?_
 rintro e E ⟨rfl,h⟩
 have f:=hid (H.ext h)
 have t:=hid h
 clear h B
 cases hs:hasK k s
 ·have Y:=f.blk.frozen 2
  have p2:=f.blk.cell_some (i:=2) rfl
  have g:=hid f.fail
  rw[hs]at j
  go_wp2_with fail
  go_ret
  exact⟨_,rfl,by rw[j.out];exact g,(Chg.of t).set _ _,by rw[j.out];rfl⟩
 ·have x:s.hd.kind≠0:=by
   simp[hasK]at hs
   omega
  have g:=hid (f.next y x)
  have p1:=f.blk.cell_some (i:=1) rfl
  have X:=f.blk.frozen 1
  have hi:=f.lti
  have hl:=y.len
  have u:=f.head
  rw[hs]at j
  have I:=hid g.tks
  have p:=hid g.blk
  have C:L.length-s.next.r.length=L.length-s.r.length+1:=by
   have:=f.le
   have:=f.ne_of y x
   simp[Ps.next]
   omega
  rw[C]at p
  clear C
  obtain⟨b,R,O,Z,J,W,K⟩:=g.tks _ _ u
  subst O
  generalize L.length-s.r.length=i at*
  obtain⟨q0,D,-⟩:=cls p
  have G:=hid ((Chg.of t).set (P:=P) 1 (i4 ((i:Int)+1)))
  have i0:(0:Int)≤(i:Int):=by omega
  have i1:(i:Int)<(L.length:Int):=by omega
  have U:(E.setCell ⟨P,1,none⟩ (i4 ((i:Int)+1))).cell? ⟨P,1,none⟩=some (i4 ((i:Int)+1)):=by
   have:=D
   simpa using this
  clear D u J K
  go_upto_region 5 with fail
  generalize E.setCell ⟨P,1,none⟩ (i4 ((i:Int)+1))=F at*
  go_region
  all_goals
   go_wp2_with fail
   go_ret
   exact⟨_,rfl,by rw[j.out];exact g.ext (Ext.refl F).drew,G.ext (Ext.refl F).drew,by rw[j.out];rfl⟩
end
end
section
open Lx (Tk)
abbrev Vb:=Option Nat×(World→Prop)
def bk (g t:Nat) (cs:LV):Vb:=(some g,fun w=>Blk w g t cs)
def ow (n0 T sz:Nat) (v:Value) (n:Nat) (xs:LV):Vb:=(v.ownBlock,fun w=>w.ownsRow n0 T sz v n xs)
def Fr (wi:World) (V:List Vb) (q:Nat):Prop:=wi.heap.size≤q∧∀x∈V,x.1≠some q
structure En (T P:Nat) (A:OA) (c:Nat) (L:List Tk) (w0 wi w:World) (s:Ps) (V:List Vb) (Φ:World→Prop):Prop where
 ps:PsAt T P A c L w0 w s
 low:P<wi.heap.size
 chg:Chg P wi w
 blk:∀x∈V,Stb (fun q=>x.1=some q) w x.2
 new:∀x∈V,∀q,x.1=some q→wi.heap.size≤q∧q<w.heap.size
 nod:V.Pairwise fun x y=> ∀q,x.1=some q→y.1≠some q
 stb:Stb (Fr wi V) w Φ
theorem Stb.turn' {S S':Nat→Prop} {w w':World} {Φ:World→Prop} {b:Option Nat} (h:Stb S w Φ) (k:w.grownBy w' b) (i:∀q,q<w.heap.size→S q→b≠some q∧S' q):Stb S' w' Φ:=by
 have j:=(h.weak (S':=fun q=>S' q∧b≠some q) fun q f hs=>⟨(i q f hs).2,(i q f hs).1⟩).grown k fun q f=>f.2
 intro t g r
 exact j t g fun q f p=>r q f p.1
theorem wP (w:World) (g i:Nat) (v:Value):w.grownBy (w.setCell ⟨g,i,none⟩ v) (some g):=⟨rfl,rfl,rfl,by simp[World.setCell],fun j _ b=>Below.heap_setCell w ⟨g,i,none⟩ v j (fun e=>b (by rw[e]))⟩
theorem kL {w:World} {n0 T sz n:Nat} {v:Value} {k:LV} (h:w.ownsRow n0 T sz v n k):Stb (fun q=>v.ownBlock=some q) w (fun u=>u.ownsRow n0 T sz v n k):=fun y x p=>by
 obtain⟨j,h|⟨g,b,f,rfl,r,i,t⟩⟩:=h
 ·exact⟨j,.inl h⟩
 ·exact⟨j,.inr ⟨g,b,f,rfl,r,(p g (Array.getElem?_eq_some_iff.1 i).1 rfl).trans i,t⟩⟩
section
variable {T P c:Nat} {A:OA} {L:List Tk} {w0 wi w w':World} {s s':Ps} {V:List Vb} {Φ Ψ:World→Prop}
theorem En.start (h:PsAt T P A c L w0 w s):En T P A c L w0 w w s [] (fun _=>True):=⟨h,h.lt,Chg.refl P w,by simp,by simp,by simp,Stb.of trivial⟩
theorem En.size (h:En T P A c L w0 wi w s V Φ):wi.heap.size≤w.heap.size:=h.chg.size
theorem En.here (h:En T P A c L w0 wi w s V Φ):Fr wi V w.heap.size:=⟨h.size,fun x b e=>by have:=h.new x b _ e;omega⟩
theorem En.ext (h:En T P A c L w0 wi w s V Φ) (b:Ext w w'):En T P A c L w0 wi w' s V Φ:=⟨h.ps.ext b,h.low,h.chg.ext b,fun x f=> (h.blk x f).ext b,fun x f q e=>⟨(h.new x f q e).1,Nat.lt_of_lt_of_le (h.new x f q e).2 b.size⟩,h.nod,Stb.ext h.stb b⟩
theorem En.call (h:En T P A c L w0 wi w s V Φ) (i:PsAt T P A c L w0 w' s') (f:Chg P w w'):En T P A c L w0 wi w' s' V Φ:=
 ⟨i,h.low,h.chg.trans f,fun x b=> (h.blk x b).grown f fun q g e=>by have:=(h.new x b q g).1;have:=h.low;have:=Option.some.inj e;omega,fun x b q e=>⟨(h.new x b q e).1,Nat.lt_of_lt_of_le (h.new x b q e).2 f.size⟩,h.nod,h.stb.grown f fun q g e=>by have:=g.1;have:=h.low;have:=Option.some.inj e;omega⟩
theorem En.and {n:Nat} (h:En T P A c L w0 wi w s V Φ) (f:Stb (n≤·) w Ψ) (i:wi.heap.size≤n) (g:∀x∈V,∀q,x.1=some q→q<n):En T P A c L w0 wi w s V (fun u=>Φ u∧Ψ u):=
 ⟨h.ps,h.low,h.chg,h.blk,h.new,h.nod,h.stb.and (f.weak fun q _ b=>⟨Nat.le_trans i b,fun x j e=>by
  have:=g x j q e
  have:n≤q:=b
  omega⟩)⟩
theorem En.calls (h:En T P A c L w0 wi w s V Φ) (b:PsAt T P A c L w0 w' s') (f:Chg P w w') (g:Stb (w.heap.size≤·) w' Ψ):En T P A c L w0 wi w' s' V (fun u=>Φ u∧Ψ u):=
 (h.call b f).and g h.size fun x i q e=> (h.new x i q e).2
theorem En.add (h:En T P A c L w0 wi w s V Φ) (j:Ext w w') (x:Vb) (p:Stb (fun q=>x.1=some q) w' x.2) (g:∀q,x.1=some q→w.heap.size≤q∧q<w'.heap.size):En T P A c L w0 wi w' s (x::V) Φ:=by
 have f:=h.ext j
 refine⟨f.ps,f.low,f.chg,fun y b=>?_,fun y b q e=>?_,List.pairwise_cons.2 ⟨fun y b q e k=>?_,h.nod⟩,Stb.ext (h.stb.weak fun q r i=>⟨i.1,fun y b e=>?_⟩) j⟩
 ·rcases List.mem_cons.1 b with rfl|b
  ·exact p
  ·exact f.blk y b
 ·rcases List.mem_cons.1 b with rfl|b
  ·exact⟨Nat.le_trans h.size (g q e).1,(g q e).2⟩
  ·exact f.new y b q e
 ·have:=(h.new y b q k).2
  have:=(g q e).1
  omega
 ·rcases List.mem_cons.1 b with rfl|b
  ·have:=(g q e).1
   omega
  ·exact i.2 y b e
theorem En.addb {g t:Nat} {cs:LV} (h:En T P A c L w0 wi w s V Φ) (i:Ext w w') (b:Blk w' g t cs) (f:w.heap.size≤g):En T P A c L w0 wi w' s (bk g t cs::V) Φ:=
 h.add i (bk g t cs) (Stb.blk b rfl) fun q e=>by cases e;exact⟨f,b.lt⟩
theorem En.alloc (h:En T P A c L w0 wi w s V Φ) (t:Nat) (cs:LV):En T P A c L w0 wi (w.alloc (.cells cs.toArray t)) s (bk w.heap.size t cs::V) Φ:=
 h.addb (x10 w _) (Blk.of_new w t cs) (Nat.le_refl _)
theorem En.nil (h:En T P A c L w0 wi w s V Φ) (n0 t sz:Nat):En T P A c L w0 wi w s (ow n0 t sz (.slice none 0 0) 0 []::V) Φ:=
 h.add (Ext.refl w) _ (kL (World.ownsRow_nil w n0 t sz)) fun q e=>nomatch e
theorem En.pop {x:Vb} (h:En T P A c L w0 wi w s (x::V) Φ):En T P A c L w0 wi w s V Φ:=
 ⟨h.ps,h.low,h.chg,fun z b=>h.blk z (mem_cons_of_mem _ b),fun z b=>h.new z (mem_cons_of_mem _ b),(List.pairwise_cons.1 h.nod).2,h.stb.weak fun q _ f=>⟨f.1,fun z g=>f.2 z (mem_cons_of_mem _ g)⟩⟩
theorem En.get (h:En T P A c L w0 wi w s V Φ) {j g t:Nat} {cs:LV} (b:V[j]? =some (bk g t cs)):Blk w g t cs:=(h.blk _ (mem_of_getElem? b)).now
theorem En.own (h:En T P A c L w0 wi w s V Φ) {j n0 t sz n:Nat} {v:Value} {b:LV} (f:V[j]? =some (ow n0 t sz v n b)):w.ownsRow n0 t sz v n b:=(h.blk _ (mem_of_getElem? f)).now
theorem En.put (h:En T P A c L w0 wi w s V Φ) {j:Nat} {x:Vb} (D:V[j]? =some x) (C:w.grownBy w' x.1) (y:Vb) (J:Stb (fun q=>y.1=some q) w' y.2) (F:∀q,y.1=some q→x.1=some q∨w.heap.size≤q∧q<w'.heap.size):En T P A c L w0 wi w' s (V.set j y) Φ:=by
 have H:=mem_of_getElem? D
 have r:=h.new x H
 have K:=World.grownBy.size C
 have f:=List.pairwise_iff_getElem.1 h.nod
 have t:∀i (hi:i<V.length),i≠j→∀q,V[i].1=some q→x.1≠some q:=fun i hi b q e p=>by
  obtain⟨I,D⟩:=List.getElem?_eq_some_iff.1 D
  rcases Nat.lt_or_gt_of_ne b with hlt|hlt
  ·exact f i j hi I hlt q e (by rw[D];exact p)
  ·exact f j i I hi hlt q (by rw[D];exact p) e
 have g:∀z∈V.set j y,z=y∨∃i,∃hi:i<V.length,i≠j∧V[i]=z:=fun z u=>by
  obtain⟨i,hi,e⟩:=List.mem_iff_getElem.1 u
  rw[getElem_set]at e
  rw[length_set]at hi
  split at e
  ·exact .inl e.symm
  ·next b=>exact .inr ⟨i,hi,fun e=>b e.symm,e⟩
 refine⟨h.ps.grown C fun q B=>by have:=h.low;have:=r q B;omega,h.low,h.chg.own C fun q B=> (r q B).1,fun z u=>?_,fun z u q e=>?_,?_,h.stb.turn' C fun q B hs=>⟨hs.2 x H,hs.1,fun z u e=>?_⟩⟩
 ·rcases g z u with rfl|⟨i,hi,b,rfl⟩
  ·exact J
  ·exact(h.blk _ (getElem_mem hi)).grown C fun q B e=>t i hi b q B e
 ·rcases g z u with rfl|⟨i,hi,b,rfl⟩
  ·rcases F q e with h1|h1
   ·have:=r q h1
    omega
   ·have:=h.size
    omega
  ·have:=h.new _ (getElem_mem hi) q e
   omega
 ·refine List.pairwise_iff_getElem.2 fun i k hi E G q e p=>?_
  rw[length_set]at hi E
  rw[getElem_set]at e p
  split at e
  ·next h1=>
   rw[if_neg (by omega)]at p
   rcases F q e with h3|h3
   ·exact t k E (by omega) q p h3
   ·have:=h.new _ (getElem_mem E) q p
    omega
  ·split at p
   ·rcases F q p with h3|h3
    ·exact t i hi (by omega) q e h3
    ·have:=h.new _ (getElem_mem hi) q e
     omega
   ·exact f i k hi E G q e p
 ·rcases g z u with rfl|⟨i,hi,b,rfl⟩
  ·rcases F q e with h3|h3
   ·exact hs.2 x H h3
   ·omega
  ·exact hs.2 _ (getElem_mem hi) e
theorem En.putb (h:En T P A c L w0 wi w s V Φ) {j g t:Nat} {cs ds:LV} (i:V[j]? =some (bk g t cs)) (f:w.grownBy w' (some g)) (b:Blk w' g t ds):En T P A c L w0 wi w' s (V.set j (bk g t ds)) Φ:=
 h.put i f (bk g t ds) (Stb.blk b rfl) fun q e=> .inl e
theorem En.set (h:En T P A c L w0 wi w s V Φ) {j g t:Nat} {cs:LV} (b:V[j]? =some (bk g t cs)) (i:Nat) (v:Value):En T P A c L w0 wi (w.setCell ⟨g,i,none⟩ v) s (V.set j (bk g t (cs.set i v))) Φ:=
 h.putb b (wP w g i v) ((h.get b).set i v)
theorem En.imp (h:En T P A c L w0 wi w s V Φ) (hi:∀u,Φ u→Ψ u):En T P A c L w0 wi w s V Ψ:=⟨h.ps,h.low,h.chg,h.blk,h.new,h.nod,h.stb.imp hi⟩
theorem En.keep (h:En T P A c L w0 wi w s V Φ):Stb (wi.heap.size≤·) w Φ:=h.stb.weak fun q _ b=>b.1
theorem En.all (h:En T P A c L w0 wi w s V Φ):Stb (wi.heap.size≤·) w (fun u=>Φ u∧∀x∈V,x.2 u):=fun i b f=>
 ⟨h.keep i b f,fun x g=>h.blk x g i b fun q j e=>f q j (h.new x g q e).1⟩
theorem En.next (h:En T P A c L w0 wi w s V Φ) (b:TkL L) (f:s.hd.kind≠0):En T P A c L w0 wi (w.setCell ⟨P,1,none⟩ (i4 (((L.length-s.r.length:Nat):Int)+1))) s.next V Φ:=h.call (h.ps.next b f) ((Chg.refl P w).set _ _)
theorem En.fail (h:En T P A c L w0 wi w s V Φ):En T P A c L w0 wi (w.setCell ⟨P,2,none⟩ (.bool true)) s.fail V Φ:=h.call h.ps.fail ((Chg.refl P w).set _ _)
end
end
section
open Lx (Tk)
theorem gQ (w:World) (g:Nat) (cs:Array Value):w.grownBy (w.setRow g cs) (some g):=
 ⟨rfl,rfl,rfl,by simp[World.setRow],fun i _ hi=>by
  unfold World.setRow
  simp only
  rw[Array.getElem?_modify,if_neg (fun e=>hi (by rw[e]))]⟩
theorem dN {w:World} {g T:Nat} {b:LV} (h:Blk w g T b) (cs:LV):Blk (w.setRow g cs.toArray) g T cs:=by
 unfold Blk at h ⊢
 unfold World.setRow
 simp only
 rw[Array.getElem?_modify,if_pos rfl,h]
 rfl
theorem En.row {T P c:Nat} {A:OA} {L:List Tk} {w0 wi w:World} {s:Ps} {V:List Vb} {Φ:World→Prop} (h:En T P A c L w0 wi w s V Φ) {j g t:Nat} {cs:LV} (b:V[j]? =some (bk g t cs)) (ds:LV):En T P A c L w0 wi (w.setRow g ds.toArray) s (V.set j (bk g t ds)) Φ:=
 h.putb b (gQ w g ds.toArray) (dN (h.get b) ds)
section
variable {ops:Array Oper} {rest:List Oper} {o:Oper} {a:Act} {w:World} {Q:Exit→Act→World→Prop}
theorem ldE {x:Operand} (b:o.guard=none) (j:o.op= .load 37 x) (g:Nat) (k:a.eval x= .pointer (some ⟨g,0,none⟩)) {cs:LV} (f:Blk w g 37 cs) (i:cs.length=8) (h:wpList prog ops Q rest (a.put o.dst (.agg cs.toArray)) w):wpList prog ops Q (o::rest) a w:=
 aw b 37 x j g k 37 cs _ f underlying37 rfl (by rw[i];kernel_rfl) h
theorem stE {x y:Operand} (b:o.guard=none) (p:o.op= .store 37 x y) (hd:o.dst=none) (g:Nat) (ds:LV) (r:a.eval x= .pointer (some ⟨g,0,none⟩)) (t:a.eval y= .agg ds.toArray) {cs:LV} (j:Blk w g 37 cs) (k:cs.length=8) (f:ds.length=8) (i:ds.toArray.all (·.oneCell')=true)
  (h:wpList prog ops Q rest a (w.setRow g ds.toArray)):wpList prog ops Q (o::rest) a w:=
 wpList_store_rowTo b 37 x y p hd g ds.toArray r t 37 cs.toArray j (by rw[size_toArray,f];kernel_rfl) (by rw[size_toArray,size_toArray,k,f]) i h
end
section
variable {T P c:Nat} {A:OA} {L:List Tk} {w0 wi w w':World} {s:Ps} {V:List Vb} {Φ:World→Prop}
theorem dq {t:Nat} {cs:LV} (h:En T P A c L w0 wi w s V Φ) (b:w.alloc (.cells cs.toArray t)=w'):En T P A c L w0 wi w' s (bk w.heap.size t cs::V) Φ:=b ▸ h.alloc t cs
end
section
variable {T P c:Nat} {A:OA} {L:List Tk} {w0 wi w w':World} {s:Ps} {V:List Vb} {Φ:World→Prop}
theorem En.op1 {a:Ex} {B:OA} {k c' f:Nat} {o:Int} (h:En T P A c L w0 wi w s V Φ) (g:∀u,Φ u→ExV u a B k c') (i:I64 o) (b:Ext (w.alloc (.cells (a.d.cells B k c').toArray f)) w'):En T P A c L w0 wi w' s V (fun u=>ExV u (opE o [a]) (some ⟨w.heap.size,0,none⟩) 1 1):=
 { h.ext ((x10 w _).trans b)with stb:=Stb.ext (exS_op1 i h.here (h.stb.imp g)) b }
theorem En.op2 {a b:Ex} {B C:OA} {k c' g c2 i:Nat} {o:Int} (h:En T P A c L w0 wi w s V Φ) (j:∀u,Φ u→ExV u a B k c') (p:∀u,Φ u→ExV u b C g c2) (r:I64 o) (f:Ext (w.alloc (.cells (a.d.cells B k c'++b.d.cells C g c2).toArray i)) w'):
  En T P A c L w0 wi w' s V (fun u=>ExV u (opE o [a,b]) (some ⟨w.heap.size,0,none⟩) 2 2):=
 { h.ext ((x10 w _).trans f)with stb:=Stb.ext (ta r h.here (h.stb.imp j) (h.stb.imp p)) f }
theorem En.op1' {a:Ex} {B:OA} {k c' i:Nat} {o:Int} (h:En T P A c L w0 wi w s V Φ) (f:∀u,Φ u→ExV u a B k c') (g:I64 o) (b:Ext (w.alloc (.cells (a.d.cells B k c').toArray i)) w'):En T P A c L w0 wi w' s V (fun u=>Φ u∧ExV u (opE o [a]) (some ⟨w.heap.size,0,none⟩) 1 1):=
 { h.op1 f g b with stb:=(Stb.ext h.stb ((x10 w _).trans b)).and (h.op1 f g b).stb }
theorem En.op2' {a b:Ex} {B C:OA} {k c' p c2 r:Nat} {o:Int} (h:En T P A c L w0 wi w s V Φ) (g:∀u,Φ u→ExV u a B k c') (i:∀u,Φ u→ExV u b C p c2) (j:I64 o) (f:Ext (w.alloc (.cells (a.d.cells B k c'++b.d.cells C p c2).toArray r)) w'):
  En T P A c L w0 wi w' s V (fun u=>Φ u∧ExV u (opE o [a,b]) (some ⟨w.heap.size,0,none⟩) 2 2):=
 { h.op2 g i j f with stb:=(Stb.ext h.stb ((x10 w _).trans f)).and (h.op2 g i j f).stb }
theorem En.stc (h:En T P A c L w0 wi w s V Φ) {j g t:Nat} {cs:LV} (b:V[j]? =some (bk g t cs)) (ds:LV) (f:cs.length=ds.length):En T P A c L w0 wi (sts w g 0 ds) s (V.set j (bk g t ds)) Φ:=h.putb b (gm g ds w 0) (mq (h.get b) ds f)
end
theorem th {u:World} {k i:Int} {t:BA} (b:I64 k) (hi:I64 i) (f:t.size≤9223372036854775807):ExV u (dF k i t) none 0 0:=(oW (fun _=>True) u b hi f).now
theorem aL {w:World} {g t:Nat} {b f i j k p r u:Value} (h:Blk w g t [b,f,i,j,k,p,r,u]):w.cell? ⟨g,0,none⟩=some b∧w.cell? ⟨g,1,none⟩=some f∧w.cell? ⟨g,2,none⟩=some i∧w.cell? ⟨g,3,none⟩=some j∧w.cell? ⟨g,4,none⟩=some k∧w.cell? ⟨g,5,none⟩=some p∧w.cell? ⟨g,6,none⟩=some r∧w.cell? ⟨g,7,none⟩=some u:=
 ⟨h.cell_some rfl,h.cell_some rfl,h.cell_some rfl,h.cell_some rfl,h.cell_some rfl,h.cell_some rfl,h.cell_some rfl,h.cell_some rfl⟩
theorem jU {w:World} {g t:Nat} {cs:LV} (h:Blk w g t cs):w.frozen? ⟨g,0,none⟩=false∧w.frozen? ⟨g,1,none⟩=false∧w.frozen? ⟨g,2,none⟩=false∧w.frozen? ⟨g,3,none⟩=false∧w.frozen? ⟨g,4,none⟩=false∧w.frozen? ⟨g,5,none⟩=false∧w.frozen? ⟨g,6,none⟩=false∧w.frozen? ⟨g,7,none⟩=false:=
 ⟨h.frozen 0,h.frozen 1,h.frozen 2,h.frozen 3,h.frozen 4,h.frozen 5,h.frozen 6,h.frozen 7⟩
def RX (P:Nat) (A:OA) (c:Nat) (L:List Tk) (w0:World) (F:Nat) (x:Array Value) (K:Nat) (m:M Ex):Prop:=
 ∀(w:World) (s:Ps),PsAt 77 P A c L w0 w s→s.r.length<K→Cl F x w fun e w'=> ∃A1 k1 c1,e= .returned ((m s).1.d.val A1 k1 c1)∧PsAt 77 P A c L w0 w' (m s).2∧Chg P w w'∧Stb (w.heap.size≤·) w' (fun u=>ExV u (m s).1 A1 k1 c1)
theorem RX.at_ {P:Nat} {A:OA} {c:Nat} {L:List Tk} {w0 w:World} {F:Nat} {x:Array Value} {K:Nat} {m:M Ex} {s:Ps} (h:RX P A c L w0 F x K m) (j:PsAt 77 P A c L w0 w s) (i:s.r.length<K):
  ∃(op ix vk vi:Int) (tb nm vt:BA) (ks:List Ex) (b:Ps),m s=(.mk ⟨op,tb,nm,ix,vk,vi,vt⟩ ks,b)∧Cl F x w fun e w'=> ∃f g c1,e= .returned (.agg #[i4 op,.string tb,.string nm,i4 ix,i4 vk,i4 vi,.string vt,.slice f g c1])∧PsAt 77 P A c L w0 w' b∧Chg P w w'∧
   Stb (w.heap.size≤·) w' (fun u=>ExV u (.mk ⟨op,tb,nm,ix,vk,vi,vt⟩ ks) f g c1):=by
 have H:=h w s j i
 generalize m s=R at*
 obtain⟨⟨⟨op,tb,nm,ix,vk,vi,vt⟩,ks⟩,b⟩:=R
 exact⟨op,ix,vk,vi,tb,nm,vt,ks,b,rfl,H⟩
end
section
open Lx (Tk)
section
variable {P c:Nat} {A:OA} {L:List Tk} {w0 w:World} {s:Ps}
theorem cf (b:PsAt 68 P A c L w0 w s) (i:TkL L):
  Cl 55 #[.pointer (some ⟨P,0,none⟩)] w (Ran 68 P A c L w0 w (takP 1 s).2 fun v _=>v= .string (takP 1 s).1):=by
 have f:=hid (mr b i 1 (by decide))
 clear b
 go_enter func55,ntmps55
 go_wp2_with fail
 refine f.mono ?_
 rintro e j ⟨v,rfl,g,h,rfl⟩
 go_wp2_with fail
 go_ret
 exact⟨_,rfl,g,h,rfl⟩
theorem fu (i:PsAt 68 P A c L w0 w s) (k:TkL L) (z:Er w0):
  Cl 178 #[.pointer (some ⟨P,0,none⟩)] w (Ran 68 P A c L w0 w (numP s).2 fun v _=>v= i4 (numP s).1):=by
 have y:=hid (mr i k 3 (by decide))
 have t:Hid (∀W:World,Ext w0 W→Cl 234 #[.string (takP 3 s).1,i4 10,i4 64] W fun e w'=> ∃x,e= .returned (.tuple #[i4 (numP s).1,x])∧Ext W w'):=by
  intro W B
  unfold numP takP
  cases hs:hasK 3 s
  ·exact no_int W (tc z B)
  ·have g:s.hd.kind=3:=by simp[hasK]at hs;exact hs.2
   exact(tok_int k i.mem g W).mono fun e w' h=>⟨_,h⟩
 have u:Hid ((numP s).2=(takP 3 s).2):=rfl
 clear i
 generalize (takP 3 s).1=X at*
 generalize (numP s).1=V at*
 go_enter func178,ntmps178
 go_wp2_with fail
 refine y.mono ?_
 rintro e C ⟨v,rfl,f,j,rfl⟩
 go_wp2_with fail
 refine(t _ f.base).mono ?_
 rintro e D ⟨x,rfl,b⟩
 have p:=hid (f.ext b)
 have r:=hid (j.ext b)
 clear f j b
 go_wp2_with fail
 go_ret
 exact⟨_,rfl,by rw[u.out];exact p,r,rfl⟩
theorem end_any (k:PsAt 68 P A c L w0 w s) (t:TkL L):
  Cl 30 #[.pointer (some ⟨P,0,none⟩)] w (Ran 68 P A c L w0 w (endP s) fun _ _=>True):=by
 have r:=hid k
 have p:=hid (oX k t 0)
 have h:Hid (endP s=if hasK 0 s=true then s else s.fail):=rfl
 clear k
 go_enter func30,ntmps30
 go_wp2_with fail
 refine p.mono ?_
 rintro e y ⟨rfl,f⟩
 have b:=hid (r.ext f)
 have g:=hid f
 clear f p
 cases hs:hasK 0 s
 ·have u:=b.blk.frozen 2
  have x:=b.blk.cell_some (i:=2) rfl
  have j:=hid b.fail
  rw[hs]at h
  go_wp2_with fail
  exact bodyPost_end (v:= .tuple #[]) (by simp[results,results30,go_sem]) rfl ⟨_,rfl,by rw[h.out];exact j,(Chg.of g).set _ _,trivial⟩
 ·rw[hs]at h
  go_wp2_with fail
  exact bodyPost_end (v:= .tuple #[]) (by simp[results,results30,go_sem]) rfl ⟨_,rfl,by rw[h.out];exact b,Chg.of g,trivial⟩
theorem gR (o:Int) (B:OA) (k c':Nat) (W:World):
  Cl 105 #[i4 o,.slice B k c'] W fun e w'=>e= .returned (.agg #[i4 o,.string ⟨#[]⟩,.string ⟨#[]⟩,i4 0,i4 0,i4 0,.string ⟨#[]⟩,.slice B k c'])∧Ext W w':=by
 have b:=hid (Blk.of_new W 37 (eC o ⟨#[]⟩ ⟨#[]⟩ 0 0 0 ⟨#[]⟩ B k c'))
 go_enter func105,ntmps105
 go_wp2_with fail
 obtain⟨f,g,h,i,j,p,r,t,-⟩:=cls b
 exact bodyPost_ret (by simp[results,results105,go_sem,f,g,h,i,j,p,r,t]) rfl ⟨rfl,x10 W _⟩
theorem lit_val (k i:Int) (t:BA) (W:World):
  Cl 260 #[.agg #[i4 k,i4 i,.string t]] W fun e w'=>e= .returned (.agg #[i4 1,.string ⟨#[]⟩,.string ⟨#[]⟩,i4 0,i4 k,i4 i,.string t,.slice none 0 0])∧Ext W w':=by
 have b:=x10 W (.cells #[i4 k,i4 i,.string t] 35)
 have f:=hid (Blk.of_new (W.alloc (.cells #[i4 k,i4 i,.string t] 35)) 37 (eC 1 ⟨#[]⟩ ⟨#[]⟩ 0 k i t none 0 0))
 have g:=hid (b.alloc (.cells #[i4 1,.string ⟨#[]⟩,.string ⟨#[]⟩,i4 0,i4 k,i4 i,.string t,.slice none 0 0] 37))
 clear b
 go_enter func260,ntmps260
 go_wp2_with fail
 obtain⟨h,j,p,r,u,x,y,z,-⟩:=cls f
 exact bodyPost_ret (by simp[results,results260,go_sem,h,j,p,r,u,x,y,z]) rfl ⟨rfl,g⟩
theorem pT (hp:PsAt 68 P A c L w0 w s) (O:TkL L):
  Cl 106 #[.pointer (some ⟨P,0,none⟩)] w (Ran 68 P A c L w0 w (colP s).2 fun v w'=>ExG w.heap.size w' (colP s).1 v):=by
 have H:=x10 w (.cells #[i4 0,.string ⟨#[]⟩,.string ⟨#[]⟩,i4 0,i4 0,i4 0,.string ⟨#[]⟩,.slice none 0 0] 37)
 have HT:=hid (cf (hp.ext H) O)
 have E:=hid (hp.tak_size O 1)
 have B:=hid hp.lt
 have U:Hid (colP s=if isS nq (takP 1 s).2=true then (colE (takP 1 s).1 (takP 1 (takP 1 s).2.next).1,(takP 1 (takP 1 s).2.next).2)else (colE ⟨#[]⟩ (takP 1 s).1,(takP 1 s).2)):=rfl
 have ag:=hid H
 have HR:=hid (Blk.of_new w 37 eZ)
 clear hp H
 go_enter func106,ntmps106
 have a2:Hid (w.heap.size≤(w.alloc (.cells #[i4 0,.string ⟨#[]⟩,.string ⟨#[]⟩,i4 0,i4 0,i4 0,.string ⟨#[]⟩,.slice none 0 0] 37)).heap.size):=ag.size
 go_upto_region 1 with fail
 generalize w.alloc (.cells #[i4 0,.string ⟨#[]⟩,.string ⟨#[]⟩,i4 0,i4 0,i4 0,.string ⟨#[]⟩,.slice none 0 0] 37)=wa at*
 obtain⟨g0,F⟩:∃g,w.heap.size=g:=⟨_,rfl⟩
 have z:=hid F
 rw[F]at HR B ⊢
 clear F
 go_upto_region 2 with (go_at_call 55;(with_reducible refine HT.out.mono ?_);rintro _ w1 ⟨v,rfl,h1,h2,rfl⟩;have a1:=h2.size)
 have C:=hid (h2.blk HR (by have:=B.out;omega))
 obtain⟨X,hX⟩:∃X,(takP 1 s).1=X:=⟨_,rfl⟩
 obtain⟨u,G⟩:∃u,(takP 1 s).2=u:=⟨_,rfl⟩
 rw[hX,G]at U
 rw[hX]at E
 rw[G]at h1
 rw[hX]
 have t:=x10 w1 (.cells #[i4 2,.string ⟨#[]⟩,.string X,i4 0,i4 0,i4 0,.string ⟨#[]⟩,.slice none 0 0] 37)
 have R:=hid (Blk.of_new w1 37 (eC 2 ⟨#[]⟩ X 0 0 0 ⟨#[]⟩ none 0 0))
 have ac:=hid (C.ext t)
 have ad:=hid (h1.ext t)
 have W:=hid ((Chg.of (P:=P) ag).trans (h2.ext t))
 have HA:=hid (gP ad O nq)
 have b:Hid (g0<w1.heap.size∧P<g0):=⟨C.lt,B⟩
 clear hX G h1 h2 t a1 C HR HT
 generalize w1.alloc (.cells #[i4 2,.string ⟨#[]⟩,.string X,i4 0,i4 0,i4 0,.string ⟨#[]⟩,.slice none 0 0] 37)=w2 at*
 generalize w1.heap.size=J at*
 go_wp2_with fail
 refine HA.mono ?_
 rintro e w3 ⟨v,rfl,h3,h4,rfl⟩
 have f:=hid h3
 have x:=hid (W.trans h4)
 have p:=hid (h4.blk ac (by have:=b.out;omega))
 have y:=hid (h4.blk R (by have:=b.out;omega))
 clear h3 h4 HA ad R ac W
 cases hs:isS nq u
 ·have e:(ir nq u).2=u:=by simp[ir,hs]
  rw[e]at f
  obtain⟨b0,b1,b2,b3,b4,b5,b6,b7,-⟩:=cls y
  obtain⟨z0,z1,z2,z3,z4,z5,z6,z7,-⟩:=cls p
  obtain⟨y0,y1,y2,y3,y4,y5,y6,y7,-⟩:=frz p
  have I:=mq p (eC 2 ⟨#[]⟩ X 0 0 0 ⟨#[]⟩ none 0 0) rfl
  have j:=hid (gm g0 (eC 2 ⟨#[]⟩ X 0 0 0 ⟨#[]⟩ none 0 0) w3 0)
  simp only[sts]at I
  have HZ:=hid I
  clear I
  go_wp2_with fail
  obtain⟨q0,q1,q2,q3,q4,q5,q6,q7,-⟩:=cls HZ
  exact bodyPost_ret (v:= .agg #[i4 2,.string ⟨#[]⟩,.string X,i4 0,i4 0,i4 0,.string ⟨#[]⟩,.slice none 0 0]) (by simp[results,results106,go_sem,q0,q1,q2,q3,q4,q5,q6,q7]) rfl ⟨_,rfl,by rw[U.out,hs];exact f.grown j (fun q k=>by have:=b.out;have:=Option.some.inj k;omega),x.own j (fun q k=>by have:=Option.some.inj k;rw[z.out];omega),by rw[U.out,hs];exact exG_col _ _ (Nat.zero_le _) (by have:=E.out;omega)⟩
 ·have e:(ir nq u).2=u.next:=by simp[ir,hs]
  rw[e]at f
  have a0:=hid (cf (f.ext (Ext.refl w3).drew) O)
  have a3:=hid (cf f O)
  have ax:=hid (f.tak_size O 1)
  have b2:=y.cell_some (i:=2) rfl
  generalize (takP 1 u.next).1=Y at*
  generalize (takP 1 u.next).2=s2 at*
  go_upto_region 3 with fail
  go_region_with (go_at_call 55;(with_reducible refine a0.out.mono ?_);rintro _ w4 ⟨v,rfl,h5,K,rfl⟩;replace K:Chg P w3 w4:=(Chg.of (Ext.refl w3).drew).trans K;have h:=K.blk y (by have:=b.out;omega);obtain⟨-,d1,d2,-⟩:=cls h;have k1:=h.frozen 1;have k2:=h.frozen 2)
  all_goals
   have an:=hid ((h.set 1 (.string X)).set 2 (.string Y))
   have r:w4.grownBy ((w4.setCell ⟨J,1,none⟩ (.string X)).setCell ⟨J,2,none⟩ (.string Y)) (some J):=gm J [.string X,.string Y] w4 1
   have D:=hid ((K.blk p (by have:=b.out;omega)).grown r (fun e=>by have:=Option.some.inj e;have:=b.out;omega))
   have aS:=hid (h5.grown r (fun q k=>by have:=Option.some.inj k;have:=b.out;omega))
   have Z:=hid ((x.trans K).own r (fun q k=>by have:=Option.some.inj k;have:=b.out;rw[z.out];omega))
   clear h5 K h d1 d2 k1 k2 r b2
   generalize (w4.setCell ⟨J,1,none⟩ (.string X)).setCell ⟨J,2,none⟩ (.string Y)=w5 at*
   obtain⟨b0,b1,b2,b3,b4,b5,b6,b7,-⟩:=cls an
   obtain⟨z0,z1,z2,z3,z4,z5,z6,z7,-⟩:=cls D
   obtain⟨y0,y1,y2,y3,y4,y5,y6,y7,-⟩:=frz D
   have I:=mq D (eC 2 X Y 0 0 0 ⟨#[]⟩ none 0 0) rfl
   have j:=hid (gm g0 (eC 2 X Y 0 0 0 ⟨#[]⟩ none 0 0) w5 0)
   simp only[sts]at I
   have HZ:=hid I
   clear I
   go_wp2_with fail
   obtain⟨q0,q1,q2,q3,q4,q5,q6,q7,-⟩:=cls HZ
   exact bodyPost_ret (v:= .agg #[i4 2,.string X,.string Y,i4 0,i4 0,i4 0,.string ⟨#[]⟩,.slice none 0 0]) (by simp[results,results106,go_sem,q0,q1,q2,q3,q4,q5,q6,q7]) rfl ⟨_,rfl,by rw[U.out,hs];exact aS.grown j (fun q k=>by have:=b.out;have:=Option.some.inj k;omega),Z.own j (fun q k=>by have:=Option.some.inj k;rw[z.out];omega),by rw[U.out,hs];exact exG_col _ _ (by have:=E.out;omega) (by have:=ax.out;omega)⟩
end
end
section
open Lx (Tk)
def symCs (l:List (BA×Int)):LV:=l.flatMap fun x=> [.string x.1,i4 x.2]
theorem kM (l:List (BA×Int)):∀(i:Nat) (x:BA×Int),l[i]? =some x→(symCs l)[i*2]? =some (.string x.1)∧(symCs l)[i*2+1]? =some (i4 x.2):=by
 induction l with
 |nil=>intro i x h;simp at h
 |cons y l ih=>
  intro i x h
  cases i with
  |zero=>simp at h;subst h;exact⟨rfl,rfl⟩
  |succ i=>
   have:=ih i x (by simpa using h)
   unfold symCs at*
   rw[flatMap_cons,show(i+1)*2=i*2+2 by omega,show i*2+2+1=(i*2+1)+2 by omega]
   simpa using this
theorem ent_sym:∀(args:Array Value) (W:World),(callFunc 151 args).run prog W= .ok (.enter 151 args) W:=fun _ _=>by kernel_rfl
section
variable {P c:Nat} {A:OA} {L:List Tk} {w0 w:World} {s:Ps}
theorem sym1_any (h:PsAt 68 P A c L w0 w s) (r:TkL L) (t:BA) (o:Int) (f:Nat) (g:w.cell? ⟨f,0,none⟩=some (.pointer (some ⟨P,0,none⟩))):
  Cl 151 #[.agg #[.string t,i4 o],.pointer (some ⟨f,0,none⟩)] w (Ran 68 P A c L w0 w (ir t s).2 fun v _=>v= .bool (isS t s)):=by
 have b:=x10 w (.cells #[.string t,i4 o] 120)
 have j:=hid b
 have u:=b.keep g
 have i:=hid (gP (h.ext b) r t)
 clear h b g
 go_enter func151,ntmps151
 go_wp2_with fail
 refine i.mono ?_
 rintro e x ⟨v,rfl,k,p,rfl⟩
 go_wp2_with fail
 go_ret
 exact⟨_,rfl,k,(Chg.of j).trans p,rfl⟩
theorem index_sym (K:PsAt 68 P A c L w0 w s) (X:TkL L) (ops:List (BA×Int)) (C G:Nat) (H:w.cell? ⟨C,0,none⟩=some (.pointer (some ⟨P,0,none⟩))) (hs:Blk w G 120 (symCs ops)) (I:C≠P) (O:G≠P) (hl:ops.length≤100):
  Cl 150 #[.slice (some ⟨G,0,none⟩) ops.length ops.length,.func (Fn.func 151) #[] #[.pointer (some ⟨C,0,none⟩)]] w
   (Ran 68 P A c L w0 w (firstP ops s).2 fun v _=> ∃i:Int,v= i4 i∧(((firstP ops s).1=none∧i<0)∨∃(k:Nat) (t:BA) (o:Int),i=k∧ops[k]? =some (t,o)∧(firstP ops s).1=some o)):=by
 have Z:=ent_sym
 go_enter func150,ntmps150
 go_wp2_with fail
 go_loopw [5,8] (fun _ Y wr=> ∃(k:Nat),k≤ops.length∧Y= i4 k∧firstP ops s=firstP (ops.drop k) s∧PsAt 68 P A c L w0 wr s∧Chg P w wr) (fun _ i _=>ops.length- (intOf i).toNat)
 case atStart=>exact⟨0,Nat.zero_le _,rfl,rfl,K,Chg.refl P w⟩
 case round=>
  obtain⟨k,hk,rfl,u,h,b⟩:=hrel
  by_cases J:k<ops.length
  ·obtain⟨⟨t,o⟩,D⟩:∃x,ops[k]? =some x:=⟨_,getElem?_eq_getElem J⟩
   have hd:ops.drop k=(t,o)::ops.drop (k+1):=by
    obtain⟨p,z⟩:=List.getElem?_eq_some_iff.1 D
    rw[drop_eq_getElem_cons p,z]
   rw[hd,firstP]at u
   have B:=hid (b.blk hs O)
   obtain⟨R,U⟩:=kM ops k (t,o) D
   have c0:=B.cell_some R
   have c1:=B.cell_some U
   have E:=hid (sym1_any h X t o C (b.keep H I))
   have r:=hid u
   have F:=hid b
   have W:=hid D
   clear u h b D hd hs R U H K
   have i0:(0:Int)≤(k:Int):=by omega
   have i1:(k:Int)<(ops.length:Int):=by omega
   go_wp2_with fail
   refine E.mono ?_
   rintro _ w2 ⟨v,rfl,p,z,rfl⟩
   have f:=hid (F.trans z)
   cases j:isS t s
   ·rw[j]at r
    have e:(ir t s).2=s:=by simp[ir,j]
    rw[e]at p
    have y:=hid p
    have g:=hid (r)
    clear p z E c0 c1 B
    go_wp2_with fail
    exact⟨⟨k+1,by omega,by go_num,g,y,f⟩,by simp[intOf];omega⟩
   ·rw[j]at r
    have e:(ir t s).2=s.next:=by simp[ir,j]
    rw[e]at p
    have y:=hid p
    have g:Hid (firstP ops s=(some o,s.next)):=r.out
    clear p z E c0 c1 B
    go_wp2_with fail
    go_ret
    exact⟨_,rfl,by rw[g.out];exact y,f,k,rfl,.inr ⟨k,t,o,rfl,W,by rw[g.out]⟩⟩
  ·obtain rfl:k=ops.length:=by omega
   rw[drop_length,firstP]at u
   have r:=hid u
   have y:=hid h
   have f:=hid b
   clear u h b K hs H
   go_wp2_with fail
   go_ret
   exact⟨_,rfl,by rw[r.out];exact y,f,-1,rfl,.inl ⟨by rw[r.out],by omega⟩⟩
end
end
section
open Lx (Tk)
def jV (F:FuncId):Prop:=∀(args:Array Value) (W:World),(callFunc F args).run prog W= .ok (.enter F args) W
def posOf (P:Nat) (w:World):Nat:=match w.cell? ⟨P,1,none⟩with
 |some v=> (intOf v).toNat
 |none=>0
theorem PsAt.posOf {T P c:Nat} {A:OA} {L:List Tk} {w0 w:World} {s:Ps} (h:PsAt T P A c L w0 w s):posOf P w=L.length-s.r.length:=by
 have:=h.blk.cell_some (i:=1) rfl
 unfold Go.Proofs.YtjigcpfjhfoheaaGreatDoor.posOf
 rw[this]
 simp[intOf]
section
variable {P c:Nat} {A:OA} {L:List Tk} {w0 w:World} {s:Ps}
theorem chain_any (F:FuncId) (hE:jV F) (el:M Ex) (ds:Fwd el) (ops:List (BA×Int)) (hl:ops.length≤100) (dw:∀x∈ops,I64 x.2) (gs:Nat) (hs:Blk w gs 120 (symCs ops)) (an:gs≠P)
  (hp:PsAt 68 P A c L w0 w s) (hL:TkL L)
  (hF:∀(W:World) (st:Ps),PsAt 68 P A c L w0 W st→st.r.length≤s.r.length→Cl F #[.pointer (some ⟨P,0,none⟩)] W (Ran 68 P A c L w0 W (el st).2 fun v W'=>ExG W.heap.size W' (el st).1 v)):
  Cl 77 #[.pointer (some ⟨P,0,none⟩),.func (Fn.func F) #[.pointer (some ⟨P,0,none⟩)] #[],.slice (some ⟨gs,0,none⟩) ops.length ops.length] w
   (Ran 68 P A c L w0 w (chainP el ops s).2 fun v w'=>ExG w.heap.size w' (chainP el ops s).1 v):=by
 unfold jV at hE
 have HF:=hid hF
 have eN:=hp.lt
 have e0:=hs.lt
 have D:Hid (chainP el ops s=chainGo el ops (s.r.length+1) (el s).1 (el s).2):=rfl
 obtain⟨R,hR⟩:∃R,chainP el ops s=R:=⟨_,rfl⟩
 rw[hR]at D ⊢
 clear hR hF
 have d9:=x10 w (.cells #[.pointer (some ⟨P,0,none⟩)] 62)
 have a5:=d9.alloc (.cells #[i4 0,.string ⟨#[]⟩,.string ⟨#[]⟩,i4 0,i4 0,i4 0,.string ⟨#[]⟩,.slice none 0 0] 37)
 have H:Hid (Blk ((w.alloc (.cells #[.pointer (some ⟨P,0,none⟩)] 62)).alloc (.cells #[i4 0,.string ⟨#[]⟩,.string ⟨#[]⟩,i4 0,i4 0,i4 0,.string ⟨#[]⟩,.slice none 0 0] 37)) w.heap.size 62 [.pointer (some ⟨P,0,none⟩)]):=(Blk.of_new w 62 [.pointer (some ⟨P,0,none⟩)]).ext (x10 _ _)
 have bN:Hid (Blk ((w.alloc (.cells #[.pointer (some ⟨P,0,none⟩)] 62)).alloc (.cells #[i4 0,.string ⟨#[]⟩,.string ⟨#[]⟩,i4 0,i4 0,i4 0,.string ⟨#[]⟩,.slice none 0 0] 37)) (w.heap.size+1) 37 eZ):=by
  have:=Blk.of_new (w.alloc (.cells #[.pointer (some ⟨P,0,none⟩)] 62)) 37 eZ
  unfold Hid
  simpa using this
 have bY:Hid (((w.alloc (.cells #[.pointer (some ⟨P,0,none⟩)] 62)).alloc (.cells #[i4 0,.string ⟨#[]⟩,.string ⟨#[]⟩,i4 0,i4 0,i4 0,.string ⟨#[]⟩,.slice none 0 0] 37)).heap.size=w.heap.size+2):=by
  unfold Hid
  simp
 have HS:=hid (hp.ext a5)
 have a3:=hid a5
 have ag:=hid (hs.ext a5)
 clear hp d9 a5 hs
 go_enter func77,ntmps77
 go_upto_region 1 with fail
 generalize (w.alloc (.cells #[.pointer (some ⟨P,0,none⟩)] 62)).alloc (.cells #[i4 0,.string ⟨#[]⟩,.string ⟨#[]⟩,i4 0,i4 0,i4 0,.string ⟨#[]⟩,.slice none 0 0] 37)=wB at*
 obtain⟨n0,cd⟩:∃n,w.heap.size=n:=⟨_,rfl⟩
 have bw:=hid cd
 rw[cd]at H bN bY eN e0 ⊢
 clear cd
 go_wp2_with fail
 refine(HF wB s HS (Nat.le_refl _)).mono ?_
 rintro _ w1 ⟨v,rfl,h1,E,b,g,c1,rfl,h3⟩
 obtain⟨s1,a4⟩:∃s1,(el s).2=s1:=⟨_,rfl⟩
 obtain⟨e1,cb⟩:∃e1,(el s).1=e1:=⟨_,rfl⟩
 have eX:s1.r.length≤s.r.length:=by rw[←a4];exact ds s
 rw[a4,cb]at D
 rw[a4]at h1
 rw[cb]at h3 ⊢
 clear a4 cb
 obtain⟨⟨op,tb,nm,ix,vk,vi,vt⟩,ks⟩:=e1
 unfold Nd.val
 simp only[Ex.d]
 have d8:=E.size
 rw[bY.out]at d8 h3
 have p:=x10 w1 (.cells #[i4 op,.string tb,.string nm,i4 ix,i4 vk,i4 vi,.string vt,.slice b g c1] 37)
 have cw:=hid (Blk.of_new w1 37 (eC op tb nm ix vk vi vt b g c1))
 have c3:=hid (h1.ext p)
 have a9:=hid (((Chg.of (P:=P) a3).trans E).ext p)
 have a7:=hid ((E.blk H (by omega)).ext p)
 have cH:=hid ((E.blk bN (by omega)).ext p)
 have be:=hid ((E.blk ag an).ext p)
 have a3:Hid (ExS (fun q=>n0≤q∧q≠w1.heap.size∧q≠n0+1) (w1.alloc (.cells #[i4 op,.string tb,.string nm,i4 ix,i4 vk,i4 vi,.string vt,.slice b g c1] 37)) (.mk ⟨op,tb,nm,ix,vk,vi,vt⟩ ks) b g c1):=
  Stb.ext (h3.weak fun q G hn=>⟨by omega,by omega,by omega⟩) p
 have a1:Hid (n0+1<w1.heap.size):=by unfold Hid;omega
 clear h1 E h3 p d8 HS H bN ag bY
 go_upto_region 2 with fail
 generalize w1.alloc (.cells #[i4 op,.string tb,.string nm,i4 ix,i4 vk,i4 vi,.string vt,.slice b g c1] 37)=wC at*
 generalize w1.heap.size=ge at*
 go_loopw [8] (fun _ wr=> ∃(n:Nat) (st:Ps) (e:Ex) (B:OA) (k c':Nat),st.r.length<n∧st.r.length≤s.r.length∧R=chainGo el ops n e st∧PsAt 68 P A c L w0 wr st∧Blk wr ge 37 (e.d.cells B k c')∧ExS (fun q=>n0≤q∧q≠ge∧q≠n0+1) wr e B k c'∧
  Blk wr n0 62 [.pointer (some ⟨P,0,none⟩)]∧Blk wr (n0+1) 37 eZ∧Blk wr gs 120 (symCs ops)∧Chg P w wr) (fun _ wr=>20001-posOf P wr)
 case atStart=>exact⟨_,s1,_,b,g,c1,by omega,eX,D,c3,cw,a3,a7,cH,be,a9⟩
 case round=>
  obtain⟨n,st,e,b,g,c1,hn,e8,hR,J,c8,eb,b9,c9,ci,df⟩:=hrel
  clear D c3 cw a3 a7 cH be a9
  obtain⟨n,rfl⟩:∃m,n=m+1:=⟨n-1,by omega⟩
  obtain⟨⟨op,tb,nm,ix,vk,vi,vt⟩,ks⟩:=e
  rw[chainGo]at hR
  have I:=hid hR
  have eA:=hid J
  have ck:=hid c8
  have c4:=hid eb
  have H:=hid b9
  have cp:=hid c9
  have ag:=hid ci
  have cv:=hid df
  have HI:=hid (index_sym J hL ops n0 gs (b9.cell_some rfl) ci (by omega) an hl)
  have HM:Hid (posOf P wr=L.length-st.r.length):=J.posOf
  have e4:=J.le
  have e5:=J.ne
  clear hR J c8 eb b9 c9 ci df
  go_wp2_with fail
  refine HI.mono ?_
  rintro _ w2 ⟨v,rfl,h1,E,i,rfl,dx⟩
  have y:Hid (Blk w2 ge 37 (eC op tb nm ix vk vi vt b g c1)):=E.blk ck (by have:=a1.out;omega)
  have bn:Hid (ExS (fun q=>n0≤q∧q≠ge∧q≠n0+1) w2 (.mk ⟨op,tb,nm,ix,vk,vi,vt⟩ ks) b g c1):=Stb.grown c4 E (fun q G e=>by have:=Option.some.inj e;omega)
  have ct:=hid (E.blk H (by omega))
  have C:=hid (E.blk cp (by omega))
  have bf:=hid (E.blk ag an)
  have ba:=hid (cv.trans E)
  have f:=hid h1
  clear h1 E HI ck c4 H cp ag cv eA
  rcases dx with ⟨hn1,hi⟩|⟨k,t,o,rfl,hk,ho⟩
  ·rw[hn1]at I
   rw[lu _ _ hn1]at f
   clear hn1
   obtain⟨b0,b1,b2,b3,b4,b5,b6,b7,-⟩:=cls y
   obtain⟨z0,z1,z2,z3,z4,z5,z6,z7,-⟩:=cls C
   obtain⟨y0,y1,y2,y3,y4,y5,y6,y7,-⟩:=frz C
   have hz:=mq C (eC op tb nm ix vk vi vt b g c1) rfl
   have bv:=hid (gm (n0+1) (eC op tb nm ix vk vi vt b g c1) w2 0)
   simp only[sts]at hz
   have HZ:=hid hz
   clear hz
   go_wp2_with fail
   obtain⟨q0,q1,q2,q3,q4,q5,q6,q7,-⟩:=cls HZ
   exact bodyPost_ret (v:= .agg #[i4 op,.string tb,.string nm,i4 ix,i4 vk,i4 vi,.string vt,.slice b g c1]) (by simp[results,results77,go_sem,q0,q1,q2,q3,q4,q5,q6,q7]) rfl ⟨_,rfl,by rw[I.out];exact f.grown bv (fun q G=>by have:=Option.some.inj G;omega),ba.own bv (fun q G=>by have:=Option.some.inj G;rw[bw.out];omega),by rw[I.out,bw.out];exact⟨b,g,c1,rfl,Stb.weak (Stb.grown bn bv (fun q G e=>by have:=Option.some.inj e;omega)) (fun q _ G=>G.1)⟩⟩
  ·rw[ho]at I
   have e3:=lq ho
   obtain⟨U,ax⟩:∃x,(firstP ops st).2=x:=⟨_,rfl⟩
   rw[ax]at e3 f
   have c7:R=chainGo el ops n (opE o [.mk ⟨op,tb,nm,ix,vk,vi,vt⟩ ks,(el U).1]) (el U).2:=by
    have:=I.out
    rw[←ax]
    exact this
   have c0:=hid c7
   clear I ax c7
   have bx:=hid (HF w2.drew U (f.ext (Ext.refl w2).drew) (by omega))
   have cz:=hid (dw _ (mem_of_getElem? hk))
   have a0:=hid (ds U)
   obtain⟨_,e1⟩:=kM ops k (t,o) hk
   have cs:=bf.cell_some e1
   have e7:=(List.getElem?_eq_some_iff.1 hk).1
   have i0:(0:Int)≤(k:Int):=by omega
   have i1:(k:Int)<(ops.length:Int):=by omega
   have i2:¬((k:Int)<0):=by omega
   have cc:ge<w2.heap.size:=y.lt
   have cx:=hid cc
   obtain⟨es,aS⟩:∃x,(el U).2=x:=⟨_,rfl⟩
   obtain⟨e2,dp⟩:∃x,(el U).1=x:=⟨_,rfl⟩
   rw[aS,dp]at c0 bx
   rw[aS]at a0
   clear aS dp e1 hk cc
   obtain⟨⟨op2,X,O,K,Z,Y,ac⟩,ee⟩:=e2
   have et:Hid (Cl F #[.pointer (some ⟨P,0,none⟩)] w2.drew fun e h=> ∃(A2:OA) (k2 c2:Nat),e= .returned (.agg #[i4 op2,.string X,.string O,i4 K,i4 Z,i4 Y,.string ac,.slice A2 k2 c2])∧PsAt 68 P A c L w0 h es∧Chg P w2 h∧ExS (fun q=>n0≤q∧q≠ge∧q≠n0+1) h (.mk ⟨op2,X,O,K,Z,Y,ac⟩ ee) A2 k2 c2):=
    bx.mono fun e h ⟨v,he,h5,h6,A2,k2,c2,hv,h7⟩=>⟨A2,k2,c2,by rw[he,hv];rfl,h5,(Chg.of (Ext.refl w2).drew).trans h6,h7.weak fun q _ hn=>by
     have:=a1.out
     have:=cx.out
     have hn:w2.heap.size≤q:=hn
     exact⟨by omega,by omega,by omega⟩⟩
   clear bx
   obtain⟨b0,b1,b2,b3,b4,b5,b6,b7,-⟩:=cls y
   go_upto_region 5 with fail
   go_region_law (first
    |(go_simp;go_at_call 105;(with_reducible refine(gR _ _ _ _ _).mono ?_);rintro _ w5 ⟨rfl,cj⟩;have u:Ext h w5:=(x10 h (.cells #[i4 op,.string tb,.string nm,i4 ix,i4 vk,i4 vi,.string vt,.slice b g c1,i4 op2,.string X,.string O,i4 K,i4 Z,i4 Y,.string ac,.slice A2 k2 c2] 37)).trans cj;have z:=ad.ext u;obtain⟨z0,z1,z2,z3,z4,z5,z6,z7,-⟩:=cls z;obtain⟨y0,y1,y2,y3,y4,y5,y6,y7,-⟩:=frz z)
    |(go_simp;(with_reducible refine et.out.mono ?_);rintro _ h ⟨A2,k2,c2,rfl,h5,h6,h7⟩;have ad:Blk h ge 37 (eC op tb nm ix vk vi vt b g c1):=h6.blk y (by have:=a1.out;omega);have c6:=h6.keep cs an;have eL:=(x10 h (.cells #[i4 op,.string tb,.string nm,i4 ix,i4 vk,i4 vi,.string vt,.slice b g c1,i4 op2,.string X,.string O,i4 K,i4 Z,i4 Y,.string ac,.slice A2 k2 c2] 37)).keep c6;obtain⟨d0,d1,d2,d3,d4,d5,d6,d7,-⟩:=cls ad))
   all_goals
    have fa:=h6.size
    have cc:=cx.out
    have e6:=a1.out
    have eU:n0≤h.heap.size∧h.heap.size≠ge∧h.heap.size≠n0+1:=⟨by omega,by omega,by omega⟩
    have bo:ExS (fun q=>n0≤q∧q≠ge∧q≠n0+1) (h.alloc (.cells #[i4 op,.string tb,.string nm,i4 ix,i4 vk,i4 vi,.string vt,.slice b g c1,i4 op2,.string X,.string O,i4 K,i4 Z,i4 Y,.string ac,.slice A2 k2 c2] 37)) (opE o [.mk ⟨op,tb,nm,ix,vk,vi,vt⟩ ks,.mk ⟨op2,X,O,K,Z,Y,ac⟩ ee]) (some ⟨h.heap.size,0,none⟩) 2 2:=
     ta (S:=fun q=>n0≤q∧q≠ge∧q≠n0+1) cz eU (Stb.grown bn h6 (fun q G e=>by have:=Option.some.inj e;omega)) h7
    have j:=gm ge (eC o ⟨#[]⟩ ⟨#[]⟩ 0 0 0 ⟨#[]⟩ (some ⟨h.heap.size,0,none⟩) 2 2) w5 0
    have c5:=hid (Stb.grown (Stb.ext bo cj) j (fun q G e=>by have:=Option.some.inj e;omega))
    have cl:=hid (mq z (eC o ⟨#[]⟩ ⟨#[]⟩ 0 0 0 ⟨#[]⟩ (some ⟨h.heap.size,0,none⟩) 2 2) rfl)
    have a2:=hid ((h5.ext u).grown j (fun q G=>by have:=Option.some.inj G;omega))
    have a8:=hid (((h6.blk ct (by omega)).ext u).grown j (fun e=>by have:=Option.some.inj e;omega))
    have a6:=hid (((h6.blk C (by omega)).ext u).grown j (fun e=>by have:=Option.some.inj e;omega))
    have bm:=hid (((h6.blk bf an).ext u).grown j (fun e=>by have:=Option.some.inj e;omega))
    have bd:=hid (((ba.trans h6).ext u).own j (fun q G=>by have:=Option.some.inj G;rw[bw.out];omega))
    simp only[sts]at c5 cl a2 a8 a6 bm bd
    have e9:=a2.le
    clear h5 h6 h7 cj u ad z bo j cs c6 eL b0 b1 b2 b3 b4 b5 b6 b7 d0 d1 d2 d3 d4 d5 d6 d7 z0 z1 z2 z3 z4 z5 z6 z7 y0 y1 y2 y3 y4 y5 y6 y7
    go_wp2_with fail
    exact⟨⟨n,es,_,some ⟨h.heap.size,0,none⟩,2,2,by have:=a0.out;omega,by have:=a0.out;omega,c0,a2,cl,c5,a8,a6,bm,bd⟩,by rw[a2.out.posOf,HM.out];have:=a0.out;have:=hL.len;have:=f.le;omega⟩
end
end
section
open Lx (Tk)
def TFit (k:Nat) (x:List UInt8) (N:Nat):Prop:=k≤5∧k≠0∧x.length≤N+16∧(k=3→x≠[]∧(∀c∈x,48≤c.toNat∧c.toNat≤57)∧Lx.digVal x≤2147483648∧(Lx.digVal x=0↔x= [48]))
theorem num_fit (c:UInt8) (r:List UInt8) (hd:Lx.isDigit c=true) (k:Nat) (x:List UInt8) (n:Nat) (h:Lx.numL (c::r)= .tok k x n):TFit k x (c::r).length:=by
 unfold Lx.numL at h
 split at h
 ·cases h
 ·next h1=>
  split at h
  ·cases h
  ·next h2=>
   injection h with hk hx hn
   subst hk
   have f:=Lx.span_all Lx.isDigit (c::r)
   rw[hx]at f h2
   have I:x.length≤(c::r).length:=by rw[←hx];simp[length_take];omega
   have g:∀c∈x,48≤c.toNat∧c.toNat≤57:=fun d E=>by
    have:=f d E
    simpa[Lx.isDigit] using this
   have F:1≤Lx.spanN Lx.isDigit (c::r):=by rw[Lx.spanN,if_pos hd];omega
   have t:x≠[]:=by
    rw[←hx]
    intro e
    have:=congrArg List.length e
    rw[length_take]at this
    simp at this
    omega
   refine⟨by omega,by omega,by omega,fun _=>⟨t,g,by omega,?_⟩⟩
   constructor
   ·intro B
    cases x with
    |nil=>exact absurd rfl t
    |cons a y=>
     rw[Lx.dv_cons]at B
     have H:=g a (mem_cons_self ..)
     have C:0<10^y.length:=Nat.pow_pos (by omega)
     have G:(a.toNat-48)*10^y.length=0:=by omega
     have D:a.toNat-48=0:=by
      rcases Nat.mul_eq_zero.1 G with h|h
      ·exact h
      ·omega
     have j:a=48:=by
      apply UInt8.toNat_inj.1
      show a.toNat=48
      omega
     subst j
     have p:((48:UInt8)::y).length=min (Lx.spanN Lx.isDigit (c::r)) (c::r).length:=by rw[←hx,length_take]
     have i:(c::r).head? =some 48:=by
      cases u:Lx.spanN Lx.isDigit (c::r)with
      |zero=>omega
      |succ m=>
       rw[u,take_succ_cons]at hx
       injection hx with hc _
       rw[hc];rfl
     have:¬1<Lx.spanN Lx.isDigit (c::r):=fun h=>h1 (.inl ⟨h,i⟩)
     cases y with
     |nil=>rfl
     |cons b z=>simp only[length_cons]at p;omega
   ·intro e
    rw[e];rfl
theorem tok_fit (c:UInt8) (r:List UInt8) (k:Nat) (x:List UInt8) (n:Nat) (h:Lx.tokL (c::r)= .tok k x n):TFit k x (c::r).length:=by
 rw[Lx.tokL]at h
 split at h
 ·unfold Lx.wordL at h
  split at h
  ·injection h with hk hx hn
   subst hk
   exact⟨by omega,by omega,by rw[←hx,length_map,length_take];omega,fun e=>by omega⟩
  ·split at h
   ·cases h
   ·injection h with hk hx hn
    subst hk
    exact⟨by omega,by omega,by rw[←hx,length_map,length_take];omega,fun e=>by omega⟩
 ·split at h
  ·next hd=>exact num_fit c r hd k x n h
  ·split at h
   ·unfold Lx.textL at h
    split at h
    ·cases h
    ·split at h
     ·cases h
     ·injection h with hk hx hn
      subst hk
      rw[←hx]
      exact⟨by omega,by omega,by omega,fun e=>by omega⟩
   ·unfold Lx.symL at h
    split at h
    ·cases h
    ·injection h with hk hx hn
     subst hk
     exact⟨by omega,by omega,by rw[←hx,length_take];omega,fun e=>by omega⟩
structure TkG (l:List UInt8) (p:Nat) (L:List Tk):Prop where
 len:1≤L.length∧L.length≤l.length+1
 last:∀(i:Nat) (a:Tk),L[i]? =some a→(a.kind=0↔i+1=L.length)
 fit:∀a∈L,(a.kind=0∧a.text= []∨TFit a.kind a.text l.length)∧a.pos≤p+l.length
theorem mt:∀(f:Nat) (l:List UInt8) (p:Nat) (L:List Tk),Lx.toksF f l p= .ok L→TkG l p L
 |0,l,p,L,h=>by simp[Lx.toksF]at h
 |f+1,l,p,L,h=>by
  rw[Lx.toksF]at h
  have C:=Lx.skip_le false l
  cases hd:l.drop (Lx.skipN false l)with
  |nil=>
   rw[hd]at h
   injection h with h
   subst h
   refine⟨⟨Nat.le_refl _,by simp⟩,fun i a hi=>?_,fun a b=>?_⟩
   ·cases i with
    |zero=>simp at hi;subst hi;simp
    |succ i=>simp at hi
   ·rw[List.mem_singleton.1 b]
    exact⟨.inl ⟨rfl,rfl⟩,by show p+Lx.skipN false l≤_;omega⟩
  |cons c r=>
   rw[hd]at h
   have y:(c::r).length=l.length-Lx.skipN false l:=by rw[←hd,length_drop]
   cases j:Lx.tokL (c::r)with
   |bad e=>simp only[j]at h;cases h
   |tok k x n=>
    simp only[j]at h
    have D:=Lx.tok_bound c r k x n j
    have g:=tok_fit c r k x n j
    cases u:Lx.toksF f ((c::r).drop n) (p+Lx.skipN false l+n)with
    |bad a e=>rw[u]at h;cases h
    |ok M=>
     rw[u]at h
     have t:=mt f _ _ M u
     have z: [(⟨k,x,p+Lx.skipN false l⟩:Tk)]++M=L:=by injection h
     subst z
     have B:((c::r).drop n).length=(c::r).length-n:=length_drop
     refine⟨⟨by simp,by have:=t.len.2;simp only[length_append,length_singleton];omega⟩,fun i a hi=>?_,fun a b=>?_⟩
     ·cases i with
      |zero=>
       simp at hi
       subst hi
       have:=t.len.1
       simp only[length_append,length_singleton]
       exact⟨fun e=>absurd e g.2.1,fun e=>by omega⟩
      |succ i=>
       have:=t.last i a (by simpa using hi)
       rw[this]
       simp only[length_append,length_singleton]
       omega
     ·rcases List.mem_append.1 b with b|b
      ·rw[List.mem_singleton.1 b]
       refine⟨.inr ⟨g.1,g.2.1,?_,g.2.2.2⟩,?_⟩
       ·have:=g.2.2.1;show x.length≤_;omega
       ·show p+Lx.skipN false l≤_;omega
      ·have:=t.fit a b
       refine⟨?_,by omega⟩
       rcases this.1 with h9|h9
       ·exact .inl h9
       ·exact .inr ⟨h9.1,h9.2.1,by have:=h9.2.2.1;omega,h9.2.2.2⟩
theorem gS {s:BA} {L:List Tk} (h:Lx.tokAll s= .ok L):TkL L:=by
 unfold Lx.tokAll at h
 split at h
 ·cases h
 ·next hs=>
  have f:=mt _ _ _ L h
  have r:s.data.toList.length=s.size:=Array.length_toList
  refine⟨by have:=f.len.2;omega,f.last,fun a b=>?_,fun a b=>?_,fun a b=>?_,fun a b k=>?_⟩
  ·rcases(f.fit a b).1 with h9|h9
   ·omega
   ·exact h9.1
  ·rcases(f.fit a b).1 with h9|h9
   ·rw[h9.2];exact Nat.zero_le _
   ·have:=h9.2.2.1;omega
  ·have:=(f.fit a b).2;omega
  ·rcases(f.fit a b).1 with h9|h9
   ·omega
   ·obtain⟨g,i,p,j⟩:=h9.2.2.2 k
    have e:(tkB a).data.toList=a.text:=by simp[tkB]
    refine⟨g,i,?_,?_⟩
    ·unfold digV;rw[e];omega
    ·unfold digV;rw[e,←j];omega
end
section
open Lx (Tk)
theorem uQ:∀(f:Nat) (l:List UInt8) (p a x:Nat),l.length<f→Lx.toksF f l p= .bad a x→x≠0
 |0,l,p,a,x,hl,_=>by omega
 |f+1,l,p,a,x,hl,h=>by
  rw[Lx.toksF]at h
  cases hd:l.drop (Lx.skipN false l)with
  |nil=>rw[hd]at h;cases h
  |cons c r=>
   rw[hd]at h
   have i:(c::r).length=l.length-Lx.skipN false l:=by rw[←hd,length_drop]
   cases b:Lx.tokL (c::r)with
   |bad e=>
    simp only[b]at h
    injection h with _ h
    have:=Lx.tok_bad c r e b
    omega
   |tok k y n=>
    simp only[b]at h
    have t:=Lx.tok_bound c r k y n b
    have j:((c::r).drop n).length=(c::r).length-n:=length_drop
    cases g:Lx.toksF f ((c::r).drop n) (p+Lx.skipN false l+n)with
    |bad a2 e=>
     rw[g]at h
     injection h with _ h
     subst h
     exact uQ f _ _ _ _ (by omega) g
    |ok M=>rw[g]at h;cases h
theorem all_err {s:BA} {a x:Nat} (h:Lx.tokAll s= .bad a x):x≠0:=by
 unfold Lx.tokAll at h
 split at h
 ·injection h with _ h;omega
 ·exact uQ _ _ _ _ _ (Nat.lt_succ_self _) h
theorem nM (s:BA) (w:World) (hs:s.size≤20000) (J:Lx.KwAt w):
  Cl 28 #[.string s] w fun e w'=>Ext w w'∧((∃a x:Nat,Lx.tokAll s= .bad a x∧x≠0∧e= .returned (.tuple #[.pointer none,i4 a,i4 x]))∨
   ∃(L:List Tk) (P:Nat) (A:OA) (c:Nat),Lx.tokAll s= .ok L∧e= .returned (.tuple #[.pointer (some ⟨P,0,none⟩),i4 0,i4 0])∧PsAt 68 P A c L w w' ⟨L,false⟩):=by
 have F:=hid (Lx.tokens_cap s w hs J)
 go_enter func28,ntmps28
 go_wp2_with fail
 refine F.mono ?_
 rintro e y ⟨v,rfl,⟨A,c,rfl,f,u⟩,D⟩
 have t:=hid D
 cases g:Lx.tokAll s with
 |bad a x=>
  have B:=all_err g
  have K:¬((x:Int)=0):=by omega
  rw[g]at f u
  have j:Lx.lsL (.bad a x)= []:=rfl
  have p:Lx.lsP (.bad a x)=a:=rfl
  have r:Lx.lsE (.bad a x)=x:=rfl
  rw[j,p,r]
  clear f u j p r
  go_wp2_with fail
  go_ret3
  exact⟨t,.inl ⟨a,x,g,B,rfl⟩⟩
 |ok l=>
  rw[g]at f u
  have j:Lx.lsL (.ok l)=l:=rfl
  have p:Lx.lsP (.ok l)=0:=rfl
  have r:Lx.lsE (.ok l)=0:=rfl
  rw[j]at f
  rw[j,p,r]
  have z:=hid f
  have O:=hid (gS g)
  have G:=hid g
  have k:Hid (0<l.length):=by
   unfold Lx.tokAll at g
   split at g
   ·cases g
   ·exact(mt _ _ _ l g).len.1
  have E:=hid (Blk.of_new y 68 [.slice A l.length c,i4 0,.bool false])
  clear f u j p r D
  go_wp2_with fail
  go_ret3
  refine⟨t.alloc _,.inr ⟨l,y.heap.size,A,c,g,rfl,?_⟩⟩
  refine⟨t.alloc _,t.size,?_,by simp,k,fun i a I=>?_⟩
  ·rw[Nat.sub_self]
   exact E
  ·obtain⟨b,C,H,c0,c1,c2⟩:=z i a I
   have h:=x10 y (.cells #[.slice A l.length c,i4 0,.bool false] 68)
   exact⟨b,C,H,World.block_lt_of_cell? y _ c0,h.keep c0,h.keep c1,h.keep c2⟩
end
theorem ti (s:St) (a:SA) (w:World) (t:StV w s a) (b:s.all.length≤100000000) (p:largeB s.all=true):
  Cl 31 #[s.val a] w (Rt (i4 3) w):=by
 have u:=hid (fun W (y:Ext w W)=>all_any s a W (t.ext y) b)
 have j:=hid (fun (W:World) (A:OA) (c:Nat) (z:KidsAt W A s.all)=>nD s.all A s.all.length c W rfl (by omega) z)
 have x:=hid (Blk.of_new w 40 (s.cells a))
 have k:=hid (x10 w (.cells (s.cells a).toArray 40))
 rw[p]at j
 clear t b p
 unfold St.val at*
 unfold St.cells Sl.v at*
 go_enter func31,ntmps31
 go_upto_region 1 with fail
 generalize w.alloc (.cells _ 40)=C at*
 generalize w.heap.size=g at*
 go_wp2_with (first|(refine aw rfl 40 (.tmp 1) rfl g rfl 40 _ _ x underlying40 rfl (by kernel_rfl) ?_)|(go_at_call 63;(with_reducible refine(u.out _ k.out).mono ?_);rintro _ D ⟨B,c1,rfl,f,h⟩)|(go_at_call 62;(with_reducible refine(j.out _ _ _ f).mono ?_);rintro _ E ⟨rfl,i⟩))
 go_ret
 exact⟨rfl,k.trans (h.trans i)⟩
end Go.Proofs.YtjigcpfjhfoheaaGreatDoor
