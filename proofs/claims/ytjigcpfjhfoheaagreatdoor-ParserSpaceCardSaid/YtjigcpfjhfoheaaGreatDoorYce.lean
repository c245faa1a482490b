/- A definition under way: the struct that holds its rows, the set of names, and the steps of the code; A statement stored whole; the columns of primary keys; the lists of a definition as statements have them. -/
import Derived.Test.YtjigcpfjhfoheaaGreatDoorYcd
import Derived.Test.YtjigcpfjhfoheaaGreatDoorYaj
import Derived.Great.BuildSlice
namespace Go.Proofs.YtjigcpfjhfoheaaGreatDoor
open Go.RowKit
set_option maxHeartbeats 1000000
set_option maxRecDepth 100000
set_option linter.unusedVariables false
set_option linter.unusedSimpArgs false
section
open Lx (Tk)
structure Chn (n0 P:Nat) (w w':World):Prop where
 os:w'.os=w.os
 tape:w'.tape=w.tape
 output:w'.output=w.output
 size:w.heap.size≤w'.heap.size
 keep:∀i,i<n0→i≠P→w'.heap[i]? =w.heap[i]?
section
variable {n0 P:Nat} {a b c w w':World}
theorem Chn.refl (n0 P:Nat) (w:World):Chn n0 P w w:=⟨rfl,rfl,rfl,Nat.le_refl _,fun _ _ _=>rfl⟩
theorem Chn.trans (h:Chn n0 P a b) (k:Chn n0 P b c):Chn n0 P a c:=⟨k.os.trans h.os,k.tape.trans h.tape,k.output.trans h.output,Nat.le_trans h.size k.size,fun i hi f=> (k.keep i hi f).trans (h.keep i hi f)⟩
theorem Chn.chg (h:Chn n0 P a b) (k:Chg P b c) (g:n0≤b.heap.size):Chn n0 P a c:=h.trans ⟨World.grownBy.os k,World.grownBy.tape k,World.grownBy.output k,World.grownBy.size k,fun i hi f=>World.grownBy.block k i (Nat.lt_of_lt_of_le hi g) fun e=>f (Option.some.inj e)⟩
theorem Chn.ext (h:Chn n0 P a b) (k:Ext b c) (f:n0≤b.heap.size):Chn n0 P a c:=h.chg (Chg.of k) f
theorem Chn.own (h:Chn n0 P a b) {q:Option Nat} (k:b.grownBy c q) (g:∀j,q=some j→n0≤j) (f:n0≤b.heap.size):Chn n0 P a c:=
 h.trans ⟨World.grownBy.os k,World.grownBy.tape k,World.grownBy.output k,World.grownBy.size k,fun i hi m=>World.grownBy.block k i (Nat.lt_of_lt_of_le hi f) fun e=>by have:=g i e.symm;omega⟩
theorem Chn.to (k:Chg P a b) (h:Chn n0 P b c) (g:a.heap.size≤n0):Chg P a c:=
 ⟨h.os.trans (World.grownBy.os k),h.tape.trans (World.grownBy.tape k),h.output.trans (World.grownBy.output k),Nat.le_trans (World.grownBy.size k) h.size,fun i hi f=>
  (h.keep i (Nat.lt_of_lt_of_le hi g) fun e=>f (by rw[e])).trans (World.grownBy.block k i hi f)⟩
theorem Chn.blk (h:Chn n0 P a b) {g t:Nat} {cs:List Value} (i:Blk a g t cs) (j:g<n0) (f:g≠P):Blk b g t cs:=(h.keep g j f).trans i
theorem Chn.stb (h:Chn n0 P a b) {S:Nat→Prop} {Φ:World→Prop} (hs:Stb S a Φ) (g:∀q,S q→q<n0∧q≠P):Stb S b Φ:=hs.step h.size fun q _ f=>h.keep q (g q f).1 (g q f).2
end
theorem aC (w:World) (g j:Nat) (u:Value):w.grownBy (w.setCell ⟨g,j,none⟩ u) (some g):=⟨rfl,rfl,rfl,by simp[World.setCell],fun i _ hi=>Below.heap_setCell w ⟨g,j,none⟩ u i (fun e=>hi (by rw[e]))⟩
structure DefAt (n0 gs M:Nat) (T K0 K1:TypeId) (x0 x1:Value) (post:List Value) (w:World) (D:DV) (d:Df) (l:List ByteArray):Prop where
 hgs:n0≤gs
 hM:n0≤M
 ne:gs≠M
 n:n0≤w.heap.size
 blk:Blk w gs T (x0::x1::D.vc::D.vk::D.vf::D.vx::post)
 map:StrMap w Tryz.prog K0 K1 M l.length l
 df:Dfw n0 [gs,M] w D d
section
variable {n0 gs M P:Nat} {T K0 K1:TypeId} {x0 x1:Value} {post:List Value} {w w':World} {D:DV} {d:Df} {l:List ByteArray}
theorem DefAt.bs (h:DefAt n0 gs M T K0 K1 x0 x1 post w D d l):∀q∈[gs,M],q<w.heap.size:=fun q f=>by
 simp only[List.mem_cons,List.not_mem_nil,or_false]at f
 rcases f with rfl|rfl
 ·exact h.blk.lt
 ·exact h.map.lt
theorem DefAt.chg (h:DefAt n0 gs M T K0 K1 x0 x1 post w D d l) (f:Chg P w w') (g:P<n0):DefAt n0 gs M T K0 K1 x0 x1 post w' D d l:=
 ⟨h.hgs,h.hM,h.ne,Nat.le_trans h.n f.size,f.blk h.blk (by have:=h.hgs;omega),h.map.kept f (fun e=>by have:=Option.some.inj e;have:=h.hM;omega),h.df.chg f g⟩
theorem DefAt.ext (h:DefAt n0 gs M T K0 K1 x0 x1 post w D d l) (f:Ext w w'):DefAt n0 gs M T K0 K1 x0 x1 post w' D d l:=
 ⟨h.hgs,h.hM,h.ne,Nat.le_trans h.n f.size,h.blk.ext f,h.map.ext f,h.df.ext f⟩
theorem DefAt.put (h:DefAt n0 gs M T K0 K1 x0 x1 post w D d l) {s:ByteArray} (f:w.grownBy w' (some M)) (g:StrMap w' Tryz.prog K0 K1 M (l.length+1) (l++ [s])):DefAt n0 gs M T K0 K1 x0 x1 post w' D d (l++ [s]):=
 ⟨h.hgs,h.hM,h.ne,Nat.le_trans h.n (World.grownBy.size f),h.blk.grown f (fun e=>h.ne (Option.some.inj e)),by rw[List.length_append];exact g,h.df.turn f (fun q e=> .inr (by rw[←Option.some.inj e];simp)) fun q i=> .inl i⟩
theorem DefAt.nec (h:DefAt n0 gs M T K0 K1 x0 x1 post w D d l):some gs≠D.vc.ownBlock∧some M≠D.vc.ownBlock:=
 ⟨fun e=> (h.df.dc gs e.symm).2.2.2 (by simp),fun e=> (h.df.dc M e.symm).2.2.2 (by simp)⟩
theorem DefAt.gec (h:DefAt n0 gs M T K0 K1 x0 x1 post w D d l):∀q,D.vc.ownBlock=some q→n0≤q:=fun q e=> (h.df.c.own.lt q e).1
theorem DefAt.pushc (h:DefAt n0 gs M T K0 K1 x0 x1 post w D d l) {y:Cd} {cs:List Value} {f:Value} (k:cs.length=6) (i:w'.ownsRow n0 99 6 f (d.cols.length+1) (D.cc.flatten++cs)) (g:w.grownBy w' D.vc.ownBlock)
  (o:f.ownBlock=D.vc.ownBlock∨f.ownBlock=some w.heap.size) (j:Stb (Sf n0 [gs,M] D) w (hZ y cs)):
  DefAt n0 gs M T K0 K1 x0 x1 post (w'.setCell ⟨gs,2,none⟩ f) { D with vc:=f,cc:=D.cc++ [cs] } { d with cols:=d.cols++ [y] } l:=by
 have m:=h.df.pushc k i g o h.bs j
 have hs:=aC w' gs 2 f
 refine⟨h.hgs,h.hM,h.ne,Nat.le_trans h.n (Nat.le_trans (World.grownBy.size g) (World.grownBy.size hs)),(h.blk.grown g h.nec.1).set 2 f,(h.map.kept g h.nec.2).kept hs (fun e=>h.ne (Option.some.inj e).symm),m.turn hs (fun q e=> .inr (by rw[←Option.some.inj e];simp)) fun q p=> .inl p⟩
theorem DefAt.nek (h:DefAt n0 gs M T K0 K1 x0 x1 post w D d l):some gs≠D.vk.ownBlock∧some M≠D.vk.ownBlock:=
 ⟨fun e=> (h.df.dk gs e.symm).2.2 (by simp),fun e=> (h.df.dk M e.symm).2.2 (by simp)⟩
theorem DefAt.gek (h:DefAt n0 gs M T K0 K1 x0 x1 post w D d l):∀q,D.vk.ownBlock=some q→n0≤q:=fun q e=> (h.df.k.own.lt q e).1
theorem DefAt.pushk (h:DefAt n0 gs M T K0 K1 x0 x1 post w D d l) {y:List ByteArray} {cs:List Value} {f:Value} (k:cs.length=1) (i:w'.ownsRow n0 101 1 f (d.keys.length+1) (D.ck.flatten++cs)) (g:w.grownBy w' D.vk.ownBlock)
  (o:f.ownBlock=D.vk.ownBlock∨f.ownBlock=some w.heap.size) (j:Stb (Sf n0 [gs,M] D) w (j5 y cs)):
  DefAt n0 gs M T K0 K1 x0 x1 post (w'.setCell ⟨gs,3,none⟩ f) { D with vk:=f,ck:=D.ck++ [cs] } { d with keys:=d.keys++ [y] } l:=by
 have m:=h.df.pushk k i g o h.bs j
 have hs:=aC w' gs 3 f
 refine⟨h.hgs,h.hM,h.ne,Nat.le_trans h.n (Nat.le_trans (World.grownBy.size g) (World.grownBy.size hs)),(h.blk.grown g h.nek.1).set 3 f,(h.map.kept g h.nek.2).kept hs (fun e=>h.ne (Option.some.inj e).symm),m.turn hs (fun q e=> .inr (by rw[←Option.some.inj e];simp)) fun q p=> .inl p⟩
theorem DefAt.nef (h:DefAt n0 gs M T K0 K1 x0 x1 post w D d l):some gs≠D.vf.ownBlock∧some M≠D.vf.ownBlock:=
 ⟨fun e=> (h.df.df gs e.symm).2 (by simp),fun e=> (h.df.df M e.symm).2 (by simp)⟩
theorem DefAt.gef (h:DefAt n0 gs M T K0 K1 x0 x1 post w D d l):∀q,D.vf.ownBlock=some q→n0≤q:=fun q e=> (h.df.f.own.lt q e).1
theorem DefAt.pushf (h:DefAt n0 gs M T K0 K1 x0 x1 post w D d l) {y:Rf} {cs:List Value} {f:Value} (k:cs.length=3) (i:w'.ownsRow n0 103 3 f (d.frs.length+1) (D.cf.flatten++cs)) (g:w.grownBy w' D.vf.ownBlock)
  (o:f.ownBlock=D.vf.ownBlock∨f.ownBlock=some w.heap.size) (j:Stb (Sf n0 [gs,M] D) w (ia y cs)):
  DefAt n0 gs M T K0 K1 x0 x1 post (w'.setCell ⟨gs,4,none⟩ f) { D with vf:=f,cf:=D.cf++ [cs] } { d with frs:=d.frs++ [y] } l:=by
 have m:=h.df.pushf k i g o h.bs j
 have hs:=aC w' gs 4 f
 refine⟨h.hgs,h.hM,h.ne,Nat.le_trans h.n (Nat.le_trans (World.grownBy.size g) (World.grownBy.size hs)),(h.blk.grown g h.nef.1).set 4 f,(h.map.kept g h.nef.2).kept hs (fun e=>h.ne (Option.some.inj e).symm),m.turn hs (fun q e=> .inr (by rw[←Option.some.inj e];simp)) fun q p=> .inl p⟩
theorem DefAt.nex (h:DefAt n0 gs M T K0 K1 x0 x1 post w D d l):some gs≠D.vx.ownBlock∧some M≠D.vx.ownBlock:=
 ⟨fun e=> (h.df.dx gs e.symm) (by simp),fun e=> (h.df.dx M e.symm) (by simp)⟩
theorem DefAt.gex (h:DefAt n0 gs M T K0 K1 x0 x1 post w D d l):∀q,D.vx.ownBlock=some q→n0≤q:=fun q e=> (h.df.x.own.lt q e).1
theorem DefAt.pushx (h:DefAt n0 gs M T K0 K1 x0 x1 post w D d l) {y:Ex} {cs:List Value} {f:Value} (k:cs.length=8) (i:w'.ownsRow n0 37 8 f (d.chk.length+1) (D.cx.flatten++cs)) (g:w.grownBy w' D.vx.ownBlock)
  (o:f.ownBlock=D.vx.ownBlock∨f.ownBlock=some w.heap.size) (j:Stb (Sf n0 [gs,M] D) w (cu y cs)):
  DefAt n0 gs M T K0 K1 x0 x1 post (w'.setCell ⟨gs,5,none⟩ f) { D with vx:=f,cx:=D.cx++ [cs] } { d with chk:=d.chk++ [y] } l:=by
 have m:=h.df.pushx k i g o h.bs j
 have hs:=aC w' gs 5 f
 refine⟨h.hgs,h.hM,h.ne,Nat.le_trans h.n (Nat.le_trans (World.grownBy.size g) (World.grownBy.size hs)),(h.blk.grown g h.nex.1).set 5 f,(h.map.kept g h.nex.2).kept hs (fun e=>h.ne (Option.some.inj e).symm),m.turn hs (fun q e=> .inr (by rw[←Option.some.inj e];simp)) fun q p=> .inl p⟩
end
theorem bJ {w:World} {B e f n:Nat} {v:Value} {i:List Value} (h:w.ownsRow B e f v n i):∃A c,v= .slice A n c:=by
 rcases h.2 with ⟨rfl,rfl⟩|⟨g,cap,cur,rfl,_⟩
 ·exact⟨_,_,rfl⟩
 ·exact⟨_,_,rfl⟩
theorem DefAt.start {n0 gs M:Nat} {T:TypeId} {x0 x1:Value} {post:List Value} {w:World} {K0 K1:TypeId} (h:n0≤gs) (f:n0≤M) (j:gs≠M) (k:n0≤w.heap.size) (i:Blk w gs T (x0::x1:: .slice none 0 0:: .slice none 0 0:: .slice none 0 0:: .slice none 0 0::post)) (g:StrMap w Tryz.prog K0 K1 M 0 []):
  DefAt n0 gs M T K0 K1 x0 x1 post w dv0 ⟨[],[],[],[]⟩ []:=⟨h,f,j,k,i,g,Dfw.start _ _ _⟩
theorem cU.last {α:Type} {Φ:α→List Value→World→Prop} {T n n0:Nat} {S S':Nat→Prop} {w w':World} {v:Value} {l:List α} {g:List (List Value)} {x y:α} {cs ds:List Value}
  (h:cU Φ T n n0 S w v (l++ [x]) (g++ [cs])) (t:ds.length=n) (r:w'.ownsRow n0 T n v (l.length+1) (g.flatten++ds)) (p:w.grownBy w' v.ownBlock) (o:∀q,q<w.heap.size→S q→v.ownBlock≠some q∧S' q) (s:Stb S w (Φ y ds)):
  cU Φ T n n0 S' w' v (l++ [y]) (g++ [ds]):=by
 have j:g.length=l.length:=by have:=h.len;simpa using this
 refine⟨by simp[j],fun z m=>?_,by simpa using r,fun i b B hi f=>?_⟩
 ·rcases List.mem_append.1 m with m|m
  ·exact h.each z (List.mem_append_left _ m)
  ·rw[List.mem_singleton.1 m];exact t
 ·by_cases k:i<l.length
  ·rw[List.getElem?_append_left k]at hi
   rw[List.getElem?_append_left (by omega)]at f
   exact(h.at_ i b B (by rw[List.getElem?_append_left k];exact hi) (by rw[List.getElem?_append_left (by omega)];exact f)).turn p o
  ·have A:=(List.getElem?_eq_some_iff.1 hi).1
   rw[List.length_append,List.length_singleton]at A
   obtain rfl:i=l.length:=by omega
   rw[List.getElem?_append_right (Nat.le_refl _),Nat.sub_self]at hi
   rw[←j,List.getElem?_append_right (Nat.le_refl _),Nat.sub_self]at f
   simp at hi f
   subst hi f
   exact s.turn p o
theorem bK {w:World} {B T k n c g:Nat} {i:List Value} (h:w.ownsRow B T k (.slice (some ⟨g,0,none⟩) n c) n i) {j:Nat} {v:Value} (f:i[j]? =some v):w.cell? ⟨g,j,none⟩=some v:=by
 rcases h.2 with ⟨h2,_⟩|⟨g2,cap,cur,hv,hg,hh,hn,hc,hs,ht⟩
 ·cases h2
 ·simp only[Value.slice.injEq,Option.some.injEq,Addr.mk.injEq,and_true,true_and]at hv
  obtain⟨rfl,rfl⟩:=hv
  rw[←ht,List.getElem?_take]at f
  split at f
  ·simp[World.cell?,hh]
   simpa using f
  ·cases f
theorem nOwn_sts {B T i n c g:Nat} :∀(vs:List Value) (w:World) (pre old:List Value),old.length=vs.length→w.ownsRow B T i (.slice (some ⟨g,0,none⟩) n c) n (pre++old)→(sts w g pre.length vs).ownsRow B T i (.slice (some ⟨g,0,none⟩) n c) n (pre++vs):=by
 intro vs
 induction vs with
 |nil=>
  intro w pre old f h
  rw[List.eq_nil_of_length_eq_zero f]at h
  exact h
 |cons v vs ih=>
  intro w pre old f h
  cases old with
  |nil=>simp at f
  |cons o old=>
   have k:=mW h (j:=pre.length) (by simp) v
   rw[List.set_append_right _ _ (Nat.le_refl _),Nat.sub_self,List.set_cons_zero]at k
   have m:=ih (w.setCell ⟨g,pre.length,none⟩ v) (pre++ [v]) old (by simpa using f) (by simpa using k)
   rw[sts]
   simpa using m
theorem eE {w:World} {B e f n:Nat} {v:Value} {i:List Value} (h:w.ownsRow B e f v (n+1) i):∃g c,v= .slice (some ⟨g,0,none⟩) (n+1) c:=by
 rcases h.2 with ⟨_,h2⟩|⟨g,cap,cur,rfl,_⟩
 ·omega
 ·exact⟨_,_,rfl⟩
theorem reads_blk {w:World} {g k:Nat} {e:TypeId} {cs:List Value} (h:Blk w g e cs) (i:cs.length=k):Reads w (g+1) k (some ⟨g,0,none⟩) 1 cs:=
 ⟨by simp[i],fun _=>⟨_,rfl,Nat.lt_succ_self _,fun j u m=>by
  have f:(⟨g,0,none⟩:Addr).add j=⟨g,0+j,none⟩:=by unfold Addr.add;split<;>simp_all
  rw[f,Nat.zero_add]
  exact h.cell_some m⟩⟩
def z8:List Value:=eZ
theorem cell_swap (w:World) {g h:Nat} (f:g≠h) (i j:Nat) (u v:Value):(w.setCell ⟨g,i,none⟩ u).setCell ⟨h,j,none⟩ v=(w.setCell ⟨h,j,none⟩ v).setCell ⟨g,i,none⟩ u:=by
 unfold World.setCell
 simp only[World.mk.injEq,true_and,and_true]
 apply Array.ext_getElem?
 intro k
 simp only[Array.getElem?_modify]
 by_cases n:g=k
 ·subst n
  simp[Ne.symm f]
 ·by_cases m:h=k
  ·subst m
   simp[f]
  ·simp[n,m]
theorem mX {g h:Nat} (f:g≠h) (j:Nat) (v:Value):∀(vs:List Value) (w:World) (i:Nat),sts (w.setCell ⟨h,j,none⟩ v) g i vs=(sts w g i vs).setCell ⟨h,j,none⟩ v
 | [],_,_=>rfl
 |u::vs,w,i=>by rw[sts,sts,cell_swap w (Ne.symm f),mX f j v vs]
structure gF (n0 gs M:Nat) (T K0 K1:TypeId) (x0 x1:Value) (post:List Value) (w:World) (D:DV) (u:Value) (cs:List Value) (e:Ex) (d:Df) (l:List ByteArray):Prop where
 hgs:n0≤gs
 hM:n0≤M
 ne:gs≠M
 n:n0≤w.heap.size
 blk:Blk w gs T (x0::x1::D.vc::D.vk::D.vf::D.vx::post)
 map:StrMap w Tryz.prog K0 K1 M l.length l
 df:Dfw n0 [gs,M] w { D with vx:=u,cx:=D.cx++ [cs] } { d with chk:=d.chk++ [e] }
section
variable {n0 gs M P:Nat} {T K0 K1:TypeId} {x0 x1 u:Value} {post cs:List Value} {w w':World} {D:DV} {e:Ex} {d:Df} {l:List ByteArray}
theorem gF.make (h:DefAt n0 gs M T K0 K1 x0 x1 post w D d l) (g:w'.ownsRow n0 37 8 u (d.chk.length+1) (D.cx.flatten++z8)) (f:w.grownBy w' D.vx.ownBlock) (i:u.ownBlock=D.vx.ownBlock∨u.ownBlock=some w.heap.size):
  gF n0 gs M T K0 K1 x0 x1 post w' D u z8 exZ d l:=
 ⟨h.hgs,h.hM,h.ne,Nat.le_trans h.n (World.grownBy.size f),h.blk.grown f h.nex.1,h.map.kept f h.nex.2,h.df.pushx rfl g f i h.bs fun j _ _=>⟨none,0,0,rfl,rfl,by omega,ez (o:=0) bG,by unfold KidsAt;exact trivial⟩⟩
theorem gF.chg (h:gF n0 gs M T K0 K1 x0 x1 post w D u cs e d l) (f:Chg P w w') (g:P<n0):gF n0 gs M T K0 K1 x0 x1 post w' D u cs e d l:=
 ⟨h.hgs,h.hM,h.ne,Nat.le_trans h.n f.size,f.blk h.blk (by have:=h.hgs;omega),h.map.kept f (fun e=>by have:=Option.some.inj e;have:=h.hM;omega),h.df.chg f g⟩
theorem gF.bs (h:gF n0 gs M T K0 K1 x0 x1 post w D u cs e d l):∀q∈[gs,M],q<w.heap.size:=fun q f=>by
 simp only[List.mem_cons,List.not_mem_nil,or_false]at f
 rcases f with rfl|rfl
 ·exact h.blk.lt
 ·exact h.map.lt
theorem gF.fin {g c:Nat} {ds:List Value} {y:Ex} (h:gF n0 gs M T K0 K1 x0 x1 post w D (.slice (some ⟨g,0,none⟩) (d.chk.length+1) c) z8 exZ d l) (A:ds.length=8)
  (F:Stb (Sf n0 [gs,M] { D with vx:= .slice (some ⟨g,0,none⟩) (d.chk.length+1) c,cx:=D.cx++ [z8] }) w (cu y ds)):
  DefAt n0 gs M T K0 K1 x0 x1 post ((sts w g D.cx.flatten.length ds).setCell ⟨gs,5,none⟩ (.slice (some ⟨g,0,none⟩) (d.chk.length+1) c)) { D with vx:= .slice (some ⟨g,0,none⟩) (d.chk.length+1) c,cx:=D.cx++ [ds] } { d with chk:=d.chk++ [y] } l∧
  n0≤g∧w.grownBy (sts w g D.cx.flatten.length ds) (some g)∧gs≠g:=by
 have j:(Value.slice (some ⟨g,0,none⟩) (d.chk.length+1) c).ownBlock=some g:=rfl
 have p:=h.df.x.own
 have B:D.cx.length=d.chk.length:=by have:=h.df.x.len;simpa using this
 simp only[List.length_append,List.length_singleton,List.flatten_append,List.flatten_cons,List.flatten_nil,List.append_nil]at p
 have E:=nOwn_sts ds w D.cx.flatten z8 (by rw[A];rfl) p
 have o:=ak g ds w D.cx.flatten.length
 have s:n0≤g:=(h.df.x.own.lt g j).1
 have m:g∉ [gs,M]:=h.df.dx g j
 simp only[List.mem_cons,List.not_mem_nil,or_false,not_or]at m
 have C:∀q,D.vc.ownBlock=some q→q≠g:=fun q i e=> (h.df.dc q i).2.2.1 (by rw[e];rfl)
 have G:∀q,D.vk.ownBlock=some q→q≠g:=fun q i e=> (h.df.dk q i).2.1 (by rw[e];rfl)
 have H:∀q,D.vf.ownBlock=some q→q≠g:=fun q i e=> (h.df.df q i).1 (by rw[e];rfl)
 have t:∀ {v:Value},(∀q,v.ownBlock=some q→q≠g)→v.ownBlock=none∨v.ownBlock≠some g:=fun {v} J=>by
  cases z:v.ownBlock with
  |none=>exact .inl rfl
  |some q=>exact .inr fun e=>J q z (Option.some.inj e)
 have r:∀q,q<w.heap.size→Sf n0 [gs,M] { D with vx:= .slice (some ⟨g,0,none⟩) (d.chk.length+1) c,cx:=D.cx++ [z8] } q→some g≠some q∧Sf n0 [gs,M] { D with vx:= .slice (some ⟨g,0,none⟩) (d.chk.length+1) c,cx:=D.cx++ [ds] } q:=fun q i hs=>
  ⟨fun e=>hs.x (by rw[j,e]),hs.ge,hs.c,hs.k,hs.f,hs.x,hs.b⟩
 have I:Dfw n0 [gs,M] (sts w g D.cx.flatten.length ds) { D with vx:= .slice (some ⟨g,0,none⟩) (d.chk.length+1) c,cx:=D.cx++ [ds] } { d with chk:=d.chk++ [y] } :=
  ⟨h.df.c.turn o (t C) r,h.df.k.turn o (t G) r,h.df.f.turn o (t H) r,h.df.x.last A E o (fun q i hs=>by rw[j];exact r q i hs) F,h.df.dc,h.df.dk,h.df.df,h.df.dx⟩
 have hs:=aC (sts w g D.cx.flatten.length ds) gs 5 (.slice (some ⟨g,0,none⟩) (d.chk.length+1) c)
 refine⟨⟨h.hgs,h.hM,h.ne,Nat.le_trans h.n (Nat.le_trans (World.grownBy.size o) (World.grownBy.size hs)),(h.blk.grown o (fun e=>m.1 (Option.some.inj e).symm)).set 5 _,(h.map.kept o (fun e=>m.2 (Option.some.inj e).symm)).kept hs (fun e=>h.ne (Option.some.inj e).symm),I.turn hs (fun q e=> .inr (by rw[←Option.some.inj e];simp)) fun q i=> .inl i⟩,s,o,fun e=>m.1 e.symm⟩
theorem DefAt.past (g:DefAt n0 gs M T K0 K1 x0 x1 post w D d l) {n1:Nat} (y:w.heap.size≤n1) {m p:World} {Ψ:World→Prop} (hs:Stb (n1≤·) m Ψ) (s:m.grownBy p D.vx.ownBlock) (h:u.ownBlock=D.vx.ownBlock∨u.ownBlock=some m.heap.size):
  Stb (Sf n0 [gs,M] { D with vx:=u,cx:=D.cx++ [cs] }) p Ψ:=by
 have j:=g.bs
 have t:=g.n
 refine hs.turn s fun q z i=>?_
 have r:n1≤q:=i
 have c:=fun e=> (g.df.c.own.lt q e).2
 have k:=fun e=> (g.df.k.own.lt q e).2
 have f:=fun e=> (g.df.f.own.lt q e).2
 have x:=fun e=> (g.df.x.own.lt q e).2
 refine⟨fun e=>by have:=x e;omega,by omega,fun e=>by have:=c e;omega,fun e=>by have:=k e;omega,fun e=>by have:=f e;omega,fun e=>?_,fun e=>by have:=j q e;omega⟩
 have o:u.ownBlock=some q:=e
 rcases h with h|h
 ·have:=x (h.symm.trans o);omega
 ·have:=Option.some.inj (h.symm.trans o);omega
theorem gF.cells {g c:Nat} (h:gF n0 gs M T K0 K1 x0 x1 post w D (.slice (some ⟨g,0,none⟩) (d.chk.length+1) c) z8 exZ d l):D.cx.flatten.length=d.chk.length*8∧(∀(j:Nat) (v:Value),z8[j]? =some v→w.cell? ⟨g,d.chk.length*8+j,none⟩=some v)∧(∀j,w.frozen? ⟨g,j,none⟩=false)∧gs≠g:=by
 have f:=h.df.x.own
 simp only[List.length_append,List.length_singleton,List.flatten_append,List.flatten_cons,List.flatten_nil,List.append_nil]at f
 have m:=f.1
 rw[List.length_append]at m
 have o:z8.length=8:=rfl
 have i:D.cx.flatten.length=d.chk.length*8:=by omega
 have k:g∉ [gs,M]:=h.df.dx g rfl
 simp only[List.mem_cons,List.not_mem_nil,or_false,not_or]at k
 refine⟨i,fun j v n=>bK f (by rw[List.getElem?_append_right (by omega),i,Nat.add_sub_cancel_left];exact n),fun j=>iy f j,fun e=>k.1 e.symm⟩
end
end
section
open Lx (Tk)
theorem kQ (w:World) (g:Nat) (cs:Array Value):w.grownBy (w.setRow g cs) (some g):=
 ⟨rfl,rfl,rfl,by simp[World.setRow],fun i _ hi=>by
  unfold World.setRow
  simp only
  rw[Array.getElem?_modify,if_neg (fun e=>hi (by rw[e]))]⟩
theorem row_blk {w:World} {g T:Nat} {old:List Value} (h:Blk w g T old) (cs:List Value):Blk (w.setRow g cs.toArray) g T cs:=by
 unfold Blk at h ⊢
 unfold World.setRow
 simp only
 rw[Array.getElem?_modify,if_pos rfl,h]
 rfl
def StW (w:World) (s:St) (a:SA):Prop:=StV w s a∧CapK w a.keys.A a.keys.n∧CapR w a.frs.A a.frs.n
def ElSt (n:Nat) (W:World) (s:St) (v:Value):Prop:=∃a,v=s.val a∧Stb (n≤·) W (fun w'=>StW w' s a)
theorem lst_capk {w:World} {B:Option Addr} {l:List (List ByteArray)} (h:Lst j5 1 w B l):CapK w B l.length:=fun i hi=>by
 obtain⟨cs,_,⟨b,g,k,o⟩,m,n,f,j,hs⟩:=h i _ (List.getElem?_eq_getElem hi)
 subst f
 exact⟨b,g,m,_,n,k,by simpa using o 0 _ rfl,j.2⟩
theorem lst_capr {w:World} {B:Option Addr} {l:List Rf} (h:Lst ia 3 w B l):CapR w B l.length:=fun i hi=>by
 obtain⟨cs,_,⟨b,j,o,k⟩,r,s,m,p,f,t,n,g,hs,q⟩:=h i _ (List.getElem?_eq_getElem hi)
 subst f
 exact⟨b,j,r,_,s,m,_,p,o,by simpa using k 0 _ rfl,n.2,k 2 _ rfl,g.2⟩
theorem StW.of {w:World} {s:St} {a:SA} (h:StV w s a) (g:a.keys.n=0) (f:a.frs.n=0):StW w s a:=⟨h,fun i hi=>by omega,fun i hi=>by omega⟩
theorem lst_cds {w:World} {B:Option Addr} {l:List Cd} (h:Lst hZ 6 w B l):gn w B l:=fun i a hi=>by
 obtain⟨cs,_,⟨b,j,m,f⟩,g,p,n,k,o,q⟩:=h i a hi
 subst g
 refine⟨⟨p,n,k,o,q⟩,b,j,m,?_,?_,?_,?_,?_,?_⟩
 ·have:=f 0 _ rfl;simpa using this
 ·exact f 1 _ rfl
 ·exact f 2 _ rfl
 ·exact f 3 _ rfl
 ·exact f 4 _ rfl
 ·exact f 5 _ rfl
theorem lst_keys {w:World} {B:Option Addr} {l:List (List ByteArray)} (h:Lst j5 1 w B l):dX w B l:=fun i a hi=>by
 obtain⟨cs,_,⟨b,g,j,n⟩,k,m,f,o,hs⟩:=h i a hi
 subst f
 refine⟨b,g,k,a.length,m,j,?_,rfl,by omega,hs⟩
 have:=n 0 _ rfl
 simpa using this
theorem lst_rfs {w:World} {B:Option Addr} {l:List Rf} (h:Lst ia 3 w B l):go w B l:=fun i a hi=>by
 obtain⟨cs,_,⟨b,k,o,j⟩,r,s,m,q,f,n,t,p,hs,g⟩:=h i a hi
 subst f
 refine⟨n,b,k,r,a.cs.length,s,m,a.tg.length,q,o,?_,j 1 _ rfl,j 2 _ rfl,rfl,by omega,hs,rfl,by omega,g⟩
 have:=j 0 _ rfl
 simpa using this
theorem mY {g:Nat} :∀(f:List (List Value)),(∀cs∈f,cs.length=g)→∀(i j:Nat) (cs:List Value) (u:Value),f[i]? =some cs→j<g→f.flatten.set (i*g+j) u=(f.set i (cs.set j u)).flatten
 | [],_,i,j,cs,u,h,_=>by simp at h
 |x::f,he,i,j,cs,u,h,hj=>by
  have k:=he x (List.mem_cons_self ..)
  rw[List.flatten_cons]
  cases i with
  |zero=>
   simp at h
   subst h
   rw[List.set_append_left _ _ (by omega),List.set_cons_zero,List.flatten_cons]
   simp
  |succ i=>
   rw[List.set_append_right _ _ (by rw[k,Nat.succ_mul];omega),k,show(i+1)*g+j-g=i*g+j by rw[Nat.succ_mul];omega,List.set_cons_succ,List.flatten_cons]
   rw[mY f (fun c m=>he c (List.mem_cons_of_mem _ m)) i j cs u (by simpa using h) hj]
theorem DefAt.nn {n0 gs M:Nat} {T K0 K1:TypeId} {x0 x1:Value} {post:List Value} {w:World} {D:DV} {d:Df} {l:List ByteArray} (h:DefAt n0 gs M T K0 K1 x0 x1 post w D d l) {g c:Nat} (I:D.vc= .slice (some ⟨g,0,none⟩) d.cols.length c) {i:Nat} {y:Cd} (W:d.cols[i]? =some y) (b:Bool):
  DefAt n0 gs M T K0 K1 x0 x1 post (w.setCell ⟨g,i*6+5,none⟩ (.bool b)) { D with cc:=D.cc.set i [.string y.nm,.int .i64 y.ty,.int .i64 y.lo,.int .i64 y.hi,.int .i64 y.mx,.bool b] } { d with cols:=d.cols.set i { y with nn:=b } } l∧
  n0≤g∧gs≠g∧(∀(j:Nat) (v:Value),[Value.string y.nm,.int .i64 y.ty,.int .i64 y.lo,.int .i64 y.hi,.int .i64 y.mx,.bool y.nn][j]? =some v→w.cell? ⟨g,i*6+j,none⟩=some v)∧∀j,w.frozen? ⟨g,j,none⟩=false:=by
 have m:D.vc.ownBlock=some g:=by rw[I];rfl
 have L:n0≤g:=h.gec g m
 have r:=(h.df.dc g m).2.2.2
 simp only[List.mem_cons,List.not_mem_nil,or_false,not_or]at r
 have hi:i<d.cols.length:=(List.getElem?_eq_some_iff.1 W).1
 have E:i<D.cc.length:=by rw[h.df.c.len];exact hi
 obtain⟨cs,t⟩:∃cs,D.cc[i]? =some cs:=⟨_,List.getElem?_eq_getElem E⟩
 have F:=((h.df.c.at_ i y cs W t).now)
 obtain⟨R,O⟩:=F
 subst R
 have o:=h.df.c.own
 rw[I]at o
 have Q:=mY D.cc h.df.c.each i 5 _ (.bool b) t (by omega)
 have H:i*6+5<D.cc.flatten.length:=by have:=o.1;omega
 have G:=mW o H (.bool b)
 rw[Q]at G
 have B:=aC w g (i*6+5) (.bool b)
 have Z:∀q,D.vk.ownBlock=some q→q≠g:=fun q C e=> (h.df.dc g m).1 (by rw[←e];exact C)
 have hf:∀q,D.vf.ownBlock=some q→q≠g:=fun q C e=> (h.df.dc g m).2.1 (by rw[←e];exact C)
 have hx:∀q,D.vx.ownBlock=some q→q≠g:=fun q C e=> (h.df.dc g m).2.2.1 (by rw[←e];exact C)
 have U:∀ {v:Value},(∀q,v.ownBlock=some q→q≠g)→v.ownBlock=none∨v.ownBlock≠some g:=fun {v} I=>by
  cases V:v.ownBlock with
  |none=>exact .inl rfl
  |some q=>exact .inr fun e=>I q V (Option.some.inj e)
 have K:∀q,q<w.heap.size→Sf n0 [gs,M] D q→some g≠some q∧Sf n0 [gs,M] { D with cc:=D.cc.set i [.string y.nm,.int .i64 y.ty,.int .i64 y.lo,.int .i64 y.hi,.int .i64 y.mx,.bool b] } q:=fun q C hs=>
  ⟨fun e=>hs.c (by rw[m,e]),hs.ge,hs.c,hs.k,hs.f,hs.x,hs.b⟩
 have J:cU hZ 99 6 n0 (Sf n0 [gs,M] { D with cc:=D.cc.set i [.string y.nm,.int .i64 y.ty,.int .i64 y.lo,.int .i64 y.hi,.int .i64 y.mx,.bool b] }) (w.setCell ⟨g,i*6+5,none⟩ (.bool b)) D.vc (d.cols.set i { y with nn:=b }) (D.cc.set i [.string y.nm,.int .i64 y.ty,.int .i64 y.lo,.int .i64 y.hi,.int .i64 y.mx,.bool b]):=by
  refine⟨by rw[List.length_set,List.length_set];exact h.df.c.len,fun z s=>?_,by rw[List.length_set,I];exact G,fun j z Y s p=>?_⟩
  ·rcases List.mem_or_eq_of_mem_set s with s|rfl
   ·exact h.df.c.each z s
   ·rfl
  ·by_cases A:i=j
   ·subst A
    rw[List.getElem?_set_self hi]at s
    rw[List.getElem?_set_self E]at p
    cases s
    cases p
    exact fun _ _ _=>⟨rfl,O⟩
   ·rw[List.getElem?_set_ne A]at s
    rw[List.getElem?_set_ne A]at p
    exact(h.df.c.at_ j z Y s p).turn B K
 refine⟨⟨h.hgs,h.hM,h.ne,Nat.le_trans h.n (World.grownBy.size B),h.blk.grown B (fun e=>r.1 (Option.some.inj e).symm),h.map.kept B (fun e=>r.2 (Option.some.inj e).symm),⟨J,h.df.k.turn B (U Z) K,h.df.f.turn B (U hf) K,h.df.x.turn B (U hx) K,h.df.dc,h.df.dk,h.df.df,h.df.dx⟩⟩,L,fun e=>r.1 e.symm,fun j v X=>?_,fun j=>iy o j⟩
 exact bK o (bH D.cc h.df.c.each i j _ v t X)
theorem iA {α:Type} {f:M α} (h:Fwd f):∀(n:Nat) (o:List α) (s:Ps),(listGo f n o s).1.length+(listGo f n o s).2.r.length≤o.length+s.r.length
 |0,_,_=>Nat.le_refl _
 |n+1,o,s=>by
  rw[listGo]
  split
  ·next hs=>
   have j:=aM hs
   have i:=h s.next
   have g:=iA h n (o++ [(f s.next).1]) (f s.next).2
   rw[List.length_append,List.length_singleton]at g
   omega
  ·exact Nat.le_refl _
theorem list_room {α:Type} {f:M α} (h:Fwd f) (s:Ps):(listP f s).1.length+(listP f s).2.r.length≤s.r.length+1:=by
 have g:=iA h (s.r.length+1) [(f s).1] (f s).2
 have i:=h s
 unfold listP
 rw[List.length_singleton]at g
 omega
theorem od (s:Ps):(namesP s).1.length+(namesP s).2.r.length≤s.r.length+1:=by
 have h:=list_room (fwd_tak 1) (needP yLp s)
 have f:=aH yLp s
 have g:=aH yRp (listP (takP 1) (needP yLp s)).2
 show(listP (takP 1) (needP yLp s)).1.length+(needP yRp (listP (takP 1) (needP yLp s)).2).r.length≤_
 omega
theorem fm:Fwd namesP:=ay (a7 _) fun _=>ay (dN (fwd_tak 1)) fun _=>ay (a7 _) fun _=>aT _
theorem mZ:Fwd bndP:=cM _ (ay eW fun _=>aT _) eW
theorem fwd_typ:Fwd typP:=cM _ (cM _ (ay mZ fun _=>ay (a7 _) fun _=>ay mZ fun _=>ay (a7 _) fun _=>aT _) (aT _)) (ay (a7 _) fun _=>cM _ (ay eW fun _=>ay (a7 _) fun _=>aT _) (aT _))
theorem fwd_def:Fwd cX:=ay (fwd_tak 1) fun _=>ay fwd_typ fun _=>cM _ (ay (a7 _) fun _=>aT _) (aT _)
theorem fwd_ref:Fwd refP:=ay fm fun _=>ay (a7 _) fun _=>ay (fwd_tak 1) fun _=>ay fm fun _=>aT _
theorem j6 {ex:M Ex} (h:Fwd ex) (d:Df) (l:List ByteArray):Fwd (elemP ex d l):=
 cM _ (ay (a7 _) fun _=>ay fm fun _=>aT _) (cM _ (ay fm fun _=>aT _) (cM _ (ay (a7 _) fun _=>ay h fun _=>ay (a7 _) fun _=>aT _)
  (cM _ (ay (a7 _) fun _=>ay fwd_ref fun _=>aT _) (ay fwd_def fun _=>aT _))))
theorem kR {ex:M Ex} (h:Fwd ex) (d:Df) (l:List ByteArray) (s:Ps):(elemP ex d l s).1.2.length+(elemP ex d l s).2.r.length≤l.length+s.r.length+1:=by
 have f:=j6 h d l s
 unfold elemP ifM at f ⊢
 split
 ·show(l++(namesP (needP kKEY s.next)).1).length+(namesP (needP kKEY s.next)).2.r.length≤_
  have g:=od (needP kKEY s.next)
  have i:=aH kKEY s.next
  have j:=next_len s
  rw[List.length_append]
  omega
 ·next g=>
  rw[if_neg g]at f
  have e:∀x:(Df×List ByteArray)×Ps,x.1.2=l→x.2.r.length≤s.r.length→x.1.2.length+x.2.r.length≤l.length+s.r.length+1:=fun x e h=>by rw[e];omega
  refine e _ ?_ f
  repeat' split
  all_goals rfl
theorem lD {w:World} {g T:Nat} {pre old vs post:List Value} (h:Blk w g T (pre++old++post)) (f:old.length=vs.length):Blk (sts w g pre.length vs) g T (pre++vs++post):=by
 have i:∀(vs:List Value) (w:World) (pre old:List Value),old.length=vs.length→Blk w g T (pre++old++post)→Blk (sts w g pre.length vs) g T (pre++vs++post):=by
  intro vs
  induction vs with
  |nil=>
   intro w pre old f h
   rw[List.eq_nil_of_length_eq_zero f]at h
   exact h
  |cons v vs ih=>
   intro w pre old f h
   cases old with
   |nil=>simp at f
   |cons o old=>
    have j:=h.set pre.length v
    rw[List.append_assoc,List.set_append_right _ _ (Nat.le_refl _),Nat.sub_self,List.cons_append,List.set_cons_zero]at j
    have k:=ih (w.setCell ⟨g,pre.length,none⟩ v) (pre++ [v]) old (by simpa using f) (by simpa using j)
    rw[sts]
    simpa using k
 exact i vs w pre old f h
theorem kids_nil (w:World) (A:Option Addr):KidsAt w A []:=by unfold KidsAt;exact trivial
theorem ib (w:World):ExV w exZ none 0 0:=⟨rfl,by omega,ez (o:=0) bG,by unfold KidsAt Ex.ks;trivial⟩
end
end Go.Proofs.YtjigcpfjhfoheaaGreatDoor
