/- The bulk of what the parser reads is bounded by its tokens; The fixed examples, reckoned. -/
import Derived.Test.YtjigcpfjhfoheaaGreatDoorYae
import Derived.Test.YtjigcpfjhfoheaaGreatDoorYbe
import Derived.Test.YtjigcpfjhfoheaaGreatDoorYbi
namespace Go.Proofs.YtjigcpfjhfoheaaGreatDoor
open Go.RowKit
set_option maxHeartbeats 1000000
set_option maxRecDepth 100000
set_option linter.unusedVariables false
set_option linter.unusedSimpArgs false
section
open Lx (Tk)
def wsm:List Tk→Nat
 | []=>0
 |a::l=>a.text.length+1+wsm l
theorem wsm_app (a b:List Tk):wsm (a++b)=wsm a+wsm b:=by
 induction a with
 |nil=>simp[wsm]
 |cons x a ih=>rw[List.cons_append,wsm,wsm,ih];omega
theorem iV {s t:Ps} (h:Sfx s t):wsm t.r≤wsm s.r:=by
 obtain⟨A,e,_⟩:=h
 rw[e,wsm_app]
 omega
theorem hU {α:Type} (μ:α→Nat) (a b:List α):sumB μ (a++b)=sumB μ a+sumB μ b:=by
 induction a with
 |nil=>simp[sumB]
 |cons x a ih=>rw[List.cons_append,sumB,sumB,ih];omega
def Lin {α:Type} (d:Nat) (μ:α→Nat) (m:M α):Prop:=∀s,μ (m s).1+2*wsm (m s).2.r≤2*wsm s.r+d
section
variable {α β:Type} {d e:Nat} {μ:α→Nat} {ν:β→Nat}
theorem ar {m:M α} {f:α→M β} (h:Lin d μ m) (b:∀a,Lin (μ a+e) ν (f a)):Lin (d+e) ν (aB m f):=fun s=>by
 have i:=h s
 have g:=b (m s).1 (m s).2
 show ν (f (m s).1 (m s).2).1+2*wsm (f (m s).1 (m s).2).2.r≤_
 omega
theorem aU {a:α} (h:μ a≤d):Lin d μ (bb a):=fun s=>by
 show μ a+2*wsm s.r≤_
 omega
theorem cp {m:M α} (h:Rdy m) (b:∀a,μ a≤d):Lin d μ m:=fun s=>by
 have g:=iV (h.sfx s)
 have f:=b (m s).1
 omega
theorem bB (t:ByteArray) {m n:M α} (b:Lin d μ m) (a:Lin d μ n):Lin d μ (ifM t m n):=fun s=>by
 unfold ifM
 split
 ·next hs=>
  have f:=b s.next
  have g:=iV (Sfx.next hs)
  omega
 ·exact a s
theorem Lin.imp {m:M α} (h:Lin d μ m) (hd:d≤e):Lin e μ m:=fun s=>by have:=h s;omega
theorem cm_wsm {s:Ps} (h:isS yCm s=true):wsm s.r=wsm s.next.r+2:=by
 obtain⟨_,a,l,f,_,b,g⟩:=ce h
 have i:a.text.length=1:=by
  have:=congrArg ByteArray.size b
  simpa[tkB,ByteArray.size] using this
 rw[f,g,wsm,i]
 show 1+1+wsm l=wsm l+2
 omega
theorem jY {a:M α} (h:Lin d μ a) (hd:d≤4):∀(n:Nat) (o:List α) (s:Ps),sumB μ (listGo a n o s).1+2*wsm (listGo a n o s).2.r≤2*wsm s.r+sumB μ o
 |0,o,s=>by show sumB μ o+2*wsm s.r≤_;omega
 |n+1,o,s=>by
  rw[listGo]
  split
  ·next hs=>
   have b:=jY h hd n (o++ [(a s.next).1]) (a s.next).2
   have f:=h s.next
   have g:=cm_wsm hs
   rw[hU,sumB,sumB]at b
   omega
  ·show sumB μ o+2*wsm s.r≤_
   omega
theorem dv {a:M α} (h:Lin d μ a) (hd:d≤4):Lin d (sumB μ) (listP a):=fun s=>by
 have b:=jY h hd (s.r.length+1) [(a s).1] (a s).2
 have f:=h s
 rw[sumB,sumB]at b
 show sumB μ (listGo a (s.r.length+1) [(a s).1] (a s).2).1+_≤_
 unfold listP
 omega
end
theorem cG (k:Nat) (g:k≠0):Lin 1 bkS (takP k):=fun s=>by
 unfold takP bkS
 split
 ·next h=>
  obtain⟨_,a,l,b,_,f⟩:=eV g h
  have e:s.hd=a:=by unfold Ps.hd;rw[b];rfl
  rw[b,f,e,wsm]
  have:(tkB a).size=a.text.length:=by simp[tkB,ByteArray.size]
  simp only
  omega
 ·show 0+1+2*wsm s.r≤_
  omega
theorem aL (t:ByteArray):Lin 0 (fun _:Unit=>0) (aY t):=cp (bE t) fun _=>Nat.le_refl _
theorem fk:Lin 2 bkK namesP:=by
 refine(ar (e:=2) (aL _) fun _=> (ar (e:=1) (dv (cG 1 (by omega)) (by omega)) fun l=>?_).imp (by omega)).imp (by omega)
 exact(ar (d:=0) (e:=sumB bkS l+1) (aL _) fun _=> (aU (by unfold bkK;omega))).imp (by omega)
theorem rdy_typ:Rdy typP:=by
 unfold typP bnd2P maxP bndP
 exact bS _ (bS _ (aK (bS _ (aK rdy_num fun _=>aW _) rdy_num) fun _=>aK (bE _) fun _=>aK (bS _ (aK rdy_num fun _=>aW _) rdy_num) fun _=>aK (bE _) fun _=>aW _) (aW _)) (aK (bE _) fun _=>bS _ (aK rdy_num fun _=>aK (bE _) fun _=>aW _) (aW _))
theorem lin_def:Lin 1 fq cX:=by
 unfold cX
 refine(ar (e:=0) (cG 1 (by omega)) fun a=> (ar (d:=0) (e:=bkS a) (μ:=fun _=>0) (cp rdy_typ fun _=>Nat.le_refl _) fun t=>?_).imp (by omega)).imp (by omega)
 refine(bB _ ?_ (aU ?_)).imp (Nat.le_refl _)
 ·exact(ar (d:=0) (e:=0+bkS a) (aL _) fun _=>aU (by unfold fq bkS;simp only;omega)).imp (by omega)
 ·unfold fq bkS;simp only;omega
theorem lin_ref:Lin 4 iE refP:=by
 unfold refP
 refine(ar (e:=2) fk fun a=> (ar (d:=0) (e:=bkK a+2) (aL _) fun _=> (ar (d:=1) (e:=0+(bkK a+2)-1) (cG 1 (by omega)) fun t=>?_).imp (by omega)).imp (by omega)).imp (by omega)
 refine(ar (d:=2) (e:=bkS t+bkK a-1) fk fun b=>aU ?_).imp ?_
 ·unfold iE bkK bkS;simp only;omega
 ·unfold bkK bkS;omega
theorem lC:Lin 3 bkF srcP:=by
 unfold srcP
 refine(ar (d:=1) (e:=2) (cG 1 (by omega)) fun t=>?_).imp (by omega)
 refine bB _ ?_ (aU (by show t.size+0+1≤t.size+1+2;omega))
 exact(ar (d:=1) (e:=bkS t) (cG 1 (by omega)) fun a=>aU (by unfold bkF bkS;simp only;omega)).imp (by omega)
def dfW (d:Df):Nat:=sumB fq d.cols+sumB bkK d.keys+sumB iE d.frs+d.chk.length
section
variable {ex:M Ex} (hr:Rdy ex)
include hr
theorem mP (d:Df) (l:List ByteArray):Lin (dfW d+4) (fun x=>dfW x.1) (elemP ex d l):=by
 have app:∀ {α:Type} (μ:α→Nat) (a:List α) (x:α),sumB μ (a++ [x])=sumB μ a+μ x:=fun μ a x=>by rw[hU,sumB,sumB];rfl
 unfold elemP
 refine bB _ ?_ (bB _ ?_ (bB _ ?_ (bB _ ?_ ?_)))
 ·refine(ar (d:=0) (e:=dfW d+2) (aL _) fun _=> (ar (d:=2) (e:=dfW d) fk fun k=>aU ?_).imp (by omega)).imp (by omega)
  unfold dfW;simp only[app];omega
 ·refine(ar (d:=2) (e:=dfW d) fk fun k=>aU ?_).imp (by omega)
  unfold dfW;simp only[app];omega
 ·refine(ar (d:=0) (e:=dfW d+1) (aL _) fun _=> (ar (d:=1) (e:=dfW d) (μ:=fun _=>1) (cp hr fun _=>Nat.le_refl _) fun e=> (ar (d:=0) (e:=1+dfW d) (aL _) fun _=>aU ?_).imp (by omega)).imp (by omega)).imp (by omega)
  unfold dfW;simp only[List.length_append,List.length_singleton];omega
 ·refine(ar (d:=0) (e:=dfW d+4) (aL _) fun _=> (ar (d:=4) (e:=dfW d) lin_ref fun f=>aU ?_).imp (by omega)).imp (by omega)
  unfold dfW;simp only[app];omega
 ·refine(ar (d:=1) (e:=dfW d) lin_def fun c=>aU ?_).imp (by omega)
  unfold dfW;simp only[app];omega
theorem jZ:∀(n:Nat) (d:Df) (l:List ByteArray),Lin (dfW d) (fun x=>dfW x.1) (elemGo ex n d l)
 |0,d,l=>aU (Nat.le_refl _)
 |n+1,d,l=>fun s=>by
  show dfW (elemGo ex (n+1) d l s).1.1+_≤_
  rw[elG_succ]
  split
  ·next hs=>
   have f:=cm_wsm hs
   have a:=mP hr d l s.next
   have b:=jZ n (elemP ex d l s.next).1.1 (elemP ex d l s.next).1.2 (elemP ex d l s.next).2
   simp only at a b
   omega
  ·show dfW d+2*wsm s.r≤_
   omega
theorem lin_elems:Lin 4 (fun x=>dfW x.1) (eo ex):=fun s=>by
 have a:=mP hr ⟨[],[],[],[]⟩ [] s
 have b:=jZ hr (s.r.length+1) (elemP ex ⟨[],[],[],[]⟩ [] s).1.1 (elemP ex ⟨[],[],[],[]⟩ [] s).1.2 (elemP ex ⟨[],[],[],[]⟩ [] s).2
 show dfW (elemGo ex (s.r.length+1) _ _ _).1.1+2*wsm (elemGo ex (s.r.length+1) (elemP ex ⟨[],[],[],[]⟩ [] s).1.1 (elemP ex ⟨[],[],[],[]⟩ [] s).1.2 (elemP ex ⟨[],[],[],[]⟩ [] s).2).2.r≤_
 have f:dfW ⟨[],[],[],[]⟩=0:=rfl
 simp only[f]at a b
 omega
theorem fR:∀(n:Nat) (l:List Src) (c:List Ex),Lin (sumB bkF l) (fun x=>sumB bkF x.1) (fromGo ex n l c)
 |0,l,c=>aU (Nat.le_refl _)
 |n+1,l,c=>fun s=>by
  have app:∀x:Src,sumB bkF (l++ [x])=sumB bkF l+bkF x:=fun x=>by rw[hU,sumB,sumB];rfl
  show sumB bkF (fromGo ex (n+1) l c s).1.1+_≤_
  rw[frm_succ]
  split
  ·next hs=>
   have g:=cm_wsm hs
   have f:=lC s.next
   have b:=fR n (l++ [(srcP s.next).1]) c (srcP s.next).2
   simp only[app]at b
   omega
  split
  ·next hs=>
   have g:wsm s.r=wsm s.next.r+5:=by
    obtain⟨_,a,l,g,_,f,b⟩:=ce hs
    have h:a.text.length=4:=by
     have:=congrArg ByteArray.size f
     simpa[tkB,ByteArray.size] using this
    rw[g,b,wsm,h]
    show 4+1+wsm l=wsm l+5
    omega
   have f:=lC s.next
   have h:=iV (sfx_need kON (srcP s.next).2)
   have i:=iV (hr.sfx (needP kON (srcP s.next).2))
   have b:=fR n (l++ [(srcP s.next).1]) (c++ [(ex (needP kON (srcP s.next).2)).1]) (ex (needP kON (srcP s.next).2)).2
   simp only[app]at b
   omega
  ·show sumB bkF l+2*wsm s.r≤_
   omega
theorem lin_from:Lin 3 (fun x=>sumB bkF x.1) (fromP ex):=fun s=>by
 have b:=lC s
 have a:=fR hr (s.r.length+1) [(srcP s).1] [] (srcP s).2
 show sumB bkF (fromGo ex (s.r.length+1) _ [] _).1.1+2*wsm (fromGo ex (s.r.length+1) [(srcP s).1] [] (srcP s).2).2.r≤_
 simp only[sumB]at a
 omega
end
def St.cst (s:St):Nat:=s.tb.size+(sumB fq s.cols+sumB bkK s.keys+sumB iE s.frs+s.chk.length)+sumB (fun l:List Ex=>l.length+1) s.vals+sumB (fun x:Asg=>x.cl.size+2) s.sets+2*s.itms.length+sumB bkF s.frm+1+s.grp.length+s.ord.length+s.nm.size
theorem gD {α:Type} (l:List α):sumB (fun _=>1) l=l.length:=by
 induction l with
 |nil=>rfl
 |cons x l ih=>rw[sumB,ih,List.length_cons];omega
theorem mQ {α:Type} (l:List α):sumB (fun _=>2) l=2*l.length:=by
 induction l with
 |nil=>rfl
 |cons x l ih=>rw[sumB,ih,List.length_cons];omega
section
variable {ex:M Ex} (hr:Rdy ex)
include hr
theorem mR:Rdy (whrP ex):=bS _ hr (aW _)
theorem rdy_itm':Rdy (fF ex):=by
 unfold fF iD
 exact rdy_fst _ (fun o=>aK (bE _) fun _=>by split;exact bS _ (aK (bE _) fun _=>aW _) (aK hr fun _=>aK (bE _) fun _=>aW _);exact aK hr fun _=>aK (bE _) fun _=>aW _) (aK hr fun _=>aW _)
theorem nZ:Lin 10 St.cst (createP ex):=by
 unfold createP
 refine(ar (d:=0) (e:=10) (aL _) fun _=> (ar (d:=1) (e:=9) (cG 1 (by omega)) fun t=> (ar (d:=0) (e:=bkS t+9) (aL _) fun _=> (ar (d:=4) (e:=bkS t+5) (lin_elems hr) fun x=> (ar (d:=0) (e:=dfW x.1+(bkS t+5)) (aL _) fun _=>aU ?_).imp (by omega)).imp (by omega)).imp (by omega)).imp (by omega)).imp (by omega)
 unfold St.cst dfW bkS stZ
 simp only[sumB,List.length_nil]
 have:sumB fq (x.1.cols.map (nnC x.2))=sumB fq x.1.cols:=by
  induction x.1.cols with
  |nil=>rfl
  |cons c l ih=>rw[List.map_cons,sumB,sumB,ih];rfl
 rw[this]
 show t.size+_+0+0+2*0+0+1+0+0+0≤_
 omega
theorem n8:Lin 10 St.cst (eP ex):=by
 unfold eP
 have a:Lin 2 (fun l:List Ex=>l.length+1) (tupP ex):=by
  unfold tupP
  refine(ar (d:=0) (e:=2) (aL _) fun _=> (ar (d:=1) (e:=1) (μ:=sumB fun _=>1) (dv (cp hr fun _=>Nat.le_refl _) (by omega)) fun l=> (ar (d:=0) (e:=sumB (fun _=>1) l+1) (aL _) fun _=>aU ?_).imp (by omega)).imp (by omega)).imp (by omega)
  rw[gD]
  omega
 refine(ar (d:=0) (e:=10) (aL _) fun _=> (ar (d:=1) (e:=9) (cG 1 (by omega)) fun t=> (ar (d:=0) (e:=bkS t+9) (aL _) fun _=> (ar (d:=2) (e:=bkS t+7) (dv a (by omega)) fun v=>aU ?_).imp (by omega)).imp (by omega)).imp (by omega)).imp (by omega)
 unfold St.cst bkS stZ
 simp only[sumB,List.length_nil]
 show t.size+0+_+0+2*0+0+1+0+0+0≤_
 omega
theorem oa:Lin 10 St.cst (eQ ex):=by
 unfold eQ
 have a:Lin 2 (fun x:Asg=>x.cl.size+2) (asgP ex):=by
  unfold asgP
  refine(ar (d:=1) (e:=1) (cG 1 (by omega)) fun t=> (ar (d:=0) (e:=bkS t+1) (aL _) fun _=> (ar (d:=0) (e:=bkS t+1) (μ:=fun _=>0) (cp hr fun _=>Nat.le_refl _) fun e=>aU ?_).imp (by omega)).imp (by omega)).imp (by omega)
  unfold bkS
  simp only
  omega
 refine(ar (d:=1) (e:=9) (cG 1 (by omega)) fun t=> (ar (d:=0) (e:=bkS t+9) (aL _) fun _=> (ar (d:=2) (e:=bkS t+7) (dv a (by omega)) fun v=> (ar (d:=0) (e:=sumB (fun x:Asg=>x.cl.size+2) v+(bkS t+7)) (μ:=fun _=>0) (cp (mR hr) fun _=>Nat.le_refl _) fun w=>aU ?_).imp (by omega)).imp (by omega)).imp (by omega)).imp (by omega)
 unfold St.cst bkS stZ
 simp only[sumB,List.length_nil]
 show t.size+0+0+_+2*0+0+1+0+0+0≤_
 omega
theorem ob:Lin 10 St.cst (eR ex):=by
 unfold eR
 refine(ar (d:=0) (e:=10) (aL _) fun _=> (ar (d:=1) (e:=9) (cG 1 (by omega)) fun t=> (ar (d:=0) (e:=bkS t+9) (μ:=fun _=>0) (cp (mR hr) fun _=>Nat.le_refl _) fun w=>aU ?_).imp (by omega)).imp (by omega)).imp (by omega)
 unfold St.cst bkS stZ
 simp only[sumB,List.length_nil]
 show t.size+0+0+0+2*0+0+1+0+0+0≤_
 omega
theorem lin_query (k:List Ex→Ex):Lin 10 St.cst (queryP ex posP k):=by
 unfold queryP
 have hi:Lin 2 (fun l:List Itm=>2*l.length) (itmsP ex):=by
  refine bB _ (aU (by simp)) fun s=>?_
  have:=dv (d:=2) (μ:=fun _:Itm=>2) (cp (rdy_itm' hr) fun _=>Nat.le_refl _) (by omega) s
  rw[mQ]at this
  exact this
 have m:Lin 1 (fun l:List Ex=>l.length) grpP:=by
  refine bB _ ((ar (d:=0) (e:=1) (aL _) fun _=>fun s=>?_).imp (by omega)) (aU (by simp))
  have:=dv (d:=1) (μ:=fun _:Ex=>1) (cp rdy_col fun _=>Nat.le_refl _) (by omega) s
  rw[gD]at this
  omega
 have a:Rdy (fE posP):=aK li fun _=>bS _ (aW _) (bS _ (aW _) (aW _))
 have j:Lin 1 (fun l:List Ord'=>l.length) (gg posP):=by
  refine bB _ ((ar (d:=0) (e:=1) (aL _) fun _=>fun s=>?_).imp (by omega)) (aU (by simp))
  have:=dv (d:=1) (μ:=fun _:Ord'=>1) (cp a fun _=>Nat.le_refl _) (by omega) s
  rw[gD]at this
  omega
 have b:∀c:List Ex,Rdy (ep ex k c):=fun c=>bS _ (aK hr fun _=>aW _) (aW _)
 have h:Rdy (limP posP):=bS _ li (aW _)
 refine(ar (d:=2) (e:=8) hi fun i=> (ar (d:=0) (e:=2*i.length+8) (aL _) fun _=> (ar (d:=3) (e:=2*i.length+5) (lin_from hr) fun f=>?_).imp (by omega)).imp (by omega)).imp (by omega)
 refine(ar (d:=0) (e:=sumB bkF f.1+(2*i.length+5)) (μ:=fun _=>0) (cp (b f.2) fun _=>Nat.le_refl _) fun w=>?_).imp (by omega)
 refine(ar (d:=1) (e:=sumB bkF f.1+(2*i.length+4)) m fun g=>?_).imp (by omega)
 refine(ar (d:=1) (e:=g.length+(sumB bkF f.1+(2*i.length+3))) j fun o=>?_).imp (by omega)
 refine(ar (d:=0) (e:=o.length+(g.length+(sumB bkF f.1+(2*i.length+3)))) (μ:=fun _=>0) (cp h fun _=>Nat.le_refl _) fun l=>aU ?_).imp (by omega)
 unfold St.cst stZ
 simp only[sumB,List.length_nil]
 show 0+0+0+0+_+_+1+_+_+0≤_
 omega
theorem lin_stmt (k:List Ex→Ex):Lin 10 St.cst (eq ex posP k gh):=by
 have nm:∀j:Int,Lin 10 St.cst (nmP j):=fun j=>by
  refine(ar (d:=1) (e:=9) (cG 1 (by omega)) fun a=>aU ?_).imp (by omega)
  unfold St.cst bkS stZ
  simp only[sumB,List.length_nil]
  show 0+0+0+0+2*0+0+1+0+0+a.size≤_
  omega
 have one:∀j:Int,Lin 10 St.cst (bb { stZ with kd:=j }):=fun j=>aU (by show 0+0+0+0+2*0+0+1+0+0+0≤_;omega)
 unfold eq
 refine bB _ (nZ hr) (bB _ (n8 hr) (bB _ (oa hr) (bB _ (ob hr) (bB _ (lin_query hr k) (bB _ (one 6) (bB _ (one 7) (bB _ (bB _ (nm 10) (one 8)) (bB _ (nm 9) (bB _ (nm 11) ?_)))))))))
 intro s
 show 0+0+0+0+2*0+0+1+0+0+0+2*wsm s.r≤_
 omega
end
theorem tok_xn (c:UInt8) (r:List UInt8) (k:Nat) (x:List UInt8) (n:Nat) (h:Lx.tokL (c::r)= .tok k x n):x.length≤n:=by
 rw[Lx.tokL]at h
 split at h
 ·unfold Lx.wordL at h
  split at h
  ·cases h;rw[List.length_map,List.length_take];omega
  ·split at h
   ·cases h
   ·cases h;rw[List.length_map,List.length_take];omega
 split at h
 ·unfold Lx.numL at h
  split at h
  ·cases h
  ·split at h
   ·cases h
   ·cases h;rw[List.length_take];omega
 split at h
 ·unfold Lx.textL at h
  cases a:Lx.litF r [] 1 with
  |none=>rw[a]at h;cases h
  |some q=>
   obtain⟨X,i⟩:=q
   have:=Lx.lit_bound r [] 1 X i a
   rw[a]at h
   simp only at h
   split at h
   ·cases h
   ·cases h;simp only[List.length_nil]at this;omega
 ·unfold Lx.symL at h
  split at h
  ·cases h
  ·cases h;rw[List.length_take];omega
theorem mS:∀(m:Nat) (l:List UInt8) (p:Nat) (L:List Tk),l.length≤m→Lx.T l p= .ok L→wsm L≤2*l.length+1
 |0,l,p,L,hl,h=>by
  obtain rfl:l= []:=List.eq_nil_of_length_eq_zero (by omega)
  rw[Lx.T_end [] p rfl]at h
  cases h
  exact Nat.le_refl _
 |m+1,l,p,L,hl,h=>by
  cases hd:l.drop (Lx.skipN false l)with
  |nil=>
   rw[Lx.T_end l p hd]at h
   cases h
   show 0+1+0≤_
   omega
  |cons c r=>
   have f:(c::r).length=l.length-Lx.skipN false l:=by rw[←hd,List.length_drop]
   cases a:Lx.tokL (c::r)with
   |bad e'=>rw[Lx.T_bad l p c r e' hd a]at h;cases h
   |tok k y n=>
    have i:=Lx.tok_bound c r k y n a
    have j:=tok_xn c r k y n a
    rw[Lx.T_tok l p c r k y n hd a]at h
    cases b:Lx.T ((c::r).drop n) (p+Lx.skipN false l+n)with
    |bad x' e'=>rw[b]at h;cases h
    |ok z=>
     rw[b]at h
     have g:((c::r).drop n).length=(c::r).length-n:=List.length_drop
     have o:=mS m _ _ z (by omega) b
     cases h
     show wsm (_::z)≤_
     rw[wsm]
     show y.length+1+_≤_
     omega
theorem wsm_all {s:ByteArray} {L:List Tk} (h:Lx.tokAll s= .ok L):wsm L≤32769:=by
 unfold Lx.tokAll at h
 split at h
 ·cases h
 ·have a:s.data.toList.length=s.size:=Array.length_toList
  have:=mS _ _ _ L (Nat.le_refl _) h
  omega
theorem flat_cst (l:List (List Ex)):l.flatten.length≤sumB (fun l:List Ex=>l.length+1) l:=by
 induction l with
 |nil=>exact Nat.le_refl _
 |cons a l ih=>rw[List.flatten_cons,List.length_append,sumB];omega
theorem all_cst (s:St):s.all.length≤s.cst:=by
 have b:=flat_cst s.vals
 have a:=bv (bk:=fun x:Asg=>x.cl.size+2) (fun _=>by omega) s.sets
 unfold St.all St.cst
 simp only[List.length_append,List.length_map,List.length_singleton]
 omega
theorem fS {l:List Ex} (h:l.all Ex.formed=true):sizeL l=nodesL l:=(ff h).symm
theorem iW {α:Type} {μ ν:α→Nat} :∀ {l:List α},(∀x∈l,μ x≤ν x)→sumB μ l≤sumB ν l
 | [],_=>Nat.le_refl _
 |x::l,h=>by
  rw[sumB,sumB]
  have:=h x List.mem_cons_self
  have:=iW (μ:=μ) (ν:=ν) (l:=l) fun y a=>h y (List.mem_cons_of_mem _ a)
  omega
theorem j0 {α:Type} (μ ν:α→Nat) (l:List α):sumB (fun x=>μ x+ν x) l=sumB μ l+sumB ν l:=by
 induction l with
 |nil=>rfl
 |cons x l ih=>rw[sumB,sumB,sumB,ih];omega
theorem j1 {α:Type} (f:α→Ex) (l:List α):sumB (fun x=> (f x).nodes) l=nodesL (l.map f):=by
 induction l with
 |nil=>rfl
 |cons x l ih=>rw[sumB,List.map_cons,nodesL,ih]
theorem sumB_flat (l:List (List Ex)):sumB nodesL l=nodesL l.flatten:=by
 induction l with
 |nil=>rfl
 |cons x l ih=>rw[sumB,List.flatten_cons,cI,ih]
theorem bulk_cst {s:St} (h:s.formed=true):s.bulk≤s.cst+nodesL s.all:=by
 have L:=lone_of h
 have K:=dA h
 have b:∀ {e:Ex},e.formed=true∨e.absent=true→e.size≤e.nodes+1:=fun {e} f=>by
  rcases f with f|f
  ·rw[cW e f];omega
  ·rw[io f];omega
 have u:sizeL s.chk=nodesL s.chk:=by
  by_cases n:s.kd=1
  ·have:=K.2.1 n
   unfold St.defOk at this
   simp only[Bool.and_eq_true]at this
   exact fS this.2
  ·rw[K.2.2.1 n];rfl
 have t:sumB bkR s.vals≤sumB (fun l:List Ex=>l.length+1) s.vals+nodesL s.vals.flatten:=by
  rw[←sumB_flat,←j0]
  refine iW fun l m=>?_
  by_cases k:s.kd=2
  ·have:=List.all_eq_true.1 (K.2.2.2.1 k) l m
   unfold rowOk at this
   simp only[Bool.and_eq_true]at this
   unfold bkR
   rw[fS this.2]
   omega
  ·rw[L.vals k]at m;cases m
 have o:sumB bkA s.sets≤sumB (fun x:Asg=>x.cl.size+2) s.sets+nodesL (s.sets.map Asg.ex):=by
  rw[←j1,←j0]
  refine iW fun x g=>?_
  by_cases k:s.kd=3
  ·have:=List.all_eq_true.1 (K.2.2.2.2.2.1 k) x g
   unfold Asg.ok at this
   simp only[Bool.and_eq_true]at this
   have:=b (.inl this.2)
   unfold bkA
   omega
  ·rw[L.sets k]at g;cases g
 have q:sumB bkI s.itms≤2*s.itms.length+nodesL (s.itms.map Itm.ex):=by
  rw[←j1,←mQ,←j0]
  refine iW fun x g=>?_
  by_cases j:s.kd=5
  ·have i:=K.2.2.2.2.2.2.2.1 j
   unfold St.qOk at i
   simp only[Bool.and_eq_true]at i
   have a:=List.all_eq_true.1 i.1.1.1.1.1 x g
   unfold Itm.ok at a
   have:x.ex.size≤x.ex.nodes+1:=by
    split at a
    ·exact b (.inr a)
    ·simp only[Bool.and_eq_true]at a;exact b (.inl a.2)
   unfold bkI
   omega
  ·rw[(L.sel j).1]at g;cases g
 have p:sizeL s.grp=nodesL s.grp:=by
  by_cases j:s.kd=5
  ·have i:=K.2.2.2.2.2.2.2.1 j
   unfold St.qOk at i
   simp only[Bool.and_eq_true]at i
   refine fS (List.all_eq_true.2 fun e f=>?_)
   have:=List.all_eq_true.1 i.1.1.2 e f
   unfold colX at this
   simp only[Bool.and_eq_true]at this
   exact this.2
  ·rw[(L.sel j).2.2.1];rfl
 have w:sumB bkO s.ord=s.ord.length:=gD s.ord
 have r:=b (gY h).symm
 unfold St.bulk St.cst St.all
 simp only[cI]
 show _≤_+(_+(s.whr.nodes+0))
 omega
end
def aw1:ByteArray:=⟨#[97,32,78,79,84,32,73,78,32,40,49,44,32,50,41]⟩
def aw2:ByteArray:=⟨#[83,69,76,69,67,84,32,42,32,70,82,79,77,32,116,44,32,117,32,74,79,73,78,32,118,32,79,78,32,116,46,97,32,61,32,118,46,97,32,87,72,69,82,69,32,98,32,62,32,48]⟩
def aw3:ByteArray:=⟨#[68,69,76,69,84,69,32,116]⟩
def aw4:ByteArray:=⟨#[97,32,61,32,98,32,61,32,99]⟩
def aw5:ByteArray:=⟨#[66,69,71,73,78,59,32,67,79,77,77,73,84,59]⟩
theorem aw_1:(parE validE aw1).2=(0,0):=by kernel_rfl
theorem aw_1t:textE (parE validE aw1).1=⟨#[78,79,84,32,40,97,32,61,32,49,32,79,82,32,97,32,61,32,50,41]⟩:=by kernel_rfl
theorem aw_2:(parS validS aw2).2=(0,0):=by kernel_rfl
theorem aw_2f:(parS validS aw2).1.frm.length=3:=by kernel_rfl
theorem aw_2t:textE (parS validS aw2).1.whr=⟨#[116,46,97,32,61,32,118,46,97,32,65,78,68,32,98,32,62,32,48]⟩:=by kernel_rfl
theorem aw_3:(parS validS aw3).2=(7,2):=by kernel_rfl
theorem aw_4:(parE validE aw4).2=(6,2):=by kernel_rfl
theorem aw_5:(parL validS aw5).2=(0,0):=by kernel_rfl
theorem aw_5n:(parL validS aw5).1.length=2:=by kernel_rfl
end Go.Proofs.YtjigcpfjhfoheaaGreatDoor
