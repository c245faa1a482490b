/- The bulk of what the parser reads is bounded by its tokens; The fixed examples, reckoned. -/
import Derived.Test.YtjigcpfjhfoheaaGreatDoorEaf
import Derived.Test.YtjigcpfjhfoheaaGreatDoorEbg
import Derived.Test.YtjigcpfjhfoheaaGreatDoorEbj
namespace Go.Proofs.YtjigcpfjhfoheaaGreatDoor
open Go.RowKit
set_option maxHeartbeats 1000000
set_option maxRecDepth 100000
set_option linter.unusedVariables false
set_option linter.unusedSimpArgs false
section
open Lx (Tk)
def wsm:List Tk→Nat
 | []=>0
 |a::l=>a.text.length+1+wsm l
theorem wsm_app (a b:List Tk):wsm (a++b)=wsm a+wsm b:=by
 induction a with
 |nil=>simp[wsm]
 |cons x a ih=>rw[List.cons_append,wsm,wsm,ih];omega
theorem wsm_sfx {s t:Ps} (h:Sfx s t):wsm t.r≤wsm s.r:=by
 obtain⟨A,e,_⟩:=h
 rw[e,wsm_app]
 omega
theorem sumB_app' {α:Type} (μ:α→Nat) (a b:List α):sumB μ (a++b)=sumB μ a+sumB μ b:=by
 induction a with
 |nil=>simp[sumB]
 |cons x a ih=>rw[List.cons_append,sumB,sumB,ih];omega
def Lin {α:Type} (d:Nat) (μ:α→Nat) (m:M α):Prop:=∀s,μ (m s).1+2*wsm (m s).2.r≤2*wsm s.r+d
section
variable {α β:Type} {d e:Nat} {μ:α→Nat} {ν:β→Nat}
theorem lin_bnd {m:M α} {f:α→M β} (h:Lin d μ m) (hf:∀a,Lin (μ a+e) ν (f a)):Lin (d+e) ν (bndM m f):=fun s=>by
 have h1:=h s
 have h2:=hf (m s).1 (m s).2
 show ν (f (m s).1 (m s).2).1+2*wsm (f (m s).1 (m s).2).2.r≤_
 omega
theorem lin_ret {a:α} (h:μ a≤d):Lin d μ (retM a):=fun s=>by
 show μ a+2*wsm s.r≤_
 omega
theorem lin_rdy {m:M α} (h:Rdy m) (hk:∀a,μ a≤d):Lin d μ m:=fun s=>by
 have h1:=wsm_sfx (h.sfx s)
 have h2:=hk (m s).1
 omega
theorem lin_if (t:ByteArray) {m n:M α} (h1:Lin d μ m) (h2:Lin d μ n):Lin d μ (ifM t m n):=fun s=>by
 unfold ifM
 split
 ·next hs=>
  have h3:=h1 s.next
  have h4:=wsm_sfx (Sfx.next hs)
  omega
 ·exact h2 s
theorem Lin.imp {m:M α} (h:Lin d μ m) (hd:d≤e):Lin e μ m:=fun s=>by have:=h s;omega
theorem cm_wsm {s:Ps} (h:isS yCm s=true):wsm s.r=wsm s.next.r+2:=by
 obtain⟨_,a,l,h1,_,h2,h3⟩:=isS_cons h
 have h4:a.text.length=1:=by
  have:=congrArg ByteArray.size h2
  simpa[tkB,ByteArray.size] using this
 rw[h1,h3,wsm,h4]
 show 1+1+wsm l=wsm l+2
 omega
theorem lin_listGo {el:M α} (h:Lin d μ el) (hd:d≤4):∀(n:Nat) (o:List α) (s:Ps),sumB μ (listGo el n o s).1+2*wsm (listGo el n o s).2.r≤2*wsm s.r+sumB μ o
 |0,o,s=>by show sumB μ o+2*wsm s.r≤_;omega
 |n+1,o,s=>by
  rw[listGo]
  split
  ·next hs=>
   have h1:=lin_listGo h hd n (o++ [(el s.next).1]) (el s.next).2
   have h2:=h s.next
   have h3:=cm_wsm hs
   rw[sumB_app',sumB,sumB]at h1
   omega
  ·show sumB μ o+2*wsm s.r≤_
   omega
theorem lin_list {el:M α} (h:Lin d μ el) (hd:d≤4):Lin d (sumB μ) (listP el):=fun s=>by
 have h1:=lin_listGo h hd (s.r.length+1) [(el s).1] (el s).2
 have h2:=h s
 rw[sumB,sumB]at h1
 show sumB μ (listGo el (s.r.length+1) [(el s).1] (el s).2).1+_≤_
 unfold listP
 omega
end
theorem lin_tak (k:Nat) (hk:k≠0):Lin 1 bkS (takP k):=fun s=>by
 unfold takP bkS
 split
 ·next h=>
  obtain⟨_,a,l,h1,_,h3⟩:=hasK_cons hk h
  have e:s.hd=a:=by unfold Ps.hd;rw[h1];rfl
  rw[h1,h3,e,wsm]
  have:(tkB a).size=a.text.length:=by simp[tkB,ByteArray.size]
  simp only
  omega
 ·show 0+1+2*wsm s.r≤_
  omega
theorem lin_needM (t:ByteArray):Lin 0 (fun _:Unit=>0) (needM t):=lin_rdy (rdy_need t) fun _=>Nat.le_refl _
theorem lin_names:Lin 2 bkK namesP:=by
 refine(lin_bnd (e:=2) (lin_needM _) fun _=> (lin_bnd (e:=1) (lin_list (lin_tak 1 (by omega)) (by omega)) fun l=>?_).imp (by omega)).imp (by omega)
 exact(lin_bnd (d:=0) (e:=sumB bkS l+1) (lin_needM _) fun _=> (lin_ret (by unfold bkK;omega))).imp (by omega)
theorem rdy_typ:Rdy typP:=by
 unfold typP bnd2P maxP bndP
 exact rdy_if _ (rdy_if _ (rdy_bnd (rdy_if _ (rdy_bnd rdy_num fun _=>rdy_ret _) rdy_num) fun _=>rdy_bnd (rdy_need _) fun _=>rdy_bnd (rdy_if _ (rdy_bnd rdy_num fun _=>rdy_ret _) rdy_num) fun _=>rdy_bnd (rdy_need _) fun _=>rdy_ret _) (rdy_ret _)) (rdy_bnd (rdy_need _) fun _=>rdy_if _ (rdy_bnd rdy_num fun _=>rdy_bnd (rdy_need _) fun _=>rdy_ret _) (rdy_ret _))
theorem lin_def:Lin 1 bkCd defP:=by
 unfold defP
 refine(lin_bnd (e:=0) (lin_tak 1 (by omega)) fun a=> (lin_bnd (d:=0) (e:=bkS a) (μ:=fun _=>0) (lin_rdy rdy_typ fun _=>Nat.le_refl _) fun t=>?_).imp (by omega)).imp (by omega)
 refine(lin_if _ ?_ (lin_ret ?_)).imp (Nat.le_refl _)
 ·exact(lin_bnd (d:=0) (e:=0+bkS a) (lin_needM _) fun _=>lin_ret (by unfold bkCd bkS;simp only;omega)).imp (by omega)
 ·unfold bkCd bkS;simp only;omega
theorem lin_ref:Lin 4 bkRf refP:=by
 unfold refP
 refine(lin_bnd (e:=2) lin_names fun a=> (lin_bnd (d:=0) (e:=bkK a+2) (lin_needM _) fun _=> (lin_bnd (d:=1) (e:=0+(bkK a+2)-1) (lin_tak 1 (by omega)) fun t=>?_).imp (by omega)).imp (by omega)).imp (by omega)
 refine(lin_bnd (d:=2) (e:=bkS t+bkK a-1) lin_names fun b=>lin_ret ?_).imp ?_
 ·unfold bkRf bkK bkS;simp only;omega
 ·unfold bkK bkS;omega
theorem lin_src:Lin 3 bkF srcP:=by
 unfold srcP
 refine(lin_bnd (d:=1) (e:=2) (lin_tak 1 (by omega)) fun t=>?_).imp (by omega)
 refine lin_if _ ?_ (lin_ret (by show t.size+0+1≤t.size+1+2;omega))
 exact(lin_bnd (d:=1) (e:=bkS t) (lin_tak 1 (by omega)) fun a=>lin_ret (by unfold bkF bkS;simp only;omega)).imp (by omega)
def dfW (d:Df):Nat:=sumB bkCd d.cols+sumB bkK d.keys+sumB bkRf d.frs+d.chk.length
section
variable {ex:M Ex} (hr:Rdy ex)
include hr
theorem lin_elem (d:Df) (l:List ByteArray):Lin (dfW d+4) (fun x=>dfW x.1) (elemP ex d l):=by
 have app:∀ {α:Type} (μ:α→Nat) (a:List α) (x:α),sumB μ (a++ [x])=sumB μ a+μ x:=fun μ a x=>by rw[sumB_app',sumB,sumB];rfl
 unfold elemP
 refine lin_if _ ?_ (lin_if _ ?_ (lin_if _ ?_ (lin_if _ ?_ ?_)))
 ·refine(lin_bnd (d:=0) (e:=dfW d+2) (lin_needM _) fun _=> (lin_bnd (d:=2) (e:=dfW d) lin_names fun k=>lin_ret ?_).imp (by omega)).imp (by omega)
  unfold dfW;simp only[app];omega
 ·refine(lin_bnd (d:=2) (e:=dfW d) lin_names fun k=>lin_ret ?_).imp (by omega)
  unfold dfW;simp only[app];omega
 ·refine(lin_bnd (d:=0) (e:=dfW d+1) (lin_needM _) fun _=> (lin_bnd (d:=1) (e:=dfW d) (μ:=fun _=>1) (lin_rdy hr fun _=>Nat.le_refl _) fun e=> (lin_bnd (d:=0) (e:=1+dfW d) (lin_needM _) fun _=>lin_ret ?_).imp (by omega)).imp (by omega)).imp (by omega)
  unfold dfW;simp only[List.length_append,List.length_singleton];omega
 ·refine(lin_bnd (d:=0) (e:=dfW d+4) (lin_needM _) fun _=> (lin_bnd (d:=4) (e:=dfW d) lin_ref fun f=>lin_ret ?_).imp (by omega)).imp (by omega)
  unfold dfW;simp only[app];omega
 ·refine(lin_bnd (d:=1) (e:=dfW d) lin_def fun c=>lin_ret ?_).imp (by omega)
  unfold dfW;simp only[app];omega
theorem lin_elemGo:∀(n:Nat) (d:Df) (l:List ByteArray),Lin (dfW d) (fun x=>dfW x.1) (elemGo ex n d l)
 |0,d,l=>lin_ret (Nat.le_refl _)
 |n+1,d,l=>fun s=>by
  show dfW (elemGo ex (n+1) d l s).1.1+_≤_
  rw[elG_succ]
  split
  ·next hs=>
   have h1:=cm_wsm hs
   have h2:=lin_elem hr d l s.next
   have h3:=lin_elemGo n (elemP ex d l s.next).1.1 (elemP ex d l s.next).1.2 (elemP ex d l s.next).2
   simp only at h2 h3
   omega
  ·show dfW d+2*wsm s.r≤_
   omega
theorem lin_elems:Lin 4 (fun x=>dfW x.1) (elemsP ex):=fun s=>by
 have h2:=lin_elem hr ⟨[],[],[],[]⟩ [] s
 have h3:=lin_elemGo hr (s.r.length+1) (elemP ex ⟨[],[],[],[]⟩ [] s).1.1 (elemP ex ⟨[],[],[],[]⟩ [] s).1.2 (elemP ex ⟨[],[],[],[]⟩ [] s).2
 show dfW (elemGo ex (s.r.length+1) _ _ _).1.1+2*wsm (elemGo ex (s.r.length+1) (elemP ex ⟨[],[],[],[]⟩ [] s).1.1 (elemP ex ⟨[],[],[],[]⟩ [] s).1.2 (elemP ex ⟨[],[],[],[]⟩ [] s).2).2.r≤_
 have h0:dfW ⟨[],[],[],[]⟩=0:=rfl
 simp only[h0]at h2 h3
 omega
theorem lin_fromGo:∀(n:Nat) (l:List Src) (c:List Ex),Lin (sumB bkF l) (fun x=>sumB bkF x.1) (fromGo ex n l c)
 |0,l,c=>lin_ret (Nat.le_refl _)
 |n+1,l,c=>fun s=>by
  have app:∀x:Src,sumB bkF (l++ [x])=sumB bkF l+bkF x:=fun x=>by rw[sumB_app',sumB,sumB];rfl
  show sumB bkF (fromGo ex (n+1) l c s).1.1+_≤_
  rw[frm_succ]
  split
  ·next hs=>
   have h1:=cm_wsm hs
   have h2:=lin_src s.next
   have h3:=lin_fromGo n (l++ [(srcP s.next).1]) c (srcP s.next).2
   simp only[app]at h3
   omega
  split
  ·next hs=>
   have h1:wsm s.r=wsm s.next.r+5:=by
    obtain⟨_,a,l,h1,_,h2,h3⟩:=isS_cons hs
    have h4:a.text.length=4:=by
     have:=congrArg ByteArray.size h2
     simpa[tkB,ByteArray.size] using this
    rw[h1,h3,wsm,h4]
    show 4+1+wsm l=wsm l+5
    omega
   have h2:=lin_src s.next
   have h4:=wsm_sfx (sfx_need kON (srcP s.next).2)
   have h5:=wsm_sfx (hr.sfx (needP kON (srcP s.next).2))
   have h3:=lin_fromGo n (l++ [(srcP s.next).1]) (c++ [(ex (needP kON (srcP s.next).2)).1]) (ex (needP kON (srcP s.next).2)).2
   simp only[app]at h3
   omega
  ·show sumB bkF l+2*wsm s.r≤_
   omega
theorem lin_from:Lin 3 (fun x=>sumB bkF x.1) (fromP ex):=fun s=>by
 have h2:=lin_src s
 have h3:=lin_fromGo hr (s.r.length+1) [(srcP s).1] [] (srcP s).2
 show sumB bkF (fromGo ex (s.r.length+1) _ [] _).1.1+2*wsm (fromGo ex (s.r.length+1) [(srcP s).1] [] (srcP s).2).2.r≤_
 simp only[sumB]at h3
 omega
end
def St.cst (s:St):Nat:=s.tb.size+(sumB bkCd s.cols+sumB bkK s.keys+sumB bkRf s.frs+s.chk.length)+sumB (fun l:List Ex=>l.length+1) s.vals+sumB (fun x:Asg=>x.cl.size+2) s.sets+2*s.itms.length+sumB bkF s.frm+1+s.grp.length+s.ord.length+s.nm.size
theorem sumB_one {α:Type} (l:List α):sumB (fun _=>1) l=l.length:=by
 induction l with
 |nil=>rfl
 |cons x l ih=>rw[sumB,ih,List.length_cons];omega
theorem sumB_two {α:Type} (l:List α):sumB (fun _=>2) l=2*l.length:=by
 induction l with
 |nil=>rfl
 |cons x l ih=>rw[sumB,ih,List.length_cons];omega
section
variable {ex:M Ex} (hr:Rdy ex)
include hr
theorem rdy_whr':Rdy (whrP ex):=rdy_if _ hr (rdy_ret _)
theorem rdy_itm':Rdy (itmP ex):=by
 unfold itmP itm1
 exact rdy_fst _ (fun o=>rdy_bnd (rdy_need _) fun _=>by split;exact rdy_if _ (rdy_bnd (rdy_need _) fun _=>rdy_ret _) (rdy_bnd hr fun _=>rdy_bnd (rdy_need _) fun _=>rdy_ret _);exact rdy_bnd hr fun _=>rdy_bnd (rdy_need _) fun _=>rdy_ret _) (rdy_bnd hr fun _=>rdy_ret _)
theorem lin_create:Lin 10 St.cst (createP ex):=by
 unfold createP
 refine(lin_bnd (d:=0) (e:=10) (lin_needM _) fun _=> (lin_bnd (d:=1) (e:=9) (lin_tak 1 (by omega)) fun t=> (lin_bnd (d:=0) (e:=bkS t+9) (lin_needM _) fun _=> (lin_bnd (d:=4) (e:=bkS t+5) (lin_elems hr) fun x=> (lin_bnd (d:=0) (e:=dfW x.1+(bkS t+5)) (lin_needM _) fun _=>lin_ret ?_).imp (by omega)).imp (by omega)).imp (by omega)).imp (by omega)).imp (by omega)
 unfold St.cst dfW bkS stZ
 simp only[sumB,List.length_nil]
 have:sumB bkCd (x.1.cols.map (nnC x.2))=sumB bkCd x.1.cols:=by
  induction x.1.cols with
  |nil=>rfl
  |cons c l ih=>rw[List.map_cons,sumB,sumB,ih];rfl
 rw[this]
 show t.size+_+0+0+2*0+0+1+0+0+0≤_
 omega
theorem lin_insert:Lin 10 St.cst (insertP ex):=by
 unfold insertP
 have ht:Lin 2 (fun l:List Ex=>l.length+1) (tupP ex):=by
  unfold tupP
  refine(lin_bnd (d:=0) (e:=2) (lin_needM _) fun _=> (lin_bnd (d:=1) (e:=1) (μ:=sumB fun _=>1) (lin_list (lin_rdy hr fun _=>Nat.le_refl _) (by omega)) fun l=> (lin_bnd (d:=0) (e:=sumB (fun _=>1) l+1) (lin_needM _) fun _=>lin_ret ?_).imp (by omega)).imp (by omega)).imp (by omega)
  rw[sumB_one]
  omega
 refine(lin_bnd (d:=0) (e:=10) (lin_needM _) fun _=> (lin_bnd (d:=1) (e:=9) (lin_tak 1 (by omega)) fun t=> (lin_bnd (d:=0) (e:=bkS t+9) (lin_needM _) fun _=> (lin_bnd (d:=2) (e:=bkS t+7) (lin_list ht (by omega)) fun v=>lin_ret ?_).imp (by omega)).imp (by omega)).imp (by omega)).imp (by omega)
 unfold St.cst bkS stZ
 simp only[sumB,List.length_nil]
 show t.size+0+_+0+2*0+0+1+0+0+0≤_
 omega
theorem lin_update:Lin 10 St.cst (updateP ex):=by
 unfold updateP
 have ha:Lin 2 (fun x:Asg=>x.cl.size+2) (asgP ex):=by
  unfold asgP
  refine(lin_bnd (d:=1) (e:=1) (lin_tak 1 (by omega)) fun t=> (lin_bnd (d:=0) (e:=bkS t+1) (lin_needM _) fun _=> (lin_bnd (d:=0) (e:=bkS t+1) (μ:=fun _=>0) (lin_rdy hr fun _=>Nat.le_refl _) fun e=>lin_ret ?_).imp (by omega)).imp (by omega)).imp (by omega)
  unfold bkS
  simp only
  omega
 refine(lin_bnd (d:=1) (e:=9) (lin_tak 1 (by omega)) fun t=> (lin_bnd (d:=0) (e:=bkS t+9) (lin_needM _) fun _=> (lin_bnd (d:=2) (e:=bkS t+7) (lin_list ha (by omega)) fun v=> (lin_bnd (d:=0) (e:=sumB (fun x:Asg=>x.cl.size+2) v+(bkS t+7)) (μ:=fun _=>0) (lin_rdy (rdy_whr' hr) fun _=>Nat.le_refl _) fun w=>lin_ret ?_).imp (by omega)).imp (by omega)).imp (by omega)).imp (by omega)
 unfold St.cst bkS stZ
 simp only[sumB,List.length_nil]
 show t.size+0+0+_+2*0+0+1+0+0+0≤_
 omega
theorem lin_delete:Lin 10 St.cst (deleteP ex):=by
 unfold deleteP
 refine(lin_bnd (d:=0) (e:=10) (lin_needM _) fun _=> (lin_bnd (d:=1) (e:=9) (lin_tak 1 (by omega)) fun t=> (lin_bnd (d:=0) (e:=bkS t+9) (μ:=fun _=>0) (lin_rdy (rdy_whr' hr) fun _=>Nat.le_refl _) fun w=>lin_ret ?_).imp (by omega)).imp (by omega)).imp (by omega)
 unfold St.cst bkS stZ
 simp only[sumB,List.length_nil]
 show t.size+0+0+0+2*0+0+1+0+0+0≤_
 omega
theorem lin_query (k:List Ex→Ex):Lin 10 St.cst (queryP ex posP k):=by
 unfold queryP
 have hi:Lin 2 (fun l:List Itm=>2*l.length) (itmsP ex):=by
  refine lin_if _ (lin_ret (by simp)) fun s=>?_
  have:=lin_list (d:=2) (μ:=fun _:Itm=>2) (lin_rdy (rdy_itm' hr) fun _=>Nat.le_refl _) (by omega) s
  rw[sumB_two]at this
  exact this
 have hg:Lin 1 (fun l:List Ex=>l.length) grpP:=by
  refine lin_if _ ((lin_bnd (d:=0) (e:=1) (lin_needM _) fun _=>fun s=>?_).imp (by omega)) (lin_ret (by simp))
  have:=lin_list (d:=1) (μ:=fun _:Ex=>1) (lin_rdy rdy_col fun _=>Nat.le_refl _) (by omega) s
  rw[sumB_one]at this
  omega
 have rdo:Rdy (ordP posP):=rdy_bnd rdy_pos fun _=>rdy_if _ (rdy_ret _) (rdy_if _ (rdy_ret _) (rdy_ret _))
 have ho:Lin 1 (fun l:List Ord'=>l.length) (ordsP posP):=by
  refine lin_if _ ((lin_bnd (d:=0) (e:=1) (lin_needM _) fun _=>fun s=>?_).imp (by omega)) (lin_ret (by simp))
  have:=lin_list (d:=1) (μ:=fun _:Ord'=>1) (lin_rdy rdo fun _=>Nat.le_refl _) (by omega) s
  rw[sumB_one]at this
  omega
 have rdc:∀c:List Ex,Rdy (condP ex k c):=fun c=>rdy_if _ (rdy_bnd hr fun _=>rdy_ret _) (rdy_ret _)
 have rdl:Rdy (limP posP):=rdy_if _ rdy_pos (rdy_ret _)
 refine(lin_bnd (d:=2) (e:=8) hi fun i=> (lin_bnd (d:=0) (e:=2*i.length+8) (lin_needM _) fun _=> (lin_bnd (d:=3) (e:=2*i.length+5) (lin_from hr) fun f=>?_).imp (by omega)).imp (by omega)).imp (by omega)
 refine(lin_bnd (d:=0) (e:=sumB bkF f.1+(2*i.length+5)) (μ:=fun _=>0) (lin_rdy (rdc f.2) fun _=>Nat.le_refl _) fun w=>?_).imp (by omega)
 refine(lin_bnd (d:=1) (e:=sumB bkF f.1+(2*i.length+4)) hg fun g=>?_).imp (by omega)
 refine(lin_bnd (d:=1) (e:=g.length+(sumB bkF f.1+(2*i.length+3))) ho fun o=>?_).imp (by omega)
 refine(lin_bnd (d:=0) (e:=o.length+(g.length+(sumB bkF f.1+(2*i.length+3)))) (μ:=fun _=>0) (lin_rdy rdl fun _=>Nat.le_refl _) fun l=>lin_ret ?_).imp (by omega)
 unfold St.cst stZ
 simp only[sumB,List.length_nil]
 show 0+0+0+0+_+_+1+_+_+0≤_
 omega
theorem lin_stmt (k:List Ex→Ex):Lin 10 St.cst (stmtP ex posP k lastP):=by
 have nm:∀j:Int,Lin 10 St.cst (nmP j):=fun j=>by
  refine(lin_bnd (d:=1) (e:=9) (lin_tak 1 (by omega)) fun a=>lin_ret ?_).imp (by omega)
  unfold St.cst bkS stZ
  simp only[sumB,List.length_nil]
  show 0+0+0+0+2*0+0+1+0+0+a.size≤_
  omega
 have one:∀j:Int,Lin 10 St.cst (retM { stZ with kd:=j }):=fun j=>lin_ret (by show 0+0+0+0+2*0+0+1+0+0+0≤_;omega)
 unfold stmtP
 refine lin_if _ (lin_create hr) (lin_if _ (lin_insert hr) (lin_if _ (lin_update hr) (lin_if _ (lin_delete hr) (lin_if _ (lin_query hr k) (lin_if _ (one 6) (lin_if _ (one 7) (lin_if _ (lin_if _ (nm 10) (one 8)) (lin_if _ (nm 9) (lin_if _ (nm 11) ?_)))))))))
 intro s
 show 0+0+0+0+2*0+0+1+0+0+0+2*wsm s.r≤_
 omega
end
theorem tok_xn (c:UInt8) (r:List UInt8) (k:Nat) (x:List UInt8) (n:Nat) (h:Lx.tokL (c::r)= .tok k x n):x.length≤n:=by
 rw[Lx.tokL]at h
 split at h
 ·unfold Lx.wordL at h
  split at h
  ·cases h;rw[List.length_map,List.length_take];omega
  ·split at h
   ·cases h
   ·cases h;rw[List.length_map,List.length_take];omega
 split at h
 ·unfold Lx.numL at h
  split at h
  ·cases h
  ·split at h
   ·cases h
   ·cases h;rw[List.length_take];omega
 split at h
 ·unfold Lx.textL at h
  cases hl:Lx.litF r [] 1 with
  |none=>rw[hl]at h;cases h
  |some q=>
   obtain⟨X,i⟩:=q
   have:=Lx.lit_bound r [] 1 X i hl
   rw[hl]at h
   simp only at h
   split at h
   ·cases h
   ·cases h;simp only[List.length_nil]at this;omega
 ·unfold Lx.symL at h
  split at h
  ·cases h
  ·cases h;rw[List.length_take];omega
theorem wsm_toks:∀(m:Nat) (l:List UInt8) (p:Nat) (L:List Tk),l.length≤m→Lx.T l p= .ok L→wsm L≤2*l.length+1
 |0,l,p,L,hl,h=>by
  obtain rfl:l= []:=List.eq_nil_of_length_eq_zero (by omega)
  rw[Lx.T_end [] p rfl]at h
  cases h
  exact Nat.le_refl _
 |m+1,l,p,L,hl,h=>by
  cases hd:l.drop (Lx.skipN false l)with
  |nil=>
   rw[Lx.T_end l p hd]at h
   cases h
   show 0+1+0≤_
   omega
  |cons c r=>
   have hlen:(c::r).length=l.length-Lx.skipN false l:=by rw[←hd,List.length_drop]
   cases ht:Lx.tokL (c::r)with
   |bad e'=>rw[Lx.T_bad l p c r e' hd ht]at h;cases h
   |tok k y n=>
    have hb:=Lx.tok_bound c r k y n ht
    have hf:=tok_xn c r k y n ht
    rw[Lx.T_tok l p c r k y n hd ht]at h
    cases hz:Lx.T ((c::r).drop n) (p+Lx.skipN false l+n)with
    |bad x' e'=>rw[hz]at h;cases h
    |ok z=>
     rw[hz]at h
     have hdl:((c::r).drop n).length=(c::r).length-n:=List.length_drop
     have ih:=wsm_toks m _ _ z (by omega) hz
     cases h
     show wsm (_::z)≤_
     rw[wsm]
     show y.length+1+_≤_
     omega
theorem wsm_all {s:ByteArray} {L:List Tk} (h:Lx.tokAll s= .ok L):wsm L≤32769:=by
 unfold Lx.tokAll at h
 split at h
 ·cases h
 ·have hl:s.data.toList.length=s.size:=Array.length_toList
  have:=wsm_toks _ _ _ L (Nat.le_refl _) h
  omega
theorem flat_cst (l:List (List Ex)):l.flatten.length≤sumB (fun l:List Ex=>l.length+1) l:=by
 induction l with
 |nil=>exact Nat.le_refl _
 |cons a l ih=>rw[List.flatten_cons,List.length_append,sumB];omega
theorem all_cst (s:St):s.all.length≤s.cst:=by
 have h1:=flat_cst s.vals
 have h2:=sumB_len (bk:=fun x:Asg=>x.cl.size+2) (fun _=>by omega) s.sets
 unfold St.all St.cst
 simp only[List.length_append,List.length_map,List.length_singleton]
 omega
theorem size_nodes {l:List Ex} (h:l.all Ex.formed=true):sizeL l=nodesL l:=(nodes_all h).symm
theorem sumB_le {α:Type} {μ ν:α→Nat} :∀ {l:List α},(∀x∈l,μ x≤ν x)→sumB μ l≤sumB ν l
 | [],_=>Nat.le_refl _
 |x::l,h=>by
  rw[sumB,sumB]
  have:=h x List.mem_cons_self
  have:=sumB_le (μ:=μ) (ν:=ν) (l:=l) fun y hy=>h y (List.mem_cons_of_mem _ hy)
  omega
theorem sumB_add {α:Type} (μ ν:α→Nat) (l:List α):sumB (fun x=>μ x+ν x) l=sumB μ l+sumB ν l:=by
 induction l with
 |nil=>rfl
 |cons x l ih=>rw[sumB,sumB,sumB,ih];omega
theorem sumB_nodes {α:Type} (f:α→Ex) (l:List α):sumB (fun x=> (f x).nodes) l=nodesL (l.map f):=by
 induction l with
 |nil=>rfl
 |cons x l ih=>rw[sumB,List.map_cons,nodesL,ih]
theorem sumB_flat (l:List (List Ex)):sumB nodesL l=nodesL l.flatten:=by
 induction l with
 |nil=>rfl
 |cons x l ih=>rw[sumB,List.flatten_cons,nodesL_app,ih]
theorem bulk_cst {s:St} (h:s.formed=true):s.bulk≤s.cst+nodesL s.all:=by
 have L:=lone_of h
 have K:=formed_kind h
 have szn:∀ {e:Ex},e.formed=true∨e.absent=true→e.size≤e.nodes+1:=fun {e} he=>by
  rcases he with he|he
  ·rw[formed_nodes e he];omega
  ·rw[absent_size he];omega
 have e1:sizeL s.chk=nodesL s.chk:=by
  by_cases h1:s.kd=1
  ·have:=K.2.1 h1
   unfold St.defOk at this
   simp only[Bool.and_eq_true]at this
   exact size_nodes this.2
  ·rw[K.2.2.1 h1];rfl
 have e2:sumB bkR s.vals≤sumB (fun l:List Ex=>l.length+1) s.vals+nodesL s.vals.flatten:=by
  rw[←sumB_flat,←sumB_add]
  refine sumB_le fun l hl=>?_
  by_cases h2:s.kd=2
  ·have:=List.all_eq_true.1 (K.2.2.2.1 h2) l hl
   unfold rowOk at this
   simp only[Bool.and_eq_true]at this
   unfold bkR
   rw[size_nodes this.2]
   omega
  ·rw[L.vals h2]at hl;cases hl
 have e3:sumB bkA s.sets≤sumB (fun x:Asg=>x.cl.size+2) s.sets+nodesL (s.sets.map Asg.ex):=by
  rw[←sumB_nodes,←sumB_add]
  refine sumB_le fun x hx=>?_
  by_cases h2:s.kd=3
  ·have:=List.all_eq_true.1 (K.2.2.2.2.2.1 h2) x hx
   unfold Asg.ok at this
   simp only[Bool.and_eq_true]at this
   have:=szn (.inl this.2)
   unfold bkA
   omega
  ·rw[L.sets h2]at hx;cases hx
 have e4:sumB bkI s.itms≤2*s.itms.length+nodesL (s.itms.map Itm.ex):=by
  rw[←sumB_nodes,←sumB_two,←sumB_add]
  refine sumB_le fun x hx=>?_
  by_cases h5:s.kd=5
  ·have hq:=K.2.2.2.2.2.2.2.1 h5
   unfold St.qOk at hq
   simp only[Bool.and_eq_true]at hq
   have hx2:=List.all_eq_true.1 hq.1.1.1.1.1 x hx
   unfold Itm.ok at hx2
   have:x.ex.size≤x.ex.nodes+1:=by
    split at hx2
    ·exact szn (.inr hx2)
    ·simp only[Bool.and_eq_true]at hx2;exact szn (.inl hx2.2)
   unfold bkI
   omega
  ·rw[(L.sel h5).1]at hx;cases hx
 have e5:sizeL s.grp=nodesL s.grp:=by
  by_cases h5:s.kd=5
  ·have hq:=K.2.2.2.2.2.2.2.1 h5
   unfold St.qOk at hq
   simp only[Bool.and_eq_true]at hq
   refine size_nodes (List.all_eq_true.2 fun e he=>?_)
   have:=List.all_eq_true.1 hq.1.1.2 e he
   unfold colX at this
   simp only[Bool.and_eq_true]at this
   exact this.2
  ·rw[(L.sel h5).2.2.1];rfl
 have e6:sumB bkO s.ord=s.ord.length:=sumB_one s.ord
 have e7:=szn (whr_of h).symm
 unfold St.bulk St.cst St.all
 simp only[nodesL_app]
 show _≤_+(_+(s.whr.nodes+0))
 omega
end
def aw1:ByteArray:=⟨#[97,32,78,79,84,32,73,78,32,40,49,44,32,50,41]⟩
def aw2:ByteArray:=⟨#[83,69,76,69,67,84,32,42,32,70,82,79,77,32,116,44,32,117,32,74,79,73,78,32,118,32,79,78,32,116,46,97,32,61,32,118,46,97,32,87,72,69,82,69,32,98,32,62,32,48]⟩
def aw3:ByteArray:=⟨#[68,69,76,69,84,69,32,116]⟩
def aw4:ByteArray:=⟨#[97,32,61,32,98,32,61,32,99]⟩
def aw5:ByteArray:=⟨#[66,69,71,73,78,59,32,67,79,77,77,73,84,59]⟩
theorem aw_1:(parE validE aw1).2=(0,0):=by kernel_rfl
theorem aw_1t:textE (parE validE aw1).1=⟨#[78,79,84,32,40,97,32,61,32,49,32,79,82,32,97,32,61,32,50,41]⟩:=by kernel_rfl
theorem aw_2:(parS validS aw2).2=(0,0):=by kernel_rfl
theorem aw_2f:(parS validS aw2).1.frm.length=3:=by kernel_rfl
theorem aw_2t:textE (parS validS aw2).1.whr=⟨#[116,46,97,32,61,32,118,46,97,32,65,78,68,32,98,32,62,32,48]⟩:=by kernel_rfl
theorem aw_3:(parS validS aw3).2=(7,2):=by kernel_rfl
theorem aw_4:(parE validE aw4).2=(6,2):=by kernel_rfl
theorem aw_5:(parL validS aw5).2=(0,0):=by kernel_rfl
theorem aw_5n:(parL validS aw5).1.length=2:=by kernel_rfl
end Go.Proofs.YtjigcpfjhfoheaaGreatDoor
