/- Scripts of canonical texts; the length of an expression's text; The bulk of what the parser reads is bounded by its tokens; The fixed examples, reckoned. -/
import Derived.Test.YtjigcpfjhfoheaaGreatDoorQcd
import Derived.Test.YtjigcpfjhfoheaaGreatDoorQbe
namespace Go.Proofs.YtjigcpfjhfoheaaGreatDoor
open Go.RowKit
set_option maxHeartbeats 1000000
set_option maxRecDepth 100000
set_option linter.unusedVariables false
set_option linter.unusedSimpArgs false
section
open Lx (Tk isDigit isLetter inWord spanN isPrint)
def parL (vld:St→Int) (s:ByteArray):List St×Int×Int:=
 match Lx.tokAll s with
 | .bad a e=> ([],(a:Int),(e:Int))
 | .ok L=>
  match kj (stmP (L.length+1)) vld (L.length+1) [] ⟨L,false⟩with
  | .inl q=> ([],(q.1:Int),q.2)
  | .inr l=> (l,0,0)
theorem sgn4 (op:Int):(sgn op).size≤4:=dR op
theorem plen30:∀e:Ex,e.formed=true→e.pl.size+2≤30*e.nodes+21:=by
 intro e
 induction e using Ex.ind with
 |h d ks ih=>
  intro hf
  obtain⟨h1,h2,h3⟩:=aA hf
  have h00:d.op≠0:=by rcases bi d.op with ⟨_,h⟩|⟨_,h⟩|⟨_,h⟩|h<;>omega
  rw[Ex.pl,Ex.nodes,if_neg h00]
  unfold plD
  simp only
  rcases bi d.op with ⟨h0,h4⟩|⟨h0,h4⟩|⟨h0,h4⟩|h0
  ·have hk:ks= []:=List.eq_nil_of_length_eq_zero (by omega)
   subst hk
   unfold ndB at h3
   rcases h4 with h4|h4
   ·rw[if_neg (by omega),if_pos h4]at h3
    simp only[Bool.and_eq_true,beq_iff_eq]at h3
    have h5:=cZ h3.2
    rw[if_pos h4]
    split
    ·next hv=>have:=bh d.vi (by omega) (by omega);omega
    ·split
     ·have:=gD d.vt
      simp only[ByteArray.size_append]
      show 1+_+1+2≤_
      omega
     ·show 4+2≤_
      omega
   ·rw[if_pos h4]at h3
    simp only[Bool.and_eq_true,Bool.or_eq_true,beq_iff_eq]at h3
    have h5:=aS h3.1.1
    rw[if_neg (by omega),if_pos h4]
    split
    ·omega
    ·next ht=>
     have h6:=aS (h3.1.2.resolve_left ht)
     simp only[ByteArray.size_append]
     show _+1+_+2≤_
     omega
  ·obtain⟨a,rfl,ha⟩:=kids1 h0 hf
   have k:=ih a (by simp) ha
   simp only[plL,List.getD_cons_zero,nodesL]
   rw[if_neg (by omega),if_neg (by omega)]
   have b8:=bJ a.d.op a.pl 8
   have b1:=bJ a.d.op a.pl 1
   have b5:=bJ a.d.op a.pl 5
   have b3:=bJ a.d.op a.pl 3
   rcases h4 with h4|h4|h4|h4
   ·rw[if_pos h4,ByteArray.size_append]
    show 1+_+2≤_
    omega
   ·rw[if_neg (by omega),if_pos h4,ByteArray.size_append,ByteArray.size_append]
    show 7+_+1+2≤_
    omega
   ·rw[if_neg (by omega),if_neg (by omega),if_pos h4,ByteArray.size_append]
    show _+8+2≤_
    omega
   ·rw[if_neg (by omega),if_neg (by omega),if_neg (by omega),if_pos h4,ByteArray.size_append]
    show 4+_+2≤_
    omega
  ·obtain⟨a,b,rfl,ha,hb⟩:=kids2 h0 hf
   have k:=ih a (by simp) ha
   have k2:=ih b (by simp) hb
   simp only[plL,List.getD_cons_zero,List.getD_cons_succ,nodesL]
   rw[if_neg (by omega),if_neg (by omega),if_neg (by omega),if_neg (by omega),if_neg (by omega),if_neg (by omega)]
   have b1:=bJ a.d.op a.pl (if lvl d.op=4 then 5 else lvl d.op)
   have b2:=bJ b.d.op b.pl (lvl d.op+1)
   have b3:=sgn4 d.op
   simp only[ByteArray.size_append]
   show _+1+_+1+_+2≤_
   omega
  ·omega
theorem txlen30 {e:Ex} (h:e.formed=true) (r:Int):(e.tx r).size≤30*e.nodes+21:=by
 have h1:=plen30 e h
 have h2:=bJ e.d.op e.pl r
 unfold Ex.tx
 omega
theorem valid_len {e:Ex} (h:validE e=0):e.formed=true∧(e.tx 1).size≤16384:=by
 rcases ef e with h1|h1|h1
 ·refine⟨h1.2.1,?_⟩
  have h2:=txlen30 h1.2.1 1
  have h3:=ch e h1.2.1
  omega
 ·omega
 ·omega
end
section
open Lx (Tk)
def wsm:List Tk→Nat
 | []=>0
 |a::l=>a.text.length+1+wsm l
theorem wsm_app (a b:List Tk):wsm (a++b)=wsm a+wsm b:=by
 induction a with
 |nil=>simp[wsm]
 |cons x a ih=>rw[List.cons_append,wsm,wsm,ih];omega
theorem iT {s t:Ps} (h:Sfx s t):wsm t.r≤wsm s.r:=by
 obtain⟨A,e,_⟩:=h
 rw[e,wsm_app]
 omega
theorem hU {α:Type} (μ:α→Nat) (a b:List α):sumB μ (a++b)=sumB μ a+sumB μ b:=by
 induction a with
 |nil=>simp[sumB]
 |cons x a ih=>rw[List.cons_append,sumB,sumB,ih];omega
def Lin {α:Type} (d:Nat) (μ:α→Nat) (m:M α):Prop:=∀s,μ (m s).1+2*wsm (m s).2.r≤2*wsm s.r+d
section
variable {α β:Type} {d e:Nat} {μ:α→Nat} {ν:β→Nat}
theorem ap {m:M α} {f:α→M β} (h:Lin d μ m) (hf:∀a,Lin (μ a+e) ν (f a)):Lin (d+e) ν (az m f):=fun s=>by
 have h1:=h s
 have h2:=hf (m s).1 (m s).2
 show ν (f (m s).1 (m s).2).1+2*wsm (f (m s).1 (m s).2).2.r≤_
 omega
theorem aN {a:α} (h:μ a≤d):Lin d μ (aW a):=fun s=>by
 show μ a+2*wsm s.r≤_
 omega
theorem bW {m:M α} (h:Rdy m) (hk:∀a,μ a≤d):Lin d μ m:=fun s=>by
 have h1:=iT (h.sfx s)
 have h2:=hk (m s).1
 omega
theorem bt (t:ByteArray) {m n:M α} (h1:Lin d μ m) (h2:Lin d μ n):Lin d μ (ifM t m n):=fun s=>by
 unfold ifM
 split
 ·next hs=>
  have h3:=h1 s.next
  have h4:=iT (Sfx.next hs)
  omega
 ·exact h2 s
theorem Lin.imp {m:M α} (h:Lin d μ m) (hd:d≤e):Lin e μ m:=fun s=>by have:=h s;omega
theorem cm_wsm {s:Ps} (h:isS yCm s=true):wsm s.r=wsm s.next.r+2:=by
 obtain⟨_,a,l,h1,_,h2,h3⟩:=bx h
 have h4:a.text.length=1:=by
  have:=congrArg ByteArray.size h2
  simpa[tkB,ByteArray.size] using this
 rw[h1,h3,wsm,h4]
 show 1+1+wsm l=wsm l+2
 omega
theorem j1 {el:M α} (h:Lin d μ el) (hd:d≤4):∀(n:Nat) (o:List α) (s:Ps),sumB μ (listGo el n o s).1+2*wsm (listGo el n o s).2.r≤2*wsm s.r+sumB μ o
 |0,o,s=>by show sumB μ o+2*wsm s.r≤_;omega
 |n+1,o,s=>by
  rw[listGo]
  split
  ·next hs=>
   have h1:=j1 h hd n (o++ [(el s.next).1]) (el s.next).2
   have h2:=h s.next
   have h3:=cm_wsm hs
   rw[hU,sumB,sumB]at h1
   omega
  ·show sumB μ o+2*wsm s.r≤_
   omega
theorem dA {el:M α} (h:Lin d μ el) (hd:d≤4):Lin d (sumB μ) (listP el):=fun s=>by
 have h1:=j1 h hd (s.r.length+1) [(el s).1] (el s).2
 have h2:=h s
 rw[sumB,sumB]at h1
 show sumB μ (listGo el (s.r.length+1) [(el s).1] (el s).2).1+_≤_
 unfold listP
 omega
end
theorem co (k:Nat) (hk:k≠0):Lin 1 bkS (takP k):=fun s=>by
 unfold takP bkS
 split
 ·next h=>
  obtain⟨_,a,l,h1,_,h3⟩:=gK hk h
  have e:s.hd=a:=by unfold Ps.hd;rw[h1];rfl
  rw[h1,h3,e,wsm]
  have:(tkB a).size=a.text.length:=by simp[tkB,ByteArray.size]
  simp only
  omega
 ·show 0+1+2*wsm s.r≤_
  omega
theorem aG (t:ByteArray):Lin 0 (fun _:Unit=>0) (aR t):=bW (bz t) fun _=>Nat.le_refl _
theorem ff:Lin 2 bkK dN:=by
 refine(ap (e:=2) (aG _) fun _=> (ap (e:=1) (dA (co 1 (by omega)) (by omega)) fun l=>?_).imp (by omega)).imp (by omega)
 exact(ap (d:=0) (e:=sumB bkS l+1) (aG _) fun _=> (aN (by unfold bkK;omega))).imp (by omega)
theorem rdy_typ:Rdy typP:=by
 unfold typP bnd2P maxP bndP
 exact bM _ (bM _ (aF (bM _ (aF rdy_num fun _=>aQ _) rdy_num) fun _=>aF (bz _) fun _=>aF (bM _ (aF rdy_num fun _=>aQ _) rdy_num) fun _=>aF (bz _) fun _=>aQ _) (aQ _)) (aF (bz _) fun _=>bM _ (aF rdy_num fun _=>aF (bz _) fun _=>aQ _) (aQ _))
theorem lin_def:Lin 1 fi defP:=by
 unfold defP
 refine(ap (e:=0) (co 1 (by omega)) fun a=> (ap (d:=0) (e:=bkS a) (μ:=fun _=>0) (bW rdy_typ fun _=>Nat.le_refl _) fun t=>?_).imp (by omega)).imp (by omega)
 refine(bt _ ?_ (aN ?_)).imp (Nat.le_refl _)
 ·exact(ap (d:=0) (e:=0+bkS a) (aG _) fun _=>aN (by unfold fi bkS;simp only;omega)).imp (by omega)
 ·unfold fi bkS;simp only;omega
theorem lin_ref:Lin 4 iA refP:=by
 unfold refP
 refine(ap (e:=2) ff fun a=> (ap (d:=0) (e:=bkK a+2) (aG _) fun _=> (ap (d:=1) (e:=0+(bkK a+2)-1) (co 1 (by omega)) fun t=>?_).imp (by omega)).imp (by omega)).imp (by omega)
 refine(ap (d:=2) (e:=bkS t+bkK a-1) ff fun b=>aN ?_).imp ?_
 ·unfold iA bkK bkS;simp only;omega
 ·unfold bkK bkS;omega
theorem lA:Lin 3 bkF srcP:=by
 unfold srcP
 refine(ap (d:=1) (e:=2) (co 1 (by omega)) fun t=>?_).imp (by omega)
 refine bt _ ?_ (aN (by show t.size+0+1≤t.size+1+2;omega))
 exact(ap (d:=1) (e:=bkS t) (co 1 (by omega)) fun a=>aN (by unfold bkF bkS;simp only;omega)).imp (by omega)
def dfW (d:Df):Nat:=sumB fi d.cols+sumB bkK d.keys+sumB iA d.frs+d.chk.length
section
variable {ex:M Ex} (hr:Rdy ex)
include hr
theorem mN (d:Df) (l:List ByteArray):Lin (dfW d+4) (fun x=>dfW x.1) (elemP ex d l):=by
 have app:∀ {α:Type} (μ:α→Nat) (a:List α) (x:α),sumB μ (a++ [x])=sumB μ a+μ x:=fun μ a x=>by rw[hU,sumB,sumB];rfl
 unfold elemP
 refine bt _ ?_ (bt _ ?_ (bt _ ?_ (bt _ ?_ ?_)))
 ·refine(ap (d:=0) (e:=dfW d+2) (aG _) fun _=> (ap (d:=2) (e:=dfW d) ff fun k=>aN ?_).imp (by omega)).imp (by omega)
  unfold dfW;simp only[app];omega
 ·refine(ap (d:=2) (e:=dfW d) ff fun k=>aN ?_).imp (by omega)
  unfold dfW;simp only[app];omega
 ·refine(ap (d:=0) (e:=dfW d+1) (aG _) fun _=> (ap (d:=1) (e:=dfW d) (μ:=fun _=>1) (bW hr fun _=>Nat.le_refl _) fun e=> (ap (d:=0) (e:=1+dfW d) (aG _) fun _=>aN ?_).imp (by omega)).imp (by omega)).imp (by omega)
  unfold dfW;simp only[List.length_append,List.length_singleton];omega
 ·refine(ap (d:=0) (e:=dfW d+4) (aG _) fun _=> (ap (d:=4) (e:=dfW d) lin_ref fun f=>aN ?_).imp (by omega)).imp (by omega)
  unfold dfW;simp only[app];omega
 ·refine(ap (d:=1) (e:=dfW d) lin_def fun c=>aN ?_).imp (by omega)
  unfold dfW;simp only[app];omega
theorem j2:∀(n:Nat) (d:Df) (l:List ByteArray),Lin (dfW d) (fun x=>dfW x.1) (dq ex n d l)
 |0,d,l=>aN (Nat.le_refl _)
 |n+1,d,l=>fun s=>by
  show dfW (dq ex (n+1) d l s).1.1+_≤_
  rw[elG_succ]
  split
  ·next hs=>
   have h1:=cm_wsm hs
   have h2:=mN hr d l s.next
   have h3:=j2 n (elemP ex d l s.next).1.1 (elemP ex d l s.next).1.2 (elemP ex d l s.next).2
   simp only at h2 h3
   omega
  ·show dfW d+2*wsm s.r≤_
   omega
theorem lin_elems:Lin 4 (fun x=>dfW x.1) (gH ex):=fun s=>by
 have h2:=mN hr ⟨[],[],[],[]⟩ [] s
 have h3:=j2 hr (s.r.length+1) (elemP ex ⟨[],[],[],[]⟩ [] s).1.1 (elemP ex ⟨[],[],[],[]⟩ [] s).1.2 (elemP ex ⟨[],[],[],[]⟩ [] s).2
 show dfW (dq ex (s.r.length+1) _ _ _).1.1+2*wsm (dq ex (s.r.length+1) (elemP ex ⟨[],[],[],[]⟩ [] s).1.1 (elemP ex ⟨[],[],[],[]⟩ [] s).1.2 (elemP ex ⟨[],[],[],[]⟩ [] s).2).2.r≤_
 have h0:dfW ⟨[],[],[],[]⟩=0:=rfl
 simp only[h0]at h2 h3
 omega
theorem fS:∀(n:Nat) (l:List Src) (c:List Ex),Lin (sumB bkF l) (fun x=>sumB bkF x.1) (fromGo ex n l c)
 |0,l,c=>aN (Nat.le_refl _)
 |n+1,l,c=>fun s=>by
  have app:∀x:Src,sumB bkF (l++ [x])=sumB bkF l+bkF x:=fun x=>by rw[hU,sumB,sumB];rfl
  show sumB bkF (fromGo ex (n+1) l c s).1.1+_≤_
  rw[frm_succ]
  split
  ·next hs=>
   have h1:=cm_wsm hs
   have h2:=lA s.next
   have h3:=fS n (l++ [(srcP s.next).1]) c (srcP s.next).2
   simp only[app]at h3
   omega
  split
  ·next hs=>
   have h1:wsm s.r=wsm s.next.r+5:=by
    obtain⟨_,a,l,h1,_,h2,h3⟩:=bx hs
    have h4:a.text.length=4:=by
     have:=congrArg ByteArray.size h2
     simpa[tkB,ByteArray.size] using this
    rw[h1,h3,wsm,h4]
    show 4+1+wsm l=wsm l+5
    omega
   have h2:=lA s.next
   have h4:=iT (sfx_need kON (srcP s.next).2)
   have h5:=iT (hr.sfx (needP kON (srcP s.next).2))
   have h3:=fS n (l++ [(srcP s.next).1]) (c++ [(ex (needP kON (srcP s.next).2)).1]) (ex (needP kON (srcP s.next).2)).2
   simp only[app]at h3
   omega
  ·show sumB bkF l+2*wsm s.r≤_
   omega
theorem lin_from:Lin 3 (fun x=>sumB bkF x.1) (fromP ex):=fun s=>by
 have h2:=lA s
 have h3:=fS hr (s.r.length+1) [(srcP s).1] [] (srcP s).2
 show sumB bkF (fromGo ex (s.r.length+1) _ [] _).1.1+2*wsm (fromGo ex (s.r.length+1) [(srcP s).1] [] (srcP s).2).2.r≤_
 simp only[sumB]at h3
 omega
end
def St.cst (s:St):Nat:=s.tb.size+(sumB fi s.cols+sumB bkK s.keys+sumB iA s.frs+s.chk.length)+sumB (fun l:List Ex=>l.length+1) s.vals+sumB (fun x:Asg=>x.cl.size+2) s.sets+2*s.itms.length+sumB bkF s.frm+1+s.grp.length+s.ord.length+s.nm.size
theorem gA {α:Type} (l:List α):sumB (fun _=>1) l=l.length:=by
 induction l with
 |nil=>rfl
 |cons x l ih=>rw[sumB,ih,List.length_cons];omega
theorem mO {α:Type} (l:List α):sumB (fun _=>2) l=2*l.length:=by
 induction l with
 |nil=>rfl
 |cons x l ih=>rw[sumB,ih,List.length_cons];omega
section
variable {ex:M Ex} (hr:Rdy ex)
include hr
theorem mP:Rdy (whrP ex):=bM _ hr (aQ _)
theorem rdy_itm':Rdy (fz ex):=by
 unfold fz iy
 exact rdy_fst _ (fun o=>aF (bz _) fun _=>by split;exact bM _ (aF (bz _) fun _=>aQ _) (aF hr fun _=>aF (bz _) fun _=>aQ _);exact aF hr fun _=>aF (bz _) fun _=>aQ _) (aF hr fun _=>aQ _)
theorem nI:Lin 10 St.cst (createP ex):=by
 unfold createP
 refine(ap (d:=0) (e:=10) (aG _) fun _=> (ap (d:=1) (e:=9) (co 1 (by omega)) fun t=> (ap (d:=0) (e:=bkS t+9) (aG _) fun _=> (ap (d:=4) (e:=bkS t+5) (lin_elems hr) fun x=> (ap (d:=0) (e:=dfW x.1+(bkS t+5)) (aG _) fun _=>aN ?_).imp (by omega)).imp (by omega)).imp (by omega)).imp (by omega)).imp (by omega)
 unfold St.cst dfW bkS stZ
 simp only[sumB,List.length_nil]
 have:sumB fi (x.1.cols.map (nnC x.2))=sumB fi x.1.cols:=by
  induction x.1.cols with
  |nil=>rfl
  |cons c l ih=>rw[List.map_cons,sumB,sumB,ih];rfl
 rw[this]
 show t.size+_+0+0+2*0+0+1+0+0+0≤_
 omega
theorem nJ:Lin 10 St.cst (eJ ex):=by
 unfold eJ
 have ht:Lin 2 (fun l:List Ex=>l.length+1) (tupP ex):=by
  unfold tupP
  refine(ap (d:=0) (e:=2) (aG _) fun _=> (ap (d:=1) (e:=1) (μ:=sumB fun _=>1) (dA (bW hr fun _=>Nat.le_refl _) (by omega)) fun l=> (ap (d:=0) (e:=sumB (fun _=>1) l+1) (aG _) fun _=>aN ?_).imp (by omega)).imp (by omega)).imp (by omega)
  rw[gA]
  omega
 refine(ap (d:=0) (e:=10) (aG _) fun _=> (ap (d:=1) (e:=9) (co 1 (by omega)) fun t=> (ap (d:=0) (e:=bkS t+9) (aG _) fun _=> (ap (d:=2) (e:=bkS t+7) (dA ht (by omega)) fun v=>aN ?_).imp (by omega)).imp (by omega)).imp (by omega)).imp (by omega)
 unfold St.cst bkS stZ
 simp only[sumB,List.length_nil]
 show t.size+0+_+0+2*0+0+1+0+0+0≤_
 omega
theorem nK:Lin 10 St.cst (eK ex):=by
 unfold eK
 have ha:Lin 2 (fun x:Asg=>x.cl.size+2) (asgP ex):=by
  unfold asgP
  refine(ap (d:=1) (e:=1) (co 1 (by omega)) fun t=> (ap (d:=0) (e:=bkS t+1) (aG _) fun _=> (ap (d:=0) (e:=bkS t+1) (μ:=fun _=>0) (bW hr fun _=>Nat.le_refl _) fun e=>aN ?_).imp (by omega)).imp (by omega)).imp (by omega)
  unfold bkS
  simp only
  omega
 refine(ap (d:=1) (e:=9) (co 1 (by omega)) fun t=> (ap (d:=0) (e:=bkS t+9) (aG _) fun _=> (ap (d:=2) (e:=bkS t+7) (dA ha (by omega)) fun v=> (ap (d:=0) (e:=sumB (fun x:Asg=>x.cl.size+2) v+(bkS t+7)) (μ:=fun _=>0) (bW (mP hr) fun _=>Nat.le_refl _) fun w=>aN ?_).imp (by omega)).imp (by omega)).imp (by omega)).imp (by omega)
 unfold St.cst bkS stZ
 simp only[sumB,List.length_nil]
 show t.size+0+0+_+2*0+0+1+0+0+0≤_
 omega
theorem nL:Lin 10 St.cst (eL ex):=by
 unfold eL
 refine(ap (d:=0) (e:=10) (aG _) fun _=> (ap (d:=1) (e:=9) (co 1 (by omega)) fun t=> (ap (d:=0) (e:=bkS t+9) (μ:=fun _=>0) (bW (mP hr) fun _=>Nat.le_refl _) fun w=>aN ?_).imp (by omega)).imp (by omega)).imp (by omega)
 unfold St.cst bkS stZ
 simp only[sumB,List.length_nil]
 show t.size+0+0+0+2*0+0+1+0+0+0≤_
 omega
theorem lin_query (k:List Ex→Ex):Lin 10 St.cst (queryP ex posP k):=by
 unfold queryP
 have hi:Lin 2 (fun l:List Itm=>2*l.length) (itmsP ex):=by
  refine bt _ (aN (by simp)) fun s=>?_
  have:=dA (d:=2) (μ:=fun _:Itm=>2) (bW (rdy_itm' hr) fun _=>Nat.le_refl _) (by omega) s
  rw[mO]at this
  exact this
 have hg:Lin 1 (fun l:List Ex=>l.length) grpP:=by
  refine bt _ ((ap (d:=0) (e:=1) (aG _) fun _=>fun s=>?_).imp (by omega)) (aN (by simp))
  have:=dA (d:=1) (μ:=fun _:Ex=>1) (bW rdy_col fun _=>Nat.le_refl _) (by omega) s
  rw[gA]at this
  omega
 have rdo:Rdy (fy posP):=aF kY fun _=>bM _ (aQ _) (bM _ (aQ _) (aQ _))
 have ho:Lin 1 (fun l:List Ord'=>l.length) (f9 posP):=by
  refine bt _ ((ap (d:=0) (e:=1) (aG _) fun _=>fun s=>?_).imp (by omega)) (aN (by simp))
  have:=dA (d:=1) (μ:=fun _:Ord'=>1) (bW rdo fun _=>Nat.le_refl _) (by omega) s
  rw[gA]at this
  omega
 have rdc:∀c:List Ex,Rdy (et ex k c):=fun c=>bM _ (aF hr fun _=>aQ _) (aQ _)
 have rdl:Rdy (limP posP):=bM _ kY (aQ _)
 refine(ap (d:=2) (e:=8) hi fun i=> (ap (d:=0) (e:=2*i.length+8) (aG _) fun _=> (ap (d:=3) (e:=2*i.length+5) (lin_from hr) fun f=>?_).imp (by omega)).imp (by omega)).imp (by omega)
 refine(ap (d:=0) (e:=sumB bkF f.1+(2*i.length+5)) (μ:=fun _=>0) (bW (rdc f.2) fun _=>Nat.le_refl _) fun w=>?_).imp (by omega)
 refine(ap (d:=1) (e:=sumB bkF f.1+(2*i.length+4)) hg fun g=>?_).imp (by omega)
 refine(ap (d:=1) (e:=g.length+(sumB bkF f.1+(2*i.length+3))) ho fun o=>?_).imp (by omega)
 refine(ap (d:=0) (e:=o.length+(g.length+(sumB bkF f.1+(2*i.length+3)))) (μ:=fun _=>0) (bW rdl fun _=>Nat.le_refl _) fun l=>aN ?_).imp (by omega)
 unfold St.cst stZ
 simp only[sumB,List.length_nil]
 show 0+0+0+0+_+_+1+_+_+0≤_
 omega
theorem lin_stmt (k:List Ex→Ex):Lin 10 St.cst (eu ex posP k gc):=by
 have nm:∀j:Int,Lin 10 St.cst (nmP j):=fun j=>by
  refine(ap (d:=1) (e:=9) (co 1 (by omega)) fun a=>aN ?_).imp (by omega)
  unfold St.cst bkS stZ
  simp only[sumB,List.length_nil]
  show 0+0+0+0+2*0+0+1+0+0+a.size≤_
  omega
 have one:∀j:Int,Lin 10 St.cst (aW { stZ with kd:=j }):=fun j=>aN (by show 0+0+0+0+2*0+0+1+0+0+0≤_;omega)
 unfold eu
 refine bt _ (nI hr) (bt _ (nJ hr) (bt _ (nK hr) (bt _ (nL hr) (bt _ (lin_query hr k) (bt _ (one 6) (bt _ (one 7) (bt _ (bt _ (nm 10) (one 8)) (bt _ (nm 9) (bt _ (nm 11) ?_)))))))))
 intro s
 show 0+0+0+0+2*0+0+1+0+0+0+2*wsm s.r≤_
 omega
end
theorem tok_xn (c:UInt8) (r:List UInt8) (k:Nat) (x:List UInt8) (n:Nat) (h:Lx.tokL (c::r)= .tok k x n):x.length≤n:=by
 rw[Lx.tokL]at h
 split at h
 ·unfold Lx.wordL at h
  split at h
  ·cases h;rw[List.length_map,List.length_take];omega
  ·split at h
   ·cases h
   ·cases h;rw[List.length_map,List.length_take];omega
 split at h
 ·unfold Lx.numL at h
  split at h
  ·cases h
  ·split at h
   ·cases h
   ·cases h;rw[List.length_take];omega
 split at h
 ·unfold Lx.textL at h
  cases hl:Lx.litF r [] 1 with
  |none=>rw[hl]at h;cases h
  |some q=>
   obtain⟨X,i⟩:=q
   have:=Lx.lit_bound r [] 1 X i hl
   rw[hl]at h
   simp only at h
   split at h
   ·cases h
   ·cases h;simp only[List.length_nil]at this;omega
 ·unfold Lx.symL at h
  split at h
  ·cases h
  ·cases h;rw[List.length_take];omega
theorem mQ:∀(m:Nat) (l:List UInt8) (p:Nat) (L:List Tk),l.length≤m→Lx.T l p= .ok L→wsm L≤2*l.length+1
 |0,l,p,L,hl,h=>by
  obtain rfl:l= []:=List.eq_nil_of_length_eq_zero (by omega)
  rw[Lx.T_end [] p rfl]at h
  cases h
  exact Nat.le_refl _
 |m+1,l,p,L,hl,h=>by
  cases hd:l.drop (Lx.skipN false l)with
  |nil=>
   rw[Lx.T_end l p hd]at h
   cases h
   show 0+1+0≤_
   omega
  |cons c r=>
   have hlen:(c::r).length=l.length-Lx.skipN false l:=by rw[←hd,List.length_drop]
   cases ht:Lx.tokL (c::r)with
   |bad e'=>rw[Lx.T_bad l p c r e' hd ht]at h;cases h
   |tok k y n=>
    have hb:=Lx.tok_bound c r k y n ht
    have hf:=tok_xn c r k y n ht
    rw[Lx.T_tok l p c r k y n hd ht]at h
    cases hz:Lx.T ((c::r).drop n) (p+Lx.skipN false l+n)with
    |bad x' e'=>rw[hz]at h;cases h
    |ok z=>
     rw[hz]at h
     have hdl:((c::r).drop n).length=(c::r).length-n:=List.length_drop
     have ih:=mQ m _ _ z (by omega) hz
     cases h
     show wsm (_::z)≤_
     rw[wsm]
     show y.length+1+_≤_
     omega
theorem wsm_all {s:ByteArray} {L:List Tk} (h:Lx.tokAll s= .ok L):wsm L≤32769:=by
 unfold Lx.tokAll at h
 split at h
 ·cases h
 ·have hl:s.data.toList.length=s.size:=Array.length_toList
  have:=mQ _ _ _ L (Nat.le_refl _) h
  omega
theorem flat_cst (l:List (List Ex)):l.flatten.length≤sumB (fun l:List Ex=>l.length+1) l:=by
 induction l with
 |nil=>exact Nat.le_refl _
 |cons a l ih=>rw[List.flatten_cons,List.length_append,sumB];omega
theorem all_cst (s:St):s.all.length≤s.cst:=by
 have h1:=flat_cst s.vals
 have h2:=bq (bk:=fun x:Asg=>x.cl.size+2) (fun _=>by omega) s.sets
 unfold St.all St.cst
 simp only[List.length_append,List.length_map,List.length_singleton]
 omega
theorem fT {l:List Ex} (h:l.all Ex.formed=true):sizeL l=nodesL l:=(eW h).symm
theorem iU {α:Type} {μ ν:α→Nat} :∀ {l:List α},(∀x∈l,μ x≤ν x)→sumB μ l≤sumB ν l
 | [],_=>Nat.le_refl _
 |x::l,h=>by
  rw[sumB,sumB]
  have:=h x List.mem_cons_self
  have:=iU (μ:=μ) (ν:=ν) (l:=l) fun y hy=>h y (List.mem_cons_of_mem _ hy)
  omega
theorem j3 {α:Type} (μ ν:α→Nat) (l:List α):sumB (fun x=>μ x+ν x) l=sumB μ l+sumB ν l:=by
 induction l with
 |nil=>rfl
 |cons x l ih=>rw[sumB,sumB,sumB,ih];omega
theorem j4 {α:Type} (f:α→Ex) (l:List α):sumB (fun x=> (f x).nodes) l=nodesL (l.map f):=by
 induction l with
 |nil=>rfl
 |cons x l ih=>rw[sumB,List.map_cons,nodesL,ih]
theorem sumB_flat (l:List (List Ex)):sumB nodesL l=nodesL l.flatten:=by
 induction l with
 |nil=>rfl
 |cons x l ih=>rw[sumB,List.flatten_cons,cq,ih]
theorem bulk_cst {s:St} (h:s.formed=true):s.bulk≤s.cst+nodesL s.all:=by
 have L:=lone_of h
 have K:=dI h
 have szn:∀ {e:Ex},e.formed=true∨e.absent=true→e.size≤e.nodes+1:=fun {e} he=>by
  rcases he with he|he
  ·rw[ch e he];omega
  ·rw[ii he];omega
 have e1:sizeL s.chk=nodesL s.chk:=by
  by_cases h1:s.kd=1
  ·have:=K.2.1 h1
   unfold St.defOk at this
   simp only[Bool.and_eq_true]at this
   exact fT this.2
  ·rw[K.2.2.1 h1];rfl
 have e2:sumB bkR s.vals≤sumB (fun l:List Ex=>l.length+1) s.vals+nodesL s.vals.flatten:=by
  rw[←sumB_flat,←j3]
  refine iU fun l hl=>?_
  by_cases h2:s.kd=2
  ·have:=List.all_eq_true.1 (K.2.2.2.1 h2) l hl
   unfold rowOk at this
   simp only[Bool.and_eq_true]at this
   unfold bkR
   rw[fT this.2]
   omega
  ·rw[L.vals h2]at hl;cases hl
 have e3:sumB bkA s.sets≤sumB (fun x:Asg=>x.cl.size+2) s.sets+nodesL (s.sets.map Asg.ex):=by
  rw[←j4,←j3]
  refine iU fun x hx=>?_
  by_cases h2:s.kd=3
  ·have:=List.all_eq_true.1 (K.2.2.2.2.2.1 h2) x hx
   unfold Asg.ok at this
   simp only[Bool.and_eq_true]at this
   have:=szn (.inl this.2)
   unfold bkA
   omega
  ·rw[L.sets h2]at hx;cases hx
 have e4:sumB bkI s.itms≤2*s.itms.length+nodesL (s.itms.map Itm.ex):=by
  rw[←j4,←mO,←j3]
  refine iU fun x hx=>?_
  by_cases h5:s.kd=5
  ·have hq:=K.2.2.2.2.2.2.2.1 h5
   unfold St.qOk at hq
   simp only[Bool.and_eq_true]at hq
   have hx2:=List.all_eq_true.1 hq.1.1.1.1.1 x hx
   unfold Itm.ok at hx2
   have:x.ex.size≤x.ex.nodes+1:=by
    split at hx2
    ·exact szn (.inr hx2)
    ·simp only[Bool.and_eq_true]at hx2;exact szn (.inl hx2.2)
   unfold bkI
   omega
  ·rw[(L.sel h5).1]at hx;cases hx
 have e5:sizeL s.grp=nodesL s.grp:=by
  by_cases h5:s.kd=5
  ·have hq:=K.2.2.2.2.2.2.2.1 h5
   unfold St.qOk at hq
   simp only[Bool.and_eq_true]at hq
   refine fT (List.all_eq_true.2 fun e he=>?_)
   have:=List.all_eq_true.1 hq.1.1.2 e he
   unfold colX at this
   simp only[Bool.and_eq_true]at this
   exact this.2
  ·rw[(L.sel h5).2.2.1];rfl
 have e6:sumB bkO s.ord=s.ord.length:=gA s.ord
 have e7:=szn (gW h).symm
 unfold St.bulk St.cst St.all
 simp only[cq]
 show _≤_+(_+(s.whr.nodes+0))
 omega
end
def aw1:ByteArray:=⟨#[97,32,78,79,84,32,73,78,32,40,49,44,32,50,41]⟩
def aw2:ByteArray:=⟨#[83,69,76,69,67,84,32,42,32,70,82,79,77,32,116,44,32,117,32,74,79,73,78,32,118,32,79,78,32,116,46,97,32,61,32,118,46,97,32,87,72,69,82,69,32,98,32,62,32,48]⟩
def aw3:ByteArray:=⟨#[68,69,76,69,84,69,32,116]⟩
def aw4:ByteArray:=⟨#[97,32,61,32,98,32,61,32,99]⟩
def aw5:ByteArray:=⟨#[66,69,71,73,78,59,32,67,79,77,77,73,84,59]⟩
theorem aw_1:(parE validE aw1).2=(0,0):=by kernel_rfl
theorem aw_1t:textE (parE validE aw1).1=⟨#[78,79,84,32,40,97,32,61,32,49,32,79,82,32,97,32,61,32,50,41]⟩:=by kernel_rfl
theorem aw_2:(parS validS aw2).2=(0,0):=by kernel_rfl
theorem aw_2f:(parS validS aw2).1.frm.length=3:=by kernel_rfl
theorem aw_2t:textE (parS validS aw2).1.whr=⟨#[116,46,97,32,61,32,118,46,97,32,65,78,68,32,98,32,62,32,48]⟩:=by kernel_rfl
theorem aw_3:(parS validS aw3).2=(7,2):=by kernel_rfl
theorem aw_4:(parE validE aw4).2=(6,2):=by kernel_rfl
theorem aw_5:(parL validS aw5).2=(0,0):=by kernel_rfl
theorem aw_5n:(parL validS aw5).1.length=2:=by kernel_rfl
end Go.Proofs.YtjigcpfjhfoheaaGreatDoor
