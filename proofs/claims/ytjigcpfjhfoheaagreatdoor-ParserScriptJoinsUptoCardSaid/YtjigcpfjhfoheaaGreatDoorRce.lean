/- The parser reads the tokens of a well-formed statement as that statement, apart from indexes; Round trips: the canonical text of a valid statement, or expression, is read as it; scripts of such texts; Scripts of canonical texts; t. -/
import Derived.Test.YtjigcpfjhfoheaaGreatDoorRcd
import Derived.Test.YtjigcpfjhfoheaaGreatDoorRba
import Derived.Test.YtjigcpfjhfoheaaGreatDoorRad
import Derived.Test.YtjigcpfjhfoheaaGreatDoorRbh
namespace Go.Proofs.YtjigcpfjhfoheaaGreatDoor
open Go.RowKit
set_option maxHeartbeats 1000000
set_option maxRecDepth 100000
set_option linter.unusedVariables false
set_option linter.unusedSimpArgs false
section
open Lx (Tk isDigit isLetter inWord spanN isPrint)
def St.st0 (s:St):St:= { s with chk:=s.chk.map Ex.st0,vals:=s.vals.map (fun l=>l.map Ex.st0),sets:=s.sets.map Asg.st0,itms:=s.itms.map Itm.st0,whr:=s.wh0,grp:=s.grp.map Ex.st0 }
theorem emp_ba {s:ByteArray} (h:s.toList.isEmpty=true):s=⟨#[]⟩:=by
 rw[eX]at h
 exact cY (by rw[←N_len,List.isEmpty_iff.1 h];rfl)
structure Lone (s:St):Prop where
 tb:4<s.kd→s.tb=⟨#[]⟩
 nm:s.kd≠9→s.kd≠10→s.kd≠11→s.nm=⟨#[]⟩
 df:s.kd≠1→s.cols= []∧s.keys= []∧s.frs= []∧s.chk= []
 vals:s.kd≠2→s.vals= []
 sets:s.kd≠3→s.sets= []
 sel:s.kd≠5→s.itms= []∧s.frm= []∧s.grp= []∧s.ord= []∧s.lim=0
 wh:s.kd≠3→s.kd≠4→s.kd≠5→s.wh0=exZ
theorem jt {s:St} (h:s.formed=true):Lone s:=by
 unfold St.formed at h
 dsimp only at h
 simp only[Bool.and_eq_true,decide_eq_true_eq]at h
 obtain⟨⟨⟨⟨⟨⟨⟨⟨⟨⟨⟨⟨p,r⟩,n⟩,_⟩,m⟩,_⟩,o⟩,g⟩,j⟩,k⟩,l⟩,i⟩,_⟩:=h
 refine⟨fun e=>?_,fun a b c=>?_,fun e=>?_,fun e=>?_,fun e=>?_,fun e=>?_,fun a b c=>?_⟩
 ·rw[decide_eq_false (by omega)]at n
  exact emp_ba (by simpa using n)
 ·have e:(s.kd==9||s.kd==10||s.kd==11)=false:=by simp[a,b,c]
  rw[e]at m
  exact emp_ba (by simpa using m)
 ·have f:(s.kd==1)=false:=by simpa using e
  rw[f]at g
  have g:s.noDef=true:=by simpa using g
  unfold St.noDef at g
  have t:=of_decide_eq_true g
  exact⟨cW (by omega),cW (by omega),cW (by omega),cW (by omega)⟩
 ·have f:(s.kd==2)=false:=by simpa using e
  rw[f]at j
  exact cW (by simpa using j)
 ·have f:(s.kd==3)=false:=by simpa using e
  rw[f]at k
  exact cW (by simpa using k)
 ·have f:(s.kd==5)=false:=by simpa using e
  rw[f]at i l
  simp only[Bool.false_or,Bool.and_eq_true,decide_eq_true_eq,beq_iff_eq]at i
  exact⟨cW (by omega),cW (by simpa using l),cW (by omega),cW (by omega),i.2⟩
 ·have e:(s.kd==3||s.kd==4||s.kd==5)=false:=by simp[a,b,c]
  rw[e]at o
  unfold St.wh0
  rw[if_pos (by simpa using o)]
theorem fO {α:Type} {m n:M α} (t:ByteArray) {a:Tk} (h:er a=(2,t.data.toList)) (R:List Tk):ifM t m n ⟨a::R,false⟩=m ⟨R,false⟩:=by
 unfold ifM
 rw[cG (.inl rfl) t h,if_pos rfl]
 rfl
theorem aO {α:Type} {m n:M α} (t:ByteArray) {a:Tk} {x:List UInt8} (h:er a=(2,x)) (b:t.data.toList≠x) (R:List Tk):ifM t m n ⟨a::R,false⟩=n ⟨a::R,false⟩:=by
 unfold ifM
 rw[isS_eq (.inl rfl) t h,decide_eq_false b,if_neg (by simp)]
theorem insert_eq (ex:M Ex) (s:Ps):fu ex s=(fun t:ByteArray×Ps=> (fun v:List (List Ex)×Ps=> (({ stZ with kd:=2,tb:=t.1,vals:=v.1 } :St),v.2)) (listP (tupP ex) (needP kVALUES t.2))) (takP 1 (needP kINTO s)):=rfl
theorem update_eq (ex:M Ex) (s:Ps):fv ex s=(fun t:ByteArray×Ps=> (fun v:List Asg×Ps=> (fun w:Ex×Ps=> (({ stZ with kd:=3,tb:=t.1,sets:=v.1,whr:=w.1 } :St),w.2)) (whrP ex v.2)) (listP (asgP ex) (needP kSET t.2))) (takP 1 s):=rfl
theorem delete_eq (ex:M Ex) (s:Ps):fx ex s=(fun t:ByteArray×Ps=> (fun w:Ex×Ps=> (({ stZ with kd:=4,tb:=t.1,whr:=w.1 } :St),w.2)) (whrP ex t.2)) (takP 1 (needP kFROM s)):=rfl
theorem nm_eq (k:Int) (s:Ps):nmP k s=(fun t:ByteArray×Ps=> (({ stZ with kd:=k,nm:=t.1 } :St),t.2)) (takP 1 s):=rfl
theorem nm_at (k:Int) {s:ByteArray} {a:Tk} (b:er a=nmK s) (R:List Tk):nmP k ⟨a::R,false⟩=({ stZ with kd:=k,nm:=s },⟨R,false⟩):=by
 rw[nm_eq,tak_at b,bS]
theorem iH {a b:St} (l:a.kd=b.kd) (m:a.tb=b.tb) (n:a.cols=b.cols) (o:a.keys=b.keys) (p:a.frs=b.frs) (r:a.chk=b.chk) (s:a.vals=b.vals) (t:a.sets=b.sets) (u:a.itms=b.itms) (f:a.frm=b.frm) (g:a.whr=b.whr) (h:a.grp=b.grp) (i:a.ord=b.ord) (j:a.lim=b.lim) (k:a.nm=b.nm):a=b:=by
 cases a;cases b;simp only at*;subst_vars;rfl
theorem av {α β:Type} {l:List α} (f:α→β) (h:l= []):([]:List β)=l.map f:=by rw[h];rfl
theorem pS {n:Nat} {s:St} (h:s.formed=true) {ts R:List Tk} (f:ts.map er=s.tk) (G:ts.length≤n) (H:dO 5 R):stmP n ⟨ts++R,false⟩=(s.st0,⟨R,false⟩):=by
 obtain⟨⟨ac,ad⟩,f1,_,f2,_,f3,_,f5,_⟩:=bC h
 have U:=et h
 have L:=jt h
 have p:∀ {v:St},(v=s.st0)→(v,(⟨R,false⟩:Ps))=(s.st0,⟨R,false⟩):=fun h=>by rw[h]
 have fe:=cK n
 have z:stZ.whr=exZ:=rfl
 unfold stmP fN
 unfold St.tk at f
 by_cases B:s.kd=1
 ·rw[if_pos B]at f
  obtain⟨a,j,rfl,g,u⟩:=aj f
  simp only[List.length_cons]at G
  rw[List.cons_append,fO bR g,pR (n:=n) (f1 B) u (by omega)]
  exact p (iH B.symm rfl rfl rfl rfl rfl (av _ (L.vals (by omega))) (av _ (L.sets (by omega))) (av _ (L.sel (by omega)).1) (L.sel (by omega)).2.1.symm (L.wh (by omega) (by omega) (by omega)).symm (av _ (L.sel (by omega)).2.2.1) (L.sel (by omega)).2.2.2.1.symm (L.sel (by omega)).2.2.2.2.symm (L.nm (by omega) (by omega) (by omega)).symm)
 rw[if_neg B]at f
 by_cases u:s.kd=2
 ·have O:=u
  rw[if_pos u]at f
  obtain⟨a,j,rfl,g,w⟩:=aj f
  obtain⟨b,j,rfl,r,A⟩:=aj w
  obtain⟨c,j,rfl,F,i⟩:=aj A
  obtain⟨d,j,rfl,hd,y⟩:=aj i
  simp only[List.length_cons]at G
  simp only[List.cons_append]
  rw[aO bR g (by decide),fO cg g,insert_eq,need_at (.inl rfl) kINTO r,tak_at F,bS]
  simp only
  have P:s.vals≠[]:=by
   intro e
   unfold St.formed at h
   dsimp only at h
   simp only[Bool.and_eq_true,decide_eq_true_eq]at h
   have o:=h.1.1.1.1.2
   rw[u,e]at o
   simp at o
  have k:=dF (n:=n) (el:=tupP (exprP n)) (ar (aN _) fun _=>ar (fwd_list fe) fun _=>ar (aN _) fun _=>aH _) (tok:=rowK) (val:=fun l:List Ex=>l.map Ex.st0) (Fol:=fun _=>True) (fun _ _ _=>trivial) P
   (fun x X=>fun ts R B u _=>row_read (List.all_eq_true.1 (f2 O) x X) B u) y (by omega) (R:=R) trivial (H.not (by decide))
  rw[need_at (.inl rfl) kVALUES hd,k]
  exact p (iH u.symm rfl (L.df (by omega)).1.symm (L.df (by omega)).2.1.symm (L.df (by omega)).2.2.1.symm (av _ (L.df (by omega)).2.2.2) rfl (av _ (L.sets (by omega))) (av _ (L.sel (by omega)).1) (L.sel (by omega)).2.1.symm (L.wh (by omega) (by omega) (by omega)).symm (av _ (L.sel (by omega)).2.2.1) (L.sel (by omega)).2.2.2.1.symm (L.sel (by omega)).2.2.2.2.symm (L.nm (by omega) (by omega) (by omega)).symm)
 rw[if_neg u]at f
 by_cases w:s.kd=3
 ·rw[if_pos w]at f
  obtain⟨a,j,rfl,g,A⟩:=aj f
  obtain⟨b,j,rfl,r,i⟩:=aj A
  obtain⟨c,j,rfl,F,y⟩:=aj i
  obtain⟨j,I,rfl,E,o⟩:=aZ y
  simp only[List.length_cons,List.length_append]at G
  have P:s.sets≠[]:=by
   intro e
   unfold St.formed at h
   dsimp only at h
   simp only[Bool.and_eq_true,decide_eq_true_eq]at h
   have o:=h.1.1.1.2
   rw[w,e]at o
   simp at o
  have Z:dO 1 (I++R):=js o (whr_K s) (by omega) (by omega) H
  have k:=dF (n:=n) (el:=asgP (exprP n)) (ar (fwd_tak 1) fun _=>ar (aN _) fun _=>ar fe fun _=>aH _) (tok:=Asg.tk) (val:=Asg.st0) (Fol:=F0) f0_cm P (fun x X=>asg_read (List.all_eq_true.1 (f3 w) x X)) E (by omega) (R:=I++R) Z.f0 (Z.not (by decide))
  have Y:=mn (n:=n) U o (by omega) (H.le (by omega) (by omega):dO 2 R)
  have e:a::b::c::(j++I)++R=a::b::c::(j++(I++R)):=by simp
  rw[e,aO bR g (by decide),aO cg g (by decide),fO cE g,update_eq,tak_at r,bS]
  simp only
  rw[need_at (.inl rfl) kSET F,k]
  simp only
  rw[Y]
  exact p (iH w.symm rfl (L.df (by omega)).1.symm (L.df (by omega)).2.1.symm (L.df (by omega)).2.2.1.symm (av _ (L.df (by omega)).2.2.2) (av _ (L.vals (by omega))) rfl (av _ (L.sel (by omega)).1) (L.sel (by omega)).2.1.symm rfl (av _ (L.sel (by omega)).2.2.1) (L.sel (by omega)).2.2.2.1.symm (L.sel (by omega)).2.2.2.2.symm (L.nm (by omega) (by omega) (by omega)).symm)
 rw[if_neg w]at f
 by_cases A:s.kd=4
 ·rw[if_pos A]at f
  obtain⟨a,j,rfl,g,i⟩:=aj f
  obtain⟨b,j,rfl,r,y⟩:=aj i
  obtain⟨c,j,rfl,F,E⟩:=aj y
  simp only[List.length_cons]at G
  have Y:=mn (n:=n) U E (by omega) (H.le (by omega) (by omega):dO 2 R)
  simp only[List.cons_append]
  rw[aO bR g (by decide),aO cg g (by decide),aO cE g (by decide),fO dc g,delete_eq,need_at (.inl rfl) kFROM r,tak_at F,bS]
  simp only
  rw[Y]
  exact p (iH A.symm rfl (L.df (by omega)).1.symm (L.df (by omega)).2.1.symm (L.df (by omega)).2.2.1.symm (av _ (L.df (by omega)).2.2.2) (av _ (L.vals (by omega))) (av _ (L.sets (by omega))) (av _ (L.sel (by omega)).1) (L.sel (by omega)).2.1.symm rfl (av _ (L.sel (by omega)).2.2.1) (L.sel (by omega)).2.2.2.1.symm (L.sel (by omega)).2.2.2.2.symm (L.nm (by omega) (by omega) (by omega)).symm)
 rw[if_neg A]at f
 have D:=L.df B
 have V:=L.vals u
 have S:=L.sets w
 by_cases i:s.kd=5
 ·rw[if_pos i]at f
  cases ts with
  |nil=>unfold St.selK at f;cases f
  |cons a j=>
   have g:er a=(2,[83,69,76,69,67,84]):=by unfold St.selK at f;rw[List.map_cons]at f;exact(List.cons.inj f).1
   simp only[List.length_cons]at G
   rw[List.cons_append,aO bR g (by decide),aO cg g (by decide),aO cE g (by decide),aO dc g (by decide),fO dd g,sel_read (n:=n) (f5 i) U f (by omega) H]
   exact p (iH i.symm (L.tb (by omega)).symm D.1.symm D.2.1.symm D.2.2.1.symm (av _ D.2.2.2) (av _ V) (av _ S) rfl rfl rfl rfl rfl rfl (L.nm (by omega) (by omega) (by omega)).symm)
 rw[if_neg i]at f
 have Q:=L.sel i
 have W:=L.wh w A i
 have T:=L.tb (by omega)
 have one:∀k:Int,s.kd=k→s.nm=⟨#[]⟩→({ stZ with kd:=k } :St)=s.st0:=fun k K G=>iH K.symm T.symm D.1.symm D.2.1.symm D.2.2.1.symm (av _ D.2.2.2) (av _ V) (av _ S) (av _ Q.1) Q.2.1.symm W.symm (av _ Q.2.2.1) Q.2.2.2.1.symm Q.2.2.2.2.symm G.symm
 have m:∀k:Int,s.kd=k→({ stZ with kd:=k,nm:=s.nm } :St)=s.st0:=fun k K=>iH K.symm T.symm D.1.symm D.2.1.symm D.2.2.1.symm (av _ D.2.2.2) (av _ V) (av _ S) (av _ Q.1) Q.2.1.symm W.symm (av _ Q.2.2.1) Q.2.2.2.1.symm Q.2.2.2.2.symm rfl
 by_cases y:s.kd=6
 ·rw[if_pos y]at f
  obtain⟨a,rfl,g⟩:=aJ f
  rw[List.singleton_append,aO bR g (by decide),aO cg g (by decide),aO cE g (by decide),aO dc g (by decide),aO dd g (by decide),fO fq g]
  exact p (one 6 y (L.nm (by omega) (by omega) (by omega)))
 rw[if_neg y]at f
 by_cases E:s.kd=7
 ·rw[if_pos E]at f
  obtain⟨a,rfl,g⟩:=aJ f
  rw[List.singleton_append,aO bR g (by decide),aO cg g (by decide),aO cE g (by decide),aO dc g (by decide),aO dd g (by decide),aO fq g (by decide),fO eI g]
  exact p (one 7 E (L.nm (by omega) (by omega) (by omega)))
 rw[if_neg E]at f
 by_cases o:s.kd=8
 ·rw[if_pos o]at f
  obtain⟨a,rfl,g⟩:=aJ f
  rw[List.singleton_append,aO bR g (by decide),aO cg g (by decide),aO cE g (by decide),aO dc g (by decide),aO dd g (by decide),aO fq g (by decide),aO eI g (by decide),fO dt g]
  unfold ifM
  rw[H.not (t:=kTO) (by decide),if_neg (by simp)]
  exact p (one 8 o (L.nm (by omega) (by omega) (by omega)))
 rw[if_neg o]at f
 by_cases J:s.kd=9
 ·rw[if_pos J]at f
  obtain⟨a,j,rfl,g,i⟩:=aj f
  obtain⟨b,rfl,r⟩:=aJ i
  rw[List.cons_append,List.singleton_append,aO bR g (by decide),aO cg g (by decide),aO cE g (by decide),aO dc g (by decide),aO dd g (by decide),aO fq g (by decide),aO eI g (by decide),aO dt g (by decide),fO eh g,nm_at 9 r]
  exact p (m 9 J)
 rw[if_neg J]at f
 by_cases C:s.kd=10
 ·rw[if_pos C]at f
  obtain⟨a,j,rfl,g,i⟩:=aj f
  obtain⟨c,j,rfl,F,i⟩:=aj i
  obtain⟨b,rfl,r⟩:=aJ i
  rw[List.cons_append,List.cons_append,List.singleton_append,aO bR g (by decide),aO cg g (by decide),aO cE g (by decide),aO dc g (by decide),aO dd g (by decide),aO fq g (by decide),aO eI g (by decide),fO dt g,fO kTO F,nm_at 10 r]
  exact p (m 10 C)
 ·rw[if_neg C]at f
  obtain⟨a,j,rfl,g,i⟩:=aj f
  obtain⟨b,rfl,r⟩:=aJ i
  rw[List.cons_append,List.singleton_append,aO bR g (by decide),aO cg g (by decide),aO cE g (by decide),aO dc g (by decide),aO dd g (by decide),aO fq g (by decide),aO eI g (by decide),aO dt g (by decide),aO eh g (by decide)]
  unfold ic
  rw[fO iX g,nm_at 11 r]
  exact p (m 11 (by omega))
theorem ju:∀l:List Ex,sameL (l.map Ex.st0) l=true
 | []=>rfl
 |e::l=>by rw[List.map_cons,sameL,jo,ju l];rfl
theorem mq {α:Type} {f:α→α→Bool} {g:α→α} (h:∀x,f (g x) x=true):∀l:List α,allS f (l.map g) l=true
 | []=>rfl
 |e::l=>by rw[List.map_cons,allS,h,mq h l];rfl
theorem pT {α:Type} {f:α→α→Bool} {g:α→α} :∀ {l:List α},(∀x∈l,f (g x) x=true)→allS f (l.map g) l=true
 | [],_=>rfl
 |e::l,h=>by rw[List.map_cons,allS,h e List.mem_cons_self,pT fun x a=>h x (List.mem_cons_of_mem _ a)];rfl
theorem kn {e:Ex} (h:e.absent=true):exZ.same e=true:=by rw[same_comm,j9];exact h
theorem itm_st0 {x:Itm} (h:x.ok=true):x.st0.same x=true:=by
 unfold Itm.st0 Itm.same
 unfold Itm.ok at h
 by_cases a:x.ag=1
 ·rw[if_pos a]
  rw[if_pos (by simpa using a)]at h
  simp[a,kn h]
 ·rw[if_neg a]
  simp[jo]
theorem stst_same {s:St} (h:s.formed=true):s.st0.same s=true:=by
 have hi:allS Itm.same s.st0.itms s.itms=true:=by
  by_cases b:s.kd=5
  ·have a:=(bC h).2.2.2.2.2.2.2.1 b
   unfold St.qOk at a
   simp only[Bool.and_eq_true]at a
   exact pT fun x k=>itm_st0 (List.all_eq_true.1 a.1.1.1.1.1 x k)
  ·show allS Itm.same (s.itms.map Itm.st0) s.itms=true
   rw[((jt h).sel b).1];rfl
 have j:s.st0.whr.same s.whr=true:=by
  show s.wh0.same s.whr=true
  unfold St.wh0
  split
  ·next ha=>exact kn ha
  ·exact jo _
 have hs:allS Asg.same s.st0.sets s.sets=true:=mq (fun x=>by unfold Asg.st0 Asg.same;simp[fF,jo]) _
 have i:allS sameL s.st0.vals s.vals=true:=mq (fun x=>ju x) _
 have f:sameL s.st0.chk s.chk=true:=ju _
 have g:sameL s.st0.grp s.grp=true:=ju _
 unfold St.same St.sb SB.all
 simp only[hi,j,hs,i,f,g]
 unfold St.st0
 simp[fF,dD src_refl,dD ord_refl,dD cd_refl,dD (dD fF),dD rf_refl]
end
section
open Lx (Tk isDigit isLetter inWord spanN isPrint)
theorem st0_d (e:Ex):e.st0.d= { e.d with ix:=0 } :=by cases e;rfl
theorem fK:∀e:Ex,e.st0.nodes=e.nodes∧e.st0.depth=e.depth∧e.st0.pl=e.pl:=by
 intro e
 induction e using Ex.ind with
 |h d ks ih=>
  have m:nodesL (iF ks)=nodesL ks∧bj (iF ks)=bj ks∧plL (iF ks)=plL ks:=by
   clear d
   induction ks with
   |nil=>exact⟨rfl,rfl,rfl⟩
   |cons a l ih2=>
    obtain⟨b,f,g⟩:=ih a (by simp)
    obtain⟨i,j,k⟩:=ih2 fun e r=>ih e (by simp[r])
    rw[iF,nodesL,nodesL,bj,bj,plL,plL,b,f,g,i,j,k,st0_d]
    exact⟨rfl,rfl,rfl⟩
  obtain⟨n,o,p⟩:=m
  rw[Ex.st0,Ex.nodes,Ex.nodes,Ex.depth,Ex.depth,Ex.pl,Ex.pl,n,o,p]
  exact⟨rfl,rfl,rfl⟩
theorem mr (e:Ex) (r:Int):e.st0.tx r=e.tx r:=by
 unfold Ex.tx
 rw[(fK e).2.2,st0_d]
theorem nodes_map (l:List Ex):nodesL (l.map Ex.st0)=nodesL l:=by
 induction l with
 |nil=>rfl
 |cons e l ih=>rw[List.map_cons,nodesL,nodesL,ih,(fK e).1]
theorem exs_st0 (l:List Ex):exsT (l.map Ex.st0)=exsT l:=by
 unfold exsT
 rw[List.map_map]
 exact congrArg cma (List.map_congr_left fun e _=>mr e 1)
theorem jw {e:Ex} (h:e.absent=true):e.nodes=0∧e.depth=0:=by
 obtain⟨d,ks⟩:=e
 unfold Ex.absent at h
 simp only[Bool.and_eq_true,beq_iff_eq,List.isEmpty_iff]at h
 obtain⟨⟨⟨⟨f,_⟩,_⟩,_⟩,g⟩:=h
 have a:d.op=0:=f
 have b:ks= []:=g
 subst b
 rw[Ex.nodes,Ex.depth,if_pos a]
 exact⟨rfl,rfl⟩
theorem wh0_eq (s:St):s.wh0.nodes=s.whr.nodes∧s.wh0.depth=s.whr.depth∧s.wh0.absent=s.whr.absent:=by
 unfold St.wh0
 split
 ·next h=>rw[(jw h).1,(jw h).2,h];exact⟨rfl,rfl,rfl⟩
 ·refine⟨(fK _).1,(fK _).2.1,?_⟩
  cases a:s.whr with
  |mk d ks=>
   rw[Ex.st0]
   unfold Ex.absent
   show(d.op==0&&d.tb.size==0&&d.nm.size==0&&Nd.valZ { d with ix:=0 } && (iF ks).isEmpty)=(d.op==0&&d.tb.size==0&&d.nm.size==0&&d.valZ&&ks.isEmpty)
   have:(iF ks).isEmpty=ks.isEmpty:=by cases ks<;>rfl
   rw[this]
   rfl
theorem oy {x:Itm} (h:x.ok=true):x.st0.ex.nodes=x.ex.nodes∧x.st0.ex.depth=x.ex.depth∧x.st0.tx=x.tx:=by
 unfold Itm.st0 Itm.tx
 split
 ·next h1=>
  unfold Itm.ok at h
  rw[if_pos (by simpa using h1)]at h
  rw[(jw h).1,(jw h).2,if_pos rfl]
  exact⟨rfl,rfl,rfl⟩
 ·next h1=>
  refine⟨(fK _).1,(fK _).2.1,?_⟩
  simp only[mr,if_neg h1]
theorem iI {α:Type} (f g:α→Ex):∀(l:List α),(∀x∈l,(f x).nodes=(g x).nodes)→nodesL (l.map f)=nodesL (l.map g)
 | [],_=>rfl
 |x::l,h=>by rw[List.map_cons,List.map_cons,nodesL,nodesL,h x List.mem_cons_self,iI f g l fun y a=>h y (List.mem_cons_of_mem _ a)]
theorem jx {α:Type} (f g:α→Ex):∀(l:List α),(∀x∈l,(f x).depth=(g x).depth)→(l.map f).any (fun e=>decide (50<e.depth))=(l.map g).any (fun e=>decide (50<e.depth))
 | [],_=>rfl
 |x::l,h=>by rw[List.map_cons,List.map_cons,List.any_cons,List.any_cons,h x List.mem_cons_self,jx f g l fun y a=>h y (List.mem_cons_of_mem _ a)]
theorem nz:∀l:List (List Ex),(l.map fun x=>x.map Ex.st0).flatten=l.flatten.map Ex.st0
 | []=>rfl
 |x::l=>by rw[List.map_cons,List.flatten_cons,List.flatten_cons,List.map_append,nz l]
theorem large_st0 {s:St} (h:s.formed=true):largeB s.st0.all=largeB s.all:=by
 have hi:∀x∈s.itms,x.ok=true:=fun x a=>by
  by_cases f:s.kd=5
  ·have b:=(bC h).2.2.2.2.2.2.2.1 f
   unfold St.qOk at b
   simp only[Bool.and_eq_true]at b
   exact List.all_eq_true.1 b.1.1.1.1.1 x a
  ·rw[((jt h).sel f).1]at a;cases a
 have e:s.st0.all=s.chk.map Ex.st0++s.vals.flatten.map Ex.st0++s.grp.map Ex.st0++s.sets.map (fun x=>x.ex.st0)++s.itms.map (fun x=>x.st0.ex)++ [s.wh0]:=by
  unfold St.all St.st0
  simp only[List.map_map,nz]
  rfl
 have w:=wh0_eq s
 have g:nodesL s.st0.all=nodesL s.all:=by
  rw[e]
  unfold St.all
  simp only[co,nodes_map]
  rw[iI (fun x:Asg=>x.ex.st0) Asg.ex s.sets fun x _=> (fK _).1,iI (fun x:Itm=>x.st0.ex) Itm.ex s.itms fun x a=> (oy (hi x a)).1]
  show _+(s.wh0.nodes+0)=_+(s.whr.nodes+0)
  rw[w.1]
 have i:s.st0.all.any (fun e=>decide (50<e.depth))=s.all.any (fun e=>decide (50<e.depth)):=by
  rw[e]
  unfold St.all
  have m:∀l:List Ex,(l.map Ex.st0).any (fun e=>decide (50<e.depth))=l.any (fun e=>decide (50<e.depth)):=fun l=>by
   have:=jx Ex.st0 (fun e=>e) l fun e _=> (fK e).2.1
   simpa using this
  simp only[List.any_append,m]
  rw[jx (fun x:Asg=>x.ex.st0) Asg.ex s.sets fun x _=> (fK _).2.1,jx (fun x:Itm=>x.st0.ex) Itm.ex s.itms fun x a=> (oy (hi x a)).2.1]
  simp only[List.any_cons,List.any_nil,w.2.1]
 unfold largeB
 rw[g,i]
theorem wht_st0 (s:St):s.st0.whT=s.whT:=by
 unfold St.whT
 show(if s.wh0.absent=true then _ else jU++s.wh0.tx 1)=_
 rw[(wh0_eq s).2.2]
 split
 ·rfl
 ·next h=>unfold St.wh0;rw[if_neg h,mr]
theorem body_st0 {s:St} (h:s.formed=true):s.st0.body=s.body:=by
 have hi:∀x∈s.itms,x.ok=true:=fun x b=>by
  by_cases g:s.kd=5
  ·have f:=(bC h).2.2.2.2.2.2.2.1 g
   unfold St.qOk at f
   simp only[Bool.and_eq_true]at f
   exact List.all_eq_true.1 f.1.1.1.1.1 x b
  ·rw[((jt h).sel g).1]at b;cases b
 have w:=wht_st0 s
 have c:(s.chk.map Ex.st0).map ep=s.chk.map ep:=by
  rw[List.map_map]
  exact List.map_congr_left fun e _=>by show ep e.st0=ep e;unfold ep;rw[mr]
 have v:(s.vals.map fun l=>l.map Ex.st0).map cM=s.vals.map cM:=by
  rw[List.map_map]
  exact List.map_congr_left fun l _=>by show cM (l.map Ex.st0)=cM l;unfold cM;rw[exs_st0]
 have a:(s.sets.map Asg.st0).map Asg.tx=s.sets.map Asg.tx:=by
  rw[List.map_map]
  exact List.map_congr_left fun x _=>by show x.st0.tx=x.tx;unfold Asg.tx Asg.st0;rw[mr]
 have t:(s.itms.map Itm.st0).map Itm.tx=s.itms.map Itm.tx:=by
  rw[List.map_map]
  exact List.map_congr_left fun x b=> (oy (hi x b)).2.2
 have it:s.st0.itT=s.itT:=by
  unfold St.itT
  show(if (s.itms.map Itm.st0).length=0 then _ else cma ((s.itms.map Itm.st0).map Itm.tx))=_
  rw[List.length_map,t]
 have el:s.st0.elts=s.elts:=by
  unfold St.elts
  show _++(s.chk.map Ex.st0).map ep=_
  rw[c]
  rfl
 have m:s.st0.sel=s.sel:=by
  have i:s.st0.sel0=s.sel0:=by unfold St.sel0;rw[it,w];rfl
  have j:s.st0.sel1=s.sel1:=by
   unfold St.sel1
   show(if (s.grp.map Ex.st0).length=0 then s.st0.sel0 else s.st0.sel0++(_++exsT (s.grp.map Ex.st0)))=_
   rw[List.length_map,i,exs_st0]
  have k:s.st0.sel2=s.sel2:=by unfold St.sel2;rw[j];rfl
  unfold St.sel
  rw[k]
  rfl
 unfold St.body
 rw[m,w,el]
 show(if s.kd=1 then _ else if s.kd=2 then _++cma ((s.vals.map fun l=>l.map Ex.st0).map cM)else if s.kd=3 then _++cma ((s.sets.map Asg.st0).map Asg.tx)++s.whT else _)=_
 rw[v,a]
 rfl
theorem st_toks {s:St} (h:s.formed=true) (f:s.body.size≤16384):∃ts:List Tk,ts.map er=s.tk∧Lx.tokAll s.body= .ok (ts++ [⟨0,[],s.body.size⟩]):=by
 obtain⟨ts,b,a⟩:=st_lex h [] 0 (.inl rfl)
 refine⟨ts,b,?_⟩
 unfold Lx.tokAll
 rw[if_neg (by omega)]
 rw[List.append_nil,Lx.T_end [] _ rfl]at a
 show Lx.T (dl s.body) 0=_
 rw[a]
 have:(dl s.body).length=s.body.size:=Array.length_toList
 simp[Lx.Ls.pre,Lx.skipN,this]
theorem stp_end (p:Nat) (t:List UInt8):dO 5 [⟨0,t,p⟩]:=⟨by omega,_,_,rfl,by unfold stI er;rw[if_neg (by simp)];omega⟩
theorem qU {α:Type} {m:M α} {ts:List Tk} {a:Tk} {v:α} (b:a.kind=0) (h:m ⟨ts++ [a],false⟩=(v,⟨[a],false⟩)):jG m (ts++ [a])= .inr v:=by
 have e:endP ⟨[a],false⟩=⟨[a],false⟩:=by
  unfold endP hasK Ps.hd
  simp[b]
 unfold jG
 rw[h]
 simp only
 rw[e,if_neg (by simp)]
theorem gD {s:St} (h:validS s=0):largeB s.all=false∧s.formed=true∧s.body.size≤16384:=by
 unfold validS at h
 cases b:largeB s.all with
 |true=>rw[b]at h;simp at h
 |false=>
  rw[b]at h
  cases a:s.formed with
  |false=>rw[a]at h;simp at h
  |true=>
   rw[a]at h
   simp only[Bool.false_eq_true,if_false,Bool.true_eq_false]at h
   refine⟨rfl,rfl,?_⟩
   split at h
   ·omega
   ·omega
theorem valid_of {s:St} (a:largeB s.all=false) (b:s.formed=true) (f:s.body.size≤16384):validS s=0:=by
 unfold validS
 rw[a,b,if_neg (by simp),if_neg (by simp),if_neg (by omega)]
theorem pU {s:ByteArray} {L:List Tk} (h:Lx.tokAll s= .ok L) {n:Nat} (b:L.length<n) (a:(stmP n ⟨L,false⟩).2.bad=false):(stmP n ⟨L,false⟩).1.formed=true:=
 ((yld_stm n ⟨L,false⟩ ⟨b,gt_of h⟩).2 a).1
theorem valid_st0 {s:St} (h:validS s=0):validS s.st0=0:=by
 obtain⟨i,a,b⟩:=gD h
 refine valid_of (by rw[large_st0 a];exact i) ?_ (by rw[body_st0 a];exact b)
 obtain⟨ts,f,g⟩:=st_toks a b
 have k:=pS (n:=(ts++ [(⟨0,[],s.body.size⟩:Tk)]).length+1) a f (by simp;omega) (stp_end s.body.size [])
 have:=pU g (n:=(ts++ [(⟨0,[],s.body.size⟩:Tk)]).length+1) (by simp) (by rw[k])
 rw[k]at this
 exact this
theorem round_st {s:St} (h:validS s=0):parS validS s.body=(s.st0,0,0):=by
 obtain⟨i,a,g⟩:=gD h
 obtain⟨ts,b,f⟩:=st_toks a g
 have k:=pS (n:=(ts++ [(⟨0,[],s.body.size⟩:Tk)]).length+1) a b (by simp;omega) (stp_end s.body.size [])
 unfold parS
 rw[f]
 simp only
 rw[qU rfl k]
 simp only
 rw[if_pos (valid_st0 h)]
end
section
open Lx (Tk isDigit isLetter inWord spanN isPrint)
def parL (vld:St→Int) (s:ByteArray):List St×Int×Int:=
 match Lx.tokAll s with
 | .bad a e=> ([],(a:Int),(e:Int))
 | .ok L=>
  match mR (stmP (L.length+1)) vld (L.length+1) [] ⟨L,false⟩with
  | .inl q=> ([],(q.1:Int),q.2)
  | .inr l=> (l,0,0)
end
section
open Lx (Tk)
def wsm:List Tk→Nat
 | []=>0
 |a::l=>a.text.length+1+wsm l
theorem wsm_app (a b:List Tk):wsm (a++b)=wsm a+wsm b:=by
 induction a with
 |nil=>simp[wsm]
 |cons x a ih=>rw[List.cons_append,wsm,wsm,ih];omega
theorem kO {s t:Ps} (h:Sfx s t):wsm t.r≤wsm s.r:=by
 obtain⟨A,e,_⟩:=h
 rw[e,wsm_app]
 omega
theorem j7 {α:Type} (μ:α→Nat) (a b:List α):sumB μ (a++b)=sumB μ a+sumB μ b:=by
 induction a with
 |nil=>simp[sumB]
 |cons x a ih=>rw[List.cons_append,sumB,sumB,ih];omega
def Lin {α:Type} (d:Nat) (μ:α→Nat) (m:M α):Prop:=∀s,μ (m s).1+2*wsm (m s).2.r≤2*wsm s.r+d
section
variable {α β:Type} {d e:Nat} {μ:α→Nat} {ν:β→Nat}
theorem au {m:M α} {f:α→M β} (h:Lin d μ m) (b:∀a,Lin (μ a+e) ν (f a)):Lin (d+e) ν (aA m f):=fun s=>by
 have g:=h s
 have i:=b (m s).1 (m s).2
 show ν (f (m s).1 (m s).2).1+2*wsm (f (m s).1 (m s).2).2.r≤_
 omega
theorem bb {a:α} (h:μ a≤d):Lin d μ (aY a):=fun s=>by
 show μ a+2*wsm s.r≤_
 omega
theorem cR {m:M α} (h:Rdy m) (b:∀a,μ a≤d):Lin d μ m:=fun s=>by
 have f:=kO (h.sfx s)
 have g:=b (m s).1
 omega
theorem bQ (t:ByteArray) {m n:M α} (a:Lin d μ m) (b:Lin d μ n):Lin d μ (ifM t m n):=fun s=>by
 unfold ifM
 split
 ·next hs=>
  have f:=a s.next
  have g:=kO (Sfx.next hs)
  omega
 ·exact b s
theorem Lin.imp {m:M α} (h:Lin d μ m) (hd:d≤e):Lin e μ m:=fun s=>by have:=h s;omega
theorem cm_wsm {s:Ps} (h:isS yCm s=true):wsm s.r=wsm s.next.r+2:=by
 obtain⟨_,a,l,b,_,f,g⟩:=cu h
 have i:a.text.length=1:=by
  have:=congrArg ByteArray.size f
  simpa[tkB,ByteArray.size] using this
 rw[b,g,wsm,i]
 show 1+1+wsm l=wsm l+2
 omega
theorem mt {el:M α} (h:Lin d μ el) (hd:d≤4):∀(n:Nat) (o:List α) (s:Ps),sumB μ (listGo el n o s).1+2*wsm (listGo el n o s).2.r≤2*wsm s.r+sumB μ o
 |0,o,s=>by show sumB μ o+2*wsm s.r≤_;omega
 |n+1,o,s=>by
  rw[listGo]
  split
  ·next hs=>
   have a:=mt h hd n (o++ [(el s.next).1]) (el s.next).2
   have b:=h s.next
   have f:=cm_wsm hs
   rw[j7,sumB,sumB]at a
   omega
  ·show sumB μ o+2*wsm s.r≤_
   omega
theorem eD {el:M α} (h:Lin d μ el) (hd:d≤4):Lin d (sumB μ) (listP el):=fun s=>by
 have a:=mt h hd (s.r.length+1) [(el s).1] (el s).2
 have b:=h s
 rw[sumB,sumB]at a
 show sumB μ (listGo el (s.r.length+1) [(el s).1] (el s).2).1+_≤_
 unfold listP
 omega
end
theorem dm (k:Nat) (g:k≠0):Lin 1 bkS (takP k):=fun s=>by
 unfold takP bkS
 split
 ·next h=>
  obtain⟨_,a,l,b,_,f⟩:=gI g h
  have e:s.hd=a:=by unfold Ps.hd;rw[b];rfl
  rw[b,f,e,wsm]
  have:(tkB a).size=a.text.length:=by simp[tkB,ByteArray.size]
  simp only
  omega
 ·show 0+1+2*wsm s.r≤_
  omega
theorem aR (t:ByteArray):Lin 0 (fun _:Unit=>0) (aU t):=cR (bT t) fun _=>Nat.le_refl _
theorem g9:Lin 2 bkK namesP:=by
 refine(au (e:=2) (aR _) fun _=> (au (e:=1) (eD (dm 1 (by omega)) (by omega)) fun l=>?_).imp (by omega)).imp (by omega)
 exact(au (d:=0) (e:=sumB bkS l+1) (aR _) fun _=> (bb (by unfold bkK;omega))).imp (by omega)
theorem rdy_typ:Rdy typP:=by
 unfold typP bnd2P maxP fd
 exact cy _ (cy _ (aQ (cy _ (aQ rdy_num fun _=>bg _) rdy_num) fun _=>aQ (bT _) fun _=>aQ (cy _ (aQ rdy_num fun _=>bg _) rdy_num) fun _=>aQ (bT _) fun _=>bg _) (bg _)) (aQ (bT _) fun _=>cy _ (aQ rdy_num fun _=>aQ (bT _) fun _=>bg _) (bg _))
theorem lin_def:Lin 1 eW fQ:=by
 unfold fQ
 refine(au (e:=0) (dm 1 (by omega)) fun a=> (au (d:=0) (e:=bkS a) (μ:=fun _=>0) (cR rdy_typ fun _=>Nat.le_refl _) fun t=>?_).imp (by omega)).imp (by omega)
 refine(bQ _ ?_ (bb ?_)).imp (Nat.le_refl _)
 ·exact(au (d:=0) (e:=0+bkS a) (aR _) fun _=>bb (by unfold eW bkS;simp only;omega)).imp (by omega)
 ·unfold eW bkS;simp only;omega
theorem lin_ref:Lin 4 gj refP:=by
 unfold refP
 refine(au (e:=2) g9 fun a=> (au (d:=0) (e:=bkK a+2) (aR _) fun _=> (au (d:=1) (e:=0+(bkK a+2)-1) (dm 1 (by omega)) fun t=>?_).imp (by omega)).imp (by omega)).imp (by omega)
 refine(au (d:=2) (e:=bkS t+bkK a-1) g9 fun b=>bb ?_).imp ?_
 ·unfold gj bkK bkS;simp only;omega
 ·unfold bkK bkS;omega
theorem oz:Lin 3 bkF srcP:=by
 unfold srcP
 refine(au (d:=1) (e:=2) (dm 1 (by omega)) fun t=>?_).imp (by omega)
 refine bQ _ ?_ (bb (by show t.size+0+1≤t.size+1+2;omega))
 exact(au (d:=1) (e:=bkS t) (dm 1 (by omega)) fun a=>bb (by unfold bkF bkS;simp only;omega)).imp (by omega)
def dfW (d:Df):Nat:=sumB eW d.cols+sumB bkK d.keys+sumB gj d.frs+d.chk.length
section
variable {ex:M Ex} (hr:Rdy ex)
include hr
theorem pV (d:Df) (l:List ByteArray):Lin (dfW d+4) (fun x=>dfW x.1) (elemP ex d l):=by
 have app:∀ {α:Type} (μ:α→Nat) (a:List α) (x:α),sumB μ (a++ [x])=sumB μ a+μ x:=fun μ a x=>by rw[j7,sumB,sumB];rfl
 unfold elemP
 refine bQ _ ?_ (bQ _ ?_ (bQ _ ?_ (bQ _ ?_ ?_)))
 ·refine(au (d:=0) (e:=dfW d+2) (aR _) fun _=> (au (d:=2) (e:=dfW d) g9 fun k=>bb ?_).imp (by omega)).imp (by omega)
  unfold dfW;simp only[app];omega
 ·refine(au (d:=2) (e:=dfW d) g9 fun k=>bb ?_).imp (by omega)
  unfold dfW;simp only[app];omega
 ·refine(au (d:=0) (e:=dfW d+1) (aR _) fun _=> (au (d:=1) (e:=dfW d) (μ:=fun _=>1) (cR hr fun _=>Nat.le_refl _) fun e=> (au (d:=0) (e:=1+dfW d) (aR _) fun _=>bb ?_).imp (by omega)).imp (by omega)).imp (by omega)
  unfold dfW;simp only[List.length_append,List.length_singleton];omega
 ·refine(au (d:=0) (e:=dfW d+4) (aR _) fun _=> (au (d:=4) (e:=dfW d) lin_ref fun f=>bb ?_).imp (by omega)).imp (by omega)
  unfold dfW;simp only[app];omega
 ·refine(au (d:=1) (e:=dfW d) lin_def fun c=>bb ?_).imp (by omega)
  unfold dfW;simp only[app];omega
theorem mu:∀(n:Nat) (d:Df) (l:List ByteArray),Lin (dfW d) (fun x=>dfW x.1) (cr ex n d l)
 |0,d,l=>bb (Nat.le_refl _)
 |n+1,d,l=>fun s=>by
  show dfW (cr ex (n+1) d l s).1.1+_≤_
  rw[mm]
  split
  ·next hs=>
   have f:=cm_wsm hs
   have a:=pV hr d l s.next
   have b:=mu n (elemP ex d l s.next).1.1 (elemP ex d l s.next).1.2 (elemP ex d l s.next).2
   simp only at a b
   omega
  ·show dfW d+2*wsm s.r≤_
   omega
theorem lin_elems:Lin 4 (fun x=>dfW x.1) (dv ex):=fun s=>by
 have b:=pV hr ⟨[],[],[],[]⟩ [] s
 have f:=mu hr (s.r.length+1) (elemP ex ⟨[],[],[],[]⟩ [] s).1.1 (elemP ex ⟨[],[],[],[]⟩ [] s).1.2 (elemP ex ⟨[],[],[],[]⟩ [] s).2
 show dfW (cr ex (s.r.length+1) _ _ _).1.1+2*wsm (cr ex (s.r.length+1) (elemP ex ⟨[],[],[],[]⟩ [] s).1.1 (elemP ex ⟨[],[],[],[]⟩ [] s).1.2 (elemP ex ⟨[],[],[],[]⟩ [] s).2).2.r≤_
 have a:dfW ⟨[],[],[],[]⟩=0:=rfl
 simp only[a]at b f
 omega
theorem iJ:∀(n:Nat) (l:List Src) (c:List Ex),Lin (sumB bkF l) (fun x=>sumB bkF x.1) (fromGo ex n l c)
 |0,l,c=>bb (Nat.le_refl _)
 |n+1,l,c=>fun s=>by
  have app:∀x:Src,sumB bkF (l++ [x])=sumB bkF l+bkF x:=fun x=>by rw[j7,sumB,sumB];rfl
  show sumB bkF (fromGo ex (n+1) l c s).1.1+_≤_
  rw[mo]
  split
  ·next hs=>
   have f:=cm_wsm hs
   have g:=oz s.next
   have b:=iJ n (l++ [(srcP s.next).1]) c (srcP s.next).2
   simp only[app]at b
   omega
  split
  ·next hs=>
   have f:wsm s.r=wsm s.next.r+5:=by
    obtain⟨_,a,l,f,_,g,b⟩:=cu hs
    have h:a.text.length=4:=by
     have:=congrArg ByteArray.size g
     simpa[tkB,ByteArray.size] using this
    rw[f,b,wsm,h]
    show 4+1+wsm l=wsm l+5
    omega
   have g:=oz s.next
   have h:=kO (sfx_need kON (srcP s.next).2)
   have i:=kO (hr.sfx (needP kON (srcP s.next).2))
   have b:=iJ n (l++ [(srcP s.next).1]) (c++ [(ex (needP kON (srcP s.next).2)).1]) (ex (needP kON (srcP s.next).2)).2
   simp only[app]at b
   omega
  ·show sumB bkF l+2*wsm s.r≤_
   omega
theorem lin_from:Lin 3 (fun x=>sumB bkF x.1) (fromP ex):=fun s=>by
 have b:=oz s
 have a:=iJ hr (s.r.length+1) [(srcP s).1] [] (srcP s).2
 show sumB bkF (fromGo ex (s.r.length+1) _ [] _).1.1+2*wsm (fromGo ex (s.r.length+1) [(srcP s).1] [] (srcP s).2).2.r≤_
 simp only[sumB]at a
 omega
end
def St.cst (s:St):Nat:=s.tb.size+(sumB eW s.cols+sumB bkK s.keys+sumB gj s.frs+s.chk.length)+sumB (fun l:List Ex=>l.length+1) s.vals+sumB (fun x:Asg=>x.cl.size+2) s.sets+2*s.itms.length+sumB bkF s.frm+1+s.grp.length+s.ord.length+s.nm.size
theorem jy {α:Type} (l:List α):sumB (fun _=>1) l=l.length:=by
 induction l with
 |nil=>rfl
 |cons x l ih=>rw[sumB,ih,List.length_cons];omega
theorem pW {α:Type} (l:List α):sumB (fun _=>2) l=2*l.length:=by
 induction l with
 |nil=>rfl
 |cons x l ih=>rw[sumB,ih,List.length_cons];omega
section
variable {ex:M Ex} (hr:Rdy ex)
include hr
theorem pX:Rdy (whrP ex):=cy _ hr (bg _)
theorem rdy_itm':Rdy (fX ex):=by
 unfold fX itm1
 exact rdy_fst _ (fun o=>aQ (bT _) fun _=>by split;exact cy _ (aQ (bT _) fun _=>bg _) (aQ hr fun _=>aQ (bT _) fun _=>bg _);exact aQ hr fun _=>aQ (bT _) fun _=>bg _) (aQ hr fun _=>bg _)
theorem qV:Lin 10 St.cst (createP ex):=by
 unfold createP
 refine(au (d:=0) (e:=10) (aR _) fun _=> (au (d:=1) (e:=9) (dm 1 (by omega)) fun t=> (au (d:=0) (e:=bkS t+9) (aR _) fun _=> (au (d:=4) (e:=bkS t+5) (lin_elems hr) fun x=> (au (d:=0) (e:=dfW x.1+(bkS t+5)) (aR _) fun _=>bb ?_).imp (by omega)).imp (by omega)).imp (by omega)).imp (by omega)).imp (by omega)
 unfold St.cst dfW bkS stZ
 simp only[sumB,List.length_nil]
 have:sumB eW (x.1.cols.map (nnC x.2))=sumB eW x.1.cols:=by
  induction x.1.cols with
  |nil=>rfl
  |cons c l ih=>rw[List.map_cons,sumB,sumB,ih];rfl
 rw[this]
 show t.size+_+0+0+2*0+0+1+0+0+0≤_
 omega
theorem qW:Lin 10 St.cst (fu ex):=by
 unfold fu
 have a:Lin 2 (fun l:List Ex=>l.length+1) (tupP ex):=by
  unfold tupP
  refine(au (d:=0) (e:=2) (aR _) fun _=> (au (d:=1) (e:=1) (μ:=sumB fun _=>1) (eD (cR hr fun _=>Nat.le_refl _) (by omega)) fun l=> (au (d:=0) (e:=sumB (fun _=>1) l+1) (aR _) fun _=>bb ?_).imp (by omega)).imp (by omega)).imp (by omega)
  rw[jy]
  omega
 refine(au (d:=0) (e:=10) (aR _) fun _=> (au (d:=1) (e:=9) (dm 1 (by omega)) fun t=> (au (d:=0) (e:=bkS t+9) (aR _) fun _=> (au (d:=2) (e:=bkS t+7) (eD a (by omega)) fun v=>bb ?_).imp (by omega)).imp (by omega)).imp (by omega)).imp (by omega)
 unfold St.cst bkS stZ
 simp only[sumB,List.length_nil]
 show t.size+0+_+0+2*0+0+1+0+0+0≤_
 omega
theorem qX:Lin 10 St.cst (fv ex):=by
 unfold fv
 have a:Lin 2 (fun x:Asg=>x.cl.size+2) (asgP ex):=by
  unfold asgP
  refine(au (d:=1) (e:=1) (dm 1 (by omega)) fun t=> (au (d:=0) (e:=bkS t+1) (aR _) fun _=> (au (d:=0) (e:=bkS t+1) (μ:=fun _=>0) (cR hr fun _=>Nat.le_refl _) fun e=>bb ?_).imp (by omega)).imp (by omega)).imp (by omega)
  unfold bkS
  simp only
  omega
 refine(au (d:=1) (e:=9) (dm 1 (by omega)) fun t=> (au (d:=0) (e:=bkS t+9) (aR _) fun _=> (au (d:=2) (e:=bkS t+7) (eD a (by omega)) fun v=> (au (d:=0) (e:=sumB (fun x:Asg=>x.cl.size+2) v+(bkS t+7)) (μ:=fun _=>0) (cR (pX hr) fun _=>Nat.le_refl _) fun w=>bb ?_).imp (by omega)).imp (by omega)).imp (by omega)).imp (by omega)
 unfold St.cst bkS stZ
 simp only[sumB,List.length_nil]
 show t.size+0+0+_+2*0+0+1+0+0+0≤_
 omega
theorem qY:Lin 10 St.cst (fx ex):=by
 unfold fx
 refine(au (d:=0) (e:=10) (aR _) fun _=> (au (d:=1) (e:=9) (dm 1 (by omega)) fun t=> (au (d:=0) (e:=bkS t+9) (μ:=fun _=>0) (cR (pX hr) fun _=>Nat.le_refl _) fun w=>bb ?_).imp (by omega)).imp (by omega)).imp (by omega)
 unfold St.cst bkS stZ
 simp only[sumB,List.length_nil]
 show t.size+0+0+0+2*0+0+1+0+0+0≤_
 omega
theorem lin_query (k:List Ex→Ex):Lin 10 St.cst (queryP ex posP k):=by
 unfold queryP
 have hi:Lin 2 (fun l:List Itm=>2*l.length) (itmsP ex):=by
  refine bQ _ (bb (by simp)) fun s=>?_
  have:=eD (d:=2) (μ:=fun _:Itm=>2) (cR (rdy_itm' hr) fun _=>Nat.le_refl _) (by omega) s
  rw[pW]at this
  exact this
 have j:Lin 1 (fun l:List Ex=>l.length) grpP:=by
  refine bQ _ ((au (d:=0) (e:=1) (aR _) fun _=>fun s=>?_).imp (by omega)) (bb (by simp))
  have:=eD (d:=1) (μ:=fun _:Ex=>1) (cR rdy_col fun _=>Nat.le_refl _) (by omega) s
  rw[jy]at this
  omega
 have h:Rdy (hU posP):=aQ nS fun _=>cy _ (bg _) (cy _ (bg _) (bg _))
 have m:Lin 1 (fun l:List Ord'=>l.length) (fW posP):=by
  refine bQ _ ((au (d:=0) (e:=1) (aR _) fun _=>fun s=>?_).imp (by omega)) (bb (by simp))
  have:=eD (d:=1) (μ:=fun _:Ord'=>1) (cR h fun _=>Nat.le_refl _) (by omega) s
  rw[jy]at this
  omega
 have a:∀c:List Ex,Rdy (fM ex k c):=fun c=>cy _ (aQ hr fun _=>bg _) (bg _)
 have b:Rdy (limP posP):=cy _ nS (bg _)
 refine(au (d:=2) (e:=8) hi fun i=> (au (d:=0) (e:=2*i.length+8) (aR _) fun _=> (au (d:=3) (e:=2*i.length+5) (lin_from hr) fun f=>?_).imp (by omega)).imp (by omega)).imp (by omega)
 refine(au (d:=0) (e:=sumB bkF f.1+(2*i.length+5)) (μ:=fun _=>0) (cR (a f.2) fun _=>Nat.le_refl _) fun w=>?_).imp (by omega)
 refine(au (d:=1) (e:=sumB bkF f.1+(2*i.length+4)) j fun g=>?_).imp (by omega)
 refine(au (d:=1) (e:=g.length+(sumB bkF f.1+(2*i.length+3))) m fun o=>?_).imp (by omega)
 refine(au (d:=0) (e:=o.length+(g.length+(sumB bkF f.1+(2*i.length+3)))) (μ:=fun _=>0) (cR b fun _=>Nat.le_refl _) fun l=>bb ?_).imp (by omega)
 unfold St.cst stZ
 simp only[sumB,List.length_nil]
 show 0+0+0+0+_+_+1+_+_+0≤_
 omega
theorem lin_stmt (k:List Ex→Ex):Lin 10 St.cst (fN ex posP k ic):=by
 have nm:∀j:Int,Lin 10 St.cst (nmP j):=fun j=>by
  refine(au (d:=1) (e:=9) (dm 1 (by omega)) fun a=>bb ?_).imp (by omega)
  unfold St.cst bkS stZ
  simp only[sumB,List.length_nil]
  show 0+0+0+0+2*0+0+1+0+0+a.size≤_
  omega
 have one:∀j:Int,Lin 10 St.cst (aY { stZ with kd:=j }):=fun j=>bb (by show 0+0+0+0+2*0+0+1+0+0+0≤_;omega)
 unfold fN
 refine bQ _ (qV hr) (bQ _ (qW hr) (bQ _ (qX hr) (bQ _ (qY hr) (bQ _ (lin_query hr k) (bQ _ (one 6) (bQ _ (one 7) (bQ _ (bQ _ (nm 10) (one 8)) (bQ _ (nm 9) (bQ _ (nm 11) ?_)))))))))
 intro s
 show 0+0+0+0+2*0+0+1+0+0+0+2*wsm s.r≤_
 omega
end
theorem tok_xn (c:UInt8) (r:List UInt8) (k:Nat) (x:List UInt8) (n:Nat) (h:Lx.tokL (c::r)= .tok k x n):x.length≤n:=by
 rw[Lx.tokL]at h
 split at h
 ·unfold Lx.wordL at h
  split at h
  ·cases h;rw[List.length_map,List.length_take];omega
  ·split at h
   ·cases h
   ·cases h;rw[List.length_map,List.length_take];omega
 split at h
 ·unfold Lx.numL at h
  split at h
  ·cases h
  ·split at h
   ·cases h
   ·cases h;rw[List.length_take];omega
 split at h
 ·unfold Lx.textL at h
  cases a:Lx.litF r [] 1 with
  |none=>rw[a]at h;cases h
  |some q=>
   obtain⟨X,i⟩:=q
   have:=Lx.lit_bound r [] 1 X i a
   rw[a]at h
   simp only at h
   split at h
   ·cases h
   ·cases h;simp only[List.length_nil]at this;omega
 ·unfold Lx.symL at h
  split at h
  ·cases h
  ·cases h;rw[List.length_take];omega
theorem pY:∀(m:Nat) (l:List UInt8) (p:Nat) (L:List Tk),l.length≤m→Lx.T l p= .ok L→wsm L≤2*l.length+1
 |0,l,p,L,hl,h=>by
  obtain rfl:l= []:=List.eq_nil_of_length_eq_zero (by omega)
  rw[Lx.T_end [] p rfl]at h
  cases h
  exact Nat.le_refl _
 |m+1,l,p,L,hl,h=>by
  cases hd:l.drop (Lx.skipN false l)with
  |nil=>
   rw[Lx.T_end l p hd]at h
   cases h
   show 0+1+0≤_
   omega
  |cons c r=>
   have f:(c::r).length=l.length-Lx.skipN false l:=by rw[←hd,List.length_drop]
   cases a:Lx.tokL (c::r)with
   |bad e'=>rw[Lx.T_bad l p c r e' hd a]at h;cases h
   |tok k y n=>
    have i:=Lx.tok_bound c r k y n a
    have j:=tok_xn c r k y n a
    rw[Lx.T_tok l p c r k y n hd a]at h
    cases b:Lx.T ((c::r).drop n) (p+Lx.skipN false l+n)with
    |bad x' e'=>rw[b]at h;cases h
    |ok z=>
     rw[b]at h
     have g:((c::r).drop n).length=(c::r).length-n:=List.length_drop
     have o:=pY m _ _ z (by omega) b
     cases h
     show wsm (_::z)≤_
     rw[wsm]
     show y.length+1+_≤_
     omega
theorem wsm_all {s:ByteArray} {L:List Tk} (h:Lx.tokAll s= .ok L):wsm L≤32769:=by
 unfold Lx.tokAll at h
 split at h
 ·cases h
 ·have a:s.data.toList.length=s.size:=Array.length_toList
  have:=pY _ _ _ L (Nat.le_refl _) h
  omega
theorem flat_cst (l:List (List Ex)):l.flatten.length≤sumB (fun l:List Ex=>l.length+1) l:=by
 induction l with
 |nil=>exact Nat.le_refl _
 |cons a l ih=>rw[List.flatten_cons,List.length_append,sumB];omega
theorem all_cst (s:St):s.all.length≤s.cst:=by
 have a:=flat_cst s.vals
 have b:=bG (bk:=fun x:Asg=>x.cl.size+2) (fun _=>by omega) s.sets
 unfold St.all St.cst
 simp only[List.length_append,List.length_map,List.length_singleton]
 omega
theorem iK {l:List Ex} (h:l.all Ex.formed=true):sizeL l=nodesL l:=(gS h).symm
theorem kP {α:Type} {μ ν:α→Nat} :∀ {l:List α},(∀x∈l,μ x≤ν x)→sumB μ l≤sumB ν l
 | [],_=>Nat.le_refl _
 |x::l,h=>by
  rw[sumB,sumB]
  have:=h x List.mem_cons_self
  have:=kP (μ:=μ) (ν:=ν) (l:=l) fun y a=>h y (List.mem_cons_of_mem _ a)
  omega
theorem mv {α:Type} (μ ν:α→Nat) (l:List α):sumB (fun x=>μ x+ν x) l=sumB μ l+sumB ν l:=by
 induction l with
 |nil=>rfl
 |cons x l ih=>rw[sumB,sumB,sumB,ih];omega
theorem mw {α:Type} (f:α→Ex) (l:List α):sumB (fun x=> (f x).nodes) l=nodesL (l.map f):=by
 induction l with
 |nil=>rfl
 |cons x l ih=>rw[sumB,List.map_cons,nodesL,ih]
theorem sumB_flat (l:List (List Ex)):sumB nodesL l=nodesL l.flatten:=by
 induction l with
 |nil=>rfl
 |cons x l ih=>rw[sumB,List.flatten_cons,co,ih]
theorem bulk_cst {s:St} (h:s.formed=true):s.bulk≤s.cst+nodesL s.all:=by
 have L:=jt h
 have K:=bC h
 have b:∀ {e:Ex},e.formed=true∨e.absent=true→e.size≤e.nodes+1:=fun {e} f=>by
  rcases f with f|f
  ·rw[dQ e f];omega
  ·rw[ki f];omega
 have o:sizeL s.chk=nodesL s.chk:=by
  by_cases n:s.kd=1
  ·have:=K.2.1 n
   unfold St.defOk at this
   simp only[Bool.and_eq_true]at this
   exact iK this.2
  ·rw[K.2.2.1 n];rfl
 have p:sumB bkR s.vals≤sumB (fun l:List Ex=>l.length+1) s.vals+nodesL s.vals.flatten:=by
  rw[←sumB_flat,←mv]
  refine kP fun l m=>?_
  by_cases j:s.kd=2
  ·have:=List.all_eq_true.1 (K.2.2.2.1 j) l m
   unfold rowOk at this
   simp only[Bool.and_eq_true]at this
   unfold bkR
   rw[iK this.2]
   omega
  ·rw[L.vals j]at m;cases m
 have r:sumB bkA s.sets≤sumB (fun x:Asg=>x.cl.size+2) s.sets+nodesL (s.sets.map Asg.ex):=by
  rw[←mw,←mv]
  refine kP fun x i=>?_
  by_cases j:s.kd=3
  ·have:=List.all_eq_true.1 (K.2.2.2.2.2.1 j) x i
   unfold Asg.ok at this
   simp only[Bool.and_eq_true]at this
   have:=b (.inl this.2)
   unfold bkA
   omega
  ·rw[L.sets j]at i;cases i
 have t:sumB bkI s.itms≤2*s.itms.length+nodesL (s.itms.map Itm.ex):=by
  rw[←mw,←pW,←mv]
  refine kP fun x i=>?_
  by_cases k:s.kd=5
  ·have g:=K.2.2.2.2.2.2.2.1 k
   unfold St.qOk at g
   simp only[Bool.and_eq_true]at g
   have a:=List.all_eq_true.1 g.1.1.1.1.1 x i
   unfold Itm.ok at a
   have:x.ex.size≤x.ex.nodes+1:=by
    split at a
    ·exact b (.inr a)
    ·simp only[Bool.and_eq_true]at a;exact b (.inl a.2)
   unfold bkI
   omega
  ·rw[(L.sel k).1]at i;cases i
 have u:sizeL s.grp=nodesL s.grp:=by
  by_cases k:s.kd=5
  ·have g:=K.2.2.2.2.2.2.2.1 k
   unfold St.qOk at g
   simp only[Bool.and_eq_true]at g
   refine iK (List.all_eq_true.2 fun e f=>?_)
   have:=List.all_eq_true.1 g.1.1.2 e f
   unfold eo at this
   simp only[Bool.and_eq_true]at this
   exact this.2
  ·rw[(L.sel k).2.2.1];rfl
 have w:sumB bkO s.ord=s.ord.length:=jy s.ord
 have y:=b (et h).symm
 unfold St.bulk St.cst St.all
 simp only[co]
 show _≤_+(_+(s.whr.nodes+0))
 omega
end
def aw1:ByteArray:=⟨#[97,32,78,79,84,32,73,78,32,40,49,44,32,50,41]⟩
def aw2:ByteArray:=⟨#[83,69,76,69,67,84,32,42,32,70,82,79,77,32,116,44,32,117,32,74,79,73,78,32,118,32,79,78,32,116,46,97,32,61,32,118,46,97,32,87,72,69,82,69,32,98,32,62,32,48]⟩
def aw3:ByteArray:=⟨#[68,69,76,69,84,69,32,116]⟩
def aw4:ByteArray:=⟨#[97,32,61,32,98,32,61,32,99]⟩
def aw5:ByteArray:=⟨#[66,69,71,73,78,59,32,67,79,77,77,73,84,59]⟩
theorem aw_1:(parE validE aw1).2=(0,0):=by kernel_rfl
theorem aw_1t:textE (parE validE aw1).1=⟨#[78,79,84,32,40,97,32,61,32,49,32,79,82,32,97,32,61,32,50,41]⟩:=by kernel_rfl
theorem aw_2:(parS validS aw2).2=(0,0):=by kernel_rfl
theorem aw_2f:(parS validS aw2).1.frm.length=3:=by kernel_rfl
theorem aw_2t:textE (parS validS aw2).1.whr=⟨#[116,46,97,32,61,32,118,46,97,32,65,78,68,32,98,32,62,32,48]⟩:=by kernel_rfl
theorem aw_3:(parS validS aw3).2=(7,2):=by kernel_rfl
theorem aw_4:(parE validE aw4).2=(6,2):=by kernel_rfl
theorem aw_5:(parL validS aw5).2=(0,0):=by kernel_rfl
theorem aw_5n:(parL validS aw5).1.length=2:=by kernel_rfl
end Go.Proofs.YtjigcpfjhfoheaaGreatDoor
