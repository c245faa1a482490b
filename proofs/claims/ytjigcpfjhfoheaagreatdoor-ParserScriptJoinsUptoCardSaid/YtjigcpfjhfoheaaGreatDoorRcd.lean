/- The parser reads the tokens of parts of statements; The parser reads the tokens of rows, assignments, sources, orders, bounds; The parser reads the tokens of the elements of definitions; The parser reads the tokens of a definition. -/
import Derived.Test.YtjigcpfjhfoheaaGreatDoorRcc
import Derived.Test.YtjigcpfjhfoheaaGreatDoorRcb
namespace Go.Proofs.YtjigcpfjhfoheaaGreatDoor
open Go.RowKit
set_option maxHeartbeats 1000000
set_option maxRecDepth 100000
set_option linter.unusedVariables false
set_option linter.unusedSimpArgs false
section
open Lx (Tk isDigit isLetter inWord spanN isPrint)
theorem gC {α:Type} {el:M α} (h:Fwd el):∀(n m:Nat) (o:List α) (s:Ps),s.r.length<n→s.r.length<m→listGo el n o s=listGo el m o s
 |0,_,_,s,h1,_=>absurd h1 (Nat.not_lt_zero _)
 |_+1,0,_,s,_,h2=>absurd h2 (Nat.not_lt_zero _)
 |n+1,m+1,o,s,h1,h2=>by
  rw[listGo,listGo]
  split
  ·next hi=>
   have a:=ay hi
   have b:=h s.next
   exact gC h n m _ _ (by omega) (by omega)
  ·rfl
def liC {α:Type} (el:M α) (o:List α) (s:Ps):List α×Ps:=listGo el (s.r.length+1) o s
theorem listP_C {α:Type} {el:M α} (h:Fwd el) (s:Ps):listP el s=liC el [(el s).1] (el s).2:=gC h _ _ _ _ (by have:=h s;omega) (Nat.lt_succ_self _)
theorem liC_step {α:Type} {el:M α} (h:Fwd el) {s:Ps} (hi:isS yCm s=true) (o:List α):liC el o s=liC el (o++ [(el s.next).1]) (el s.next).2:=by
 have a:=ay hi
 have b:=h s.next
 unfold liC
 rw[listGo,if_pos hi]
 exact gC h _ _ _ _ (by omega) (Nat.lt_succ_self _)
theorem liC_stop {α:Type} (el:M α) {s:Ps} (hi:isS yCm s=false) (o:List α):liC el o s=(o,s):=by
 unfold liC
 rw[listGo,hi,if_neg (by simp)]
def Reads' {α β:Type} (n:Nat) (el:M β) (tok:α→List Kt) (val:α→β) (Fol:Ps→Prop) (x:α):Prop:=∀(ts R:List Tk),ts.map er=tok x→ts.length<n→Fol ⟨R,false⟩→el ⟨ts++R,false⟩=(val x,⟨R,false⟩)
theorem dF {α β:Type} {n:Nat} {el:M β} (z:Fwd el) {tok:α→List Kt} {val:α→β} {Fol:Ps→Prop} (r:∀(a:Tk) (R:List Tk),er a=(5,[44])→Fol ⟨a::R,false⟩) {l:List α} (F:l≠[]) (g:∀x∈l,Reads' n el tok val Fol x)
  {ts R:List Tk} (j:ts.map er=cmK (l.map tok)) (G:ts.length<n) (D:Fol ⟨R,false⟩) (E:isS yCm ⟨R,false⟩=false):listP el ⟨ts++R,false⟩=(l.map val,⟨R,false⟩):=by
 have u:∀(l:List α) (o:List β) (ts:List Tk),(∀x∈l,Reads' n el tok val Fol x)→ts.map er=(l.map tok).flatMap (fun y=> (5,[44])::y)→ts.length<n→liC el o ⟨ts++R,false⟩=(o++l.map val,⟨R,false⟩)∧Fol ⟨ts++R,false⟩:=by
  intro l
  induction l with
  |nil=>
   intro o ts _ h _
   obtain rfl:=List.map_eq_nil_iff.1 h
   exact⟨by rw[List.nil_append,liC_stop el E];simp,D⟩
  |cons x l ih=>
   intro o ts A h i
   rw[List.map_cons,List.flatMap_cons]at h
   obtain⟨f,b,rfl,m,p⟩:=aZ h
   obtain⟨a,f,rfl,w,C⟩:=aj m
   simp only[List.length_append,List.length_cons]at i
   have e:a::f++b++R=a::(f++(b++R)):=by simp
   rw[e]
   refine⟨?_,r a _ w⟩
   have k:=ih (o++ [val x]) b (fun y t=>A y (List.mem_cons_of_mem _ t)) p (by omega)
   have s:=A x List.mem_cons_self f (b++R) C (by omega) k.2
   rw[liC_step z (cG (.inr rfl) yCm w _),next_at,s]
   simp only
   rw[k.1]
   simp
 cases l with
 |nil=>exact absurd rfl F
 |cons x l=>
  rw[List.map_cons,cmK]at j
  obtain⟨f,b,rfl,m,p⟩:=aZ j
  simp only[List.length_append]at G
  have k:=u l [val x] b (fun y t=>g y (List.mem_cons_of_mem _ t)) p (by omega)
  have s:=g x List.mem_cons_self f (b++R) m (by omega) k.2
  rw[listP_C z,List.append_assoc,s]
  simp only
  rw[k.1]
  simp
def F0 (s:Ps):Prop:=s.c=0
theorem f0_cm (a:Tk) (R:List Tk) (h:er a=(5,[44])):F0 ⟨a::R,false⟩:=by unfold F0;rw[j4 h];decide
theorem ex_reads {n:Nat} {e:Ex} (g:e.formed=true):Reads' n (exprP n) (fun e:Ex=>e.tk 1) Ex.st0 F0 e:=fun ts R a b f=>rd_expr g a b f
theorem nm_reads {n:Nat} (x:ByteArray):Reads' n (takP 1) (fun s=> [nmK s]) (fun s=>s) (fun _=>True) x:=fun ts R b _ _=>by
 obtain⟨a,rfl,e⟩:=aJ b
 rw[List.singleton_append,tak_at e,bS]
theorem names_read {l:List ByteArray} (h:namesB l=true) {ts R:List Tk} (f:ts.map er=nmsK l):namesP ⟨ts++R,false⟩=(l,⟨R,false⟩):=by
 unfold namesB at h
 simp only[Bool.and_eq_true]at h
 have p:l≠[]:=by
  rintro rfl
  simp at h
 obtain⟨a,b,rfl,o,i⟩:=aj f
 obtain⟨b,r,rfl,j,m⟩:=aZ i
 obtain⟨z,rfl,g⟩:=aJ m
 have k:=dF (n:=b.length+1) (fwd_tak 1) (tok:=fun s=> [nmK s]) (val:=fun s=>s) (Fol:=fun _=>True) (fun _ _ _=>trivial) p (fun x _=>nm_reads x) j (Nat.lt_succ_self _) (R:=z::R) trivial (by rw[isS_eq (.inr rfl) yCm g];decide)
 rw[List.map_id']at k
 show(listP (takP 1) (needP yLp ⟨a::(b++ [z])++R,false⟩)|>fun x=> (x.1,needP yRp x.2))=_
 have e:a::(b++ [z])++R=a::(b++z::R):=by simp
 rw[e,need_at (.inr rfl) yLp o,k]
 simp only
 rw[need_at (.inr rfl) yRp g]
end
section
open Lx (Tk isDigit isLetter inWord spanN isPrint)
theorem row_read {n:Nat} {l:List Ex} (h:rowOk l=true) {ts R:List Tk} (f:ts.map er=rowK l) (r:ts.length<n):tupP (exprP n) ⟨ts++R,false⟩=(l.map Ex.st0,⟨R,false⟩):=by
 unfold rowOk at h
 simp only[Bool.and_eq_true,decide_eq_true_eq,List.all_eq_true]at h
 have p:l≠[]:=List.length_pos_iff.1 h.1
 obtain⟨a,b,rfl,o,i⟩:=aj f
 obtain⟨b,t,rfl,j,m⟩:=aZ i
 obtain⟨z,rfl,g⟩:=aJ m
 simp only[List.length_cons,List.length_append,List.length_nil]at r
 have k:=dF (n:=n) (cK n) (tok:=fun e:Ex=>e.tk 1) (val:=Ex.st0) (Fol:=F0) f0_cm p (fun x s=>ex_reads (h.2 x s)) j (by omega) (R:=z::R) (by unfold F0;rw[j4 g];decide) (by rw[isS_eq (.inr rfl) yCm g];decide)
 show(listP (exprP n) (needP yLp ⟨a::(b++ [z])++R,false⟩)|>fun x=> (x.1,needP yRp x.2))=_
 have e:a::(b++ [z])++R=a::(b++z::R):=by simp
 rw[e,need_at (.inr rfl) yLp o,k]
 simp only
 rw[need_at (.inr rfl) yRp g]
def Asg.st0 (x:Asg):Asg:=⟨x.cl,0,x.ex.st0⟩
theorem asg_read {n:Nat} {x:Asg} (h:x.ok=true):Reads' n (asgP (exprP n)) Asg.tk Asg.st0 F0 x:=fun ts R f o j=>by
 unfold Asg.ok at h
 simp only[Bool.and_eq_true]at h
 obtain⟨a,r,rfl,l,g⟩:=aj f
 obtain⟨b,p,rfl,m,i⟩:=aj g
 simp only[List.length_cons]at o
 have k:=rd_expr (n:=n) h.2 i (by omega) j
 show(fun t:ByteArray×Ps=> (fun e:Ex×Ps=> ((⟨t.1,0,e.1⟩:Asg),e.2)) (exprP n (needP yEq t.2))) (takP 1 ⟨a::b::p++R,false⟩)=_
 rw[List.cons_append,tak_at l]
 simp only
 rw[List.cons_append,need_at (.inr rfl) yEq m,k,bS]
 rfl
theorem pO {n:Nat} {x:Src} (h:x.ok=true):Reads' n srcP Src.tk (fun x=>x) (fun s=>isS kAS s=false) x:=fun ts R e p k=>by
 unfold Src.tk at e
 have f:∀s:Ps,srcP s=(fun t:ByteArray×Ps=>if isS kAS t.2=true then ((⟨t.1,(takP 1 t.2.next).1⟩:Src),(takP 1 t.2.next).2)else (⟨t.1,⟨#[]⟩⟩,t.2)) (takP 1 s):=fun s=>by
  unfold srcP aA ifM aY
  rfl
 rw[f]
 split at e
 ·next ha=>
  obtain⟨a,rfl,g⟩:=aJ e
  rw[List.singleton_append,tak_at g]
  simp only
  rw[k,if_neg (by simp),bS]
  obtain⟨tb,al⟩:=x
  rw[cY (s:=al) ha]
 ·obtain⟨a,o,rfl,g,i⟩:=aj e
  obtain⟨b,o,rfl,l,j⟩:=aj i
  obtain⟨c,rfl,m⟩:=aJ j
  rw[List.cons_append,tak_at g]
  simp only
  rw[List.cons_append,isS_eq (.inl rfl) kAS l,if_pos (by decide),next_at,List.singleton_append,tak_at m]
theorem num_read {n:Int} (h:0≤n) {a:Tk} (b:er a=numK n) (R:List Tk):numP ⟨a::R,false⟩=(n,⟨R,false⟩):=by
 unfold numP
 rw[tak_at (k:=3) (x:=(itoB n).data.toList) b]
 simp only
 rw[bS,mj h]
theorem pos_read {n:Int} (h:1≤n) {a:Tk} (b:er a=numK n) (R:List Tk):posP ⟨a::R,false⟩=(n,⟨R,false⟩):=by
 unfold posP
 rw[tkB_at (k:=3) (x:=(itoB n).data.toList) b,bS,mj (by omega),if_neg,num_read (by omega) b]
 simp
 omega
theorem ord_read {n:Nat} {x:Ord'} (h:x.ok=true):Reads' n (hU posP) Ord'.tk (fun x=>x) (fun s=>isS kASC s=false∧isS kZ s=false) x:=fun ts R g l i=>by
 unfold Ord'.ok at h
 rw[ch]at h
 unfold Ord'.tk at g
 have f:∀s:Ps,hU posP s=(fun t:Int×Ps=>if isS kASC t.2=true then ((⟨t.1,false⟩:Ord'),t.2.next)else if isS kZ t.2=true then (⟨t.1,true⟩,t.2.next)else (⟨t.1,false⟩,t.2)) (posP s):=fun s=>by
  unfold hU aA ifM aY
  rfl
 rw[f]
 obtain⟨it,ds⟩:=x
 obtain⟨a,m,rfl,k,e⟩:=aj g
 rw[List.cons_append,pos_read h.1 k]
 simp only at e ⊢
 cases ds with
 |true=>
  rw[if_pos rfl]at e
  obtain⟨b,rfl,j⟩:=aJ e
  rw[List.singleton_append,isS_eq (.inl rfl) kASC j,isS_eq (.inl rfl) kZ j,if_neg (by decide),if_pos (by decide)]
  rfl
 |false=>
  rw[if_neg (by simp)]at e
  obtain rfl:=List.map_eq_nil_iff.1 e
  rw[List.nil_append,i.1,i.2,if_neg (by simp),if_neg (by simp)]
theorem bnd_read {n:Int} {ts R:List Tk} (e:ts.map er=bndK n):fd ⟨ts++R,false⟩=(n,⟨R,false⟩):=by
 unfold bndK at e
 have f:∀s:Ps,fd s=if isS du s=true then (-(numP s.next).1,(numP s.next).2)else numP s:=fun s=>rfl
 rw[f]
 split at e
 ·next hn=>
  obtain⟨a,l,rfl,g,i⟩:=aj e
  obtain⟨b,rfl,j⟩:=aJ i
  rw[List.cons_append,isS_eq (.inr rfl) du g,if_pos (by decide),next_at,List.singleton_append,num_read (by omega) j]
  simp
 ·obtain⟨a,rfl,g⟩:=aJ e
  rw[List.singleton_append,dR (k:=3) (x:=(itoB n).data.toList) du g (.inl (by omega)) R,if_neg (by simp),num_read (by omega) g]
end
section
open Lx (Tk isDigit isLetter inWord spanN isPrint)
theorem typ_int (s:Ps) (h:isS dG s=true) (e:isS yLp s.next=true):typP s=(fun a:Int×Ps=> (fun b:Int×Ps=> ((1,a.1,b.1,0),needP yRp b.2)) (fd (needP yCm a.2))) (fd s.next.next):=by
 unfold typP
 show(if isS dG s=true then _ else _)=_
 rw[if_pos h]
 show(if isS yLp s.next=true then _ else _)=_
 rw[if_pos e]
 rfl
theorem typ_text (s:Ps) (h:isS dG s=false) (b:isS yLp (needP mQ s)=true):typP s=(fun a:Int×Ps=> ((2,0,0,a.1),needP yRp a.2)) (numP (needP mQ s).next):=by
 unfold typP
 show(if isS dG s=true then _ else _)=_
 rw[h,if_neg (by simp)]
 show(if isS yLp (needP mQ s)=true then _ else _)=_
 rw[if_pos b]
 rfl
theorem def_eq (s:Ps):fQ s=(fun a:ByteArray×Ps=> (fun t:(Int×Int×Int×Int)×Ps=>if isS kNOT t.2=true then ((⟨a.1,t.1.1,t.1.2.1,t.1.2.2.1,t.1.2.2.2,true⟩:Cd),needP kNULL t.2.next)else (⟨a.1,t.1.1,t.1.2.1,t.1.2.2.1,t.1.2.2.2,false⟩,t.2)) (typP a.2)) (takP 1 s):=rfl
theorem cd_read {n:Nat} {x:Cd} (h:x.ok=true):Reads' n fQ Cd.tk (fun x=>x) (fun s=>isS kNOT s=false) x:=fun ts R p J F=>by
 obtain⟨nm,ty,lo,hi,mx,nn⟩:=x
 rw[def_eq]
 unfold Cd.tk at p
 obtain⟨a,g,rfl,H,C⟩:=aj p
 obtain⟨g,i,rfl,f,k⟩:=aZ C
 have y:∀ {T:Int×Int×Int×Int},T=(ty,lo,hi,mx)→(fun t:(Int×Int×Int×Int)×Ps=>if isS kNOT t.2=true then ((⟨nm,t.1.1,t.1.2.1,t.1.2.2.1,t.1.2.2.2,true⟩:Cd),needP kNULL t.2.next)else (⟨nm,t.1.1,t.1.2.1,t.1.2.2.1,t.1.2.2.2,false⟩,t.2)) (T,⟨i++R,false⟩)=(⟨nm,ty,lo,hi,mx,nn⟩,⟨R,false⟩):=fun {T} G=>by
  subst G
  simp only at k ⊢
  cases nn with
  |true=>
   rw[if_pos rfl]at k
   obtain⟨b,K,rfl,j,D⟩:=aj k
   obtain⟨c,rfl,l⟩:=aJ D
   rw[List.cons_append,isS_eq (.inl rfl) kNOT j,if_pos (by decide),next_at,List.singleton_append,need_at (.inl rfl) kNULL l]
  |false=>
   rw[if_neg (by simp)]at k
   obtain rfl:=List.map_eq_nil_iff.1 k
   rw[List.nil_append,F,if_neg (by simp)]
 have e:a::(g++i)++R=a::(g++(i++R)):=by simp
 rw[e,tak_at H,bS]
 simp only
 unfold Cd.ok at h
 simp only at h f
 by_cases u:ty=1
 ·subst u
  rw[if_pos (by rfl)]at h
  rw[if_pos rfl]at f
  simp only[Bool.and_eq_true,beq_iff_eq]at h
  obtain⟨_,rfl⟩:=h
  obtain⟨b,g,rfl,j,f⟩:=aj f
  obtain⟨c,g,rfl,l,f⟩:=aj f
  obtain⟨ls,g,rfl,m,f⟩:=aZ f
  obtain⟨d,g,rfl,hd,f⟩:=aj f
  obtain⟨A,g,rfl,I,f⟩:=aZ f
  obtain⟨z,rfl,w⟩:=aJ f
  have r:b::c::(ls++d::(A++ [z]))++(i++R)=b::c::(ls++d::(A++z::(i++R))):=by simp
  rw[r,typ_int _ (cG (.inl rfl) dG j _) (cG (.inr rfl) yLp l _),next_at,next_at,bnd_read m]
  simp only
  rw[need_at (.inr rfl) yCm hd,bnd_read I]
  simp only
  rw[need_at (.inr rfl) yRp w]
  exact y rfl
 ·rw[if_neg (by simpa using u)]at h
  rw[if_neg u]at f
  simp only[Bool.and_eq_true,beq_iff_eq,ch]at h
  obtain⟨⟨⟨⟨rfl,_⟩,rfl⟩,rfl⟩,E⟩:=h
  obtain⟨b,g,rfl,j,f⟩:=aj f
  obtain⟨c,g,rfl,l,f⟩:=aj f
  obtain⟨ls,g,rfl,m,f⟩:=aZ f
  obtain⟨z,rfl,w⟩:=aJ f
  unfold bndK at m
  rw[if_neg (by omega)]at m
  obtain⟨d,rfl,hd⟩:=aJ m
  have r:b::c::([d]++ [z])++(i++R)=b::c::d::z::(i++R):=by simp
  have o:=need_at (.inl rfl) mQ j (c::d::z::(i++R))
  rw[r,typ_text _ (by rw[isS_eq (.inl rfl) dG j];decide) (by rw[o];exact cG (.inr rfl) yLp l _),o,next_at,num_read E.1 hd]
  simp only
  rw[need_at (.inr rfl) yRp w]
  exact y rfl
theorem rf_read {x:Rf} (h:x.ok=true) {ts R:List Tk} (j:ts.map er=nmsK x.cs++(2,[82,69,70,69,82,69,78,67,69,83])::nmK x.tb::nmsK x.tg):refP ⟨ts++R,false⟩=(x,⟨R,false⟩):=by
 unfold Rf.ok at h
 simp only[Bool.and_eq_true]at h
 have g:∀s:Ps,refP s=(fun a:List ByteArray×Ps=> (fun t:ByteArray×Ps=> (fun b:List ByteArray×Ps=> ((⟨a.1,t.1,b.1⟩:Rf),b.2)) (namesP t.2)) (takP 1 (needP kREFERENCES a.2))) (namesP s):=fun s=>rfl
 obtain⟨k,i,rfl,l,f⟩:=aZ j
 obtain⟨b,i,rfl,m,f⟩:=aj f
 obtain⟨c,i,rfl,n,f⟩:=aj f
 have e:k++b::c::i++R=k++b::c::(i++R):=by simp
 rw[g,e,names_read h.1.1 l]
 simp only
 rw[need_at (.inl rfl) kREFERENCES m,tak_at n]
 simp only
 rw[names_read h.2 f,bS]
end
section
open Lx (Tk isDigit isLetter inWord spanN isPrint)
inductive El where
 |col (c:Cd)
 |key (k:List ByteArray)
 |frn (f:Rf)
 |chk (e:Ex)
def El.tk:El→List Kt
 | .col c=>c.tk
 | .key k=>keyK k
 | .frn f=>f.tk
 | .chk e=>chkK e
def El.ok:El→Bool
 | .col c=>c.ok
 | .key k=>namesB k
 | .frn f=>f.ok
 | .chk e=>e.formed
def El.put (d:Df):El→Df
 | .col c=> { d with cols:=d.cols++ [c] }
 | .key k=> { d with keys:=d.keys++ [k] }
 | .frn f=> { d with frs:=d.frs++ [f] }
 | .chk e=> { d with chk:=d.chk++ [e.st0] }
theorem elem_eq (ex:M Ex) (d:Df) (l:List ByteArray) (s:Ps):elemP ex d l s=if isS ei s=true then (({ d with keys:=d.keys++ [(namesP (needP kKEY s.next)).1] },l++(namesP (needP kKEY s.next)).1),(namesP (needP kKEY s.next)).2)
  else if isS ft s=true then (({ d with keys:=d.keys++ [(namesP s.next).1] },l),(namesP s.next).2)
  else if isS jD s=true then (({ d with chk:=d.chk++ [(ex (needP yLp s.next)).1] },l),needP yRp (ex (needP yLp s.next)).2)
  else if isS fV s=true then (({ d with frs:=d.frs++ [(refP (needP kKEY s.next)).1] },l),(refP (needP kKEY s.next)).2)
  else (({ d with cols:=d.cols++ [(fQ s).1] },l),(fQ s).2):=rfl
theorem el_read {n:Nat} {x:El} (h:x.ok=true) (d:Df) (l:List ByteArray) {ts R:List Tk} (j:ts.map er=x.tk) (s:ts.length<n) (D:isS kNOT ⟨R,false⟩=false):elemP (exprP n) d l ⟨ts++R,false⟩=((x.put d,l),⟨R,false⟩):=by
 rw[elem_eq]
 cases x with
 |col c=>
  have y:∃a i,ts=a::i∧er a=nmK c.nm:=by
   obtain⟨a,i,e,m,_⟩:=aj (show ts.map er=nmK c.nm::_ from j)
   exact⟨a,i,e,m⟩
  have k:=cd_read (n:=n) h ts R j s D
  obtain⟨a,i,rfl,g⟩:=y
  have o:∀t,isS t ⟨a::i++R,false⟩=false:=fun t=>dR (k:=1) (x:=c.nm.data.toList) t g (.inl (by omega)) _
  rw[o,o,o,o,if_neg (by simp),if_neg (by simp),if_neg (by simp),if_neg (by simp),k]
  rfl
 |key k=>
  obtain⟨a,i,rfl,g,m⟩:=aj (show ts.map er=(2,[85,78,73,81,85,69])::nmsK k from j)
  rw[List.cons_append,isS_eq (.inl rfl) ei g,isS_eq (.inl rfl) ft g,if_neg (by decide),if_pos (by decide),next_at,names_read h m]
  rfl
 |frn f=>
  obtain⟨a,i,rfl,g,m⟩:=aj (show ts.map er=(2,[70,79,82,69,73,71,78])::(2,[75,69,89])::_ from j)
  obtain⟨b,i,rfl,r,p⟩:=aj m
  rw[List.cons_append,List.cons_append,isS_eq (.inl rfl) ei g,isS_eq (.inl rfl) ft g,isS_eq (.inl rfl) jD g,isS_eq (.inl rfl) fV g,if_neg (by decide),if_neg (by decide),if_neg (by decide),if_pos (by decide),next_at,need_at (.inl rfl) kKEY r,rf_read h p]
  rfl
 |chk e=>
  obtain⟨a,i,rfl,g,m⟩:=aj (show ts.map er=(2,[67,72,69,67,75])::(5,[40])::(e.tk 1++ [(5,[41])]) from j)
  obtain⟨b,i,rfl,r,p⟩:=aj m
  obtain⟨i,E,rfl,A,C⟩:=aZ p
  obtain⟨z,rfl,u⟩:=aJ C
  simp only[List.length_cons,List.length_append,List.length_nil]at s
  have w:a::b::(i++ [z])++R=a::b::(i++z::R):=by simp
  have k:=rd_expr (n:=n) h A (by omega) (R:=z::R) (by rw[j4 u];decide)
  rw[w,isS_eq (.inl rfl) ei g,isS_eq (.inl rfl) ft g,isS_eq (.inl rfl) jD g,if_neg (by decide),if_neg (by decide),if_pos (by decide),next_at,need_at (.inr rfl) yLp r,k]
  simp only
  rw[need_at (.inr rfl) yRp u]
  rfl
end
section
open Lx (Tk isDigit isLetter inWord spanN isPrint)
theorem mm (ex:M Ex) (m:Nat) (d:Df) (l:List ByteArray) (st:Ps):cr ex (m+1) d l st=if isS yCm st=true then cr ex m (elemP ex d l st.next).1.1 (elemP ex d l st.next).1.2 (elemP ex d l st.next).2 else ((d,l),st):=rfl
theorem els_eq (ex:M Ex) (s:Ps):dv ex s=cr ex (s.r.length+1) (elemP ex ⟨[],[],[],[]⟩ [] s).1.1 (elemP ex ⟨[],[],[],[]⟩ [] s).1.2 (elemP ex ⟨[],[],[],[]⟩ [] s).2:=rfl
theorem els_go {n:Nat} {R:List Tk} (j:isS yCm ⟨R,false⟩=false) (l:isS kNOT ⟨R,false⟩=false):∀(b:List El) (m:Nat) (d:Df) (ts:List Tk),(∀x∈b,x.ok=true)→ts.map er=(b.map El.tk).flatMap (fun y=> (5,[44])::y)→ts.length<n→ts.length<m→
  cr (exprP n) m d [] ⟨ts++R,false⟩=((b.foldl El.put d,[]),⟨R,false⟩)∧isS kNOT ⟨ts++R,false⟩=false
 |_,0,_,_,_,_,_,h=>absurd h (Nat.not_lt_zero _)
 | [],m+1,d,ts,_,h,_,_=>by
  obtain rfl:=List.map_eq_nil_iff.1 h
  rw[List.nil_append,mm,j,if_neg (by simp)]
  exact⟨rfl,l⟩
 |x::b,m+1,d,ts,hx,h,hn,hm=>by
  rw[List.map_cons,List.flatMap_cons]at h
  obtain⟨f,g,rfl,o,p⟩:=aZ h
  obtain⟨a,f,rfl,i,r⟩:=aj o
  simp only[List.length_append,List.length_cons]at hn hm
  have e:a::f++g++R=a::(f++(g++R)):=by simp
  have k:=els_go (n:=n) j l b m (x.put d) g (fun y t=>hx y (List.mem_cons_of_mem _ t)) p (by omega) (by omega)
  have s:f.length<n:=by omega
  have u:=el_read (n:=n) (hx x List.mem_cons_self) d [] r s (R:=g++R) k.2
  rw[e,mm,cG (.inr rfl) yCm i,if_pos rfl,next_at,u]
  exact⟨k.1,by rw[isS_eq (.inr rfl) kNOT i];decide⟩
theorem els_read {n:Nat} {a:List El} (i:a≠[]) (j:∀x∈a,x.ok=true) {ts R:List Tk} (b:ts.map er=cmK (a.map El.tk)) (r:ts.length<n) (o:isS yCm ⟨R,false⟩=false) (p:isS kNOT ⟨R,false⟩=false):
  dv (exprP n) ⟨ts++R,false⟩=((a.foldl El.put ⟨[],[],[],[]⟩,[]),⟨R,false⟩):=by
 cases a with
 |nil=>exact absurd rfl i
 |cons x a=>
  rw[List.map_cons,cmK]at b
  obtain⟨g,f,rfl,l,m⟩:=aZ b
  simp only[List.length_append]at r
  have k:=els_go (n:=n) o p a ((g++f++R).length+1) (x.put ⟨[],[],[],[]⟩) f (fun y t=>j y (List.mem_cons_of_mem _ t)) m (by omega) (by simp;omega)
  have s:g.length<n:=by omega
  have u:=el_read (n:=n) (j x List.mem_cons_self) ⟨[],[],[],[]⟩ [] l s (R:=f++R) k.2
  rw[els_eq]
  have e:g++f++R=g++(f++R):=by simp
  rw[e]at k ⊢
  rw[u]
  exact k.1
end
section
open Lx (Tk isDigit isLetter inWord spanN isPrint)
def St.els (s:St):List El:=s.cols.map .col++s.keys.map .key++s.frs.map .frn++s.chk.map .chk
theorem els_tk (s:St):s.els.map El.tk=s.eltsK:=by
 simp[St.els,St.eltsK,List.map_append,List.map_map,Function.comp_def,El.tk]
theorem pP:∀(l:List Cd) (d:Df),(l.map El.col).foldl El.put d= { d with cols:=d.cols++l }
 | [],d=>by simp
 |x::l,d=>by rw[List.map_cons,List.foldl_cons,pP l];simp[El.put]
theorem pQ:∀(l:List (List ByteArray)) (d:Df),(l.map El.key).foldl El.put d= { d with keys:=d.keys++l }
 | [],d=>by simp
 |x::l,d=>by rw[List.map_cons,List.foldl_cons,pQ l];simp[El.put]
theorem put_frs:∀(l:List Rf) (d:Df),(l.map El.frn).foldl El.put d= { d with frs:=d.frs++l }
 | [],d=>by simp
 |x::l,d=>by rw[List.map_cons,List.foldl_cons,put_frs l];simp[El.put]
theorem put_chk:∀(l:List Ex) (d:Df),(l.map El.chk).foldl El.put d= { d with chk:=d.chk++l.map Ex.st0 }
 | [],d=>by simp
 |x::l,d=>by rw[List.map_cons,List.foldl_cons,put_chk l];simp[El.put]
theorem els_put (s:St):s.els.foldl El.put ⟨[],[],[],[]⟩=⟨s.cols,s.keys,s.frs,s.chk.map Ex.st0⟩:=by
 unfold St.els
 rw[List.foldl_append,List.foldl_append,List.foldl_append,pP,pQ,put_frs,put_chk]
 simp
theorem nn_nil (l:List Cd):l.map (nnC [])=l:=by
 conv=>rhs;rw[←List.map_id l]
 refine List.map_congr_left fun c _=>?_
 obtain⟨nm,ty,lo,hi,mx,nn⟩:=c
 simp[nnC]
end
section
open Lx (Tk isDigit isLetter inWord spanN isPrint)
theorem create_eq (ex:M Ex) (s:Ps):createP ex s=(fun t:ByteArray×Ps=> (fun x:(Df×List ByteArray)×Ps=> (({ stZ with kd:=1,tb:=t.1,cols:=x.1.1.cols.map (nnC x.1.2),keys:=x.1.1.keys,frs:=x.1.1.frs,chk:=x.1.1.chk } :St),needP yRp x.2)) (dv ex (needP yLp t.2))) (takP 1 (needP eg s)):=rfl
theorem els_ok {s:St} (h:s.defOk=true):s.els≠[]∧∀x∈s.els,x.ok=true:=by
 unfold St.defOk at h
 simp only[Bool.and_eq_true,List.all_eq_true,Bool.not_eq_true']at h
 obtain⟨⟨⟨⟨b,g⟩,i⟩,j⟩,k⟩:=h
 refine⟨fun e=>?_,fun x a=>?_⟩
 ·have f:=congrArg List.length e
  unfold St.els at f
  simp only[List.length_append,List.length_map,List.length_nil]at f
  unfold St.noDef at b
  exact(of_decide_eq_false b) (by omega)
 ·unfold St.els at a
  simp only[List.mem_append,List.mem_map]at a
  rcases a with ((⟨y,hy,rfl⟩|⟨y,hy,rfl⟩)|⟨y,hy,rfl⟩)|⟨y,hy,rfl⟩
  ·exact g y hy
  ·exact i y hy
  ·exact j y hy
  ·exact k y hy
theorem pR {n:Nat} {s:St} (h:s.defOk=true) {ts R:List Tk} (g:ts.map er=(2,[84,65,66,76,69])::nmK s.tb::(5,[40])::(cmK s.eltsK++ [(5,[41])])) (y:ts.length<n):
  createP (exprP n) ⟨ts++R,false⟩=({ stZ with kd:=1,tb:=s.tb,cols:=s.cols,keys:=s.keys,frs:=s.frs,chk:=s.chk.map Ex.st0 },⟨R,false⟩):=by
 obtain⟨a,f,rfl,u,m⟩:=aj g
 obtain⟨b,f,rfl,w,o⟩:=aj m
 obtain⟨c,f,rfl,x,p⟩:=aj o
 obtain⟨f,A,rfl,r,t⟩:=aZ p
 obtain⟨z,rfl,i⟩:=aJ t
 simp only[List.length_cons,List.length_append,List.length_nil]at y
 obtain⟨j,l⟩:=els_ok h
 have k:=els_read (n:=n) j l (ts:=f) (R:=z::R) (by rw[els_tk];exact r) (by omega) (by rw[isS_eq (.inr rfl) yCm i];decide) (by rw[isS_eq (.inr rfl) kNOT i];decide)
 have e:a::b::c::(f++ [z])++R=a::b::c::(f++z::R):=by simp
 rw[create_eq,e,need_at (.inl rfl) eg u,tak_at w,bS]
 simp only
 rw[need_at (.inr rfl) yLp x,k,els_put]
 simp only
 rw[need_at (.inr rfl) yRp i,nn_nil]
end
section
open Lx (Tk isDigit isLetter inWord spanN isPrint)
def hdL:List (List UInt8):= [[78,79,84],[45],[40],[76,69,78,71,84,72],[78,85,76,76]]
def HdK (k:Kt):Prop:=(k.1=2∨k.1=5)→k.2∈hdL
theorem hd_any:∀e:Ex,e.formed=true→∀r:Int,∃k K,e.tk r=k::K∧HdK k:=by
 intro e
 induction e using Ex.ind with
 |h d ks ih=>
  intro l r
  obtain⟨m,n,o⟩:=aB l
  have f:∀ {k:Nat} {x:List UInt8},k=1∨k=3∨k=4→HdK (k,x):=fun h e=>by simp only at e;omega
  unfold Ex.tk brK
  split
  ·exact⟨_,_,rfl,fun _=>by decide⟩
  ·rw[Ex.tkp]
   rcases bL d.op with ⟨h0,h4⟩|⟨h0,h4⟩|⟨h0,h4⟩|h0
   ·unfold tkD
    simp only
    by_cases o1:d.op=1
    ·rw[if_pos o1]
     split
     ·exact⟨_,_,rfl,f (by omega)⟩
     ·split
      ·exact⟨_,_,rfl,f (by omega)⟩
      ·exact⟨_,_,rfl,fun _=>by decide⟩
    ·rw[if_neg o1,if_pos (by omega)]
     split
     ·exact⟨_,_,rfl,f (by omega)⟩
     ·exact⟨_,_,rfl,f (by omega)⟩
   ·obtain⟨a,rfl,j⟩:=kids1 h0 l
    rcases h4 with h4|h4|h4|h4
    ·exact⟨(5,[45]),_,by unfold tkD;simp only;rw[if_neg (by omega),if_neg (by omega),if_pos h4],fun _=>by decide⟩
    ·exact⟨(2,[76,69,78,71,84,72]),_,by unfold tkD;simp only;rw[if_neg (by omega),if_neg (by omega),if_neg (by omega),if_pos h4],fun _=>by decide⟩
    ·obtain⟨k,K,g,i⟩:=ih a (by simp) j 5
     refine⟨k,K++ [(2,[73,83]),(2,[78,85,76,76])],?_,i⟩
     unfold tkD
     simp only
     rw[if_neg (by omega),if_neg (by omega),if_neg (by omega),if_neg (by omega),if_pos h4]
     show a.tk 5++_=_
     rw[g]
     rfl
    ·exact⟨(2,[78,79,84]),_,by unfold tkD;simp only;rw[if_neg (by omega),if_neg (by omega),if_neg (by omega),if_neg (by omega),if_neg (by omega),if_pos h4],fun _=>by decide⟩
   ·obtain⟨a,b,rfl,j,p⟩:=kids2 h0 l
    obtain⟨k,K,g,i⟩:=ih a (by simp) j (if lvl d.op=4 then 5 else lvl d.op)
    refine⟨k,K++sgK d.op::b.tk (lvl d.op+1),?_,i⟩
    unfold tkD
    simp only
    rw[if_neg (by omega),if_neg (by omega),if_neg (by omega),if_neg (by omega),if_neg (by omega),if_neg (by omega)]
    show a.tk _++_=_
    rw[g]
    rfl
   ·omega
theorem hd_not {k:Kt} {a:Tk} (h:er a=k) (f:HdK k) {t:ByteArray} (g:t.data.toList∉hdL) (R:List Tk):isS t ⟨a::R,false⟩=false:=ml h (fun b e=>g (e ▸ f b)) R
def Itm.st0 (x:Itm):Itm:=if x.ag=1 then ⟨1,exZ⟩else ⟨x.ag,x.ex.st0⟩
theorem itm_eq (ex:M Ex) (s:Ps):fX ex s=(match (firstP opsAgg s).1 with
  |some o=>if o=2∧isS dH (needP yLp (firstP opsAgg s).2)=true then ((⟨1,exZ⟩:Itm),needP yRp (needP yLp (firstP opsAgg s).2).next)else (⟨o,(ex (needP yLp (firstP opsAgg s).2)).1⟩,needP yRp (ex (needP yLp (firstP opsAgg s).2)).2)
  |none=> (⟨0,(ex s).1⟩,(ex s).2)):=by
 unfold fX fstM
 cases (firstP opsAgg s).1 with
 |none=>rfl
 |some o=>
  simp only
  unfold aA aU
  simp only
  by_cases a:o=2
  ·rw[if_pos a]
   unfold ifM
   by_cases hs:isS dH (needP yLp (firstP opsAgg s).2)=true
   ·rw[if_pos hs,if_pos ⟨a,hs⟩];rfl
   ·rw[if_neg hs,if_neg (fun e=>hs e.2)];rfl
  ·rw[if_neg a,if_neg (fun e=>a e.1)];rfl
theorem agg_find {o:Int} (h:o=2∨o=3∨o=4∨o=5):(agK o).1=2∧∃t,opsAgg.find? (fun y=>decide (y.1.data.toList=(agK o).2))=some (t,o):=by
 rcases h with rfl|rfl|rfl|rfl
 ·exact⟨rfl,kCOUNT,by decide⟩
 ·exact⟨rfl,kSUM,by decide⟩
 ·exact⟨rfl,kMIN,by decide⟩
 ·exact⟨rfl,kMAX,by decide⟩
theorem ny {o:Int} (h:o=2∨o=3∨o=4∨o=5) {a:Tk} (f:er a=agK o) (R:List Tk):firstP opsAgg ⟨a::R,false⟩=(some o,⟨R,false⟩):=by
 obtain⟨b,t,e⟩:=agg_find h
 rw[gw (k:=(agK o).1) (x:=(agK o).2) (.inl b) f R opsAgg,e]
theorem first_hd {a:Tk} {k:Kt} (b:er a=k) (e:HdK k) (R:List Tk):firstP opsAgg ⟨a::R,false⟩=(none,⟨a::R,false⟩):=by
 have h:=fun (t:ByteArray) (f:t.data.toList∉hdL)=>hd_not b e f R
 unfold opsAgg
 rw[firstP,h _ (by decide),if_neg (by simp),firstP,h _ (by decide),if_neg (by simp),firstP,h _ (by decide),if_neg (by simp),firstP,h _ (by decide),if_neg (by simp),firstP]
theorem itm_read {n:Nat} {x:Itm} (h:x.ok=true):Reads' n (fX (exprP n)) Itm.tk Itm.st0 F0 x:=fun ts R f E L=>by
 obtain⟨ag,e⟩:=x
 unfold Itm.ok at h
 unfold Itm.tk at f
 unfold Itm.st0
 simp only at h f ⊢
 rw[itm_eq]
 by_cases i:ag=1
 ·rw[if_pos i]at f
  rw[if_pos i]
  obtain⟨a,g,rfl,l,y⟩:=aj f
  obtain⟨b,g,rfl,r,A⟩:=aj y
  obtain⟨c,g,rfl,s,j⟩:=aj A
  obtain⟨d,rfl,hd⟩:=aJ j
  rw[List.cons_append,ny (o:=2) (by omega) l]
  simp only
  rw[List.cons_append,need_at (.inr rfl) yLp r,List.cons_append,cG (.inr rfl) dH s,if_pos (by simp),next_at,List.singleton_append,need_at (.inr rfl) yRp hd]
 ·rw[if_neg i]at f
  rw[if_neg i]
  rw[if_neg (by simpa using i)]at h
  simp only[Bool.and_eq_true,decide_eq_true_eq]at h
  obtain⟨⟨y,A⟩,j⟩:=h
  obtain⟨k,K,u,w⟩:=hd_any e j 1
  by_cases p:ag=0
  ·rw[if_pos p]at f
   have m:=rd_expr (n:=n) j f E L
   obtain⟨a,g,rfl,l,C⟩:=aj (f.trans u)
   rw[List.cons_append]at m ⊢
   rw[first_hd l w]
   simp only
   rw[m,p]
  ·rw[if_neg p]at f
   obtain⟨a,g,rfl,l,C⟩:=aj f
   obtain⟨b,g,rfl,r,I⟩:=aj C
   obtain⟨g,P,rfl,D,J⟩:=aZ I
   obtain⟨z,rfl,F⟩:=aJ J
   simp only[List.length_cons,List.length_append,List.length_nil]at E
   have m:=rd_expr (n:=n) (R:=z::R) j D (by omega) (by rw[j4 F];decide)
   obtain⟨c,G,rfl,s,O⟩:=aj (D.trans u)
   have H:a::b::(c::G++ [z])++R=a::b::c::(G++z::R):=by simp
   rw[List.cons_append]at m
   rw[H,ny (o:=ag) (by omega) l]
   simp only
   rw[need_at (.inr rfl) yLp r,hd_not s w (t:=dH) (by decide),if_neg (by simp),m,need_at (.inr rfl) yRp F]
theorem col_read {n : Nat} {e : Ex} (h : eo e = true) : Reads' n eS (fun e : Ex => e.tk 1) Ex.st0 F0 e := fun ts R i H z => by
  unfold eo at h
  simp only [Bool.and_eq_true, beq_iff_eq] at h
  obtain ⟨y, C⟩ := h
  obtain ⟨d, ks⟩ := e
  have g : d.op = 2 := y
  obtain ⟨F, G, j⟩ := aB C
  have D : ks = [] := List.eq_nil_of_length_eq_zero (by have : opN d.op = 0 := (by rw [g]; decide); omega)
  subst D
  unfold ndB at j
  rw [if_pos g] at j
  simp only [Bool.and_eq_true, Bool.or_eq_true, beq_iff_eq] at j
  obtain ⟨_, k⟩ := j
  unfold Nd.valZ at k
  simp only [Bool.and_eq_true, beq_iff_eq] at k
  obtain ⟨⟨o, p⟩, r⟩ := k
  have w : (Ex.mk d []).tk 1 = tkD d [] := by
    show brK d.op (tkD d (tkpL [])) 1 = _
    unfold brK
    rw [if_neg (by rw [g]; decide)]
    rfl
  have f : ts.map er = tkD d [] := i.trans w
  unfold tkD at f
  dsimp only at f
  rw [if_neg (by omega), if_pos g] at f
  have x : (Ex.mk d []).st0 = colE d.tb d.nm := by
    rw [Ex.st0, iF]
    obtain ⟨op, tb, nm, ix, vk, vi, vt⟩ := d
    simp only at g o p r
    subst g o p
    rw [cY r]
    rfl
  rw [x]
  unfold eS
  split at f
  · next ht =>
    obtain ⟨a, rfl, l⟩ := aJ f
    rw [List.singleton_append, tak_at l]
    simp only
    have u : (⟨R, false⟩ : Ps).c = 0 := z
    rw [kM (t := yDot) (s := ⟨R, false⟩) (fun e => by rw [e] at u; revert u; decide), if_neg (by simp), bS, cY ht]
  · obtain ⟨a, E, rfl, l, i⟩ := aj f
    obtain ⟨b, E, rfl, A, i⟩ := aj i
    obtain ⟨c, rfl, m⟩ := aJ i
    rw [List.cons_append, tak_at l]
    simp only
    rw [List.cons_append, isS_eq (.inr rfl) yDot A, if_pos (by decide), next_at, List.singleton_append, tak_at m]
end
section
open Lx (Tk isDigit isLetter inWord spanN isPrint)
def stI (k:Kt):Nat:=if k.1=2∨k.1=5 then (if k.2= [87,72,69,82,69]then 1 else if k.2= [71,82,79,85,80]then 2 else if k.2= [79,82,68,69,82]then 3 else if k.2= [76,73,77,73,84]then 4 else if k.2= [59]then 5 else 0)else 5
def dO (j:Nat) (R:List Tk):Prop:=1≤j∧∃a l,R=a::l∧j≤stI (er a)
theorem dO.le {i j:Nat} {R:List Tk} (h:dO j R) (b:1≤i) (hi:i≤j):dO i R:=by
 obtain⟨_,a,l,e,f⟩:=h
 exact⟨b,a,l,e,by omega⟩
theorem dO.not {j:Nat} {R:List Tk} (h:dO j R) {t:ByteArray} (g:stI (2,t.data.toList)<j):isS t ⟨R,false⟩=false:=by
 obtain⟨_,a,l,rfl,f⟩:=h
 refine ml (k:=er a) rfl (fun b e=>?_) l
 have:stI (er a)=stI (2,t.data.toList):=by
  unfold stI
  rw[if_pos b,if_pos (show((2:Nat),t.data.toList).1=2∨((2:Nat),t.data.toList).1=5 from .inl rfl),e]
 omega
theorem dO.f0 {j:Nat} {R:List Tk} (h:dO j R):F0 ⟨R,false⟩:=by
 obtain⟨g,a,l,rfl,b⟩:=h
 unfold F0
 rw[j4 (k:=(er a).1) (x:=(er a).2) rfl]
 unfold stI at b
 unfold ctl
 by_cases f:(er a).1=2∨(er a).1=5
 ·rw[if_pos f]at b ⊢
  simp only
  split at b
  ·next e=>rw[e];decide
  split at b
  ·next e=>rw[e];decide
  split at b
  ·next e=>rw[e];decide
  split at b
  ·next e=>rw[e];decide
  split at b
  ·next e=>rw[e];decide
  ·omega
 ·rw[if_neg f]
theorem js {i j:Nat} {ts R:List Tk} {K:List Kt} (h:ts.map er=K) (e:K= []∨∃k l,K=k::l∧i≤stI k) (hi:1≤i) (b:i≤j) (f:dO j R):dO i (ts++R):=by
 rcases e with rfl|⟨k,l,rfl,hk⟩
 ·obtain rfl:=List.map_eq_nil_iff.1 h
  exact f.le hi b
 ·obtain⟨a,m,rfl,g,_⟩:=aj h
  exact⟨hi,a,m++R,rfl,by rw[g];exact hk⟩
theorem whr_K (s:St):s.whK= []∨∃k l,s.whK=k::l∧1≤stI k:=by
 unfold St.whK
 split
 ·exact .inl rfl
 ·exact .inr ⟨_,_,rfl,by decide⟩
def St.wh0 (s:St):Ex:=if s.whr.absent=true then exZ else s.whr.st0
theorem mn {n:Nat} {s:St} (h:s.whr.absent=true∨s.whr.formed=true) {ts R:List Tk} (b:ts.map er=s.whK) (i:ts.length<n) (e:dO 2 R):whrP (exprP n) ⟨ts++R,false⟩=(s.wh0,⟨R,false⟩):=by
 unfold St.whK at b
 unfold St.wh0
 unfold whrP ifM
 split at b
 ·next ha=>
  rw[if_pos ha]
  obtain rfl:=List.map_eq_nil_iff.1 b
  rw[List.nil_append,e.not (by decide),if_neg (by simp)]
  rfl
 ·next ha=>
  rw[if_neg ha]
  obtain⟨a,j,rfl,g,f⟩:=aj b
  simp only[List.length_cons]at i
  rw[List.cons_append,cG (.inl rfl) fU g,if_pos rfl,next_at,rd_expr (h.resolve_left ha) f (by omega) e.f0]
theorem cond_eq (ex:M Ex) (s:Ps):fM ex andL [] s=whrP ex s:=by
 unfold fM whrP ifM
 split<;>rfl
theorem grp_K (l:List Ex):(if l.length=0 then ([]:List Kt)else (2,[71,82,79,85,80])::(2,[66,89])::exsK l)= []∨∃k r,(if l.length=0 then ([]:List Kt)else (2,[71,82,79,85,80])::(2,[66,89])::exsK l)=k::r∧2≤stI k:=by
 split
 ·exact .inl rfl
 ·exact .inr ⟨_,_,rfl,by decide⟩
theorem ord_K (l:List Ord'):(if l.length=0 then ([]:List Kt)else (2,[79,82,68,69,82])::(2,[66,89])::cmK (l.map Ord'.tk))= []∨∃k r,(if l.length=0 then ([]:List Kt)else (2,[79,82,68,69,82])::(2,[66,89])::cmK (l.map Ord'.tk))=k::r∧3≤stI k:=by
 split
 ·exact .inl rfl
 ·exact .inr ⟨_,_,rfl,by decide⟩
theorem lim_K (n:Int):(if 0<n then [(2,[76,73,77,73,84]),numK n]else ([]:List Kt))= []∨∃k r,(if 0<n then [(2,[76,73,77,73,84]),numK n]else ([]:List Kt))=k::r∧4≤stI k:=by
 split
 ·exact .inr ⟨_,_,rfl,by decide⟩
 ·exact .inl rfl
theorem grp_read {l:List Ex} (h:l.all eo=true) {ts R:List Tk} (f:ts.map er=(if l.length=0 then ([]:List Kt)else (2,[71,82,79,85,80])::(2,[66,89])::exsK l)) (g:dO 3 R):grpP ⟨ts++R,false⟩=(l.map Ex.st0,⟨R,false⟩):=by
 unfold grpP ifM
 split at f
 ·next hl=>
  obtain rfl:=List.eq_nil_of_length_eq_zero hl
  obtain rfl:=List.map_eq_nil_iff.1 f
  rw[List.nil_append,g.not (by decide),if_neg (by simp)]
  rfl
 ·next hl=>
  obtain⟨a,i,rfl,m,j⟩:=aj f
  obtain⟨b,i,rfl,o,k⟩:=aj j
  rw[List.cons_append,cG (.inl rfl) jE m,if_pos rfl,next_at]
  show listP eS (needP kBY ⟨b::i++R,false⟩)=_
  rw[List.cons_append,need_at (.inl rfl) kBY o]
  exact dF (n:=i.length+1) fwd_col (tok:=fun e:Ex=>e.tk 1) (val:=Ex.st0) (Fol:=F0) f0_cm (fun e=>hl (by rw[e];rfl)) (fun x p=>col_read (List.all_eq_true.1 h x p)) k (Nat.lt_succ_self _) g.f0 (g.not (by decide))
theorem ords_read {l:List Ord'} (h:l.all Ord'.ok=true) {ts R:List Tk} (f:ts.map er=(if l.length=0 then ([]:List Kt)else (2,[79,82,68,69,82])::(2,[66,89])::cmK (l.map Ord'.tk))) (g:dO 4 R):fW posP ⟨ts++R,false⟩=(l,⟨R,false⟩):=by
 unfold fW ifM
 split at f
 ·next hl=>
  obtain rfl:=List.eq_nil_of_length_eq_zero hl
  obtain rfl:=List.map_eq_nil_iff.1 f
  rw[List.nil_append,g.not (by decide),if_neg (by simp)]
  rfl
 ·next hl=>
  obtain⟨a,j,rfl,i,o⟩:=aj f
  obtain⟨b,j,rfl,r,p⟩:=aj o
  rw[List.cons_append,cG (.inl rfl) jF i,if_pos rfl,next_at]
  show listP (hU posP) (needP kBY ⟨b::j++R,false⟩)=_
  rw[List.cons_append,need_at (.inl rfl) kBY r]
  have m:Fwd (hU posP):=ar fwd_pos fun _=>cF _ (aH _) (cF _ (aH _) (aH _))
  have k:=dF (n:=j.length+1) m (tok:=Ord'.tk) (val:=fun x=>x) (Fol:=fun s=>isS kASC s=false∧isS kZ s=false) (fun a R i=>⟨by rw[isS_eq (.inr rfl) kASC i];decide,by rw[isS_eq (.inr rfl) kZ i];decide⟩)
   (fun e=>hl (by rw[e];rfl)) (fun x t=>ord_read (List.all_eq_true.1 h x t)) p (Nat.lt_succ_self _) (R:=R) ⟨g.not (by decide),g.not (by decide)⟩ (g.not (by decide))
  rw[List.map_id']at k
  exact k
theorem lim_read {n:Int} (h:0≤n) {ts R:List Tk} (e:ts.map er=(if 0<n then [(2,[76,73,77,73,84]),numK n]else ([]:List Kt))) (g:dO 5 R):limP posP ⟨ts++R,false⟩=(n,⟨R,false⟩):=by
 unfold limP ifM
 split at e
 ·obtain⟨a,k,rfl,i,f⟩:=aj e
  obtain⟨b,rfl,j⟩:=aJ f
  rw[List.cons_append,cG (.inl rfl) kLIMIT i,if_pos rfl,next_at,List.singleton_append,pos_read (by omega) j]
 ·obtain rfl:=List.map_eq_nil_iff.1 e
  rw[List.nil_append,g.not (by decide),if_neg (by simp)]
  have:n=0:=by omega
  rw[this]
  rfl
theorem frm_eq (ex:M Ex) (s:Ps):fromP ex s=fromGo ex (s.r.length+1) [(srcP s).1] [] (srcP s).2:=rfl
theorem mo (ex:M Ex) (m:Nat) (l:List Src) (c:List Ex) (st:Ps):fromGo ex (m+1) l c st=if isS yCm st=true then fromGo ex m (l++ [(srcP st.next).1]) c (srcP st.next).2
  else if isS ia st=true then fromGo ex m (l++ [(srcP st.next).1]) (c++ [(ex (needP kON (srcP st.next).2)).1]) (ex (needP kON (srcP st.next).2)).2 else ((l,c),st):=rfl
theorem frm_go {n:Nat} {R:List Tk} (g:dO 1 R):∀(f:List Src) (m:Nat) (o:List Src) (ts:List Tk),(∀x∈f,x.ok=true)→ts.map er=(f.map Src.tk).flatMap (fun y=> (5,[44])::y)→ts.length<m→
  fromGo (exprP n) m o [] ⟨ts++R,false⟩=((o++f,[]),⟨R,false⟩)∧isS kAS ⟨ts++R,false⟩=false
 |_,0,_,_,_,_,h=>absurd h (Nat.not_lt_zero _)
 | [],m+1,o,ts,_,h,_=>by
  obtain rfl:=List.map_eq_nil_iff.1 h
  rw[List.nil_append,mo,g.not (by decide),if_neg (by simp),g.not (by decide),if_neg (by simp),List.append_nil]
  exact⟨rfl,g.not (by decide)⟩
 |x::f,m+1,o,ts,hx,h,hm=>by
  rw[List.map_cons,List.flatMap_cons]at h
  obtain⟨b,i,rfl,l,p⟩:=aZ h
  obtain⟨a,b,rfl,j,r⟩:=aj l
  simp only[List.length_append,List.length_cons]at hm
  have e:a::b++i++R=a::(b++(i++R)):=by simp
  have k:=frm_go (n:=n) g f m (o++ [x]) i (fun y s=>hx y (List.mem_cons_of_mem _ s)) p (by omega)
  have t:=pO (n:=b.length+1) (hx x List.mem_cons_self) b (i++R) r (Nat.lt_succ_self _) k.2
  rw[e,mo,cG (.inr rfl) yCm j,if_pos rfl,next_at,t]
  refine⟨?_,by rw[isS_eq (.inr rfl) kAS j];decide⟩
  rw[k.1]
  simp
theorem frm_read {n:Nat} {a:List Src} (i:0<a.length) (j:∀x∈a,x.ok=true) {ts R:List Tk} (b:ts.map er=cmK (a.map Src.tk)) (o:dO 1 R):fromP (exprP n) ⟨ts++R,false⟩=((a,[]),⟨R,false⟩):=by
 cases a with
 |nil=>exact absurd i (Nat.lt_irrefl _)
 |cons x a=>
  rw[List.map_cons,cmK]at b
  obtain⟨f,g,rfl,l,m⟩:=aZ b
  have e:f++g++R=f++(g++R):=by simp
  have k:=frm_go (n:=n) o a ((f++(g++R)).length+1) [x] g (fun y p=>j y (List.mem_cons_of_mem _ p)) m (by simp;omega)
  have r:=pO (n:=f.length+1) (j x List.mem_cons_self) f (g++R) l (Nat.lt_succ_self _) k.2
  rw[frm_eq,e,r]
  rw[k.1]
  rfl
theorem itms_read {n:Nat} {s:St} (h:s.itms.all Itm.ok=true) {ts R:List Tk} (b:ts.map er=s.itK) (y:ts.length<n) (u:F0 ⟨R,false⟩) (w:isS yCm ⟨R,false⟩=false):itmsP (exprP n) ⟨ts++R,false⟩=(s.itms.map Itm.st0,⟨R,false⟩):=by
 unfold St.itK at b
 unfold itmsP ifM
 split at b
 ·next hl=>
  rw[List.eq_nil_of_length_eq_zero hl]
  obtain⟨a,rfl,p⟩:=aJ b
  rw[List.singleton_append,cG (.inr rfl) dH p,if_pos rfl]
  rfl
 ·next hl=>
  have f:=cK n
  have r:Fwd (fX (exprP n)):=fwd_fst _ (fun o=>ar (aN _) fun _=>by split;exact cF _ (ar (aN _) fun _=>aH _) (ar f fun _=>ar (aN _) fun _=>aH _);exact ar f fun _=>ar (aN _) fun _=>aH _) (ar f fun _=>aH _)
  have i:s.itms≠[]:=fun e=>hl (by rw[e];rfl)
  have hs:isS dH ⟨ts++R,false⟩=false:=by
   cases hi:s.itms with
   |nil=>exact absurd hi i
   |cons x l=>
    rw[hi,List.map_cons,cmK]at b
    have g:=List.all_eq_true.1 h x (by rw[hi];exact List.mem_cons_self)
    have:∃k K,x.tk=k::K∧((k.1=2∨k.1=5)→k.2≠dH.data.toList):=by
     unfold Itm.tk
     split
     ·exact⟨_,_,rfl,fun _=>by decide⟩
     ·next h1=>
      unfold Itm.ok at g
      rw[if_neg (by simpa using h1)]at g
      simp only[Bool.and_eq_true,decide_eq_true_eq]at g
      split
      ·obtain⟨k,K,j,m⟩:=hd_any x.ex g.2 1
       exact⟨k,K,j,fun t e=> (by decide:dH.data.toList∉hdL) (e ▸ m t)⟩
      ·have:x.ag=2∨x.ag=3∨x.ag=4∨x.ag=5:=by omega
       refine⟨_,_,rfl,fun _=>?_⟩
       rcases this with e|e|e|e<;> (rw[e];decide)
    obtain⟨k,K,j,m⟩:=this
    rw[j,List.cons_append]at b
    obtain⟨a,z,rfl,p,_⟩:=aj b
    exact ml p m _
  rw[hs,if_neg (by simp)]
  exact dF (n:=n) r (tok:=Itm.tk) (val:=Itm.st0) (Fol:=F0) f0_cm i (fun x g=>itm_read (List.all_eq_true.1 h x g)) b y u w
theorem query_eq (ex:M Ex) (s a b e j k m:Ps) (i:List Itm) (f:List Src×List Ex) (W:Ex) (g:List Ex) (o:List Ord') (l:Int) (n:itmsP ex s=(i,a)) (p:fromP ex (needP kFROM a)=(f,b)) (r:fM ex andL f.2 b=(W,e)) (t:grpP e=(g,j)) (u:fW posP j=(o,k)) (w:limP posP k=(l,m)):
  queryP ex posP andL s=({ stZ with kd:=5,itms:=i,frm:=f.1,whr:=W,grp:=g,ord:=o,lim:=l },m):=by
 unfold queryP aA aU aY
 simp only[n,p,r,t,u,w]
theorem sel_read {n:Nat} {s:St} (h:s.qOk=true) (L:s.whr.absent=true∨s.whr.formed=true) {a:Tk} {ts R:List Tk} (f:(a::ts).map er=s.selK) (K:ts.length<n) (y:dO 5 R):
  queryP (exprP n) posP andL ⟨ts++R,false⟩=({ stZ with kd:=5,itms:=s.itms.map Itm.st0,frm:=s.frm,whr:=s.wh0,grp:=s.grp.map Ex.st0,ord:=s.ord,lim:=s.lim },⟨R,false⟩):=by
 unfold St.qOk at h
 simp only[Bool.and_eq_true,ch,decide_eq_true_eq]at h
 obtain⟨⟨⟨⟨⟨F,E⟩,G⟩,H⟩,I⟩,J⟩:=h
 unfold St.selK at f
 rw[List.map_cons]at f
 obtain⟨z,r1,rfl,C,X⟩:=aZ (List.cons.inj f).2
 obtain⟨b,r1,rfl,l,Y⟩:=aj X
 obtain⟨m,r2,rfl,D,Z⟩:=aZ Y
 obtain⟨k,r3,rfl,t,q4⟩:=aZ Z
 obtain⟨j,r4,rfl,u,q5⟩:=aZ q4
 obtain⟨i,g,rfl,w,x⟩:=aZ q5
 simp only[List.length_append,List.length_cons]at K
 have r:dO 4 (g++R):=js x (lim_K _) (by omega) (by omega) y
 have p:dO 3 (i++(g++R)):=js w (ord_K _) (by omega) (by omega) r
 have o:dO 2 (j++(i++(g++R))):=js u (grp_K _) (by omega) (by omega) p
 have A:dO 1 (k++(j++(i++(g++R)))):=js t (whr_K _) (by omega) (by omega) o
 have O:=itms_read (n:=n) (R:=b::(m++(k++(j++(i++(g++R)))))) F C (by omega) (by unfold F0;rw[j4 l];decide) (by rw[isS_eq (.inl rfl) yCm l];decide)
 have P:=frm_read (n:=n) E (List.all_eq_true.1 G) D A
 have Q:=mn (n:=n) L t (by omega) o
 have U:=grp_read H u p
 have V:=ords_read I w r
 have W:=lim_read J.1 x y
 have e:z++b::(m++(k++(j++(i++g))))++R=z++b::(m++(k++(j++(i++(g++R))))):=by simp
 rw[e]
 exact query_eq (exprP n) _ _ _ _ _ _ _ _ (s.frm,[]) _ _ _ _ O (by rw[need_at (.inl rfl) kFROM l];exact P) (by rw[cond_eq];exact Q) U V W
end
section
open Lx (Tk)
def St.unb (s:St):Bool:=s.chk.all Ex.unb&&s.whr.unb&&s.grp.all Ex.unb&&s.vals.all (fun l=>l.all Ex.unb) &&s.sets.all (fun a=>a.ix==0&&a.ex.unb) &&s.itms.all (fun x=>x.ex.unb)
def SQ (s:St):Prop:=s.formed=true∧s.unb=true
theorem nm_ne {s:ByteArray} (h:nameB s=true):s.toList.isEmpty=false:=by
 rw[eX]
 unfold nameB iP at h
 cases b:N s with
 |nil=>rw[b]at h;simp[fm]at h
 |cons a l=>rfl
theorem nil_e:(⟨#[]⟩:ByteArray).toList.isEmpty=true:=by rw[eX];rfl
theorem whr_b {e:Ex} (h:WQ e):(e.absent||e.formed)=true:=by
 rcases h.1 with h|h<;>simp[h]
theorem nn_ok (l:List ByteArray) (c:Cd):(nnC l c).ok=c.ok:=rfl
theorem sq_create {t:ByteArray} (f:nameB t=true) {x:Df×List ByteArray} (a:DfQ x):SQ { stZ with kd:=1,tb:=t,cols:=x.1.cols.map (nnC x.2),keys:=x.1.keys,frs:=x.1.frs,chk:=x.1.chk } :=by
 have i:(x.1.cols.map (nnC x.2)).all Cd.ok=true:=by
  rw[List.all_eq_true]
  intro c r
  obtain⟨d,hd,rfl⟩:=List.mem_map.1 r
  rw[nn_ok]
  exact a.cols d hd
 have j:x.1.keys.all namesB=true:=List.all_eq_true.2 a.keys
 have k:x.1.frs.all Rf.ok=true:=List.all_eq_true.2 a.frs
 have l:x.1.chk.all Ex.formed=true:=List.all_eq_true.2 fun e b=> (a.chk e b).1
 have m:x.1.chk.all Ex.unb=true:=List.all_eq_true.2 fun e b=> (a.chk e b).2
 have n:=a.ne
 have o:exZ.absent=true:=by decide
 have p:exZ.unb=true:=by decide
 refine⟨?_,?_⟩
 ·have g:St.noDef { stZ with kd:=1,tb:=t,cols:=x.1.cols.map (nnC x.2),keys:=x.1.keys,frs:=x.1.frs,chk:=x.1.chk } =false:=by
   unfold St.noDef
   simp only[List.length_map]
   exact decide_eq_false n
  unfold St.formed St.defOk
  rw[g]
  simp[stZ,nm_ne f,f,nil_e,o]
  exact⟨⟨⟨List.all_eq_true.1 (by simpa using i)|>fun h=>by simpa using h,by simpa using j⟩,by simpa using k⟩,by simpa using l⟩
 ·unfold St.unb
  simp[stZ,p]
  simpa using m
theorem sq_insert {t:ByteArray} (f:nameB t=true) {v:List (List Ex)} (b:v≠[]∧∀l∈v,rowOk l=true∧∀e∈l,e.unb=true):SQ { stZ with kd:=2,tb:=t,vals:=v } :=by
 have g:v.all rowOk=true:=List.all_eq_true.2 fun l a=> (b.2 l a).1
 have i:0<v.length:=List.length_pos_iff.2 b.1
 have j:exZ.absent=true:=by decide
 have k:exZ.unb=true:=by decide
 refine⟨?_,?_⟩
 ·unfold St.formed St.noDef
  simp[stZ,nm_ne f,f,nil_e,j,i]
  simpa using g
 ·unfold St.unb
  simp[stZ,k]
  exact fun l a e m=> (b.2 l a).2 e m
theorem sq_update {t:ByteArray} (k:nameB t=true) {v:List Asg} (f:v≠[]∧∀a∈v,a.ok=true∧a.ix=0∧a.ex.unb=true) {e:Ex} (j:WQ e):SQ { stZ with kd:=3,tb:=t,sets:=v,whr:=e } :=by
 have g:v.all Asg.ok=true:=List.all_eq_true.2 fun l b=> (f.2 l b).1
 have m:0<v.length:=List.length_pos_iff.2 f.1
 have i:=whr_b j
 refine⟨?_,?_⟩
 ·unfold St.formed St.noDef
  simp[stZ,nm_ne k,k,nil_e,m]
  simp at i g
  exact⟨i,g⟩
 ·unfold St.unb
  simp[stZ,j.2]
  exact fun l b=>⟨(f.2 l b).2.1,(f.2 l b).2.2⟩
theorem sq_delete {t:ByteArray} (b:nameB t=true) {e:Ex} (a:WQ e):SQ { stZ with kd:=4,tb:=t,whr:=e } :=by
 have f:=whr_b a
 refine⟨?_,?_⟩
 ·unfold St.formed St.noDef
  simp[stZ,nm_ne b,b,nil_e]
  simpa using f
 ·unfold St.unb
  simp[stZ,a.2]
theorem sq_query {i:List Itm} (hi:∀x∈i,x.ok=true∧x.ex.unb=true) {f:List Src} (s:(∀y∈f,y.ok=true)∧f≠[]) {e:Ex} (r:WQ e) {g:List Ex} (b:∀x∈g,FQ x∧x.d.op=2) {o:List Ord'} (w:∀x∈o,x.ok=true)
  {l:Int} (t:0≤l∧l≤2147483648):SQ { stZ with kd:=5,itms:=i,frm:=f,whr:=e,grp:=g,ord:=o,lim:=l } :=by
 have j:i.all Itm.ok=true:=List.all_eq_true.2 fun x a=> (hi x a).1
 have u:0<f.length:=List.length_pos_iff.2 s.2
 have k:f.all Src.ok=true:=List.all_eq_true.2 s.1
 have m:g.all eo=true:=List.all_eq_true.2 fun x a=>by unfold eo;simp[(b x a).2,(b x a).1.1]
 have n:o.all Ord'.ok=true:=List.all_eq_true.2 w
 have p:=whr_b r
 refine⟨?_,?_⟩
 ·unfold St.formed St.noDef St.qOk inB
  simp[stZ,nil_e,u,t.1,t.2]
  simp at j k m n p
  exact⟨p,⟨⟨⟨j,k⟩,m⟩,n⟩⟩
 ·unfold St.unb
  simp[stZ,r.2]
  exact⟨fun x a=> (b x a).1.2,fun x a=> (hi x a).2⟩
theorem sq_nm {k:Int} (g:k=9∨k=10∨k=11) {a:ByteArray} (b:nameB a=true):SQ { stZ with kd:=k,nm:=a } :=by
 have e:exZ.absent=true:=by decide
 have f:exZ.unb=true:=by decide
 refine⟨?_,?_⟩
 ·rcases g with rfl|rfl|rfl<;> (unfold St.formed St.noDef;simp[stZ,nm_ne b,b,nil_e,e])
 ·unfold St.unb
  simp[stZ,f]
theorem sq_one {k:Int} (e:k=6∨k=7∨k=8):SQ { stZ with kd:=k } :=by
 have a:exZ.absent=true:=by decide
 have b:exZ.unb=true:=by decide
 refine⟨?_,?_⟩
 ·rcases e with rfl|rfl|rfl<;> (unfold St.formed St.noDef;simp[stZ,nil_e,a])
 ·unfold St.unb
  simp[stZ,b]
section
variable {B:Nat} {ex:M Ex} (h:Yld B FQ ex) (st:Stk ex)
include h st
theorem qP:Yld B SQ (createP ex):=by
 unfold createP
 refine ao (aG _) (fun _ _=>?_) (fun _=>af (cN 1) fun _=>af (az _) fun _=>af (jH ex) fun _=>af (az _) fun _=>ai _)
 refine ao bO (fun t a=>?_) (fun _=>af (az _) fun _=>af (jH ex) fun _=>af (az _) fun _=>ai _)
 refine ao (aG _) (fun _ _=>?_) (fun _=>af (jH ex) fun _=>af (az _) fun _=>ai _)
 refine ao (yld_elems h st) (fun x b=>?_) (fun _=>af (az _) fun _=>ai _)
 exact ao (aG _) (fun _ _=>aw (sq_create a b)) (fun _=>ai _)
theorem qQ:Yld B SQ (fu ex):=by
 unfold fu
 refine ao (aG _) (fun _ _=>?_) (fun _=>af (cN 1) fun _=>af (az _) fun _=>af (ct (kE st)) fun _=>ai _)
 refine ao bO (fun t a=>?_) (fun _=>af (az _) fun _=>af (ct (kE st)) fun _=>ai _)
 refine ao (aG _) (fun _ _=>?_) (fun _=>af (ct (kE st)) fun _=>ai _)
 exact ao (eA (yld_tup h st) (kE st)) (fun v b=>aw (sq_insert a b)) (fun _=>ai _)
theorem qR:Yld B SQ (fv ex):=by
 unfold fv
 refine ao bO (fun t b=>?_) (fun _=>af (az _) fun _=>af (ct (nQ st)) fun _=>af (iZ ex) fun _=>ai _)
 refine ao (aG _) (fun _ _=>?_) (fun _=>af (ct (nQ st)) fun _=>af (iZ ex) fun _=>ai _)
 refine ao (eA (yld_asg h st) (nQ st)) (fun v f=>?_) (fun _=>af (iZ ex) fun _=>ai _)
 exact ao (yld_whr h) (fun e a=>aw (sq_update b f a)) (fun _=>ai _)
omit st in
theorem qT:Yld B SQ (fx ex):=by
 unfold fx
 refine ao (aG _) (fun _ _=>?_) (fun _=>af (cN 1) fun _=>af (iZ ex) fun _=>ai _)
 refine ao bO (fun t b=>?_) (fun _=>af (iZ ex) fun _=>ai _)
 exact ao (yld_whr h) (fun e a=>aw (sq_delete b a)) (fun _=>ai _)
theorem yld_query:Yld B SQ (queryP ex posP andL):=by
 unfold queryP
 refine ao (Q:=fun i=> ∀x∈i,x.ok=true∧x.ex.unb=true) ?_ (fun i hi=>?_) (fun _=>af (az _) fun _=>af (pa ex) fun _=>af (lb ex _ _) fun _=>af kD fun _=>af (fZ _) fun _=>af (gH _) fun _=>ai _)
 ·exact aV _ (aw (by simp)) ((eA (yld_itm h st) (stk_itm st)).imp fun l a=>a.2)
 refine ao (aG _) (fun _ _=>?_) (fun _=>af (pa ex) fun _=>af (lb ex _ _) fun _=>af kD fun _=>af (fZ _) fun _=>af (gH _) fun _=>ai _)
 refine ao (yld_from h st) (fun f b=>?_) (fun _=>af (lb ex _ _) fun _=>af kD fun _=>af (fZ _) fun _=>af (gH _) fun _=>ai _)
 refine ao (yld_cond h b.2.2) (fun e j=>?_) (fun _=>af kD fun _=>af (fZ _) fun _=>af (gH _) fun _=>ai _)
 refine ao (Q:=fun g=> ∀x∈g,FQ x∧x.d.op=2) ?_ (fun g k=>?_) (fun _=>af (fZ _) fun _=>af (gH _) fun _=>ai _)
 ·exact aV _ (ao (aG _) (fun _ _=> (eA pH nP).imp fun l a=>a.2) (fun _=>ct nP)) (aw (by simp))
 refine ao (Q:=fun o=> ∀x∈o,x.ok=true) ?_ (fun o m=>?_) (fun _=>af (gH _) fun _=>ai _)
 ·exact aV _ (ao (aG _) (fun _ _=> (eA yld_ord (stk_ord stk_pos)).imp fun l a=>a.2) (fun _=>ct (stk_ord stk_pos))) (aw (by simp))
 refine ao (Q:=fun l=>0≤l∧l≤2147483648) ?_ (fun l a=>aw (sq_query hi ⟨b.1,b.2.1⟩ j k m a)) (fun _=>ai _)
 exact aV _ (yld_pos.imp fun n p=>by omega) (aw (by omega))
theorem yld_stmt:Yld B SQ (fN ex posP andL ic):=by
 have nm:∀k:Int,k=9∨k=10∨k=11→Yld B SQ (nmP k):=fun k f=>ao bO (fun a b=>aw (sq_nm f b)) (fun _=>ai _)
 unfold fN
 refine aV _ (qP h st) (aV _ (qQ h st) (aV _ (qR h st) (aV _ (qT h) (aV _ (yld_query h st) (aV _ (aw (sq_one (by omega))) (aV _ (aw (sq_one (by omega)))
  (aV _ (aV _ (nm 10 (by omega)) (aw (sq_one (by omega)))) (aV _ (nm 9 (by omega)) (aV _ (nm 11 (by omega)) ?_)))))))))
 exact fun s hs=>⟨hs,fun e=>by cases e⟩
end
theorem yld_stm (n:Nat):Yld n SQ (stmP n):=yld_stmt (pK n) (o7 n)
end
end Go.Proofs.YtjigcpfjhfoheaaGreatDoor
