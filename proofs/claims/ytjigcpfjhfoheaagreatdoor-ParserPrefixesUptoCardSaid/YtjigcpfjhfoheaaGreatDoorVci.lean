/- The parser reads the tokens of a SELECT statement; The parser reads the tokens of a well-formed statement as that statement, apart from indexes; Round trips: the canonical text of a valid statement, or expression, is read as it; s. -/
import Derived.Test.YtjigcpfjhfoheaaGreatDoorVch
namespace Go.Proofs.YtjigcpfjhfoheaaGreatDoor
open Go.RowKit List Go.Proofs.Tryz
set_option maxHeartbeats 1000000
set_option maxRecDepth 100000
set_option linter.unusedVariables false
set_option linter.unusedSimpArgs false
section
open Lx (Tk isDigit isLetter inWord spanN isPrint)
theorem fO.f0 {j:Nat} {R:List Tk} (h:fO j R):F0 ⟨R,false⟩:=by
 obtain⟨g,a,l,rfl,b⟩:=h
 unfold F0
 rw[ob (k:=(er a).1) (x:=(er a).2) rfl]
 unfold stI at b
 unfold ctl
 by_cases f:(er a).1=2∨(er a).1=5
 ·rw[if_pos f]at b ⊢
  simp only
  split at b
  ·next e=>rw[e];decide
  split at b
  ·next e=>rw[e];decide
  split at b
  ·next e=>rw[e];decide
  split at b
  ·next e=>rw[e];decide
  split at b
  ·next e=>rw[e];decide
  ·omega
 ·rw[if_neg f]
theorem mQ {i j:Nat} {ts R:List Tk} {K:List Kt} (h:ts.map er=K) (e:K= []∨∃k l,K=k::l∧i≤stI k) (hi:1≤i) (b:i≤j) (f:fO j R):fO i (ts++R):=by
 rcases e with rfl|⟨k,l,rfl,hk⟩
 ·obtain rfl:=List.map_eq_nil_iff.1 h
  exact f.le hi b
 ·obtain⟨a,m,rfl,g,_⟩:=ao h
  exact⟨hi,a,m++R,rfl,by rw[g];exact hk⟩
theorem whr_K (s:St):s.whK= []∨∃k l,s.whK=k::l∧1≤stI k:=by
 unfold St.whK
 split
 ·exact .inl rfl
 ·exact .inr ⟨_,_,rfl,by decide⟩
theorem qG {n:Nat} {s:St} (h:s.whr.absent=true∨s.whr.formed=true) {ts R:List Tk} (b:ts.map er=s.whK) (i:ts.length<n) (e:fO 2 R):whrP (exprP n) ⟨ts++R,false⟩=(s.wh0,⟨R,false⟩):=by
 unfold St.whK at b
 unfold St.wh0
 unfold whrP ifM
 split at b
 ·next ha=>
  rw[if_pos ha]
  obtain rfl:=List.map_eq_nil_iff.1 b
  rw[nil_append,e.not (by decide),if_neg (by simp)]
  rfl
 ·next ha=>
  rw[if_neg ha]
  obtain⟨a,j,rfl,g,f⟩:=ao b
  simp only[length_cons]at i
  rw[cons_append,dW (.inl rfl) eH g,if_pos rfl,next_at,rd_expr (h.resolve_left ha) f (by omega) e.f0]
theorem cond_eq (ex:M Ex) (s:Ps):cr ex andL [] s=whrP ex s:=by
 unfold cr whrP ifM
 split<;>rfl
theorem grp_K (l:List Ex):(if l.length=0 then ([]:List Kt)else (2,[71,82,79,85,80])::(2,[66,89])::exsK l)= []∨∃k r,(if l.length=0 then ([]:List Kt)else (2,[71,82,79,85,80])::(2,[66,89])::exsK l)=k::r∧2≤stI k:=by
 split
 ·exact .inl rfl
 ·exact .inr ⟨_,_,rfl,by decide⟩
theorem ord_K (l:List Ord'):(if l.length=0 then ([]:List Kt)else (2,[79,82,68,69,82])::(2,[66,89])::cmK (l.map Ord'.tk))= []∨∃k r,(if l.length=0 then ([]:List Kt)else (2,[79,82,68,69,82])::(2,[66,89])::cmK (l.map Ord'.tk))=k::r∧3≤stI k:=by
 split
 ·exact .inl rfl
 ·exact .inr ⟨_,_,rfl,by decide⟩
theorem lim_K (n:Int):(if 0<n then [(2,[76,73,77,73,84]),numK n]else ([]:List Kt))= []∨∃k r,(if 0<n then [(2,[76,73,77,73,84]),numK n]else ([]:List Kt))=k::r∧4≤stI k:=by
 split
 ·exact .inr ⟨_,_,rfl,by decide⟩
 ·exact .inl rfl
theorem grp_read {l:List Ex} (h:l.all gJ=true) {ts R:List Tk} (f:ts.map er=(if l.length=0 then ([]:List Kt)else (2,[71,82,79,85,80])::(2,[66,89])::exsK l)) (g:fO 3 R):fT ⟨ts++R,false⟩=(l.map Ex.st0,⟨R,false⟩):=by
 unfold fT ifM
 split at f
 ·next hl=>
  obtain rfl:=eq_nil_of_length_eq_zero hl
  obtain rfl:=List.map_eq_nil_iff.1 f
  rw[nil_append,g.not (by decide),if_neg (by simp)]
  rfl
 ·next hl=>
  obtain⟨a,i,rfl,m,j⟩:=ao f
  obtain⟨b,i,rfl,hb,k⟩:=ao j
  rw[cons_append,dW (.inl rfl) iw m,if_pos rfl,next_at]
  show listP colP (needP kBY ⟨b::i++R,false⟩)=_
  rw[cons_append,need_at (.inl rfl) kBY hb]
  exact fy (n:=i.length+1) fwd_col (tok:=fun e:Ex=>e.tk 1) (val:=Ex.st0) (Fol:=F0) f0_cm (fun e=>hl (by rw[e];rfl)) (fun x o=>col_read (List.all_eq_true.1 h x o)) k (Nat.lt_succ_self _) g.f0 (g.not (by decide))
theorem ords_read {l:List Ord'} (h:l.all Ord'.ok=true) {ts R:List Tk} (f:ts.map er=(if l.length=0 then ([]:List Kt)else (2,[79,82,68,69,82])::(2,[66,89])::cmK (l.map Ord'.tk))) (g:fO 4 R):da posP ⟨ts++R,false⟩=(l,⟨R,false⟩):=by
 unfold da ifM
 split at f
 ·next hl=>
  obtain rfl:=eq_nil_of_length_eq_zero hl
  obtain rfl:=List.map_eq_nil_iff.1 f
  rw[nil_append,g.not (by decide),if_neg (by simp)]
  rfl
 ·next hl=>
  obtain⟨a,j,rfl,i,m⟩:=ao f
  obtain⟨b,j,rfl,hb,o⟩:=ao m
  rw[cons_append,dW (.inl rfl) iy i,if_pos rfl,next_at]
  show listP (dG posP) (needP kBY ⟨b::j++R,false⟩)=_
  rw[cons_append,need_at (.inl rfl) kBY hb]
  have fw:Fwd (dG posP):=az fwd_pos fun _=>de _ (aK _) (de _ (aK _) (aK _))
  have k:=fy (n:=j.length+1) fw (tok:=Ord'.tk) (val:=fun x=>x) (Fol:=fun s=>isS kASC s=false∧isS jJ s=false) (fun a R i=>⟨by rw[isS_eq (.inr rfl) kASC i];decide,by rw[isS_eq (.inr rfl) jJ i];decide⟩)
   (fun e=>hl (by rw[e];rfl)) (fun x r=>ord_read (List.all_eq_true.1 h x r)) o (Nat.lt_succ_self _) (R:=R) ⟨g.not (by decide),g.not (by decide)⟩ (g.not (by decide))
  rw[map_id']at k
  exact k
theorem lim_read {n:Int} (h:0≤n) {ts R:List Tk} (e:ts.map er=(if 0<n then [(2,[76,73,77,73,84]),numK n]else ([]:List Kt))) (g:fO 5 R):limP posP ⟨ts++R,false⟩=(n,⟨R,false⟩):=by
 unfold limP ifM
 split at e
 ·obtain⟨a,j,rfl,i,f⟩:=ao e
  obtain⟨b,rfl,hb⟩:=aT f
  rw[cons_append,dW (.inl rfl) ln i,if_pos rfl,next_at,singleton_append,pos_read (by omega) hb]
 ·obtain rfl:=List.map_eq_nil_iff.1 e
  rw[nil_append,g.not (by decide),if_neg (by simp)]
  have:n=0:=by omega
  rw[this]
  rfl
theorem tP (ex:M Ex) (s:Ps):fromP ex s=fromGo ex (s.r.length+1) [(srcP s).1] [] (srcP s).2:=rfl
theorem frm_go {n:Nat} {R:List Tk} (g:fO 1 R):∀(f:List Src) (m:Nat) (o:List Src) (ts:List Tk),(∀x∈f,x.ok=true)→ts.map er=(f.map Src.tk).flatMap (fun y=> (5,[44])::y)→ts.length<m→
  fromGo (exprP n) m o [] ⟨ts++R,false⟩=((o++f,[]),⟨R,false⟩)∧isS kAS ⟨ts++R,false⟩=false
 |_,0,_,_,_,_,h=>absurd h (Nat.not_lt_zero _)
 | [],m+1,o,ts,_,h,_=>by
  obtain rfl:=List.map_eq_nil_iff.1 h
  rw[nil_append,gU,g.not (by decide),if_neg (by simp),g.not (by decide),if_neg (by simp),append_nil]
  exact⟨rfl,g.not (by decide)⟩
 |x::f,m+1,o,ts,hx,h,hm=>by
  rw[map_cons,flatMap_cons]at h
  obtain⟨b,i,rfl,l,r⟩:=bu h
  obtain⟨a,b,rfl,j,s⟩:=ao l
  simp only[length_append,length_cons]at hm
  have e:a::b++i++R=a::(b++(i++R)):=by simp
  have k:=frm_go (n:=n) g f m (o++ [x]) i (fun y t=>hx y (mem_cons_of_mem _ t)) r (by omega)
  have u:=vN (n:=b.length+1) (hx x mem_cons_self) b (i++R) s (Nat.lt_succ_self _) k.2
  rw[e,gU,dW (.inr rfl) yCm j,if_pos rfl,next_at,u]
  refine⟨?_,by rw[isS_eq (.inr rfl) kAS j];decide⟩
  rw[k.1]
  simp
theorem frm_read {n:Nat} {a:List Src} (i:0<a.length) (j:∀x∈a,x.ok=true) {ts R:List Tk} (b:ts.map er=cmK (a.map Src.tk)) (o:fO 1 R):fromP (exprP n) ⟨ts++R,false⟩=((a,[]),⟨R,false⟩):=by
 cases a with
 |nil=>exact absurd i (Nat.lt_irrefl _)
 |cons x a=>
  rw[map_cons,cmK]at b
  obtain⟨f,g,rfl,l,m⟩:=bu b
  have e:f++g++R=f++(g++R):=by simp
  have k:=frm_go (n:=n) o a ((f++(g++R)).length+1) [x] g (fun y r=>j y (mem_cons_of_mem _ r)) m (by simp;omega)
  have s:=vN (n:=f.length+1) (j x mem_cons_self) f (g++R) l (Nat.lt_succ_self _) k.2
  rw[tP,e,s]
  rw[k.1]
  rfl
theorem itms_read {n:Nat} {s:St} (h:s.itms.all Itm.ok=true) {ts R:List Tk} (b:ts.map er=s.itK) (y:ts.length<n) (u:F0 ⟨R,false⟩) (w:isS yCm ⟨R,false⟩=false):itmsP (exprP n) ⟨ts++R,false⟩=(s.itms.map Itm.st0,⟨R,false⟩):=by
 unfold St.itK at b
 unfold itmsP ifM
 split at b
 ·next hl=>
  rw[eq_nil_of_length_eq_zero hl]
  obtain⟨a,rfl,r⟩:=aT b
  rw[singleton_append,dW (.inr rfl) cZ r,if_pos rfl]
  rfl
 ·next hl=>
  have f:=ec n
  have fw:Fwd (cY (exprP n)):=sI _ (fun o=>az (aP _) fun _=>by split;exact de _ (az (aP _) fun _=>aK _) (az f fun _=>az (aP _) fun _=>aK _);exact az f fun _=>az (aP _) fun _=>aK _) (az f fun _=>aK _)
  have i:s.itms≠[]:=fun e=>hl (by rw[e];rfl)
  have hs:isS cZ ⟨ts++R,false⟩=false:=by
   cases hi:s.itms with
   |nil=>exact absurd hi i
   |cons x l=>
    rw[hi,map_cons,cmK]at b
    have g:=List.all_eq_true.1 h x (by rw[hi];exact mem_cons_self)
    have:∃k K,x.tk=k::K∧((k.1=2∨k.1=5)→k.2≠cZ.data.toList):=by
     unfold Itm.tk
     split
     ·exact⟨_,_,rfl,fun _=>by decide⟩
     ·next h1=>
      unfold Itm.ok at g
      rw[if_neg (by simpa using h1)]at g
      simp only[Bool.and_eq_true,decide_eq_true_eq]at g
      split
      ·obtain⟨k,K,j,m⟩:=hd_any x.ex g.2 1
       exact⟨k,K,j,fun t e=> (by decide:cZ.data.toList∉hdL) (e ▸ m t)⟩
      ·have:x.ag=2∨x.ag=3∨x.ag=4∨x.ag=5:=by omega
       refine⟨_,_,rfl,fun _=>?_⟩
       rcases this with e|e|e|e<;> (rw[e];decide)
    obtain⟨k,K,j,m⟩:=this
    rw[j,cons_append]at b
    obtain⟨a,A,rfl,r,_⟩:=ao b
    exact pY r m _
  rw[hs,if_neg (by simp)]
  exact fy (n:=n) fw (tok:=Itm.tk) (val:=Itm.st0) (Fol:=F0) f0_cm i (fun x g=>itm_read (List.all_eq_true.1 h x g)) b y u w
theorem query_eq (ex:M Ex) (s a b e j k m:Ps) (i:List Itm) (f:List Src×List Ex) (W:Ex) (g:List Ex) (o:List Ord') (l:Int) (n:itmsP ex s=(i,a)) (r:fromP ex (needP kFROM a)=(f,b)) (t:cr ex andL f.2 b=(W,e)) (u:fT e=(g,j)) (w:da posP j=(o,k)) (x:limP posP k=(l,m)):
  queryP ex posP andL s=({ stZ with kd:=5,itms:=i,frm:=f.1,whr:=W,grp:=g,ord:=o,lim:=l },m):=by
 unfold queryP ay aE aH
 simp only[n,r,t,u,w,x]
theorem sel_read {n:Nat} {s:St} (h:s.qOk=true) (O:s.whr.absent=true∨s.whr.formed=true) {a:Tk} {ts R:List Tk} (f:(a::ts).map er=s.selK) (L:ts.length<n) (y:fO 5 R):
  queryP (exprP n) posP andL ⟨ts++R,false⟩=({ stZ with kd:=5,itms:=s.itms.map Itm.st0,frm:=s.frm,whr:=s.wh0,grp:=s.grp.map Ex.st0,ord:=s.ord,lim:=s.lim },⟨R,false⟩):=by
 unfold St.qOk at h
 simp only[Bool.and_eq_true,dC,decide_eq_true_eq]at h
 obtain⟨⟨⟨⟨⟨F,E⟩,G⟩,H⟩,I⟩,J⟩:=h
 unfold St.selK at f
 rw[map_cons]at f
 obtain⟨A,r1,rfl,C,Z⟩:=bu (List.cons.inj f).2
 obtain⟨b,r1,rfl,hb,q2⟩:=ao Z
 obtain⟨l,r2,rfl,D,q3⟩:=bu q2
 obtain⟨k,r3,rfl,t,q4⟩:=bu q3
 obtain⟨j,r4,rfl,u,q5⟩:=bu q4
 obtain⟨i,g,rfl,w,x⟩:=bu q5
 simp only[length_append,length_cons]at L
 have r:fO 4 (g++R):=mQ x (lim_K _) (by omega) (by omega) y
 have o:fO 3 (i++(g++R)):=mQ w (ord_K _) (by omega) (by omega) r
 have m:fO 2 (j++(i++(g++R))):=mQ u (grp_K _) (by omega) (by omega) o
 have B:fO 1 (k++(j++(i++(g++R)))):=mQ t (whr_K _) (by omega) (by omega) m
 have P:=itms_read (n:=n) (R:=b::(l++(k++(j++(i++(g++R)))))) F C (by omega) (by unfold F0;rw[ob hb];decide) (by rw[isS_eq (.inl rfl) yCm hb];decide)
 have Q:=frm_read (n:=n) E (List.all_eq_true.1 G) D B
 have U:=qG (n:=n) O t (by omega) m
 have V:=grp_read H u o
 have W:=ords_read I w r
 have Y:=lim_read J.1 x y
 have e:A++b::(l++(k++(j++(i++g))))++R=A++b::(l++(k++(j++(i++(g++R))))):=by simp
 rw[e]
 exact query_eq (exprP n) _ _ _ _ _ _ _ _ (s.frm,[]) _ _ _ _ P (by rw[need_at (.inl rfl) kFROM hb];exact Q) (by rw[cond_eq];exact U) V W Y
end
section
open Lx (Tk isDigit isLetter inWord spanN isPrint)
theorem jC {α:Type} {m n:M α} (t:BA) {a:Tk} (h:er a=(2,t.data.toList)) (R:List Tk):ifM t m n ⟨a::R,false⟩=m ⟨R,false⟩:=by
 unfold ifM
 rw[dW (.inl rfl) t h,if_pos rfl]
 rfl
theorem aZ {α:Type} {m n:M α} (t:BA) {a:Tk} {x:List UInt8} (h:er a=(2,x)) (b:t.data.toList≠x) (R:List Tk):ifM t m n ⟨a::R,false⟩=n ⟨a::R,false⟩:=by
 unfold ifM
 rw[isS_eq (.inl rfl) t h,decide_eq_false b,if_neg (by simp)]
theorem insert_eq (ex:M Ex) (s:Ps):dz ex s=(fun t:BA×Ps=> (fun v:List (List Ex)×Ps=> (({ stZ with kd:=2,tb:=t.1,vals:=v.1 } :St),v.2)) (listP (tupP ex) (needP kVALUES t.2))) (takP 1 (needP kINTO s)):=rfl
theorem update_eq (ex:M Ex) (s:Ps):dA ex s=(fun t:BA×Ps=> (fun v:List Asg×Ps=> (fun w:Ex×Ps=> (({ stZ with kd:=3,tb:=t.1,sets:=v.1,whr:=w.1 } :St),w.2)) (whrP ex v.2)) (listP (asgP ex) (needP kSET t.2))) (takP 1 s):=rfl
theorem delete_eq (ex:M Ex) (s:Ps):dB ex s=(fun t:BA×Ps=> (fun w:Ex×Ps=> (({ stZ with kd:=4,tb:=t.1,whr:=w.1 } :St),w.2)) (whrP ex t.2)) (takP 1 (needP kFROM s)):=rfl
theorem nm_eq (k:Int) (s:Ps):nmP k s=(fun t:BA×Ps=> (({ stZ with kd:=k,nm:=t.1 } :St),t.2)) (takP 1 s):=rfl
theorem nm_at (k:Int) {s:BA} {a:Tk} (b:er a=nmK s) (R:List Tk):nmP k ⟨a::R,false⟩=({ stZ with kd:=k,nm:=s },⟨R,false⟩):=by
 rw[nm_eq,tak_at b,dh]
theorem lR {a b:St} (l:a.kd=b.kd) (m:a.tb=b.tb) (n:a.cols=b.cols) (o:a.keys=b.keys) (r:a.frs=b.frs) (s:a.chk=b.chk) (t:a.vals=b.vals) (u:a.sets=b.sets) (w:a.itms=b.itms) (e:a.frm=b.frm) (f:a.whr=b.whr) (g:a.grp=b.grp) (i:a.ord=b.ord) (j:a.lim=b.lim) (k:a.nm=b.nm):a=b:=by
 cases a;cases b;simp only at*;subst_vars;rfl
theorem aD {α β:Type} {l:List α} (f:α→β) (h:l= []):([]:List β)=l.map f:=by rw[h];rfl
theorem qH {n:Nat} {s:St} (h:s.formed=true) {ts R:List Tk} (f:ts.map er=s.tk) (G:ts.length≤n) (H:fO 5 R):stmP n ⟨ts++R,false⟩=(s.st0,⟨R,false⟩):=by
 obtain⟨⟨ac,ad⟩,f1,_,f2,_,f3,_,f5,_⟩:=cu h
 have Y:=gM h
 have L:=oY h
 have r:∀ {v:St},(v=s.st0)→(v,(⟨R,false⟩:Ps))=(s.st0,⟨R,false⟩):=fun h=>by rw[h]
 have fe:=ec n
 have z:stZ.whr=exZ:=rfl
 unfold stmP dj
 unfold St.tk at f
 by_cases B:s.kd=1
 ·rw[if_pos B]at f
  obtain⟨a,j,rfl,g,u⟩:=ao f
  simp only[length_cons]at G
  rw[cons_append,jC cq g,vQ (n:=n) (f1 B) u (by omega)]
  exact r (lR B.symm rfl rfl rfl rfl rfl (aD _ (L.vals (by omega))) (aD _ (L.sets (by omega))) (aD _ (L.sel (by omega)).1) (L.sel (by omega)).2.1.symm (L.wh (by omega) (by omega) (by omega)).symm (aD _ (L.sel (by omega)).2.2.1) (L.sel (by omega)).2.2.2.1.symm (L.sel (by omega)).2.2.2.2.symm (L.nm (by omega) (by omega) (by omega)).symm)
 rw[if_neg B]at f
 by_cases u:s.kd=2
 ·have P:=u
  rw[if_pos u]at f
  obtain⟨a,j,rfl,g,w⟩:=ao f
  obtain⟨b,j,rfl,hb,A⟩:=ao w
  obtain⟨c,j,rfl,F,i⟩:=ao A
  obtain⟨d,j,rfl,hd,y⟩:=ao i
  simp only[length_cons]at G
  simp only[cons_append]
  rw[aZ cq g (by decide),jC cM g,insert_eq,need_at (.inl rfl) kINTO hb,tak_at F,dh]
  simp only
  have U:s.vals≠[]:=by
   intro e
   unfold St.formed at h
   dsimp only at h
   simp only[Bool.and_eq_true,decide_eq_true_eq]at h
   have o:=h.1.1.1.1.2
   rw[u,e]at o
   simp at o
  have k:=fy (n:=n) (el:=tupP (exprP n)) (az (aP _) fun _=>az (fwd_list fe) fun _=>az (aP _) fun _=>aK _) (tok:=rowK) (val:=fun l:List Ex=>l.map Ex.st0) (Fol:=fun _=>True) (fun _ _ _=>trivial) U
   (fun x Z=>fun ts R B u _=>row_read (List.all_eq_true.1 (f2 P) x Z) B u) y (by omega) (R:=R) trivial (H.not (by decide))
  rw[need_at (.inl rfl) kVALUES hd,k]
  exact r (lR u.symm rfl (L.df (by omega)).1.symm (L.df (by omega)).2.1.symm (L.df (by omega)).2.2.1.symm (aD _ (L.df (by omega)).2.2.2) rfl (aD _ (L.sets (by omega))) (aD _ (L.sel (by omega)).1) (L.sel (by omega)).2.1.symm (L.wh (by omega) (by omega) (by omega)).symm (aD _ (L.sel (by omega)).2.2.1) (L.sel (by omega)).2.2.2.1.symm (L.sel (by omega)).2.2.2.2.symm (L.nm (by omega) (by omega) (by omega)).symm)
 rw[if_neg u]at f
 by_cases w:s.kd=3
 ·rw[if_pos w]at f
  obtain⟨a,j,rfl,g,A⟩:=ao f
  obtain⟨b,j,rfl,hb,i⟩:=ao A
  obtain⟨c,j,rfl,F,y⟩:=ao i
  obtain⟨j,I,rfl,E,o⟩:=bu y
  simp only[length_cons,length_append]at G
  have U:s.sets≠[]:=by
   intro e
   unfold St.formed at h
   dsimp only at h
   simp only[Bool.and_eq_true,decide_eq_true_eq]at h
   have o:=h.1.1.1.2
   rw[w,e]at o
   simp at o
  have R1:fO 1 (I++R):=mQ o (whr_K s) (by omega) (by omega) H
  have k:=fy (n:=n) (el:=asgP (exprP n)) (az (fwd_tak 1) fun _=>az (aP _) fun _=>az fe fun _=>aK _) (tok:=Asg.tk) (val:=Asg.st0) (Fol:=F0) f0_cm U (fun x Z=>asg_read (List.all_eq_true.1 (f3 w) x Z)) E (by omega) (R:=I++R) R1.f0 (R1.not (by decide))
  have k2:=qG (n:=n) Y o (by omega) (H.le (by omega) (by omega):fO 2 R)
  have e:a::b::c::(j++I)++R=a::b::c::(j++(I++R)):=by simp
  rw[e,aZ cq g (by decide),aZ cM g (by decide),jC dd g,update_eq,tak_at hb,dh]
  simp only
  rw[need_at (.inl rfl) kSET F,k]
  simp only
  rw[k2]
  exact r (lR w.symm rfl (L.df (by omega)).1.symm (L.df (by omega)).2.1.symm (L.df (by omega)).2.2.1.symm (aD _ (L.df (by omega)).2.2.2) (aD _ (L.vals (by omega))) rfl (aD _ (L.sel (by omega)).1) (L.sel (by omega)).2.1.symm rfl (aD _ (L.sel (by omega)).2.2.1) (L.sel (by omega)).2.2.2.1.symm (L.sel (by omega)).2.2.2.2.symm (L.nm (by omega) (by omega) (by omega)).symm)
 rw[if_neg w]at f
 by_cases A:s.kd=4
 ·rw[if_pos A]at f
  obtain⟨a,j,rfl,g,i⟩:=ao f
  obtain⟨b,j,rfl,hb,y⟩:=ao i
  obtain⟨c,j,rfl,F,E⟩:=ao y
  simp only[length_cons]at G
  have k2:=qG (n:=n) Y E (by omega) (H.le (by omega) (by omega):fO 2 R)
  simp only[cons_append]
  rw[aZ cq g (by decide),aZ cM g (by decide),aZ dd g (by decide),jC dP g,delete_eq,need_at (.inl rfl) kFROM hb,tak_at F,dh]
  simp only
  rw[k2]
  exact r (lR A.symm rfl (L.df (by omega)).1.symm (L.df (by omega)).2.1.symm (L.df (by omega)).2.2.1.symm (aD _ (L.df (by omega)).2.2.2) (aD _ (L.vals (by omega))) (aD _ (L.sets (by omega))) (aD _ (L.sel (by omega)).1) (L.sel (by omega)).2.1.symm rfl (aD _ (L.sel (by omega)).2.2.1) (L.sel (by omega)).2.2.2.1.symm (L.sel (by omega)).2.2.2.2.symm (L.nm (by omega) (by omega) (by omega)).symm)
 rw[if_neg A]at f
 have D:=L.df B
 have V:=L.vals u
 have S:=L.sets w
 by_cases i:s.kd=5
 ·rw[if_pos i]at f
  cases ts with
  |nil=>unfold St.selK at f;cases f
  |cons a j=>
   have g:er a=(2,[83,69,76,69,67,84]):=by unfold St.selK at f;rw[map_cons]at f;exact(List.cons.inj f).1
   simp only[length_cons]at G
   rw[cons_append,aZ cq g (by decide),aZ cM g (by decide),aZ dd g (by decide),aZ dP g (by decide),jC dQ g,sel_read (n:=n) (f5 i) Y f (by omega) H]
   exact r (lR i.symm (L.tb (by omega)).symm D.1.symm D.2.1.symm D.2.2.1.symm (aD _ D.2.2.2) (aD _ V) (aD _ S) rfl rfl rfl rfl rfl rfl (L.nm (by omega) (by omega) (by omega)).symm)
 rw[if_neg i]at f
 have Q:=L.sel i
 have W:=L.wh w A i
 have T:=L.tb (by omega)
 have one:∀k:Int,s.kd=k→s.nm=⟨#[]⟩→({ stZ with kd:=k } :St)=s.st0:=fun k O G=>lR O.symm T.symm D.1.symm D.2.1.symm D.2.2.1.symm (aD _ D.2.2.2) (aD _ V) (aD _ S) (aD _ Q.1) Q.2.1.symm W.symm (aD _ Q.2.2.1) Q.2.2.2.1.symm Q.2.2.2.2.symm G.symm
 have m:∀k:Int,s.kd=k→({ stZ with kd:=k,nm:=s.nm } :St)=s.st0:=fun k O=>lR O.symm T.symm D.1.symm D.2.1.symm D.2.2.1.symm (aD _ D.2.2.2) (aD _ V) (aD _ S) (aD _ Q.1) Q.2.1.symm W.symm (aD _ Q.2.2.1) Q.2.2.2.1.symm Q.2.2.2.2.symm rfl
 by_cases y:s.kd=6
 ·rw[if_pos y]at f
  obtain⟨a,rfl,g⟩:=aT f
  rw[singleton_append,aZ cq g (by decide),aZ cM g (by decide),aZ dd g (by decide),aZ dP g (by decide),aZ dQ g (by decide),jC gC g]
  exact r (one 6 y (L.nm (by omega) (by omega) (by omega)))
 rw[if_neg y]at f
 by_cases E:s.kd=7
 ·rw[if_pos E]at f
  obtain⟨a,rfl,g⟩:=aT f
  rw[singleton_append,aZ cq g (by decide),aZ cM g (by decide),aZ dd g (by decide),aZ dP g (by decide),aZ dQ g (by decide),aZ gC g (by decide),jC fB g]
  exact r (one 7 E (L.nm (by omega) (by omega) (by omega)))
 rw[if_neg E]at f
 by_cases o:s.kd=8
 ·rw[if_pos o]at f
  obtain⟨a,rfl,g⟩:=aT f
  rw[singleton_append,aZ cq g (by decide),aZ cM g (by decide),aZ dd g (by decide),aZ dP g (by decide),aZ dQ g (by decide),aZ gC g (by decide),aZ fB g (by decide),jC dR g]
  unfold ifM
  rw[H.not (t:=kTO) (by decide),if_neg (by simp)]
  exact r (one 8 o (L.nm (by omega) (by omega) (by omega)))
 rw[if_neg o]at f
 by_cases J:s.kd=9
 ·rw[if_pos J]at f
  obtain⟨a,j,rfl,g,i⟩:=ao f
  obtain⟨b,rfl,hb⟩:=aT i
  rw[cons_append,singleton_append,aZ cq g (by decide),aZ cM g (by decide),aZ dd g (by decide),aZ dP g (by decide),aZ dQ g (by decide),aZ gC g (by decide),aZ fB g (by decide),aZ dR g (by decide),jC ej g,nm_at 9 hb]
  exact r (m 9 J)
 rw[if_neg J]at f
 by_cases C:s.kd=10
 ·rw[if_pos C]at f
  obtain⟨a,j,rfl,g,i⟩:=ao f
  obtain⟨c,j,rfl,F,i⟩:=ao i
  obtain⟨b,rfl,hb⟩:=aT i
  rw[cons_append,cons_append,singleton_append,aZ cq g (by decide),aZ cM g (by decide),aZ dd g (by decide),aZ dP g (by decide),aZ dQ g (by decide),aZ gC g (by decide),aZ fB g (by decide),jC dR g,jC kTO F,nm_at 10 hb]
  exact r (m 10 C)
 ·rw[if_neg C]at f
  obtain⟨a,j,rfl,g,i⟩:=ao f
  obtain⟨b,rfl,hb⟩:=aT i
  rw[cons_append,singleton_append,aZ cq g (by decide),aZ cM g (by decide),aZ dd g (by decide),aZ dP g (by decide),aZ dQ g (by decide),aZ gC g (by decide),aZ fB g (by decide),aZ dR g (by decide),aZ ej g (by decide)]
  unfold fQ
  rw[jC eG g,nm_at 11 hb]
  exact r (m 11 (by omega))
end
section
open Lx (Tk isDigit isLetter inWord spanN isPrint)
theorem st0_d (e:Ex):e.st0.d= { e.d with ix:=0 } :=by cases e;rfl
theorem js:∀e:Ex,e.st0.nodes=e.nodes∧e.st0.depth=e.depth∧e.st0.pl=e.pl:=by
 intro e
 induction e using Ex.ind with
 |h d ks ih=>
  have m:nodesL (nO ks)=nodesL ks∧aJ (nO ks)=aJ ks∧plL (nO ks)=plL ks:=by
   clear d
   induction ks with
   |nil=>exact⟨rfl,rfl,rfl⟩
   |cons a l ih2=>
    obtain⟨b,f,g⟩:=ih a (by simp)
    obtain⟨i,j,k⟩:=ih2 fun e s=>ih e (by simp[s])
    rw[nO,nodesL,nodesL,aJ,aJ,plL,plL,b,f,g,i,j,k,st0_d]
    exact⟨rfl,rfl,rfl⟩
  obtain⟨n,o,r⟩:=m
  rw[Ex.st0,Ex.nodes,Ex.nodes,Ex.depth,Ex.depth,Ex.pl,Ex.pl,n,o,r]
  exact⟨rfl,rfl,rfl⟩
theorem qI (e:Ex) (r:Int):e.st0.tx r=e.tx r:=by
 unfold Ex.tx
 rw[(js e).2.2,st0_d]
theorem nodes_map (l:List Ex):nodesL (l.map Ex.st0)=nodesL l:=by
 induction l with
 |nil=>rfl
 |cons e l ih=>rw[map_cons,nodesL,nodesL,ih,(js e).1]
theorem exs_st0 (l:List Ex):exsT (l.map Ex.st0)=exsT l:=by
 unfold exsT
 rw[map_map]
 exact congrArg cma (map_congr_left fun e _=>qI e 1)
theorem mR {e:Ex} (h:e.absent=true):e.nodes=0∧e.depth=0:=by
 obtain⟨d,ks⟩:=e
 unfold Ex.absent at h
 simp only[Bool.and_eq_true,beq_iff_eq,isEmpty_iff]at h
 obtain⟨⟨⟨⟨f,_⟩,_⟩,_⟩,g⟩:=h
 have a:d.op=0:=f
 have b:ks= []:=g
 subst b
 rw[Ex.nodes,Ex.depth,if_pos a]
 exact⟨rfl,rfl⟩
theorem wh0_eq (s:St):s.wh0.nodes=s.whr.nodes∧s.wh0.depth=s.whr.depth∧s.wh0.absent=s.whr.absent:=by
 unfold St.wh0
 split
 ·next h=>rw[(mR h).1,(mR h).2,h];exact⟨rfl,rfl,rfl⟩
 ·refine⟨(js _).1,(js _).2.1,?_⟩
  cases a:s.whr with
  |mk d ks=>
   rw[Ex.st0]
   unfold Ex.absent
   show(d.op==0&&d.tb.size==0&&d.nm.size==0&&Nd.valZ { d with ix:=0 } && (nO ks).isEmpty)=(d.op==0&&d.tb.size==0&&d.nm.size==0&&d.valZ&&ks.isEmpty)
   have:(nO ks).isEmpty=ks.isEmpty:=by cases ks<;>rfl
   rw[this]
   rfl
theorem tQ {x:Itm} (h:x.ok=true):x.st0.ex.nodes=x.ex.nodes∧x.st0.ex.depth=x.ex.depth∧x.st0.tx=x.tx:=by
 unfold Itm.st0 Itm.tx
 split
 ·next h1=>
  unfold Itm.ok at h
  rw[if_pos (by simpa using h1)]at h
  rw[(mR h).1,(mR h).2,if_pos rfl]
  exact⟨rfl,rfl,rfl⟩
 ·next h1=>
  refine⟨(js _).1,(js _).2.1,?_⟩
  simp only[qI,if_neg h1]
theorem lS {α:Type} (f g:α→Ex):∀(l:List α),(∀x∈l,(f x).nodes=(g x).nodes)→nodesL (l.map f)=nodesL (l.map g)
 | [],_=>rfl
 |x::l,h=>by rw[map_cons,map_cons,nodesL,nodesL,h x mem_cons_self,lS f g l fun y a=>h y (mem_cons_of_mem _ a)]
theorem mS {α:Type} (f g:α→Ex):∀(l:List α),(∀x∈l,(f x).depth=(g x).depth)→(l.map f).any (fun e=>decide (50<e.depth))=(l.map g).any (fun e=>decide (50<e.depth))
 | [],_=>rfl
 |x::l,h=>by rw[map_cons,map_cons,any_cons,any_cons,h x mem_cons_self,mS f g l fun y a=>h y (mem_cons_of_mem _ a)]
theorem rZ:∀l:List (List Ex),(l.map fun x=>x.map Ex.st0).flatten=l.flatten.map Ex.st0
 | []=>rfl
 |x::l=>by rw[map_cons,flatten_cons,flatten_cons,map_append,rZ l]
theorem r8 {s:St} (h:s.formed=true):largeB s.st0.all=largeB s.all:=by
 have hi:∀x∈s.itms,x.ok=true:=fun x a=>by
  by_cases f:s.kd=5
  ·have b:=(cu h).2.2.2.2.2.2.2.1 f
   unfold St.qOk at b
   simp only[Bool.and_eq_true]at b
   exact List.all_eq_true.1 b.1.1.1.1.1 x a
  ·rw[((oY h).sel f).1]at a;cases a
 have e:s.st0.all=s.chk.map Ex.st0++s.vals.flatten.map Ex.st0++s.grp.map Ex.st0++s.sets.map (fun x=>x.ex.st0)++s.itms.map (fun x=>x.st0.ex)++ [s.wh0]:=by
  unfold St.all St.st0
  simp only[map_map,rZ]
  rfl
 have w:=wh0_eq s
 have g:nodesL s.st0.all=nodesL s.all:=by
  rw[e]
  unfold St.all
  simp only[dc,nodes_map]
  rw[lS (fun x:Asg=>x.ex.st0) Asg.ex s.sets fun x _=> (js _).1,lS (fun x:Itm=>x.st0.ex) Itm.ex s.itms fun x a=> (tQ (hi x a)).1]
  show _+(s.wh0.nodes+0)=_+(s.whr.nodes+0)
  rw[w.1]
 have i:s.st0.all.any (fun e=>decide (50<e.depth))=s.all.any (fun e=>decide (50<e.depth)):=by
  rw[e]
  unfold St.all
  have m:∀l:List Ex,(l.map Ex.st0).any (fun e=>decide (50<e.depth))=l.any (fun e=>decide (50<e.depth)):=fun l=>by
   have:=mS Ex.st0 (fun e=>e) l fun e _=> (js e).2.1
   simpa using this
  simp only[any_append,m]
  rw[mS (fun x:Asg=>x.ex.st0) Asg.ex s.sets fun x _=> (js _).2.1,mS (fun x:Itm=>x.st0.ex) Itm.ex s.itms fun x a=> (tQ (hi x a)).2.1]
  simp only[any_cons,any_nil,w.2.1]
 unfold largeB
 rw[g,i]
theorem wht_st0 (s:St):s.st0.whT=s.whT:=by
 unfold St.whT
 show(if s.wh0.absent=true then _ else nI++s.wh0.tx 1)=_
 rw[(wh0_eq s).2.2]
 split
 ·rfl
 ·next h=>unfold St.wh0;rw[if_neg h,qI]
theorem vR {s:St} (h:s.formed=true):s.st0.body=s.body:=by
 have hi:∀x∈s.itms,x.ok=true:=fun x b=>by
  by_cases g:s.kd=5
  ·have f:=(cu h).2.2.2.2.2.2.2.1 g
   unfold St.qOk at f
   simp only[Bool.and_eq_true]at f
   exact List.all_eq_true.1 f.1.1.1.1.1 x b
  ·rw[((oY h).sel g).1]at b;cases b
 have w:=wht_st0 s
 have c:(s.chk.map Ex.st0).map gK=s.chk.map gK:=by
  rw[map_map]
  exact map_congr_left fun e _=>by show gK e.st0=gK e;unfold gK;rw[qI]
 have v:(s.vals.map fun l=>l.map Ex.st0).map dV=s.vals.map dV:=by
  rw[map_map]
  exact map_congr_left fun l _=>by show dV (l.map Ex.st0)=dV l;unfold dV;rw[exs_st0]
 have a:(s.sets.map Asg.st0).map Asg.tx=s.sets.map Asg.tx:=by
  rw[map_map]
  exact map_congr_left fun x _=>by show x.st0.tx=x.tx;unfold Asg.tx Asg.st0;rw[qI]
 have t:(s.itms.map Itm.st0).map Itm.tx=s.itms.map Itm.tx:=by
  rw[map_map]
  exact map_congr_left fun x b=> (tQ (hi x b)).2.2
 have it:s.st0.itT=s.itT:=by
  unfold St.itT
  show(if (s.itms.map Itm.st0).length=0 then _ else cma ((s.itms.map Itm.st0).map Itm.tx))=_
  rw[length_map,t]
 have el:s.st0.elts=s.elts:=by
  unfold St.elts
  show _++(s.chk.map Ex.st0).map gK=_
  rw[c]
  rfl
 have m:s.st0.sel=s.sel:=by
  have i:s.st0.sel0=s.sel0:=by unfold St.sel0;rw[it,w];rfl
  have j:s.st0.sel1=s.sel1:=by
   unfold St.sel1
   show(if (s.grp.map Ex.st0).length=0 then s.st0.sel0 else s.st0.sel0++(_++exsT (s.grp.map Ex.st0)))=_
   rw[length_map,i,exs_st0]
  have k:s.st0.sel2=s.sel2:=by unfold St.sel2;rw[j];rfl
  unfold St.sel
  rw[k]
  rfl
 unfold St.body
 rw[m,w,el]
 show(if s.kd=1 then _ else if s.kd=2 then _++cma ((s.vals.map fun l=>l.map Ex.st0).map dV)else if s.kd=3 then _++cma ((s.sets.map Asg.st0).map Asg.tx)++s.whT else _)=_
 rw[v,a]
 rfl
theorem tR {s:St} (h:s.formed=true) (hz:s.body.size≤16384):∃ts:List Tk,ts.map er=s.tk∧Lx.tokAll s.body= .ok (ts++ [⟨0,[],s.body.size⟩]):=by
 obtain⟨ts,b,a⟩:=st_lex h [] 0 (.inl rfl)
 refine⟨ts,b,?_⟩
 unfold Lx.tokAll
 rw[if_neg (by omega)]
 rw[append_nil,Lx.T_end [] _ rfl]at a
 show Lx.T (dl s.body) 0=_
 rw[a]
 have:(dl s.body).length=s.body.size:=Array.length_toList
 simp[Lx.Ls.pre,Lx.skipN,this]
theorem tT (p:Nat) (t:List UInt8):fO 5 [⟨0,t,p⟩]:=⟨by omega,_,_,rfl,by unfold stI er;rw[if_neg (by simp)];omega⟩
theorem xr {α:Type} {m:M α} {ts:List Tk} {a:Tk} {v:α} (b:a.kind=0) (h:m ⟨ts++ [a],false⟩=(v,⟨[a],false⟩)):eM m (ts++ [a])= .inr v:=by
 have e:endP ⟨[a],false⟩=⟨[a],false⟩:=by
  unfold endP hasK Ps.hd
  simp[b]
 unfold eM
 rw[h]
 simp only
 rw[e,if_neg (by simp)]
theorem kj {s:St} (h:validS s=0):largeB s.all=false∧s.formed=true∧s.body.size≤16384:=by
 unfold validS at h
 cases b:largeB s.all with
 |true=>rw[b]at h;simp at h
 |false=>
  rw[b]at h
  cases a:s.formed with
  |false=>rw[a]at h;simp at h
  |true=>
   rw[a]at h
   simp only[Bool.false_eq_true,if_false,Bool.true_eq_false]at h
   refine⟨rfl,rfl,?_⟩
   split at h
   ·omega
   ·omega
theorem vS {s:St} (a:largeB s.all=false) (b:s.formed=true) (e:s.body.size≤16384):validS s=0:=by
 unfold validS
 rw[a,b,if_neg (by simp),if_neg (by simp),if_neg (by omega)]
theorem oJ {s:BA} {L:List Tk} (h:Lx.tokAll s= .ok L) {n:Nat} (a:L.length<n) (hb:(stmP n ⟨L,false⟩).2.bad=false):(stmP n ⟨L,false⟩).1.formed=true:=
 ((tm n ⟨L,false⟩ ⟨a,gt_of h⟩).2 hb).1
theorem valid_st0 {s:St} (h:validS s=0):validS s.st0=0:=by
 obtain⟨g,a,b⟩:=kj h
 refine vS (by rw[r8 a];exact g) ?_ (by rw[vR a];exact b)
 obtain⟨ts,e,f⟩:=tR a b
 have k:=qH (n:=(ts++ [(⟨0,[],s.body.size⟩:Tk)]).length+1) a e (by simp;omega) (tT s.body.size [])
 have:=oJ f (n:=(ts++ [(⟨0,[],s.body.size⟩:Tk)]).length+1) (by simp) (by rw[k])
 rw[k]at this
 exact this
theorem round_st {s:St} (h:validS s=0):parS validS s.body=(s.st0,0,0):=by
 obtain⟨g,a,f⟩:=kj h
 obtain⟨ts,b,e⟩:=tR a f
 have k:=qH (n:=(ts++ [(⟨0,[],s.body.size⟩:Tk)]).length+1) a b (by simp;omega) (tT s.body.size [])
 unfold parS
 rw[e]
 simp only
 rw[xr rfl k]
 simp only
 rw[if_pos (valid_st0 h)]
end
section
open Lx (Tk)
section
variable {ex:M Ex} (hr:Rdy ex)
include hr
end
section
variable {ex:M Ex} (hr:Rdy ex)
include hr
theorem vT:Rdy (asgP ex):=ah (rdy_tak (by omega)) fun _=>ah (ar _) fun _=>ah hr fun _=>aj _
end
end
section
open Lx (Tk)
def Okk (a:Tk):Prop:=a.kind≠0∧(a.kind=1→a.text≠[])
def Out {α:Type} (z:Tk) (X:List Tk) (k:Nat) (B:α→α→Prop) (x x':α×Ps):Prop:=
 (∃A b,A≠[]∧A.length≤k∧(∀a∈A,Okk a)∧x.2=⟨A++ [z],b⟩∧x'.2=⟨A++X,b⟩∧x.1=x'.1)∨(x.2.r= [z]∧(x.2.bad=false→x'.2.bad=false→B x.1 x'.1))
def Pf {α:Type} (z:Tk) (X:List Tk) (K:Nat) (B:α→α→Prop) (m m':M α):Prop:=∀(A:List Tk) (b:Bool),A.length≤K→(∀a∈A,Okk a)→Out z X A.length B (m ⟨A++ [z],b⟩) (m' ⟨A++X,b⟩)
def Em {α:Type} (z:Tk) (B:α→α→Prop) (m m':M α):Prop:=∀(b:Bool) (s':Ps),(m ⟨[z],b⟩).2.bad=false→(m' s').2.bad=false→B (m ⟨[z],b⟩).1 (m' s').1
def Zb {α:Type} (z:Tk) (m:M α):Prop:=∀b:Bool,(m ⟨[z],b⟩).2.bad=true
theorem Out.imp {α:Type} {z:Tk} {X:List Tk} {k l:Nat} {B C:α→α→Prop} {x e:α×Ps} (h:Out z X k B x e) (g:k≤l) (f:∀v u,B v u→C v u):Out z X l C x e:=by
 rcases h with ⟨A,b,h1,h2,h3⟩|⟨h1,h2⟩
 ·exact .inl ⟨A,b,h1,Nat.le_trans h2 g,h3⟩
 ·exact .inr ⟨h1,fun a c=>f _ _ (h2 a c)⟩
section
variable {z:Tk} (hz:z.kind=0)
include hz
theorem ch (t:BA) (b:Bool):isS t ⟨[z],b⟩=false:=by
 unfold isS Ps.hd
 simp[hz]
theorem og {k:Nat} (a:k≠0) (b:Bool):hasK k ⟨[z],b⟩=false:=by
 unfold hasK Ps.hd
 have:¬z.kind=k:=by omega
 simp[this]
theorem mT (l:List (BA×Int)) (b:Bool):firstP l ⟨[z],b⟩=(none,⟨[z],b⟩):=by
 induction l with
 |nil=>rfl
 |cons a l ih=>rw[firstP,ch hz,if_neg (by simp),ih]
theorem ff {s:Ps} {b:Bool} (h:Sfx ⟨[z],b⟩ s):s.r= [z]:=by
 obtain⟨A,e,f⟩:=h
 cases A with
 |nil=>exact e.symm
 |cons a A=>
  have g: [z]=a::(A++s.r):=e
  injection g with h4 h5
  exact absurd (h4 ▸ hz) (f a mem_cons_self)
theorem z_rdy {α:Type} {m:M α} (h:Rdy m) (b:Bool):(m ⟨[z],b⟩).2=⟨[z],(m ⟨[z],b⟩).2.bad⟩:=by
 have:=ff hz (h.sfx ⟨[z],b⟩)
 generalize (m ⟨[z],b⟩).2=s at this
 obtain⟨r,c⟩:=s
 simp only at this
 rw[this]
theorem ei (t:BA):Zb z (aE t):=fun b=>by
 show(needP t ⟨[z],b⟩).bad=true
 unfold needP
 rw[ch hz,if_neg (by simp)]
 rfl
theorem kl {k:Nat} (a:k≠0):Zb z (takP k):=fun b=>by
 unfold takP
 rw[og hz a,if_neg (by simp)]
 rfl
theorem zb_num:Zb z numP:=fun b=>kl hz (by omega) b
theorem zb_pos:Zb z posP:=fun b=>by
 unfold posP
 rw[og hz (by omega)]
 exact zb_num hz b
omit hz in
theorem cG {α β:Type} {m:M α} {f:α→M β} (h:Zb z m) (e:∀a,Stk (f a)):Zb z (ay m f):=fun b=>by
 show(f (m ⟨[z],b⟩).1 (m ⟨[z],b⟩).2).2.bad=true
 rw[e _ _ (h b)]
 exact h b
theorem zb_bnd2 {α β:Type} {m:M α} {f:α→M β} (h:Rdy m) (e:∀a,Zb z (f a)):Zb z (ay m f):=fun b=>by
 show(f (m ⟨[z],b⟩).1 (m ⟨[z],b⟩).2).2.bad=true
 rw[z_rdy hz h b]
 exact e _ _
theorem zb_if {α:Type} (t:BA) (m:M α) {n:M α} (h:Zb z n):Zb z (ifM t m n):=fun b=>by
 unfold ifM
 rw[ch hz,if_neg (by simp)]
 exact h b
omit hz in
theorem mU {α:Type} {el:M α} (h:Zb z el):Zb z (listP el):=fun b=>by
 unfold listP
 rw[dK el _ _ _ (h b)]
 exact h b
omit hz in
theorem mV {el:M Ex} (h:Zb z el) (ops:List (BA×Int)):Zb z (chainP el ops):=fun b=>by
 unfold chainP
 rw[db el ops _ _ _ (h b)]
 exact h b
theorem zb_col:Zb z colP:=fun b=>by
 have h:=kl hz (k:=1) (by omega) b
 unfold colP
 rw[bad_isS h,if_neg (by simp)]
 exact h
theorem mW (a:M Ex):Zb z (aG a):=fun b=>by
 unfold aG
 rw[og hz (by omega),og hz (by omega),ch hz,ch hz,ch hz]
 simpa using zb_col hz b
theorem zb_una {p:M Ex} (h:Zb z p):Zb z (unaP p):=fun b=>by
 unfold unaP
 rw[ch hz,if_neg (by simp)]
 exact h b
theorem zb_sum {p:M Ex} (h:Zb z p):Zb z (sumP p):=mV (mV (zb_una hz h) _) _
theorem tU {p:M Ex} (h:Zb z p):Zb z (testP p):=fun b=>by
 unfold testP
 rw[iG _ _ _ (zb_sum hz h b)]
 exact zb_sum hz h b
theorem zb_notGo {p:M Ex} (h:Zb z p):∀n,Zb z (notGo p n)
 |0=>tU hz h
 |n+1=>fun b=>by
  rw[notGo,ch hz,if_neg (by simp)]
  exact tU hz h b
theorem zb_not {p:M Ex} (h:Zb z p):Zb z (notP p):=fun b=>zb_notGo hz h _ b
theorem zb_or {p:M Ex} (h:Zb z p):Zb z (orP p):=mV (mV (zb_not hz h) _) _
theorem zb_expr (n:Nat):Zb z (exprP (n+1)):=zb_or hz (mW hz _)
omit hz in
theorem Zb.em {α:Type} {m:M α} (h:Zb z m) (B:α→α→Prop) (e:M α):Em z B m e:=fun b f a _=>by rw[h b]at a;cases a
omit hz in
theorem bC {α:Type} {B:α→α→Prop} {v u:α} (h:B v u):Em z B (aH v) (aH u):=fun _ _ _ _=>h
theorem jt {α β:Type} {C:α→α→Prop} {B:β→β→Prop} {m i:M α} {f g:α→M β} (h:Em z C m i) (hr:Rdy m) (o:∀v u,C v u→Em z B (f v) (g u)) (y:∀a,Stk (f a)) (j:∀a,Stk (g a)):Em z B (ay m f) (ay i g):=fun b n k l=>by
 have r:=eg (y _) (s:=(m ⟨[z],b⟩).2) k
 have t:=eg (j _) (s:=(i n).2) l
 have w:=h b n r t
 have x:=z_rdy hz hr b
 show B (f (m ⟨[z],b⟩).1 (m ⟨[z],b⟩).2).1 _
 have e:(f (m ⟨[z],b⟩).1 (m ⟨[z],b⟩).2).2.bad=false:=k
 rw[x]at e ⊢
 exact o _ _ w _ _ e l
theorem km {α:Type} {B:α→α→Prop} (t:BA) (m:M α) {n g:M α} (h:Em z B n g):Em z B (ifM t m n) g:=fun b i a f=>by
 have e:ifM t m n ⟨[z],b⟩=n ⟨[z],b⟩:=by
  unfold ifM
  rw[ch hz,if_neg (by simp)]
 rw[e]at a ⊢
 exact h b i a f
omit hz in
theorem ju {α:Type} {B:α→α→Prop} (t:BA) {n f g:M α} (i:Em z B n f) (j:Em z B n g):Em z B n (ifM t f g):=fun b k e a=>by
 unfold ifM at a ⊢
 split at a
 ·next h=>rw[if_pos h];exact i b _ e a
 ·next h=>rw[if_neg h];exact j b _ e a
omit hz in
theorem mX {α β:Type} {B:β→β→Prop} {n:M β} {g:M α} {a:α→M β} (h:∀u,Em z B n (a u)):Em z B n (ay g a):=fun b i e f=>h _ b _ e f
variable {X:List Tk} {K:Nat}
omit hz in
theorem cJ {α:Type} {B:α→α→Prop} {v:α} (h:B v v):Pf z X K B (aH v) (aH v):=fun A b f e=>by
 cases A with
 |nil=>exact .inr ⟨rfl,fun _ _=>h⟩
 |cons a l=>exact .inl ⟨a::l,b,by simp,Nat.le_refl _,e,rfl,rfl,rfl⟩
omit hz in
theorem hd_app (a:Tk) (l R:List Tk) (b:Bool):(⟨a::l++R,b⟩:Ps).hd=a:=rfl
omit hz in
theorem bD (t:BA) (a:Tk) (l R e:List Tk) (b:Bool):isS t ⟨a::l++R,b⟩=isS t ⟨a::l++e,b⟩:=rfl
omit hz in
theorem iS {α:Type} {B:α→α→Prop} (e:∀v,B v v) (v:α) (a:Tk) (l:List Tk) (b:Bool) (f:∀x∈a::l,Okk x):Out z X (a::l).length B (v,(⟨a::l++ [z],b⟩:Ps).next) (v,(⟨a::l++X,b⟩:Ps).next):=by
 cases l with
 |nil=>exact .inr ⟨rfl,fun _ _=>e v⟩
 |cons c r=>exact .inl ⟨c::r,b,by simp,by simp,fun x g=>f x (mem_cons_of_mem _ g),rfl,rfl,rfl⟩
omit hz in
theorem cE {α:Type} {B:α→α→Prop} (v:α) (a:Tk) (l:List Tk) (b c:Bool) (e:∀x∈a::l,Okk x):Out z X (a::l).length B (v,(⟨a::l++ [z],c⟩:Ps)) (v,(⟨a::l++X,c⟩:Ps)):= .inl ⟨a::l,c,by simp,Nat.le_refl _,e,rfl,rfl,rfl⟩
theorem cP {B:Unit→Unit→Prop} (f:∀v,B v v) (t:BA):Pf z X K B (aE t) (aE t):=fun A b g e=>by
 cases A with
 |nil=>exact .inr ⟨ff hz (sfx_need t _),fun h _=>absurd ((ei hz t b).symm.trans h) (by decide)⟩
 |cons a l=>
  unfold aE needP
  rw[bD t a l [z] X b]
  split
  ·exact iS f () a l b e
  ·exact cE () a l b true e
theorem fP {B:BA→BA→Prop} (i:∀v,B v v) {k:Nat} (f:k≠0):Pf z X K B (takP k) (takP k):=fun A b j g=>by
 cases A with
 |nil=>exact .inr ⟨ff hz ((rdy_tak f).sfx _),fun h _=>absurd ((kl hz f b).symm.trans h) (by decide)⟩
 |cons a l=>
  unfold takP
  have e:hasK k ⟨a::l++ [z],b⟩=hasK k ⟨a::l++X,b⟩:=rfl
  rw[e]
  split
  ·exact iS i (tkB a) a l b g
  ·exact cE _ a l b true g
theorem tV {B:Int→Int→Prop} (g:∀v,B v v):Pf z X K B numP numP:=fun A b i f=>by
 cases A with
 |nil=>exact .inr ⟨ff hz (rdy_num.sfx _),fun h _=>absurd ((zb_num hz b).symm.trans h) (by decide)⟩
 |cons a l=>
  unfold numP takP
  have e:hasK 3 ⟨a::l++ [z],b⟩=hasK 3 ⟨a::l++X,b⟩:=rfl
  rw[e]
  split
  ·exact iS g (digV (tkB a)) a l b f
  ·exact cE _ a l b true f
theorem pf_pos {B:Int→Int→Prop} (f:∀v,B v v):Pf z X K B posP posP:=fun A b i g=>by
 cases A with
 |nil=>exact .inr ⟨ff hz (kF.sfx _),fun h _=>absurd ((zb_pos hz b).symm.trans h) (by decide)⟩
 |cons a l=>
  unfold posP
  have e:(hasK 3 ⟨a::l++ [z],b⟩&&digV (tkB (⟨a::l++ [z],b⟩:Ps).hd)==0)=(hasK 3 ⟨a::l++X,b⟩&&digV (tkB (⟨a::l++X,b⟩:Ps).hd)==0):=rfl
  rw[e]
  split
  ·exact tV hz f (K:=(a::l).length) (a::l) true (Nat.le_refl _) g
  ·exact tV hz f (K:=(a::l).length) (a::l) b (Nat.le_refl _) g
theorem bj {α β:Type} {C:α→α→Prop} {B:β→β→Prop} {m a:M α} {f e:α→M β} (h:Pf z X K C m a) (n:∀v,Pf z X K B (f v) (e v)) (l:∀v u,C v u→Em z B (f v) (e u)) (t:∀v,Rdy (f v)) (x:∀v,Stk (f v)) (g:∀v,Stk (e v)):Pf z X K B (ay m f) (ay a e):=fun A b k o=>by
 show Out z X A.length B (f (m ⟨A++ [z],b⟩).1 (m ⟨A++ [z],b⟩).2) (e (a ⟨A++X,b⟩).1 (a ⟨A++X,b⟩).2)
 rcases h A b k o with ⟨A1,b1,n1,l1,k1,e1,e2,e3⟩|⟨e1,e2⟩
 ·rw[e1,e2,←e3]
  exact(n _ A1 b1 (Nat.le_trans l1 k) k1).imp l1 fun _ _ h=>h
 ·generalize (m ⟨A++ [z],b⟩).1=v at*
  generalize (a ⟨A++X,b⟩).1=u at*
  generalize (a ⟨A++X,b⟩).2=w at*
  generalize (m ⟨A++ [z],b⟩).2=s at*
  obtain⟨r,c⟩:=s
  simp only at e1 e2
  subst e1
  exact .inr ⟨ff hz ((t v).sfx _),fun i j=>l v u (e2 (eg (x v) i) (eg (g u) j)) c w i j⟩
theorem kn {α:Type} {B:α→α→Prop} (t:BA) {m f n g:M α} (s:Pf z X K B m f) (u:Pf z X K B n g) (r:Em z B n (ifM t f g)) (y:Rdy n):Pf z X K B (ifM t m n) (ifM t f g):=fun A b i j=>by
 cases A with
 |nil=>
  have e:ifM t m n ⟨[z],b⟩=n ⟨[z],b⟩:=by
   unfold ifM
   rw[ch hz,if_neg (by simp)]
  rw[nil_append,e]
  exact .inr ⟨ff hz (y.sfx _),fun k o=>r b _ k o⟩
 |cons a l=>
  unfold ifM
  rw[bD t a l [z] X b]
  split
  ·simp only[length_cons]at i ⊢
   exact(s l b (by omega) fun x w=>j x (mem_cons_of_mem _ w)).imp (by omega) fun _ _ h=>h
  ·exact u (a::l) b i j
end
structure Bx (v u:Ex):Prop where
 nd:v.nodes≤u.nodes
 dp:v.depth≤u.depth
 tx:∀r,(v.tx r).size≤(u.tx r).size
theorem Bx.refl (v:Ex):Bx v v:=⟨Nat.le_refl _,Nat.le_refl _,fun _=>Nat.le_refl _⟩
theorem Bx.trans {a b c:Ex} (h:Bx a b) (k:Bx b c):Bx a c:=⟨Nat.le_trans h.nd k.nd,Nat.le_trans h.dp k.dp,fun r=>Nat.le_trans (h.tx r) (k.tx r)⟩
theorem tx_any (e:Ex) (r q:Int):(e.tx r).size≤(e.tx q).size+2:=by
 have a:=jF e.d.op e.pl r
 have b:e.pl.size≤(e.tx q).size:=by
  unfold Ex.tx brk
  split
  ·simp only[ByteArray.size_append];omega
  ·exact Nat.le_refl _
 unfold Ex.tx at*
 omega
theorem tx_pl (e:Ex) (r:Int):e.pl.size≤(e.tx r).size:=by
 unfold Ex.tx brk
 split
 ·simp only[ByteArray.size_append];omega
 ·exact Nat.le_refl _
def Bin (o:Int):Prop:=4≤o∧o≤8∨10≤o∧o≤16∨o=18∨o=19
theorem pl_two {o:Int} (h:Bin o) (a b:Ex):(opE o [a,b]).pl.size=(a.tx (if lvl o=4 then 5 else lvl o)).size+1+(sgn o).size+1+(b.tx (lvl o+1)).size:=by
 have e:o≠1∧o≠2∧o≠3∧o≠9∧o≠17∧o≠20:=by unfold Bin at h;omega
 unfold opE
 rw[Ex.pl]
 unfold plD
 simp only[plL,getD_cons_zero,getD_cons_succ]
 rw[if_neg e.1,if_neg e.2.1,if_neg e.2.2.1,if_neg e.2.2.2.1,if_neg e.2.2.2.2.1,if_neg e.2.2.2.2.2]
 simp only[ByteArray.size_append]
 rfl
theorem nd_two {o:Int} (h:o≠0) (a b:Ex):(opE o [a,b]).nodes=1+(a.nodes+b.nodes)∧(opE o [a,b]).depth=1+max a.depth b.depth:=by
 unfold opE
 rw[Ex.nodes,Ex.depth]
 simp only[nodesL,aJ]
 rw[if_neg h]
 omega
theorem nd_one {o:Int} (h:o≠0) (a:Ex):(opE o [a]).nodes=1+a.nodes∧(opE o [a]).depth=1+a.depth:=by
 unfold opE
 rw[Ex.nodes,Ex.depth]
 simp only[nodesL,aJ]
 rw[if_neg h]
 omega
theorem tx_op {o:Int} {ks ls:List Ex} (h:(opE o ks).pl.size≤(opE o ls).pl.size) (r:Int):((opE o ks).tx r).size≤((opE o ls).tx r).size:=by
 show(brk o (opE o ks).pl r).size≤(brk o (opE o ls).pl r).size
 unfold brk
 split
 ·simp only[ByteArray.size_append];omega
 ·exact h
theorem Bin.ne {o:Int} (h:Bin o):o≠0:=by unfold Bin at h;omega
theorem bx_left {o:Int} (h:Bin o) (u y:Ex):Bx u (opE o [u,y]):=by
 have a:=nd_two h.ne u y
 refine⟨by omega,by omega,fun r=>?_⟩
 have b:=pl_two h u y
 have e:=tx_pl (opE o [u,y]) r
 have f:=tx_any u r (if lvl o=4 then 5 else lvl o)
 omega
theorem fI {o:Int} (h:Bin o) (e:Ex) {v u:Ex} (k:Bx v u):Bx (opE o [e,v]) (opE o [e,u]):=by
 have a:=nd_two h.ne e v
 have b:=nd_two h.ne e u
 have f:=k.nd
 have g:=k.dp
 refine⟨by omega,by omega,tx_op ?_⟩
 rw[pl_two h,pl_two h]
 have:=k.tx (lvl o+1)
 omega
theorem pl_one {o:Int} (h:o=3∨o=17∨o=20) (a:Ex):∃(r:Int) (c:Nat),1≤c∧(o≠3→4≤c)∧∀a:Ex,(opE o [a]).pl.size=(a.tx r).size+c:=by
 rcases h with rfl|rfl|rfl
 ·refine⟨8,1,by omega,by omega,fun a=>?_⟩
  unfold opE
  rw[Ex.pl]
  unfold plD
  simp only[plL,getD_cons_zero,↓reduceIte,Int.reduceEq]
  rw[ByteArray.size_append]
  show 1+(a.tx 8).size=_
  omega
 ·refine⟨5,8,by omega,by omega,fun a=>?_⟩
  unfold opE
  rw[Ex.pl]
  unfold plD
  simp only[plL,getD_cons_zero,↓reduceIte,Int.reduceEq]
  rw[ByteArray.size_append]
  rfl
 ·refine⟨3,4,by omega,by omega,fun a=>?_⟩
  unfold opE
  rw[Ex.pl]
  unfold plD
  simp only[plL,getD_cons_zero,↓reduceIte,Int.reduceEq]
  rw[ByteArray.size_append]
  show 4+(a.tx 3).size=_
  omega
theorem bx_one {o:Int} (h:o=3∨o=17∨o=20) {v u:Ex} (k:Bx v u):Bx (opE o [v]) (opE o [u]):=by
 have a:o≠0:=by omega
 have e:=nd_one a v
 have f:=nd_one a u
 have g:=k.nd
 have i:=k.dp
 obtain⟨r,c,_,_,b⟩:=pl_one h v
 refine⟨by omega,by omega,tx_op ?_⟩
 rw[b,b]
 have:=k.tx r
 omega
theorem bx_un {o:Int} (h:o=17∨o=20) (u:Ex):Bx u (opE o [u]):=by
 have a:o≠0:=by omega
 have f:=nd_one a u
 obtain⟨q,c,_,b,e⟩:=pl_one (o:=o) (by omega) u
 refine⟨by omega,by omega,fun r=>?_⟩
 have g:=e u
 have i:=tx_pl (opE o [u]) r
 have j:=tx_any u r q
 have:=b (by omega)
 omega
theorem tW (b:Bool) {v u:Ex} (k:Bx v u):Bx v (fK b u):=by
 cases b
 ·exact k
 ·exact k.trans (bx_un (.inr rfl) u)
theorem bx_neg2 (b:Bool) {v u:Ex} (k:Bx v u):Bx (fK b v) (fK b u):=by
 cases b
 ·exact k
 ·exact bx_one (.inr (.inr rfl)) k
theorem bin_or:∀x∈opsOr,Bin x.2:=by unfold Bin;decide
theorem bin_and:∀x∈opsAnd,Bin x.2:=by unfold Bin;decide
theorem bin_sum:∀x∈opsSum,Bin x.2:=by unfold Bin;decide
theorem bin_pro:∀x∈opsPro,Bin x.2:=by unfold Bin;decide
theorem bin_cmp:∀x∈opsCmp,Bin x.2:=by unfold Bin;decide
theorem mY {el:M Ex} {ops:List (BA×Int)} (a:∀x∈ops,Bin x.2):∀(n:Nat) (u v:Ex) (s:Ps),Bx v u→Bx v (chainGo el ops n u s).1
 |0,_,_,_,h=>h
 |n+1,u,v,s,h=>by
  rw[chainGo]
  split
  ·exact h
  ·next o hf=>
   obtain⟨t,b⟩:=co _ _ _ hf
   exact mY a n _ _ _ (h.trans (bx_left (a _ b) u _))
theorem bx_in {b:M Ex} {a:Ex} :∀(n:Nat) (u v:Ex) (s:Ps),Bx v u→Bx v (inGo b a n u s).1
 |0,_,_,_,h=>h
 |n+1,u,v,s,h=>by
  rw[inGo]
  split
  ·exact bx_in n _ _ _ (h.trans (bx_left (by unfold Bin;omega) u _))
  ·exact h
theorem bx_tail (b:M Ex) {a v:Ex} (h:Bx v a) (s:Ps):Bx v (tailP b a s).1:=by
 unfold tailP
 split
 ·next o hf=>
  obtain⟨t,e⟩:=co _ _ _ hf
  exact h.trans (bx_left (bin_cmp _ e) a _)
 split
 ·exact tW _ (h.trans (bx_un (.inl rfl) a))
 split
 ·exact tW _ (h.trans (bx_left (by unfold Bin;omega) a _))
 split
 ·exact tW _ ((h.trans (bx_left (by unfold Bin;omega) a _)).trans (bx_left (by unfold Bin;omega) _ _))
 split
 ·exact tW _ (bx_in _ _ _ _ (h.trans (bx_left (by unfold Bin;omega) a _)))
 ·exact h
section
variable {z:Tk} (hz:z.kind=0) {X:List Tk} {K:Nat}
include hz
omit hz in
theorem gu (ops:List (BA×Int)) (a:Tk) (l R:List Tk) (b:Bool):firstP ops ⟨a::l++R,b⟩=((firstP ops ⟨a::l++ [z],b⟩).1,if (firstP ops ⟨a::l++ [z],b⟩).1.isSome then ⟨l++R,b⟩else ⟨a::l++R,b⟩):=by
 induction ops with
 |nil=>rfl
 |cons y ops ih=>
  obtain⟨t,o⟩:=y
  rw[firstP,firstP,bD t a l R [z] b]
  split
  ·rfl
  ·exact ih
theorem qJ {el f:M Ex} (h:Pf z X K Bx el f) (st:Stk el) (st':Stk f) (rd:Rdy el) {ops:List (BA×Int)} (j:∀x∈ops,Bin x.2):∀(k:Nat) (A:List Tk) (b:Bool) (n g:Nat) (e:Ex),A.length≤k→A.length≤K→A.length<n→A.length<g→(∀a∈A,Okk a)→
  Out z X A.length Bx (chainGo el ops n e ⟨A++ [z],b⟩) (chainGo f ops g e ⟨A++X,b⟩)
 |k,A,b,0,_,e,_,_,h3,_,_=>absurd h3 (Nat.not_lt_zero _)
 |k,A,b,_+1,0,e,_,_,_,h4,_=>absurd h4 (Nat.not_lt_zero _)
 |k,[],b,n+1,g+1,e,_,_,_,_,hk=>by
  have i:chainGo el ops (n+1) e ⟨[]++ [z],b⟩=(e,⟨[z],b⟩):=by
   rw[nil_append,chainGo,mT hz]
  rw[i]
  exact .inr ⟨rfl,fun _ _=>mY j _ _ _ _ (Bx.refl e)⟩
 |0,a::l,b,n+1,g+1,e,h1,_,_,_,_=>absurd h1 (by simp)
 |k+1,a::l,b,n+1,g+1,e,h1,h2,h3,h4,hk=>by
  have G:∀x∈l,Okk x:=fun x I=>hk x (mem_cons_of_mem _ I)
  simp only[length_cons]at h1 h2 h3 h4
  have m:=gu (z:=z) ops a l [z] b
  have D:=gu (z:=z) ops a l X b
  rw[chainGo,chainGo,D]
  cases y:(firstP ops ⟨a::l++ [z],b⟩).1 with
  |none=>exact cE e a l b b hk
  |some o=>
   rw[y]at m
   rw[m]
   obtain⟨t,H⟩:=co _ _ _ y
   simp only[Option.isSome_some,if_true]
   rcases h l b (by omega) G with ⟨A1,b1,n1,l1,k1,i,e2,e3⟩|⟨i,e2⟩
   ·rw[i,e2,←e3]
    exact(qJ h st st' rd j k A1 b1 n g _ (by omega) (by omega) (by omega) (by omega) k1).imp (by simp only[length_cons];omega) fun _ _ h=>h
   ·generalize (el ⟨l++ [z],b⟩).1=v at*
    generalize (f ⟨l++X,b⟩).1=u at*
    generalize (f ⟨l++X,b⟩).2=B at*
    generalize (el ⟨l++ [z],b⟩).2=s at*
    obtain⟨r,c⟩:=s
    simp only at i e2
    subst i
    have C:chainGo el ops n (opE o [e,v]) ⟨[z],c⟩=(opE o [e,v],⟨[z],c⟩):=by
     cases n with
     |zero=>rfl
     |succ n=>rw[chainGo,mT hz]
    rw[C]
    refine .inr ⟨rfl,fun E w=>?_⟩
    have F:B.bad=false:=by
     cases hs:B.bad with
     |false=>rfl
     |true=>rw[db f ops g _ _ hs,hs]at w;cases w
    exact mY j _ _ _ _ (fI (j _ H) e (e2 E F))
theorem mZ {el a:M Ex} (h:Pf z X K Bx el a) (st:Stk el) (st':Stk a) (rd:Rdy el) (fw:Fwd a) {ops:List (BA×Int)} (g:∀x∈ops,Bin x.2):Pf z X K Bx (chainP el ops) (chainP a ops):=fun A b f m=>by
 unfold chainP
 rcases h A b f m with ⟨A1,b1,n1,l1,k1,e1,e2,e3⟩|⟨e1,e2⟩
 ·rw[e1,e2,←e3]
  exact(qJ hz h st st' rd g A1.length A1 b1 _ _ _ (Nat.le_refl _) (Nat.le_trans l1 f) (by simp only[length_append,length_singleton];omega) (by simp only[length_append];omega) k1).imp l1 fun _ _ h=>h
 ·generalize (el ⟨A++ [z],b⟩).1=v at*
  generalize (a ⟨A++X,b⟩).1=u at*
  generalize (a ⟨A++X,b⟩).2=i at*
  generalize (el ⟨A++ [z],b⟩).2=s at*
  obtain⟨r,c⟩:=s
  simp only at e1 e2
  subst e1
  have j:∀n,chainGo el ops n v ⟨[z],c⟩=(v,⟨[z],c⟩):=fun n=>by
   cases n with
   |zero=>rfl
   |succ n=>rw[chainGo,mT hz]
  rw[j]
  refine .inr ⟨rfl,fun k e=>?_⟩
  have l:i.bad=false:=by
   cases hs:i.bad with
   |false=>rfl
   |true=>rw[db a ops _ _ _ hs,hs]at e;cases e
  exact mY g _ _ _ _ (e2 k l)
end
end
section
open Lx (Tk)
theorem bx_col {t m:BA} (e:t.size≠0):Bx (colE ⟨#[]⟩ t) (colE t m):=by
 have a:(colE ⟨#[]⟩ t).pl=t:=rfl
 have b:(colE t m).pl=t++⟨#[46]⟩++m:=by
  unfold colE
  rw[Ex.pl]
  unfold plD
  simp only[↓reduceIte,Int.reduceEq]
  rw[if_neg e]
 refine⟨Nat.le_refl _,Nat.le_refl _,fun r=>?_⟩
 show(brk 2 (colE ⟨#[]⟩ t).pl r).size≤(brk 2 (colE t m).pl r).size
 rw[a,b]
 unfold brk
 split
 ·simp only[ByteArray.size_append];omega
 ·simp only[ByteArray.size_append];omega
section
variable {z:Tk} (hz:z.kind=0) {X:List Tk} {K:Nat}
include hz
theorem pf_col:Pf z X K Bx colP colP:=fun A b E g=>by
 cases A with
 |nil=>exact .inr ⟨ff hz (rdy_col.sfx _),fun h _=>absurd ((zb_col hz b).symm.trans h) (by decide)⟩
 |cons a l=>
  unfold colP
  have f:hasK 1 ⟨a::l++ [z],b⟩=hasK 1 ⟨a::l++X,b⟩:=rfl
  cases e:hasK 1 ⟨a::l++X,b⟩with
  |false=>
   have m:takP 1 ⟨a::l++ [z],b⟩=(⟨#[]⟩,⟨a::l++ [z],true⟩):=by unfold takP;rw[f,e];rfl
   have n:takP 1 ⟨a::l++X,b⟩=(⟨#[]⟩,⟨a::l++X,true⟩):=by unfold takP;rw[e];rfl
   rw[m,n]
   simp only
   rw[bad_isS (s:=⟨a::l++ [z],true⟩) rfl,bad_isS (s:=⟨a::l++X,true⟩) rfl,if_neg (by simp),if_neg (by simp)]
   exact cE _ a l b true g
  |true=>
   have m:takP 1 ⟨a::l++ [z],b⟩=(tkB a,⟨l++ [z],b⟩):=by unfold takP;rw[f,e];rfl
   have n:takP 1 ⟨a::l++X,b⟩=(tkB a,⟨l++X,b⟩):=by unfold takP;rw[e];rfl
   rw[m,n]
   simp only
   have i:(tkB a).size≠0:=by
    have y:a.kind=1:=by
     unfold hasK at e
     rw[hd_app]at e
     simp only[Bool.and_eq_true,beq_iff_eq]at e
     exact e.2
    have C:=(g a mem_cons_self).2 y
    intro D
    apply C
    have:a.text.length=0:=by simpa[tkB,ByteArray.size] using D
    exact eq_nil_of_length_eq_zero this
   have o:∀x∈l,Okk x:=fun x j=>g x (mem_cons_of_mem _ j)
   cases l with
   |nil=>
    rw[nil_append,ch hz,if_neg (by simp)]
    refine .inr ⟨rfl,fun _ _=>?_⟩
    show Bx (colE ⟨#[]⟩ (tkB a)) _
    split
    ·exact bx_col i
    ·exact Bx.refl _
   |cons c r=>
    rw[bD nq c r [z] X b]
    split
    ·have t:∀R:List Tk,(⟨c::r++R,b⟩:Ps).next=⟨r++R,b⟩:=fun _=>rfl
     rw[t,t]
     rcases fP hz (X:=X) (B:=Eq) (fun _=>rfl) (k:=1) (by omega) (K:=r.length) r b (Nat.le_refl _) (fun x j=>o x (mem_cons_of_mem _ j))with ⟨A1,b1,n1,l1,k1,e1,e2,e3⟩|⟨e1,e2⟩
     ·rw[e1,e2,e3]
      exact .inl ⟨A1,b1,n1,by simp only[length_cons];omega,k1,rfl,rfl,rfl⟩
     ·exact .inr ⟨e1,fun u w=>by rw[e2 u w];exact Bx.refl _⟩
    ·exact .inl ⟨c::r,b,by simp,by simp,o,rfl,rfl,rfl⟩
omit hz in
theorem eY {α β:Type} {B:α→α→Prop} {C:β→β→Prop} {k:Nat} (g:α→β) (f:∀v u,B v u→C (g v) (g u)) {x e:α×Ps} (h:Out z X k B x e):Out z X k C (g x.1,x.2) (g e.1,e.2):=by
 rcases h with ⟨A,b,h1,h2,h3,h4,h5,h6⟩|⟨h1,h2⟩
 ·exact .inl ⟨A,b,h1,h2,h3,h4,h5,congrArg g h6⟩
 ·exact .inr ⟨h1,fun a b=>f _ _ (h2 a b)⟩
theorem hH {α:Type} {B C:α→α→Prop} {k:Nat} (i:∀v,C v v) (t:BA) {x f:α×Ps} (h:Out z X k B x f):Out z X k C (x.1,needP t x.2) (f.1,needP t f.2):=by
 rcases h with ⟨A,b,h1,h2,h3,h4,h5,h6⟩|⟨h1,h2⟩
 ·rw[h4,h5,←h6]
  cases A with
  |nil=>exact absurd rfl h1
  |cons a l=>
   unfold needP
   rw[bD t a l [z] X b]
   split
   ·exact(iS i x.1 a l b h3).imp h2 fun _ _ h=>h
   ·exact(cE x.1 a l b true h3).imp h2 fun _ _ h=>h
 ·refine .inr ⟨?_,fun g _=>?_⟩
  ·have:=sfx_need t x.2
   generalize x.2=s at*
   obtain⟨r,c⟩:=s
   simp only at h1
   subst h1
   exact ff hz this
  ·generalize x.2=s at*
   obtain⟨r,c⟩:=s
   simp only at h1
   subst h1
   have:=ei hz t c
   have e:needP t ⟨[z],c⟩=(aE t ⟨[z],c⟩).2:=rfl
   rw[e,this]at g
   cases g
theorem pf_prim {f g:M Ex} (h:Pf z X K Bx f g):Pf z X (K+1) Bx (aG f) (aG g):=fun A b H j=>by
 cases A with
 |nil=>exact .inr ⟨ff hz ((show Sfx ⟨[z],b⟩ (aG f ⟨[z],b⟩).2 from by
   unfold aG
   rw[og hz (by omega),og hz (by omega),ch hz,ch hz,ch hz]
   simpa using rdy_col.sfx ⟨[z],b⟩)),fun h _=>absurd ((mW hz f b).symm.trans h) (by decide)⟩
 |cons a l=>
  have m:∀x∈l,Okk x:=fun x I=>j x (mem_cons_of_mem _ I)
  simp only[length_cons]at H
  have k:∀R:List Tk,(⟨a::l++R,b⟩:Ps).next=⟨l++R,b⟩:=fun _=>rfl
  have o:hasK 3 ⟨a::l++ [z],b⟩=hasK 3 ⟨a::l++X,b⟩:=rfl
  have w:hasK 4 ⟨a::l++ [z],b⟩=hasK 4 ⟨a::l++X,b⟩:=rfl
  unfold aG
  rw[o,w,bD kNULL a l [z] X b,bD iZ a l [z] X b,bD yLp a l [z] X b]
  split
  ·exact eY (fun n:Int=>dF 1 n ⟨#[]⟩) (fun v u h=>by rw[h];exact Bx.refl _) (tV hz (B:=Eq) (fun _=>rfl) (K:=(a::l).length) (a::l) b (Nat.le_refl _) j)
  split
  ·exact eY (fun t:BA=>dF 2 0 t) (fun v u h=>by rw[h];exact Bx.refl _) (fP hz (B:=Eq) (fun _=>rfl) (by omega) (K:=(a::l).length) (a::l) b (Nat.le_refl _) j)
  split
  ·exact iS Bx.refl _ a l b j
  split
  ·rw[k,k]
   have D:Out z X l.length (fun _ _=>True) (((),needP yLp ⟨l++ [z],b⟩):Unit×Ps) ((),needP yLp ⟨l++X,b⟩):=cP hz (fun _=>trivial) yLp (K:=l.length) l b (Nat.le_refl _) m
   have i:Out z X l.length Bx (f (needP yLp ⟨l++ [z],b⟩)) (g (needP yLp ⟨l++X,b⟩))∨(needP yLp ⟨l++ [z],b⟩).r= [z]:=by
    rcases D with ⟨A1,b1,n1,l1,k1,e1,e2,_⟩|⟨e1,_⟩
    ·simp only at e1 e2
     rw[e1,e2]
     exact .inl ((h A1 b1 (by omega) k1).imp l1 fun _ _ h=>h)
    ·exact .inr e1
   rcases i with i|i
   ·exact(eY (fun e:Ex=>opE 9 [e]) (B:=Eq) (C:=Bx) (fun v u h=>by rw[h];exact Bx.refl _) (hH hz (C:=Eq) (fun _=>rfl) yRp i)).imp (by simp only[length_cons];omega) fun _ _ h=>h
   ·have E:=h [] (needP yLp ⟨l++ [z],b⟩).bad (Nat.zero_le _) (by simp)
    have y:needP yLp ⟨l++ [z],b⟩=⟨[]++ [z],(needP yLp ⟨l++ [z],b⟩).bad⟩:=by
     generalize needP yLp ⟨l++ [z],b⟩=s at*
     obtain⟨r,c⟩:=s
     simp only at i
     rw[i];rfl
    have F:(f (needP yLp ⟨l++ [z],b⟩)).2.r= [z]:=by
     rw[y]
     rcases E with ⟨A1,b1,n1,l1,_⟩|⟨g1,_⟩
     ·exact absurd (eq_nil_of_length_eq_zero (Nat.le_zero.1 l1)) n1
     ·exact g1
    have G:Out z X 0 (fun _ _=>True) (f (needP yLp ⟨l++ [z],b⟩)) (g (needP yLp ⟨l++X,b⟩)):= .inr ⟨F,fun _ _=>trivial⟩
    exact(eY (fun e:Ex=>opE 9 [e]) (B:=Eq) (C:=Bx) (fun v u h=>by rw[h];exact Bx.refl _) (hH hz (C:=Eq) (fun _=>rfl) yRp G)).imp (by simp) fun _ _ h=>h
  split
  ·rw[k,k]
   exact(hH hz (C:=Bx) Bx.refl yRp (h l b (by omega) m)).imp (by simp) fun _ _ h=>h
  ·exact pf_col hz (K:=(a::l).length) (a::l) b (Nat.le_refl _) j
section
variable {p p':M Ex} (h:Pf z X K Bx p p') (st:Stk p) (st':Stk p') (rd:Rdy p) (fw:Fwd p') (hb:Zb z p)
include h st st' rd fw hb
omit st st' fw rd in
theorem pf_una:Pf z X K Bx (unaP p) (unaP p'):=fun A b f i=>by
 cases A with
 |nil=>
  have e:unaP p ⟨[z],b⟩=p ⟨[z],b⟩:=by
   unfold unaP
   rw[ch hz,if_neg (by simp)]
  rw[nil_append,e]
  have m:=h [] b (Nat.zero_le _) (by simp)
  rcases m with ⟨A1,b1,n1,l1,_⟩|⟨g1,_⟩
  ·exact absurd (eq_nil_of_length_eq_zero (Nat.le_zero.1 l1)) n1
  ·exact .inr ⟨g1,fun g _=>by rw[hb b]at g;cases g⟩
 |cons a l=>
  have j:∀R:List Tk,(⟨a::l++R,b⟩:Ps).next=⟨l++R,b⟩:=fun _=>rfl
  unfold unaP
  rw[bD dJ a l [z] X b]
  split
  ·rw[j,j]
   simp only[length_cons]at f ⊢
   exact(eY (fun e:Ex=>opE 3 [e]) (fun v u k=>bx_one (.inl rfl) k) (h l b (by omega) fun x n=>i x (mem_cons_of_mem _ n))).imp (by omega) fun _ _ h=>h
  ·exact h (a::l) b f i
theorem pf_sum:Pf z X K Bx (sumP p) (sumP p'):=
 mZ hz (mZ hz (pf_una hz h hb) (sG st) (sG st') (sL rd) (fU fw) bin_pro) (sH st) (sH st') (fk (sL rd) _) (ey (fU fw) _) bin_sum
end
structure PX (z:Tk) (X:List Tk) (K:Nat) (m m':M Ex):Prop where
 pf:Pf z X K Bx m m'
 st:Stk m
 st':Stk m'
 rd:Rdy m
 rd':Rdy m'
 zb:Zb z m
omit hz in
theorem Rdy.fwd {α:Type} {m:M α} (h:Rdy m):Fwd m:=fun s=>by
 obtain⟨A,e,_⟩:=h.sfx s
 rw[e,length_append]
 omega
theorem px_sum {p p':M Ex} (h:PX z X K p p'):PX z X K (sumP p) (sumP p'):=
 ⟨pf_sum hz h.pf h.st h.st' h.rd h.rd'.fwd h.zb,kC h.st,kC h.st',kG h.rd,kG h.rd',zb_sum hz h.zb⟩
theorem pf_inGo {el f:M Ex} (h:PX z X K el f) (a:Ex):∀(k:Nat) (A:List Tk) (b:Bool) (n g:Nat) (e:Ex),A.length≤k→A.length≤K→A.length<n→A.length<g→(∀a∈A,Okk a)→
  Out z X A.length Bx (inGo el a n e ⟨A++ [z],b⟩) (inGo f a g e ⟨A++X,b⟩)
 |k,A,b,0,_,e,_,_,h3,_,_=>absurd h3 (Nat.not_lt_zero _)
 |k,A,b,_+1,0,e,_,_,_,h4,_=>absurd h4 (Nat.not_lt_zero _)
 |k,[],b,n+1,g+1,e,_,_,_,_,hk=>by
  have i:inGo el a (n+1) e ⟨[]++ [z],b⟩=(e,⟨[z],b⟩):=by
   rw[nil_append,inGo,ch hz,if_neg (by simp)]
  rw[i]
  exact .inr ⟨rfl,fun _ _=>bx_in _ _ _ _ (Bx.refl e)⟩
 |0,c::l,b,n+1,g+1,e,h1,_,_,_,_=>absurd h1 (by simp)
 |k+1,c::l,b,n+1,g+1,e,h1,h2,h3,h4,hk=>by
  have B:∀x∈l,Okk x:=fun x C=>hk x (mem_cons_of_mem _ C)
  simp only[length_cons]at h1 h2 h3 h4
  have m:∀R:List Tk,(⟨c::l++R,b⟩:Ps).next=⟨l++R,b⟩:=fun _=>rfl
  rw[inGo,inGo,bD yCm c l [z] X b]
  split
  ·rw[m,m]
   rcases h.pf l b (by omega) B with ⟨A1,b1,n1,l1,k1,i,e2,e3⟩|⟨i,e2⟩
   ·rw[i,e2,←e3]
    exact(pf_inGo h a k A1 b1 n g _ (by omega) (by omega) (by omega) (by omega) k1).imp (by simp only[length_cons];omega) fun _ _ h=>h
   ·generalize (el ⟨l++ [z],b⟩).1=v at*
    generalize (f ⟨l++X,b⟩).1=u at*
    generalize (f ⟨l++X,b⟩).2=o at*
    generalize (el ⟨l++ [z],b⟩).2=s at*
    obtain⟨r,q⟩:=s
    simp only at i e2
    subst i
    have t:∀E,inGo el a n E ⟨[z],q⟩=(E,⟨[z],q⟩):=fun E=>by
     cases n with
     |zero=>rfl
     |succ n=>rw[inGo,ch hz,if_neg (by simp)]
    rw[t]
    refine .inr ⟨rfl,fun w j=>?_⟩
    have y:o.bad=false:=by
     cases hs:o.bad with
     |false=>rfl
     |true=>rw[gE f a g _ hs,hs]at j;cases j
    exact bx_in _ _ _ _ (fI (by unfold Bin;omega) e (fI (by unfold Bin;omega) a (e2 w y)))
  ·exact cE e c l b b hk
omit hz in
theorem iq {α:Type} {B:α→α→Prop} {k:Nat} {x e:α×Ps} (a:x.2.r= [z]) (b:x.2.bad=true):Out z X k B x e:= .inr ⟨a,fun h _=>by rw[b]at h;cases h⟩
theorem z_px {el a:M Ex} (h:PX z X K el a) (b:Bool):(el ⟨[z],b⟩).2=⟨[z],true⟩:=by
 rw[z_rdy hz h.rd b,h.zb b]
theorem pf_in {el e:M Ex} (h:PX z X K el e) (a:Ex):Pf z X K Bx (inP el a) (inP e a):=fun A b g o=>by
 unfold inP
 cases A with
 |nil=>
  rw[nil_append,z_px hz h b]
  exact iq (by rw[gE el a _ _ rfl]) (by rw[gE el a _ _ rfl])
 |cons c l=>
  rcases h.pf (c::l) b g o with ⟨A1,b1,n1,l1,k1,e1,e2,e3⟩|⟨e1,e2⟩
  ·rw[e1,e2,←e3]
   exact(pf_inGo hz h a A1.length A1 b1 _ _ _ (Nat.le_refl _) (Nat.le_trans l1 g) (by simp only[length_append,length_singleton];omega) (by simp only[length_append];omega) k1).imp l1 fun _ _ h=>h
  ·generalize (el ⟨c::l++ [z],b⟩).1=v at*
   generalize (e ⟨c::l++X,b⟩).1=u at*
   generalize (e ⟨c::l++X,b⟩).2=i at*
   generalize (el ⟨c::l++ [z],b⟩).2=s at*
   obtain⟨r,q⟩:=s
   simp only at e1 e2
   subst e1
   have j:∀n E,inGo el a n E ⟨[z],q⟩=(E,⟨[z],q⟩):=fun n E=>by
    cases n with
    |zero=>rfl
    |succ n=>rw[inGo,ch hz,if_neg (by simp)]
   rw[j]
   refine .inr ⟨rfl,fun k f=>?_⟩
   have m:i.bad=false:=by
    cases hs:i.bad with
    |false=>rfl
    |true=>rw[gE e a _ _ hs,hs]at f;cases f
   exact bx_in _ _ _ _ (fI (by unfold Bin;omega) a (e2 k m))
theorem pf_tail {el f:M Ex} (h:PX z X K el f) (a:Ex):∀(A:List Tk) (b:Bool),A.length≤K→(∀c∈A,Okk c)→Out z X A.length Bx (tailP el a ⟨A++ [z],b⟩) (tailP f a ⟨A++X,b⟩):=fun A b O w=>by
 have V:∀q:Bool,tailP el a ⟨[z],q⟩=(a,⟨[z],q⟩):=fun q=>by
  have e:optP kNOT ⟨[z],q⟩=⟨[z],q⟩:=by unfold optP;rw[ch hz,if_neg (by simp)]
  unfold tailP
  rw[mT hz]
  simp only[e,ch hz]
  simp
 cases A with
 |nil=>
  rw[nil_append,V]
  exact .inr ⟨rfl,fun _ _=>bx_tail f (Bx.refl a) _⟩
 |cons c l=>
  have m:∀x∈l,Okk x:=fun x y=>w x (mem_cons_of_mem _ y)
  simp only[length_cons]at O
  have J:∀R:List Tk,(⟨c::l++R,b⟩:Ps).next=⟨l++R,b⟩:=fun _=>rfl
  unfold tailP
  rw[gu (z:=z) opsCmp c l X b]
  have G:=gu (z:=z) opsCmp c l [z] b
  cases H:(firstP opsCmp ⟨c::l++ [z],b⟩).1 with
  |some o=>
   rw[H]at G
   rw[G]
   obtain⟨t,Q⟩:=co _ _ _ H
   simp only[Option.isSome_some,if_true]
   exact(eY (fun e:Ex=>opE o [a,e]) (fun v u k=>fI (bin_cmp _ Q) a k) (h.pf l b (by omega) m)).imp (by simp only[length_cons];omega) fun _ _ h=>h
  |none=>
   simp only
   rw[bD kIS c l [z] X b,bD kNOT c l [z] X b]
   split
   ·
    rw[J,J]
    have E:Out z X l.length (fun _ _:Bool=>True) (isS kNOT ⟨l++ [z],b⟩,optP kNOT ⟨l++ [z],b⟩) (isS kNOT ⟨l++X,b⟩,optP kNOT ⟨l++X,b⟩):=by
     cases l with
     |nil=>
      rw[nil_append]
      exact .inr ⟨by unfold optP;rw[ch hz,if_neg (by simp)],fun _ _=>trivial⟩
     |cons d r=>
      unfold optP
      rw[bD kNOT d r [z] X b]
      split
      ·exact iS (fun _=>trivial) _ d r b m
      ·exact cE _ d r b b m
    exact(eY (fun q:Bool=>fK q (opE 17 [a])) (B:=Eq) (C:=Bx) (fun v u h=>by rw[h];exact Bx.refl _) (hH hz (C:=Eq) (fun _=>rfl) kNULL E)).imp (by simp) fun _ _ h=>h
   ·
    obtain⟨D,P,j,i,n⟩:∃D:List Tk,D.length≤l.length+1∧(∀x∈D,Okk x)∧(∀R,optP kNOT ⟨c::l++R,b⟩=⟨D++R,b⟩)∧(D= []→isS kNOT ⟨c::l++X,b⟩=true):=by
     cases I:isS kNOT ⟨c::l++X,b⟩with
     |true=>exact⟨l,by omega,m,fun R=>by unfold optP;rw[bD kNOT c l R X b,I];rfl,fun _=>rfl⟩
     |false=>exact⟨c::l,by simp,w,fun R=>by unfold optP;rw[bD kNOT c l R X b,I];rfl,fun e=>by cases e⟩
    rw[i,i]
    cases D with
    |nil=>
     rw[n rfl]
     simp only[nil_append,ch hz]
     exact iq rfl rfl
    |cons d r=>
     have hr:∀x∈r,Okk x:=fun x y=>j x (mem_cons_of_mem _ y)
     simp only[length_cons]at P
     have nd:∀R:List Tk,(⟨d::r++R,b⟩:Ps).next=⟨r++R,b⟩:=fun _=>rfl
     rw[bD oo d r [z] X b,bD gB d r [z] X b,bD kIN d r [z] X b]
     generalize isS kNOT ⟨c::l++X,b⟩=N
     split
     ·rw[nd,nd]
      exact(eY (fun t:BA=>fK N (opE 16 [a,dF 2 0 t])) (B:=Eq) (fun v u h=>by rw[h];exact Bx.refl _) (fP hz (X:=X) (B:=Eq) (fun _=>rfl) (k:=4) (by omega) (K:=r.length) r b (Nat.le_refl _) hr)).imp (by simp only[length_cons];omega) fun _ _ h=>h
     split
     ·rw[nd,nd]
      rcases hH hz (C:=Eq) (fun _=>rfl) kAND (h.pf r b (by omega) hr)with ⟨A1,b1,n1,l1,k1,e1,e2,e3⟩|⟨e1,e2⟩
      ·simp only at e1 e2 e3
       rw[e1,e2,←e3]
       exact(eY (fun e:Ex=>fK N (opE 18 [opE 15 [a,(el ⟨r++ [z],b⟩).1],opE 13 [a,e]])) (fun v u k=>bx_neg2 N (fI (by unfold Bin;omega) _ (fI (by unfold Bin;omega) a k))) (h.pf A1 b1 (by omega) k1)).imp (by simp only[length_cons];omega) fun _ _ h=>h
      ·simp only at e1
       have g:needP kAND (el ⟨r++ [z],b⟩).2=⟨[z],(needP kAND (el ⟨r++ [z],b⟩).2).bad⟩:=by
        generalize needP kAND (el ⟨r++ [z],b⟩).2=s at*
        obtain⟨U,q⟩:=s
        simp only at e1
        rw[e1]
       refine iq ?_ ?_
       ·show(el (needP kAND (el ⟨r++ [z],b⟩).2)).2.r= [z]
        rw[g,z_px hz h]
       ·show(el (needP kAND (el ⟨r++ [z],b⟩).2)).2.bad=true
        rw[g,z_px hz h]
     split
     ·rw[nd,nd]
      have L:Out z X r.length (fun _ _=>True) (((),needP yLp ⟨r++ [z],b⟩):Unit×Ps) ((),needP yLp ⟨r++X,b⟩):=cP hz (fun _=>trivial) yLp (K:=r.length) r b (Nat.le_refl _) hr
      rcases L with ⟨A1,b1,n1,l1,k1,e1,e2,_⟩|⟨e1,_⟩
      ·simp only at e1 e2
       rw[e1,e2]
       exact(eY (fun e:Ex=>fK N e) (fun v u k=>bx_neg2 N k) (hH hz (C:=Bx) Bx.refl yRp (pf_in hz h a A1 b1 (by omega) k1))).imp (by simp only[length_cons];omega) fun _ _ h=>h
      ·simp only at e1
       have g:needP yLp ⟨r++ [z],b⟩=⟨[z],(needP yLp ⟨r++ [z],b⟩).bad⟩:=by
        generalize needP yLp ⟨r++ [z],b⟩=s at*
        obtain⟨U,q⟩:=s
        simp only at e1
        rw[e1]
       have F:(inP el a ⟨[z],(needP yLp ⟨r++ [z],b⟩).bad⟩).2=⟨[z],true⟩:=by
        unfold inP
        rw[z_px hz h,gE el a _ _ rfl]
       refine iq ?_ ?_
       ·show(needP yRp (inP el a (needP yLp ⟨r++ [z],b⟩)).2).r= [z]
        rw[g,F,dk rfl]
       ·show(needP yRp (inP el a (needP yLp ⟨r++ [z],b⟩)).2).bad=true
        rw[g,F,dk rfl]
     ·cases N with
      |true=>exact(cE a d r b true j).imp (by simp only[length_cons];omega) fun _ _ h=>h
      |false=>exact cE a c l b b w
theorem pf_test {p p':M Ex} (h:PX z X K p p'):Pf z X K Bx (testP p) (testP p'):=fun A b f j=>by
 have hs:=px_sum hz h
 have k:∀(a:Ex) (q:Bool),tailP (sumP p) a ⟨[z],q⟩=(a,⟨[z],q⟩):=fun a q=>by
  have e:optP kNOT ⟨[z],q⟩=⟨[z],q⟩:=by unfold optP;rw[ch hz,if_neg (by simp)]
  unfold tailP
  rw[mT hz]
  simp only[e,ch hz]
  simp
 unfold testP
 rcases hs.pf A b f j with ⟨A1,b1,n1,l1,k1,e1,e2,e3⟩|⟨e1,e2⟩
 ·rw[e1,e2,←e3]
  exact(pf_tail hz hs _ A1 b1 (Nat.le_trans l1 f) k1).imp l1 fun _ _ h=>h
 ·generalize (sumP p ⟨A++ [z],b⟩).1=v at*
  generalize (sumP p' ⟨A++X,b⟩).1=u at*
  generalize (sumP p' ⟨A++X,b⟩).2=l at*
  generalize (sumP p ⟨A++ [z],b⟩).2=s at*
  obtain⟨r,q⟩:=s
  simp only at e1 e2
  subst e1
  rw[k]
  refine .inr ⟨rfl,fun g i=>bx_tail _ (e2 g (eg (iG _ _) i)) _⟩
theorem vU {p p':M Ex} (h:PX z X K p p'):∀(A:List Tk) (b:Bool) (n f:Nat),A.length≤K→A.length<n→A.length<f+1→(∀a∈A,Okk a)→Out z X A.length Bx (notGo p n ⟨A++ [z],b⟩) (notGo p' f ⟨A++X,b⟩)
 |A,b,0,_,_,h2,_,_=>absurd h2 (Nat.not_lt_zero _)
 | [],b,n+1,f,h1,_,_,hk=>by
  have e:notGo p (n+1) ⟨[]++ [z],b⟩=testP p ⟨[z],b⟩:=by
   rw[nil_append,notGo,ch hz,if_neg (by simp)]
  rw[e]
  exact iq (ff hz ((mi h.rd).sfx _)) (tU hz h.zb b)
 |a::l,b,n+1,0,_,_,h3,_=>absurd h3 (by simp)
 |a::l,b,n+1,f+1,h1,h2,h3,hk=>by
  have g:∀R:List Tk,(⟨a::l++R,b⟩:Ps).next=⟨l++R,b⟩:=fun _=>rfl
  simp only[length_cons]at h1 h2 h3
  rw[notGo,notGo,bD kNOT a l [z] X b]
  split
  ·rw[g,g]
   exact(eY (fun e:Ex=>opE 20 [e]) (fun v u k=>bx_one (.inr (.inr rfl)) k) (vU h l b n f (by omega) (by omega) (by omega) fun x i=>hk x (mem_cons_of_mem _ i))).imp (by simp) fun _ _ h=>h
  ·exact pf_test hz h (a::l) b (by simp only[length_cons];omega) hk
theorem pf_not {p p':M Ex} (h:PX z X K p p'):Pf z X K Bx (notP p) (notP p'):=fun A b a e=>by
 unfold notP
 exact vU hz h A b _ _ a (by simp) (by simp only[length_append];omega) e
theorem pf_or {p p':M Ex} (h:PX z X K p p'):Pf z X K Bx (orP p) (orP p'):=
 mZ hz (mZ hz (pf_not hz h) (me h.st) (me h.st') (mj h.rd) (mj h.rd').fwd bin_and) (gh (me h.st) _) (gh (me h.st') _) (fk (mj h.rd) _) (fk (mj h.rd') _).fwd bin_or
theorem px_expr:∀(n a:Nat),PX z X n (exprP (n+1)) (exprP (n+a+1))
 |0,a=>by
  have f:PX z X 0 (aG (exprP 0)) (aG (exprP (0+a))):=⟨fun A b g j=>by
   obtain rfl:=eq_nil_of_length_eq_zero (Nat.le_zero.1 g)
   exact iq (ff hz ((iK (cR 0)).sfx _)) (mW hz _ b),fE _,fE _,iK (cR 0),iK (cR _),mW hz _⟩
  exact⟨pf_or hz f,gD _,gD _,cR _,cR _,zb_expr hz _⟩
 |n+1,a=>by
  have i:=px_expr n a
  have e:n+1+a+1=(n+a+1)+1:=by omega
  have f:PX z X (n+1) (aG (exprP (n+1))) (aG (exprP (n+a+1))):=⟨pf_prim hz i.pf,fE _,fE _,iK (cR _),iK (cR _),mW hz _⟩
  rw[e]
  exact⟨pf_or hz f,gD _,gD _,cR _,cR _,zb_expr hz _⟩
end
end
section
open Lx (Tk)
def LE {α:Type} (R:α→α→Prop) (v u:List α):Prop:=∃p v' q,v=p++v'∧u=p++q∧(v'= []∨∃x y q',v'= [x]∧q=y::q'∧R x y)
theorem LE.refl {α:Type} (R:α→α→Prop) (v:List α):LE R v v:=⟨v,[],[],by simp,by simp,.inl rfl⟩
theorem LE.nil {α:Type} (R:α→α→Prop) (u:List α):LE R [] u:=⟨[],[],u,rfl,rfl,.inl rfl⟩
theorem LE.app {α:Type} {R:α→α→Prop} {v u:List α} (h:LE R v u) (q:List α):LE R v (u++q):=by
 obtain⟨p,g,f,b,e,a⟩:=h
 refine⟨p,g,f++q,b,by rw[e,append_assoc],?_⟩
 rcases a with a|⟨x,y,q',h4,h5,h6⟩
 ·exact .inl a
 ·exact .inr ⟨x,y,q'++q,h4,by rw[h5];rfl,h6⟩
theorem LE.last {α:Type} {R:α→α→Prop} (p:List α) {x y:α} (h:R x y):LE R (p++ [x]) (p++ [y]):=⟨p,[x],[y],rfl,rfl,.inr ⟨x,y,[],rfl,rfl,h⟩⟩
theorem tX {α:Type} {R:α→α→Prop} {μ:α→Nat} (b:∀x y,R x y→μ x≤μ y) {v u:List α} (h:LE R v u):sumB μ v≤sumB μ u:=by
 obtain⟨p,e,q,rfl,rfl,a⟩:=h
 rw[iO,iO]
 rcases a with rfl|⟨x,y,q',rfl,rfl,h6⟩
 ·rw[sumB];omega
 ·rw[sumB,sumB,sumB]
  have:=b x y h6
  omega
theorem tY {α:Type} {R:α→α→Prop} {v u:List α} (h:LE R v u):v.length≤u.length:=by
 have:=tX (μ:=fun _=>1) (fun _ _ _=>Nat.le_refl _) h
 rwa [iP,iP]at this
theorem sa {α:Type} (tx:α→BA) (l:List α):bX (l.map tx)=sumB (fun x=> (tx x).size+2) l:=by
 induction l with
 |nil=>rfl
 |cons x l ih=>rw[map_cons,bX,sumB,ih]
theorem vV (l:List BA) (h:l≠[]):(cma l).size+2=bX l:=by
 cases l with
 |nil=>exact absurd rfl h
 |cons x l=>show(l.foldl _ x).size+2=_;rw[lB,bX];omega
theorem qK {α:Type} {R:α→α→Prop} {tx:α→BA} (g:∀x y,R x y→(tx x).size≤(tx y).size) {v u:List α} (h:LE R v u):(cma (v.map tx)).size≤(cma (u.map tx)).size:=by
 cases v with
 |nil=>exact Nat.zero_le _
 |cons a l=>
  have f:=tX (μ:=fun x=> (tx x).size+2) (fun x y k=>by have:=g x y k;omega) h
  have b:=tY h
  rw[←sa,←sa,←vV _ (by simp),←vV _ (by intro e;rw[map_eq_nil_iff]at e;rw[e]at b;simp at b)]at f
  omega
theorem dep_app {α:Type} (f:α→Ex) (a b:List α):aJ ((a++b).map f)=max (aJ (a.map f)) (aJ (b.map f)):=by rw[map_append,iW]
theorem le_dep {α:Type} {R:α→α→Prop} {f:α→Ex} (b:∀x y,R x y→(f x).depth≤(f y).depth) {v u:List α} (h:LE R v u):aJ (v.map f)≤aJ (u.map f):=by
 obtain⟨p,e,q,rfl,rfl,a⟩:=h
 rw[dep_app,dep_app]
 rcases a with rfl|⟨x,y,q',rfl,rfl,h6⟩
 ·have:aJ (([]:List α).map f)=0:=rfl
  omega
 ·rw[map_cons,map_cons,aJ,aJ]
  have:aJ (([]:List α).map f)=0:=rfl
  have:=b x y h6
  omega
theorem le_nod {α:Type} {R:α→α→Prop} {f:α→Ex} (a:∀x y,R x y→(f x).nodes≤(f y).nodes) {v u:List α} (h:LE R v u):nodesL (v.map f)≤nodesL (u.map f):=by
 rw[←jj,←jj]
 exact tX a h
structure BS (c f:St):Prop where
 nd:nodesL c.all≤nodesL f.all
 dp:aJ c.all≤aJ f.all
 bd:c.body.size≤f.body.size
theorem BS.refl (s:St):BS s s:=⟨Nat.le_refl _,Nat.le_refl _,Nat.le_refl _⟩
def whz (e:Ex):Nat:=if e.absent=true then 0 else 7+(e.tx 1).size
structure BW (v u:Ex):Prop where
 nd:v.nodes≤u.nodes
 dp:v.depth≤u.depth
 wh:whz v≤whz u
theorem BW.refl (v:Ex):BW v v:=⟨Nat.le_refl _,Nat.le_refl _,Nat.le_refl _⟩
theorem bw_z (u:Ex):BW exZ u:=⟨by show 0+0≤_;omega,by show 0+0≤_;omega,by show 0≤_;omega⟩
theorem bw_bx {v u:Ex} (h:Bx v u) (a:u.d.op≠0):BW v u:=by
 refine⟨h.nd,h.dp,?_⟩
 have:u.absent=false:=by
  unfold Ex.absent
  have:(u.d.op==0)=false:=by simpa using a
  rw[this]
  rfl
 have b:=h.tx 1
 unfold whz
 rw[this,if_neg (show¬false=true by simp)]
 split<;>omega
theorem kZ (s:St):s.whT.size=whz s.whr:=by
 unfold St.whT whz
 split
 ·rfl
 ·rw[ByteArray.size_append];rfl
theorem iC (s:St):nodesL s.all=nodesL s.chk+nodesL s.vals.flatten+nodesL s.grp+nodesL (s.sets.map Asg.ex)+nodesL (s.itms.map Itm.ex)+s.whr.nodes:=by
 unfold St.all
 simp only[dc,nodesL]
 rfl
theorem iD (s:St):aJ s.all=max (max (max (max (max (aJ s.chk) (aJ s.vals.flatten)) (aJ s.grp)) (aJ (s.sets.map Asg.ex))) (aJ (s.itms.map Itm.ex))) s.whr.depth:=by
 unfold St.all
 simp only[iW,aJ]
 omega
theorem bs_insert (tb:BA) {v u:List (List Ex)} (h:LE Eq v u):BS { stZ with kd:=2,tb:=tb,vals:=v } { stZ with kd:=2,tb:=tb,vals:=u } :=by
 have a:∀l:List (List Ex),aJ l.flatten=aJ (l.map fun x=>Ex.mk ⟨0,⟨#[]⟩,⟨#[]⟩,0,0,0,⟨#[]⟩⟩ x):=fun l=>by
  induction l with
  |nil=>rfl
  |cons x l ih=>rw[flatten_cons,iW,map_cons,aJ,←ih,Ex.depth,if_pos rfl];omega
 refine⟨?_,?_,?_⟩
 ·rw[iC,iC]
  simp only[stZ]
  have:=tX (μ:=nodesL) (fun x y e=>by rw[e];exact Nat.le_refl _) h
  rw[nP,nP]at this
  omega
 ·rw[iD,iD]
  simp only[stZ,a]
  have:=le_dep (f:=fun x=>Ex.mk ⟨0,⟨#[]⟩,⟨#[]⟩,0,0,0,⟨#[]⟩⟩ x) (fun x y e=>by rw[e];exact Nat.le_refl _) h
  omega
 ·have:=qK (tx:=dV) (fun x y e=>by rw[e];exact Nat.le_refl _) h
  unfold St.body
  simp only[↓reduceIte,Int.reduceEq,ByteArray.size_append]
  show 12+tb.size+8+_≤12+tb.size+8+_
  omega
def Ba (x y:Asg):Prop:=x.cl=y.cl∧Bx x.ex y.ex
theorem sc (tb:BA) {v u:List Asg} (h:LE Ba v u) {w e:Ex} (a:BW w e):BS { stZ with kd:=3,tb:=tb,sets:=v,whr:=w } { stZ with kd:=3,tb:=tb,sets:=u,whr:=e } :=by
 refine⟨?_,?_,?_⟩
 ·rw[iC,iC]
  simp only[stZ]
  have:=le_nod (f:=Asg.ex) (fun x y e=>e.2.nd) h
  have:=a.nd
  omega
 ·rw[iD,iD]
  simp only[stZ]
  have:=le_dep (f:=Asg.ex) (fun x y e=>e.2.dp) h
  have:=a.dp
  omega
 ·have i:=qK (tx:=Asg.tx) (fun x y e=>by have:=e.2.tx 1;unfold Asg.tx;rw[e.1];simp only[ByteArray.size_append];omega) h
  have j:=a.wh
  have b:=kZ { stZ with kd:=3,tb:=tb,sets:=v,whr:=w }
  have g:=kZ { stZ with kd:=3,tb:=tb,sets:=u,whr:=e }
  unfold St.body
  simp only[↓reduceIte,Int.reduceEq,ByteArray.size_append,b,g]
  show 7+tb.size+5+_+_≤7+tb.size+5+_+_
  omega
theorem sd (tb:BA) {w e:Ex} (a:BW w e):BS { stZ with kd:=4,tb:=tb,whr:=w } { stZ with kd:=4,tb:=tb,whr:=e } :=by
 refine⟨?_,?_,?_⟩
 ·rw[iC,iC]
  simp only[stZ]
  have:=a.nd
  omega
 ·rw[iD,iD]
  simp only[stZ]
  have:=a.dp
  omega
 ·have g:=a.wh
  have b:=kZ { stZ with kd:=4,tb:=tb,whr:=w }
  have f:=kZ { stZ with kd:=4,tb:=tb,whr:=e }
  unfold St.body
  simp only[↓reduceIte,Int.reduceEq,ByteArray.size_append,b,f]
  show fX.size+tb.size+_≤fX.size+tb.size+_
  omega
def Bs (x y:Src):Prop:=x=y∨x.tb=y.tb∧x.al.size=0
def Bo (x y:Ord'):Prop:=x=y∨x.it=y.it∧x.ds=false
def Bl (x y:Int):Prop:=x=y∨x=0
theorem sel_le {c f:St} (hi:c.itT=f.itT) (k:(cma (c.frm.map Src.tx)).size≤(cma (f.frm.map Src.tx)).size) (n:c.whT.size≤f.whT.size) (l:c.grp.length≤f.grp.length) (e:(exsT c.grp).size≤(exsT f.grp).size) (m:c.ord.length≤f.ord.length) (g:(cma (c.ord.map Ord'.tx)).size≤(cma (f.ord.map Ord'.tx)).size) (a:Bl c.lim f.lim):c.sel.size≤f.sel.size:=by
 have i:c.sel0.size≤f.sel0.size:=by
  unfold St.sel0
  rw[hi]
  simp only[ByteArray.size_append]
  omega
 have j:c.sel1.size≤f.sel1.size:=by
  unfold St.sel1
  split
  ·split
   ·exact i
   ·simp only[ByteArray.size_append];omega
  ·rw[if_neg (by omega)]
   simp only[ByteArray.size_append]
   omega
 have b:c.sel2.size≤f.sel2.size:=by
  unfold St.sel2
  split
  ·split
   ·exact j
   ·simp only[ByteArray.size_append];omega
  ·rw[if_neg (by omega)]
   simp only[ByteArray.size_append]
   omega
 unfold St.sel
 rcases a with a|a
 ·rw[a]
  split
  ·simp only[ByteArray.size_append];omega
  ·exact b
 ·rw[a,if_neg (by omega)]
  split
  ·simp only[ByteArray.size_append];omega
  ·exact b
theorem m7 (i:List Itm) {f m:List Src} (A:LE Bs f m) {w w':Ex} (k:BW w w') {g j:List Ex} (b:LE Bx g j) {o s:List Ord'} (n:LE Bo o s) {l r:Int} (B:Bl l r):
  BS { stZ with kd:=5,itms:=i,frm:=f,whr:=w,grp:=g,ord:=o,lim:=l } { stZ with kd:=5,itms:=i,frm:=m,whr:=w',grp:=j,ord:=s,lim:=r } :=by
 refine⟨?_,?_,?_⟩
 ·rw[iC,iC]
  simp only[stZ]
  have a:=le_nod (f:=fun e=>e) (fun x y e=>e.nd) b
  rw[map_id',map_id']at a
  have:=k.nd
  omega
 ·rw[iD,iD]
  simp only[stZ]
  have a:=le_dep (f:=fun e=>e) (fun x y e=>e.dp) b
  rw[map_id',map_id']at a
  have:=k.dp
  omega
 ·have a:=qK (tx:=Src.tx) (fun x y e=>by
   rcases e with rfl|⟨e1,e2⟩
   ·exact Nat.le_refl _
   ·unfold Src.tx
    rw[if_pos e2,e1]
    split
    ·exact Nat.le_refl _
    ·simp only[ByteArray.size_append];omega) A
  have t:(exsT g).size≤(exsT j).size:=qK (tx:=fun e:Ex=>e.tx 1) (fun x y e=>e.tx 1) b
  have u:=qK (tx:=Ord'.tx) (fun x y e=>by
   rcases e with rfl|⟨e1,e2⟩
   ·exact Nat.le_refl _
   ·unfold Ord'.tx
    rw[e2,e1,if_neg (by simp)]
    split
    ·simp only[ByteArray.size_append];omega
    ·exact Nat.le_refl _) n
  exact sel_le rfl a (by rw[kZ,kZ];exact k.wh) (tY b) t (tY n) u B
theorem vW {l:List Ex} (h:l≠[]) (y:Ex):andL (l++ [y])=opE 18 [andL l,y]:=by
 cases l with
 |nil=>exact absurd rfl h
 |cons a l=>
  show(l++ [y]).foldl _ a=_
  rw[foldl_append]
  rfl
theorem and_nz:∀l:List Ex,l≠[]→(∀e∈l,e.d.op≠0)→(andL l).d.op≠0:=fun l h g=>by
 have f:∀(l:List Ex) (a:Ex),a.d.op≠0→(l.foldl (fun a b=>opE 18 [a,b]) a).d.op≠0:=by
  intro l
  induction l with
  |nil=>intro a h;exact h
  |cons b l ih=>intro a _;exact ih _ (by simp[opE,Ex.d])
 cases l with
 |nil=>exact absurd rfl h
 |cons a l=>exact f l a (g a mem_cons_self)
theorem bx_and (u:Ex):∀(q:List Ex) (v:Ex),Bx v u→Bx v (q.foldl (fun a b=>opE 18 [a,b]) u):=fun q=>by
 induction q generalizing u with
 |nil=>intro v h;exact h
 |cons b q ih=>intro v h;exact ih _ v (h.trans (bx_left (by unfold Bin;omega) u b))
theorem tZ {c d:List Ex} (h:LE Bx c d) (hd:∀e∈d,e.d.op≠0):BW (andL c) (andL d):=by
 cases c with
 |nil=>exact bw_z _
 |cons a l=>
  have k:=tY h
  have g:d≠[]:=fun e=>by rw[e]at k;simp at k
  refine bw_bx ?_ (and_nz d g hd)
  obtain⟨p,o,q,f,j,m⟩:=h
  have i:∀(p q:List Ex),p≠[]→andL (p++q)=q.foldl (fun a b=>opE 18 [a,b]) (andL p):=fun p q n=>by
   cases p with
   |nil=>exact absurd rfl n
   |cons x p=>show(p++q).foldl _ x=_;rw[foldl_append];rfl
  rcases m with rfl|⟨x,y,q',rfl,rfl,h6⟩
  ·rw[append_nil]at f
   rw[j,f,i p q (by rw[←f];simp)]
   exact bx_and _ q _ (Bx.refl _)
  ·rw[f,j]
   cases p with
   |nil=>
    show Bx x (q'.foldl _ y)
    exact bx_and y q' x h6
   |cons b p=>
    have e:b::p++y::q'=(b::p++ [y])++q':=by simp
    rw[e,i _ q' (by simp),vW (by simp),vW (by simp)]
    exact bx_and _ q' _ (fI (by unfold Bin;omega) _ h6)
theorem nz_prim {p:M Ex} (h:Nz p):Nz (aG p):=fun s=>by
 unfold aG
 split
 ·simp[dF,Ex.d]
 split
 ·simp[dF,Ex.d]
 split
 ·simp[dF,Ex.d]
 split
 ·simp[opE,Ex.d]
 split
 ·exact h _
 ·exact nz_col s
theorem nz_expr:∀n,Nz (exprP n)
 |0=>fun _=>by simp[exprP,colE,Ex.d]
 |n+1=>nz_or (nz_prim (nz_expr n))
theorem jw {α:Type} (el:M α):∀(n:Nat) (o:List α) (s:Ps),∃q,(listGo el n o s).1=o++q
 |0,o,s=>⟨[],by rw[append_nil];rfl⟩
 |n+1,o,s=>by
  rw[listGo]
  split
  ·obtain⟨q,h⟩:=jw el n (o++ [(el s.next).1]) (el s.next).2
   exact⟨(el s.next).1::q,by rw[h];simp⟩
  ·exact⟨[],by simp⟩
section
variable {z:Tk} (hz:z.kind=0) {X:List Tk} {K:Nat}
include hz
omit hz in
theorem pf_val {α:Type} {B C:α→α→Prop} {Q:α→Prop} {m a:M α} (h:Pf z X K B m a) (k:∀s,Q (a s).1) (i:∀v u,B v u→Q u→C v u):Pf z X K C m a:=fun A b g j=>by
 rcases h A b g j with ⟨A1,b1,n1,l1,k1,e1,e2,e3⟩|⟨e1,e2⟩
 ·exact .inl ⟨A1,b1,n1,l1,k1,e1,e2,e3⟩
 ·exact .inr ⟨e1,fun e f=>i _ _ (e2 e f) (k _)⟩
omit hz in
theorem pf_imp {α:Type} {B C:α→α→Prop} {m a:M α} (h:Pf z X K B m a) (f:∀v u,B v u→C v u):Pf z X K C m a:=fun A b e g=> (h A b e g).imp (Nat.le_refl _) f
theorem si {α:Type} {R:α→α→Prop} (C:∀v,R v v) {el e:M α} (h:Pf z X K R el e) (st':Stk e):∀(k:Nat) (A:List Tk) (b:Bool) (n f:Nat) (o:List α),A.length≤k→A.length≤K→A.length<n→A.length<f→(∀a∈A,Okk a)→
  Out z X A.length (LE R) (listGo el n o ⟨A++ [z],b⟩) (listGo e f o ⟨A++X,b⟩)
 |k,A,b,0,_,o,_,_,h3,_,_=>absurd h3 (Nat.not_lt_zero _)
 |k,A,b,_+1,0,o,_,_,_,h4,_=>absurd h4 (Nat.not_lt_zero _)
 |k,[],b,n+1,f+1,o,_,_,_,_,hk=>by
  have g:listGo el (n+1) o ⟨[]++ [z],b⟩=(o,⟨[z],b⟩):=by
   rw[nil_append,listGo,ch hz,if_neg (by simp)]
  rw[g]
  obtain⟨q,i⟩:=jw e (f+1) o ⟨[]++X,b⟩
  exact .inr ⟨rfl,fun _ _=>by rw[i];exact(LE.refl R o).app q⟩
 |0,c::l,b,n+1,f+1,o,h1,_,_,_,_=>absurd h1 (by simp)
 |k+1,c::l,b,n+1,f+1,o,h1,h2,h3,h4,hk=>by
  have D:∀x∈l,Okk x:=fun x E=>hk x (mem_cons_of_mem _ E)
  simp only[length_cons]at h1 h2 h3 h4
  have t:∀R:List Tk,(⟨c::l++R,b⟩:Ps).next=⟨l++R,b⟩:=fun _=>rfl
  rw[listGo,listGo,bD yCm c l [z] X b]
  split
  ·rw[t,t]
   rcases h l b (by omega) D with ⟨A1,b1,n1,l1,k1,g,e2,e3⟩|⟨g,e2⟩
   ·rw[g,e2,←e3]
    exact(si C h st' k A1 b1 n f _ (by omega) (by omega) (by omega) (by omega) k1).imp (by simp only[length_cons];omega) fun _ _ h=>h
   ·generalize (el ⟨l++ [z],b⟩).1=v at*
    generalize (e ⟨l++X,b⟩).1=u at*
    generalize (e ⟨l++X,b⟩).2=j at*
    generalize (el ⟨l++ [z],b⟩).2=s at*
    obtain⟨r,q⟩:=s
    simp only at g e2
    subst g
    have w:∀O,listGo el n O ⟨[z],q⟩=(O,⟨[z],q⟩):=fun O=>by
     cases n with
     |zero=>rfl
     |succ n=>rw[listGo,ch hz,if_neg (by simp)]
    rw[w]
    refine .inr ⟨rfl,fun y m=>?_⟩
    have B:j.bad=false:=by
     cases hs:j.bad with
     |false=>rfl
     |true=>rw[dK e f _ _ hs,hs]at m;cases m
    obtain⟨F,i⟩:=jw e f (o++ [u]) j
    rw[i]
    exact(LE.last o (e2 y B)).app F
  ·exact cE o c l b b hk
theorem na {α:Type} {R:α→α→Prop} (l:∀v,R v v) {el a:M α} (h:Pf z X K R el a) (st':Stk a):Pf z X K (LE R) (listP el) (listP a):=fun A b g m=>by
 unfold listP
 rcases h A b g m with ⟨A1,b1,n1,l1,k1,e1,e2,e3⟩|⟨e1,e2⟩
 ·rw[e1,e2,←e3]
  exact(si hz l h st' A1.length A1 b1 _ _ _ (Nat.le_refl _) (Nat.le_trans l1 g) (by simp only[length_append,length_singleton];omega) (by simp only[length_append];omega) k1).imp l1 fun _ _ h=>h
 ·generalize (el ⟨A++ [z],b⟩).1=v at*
  generalize (a ⟨A++X,b⟩).1=u at*
  generalize (a ⟨A++X,b⟩).2=e at*
  generalize (el ⟨A++ [z],b⟩).2=s at*
  obtain⟨r,q⟩:=s
  simp only at e1 e2
  subst e1
  have i:∀n O,listGo el n O ⟨[z],q⟩=(O,⟨[z],q⟩):=fun n O=>by
   cases n with
   |zero=>rfl
   |succ n=>rw[listGo,ch hz,if_neg (by simp)]
  rw[i]
  refine .inr ⟨rfl,fun j f=>?_⟩
  have k:e.bad=false:=by
   cases hs:e.bad with
   |false=>rfl
   |true=>rw[dK a _ _ _ hs,hs]at f;cases f
  obtain⟨t,o⟩:=jw a ((⟨A++X,b⟩:Ps).r.length+1) [u] e
  rw[o]
  exact(LE.last [] (e2 j k)).app t
abbrev PT {α:Type} (z:Tk) (X:List Tk) (K:Nat) (m m':M α):Prop:=Pf z X K (fun _ _=>True) m m'
omit hz in
theorem em_t {α:Type} (m a:M α):Em z (fun _ _=>True) m a:=fun _ _ _ _=>trivial
theorem br {α β:Type} {m a:M α} {f e:α→M β} (h:PT z X K m a) (i:∀v,PT z X K (f v) (e v)) (k:∀v,Rdy (f v)):PT z X K (ay m f) (ay a e):=fun A b g j=>by
 show Out z X A.length _ (f (m ⟨A++ [z],b⟩).1 (m ⟨A++ [z],b⟩).2) (e (a ⟨A++X,b⟩).1 (a ⟨A++X,b⟩).2)
 rcases h A b g j with ⟨A1,b1,n1,l1,k1,e1,e2,e3⟩|⟨e1,e2⟩
 ·rw[e1,e2,←e3]
  exact(i _ A1 b1 (Nat.le_trans l1 g) k1).imp l1 fun _ _ h=>h
 ·generalize (m ⟨A++ [z],b⟩).1=v at*
  generalize (m ⟨A++ [z],b⟩).2=s at*
  obtain⟨r,c⟩:=s
  simp only at e1
  subst e1
  exact .inr ⟨ff hz ((k v).sfx _),fun _ _=>trivial⟩
theorem kp {α:Type} (t:BA) {m a n b:M α} (e:PT z X K m a) (f:PT z X K n b) (g:Rdy n):PT z X K (ifM t m n) (ifM t a b):=kn hz t e f (em_t _ _) g
theorem di (t:BA):PT z X K (aE t) (aE t):=cP hz (fun _=>trivial) t
theorem pt_tak {k:Nat} (a:k≠0):PT z X K (takP k) (takP k):=fP hz (fun _=>trivial) a
theorem pt_num:PT z X K numP numP:=tV hz fun _=>trivial
omit hz in
theorem dy {α:Type} (v:α):PT z X K (aH v) (aH v):=cJ trivial
theorem t7 {α:Type} {el a:M α} (h:PT z X K el a) (st':Stk a):PT z X K (listP el) (listP a):=pf_imp (na hz (fun _=>trivial) h st') fun _ _ _=>trivial
omit hz in
theorem fz:Rdy namesP:=ah (ar _) fun _=>ah (bB (rdy_tak (by omega))) fun _=>ah (ar _) fun _=>aj _
theorem nc:PT z X K namesP namesP:=br hz (di hz _) (fun _=>br hz (t7 hz (pt_tak hz (by omega)) (bq 1)) (fun _=>br hz (di hz _) (fun _=>dy _) fun _=>aj _) fun _=>ah (ar _) fun _=>aj _) fun _=>ah (bB (rdy_tak (by omega))) fun _=>ah (ar _) fun _=>aj _
theorem pt_bndP:PT z X K eK eK:=kp hz _ (br hz (pt_num hz) (fun _=>dy _) fun _=>aj _) (pt_num hz) rdy_num
omit hz in
theorem vX:Rdy eK:=aY _ (ah rdy_num fun _=>aj _) rdy_num
theorem pt_typ:PT z X K typP typP:=by
 unfold typP pj maxP
 refine kp hz _ (kp hz _ ?_ (dy _) (aj _)) ?_ (ah (ar _) fun _=>aY _ (ah rdy_num fun _=>ah (ar _) fun _=>aj _) (aj _))
 ·exact br hz (pt_bndP hz) (fun _=>br hz (di hz _) (fun _=>br hz (pt_bndP hz) (fun _=>br hz (di hz _) (fun _=>dy _) fun _=>aj _) fun _=>ah (ar _) fun _=>aj _) fun _=>ah vX fun _=>ah (ar _) fun _=>aj _) fun _=>ah (ar _) fun _=>ah vX fun _=>ah (ar _) fun _=>aj _
 ·exact br hz (di hz _) (fun _=>kp hz _ (br hz (pt_num hz) (fun _=>br hz (di hz _) (fun _=>dy _) fun _=>aj _) fun _=>ah (ar _) fun _=>aj _) (dy _) (aj _)) fun _=>aY _ (ah rdy_num fun _=>ah (ar _) fun _=>aj _) (aj _)
omit hz in
theorem rdy_def':Rdy ek:=ah (rdy_tak (by omega)) fun _=>ah tn fun _=>aY _ (ah (ar _) fun _=>aj _) (aj _)
theorem pt_def:PT z X K ek ek:=br hz (pt_tak hz (by omega)) (fun _=>br hz (pt_typ hz) (fun _=>kp hz _ (br hz (di hz _) (fun _=>dy _) fun _=>aj _) (dy _) (aj _)) fun _=>aY _ (ah (ar _) fun _=>aj _) (aj _)) fun _=>ah tn fun _=>aY _ (ah (ar _) fun _=>aj _) (aj _)
theorem pt_ref:PT z X K refP refP:=br hz (nc hz) (fun _=>br hz (di hz _) (fun _=>br hz (pt_tak hz (by omega)) (fun _=>br hz (nc hz) (fun _=>dy _) fun _=>aj _) fun _=>ah (fz) fun _=>aj _) fun _=>ah (rdy_tak (by omega)) fun _=>ah (fz) fun _=>aj _) fun _=>ah (ar _) fun _=>ah (rdy_tak (by omega)) fun _=>ah (fz) fun _=>aj _
omit hz in
theorem vY:Rdy refP:=ah (fz) fun _=>ah (ar _) fun _=>ah (rdy_tak (by omega)) fun _=>ah (fz) fun _=>aj _
section
variable {ex ex':M Ex} (h:PX z X K ex ex')
include h
omit hz in
theorem pt_ex:PT z X K ex ex':=pf_imp h.pf fun _ _ _=>trivial
theorem pt_elem (d:Df) (l:List BA):PT z X K (elemP ex d l) (elemP ex' d l):=by
 have g:Rdy (ay ek fun c=>aH (({ d with cols:=d.cols++ [c] },l):Df×List BA)):=ah rdy_def' fun _=>aj _
 have b:Rdy (ifM ea (ay (aE kKEY) fun _=>ay refP fun f=>aH (({ d with frs:=d.frs++ [f] },l):Df×List BA)) (ay ek fun c=>aH ({ d with cols:=d.cols++ [c] },l))):=aY _ (ah (ar _) fun _=>ah (vY) fun _=>aj _) g
 have a:Rdy (ifM iu (ay (aE yLp) fun _=>ay ex fun e=>ay (aE yRp) fun _=>aH (({ d with chk:=d.chk++ [e] },l):Df×List BA)) (ifM ea (ay (aE kKEY) fun _=>ay refP fun f=>aH ({ d with frs:=d.frs++ [f] },l)) (ay ek fun c=>aH ({ d with cols:=d.cols++ [c] },l)))):=
  aY _ (ah (ar _) fun _=>ah h.rd fun _=>ah (ar _) fun _=>aj _) b
 have i:Rdy (ifM fC (ay namesP fun k=>aH (({ d with keys:=d.keys++ [k] },l):Df×List BA)) (ifM iu (ay (aE yLp) fun _=>ay ex fun e=>ay (aE yRp) fun _=>aH ({ d with chk:=d.chk++ [e] },l)) (ifM ea (ay (aE kKEY) fun _=>ay refP fun f=>aH ({ d with frs:=d.frs++ [f] },l)) (ay ek fun c=>aH ({ d with cols:=d.cols++ [c] },l))))):=aY _ (ah (fz) fun _=>aj _) a
 unfold elemP
 refine kp hz _ ?_ (kp hz _ ?_ (kp hz _ ?_ (kp hz _ ?_ ?_ g) b) a) i
 ·exact br hz (di hz _) (fun _=>br hz (nc hz) (fun _=>dy _) fun _=>aj _) fun _=>ah (fz) fun _=>aj _
 ·exact br hz (nc hz) (fun _=>dy _) fun _=>aj _
 ·exact br hz (di hz _) (fun _=>br hz (pt_ex h) (fun _=>br hz (di hz _) (fun _=>dy _) fun _=>aj _) fun _=>ah (ar _) fun _=>aj _) fun _=>ah h.rd fun _=>ah (ar _) fun _=>aj _
 ·exact br hz (di hz _) (fun _=>br hz (pt_ref hz) (fun _=>dy _) fun _=>aj _) fun _=>ah (vY) fun _=>aj _
 ·exact br hz (pt_def hz) (fun _=>dy _) fun _=>aj _
theorem sj:∀(k:Nat) (A:List Tk) (b:Bool) (n e:Nat) (d:Df) (l:List BA),A.length≤k→A.length≤K→A.length<n→A.length<e→(∀a∈A,Okk a)→
  Out z X A.length (fun _ _=>True) (cm ex n d l ⟨A++ [z],b⟩) (cm ex' e d l ⟨A++X,b⟩)
 |k,A,b,0,_,d,l,_,_,h3,_,_=>absurd h3 (Nat.not_lt_zero _)
 |k,A,b,_+1,0,d,l,_,_,_,h4,_=>absurd h4 (Nat.not_lt_zero _)
 |k,[],b,n+1,e+1,d,l,_,_,_,_,hk=> .inr ⟨ff hz ((fm h.rd (n+1) d l).sfx _),fun _ _=>trivial⟩
 |0,c::r,b,n+1,e+1,d,l,h1,_,_,_,_=>absurd h1 (by simp)
 |k+1,c::r,b,n+1,e+1,d,l,h1,h2,h3,h4,hk=>by
  have g:∀x∈r,Okk x:=fun x i=>hk x (mem_cons_of_mem _ i)
  simp only[length_cons]at h1 h2 h3 h4
  have f:∀R:List Tk,(⟨c::r++R,b⟩:Ps).next=⟨r++R,b⟩:=fun _=>rfl
  rw[jW,jW,bD yCm c r [z] X b]
  split
  ·rw[f,f]
   rcases pt_elem hz h d l r b (by omega) g with ⟨A1,b1,n1,l1,k1,e1,e2,e3⟩|⟨e1,_⟩
   ·rw[e1,e2,←e3]
    exact(sj k A1 b1 n e _ _ (by omega) (by omega) (by omega) (by omega) k1).imp (by simp only[length_cons];omega) fun _ _ h=>h
   ·generalize (elemP ex d l ⟨r++ [z],b⟩).2=s at*
    obtain⟨j,q⟩:=s
    simp only at e1
    subst e1
    exact .inr ⟨ff hz ((fm h.rd n _ _).sfx _),fun _ _=>trivial⟩
  ·exact cE _ c r b b hk
theorem pt_elems:PT z X K (bL ex) (bL ex'):=fun A b a e=>by
 rw[els_eq,els_eq]
 rcases pt_elem hz h ⟨[],[],[],[]⟩ [] A b a e with ⟨A1,b1,n1,l1,k1,e1,e2,e3⟩|⟨e1,_⟩
 ·rw[e1,e2,←e3]
  exact(sj hz h A1.length A1 b1 _ _ _ _ (Nat.le_refl _) (Nat.le_trans l1 a) (by simp only[length_append,length_singleton];omega) (by simp only[length_append];omega) k1).imp l1 fun _ _ h=>h
 ·generalize (elemP ex ⟨[],[],[],[]⟩ [] ⟨A++ [z],b⟩).2=s at*
  obtain⟨f,q⟩:=s
  simp only at e1
  subst e1
  exact .inr ⟨ff hz ((fm h.rd _ _ _).sfx _),fun _ _=>trivial⟩
end
end
end
end Go.Proofs.YtjigcpfjhfoheaaGreatDoor
