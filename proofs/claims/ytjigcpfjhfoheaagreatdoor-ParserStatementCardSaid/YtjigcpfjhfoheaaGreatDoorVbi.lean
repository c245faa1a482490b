/- The parser as plain functions on a list of tokens; no program in sight; The reference's reader as plain functions; it reads as the parser does; Readers never go back; statements; the reference reads as the parser does. -/
import Derived.Test.YtjigcpfjhfoheaaGreatDoorVad
import Derived.Test.YtjigcpfjhfoheaaGreatDoorVbh
namespace Go.Proofs.YtjigcpfjhfoheaaGreatDoor
open Go.RowKit List Go.Proofs.Tryz
set_option maxHeartbeats 400000
set_option maxRecDepth 100000
set_option linter.unusedVariables false
set_option linter.unusedSimpArgs false
section
open Lx (Tk)
def lc:M St:=ay (aE eG) fun _=>nmP 11
end
section
open Lx (Tk)
def primR (rec:M Ex):M Ex:=fun s=>
 if isS kNULL s then (dF 0 0 ⟨#[]⟩,s.next)
 else if isS iZ s then (opE 9 [(rec (needP yLp s.next)).1],needP yRp (rec (needP yLp s.next)).2)
 else if isS yLp s then ((rec s.next).1,needP yRp (rec s.next).2)
 else if s.hd.kind=3 then (dF 1 (numP s).1 ⟨#[]⟩,(numP s).2)
 else if s.hd.kind=4 then (dF 2 0 (takP 4 s).1,(takP 4 s).2)
 else colP s
def exprR:Nat→M Ex
 |0=>fun s=> (colE ⟨#[]⟩ ⟨#[]⟩,s)
 |n+1=>orP (primR (exprR n))
def cg:M Int:=fun s=>if (numP s).2.bad=false∧(numP s).1=0 then ((numP s).1,s.fail)else numP s
theorem Rel.rfl' {α:Type} (x:α×Ps):Rel x x:= .inl rfl
theorem Sim.rfl' {α:Type} (m:M α):Sim m m:=fun s=> .inl rfl
theorem nV (e:M Ex):Stk (primR e):=fun s hb=>by
 unfold primR
 simp only[bad_isS hb]
 simp only[Bool.false_eq_true,if_false]
 split
 ·exact kz s hb
 ·split
  ·exact bq 4 s hb
  ·exact i7 s hb
theorem stk_exprR:∀n,Stk (exprR n)
 |0=>fun _ _=>rfl
 |n+1=>stk_or (nV _)
theorem sim_bad {α:Type} {m n:M α} (e:Stk m) (f:Stk n) {s:Ps} (h:s.bad=true):Rel (m s) (n s):= .inr ⟨(e s h).trans (f s h).symm,by rw[e s h];exact h⟩
theorem oG {a b:M Ex} (h:Sim a b) (ops:List (BA×Int)):∀(n:Nat) (e:Ex) (s:Ps),Rel (chainGo a ops n e s) (chainGo b ops n e s)
 |0,_,_=> .inl rfl
 |n+1,e,s=>by
  rw[chainGo,chainGo]
  cases (firstP ops s).1 with
  |none=>exact .inl rfl
  |some o=>
   simp only
   rcases h (firstP ops s).2 with h1|⟨h1,h2⟩
   ·rw[h1];exact oG h ops n _ _
   ·rw[←h1,db _ _ _ _ _ h2,db _ _ _ _ _ h2]
    exact .inr ⟨rfl,h2⟩
theorem kU {a b:M Ex} (h:Sim a b) (ops:List (BA×Int)):Sim (chainP a ops) (chainP b ops):=fun s=>by
 unfold chainP
 rcases h s with h1|⟨h1,h2⟩
 ·rw[h1];exact oG h ops _ _ _
 ·rw[←h1,db _ _ _ _ _ h2,db _ _ _ _ _ h2]
  exact .inr ⟨rfl,h2⟩
theorem qp {α:Type} {a b:M α} (h:Sim a b):∀(n:Nat) (o:List α) (s:Ps),Rel (listGo a n o s) (listGo b n o s)
 |0,_,_=> .inl rfl
 |n+1,o,s=>by
  rw[listGo,listGo]
  split
  ·rcases h s.next with h1|⟨h1,h2⟩
   ·rw[h1];exact qp h n _ _
   ·rw[←h1,dK _ _ _ _ h2,dK _ _ _ _ h2]
    exact .inr ⟨rfl,h2⟩
  ·exact .inl rfl
theorem j4 {α:Type} {a b:M α} (h:Sim a b):Sim (listP a) (listP b):=fun s=>by
 unfold listP
 rcases h s with h1|⟨h1,h2⟩
 ·rw[h1];exact qp h _ _ _
 ·rw[←h1,dK _ _ _ _ h2,dK _ _ _ _ h2]
  exact .inr ⟨rfl,h2⟩
theorem sim_una {a b:M Ex} (h:Sim a b):Sim (unaP a) (unaP b):=fun s=>by
 unfold unaP
 split
 ·rcases h s.next with h1|⟨h1,h2⟩
  ·rw[h1];exact .inl rfl
  ·exact .inr ⟨h1,h2⟩
 ·exact h s
theorem sim_pro {a b:M Ex} (h:Sim a b):Sim (nr a) (nr b):=kU (sim_una h) _
theorem sim_sum {a b:M Ex} (h:Sim a b):Sim (sumP a) (sumP b):=kU (sim_pro h) _
theorem vr {a b:M Ex} (h:Sim a b) (x:Ex):∀(n:Nat) (e:Ex) (s:Ps),Rel (inGo a x n e s) (inGo b x n e s)
 |0,_,_=> .inl rfl
 |n+1,e,s=>by
  rw[inGo,inGo]
  split
  ·rcases h s.next with h1|⟨h1,h2⟩
   ·rw[h1];exact vr h x n _ _
   ·have k:∀(c:M Ex) (n:Nat) (e:Ex),inGo c x n e (b s.next).2=(e,(b s.next).2):=fun c n e=>by
     cases n with
     |zero=>rfl
     |succ n=>rw[inGo,bad_isS (h1 ▸ h2),if_neg (by simp)]
    rw[h1,k,k]
    exact .inr ⟨rfl,h1 ▸ h2⟩
  ·exact .inl rfl
theorem sim_in {a b:M Ex} (h:Sim a b) (x:Ex):Sim (inP a x) (inP b x):=fun s=>by
 unfold inP
 rcases h s with h1|⟨h1,h2⟩
 ·rw[h1];exact vr h x _ _ _
 ·rw[←h1,gE _ _ _ _ h2,gE _ _ _ _ h2]
  exact .inr ⟨rfl,h2⟩
theorem sim_tail {a b:M Ex} (h:Sim a b) (ha:Stk a) (hb:Stk b) (x:Ex):Sim (tailP a x) (tailP b x):=fun s=>by
 unfold tailP
 cases (firstP opsCmp s).1 with
 |some o=>
  simp only
  rcases h (firstP opsCmp s).2 with h1|⟨h1,h2⟩
  ·rw[h1];exact .inl rfl
  ·exact .inr ⟨h1,h2⟩
 |none=>
  simp only
  split
  ·exact .inl rfl
  split
  ·exact .inl rfl
  split
  ·rcases h (optP kNOT s).next with h1|⟨h1,h2⟩
   ·rw[h1]
    rcases h (needP kAND (b (optP kNOT s).next).2)with h3|⟨h3,h4⟩
    ·rw[h3];exact .inl rfl
    ·exact .inr ⟨h3,h4⟩
   ·rw[←h1,dk h2]
    have e:=ha _ h2
    have f:=hb _ h2
    exact .inr ⟨e.trans f.symm,by simp only;rw[e];exact h2⟩
  split
  ·rcases sim_in h x (needP yLp (optP kNOT s).next)with h1|⟨h1,h2⟩
   ·rw[h1];exact .inl rfl
   ·exact .inr ⟨by simp only;rw[h1],by simp only;rw[dk h2];exact h2⟩
  ·exact .inl rfl
theorem vu {a b:M Ex} (h:Sim a b) (ha:Stk a) (hb:Stk b):Sim (testP a) (testP b):=fun s=>by
 unfold testP
 rcases sim_sum h s with h1|⟨h1,h2⟩
 ·rw[h1];exact sim_tail (sim_sum h) (kC ha) (kC hb) _ _
 ·rw[←h1]
  have e:=iG (sumP a) (sumP a s).1 _ h2
  have f:=iG (sumP b) (sumP b s).1 _ h2
  exact .inr ⟨e.trans f.symm,by rw[e];exact h2⟩
theorem rJ {a b:M Ex} (h:Sim a b) (ha:Stk a) (hb:Stk b):∀n,Sim (notGo a n) (notGo b n)
 |0=>vu h ha hb
 |n+1=>fun s=>by
  rw[notGo,notGo]
  split
  ·rcases rJ h ha hb n s.next with h1|⟨h1,h2⟩
   ·rw[h1];exact .inl rfl
   ·exact .inr ⟨h1,h2⟩
  ·exact vu h ha hb s
theorem sim_or {a b:M Ex} (h:Sim a b) (ha:Stk a) (hb:Stk b):Sim (orP a) (orP b):=kU (kU (fun s=>rJ h ha hb _ s) _) _
theorem sim_prim {a b:M Ex} (h:Sim a b):Sim (aG a) (primR b):=fun s=>by
 by_cases hs:s.bad=true
 ·exact sim_bad (fE a) (nV b) hs
 have hb:s.bad=false:=by cases h:s.bad;rfl;exact absurd h hs
 unfold aG primR
 have g:hasK 3 s=(s.hd.kind==3):=by simp[hasK,hb]
 have i:hasK 4 s=(s.hd.kind==4):=by simp[hasK,hb]
 rw[g,i]
 by_cases e:s.hd.kind=3
 ·have hi:∀t,isS t s=false:=fun t=>by simp[isS,e]
  simp[e,hi]
  exact .inl rfl
 by_cases f:s.hd.kind=4
 ·have hi:∀t,isS t s=false:=fun t=>by simp[isS,f]
  simp[f,hi]
  exact .inl rfl
 rw[if_neg (by simpa using e),if_neg (by simpa using f),if_neg e,if_neg f]
 split
 ·exact .inl rfl
 split
 ·rcases h (needP yLp s.next)with h1|⟨h1,h2⟩
  ·rw[h1];exact .inl rfl
  ·exact .inr ⟨by simp only;rw[h1],by simp only;rw[dk h2];exact h2⟩
 split
 ·rcases h s.next with h1|⟨h1,h2⟩
  ·rw[h1];exact .inl rfl
  ·exact .inr ⟨by simp only;rw[h1],by simp only;rw[dk h2];exact h2⟩
 ·exact .inl rfl
theorem vw:∀n,Sim (exprP n) (exprR n)
 |0=>fun _=> .inl rfl
 |n+1=>sim_or (sim_prim (vw n)) (fE _) (nV _)
theorem bK {α β:Type} {m g:M α} {f e:α→M β} (h:Sim m g) (l:∀a,Sim (f a) (e a)) (n:∀a,Stk (f a)) (i:∀a,Stk (e a)):Sim (ay m f) (ay g e):=fun s=>by
 unfold ay
 rcases h s with h1|⟨h1,h2⟩
 ·rw[h1];exact l _ _
 ·rw[←h1]
  have j:=n (m s).1 _ h2
  have k:=i (g s).1 _ h2
  exact .inr ⟨j.trans k.symm,by rw[j];exact h2⟩
theorem dg {α:Type} (t:BA) {m e n f:M α} (g:Sim m e) (i:Sim n f):Sim (ifM t m n) (ifM t e f):=fun s=>by
 unfold ifM
 split
 ·exact g _
 ·exact i _
theorem sim_fst {α:Type} (ops:List (BA×Int)) {f e:Int→M α} {m g:M α} (i:∀o,Sim (f o) (e o)) (j:Sim m g):Sim (lp ops f m) (lp ops e g):=fun s=>by
 unfold lp
 cases (firstP ops s).1 with
 |none=>exact j _
 |some o=>exact i _ _
theorem stk_nm (k:Int):Stk (nmP k):=ab (bq 1) fun _=>ae _
theorem vy:Stk cg:=fun s hb=>by
 unfold cg
 rw[kz s hb,if_neg (by simp[hb]),kz s hb]
theorem digV_nil:digV ⟨#[]⟩=0:=rfl
theorem sim_pos:Sim posP cg:=fun s=>by
 by_cases hb:s.bad=true
 ·exact sim_bad i6 vy hb
 have hb:s.bad=false:=by cases h:s.bad;rfl;exact absurd h hb
 unfold posP cg
 by_cases f:hasK 3 s=true
 ·by_cases g:digV (tkB s.hd)=0
  ·have e:numP s=(0,s.next):=by unfold numP takP;rw[if_pos f,g]
   have i:numP s.fail=(0,s.fail):=by
    unfold numP
    rw[md (s:=s.fail) rfl]
    rfl
   rw[e,if_pos (by simp[f,g]),i,if_pos ⟨hb,rfl⟩]
   exact .inl rfl
  ·have e:numP s=(digV (tkB s.hd),s.next):=by unfold numP takP;rw[if_pos f]
   rw[if_neg (by simp[g]),e,if_neg (fun h=>g h.2)]
   exact .inl rfl
 ·have e:numP s=(0,s.fail):=by unfold numP takP;rw[if_neg f,digV_nil]
  rw[if_neg (by simp[f]),e,if_neg (by simp[Ps.fail])]
  exact .inl rfl
theorem sim_whr {a b:M Ex} (h:Sim a b):Sim (whrP a) (whrP b):=dg _ h (Sim.rfl' _)
theorem vz {a b:M Ex} (h:Sim a b) (o:Int):Sim (itm1 a o) (itm1 b o):=bK h (fun _=>Sim.rfl' _) (fun _=>ab (ak _) fun _=>ae _) (fun _=>ab (ak _) fun _=>ae _)
theorem sim_cond {a b:M Ex} (h:Sim a b) (k:List Ex→Ex) (c:List Ex):Sim (cr a k c) (cr b k c):=dg _ (bK h (fun _=>Sim.rfl' _) (fun _=>ae _) (fun _=>ae _)) (Sim.rfl' _)
theorem xd {a b:M Ex} (h:Sim a b):Sim (dB a) (dB b):=by
 unfold dB
 repeat' first
  |exact Sim.rfl' _
  |exact sim_whr h
  |exact bO _
  |exact ae _
  |exact ak _
  |exact bq _
  |apply bK
  |apply ab
  |intro _
section
variable {a b:M Ex} (h:Sim a b) (ha:Stk a) (hb:Stk b)
include h ha hb
theorem vA (d:Df) (l:List BA):Sim (elemP a d l) (elemP b d l):=by
 unfold elemP
 repeat' first
  |exact Sim.rfl' _
  |exact h
  |exact ha
  |exact hb
  |exact ae _
  |exact ak _
  |apply dg
  |apply bK
  |apply ab
  |intro _
theorem qq:∀(n:Nat) (d:Df) (l:List BA),Sim (cm a n d l) (cm b n d l)
 |0,_,_=>Sim.rfl' _
 |n+1,d,l=>dg _ (bK (vA h ha hb d l) (fun x=>qq n x.1 x.2) (fun _=>en a _ _ _) (fun _=>en b _ _ _)) (Sim.rfl' _)
theorem sim_elems:Sim (bL a) (bL b):=fun s=>
 bK (vA h ha hb _ _) (fun x=>qq h ha hb (s.r.length+1) x.1 x.2) (fun _=>en a _ _ _) (fun _=>en b _ _ _) s
theorem xe:Sim (createP a) (createP b):=by
 unfold createP
 repeat' first
  |exact Sim.rfl' _
  |exact sim_elems h ha hb
  |exact cn _
  |exact ae _
  |exact ak _
  |exact bq _
  |apply bK
  |apply ab
  |intro _
theorem sim_tup:Sim (tupP a) (tupP b):=by
 unfold tupP
 repeat' first
  |exact Sim.rfl' _
  |exact j4 h
  |exact aF ha
  |exact aF hb
  |exact ae _
  |exact ak _
  |apply bK
  |apply ab
  |intro _
theorem sim_asg:Sim (asgP a) (asgP b):=by
 unfold asgP
 repeat' first
  |exact Sim.rfl' _
  |exact h
  |exact ha
  |exact hb
  |exact ae _
  |exact ak _
  |exact bq _
  |apply bK
  |apply ab
  |intro _
theorem sim_itm:Sim (cY a) (cY b):=by
 unfold cY
 refine sim_fst _ (fun o=>bK (Sim.rfl' _) (fun _=>?_) (fun _=>?_) (fun _=>?_)) (bK h (fun _=>Sim.rfl' _) (fun _=>ae _) (fun _=>ae _))
 ·split
  ·exact dg _ (Sim.rfl' _) (vz h o)
  ·exact vz h o
 ·split
  ·exact aU _ _ (iH ha o)
  ·exact iH ha o
 ·split
  ·exact aU _ _ (iH hb o)
  ·exact iH hb o
theorem lM:∀(n:Nat) (l:List Src) (c:List Ex),Sim (fromGo a n l c) (fromGo b n l c)
 |0,_,_=>Sim.rfl' _
 |n+1,l,c=>dg _ (bK (Sim.rfl' _) (fun x=>lM n _ _) (fun _=>aV a _ _ _) (fun _=>aV b _ _ _))
   (dg _ (bK (Sim.rfl' _) (fun x=>bK (Sim.rfl' _) (fun _=>bK h (fun e=>lM n _ _) (fun _=>aV a _ _ _) (fun _=>aV b _ _ _))
    (fun _=>ab ha fun _=>aV a _ _ _) (fun _=>ab hb fun _=>aV b _ _ _))
    (fun _=>ab (ak _) fun _=>ab ha fun _=>aV a _ _ _) (fun _=>ab (ak _) fun _=>ab hb fun _=>aV b _ _ _)) (Sim.rfl' _))
theorem sim_from:Sim (fromP a) (fromP b):=fun s=>bK (Sim.rfl' _) (fun x=>lM h ha hb (s.r.length+1) [x] []) (fun _=>aV a _ _ _) (fun _=>aV b _ _ _) s
theorem sim_itms:Sim (itmsP a) (itmsP b):=dg _ (Sim.rfl' _) (j4 (sim_itm h ha hb))
theorem xh:Sim (dz a) (dz b):=by
 unfold dz
 repeat' first
  |exact Sim.rfl' _
  |exact j4 (sim_tup h ha hb)
  |exact aF (ja ha)
  |exact aF (ja hb)
  |exact ae _
  |exact ak _
  |exact bq _
  |apply bK
  |apply ab
  |intro _
theorem xi:Sim (dA a) (dA b):=by
 unfold dA
 repeat' first
  |exact Sim.rfl' _
  |exact j4 (sim_asg h ha hb)
  |exact sim_whr h
  |exact aF (eO ha)
  |exact aF (eO hb)
  |exact bO _
  |exact ae _
  |exact ak _
  |exact bq _
  |apply bK
  |apply ab
  |intro _
end
end
section
open Lx (Tk)
theorem nz_primR {p:M Ex} (h:Nz p):Nz (primR p):=fun s=>by
 unfold primR
 split
 ·simp[dF,Ex.d]
 split
 ·simp[opE,Ex.d]
 split
 ·exact h _
 split
 ·simp[dF,Ex.d]
 split
 ·simp[dF,Ex.d]
 ·exact nz_col s
theorem vB:∀n,Nz (exprR n)
 |0=>fun _=>by simp[exprR,colE,Ex.d]
 |n+1=>nz_or (nz_primR (vB n))
def andR (a b:Ex):Ex:=if a.d.op=0 then b else opE 18 [a,b]
def bZ (c:List Ex):Ex:=c.foldl andR exZ
theorem vC:∀c:List Ex,(∀e∈c,e.d.op≠0)→andL c=bZ c
 | [],_=>rfl
 |e::l,h=>by
  have f:∀(l:List Ex) (a:Ex),a.d.op≠0→l.foldl (fun a b=>opE 18 [a,b]) a=l.foldl andR a:=by
   intro l
   induction l with
   |nil=>intro a _;rfl
   |cons b l ih=>
    intro a ha
    rw[foldl_cons,foldl_cons,andR,if_neg ha]
    exact ih _ (by simp[opE,Ex.d])
  show l.foldl (fun a b=>opE 18 [a,b]) e=(e::l).foldl andR exZ
  rw[foldl_cons,andR,if_pos (show exZ.d.op=0 from rfl)]
  exact f l e (h e (mem_cons_self ..))
theorem xj {ex:M Ex} (h:Nz ex) (pos:M Int):queryP ex pos andL=queryP ex pos bZ:=by
 have i:∀s:Ps,cr ex andL (fromP ex s).1.2=cr ex bZ (fromP ex s).1.2:=fun s=>by
  have g:∀e∈(fromP ex s).1.2,e.d.op≠0:=oS h _ _ _ _ (by simp)
  funext s2
  unfold cr ifM
  split
  ·show(andL _,_)=(bZ _,_)
   rw[vC _ (fun e f=>by
    rcases List.mem_append.1 f with f|f
    ·exact g e f
    ·rw[List.mem_singleton.1 f];exact h _)]
  ·show(andL _,_)=(bZ _,_)
   rw[vC _ g]
 funext s
 unfold queryP ay
 simp only[i]
theorem sim_ord:Sim (dG posP) (dG cg):=bK sim_pos (fun _=>Sim.rfl' _) (fun _=>aU _ _ (aU _ _ (ae _))) (fun _=>aU _ _ (aU _ _ (ae _)))
theorem sim_ords:Sim (da posP) (da cg):=dg _ (bK (Sim.rfl' _) (fun _=>j4 sim_ord) (fun _=>aF (i8 i6)) (fun _=>aF (i8 vy))) (Sim.rfl' _)
theorem sim_lim:Sim (limP posP) (limP cg):=dg _ sim_pos (Sim.rfl' _)
theorem sim_last:Sim fQ lc:=fun s=>by
 unfold fQ lc ifM
 show Rel _ (nmP 11 (needP eG s))
 unfold needP
 split
 ·exact .inl rfl
 ·exact .inr ⟨(stk_nm 11 s.fail rfl).symm,rfl⟩
section
variable {a b:M Ex} (h:Sim a b) (ha:Stk a) (hb:Stk b) (hz:Nz b)
include h ha hb hz
theorem sim_query:Sim (queryP a posP andL) (queryP b cg bZ):=by
 rw[←xj hz cg]
 unfold queryP
 repeat' first
  |exact Sim.rfl' _
  |exact sim_itms h ha hb
  |exact sim_from h ha hb
  |exact sim_cond h _ _
  |exact sim_ords
  |exact sim_lim
  |exact eP _
  |exact jK _ _ _
  |exact fD
  |exact ce _
  |exact bG _
  |exact ae _
  |exact ak _
  |apply bK
  |apply ab
  |intro _
theorem sim_stmt:Sim (dj a posP andL fQ) (dj b cg bZ lc):=by
 unfold dj
 exact dg _ (xe h ha hb) (dg _ (xh h ha hb) (dg _ (xi h ha hb) (dg _ (xd h) (dg _ (sim_query h ha hb hz)
  (dg _ (Sim.rfl' _) (dg _ (Sim.rfl' _) (dg _ (Sim.rfl' _) (dg _ (Sim.rfl' _) sim_last))))))))
end
def stmR (n:Nat):M St:=dj (exprR n) cg bZ lc
theorem o5 (n:Nat):Sim (stmP n) (stmR n):=sim_stmt (vw n) (gD n) (stk_exprR n) (vB n)
end
end Go.Proofs.YtjigcpfjhfoheaaGreatDoor
