/- What the parser reads is well-formed and unbound, unless it has failed; The tokens of a text are good: words are names, texts can be printed, numbers fit; The tokens of canonical texts of expressions; no program in sight; The pars. -/
import Derived.Test.YtjigcpfjhfoheaaGreatDoorVba
import Derived.Test.YtjigcpfjhfoheaaGreatDoorVbb
namespace Go.Proofs.YtjigcpfjhfoheaaGreatDoor
open Go.RowKit List Go.Proofs.Tryz
set_option maxHeartbeats 1000000
set_option maxRecDepth 100000
set_option linter.unusedVariables false
set_option linter.unusedSimpArgs false
section
open Lx (Tk)
mutual
def Ex.unb:Ex→Bool
 | .mk d ks=>d.ix==0&&oN ks
def oN:List Ex→Bool
 | []=>true
 |e::es=>e.unb&&oN es
end
structure Gt (a:Tk):Prop where
 nm:a.kind=1→nameB (tkB a)=true
 num:a.kind=3→digV (tkB a)≤2147483648
 txt:a.kind=4→hU (tkB a)=true
def Gs (B:Nat) (s:Ps):Prop:=s.r.length<B∧∀a∈s.r,Gt a
def Yld {α:Type} (B:Nat) (Q:α→Prop) (m:M α):Prop:=∀s,Gs B s→Gs B (m s).2∧((m s).2.bad=false→Q (m s).1)
section
variable {B:Nat}
theorem Gs.next {s:Ps} (h:Gs B s):Gs B s.next:=⟨Nat.lt_of_le_of_lt (next_len s) h.1,fun a b=>h.2 a (mem_of_mem_tail b)⟩
theorem Gs.fail {s:Ps} (h:Gs B s):Gs B s.fail:=h
theorem Gs.need {s:Ps} (h:Gs B s) (t:BA):Gs B (needP t s):=by
 unfold needP
 split
 ·exact h.next
 ·exact h
theorem Gs.opt {s:Ps} (h:Gs B s) (t:BA):Gs B (optP t s):=by
 unfold optP
 split
 ·exact h.next
 ·exact h
theorem Gs.first (l:List (BA×Int)):∀ {s:Ps},Gs B s→Gs B (firstP l s).2:=by
 induction l with
 |nil=>intro s h;exact h
 |cons a l ih=>
  intro s h
  rw[firstP]
  split
  ·exact h.next
  ·exact ih h
theorem Gs.hd {s:Ps} (h:Gs B s) {k:Nat} (i:k≠0) (f:hasK k s=true):Gt s.hd∧s.hd.kind=k:=by
 obtain⟨_,a,l,b,g,_⟩:=kD i f
 have e:s.hd=a:=by unfold Ps.hd;rw[b];rfl
 rw[e]
 exact⟨h.2 a (by rw[b];exact mem_cons_self),g⟩
theorem Gs.tak {s:Ps} (h:Gs B s) (k:Nat):Gs B (takP k s).2:=by
 unfold takP
 split
 ·exact h.next
 ·exact h
theorem eg {α:Type} {m:M α} (h:Stk m) {s:Ps} (a:(m s).2.bad=false):s.bad=false:=by
 cases hs:s.bad with
 |false=>rfl
 |true=>rw[h s hs,hs]at a;exact a
section
variable {α β:Type} {Q:α→Prop} {R:β→Prop}
theorem av {m:M α} {f:α→M β} (h:Yld B Q m) (k:∀a,Q a→Yld B R (f a)) (l:∀a,Stk (f a)):Yld B R (ay m f):=fun s hs=>by
 unfold ay
 have b:=h s hs
 cases g:(m s).2.bad with
 |true=>
  have j:=l (m s).1 (m s).2 g
  rw[j]
  exact⟨b.1,fun i=>by rw[g]at i;cases i⟩
 |false=>exact k _ (b.2 g) _ b.1
theorem aI {a:α} (h:Q a):Yld B Q (aH a):=fun s hs=>⟨hs,fun _=>h⟩
theorem aR (t:BA):Yld B (fun _=>True) (aE t):=fun s hs=>⟨hs.need t,fun _=>trivial⟩
theorem bp (t:BA) {m n:M α} (a:Yld B Q m) (b:Yld B Q n):Yld B Q (ifM t m n):=fun s hs=>by
 unfold ifM
 split
 ·exact a _ hs.next
 ·exact b _ hs
theorem yld_fst (ops:List (BA×Int)) {f:Int→M α} {m:M α} (a:∀o,(∃t,(t,o)∈ops)→Yld B Q (f o)) (b:Yld B Q m):Yld B Q (lp ops f m):=fun s hs=>by
 unfold lp
 cases g:(firstP ops s).1 with
 |none=>exact b _ hs
 |some o=>exact a o (co _ _ _ g) _ (Gs.first _ hs)
theorem Yld.imp {m:M α} {b:α→Prop} (h:Yld B Q m) (hi:∀a,Q a→b a):Yld B b m:=fun s hs=>⟨(h s hs).1,fun f=>hi _ ((h s hs).2 f)⟩
theorem pU {el:M α} (h:Yld B Q el) (f:Stk el):∀(n:Nat) (o:List α) (s:Ps),Gs B s→(s.bad=false→o≠[]∧∀a∈o,Q a)→Gs B (listGo el n o s).2∧((listGo el n o s).2.bad=false→(listGo el n o s).1≠[]∧∀a∈(listGo el n o s).1,Q a)
 |0,_,_,hs,ho=>⟨hs,ho⟩
 |n+1,o,s,hs,ho=>by
  rw[listGo]
  split
  ·next hc=>
   have j:=(dL hc).1
   have g:=h s.next hs.next
   refine pU h f n _ _ g.1 fun i=>⟨by simp,fun a b=>?_⟩
   rcases List.mem_append.1 b with b|b
   ·exact(ho j).2 a b
   ·rw[List.mem_singleton.1 b];exact g.2 i
  ·exact⟨hs,ho⟩
theorem gT {el:M α} (h:Yld B Q el) (b:Stk el):Yld B (fun l=>l≠[]∧∀a∈l,Q a) (listP el):=fun s hs=>by
 unfold listP
 have f:=h s hs
 exact pU h b _ _ _ f.1 fun i=>⟨by simp,fun a g=>by rw[List.mem_singleton.1 g];exact f.2 i⟩
end
theorem cU:Yld B (fun b=>nameB b=true) (takP 1):=fun s hs=>⟨hs.tak 1,fun a=>by
 unfold takP at a ⊢
 split
 ·next h=>exact(hs.hd (by omega) h).1.nm (hs.hd (by omega) h).2
 ·next h=>rw[if_neg h]at a;cases a⟩
theorem pV:Yld B (fun b=>hU b=true) (takP 4):=fun s hs=>⟨hs.tak 4,fun a=>by
 unfold takP at a ⊢
 split
 ·next h=>exact(hs.hd (by omega) h).1.txt (hs.hd (by omega) h).2
 ·next h=>rw[if_neg h]at a;cases a⟩
theorem digV_nn (b:BA):0≤digV b:=by unfold digV;omega
theorem io:Yld B (fun n=>0≤n∧n≤2147483648) numP:=fun s hs=>⟨hs.tak 3,fun a=>by
 unfold numP at a ⊢
 refine⟨digV_nn _,?_⟩
 unfold takP at a ⊢
 split
 ·next h=>exact(hs.hd (by omega) h).1.num (hs.hd (by omega) h).2
 ·next h=>rw[if_neg h]at a;cases a⟩
theorem yld_pos:Yld B (fun n=>1≤n∧n≤2147483648) posP:=fun s hs=>by
 unfold posP
 split
 ·refine⟨(io s.fail hs).1,fun a=>?_⟩
  have:=eg kz a
  cases this
 ·next hc=>
  refine⟨(io s hs).1,fun a=>?_⟩
  have b:=(io s hs).2 a
  refine⟨?_,b.2⟩
  unfold numP takP at a ⊢
  split
  ·next h=>simp[h]at hc;have:=digV_nn (tkB s.hd);simp only;omega
  ·next h=>rw[if_neg h]at a;cases a
def FQ (e:Ex):Prop:=e.formed=true∧e.unb=true
theorem fq_lit1 {i:Int} (h:0≤i∧i≤2147483648):FQ (dF 1 i ⟨#[]⟩):=by
 refine⟨?_,rfl⟩
 unfold dF
 rw[Ex.formed]
 simp[opN,ndB,eE,Nd.litB,ByteArray.size,h.1,h.2]
theorem fq_lit2 {t:BA} (h:hU t=true):FQ (dF 2 0 t):=by
 refine⟨?_,rfl⟩
 unfold dF
 rw[Ex.formed]
 simp[opN,ndB,eE,Nd.litB,ByteArray.size,h]
theorem fq_lit0:FQ (dF 0 0 ⟨#[]⟩):=by
 refine⟨?_,rfl⟩
 unfold dF
 rw[Ex.formed]
 simp[opN,ndB,eE,Nd.litB,ByteArray.size]
theorem fq_col {t n:BA} (a:t=⟨#[]⟩∨nameB t=true) (b:nameB n=true):FQ (colE t n):=by
 refine⟨?_,rfl⟩
 unfold colE
 rw[Ex.formed]
 have e:ndB ⟨2,t,n,0,0,0,⟨#[]⟩⟩ []=true:=by
  unfold ndB
  rw[if_pos rfl]
  rcases a with rfl|a
  ·simp only[b,Bool.true_and]
   rfl
  ·simp only[b,a,Bool.or_true,Bool.true_and]
   rfl
 show((opN 2==(0:Int)) &&eE [] &&ndB ⟨2,t,n,0,0,0,⟨#[]⟩⟩ [])=true
 rw[e]
 rfl
theorem pW {o:Int} (g:o=3∨o=9∨o=17∨o=20) {a:Ex} (h:FQ a):FQ (opE o [a]):=by
 refine⟨?_,?_⟩
 ·unfold opE
  rw[Ex.formed]
  have f:=h.1
  have e:opN o=1:=by unfold opN;rw[if_neg (by omega),if_pos (by omega)]
  have b:ndB ⟨o,⟨#[]⟩,⟨#[]⟩,0,0,0,⟨#[]⟩⟩ ([a].map Ex.d)=true:=by
   unfold ndB
   rw[if_neg (show¬o=2 by omega),if_neg (show¬o=1 by omega),if_neg (fun h=>by have:o=16:=h.1;omega)]
   rfl
  rw[b]
  simp[e,eE,f]
 ·unfold opE
  rw[Ex.unb]
  simp[oN,h.2]
theorem ji {o:Int} (j:4≤o∧o≤8∨10≤o∧o≤15∨o=18∨o=19) {a b:Ex} (h:FQ a) (k:FQ b):FQ (opE o [a,b]):=by
 refine⟨?_,?_⟩
 ·unfold opE
  rw[Ex.formed]
  have g:=h.1
  have i:=k.1
  have e:opN o=2:=by unfold opN;rw[if_neg (by omega),if_neg (by omega),if_pos (by omega)]
  have f:ndB ⟨o,⟨#[]⟩,⟨#[]⟩,0,0,0,⟨#[]⟩⟩ ([a,b].map Ex.d)=true:=by
   unfold ndB
   rw[if_neg (show¬o=2 by omega),if_neg (show¬o=1 by omega),if_neg (fun h=>by have:o=16:=h.1;omega)]
   rfl
  rw[f]
  simp[e,eE,g,i]
 ·unfold opE
  rw[Ex.unb]
  simp[oN,h.2,k.2]
theorem fq_like {a:Ex} {t:BA} (h:FQ a) (k:hU t=true):FQ (opE 16 [a,dF 2 0 t]):=by
 have b:=fq_lit2 k
 refine⟨?_,?_⟩
 ·unfold opE
  rw[Ex.formed]
  have f:=h.1
  have g:=b.1
  simp[opN,ndB,eE,Nd.valZ,ByteArray.size,f,g]
  simp[dF,Ex.d]
 ·unfold opE
  rw[Ex.unb]
  simp[oN,h.2,b.2]
theorem tj (b:Bool) {e:Ex} (h:FQ e):FQ (fK b e):=by
 cases b
 ·exact h
 ·exact pW (by omega) h
theorem oB {el:M Ex} (h:Yld B FQ el) {ops:List (BA×Int)} (i:∀x∈ops,4≤x.2∧x.2≤8∨10≤x.2∧x.2≤15∨x.2=18∨x.2=19):
  ∀(n:Nat) (e:Ex) (s:Ps),Gs B s→(s.bad=false→FQ e)→Gs B (chainGo el ops n e s).2∧((chainGo el ops n e s).2.bad=false→FQ (chainGo el ops n e s).1)
 |0,_,_,hs,he=>⟨hs,he⟩
 |n+1,e,s,hs,he=>by
  rw[chainGo]
  cases a:(firstP ops s).1 with
  |none=>exact⟨hs,he⟩
  |some o=>
   simp only
   obtain⟨t,j⟩:=co _ _ _ a
   have f:s.bad=false:=by
    cases b:s.bad with
    |false=>rfl
    |true=>rw[kB ops s b]at a;cases a
   have g:=h _ (Gs.first ops hs)
   exact oB h i n _ _ g.1 fun b=>ji (i _ j) (he f) (g.2 b)
theorem kN {el:M Ex} (h:Yld B FQ el) {ops:List (BA×Int)} (a:∀x∈ops,4≤x.2∧x.2≤8∨10≤x.2∧x.2≤15∨x.2=18∨x.2=19):Yld B FQ (chainP el ops):=fun s hs=>by
 unfold chainP
 exact oB h a _ _ _ (h s hs).1 (h s hs).2
theorem uR:Yld B (fun e=>FQ e∧e.d.op=2) colP:=fun s hs=>by
 have a:=cU s hs
 unfold colP
 split
 ·next hc=>
  have g:=cU (takP 1 s).2.next a.1.next
  have b:(takP 1 s).2.bad=false:=(dL hc).1
  exact⟨g.1,fun f=>⟨fq_col (.inr (a.2 b)) (g.2 f),rfl⟩⟩
 ·exact⟨a.1,fun b=>⟨fq_col (.inl rfl) (a.2 b),rfl⟩⟩
theorem yld_col:Yld B FQ colP:=uR.imp fun _ h=>h.1
section
variable {p:M Ex} (h:Yld B FQ p) (st:Stk p)
include h
theorem yld_una:Yld B FQ (unaP p):=fun s hs=>by
 unfold unaP
 split
 ·exact⟨(h _ hs.next).1,fun a=>pW (by omega) ((h _ hs.next).2 a)⟩
 ·exact h s hs
theorem yld_sum:Yld B FQ (sumP p):=kN (kN (yld_una h) (by decide)) (by decide)
include st
omit st in
theorem uS {a:Ex} (g:FQ a):∀(n:Nat) (e:Ex) (s:Ps),Gs B s→(s.bad=false→FQ e)→Gs B (inGo p a n e s).2∧((inGo p a n e s).2.bad=false→FQ (inGo p a n e s).1)
 |0,_,_,hs,he=>⟨hs,he⟩
 |n+1,e,s,hs,he=>by
  rw[inGo]
  split
  ·next hc=>
   have i:=(dL hc).1
   have f:=h _ hs.next
   exact uS g n _ _ f.1 fun b=>ji (by omega) (he i) (ji (by omega) g (f.2 b))
  ·exact⟨hs,he⟩
theorem yld_tail {a:Ex} (g:FQ a):Yld B FQ (tailP p a):=fun s hs=>by
 unfold tailP
 cases n:(firstP opsCmp s).1 with
 |some o=>
  simp only
  obtain⟨t,u⟩:=co _ _ _ n
  have f:=h _ (Gs.first opsCmp hs)
  have k:∀x∈opsCmp,10≤x.2∧x.2≤15:=by decide
  exact⟨f.1,fun b=>ji (.inr (.inl (k _ u))) g (f.2 b)⟩
 |none=>
  simp only
  split
  ·exact⟨((hs.next).opt _).need _,fun _=>tj _ (pW (by omega) g)⟩
  split
  ·have f:=pV _ (hs.opt kNOT).next
   exact⟨f.1,fun b=>tj _ (fq_like g (f.2 b))⟩
  split
  ·have f:=h _ (hs.opt kNOT).next
   have j:=h _ (f.1.need kAND)
   refine⟨j.1,fun b=>?_⟩
   have l:=eg st b
   have m:(p (optP kNOT s).next).2.bad=false:=by
    cases i:(p (optP kNOT s).next).2.bad with
    |false=>rfl
    |true=>rw[dk i,i]at l;exact l
   exact tj _ (ji (by omega) (ji (by omega) g (f.2 m)) (ji (by omega) g (j.2 b)))
  split
  ·have f:=h _ ((hs.opt kNOT).next.need yLp)
   have j:=uS h g ((needP yLp (optP kNOT s).next).r.length+1) (opE 10 [a,(p (needP yLp (optP kNOT s).next)).1]) (p (needP yLp (optP kNOT s).next)).2 f.1 (fun b=>ji (by omega) g (f.2 b))
   refine⟨j.1.need _,fun b=>tj _ (j.2 ?_)⟩
   cases i:(inP p a (needP yLp (optP kNOT s).next)).2.bad with
   |false=>exact i
   |true=>simp only at b;rw[dk i,i]at b;cases b
  ·refine⟨?_,fun _=>g⟩
   simp only
   split
   ·exact hs.opt _
   ·exact hs
theorem uT:Yld B FQ (testP p):=fun s hs=>by
 unfold testP
 have a:=yld_sum h s hs
 cases b:(sumP p s).2.bad with
 |true=>rw[iG _ _ _ b];exact⟨a.1,fun f=>by rw[b]at f;cases f⟩
 |false=>exact yld_tail (yld_sum h) (kC st) (a.2 b) _ a.1
theorem rx:∀n,Yld B FQ (notGo p n)
 |0=>uT h st
 |n+1=>fun s hs=>by
  rw[notGo]
  split
  ·have a:=rx n _ hs.next
   exact⟨a.1,fun b=>pW (by omega) (a.2 b)⟩
  ·exact uT h st s hs
theorem yld_or:Yld B FQ (orP p):=kN (kN (fun s hs=>rx h st _ s hs) (by decide)) (by decide)
end
theorem Gs.step {s:Ps} {t:BA} (h:Gs (B+1) s) (a:isS t s=true):Gs B s.next:=⟨by have:=au a;have:=h.1;omega,h.next.2⟩
theorem Gs.up {s:Ps} (h:Gs B s):Gs (B+1) s:=⟨Nat.lt_succ_of_lt h.1,h.2⟩
theorem yld_prim {p:M Ex} (h:Yld B FQ p) (st:Stk p):Yld (B+1) FQ (aG p):=fun s hs=>by
 unfold aG
 split
 ·exact⟨(io s hs).1,fun a=>fq_lit1 ((io s hs).2 a)⟩
 split
 ·exact⟨(pV s hs).1,fun a=>fq_lit2 ((pV s hs).2 a)⟩
 split
 ·exact⟨hs.next,fun _=>fq_lit0⟩
 split
 ·next hc=>
  have b:=h _ ((hs.step hc).need yLp)
  refine⟨(b.1.need _).up,fun a=>pW (by omega) (b.2 ?_)⟩
  cases f:(p (needP yLp s.next)).2.bad with
  |false=>rfl
  |true=>simp only at a;rw[dk f,f]at a;cases a
 split
 ·next hc=>
  have b:=h _ (hs.step hc)
  refine⟨(b.1.need _).up,fun a=>b.2 ?_⟩
  cases f:(p s.next).2.bad with
  |false=>rfl
  |true=>simp only at a;rw[dk f,f]at a;cases a
 ·exact yld_col s hs
theorem uU:∀n,Yld n FQ (exprP n)
 |0=>fun s hs=>absurd hs.1 (Nat.not_lt_zero _)
 |n+1=>yld_or (yld_prim (uU n) (gD n)) (fE _)
theorem kO:Yld B (fun l=>namesB l=true) namesP:=by
 unfold namesP
 refine av (aR _) (fun _ _=>?_) (fun _=>ab (aF (bq 1)) fun _=>ab (ak _) fun _=>ae _)
 refine av (gT cU (bq 1)) (fun l b=>?_) (fun _=>ab (ak _) fun _=>ae _)
 refine av (aR _) (fun _ _=>aI ?_) (fun _=>ae _)
 unfold namesB
 rw[Bool.and_eq_true,all_eq_true]
 refine⟨?_,b.2⟩
 cases l with
 |nil=>exact absurd rfl b.1
 |cons a l=>rfl
theorem ry:Yld B (fun n=> -2147483648≤n∧n≤2147483648) eK:=by
 unfold eK
 refine bp _ (av io (fun n a=>aI (by omega)) (fun _=>ae _)) (io.imp fun n a=>by omega)
def TyQ (t:Int×Int×Int×Int):Prop:=
 (t.1=1∧ -2147483648≤t.2.1∧t.2.1≤2147483648∧ -2147483648≤t.2.2.1∧t.2.2.1≤2147483648∧t.2.2.2=0)∨(t.1=2∧t.2.1=0∧t.2.2.1=0∧0≤t.2.2.2∧t.2.2.2≤2147483648)
theorem yld_typ:Yld B TyQ typP:=by
 unfold typP
 refine bp _ (bp _ ?_ (aI (.inl (by decide)))) (av (aR _) (fun _ _=>bp _ ?_ (aI (.inr (by decide)))) (fun _=>aU _ _ (ae _)))
 ·unfold pj
  refine av ry (fun a f=>?_) (fun _=>ab (ak _) fun _=>ab uu fun _=>ab (ak _) fun _=>ae _)
  refine av (aR _) (fun _ _=>?_) (fun _=>ab uu fun _=>ab (ak _) fun _=>ae _)
  refine av ry (fun b g=>?_) (fun _=>ab (ak _) fun _=>ae _)
  exact av (aR _) (fun _ _=>aI (.inl ⟨rfl,f.1,f.2,g.1,g.2,rfl⟩)) (fun _=>ae _)
 ·unfold maxP
  refine av io (fun a f=>?_) (fun _=>ab (ak _) fun _=>ae _)
  exact av (aR _) (fun _ _=>aI (.inr ⟨rfl,rfl,rfl,f.1,f.2⟩)) (fun _=>ae _)
theorem cd_ok {a:BA} (f:nameB a=true) {t:Int×Int×Int×Int} (g:TyQ t) (b:Bool):Cd.ok ⟨a,t.1,t.2.1,t.2.2.1,t.2.2.2,b⟩=true:=by
 unfold Cd.ok inB
 rcases g with ⟨h1,h2,h3,h4,h5,h6⟩|⟨h1,h2,h3,h4,h5⟩
 ·simp[h1,f,h2,h3,h4,h5,h6]
 ·simp[h1,f,h2,h3,h4,h5]
theorem yld_def:Yld B (fun c=>c.ok=true) ek:=by
 unfold ek
 refine av cU (fun a b=>?_) (fun _=>ab stk_typ fun _=>aU _ _ (ae _))
 refine av yld_typ (fun t f=>?_) (fun _=>aU _ _ (ae _))
 exact bp _ (av (aR _) (fun _ _=>aI (cd_ok b f true)) (fun _=>ae _)) (aI (cd_ok b f false))
theorem yld_ref:Yld B (fun f=>f.ok=true) refP:=by
 unfold refP
 refine av kO (fun a g=>?_) (fun _=>ab (ak _) fun _=>ab (bq 1) fun _=>ab gi fun _=>ae _)
 refine av (aR _) (fun _ _=>?_) (fun _=>ab (bq 1) fun _=>ab gi fun _=>ae _)
 refine av cU (fun t j=>?_) (fun _=>ab gi fun _=>ae _)
 refine av kO (fun b i=>aI ?_) (fun _=>ae _)
 unfold Rf.ok
 simp only[g,j,i,Bool.and_self]
theorem tl:Yld B (fun f=>f.ok=true) srcP:=by
 unfold srcP
 refine av cU (fun a g=>?_) (fun _=>aU _ _ (ae _))
 refine bp _ (av cU (fun b i=>aI ?_) (fun _=>ae _)) (aI ?_)
 ·unfold Src.ok
  simp only[g,i,Bool.or_true,Bool.and_self]
 ·unfold Src.ok
  simp only[g,Bool.true_and]
  rw[gc]
  rfl
theorem yld_ord:Yld B (fun f=>f.ok=true) (dG posP):=by
 unfold dG
 refine av yld_pos (fun a g=>?_) (fun _=>aU _ _ (aU _ _ (ae _)))
 have h:∀b,Ord'.ok ⟨a,b⟩=true:=fun b=>by unfold Ord'.ok inB;simp[g.1,g.2]
 exact bp _ (aI (h _)) (bp _ (aI (h _)) (aI (h _)))
structure DfQ (x:Df×List BA):Prop where
 cols:∀c∈x.1.cols,c.ok=true
 keys:∀c∈x.1.keys,namesB c=true
 frs:∀c∈x.1.frs,c.ok=true
 chk:∀c∈x.1.chk,FQ c
 ne:x.1.cols.length+x.1.keys.length+x.1.frs.length+x.1.chk.length≠0
theorem eQ {α:Type} {P:α→Prop} {l:List α} {a:α} (h:∀x∈l,P x) (f:P a):∀x∈l++ [a],P x:=fun x b=>by
 rcases List.mem_append.1 b with b|b
 ·exact h x b
 ·rw[List.mem_singleton.1 b];exact f
def WQ (e:Ex):Prop:=(e.absent=true∨e.formed=true)∧e.unb=true
theorem wq_z:WQ exZ:=⟨.inl (by decide),by decide⟩
theorem fq_and:∀(l:List Ex) (e:Ex),FQ e→(∀x∈l,FQ x)→FQ (l.foldl (fun a b=>opE 18 [a,b]) e)
 | [],_,he,_=>he
 |a::l,e,he,hl=>fq_and l _ (ji (by omega) he (hl a mem_cons_self)) fun x f=>hl x (mem_cons_of_mem _ f)
theorem wq_andL {c:List Ex} (a:∀e∈c,FQ e):WQ (andL c):=by
 cases c with
 |nil=>exact wq_z
 |cons e l=>
  have:=fq_and l e (a e mem_cons_self) fun x b=>a x (mem_cons_of_mem _ b)
  exact⟨.inr this.1,this.2⟩
section
variable {ex:M Ex} (h:Yld B FQ ex) (st:Stk ex)
include h st
theorem uV {d:Df} {l:List BA} (b:∀c∈d.cols,c.ok=true) (g:∀c∈d.keys,namesB c=true) (f:∀c∈d.frs,c.ok=true) (i:∀c∈d.chk,FQ c):Yld B DfQ (elemP ex d l):=by
 unfold elemP
 refine bp _ ?_ (bp _ ?_ (bp _ ?_ (bp _ ?_ ?_)))
 ·refine av (aR _) (fun _ _=>?_) (fun _=>ab gi fun _=>ae _)
  exact av kO (fun k a=>aI ⟨b,eQ g a,f,i,by simp⟩) (fun _=>ae _)
 ·exact av kO (fun k a=>aI ⟨b,eQ g a,f,i,by simp⟩) (fun _=>ae _)
 ·refine av (aR _) (fun _ _=>?_) (fun _=>ab st fun _=>ab (ak _) fun _=>ae _)
  refine av h (fun e j=>?_) (fun _=>ab (ak _) fun _=>ae _)
  exact av (aR _) (fun _ _=>aI ⟨b,g,f,eQ i j,by simp⟩) (fun _=>ae _)
 ·refine av (aR _) (fun _ _=>?_) (fun _=>ab stk_ref fun _=>ae _)
  exact av yld_ref (fun k a=>aI ⟨b,g,eQ f a,i,by simp⟩) (fun _=>ae _)
 ·exact av yld_def (fun k a=>aI ⟨eQ b a,g,f,i,by simp⟩) (fun _=>ae _)
theorem pX:∀(n:Nat) (x:Df×List BA),DfQ x→Yld B DfQ (cm ex n x.1 x.2)
 |0,_,hx=>aI hx
 |n+1,x,hx=>bp _ (av (uV h st hx.cols hx.keys hx.frs hx.chk) (fun y a=>pX n y a) (fun _=>en ex _ _ _)) (aI hx)
theorem yld_elems:Yld B DfQ (bL ex):=fun s hs=>
 av (uV h st (d:=⟨[],[],[],[]⟩) (by simp) (by simp) (by simp) (by simp)) (fun x a=>pX h st (s.r.length+1) x a) (fun _=>en ex _ _ _) s hs
theorem yld_tup:Yld B (fun l=>rowOk l=true∧∀e∈l,e.unb=true) (tupP ex):=by
 unfold tupP
 refine av (aR _) (fun _ _=>?_) (fun _=>ab (aF st) fun _=>ab (ak _) fun _=>ae _)
 refine av (gT h st) (fun l b=>?_) (fun _=>ab (ak _) fun _=>ae _)
 refine av (aR _) (fun _ _=>aI ⟨?_,fun e a=> (b.2 e a).2⟩) (fun _=>ae _)
 unfold rowOk
 rw[Bool.and_eq_true,all_eq_true]
 exact⟨decide_eq_true (List.length_pos_iff.2 b.1),fun e a=> (b.2 e a).1⟩
omit st in
theorem yld_whr:Yld B WQ (whrP ex):=bp _ (h.imp fun e a=>⟨.inr a.1,a.2⟩) (aI wq_z)
theorem yld_asg:Yld B (fun a=>a.ok=true∧a.ix=0∧a.ex.unb=true) (asgP ex):=by
 unfold asgP
 refine av cU (fun a f=>?_) (fun _=>ab (ak _) fun _=>ab st fun _=>ae _)
 refine av (aR _) (fun _ _=>?_) (fun _=>ab st fun _=>ae _)
 refine av h (fun e b=>aI ⟨?_,rfl,b.2⟩) (fun _=>ae _)
 unfold Asg.ok
 simp only[f,b.1,Bool.and_self]
theorem yld_itm:Yld B (fun x=>x.ok=true∧x.ex.unb=true) (cY ex):=by
 have one:∀o:Int,2≤o→o≤5→Yld B (fun x:Itm=>x.ok=true∧x.ex.unb=true) (itm1 ex o):=fun o g i=>by
  unfold itm1
  refine av h (fun e a=>?_) (fun _=>ab (ak _) fun _=>ae _)
  refine av (aR _) (fun _ _=>aI ⟨?_,a.2⟩) (fun _=>ae _)
  unfold Itm.ok
  rw[if_neg (by simp;omega),a.1]
  simp;omega
 unfold cY
 refine yld_fst _ (fun o b=>av (aR _) (fun _ _=>?_) (fun _=>?_)) (av h (fun e a=>aI ⟨?_,a.2⟩) (fun _=>ae _))
 ·obtain⟨t,f⟩:=b
  have k:∀x∈opsAgg,2≤x.2∧x.2≤5:=by decide
  have:=k _ f
  split
  ·exact bp _ (av (aR _) (fun _ _=>aI (by decide)) (fun _=>ae _)) (one o this.1 this.2)
  ·exact one o this.1 this.2
 ·split
  ·exact aU _ _ (iH st o)
  ·exact iH st o
 ·unfold Itm.ok
  rw[if_neg (by simp),a.1]
  rfl
theorem lG:∀(n:Nat) (l:List Src) (c:List Ex),(∀x∈l,x.ok=true)→l≠[]→(∀e∈c,FQ e)→Yld B (fun x=> (∀y∈x.1,y.ok=true)∧x.1≠[]∧∀e∈x.2,FQ e) (fromGo ex n l c)
 |0,_,_,h1,h2,h3=>aI ⟨h1,h2,h3⟩
 |n+1,l,c,h1,h2,h3=>by
  refine bp _ (av tl (fun x a=>lG n _ _ (eQ h1 a) (by simp) h3) (fun _=>aV ex _ _ _)) (bp _ ?_ (aI ⟨h1,h2,h3⟩))
  refine av tl (fun x a=>?_) (fun _=>ab (ak _) fun _=>ab st fun _=>aV ex _ _ _)
  refine av (aR _) (fun _ _=>?_) (fun _=>ab st fun _=>aV ex _ _ _)
  exact av h (fun e b=>lG n _ _ (eQ h1 a) (by simp) (eQ h3 b)) (fun _=>aV ex _ _ _)
theorem yld_from:Yld B (fun x=> (∀y∈x.1,y.ok=true)∧x.1≠[]∧∀e∈x.2,FQ e) (fromP ex):=fun s hs=>
 av tl (fun x a=>lG h st (s.r.length+1) [x] [] (by simpa using a) (by simp) (by simp)) (fun _=>aV ex _ _ _) s hs
omit st in
theorem yld_cond {c:List Ex} (a:∀e∈c,FQ e):Yld B WQ (cr ex andL c):=
 bp _ (av h (fun e b=>aI (wq_andL (eQ a b))) (fun _=>ae _)) (aI (wq_andL a))
end
end
end
section
open Lx (Tk isDigit isLetter inWord spanN isPrint)
def dn (k:List UInt8):List Nat:=k.map fun c=>c.toNat+32
theorem kw_same:kwWords=Lx.kwNames.map dn:=by decide+kernel
theorem up_low {c:UInt8} (h:Lx.lowW c=true) (a:isLetter (Lx.upC c)=true):c.toNat=(Lx.upC c).toNat+32:=by
 have b:=Lx.upC_num c
 rw[Lx.up_letter]at a
 unfold Lx.lowW isDigit at h
 unfold isLetter at a
 split at b<;>grind
theorem dn_up:∀l:List UInt8,(∀c∈l,Lx.lowW c=true)→(∀c∈l.map Lx.upC,isLetter c=true)→l.map UInt8.toNat=dn (l.map Lx.upC)
 | [],_,_=>rfl
 |c::l,h,k=>by
  have f:=up_low (h c mem_cons_self) (k _ (by simp))
  have b:=dn_up l (fun x a=>h x (mem_cons_of_mem _ a)) (fun x a=>k x (by rw[map_cons];exact mem_cons_of_mem _ a))
  simp only[map_cons,dn,List.cons.injEq]at b ⊢
  exact⟨f,b⟩
theorem up_dn:∀(l k:List UInt8),(∀c∈k,isLetter c=true∧c.toNat≤90)→l.map UInt8.toNat=dn k→l.map Lx.upC=k
 | [],[],_,_=>rfl
 | [],_::_,_,h=>by simp[dn]at h
 |_::_,[],_,h=>by simp[dn]at h
 |a::l,b::k,hk,h=>by
  simp only[dn,map_cons,List.cons.injEq]at h
  have i:=hk b mem_cons_self
  have g:=Lx.upC_num a
  have f:=i.1
  unfold isLetter at f
  rw[map_cons,up_dn l k (fun c j=>hk c (mem_cons_of_mem _ j)) h.2]
  congr 1
  refine Lx.num_ext _ _ ?_
  rw[g,if_pos (by grind)]
  omega
theorem kw_caps:∀k∈Lx.kwNames,∀c∈k,isLetter c=true∧c.toNat≤90:=by
 have:(Lx.kwNames.all fun k=>k.all fun c=>isLetter c&&decide (c.toNat≤90))=true:=by decide+kernel
 intro k b c a
 have h:=List.all_eq_true.1 (List.all_eq_true.1 this k b) c a
 simpa using h
theorem kw_iff (l:List UInt8) (f:∀c∈l,Lx.lowW c=true):Lx.isKw l=kwWords.contains (l.map UInt8.toNat):=by
 rw[Bool.eq_iff_iff]
 unfold Lx.isKw
 rw[decide_eq_true_iff,contains_iff_mem,kw_same]
 constructor
 ·intro h
  rw[dn_up l f fun c b=> (kw_caps _ h c b).1]
  exact mem_map_of_mem h
 ·intro h
  obtain⟨k,a,e⟩:=List.mem_map.1 h
  rw[up_dn l k (kw_caps k a) e.symm]
  exact a
theorem low_nm (c:UInt8):Lx.lowW c=eD c.toNat:=by
 unfold Lx.lowW eD jD isDigit
 rw[Bool.eq_iff_iff]
 simp only[Bool.or_eq_true,Bool.and_eq_true,decide_eq_true_eq,beq_iff_eq]
 omega
theorem uW (s:BA):nameB s=Lx.nameP s.data.toList:=by
 unfold nameB lU Lx.nameP N
 cases h:s.data.toList with
 |nil=>rfl
 |cons c r=>
  have g:((c::r).map UInt8.toNat).all eD=(c::r).all Lx.lowW:=by
   rw[all_map]
   congr 1
   funext c
   exact(low_nm c).symm
  rw[g]
  cases i:(c::r).all Lx.lowW with
  |false=>simp
  |true=>
   rw[←kw_iff _ (List.all_eq_true.1 i),length_map]
   simp only[map_cons,iV,jD,Bool.and_true]
   rw[Bool.eq_iff_iff]
   simp only[Bool.and_eq_true,decide_eq_true_eq,Bool.not_eq_true']
   constructor
   ·rintro⟨⟨a,b⟩,f⟩;exact⟨⟨b,a⟩,f⟩
   ·rintro⟨⟨a,b⟩,f⟩;exact⟨⟨b,a⟩,f⟩
theorem up_lo (c:UInt8):Lx.upC (Lx.loC c)=Lx.upC c:=by
 apply Lx.num_ext
 have h:=Lx.upC_num (Lx.loC c)
 have a:=Lx.loC_num c
 have b:=Lx.upC_num c
 split at h<;>split at a<;>split at b<;>omega
theorem lo_low {c:UInt8} (h:inWord c=true):Lx.lowW (Lx.loC c)=true:=by
 have a:=Lx.loC_num c
 unfold inWord isLetter isDigit at h
 unfold Lx.lowW isDigit
 split at a<;>grind
theorem word_name {l:List UInt8} {c:UInt8} {r:List UInt8} (i:l=c::r) (g:isLetter c=true) (k:∀x∈l,inWord x=true) (j:l.length≤24) (b:Lx.isKw l=false):nameB ⟨(l.map Lx.loC).toArray⟩=true:=by
 rw[uW]
 have e:Lx.isKw (l.map Lx.loC)=false:=by
  unfold Lx.isKw at b ⊢
  rw[map_map]
  have:Lx.upC∘Lx.loC=Lx.upC:=funext up_lo
  rw[this]
  exact b
 show Lx.nameP (l.map Lx.loC).toArray.toList=true
 rw[toList_toArray]
 subst i
 have s:∀(a:UInt8) (m:List UInt8),Lx.nameP (a::m)=(decide ((a::m).length≤24) && (decide (97≤a.toNat) &&decide (a.toNat≤122)) && (a::m).all Lx.lowW&&!(Lx.isKw (a::m))):=fun _ _=>rfl
 rw[map_cons,s,←map_cons,e,length_map]
 simp only[Bool.and_eq_true,decide_eq_true_eq,all_eq_true,Bool.not_false,and_true]
 refine⟨⟨j,?_⟩,fun x n=>?_⟩
 ·have f:=Lx.loC_num c
  unfold isLetter at g
  split at f<;>grind
 ·obtain⟨y,o,rfl⟩:=List.mem_map.1 n
  exact lo_low (k y o)
theorem nN:∀(l X:List UInt8) (i:Nat) (q:List UInt8×Nat),Lx.litF l X i=some q→(∀c∈X,isPrint c=true)→∀c∈q.1,isPrint c=true
 | [],X,i,q,h,_=>by simp[Lx.litF]at h
 | [c],X,i,q,h,hX=>by
  rw[Lx.litF]at h
  split at h
  ·cases h
  split at h
  ·cases h;exact hX
  ·simp[Lx.litF]at h
 |c::d::r,X,i,q,h,hX=>by
  rw[Lx.litF]at h
  split at h
  ·cases h
  next hp=>
  split at h
  ·split at h
   ·next h2=>
    refine nN r _ _ q h fun x a=>?_
    rcases List.mem_append.1 a with a|a
    ·exact hX x a
    ·rw[List.mem_singleton.1 a];unfold isPrint;rw[h2];rfl
   ·cases h;exact hX
  ·refine nN (d::r) _ _ q h fun x a=>?_
   rcases List.mem_append.1 a with a|a
   ·exact hX x a
   ·rw[List.mem_singleton.1 a];simpa using hp
theorem tok_gt (c:UInt8) (r:List UInt8) (k:Nat) (x:List UInt8) (n p:Nat) (h:Lx.tokL (c::r)= .tok k x n):Gt ⟨k,x,p⟩:=by
 rw[Lx.tokL]at h
 split at h
 ·next hc=>
  unfold Lx.wordL at h
  split at h
  ·cases h;exact⟨(fun h=>nomatch h),(fun h=>nomatch h),(fun h=>nomatch h)⟩
  ·next hk=>
   split at h
   ·cases h
   ·next hn=>
    cases h
    have j:=Lx.span_pos inWord c r (Lx.letter_word c hc)
    have l:=Lx.span_le inWord (c::r)
    refine⟨fun _=>?_,(fun h=>nomatch h),(fun h=>nomatch h)⟩
    refine word_name (c:=c) (r:=r.take (spanN inWord (c::r)-1)) ?_ hc (Lx.span_all inWord (c::r)) ?_ (by simpa using hk)
    ·obtain⟨m,b⟩:∃m,spanN inWord (c::r)=m+1:=⟨spanN inWord (c::r)-1,by omega⟩
     rw[b,take_succ_cons,Nat.add_sub_cancel]
    ·rw[length_take];omega
 split at h
 ·unfold Lx.numL at h
  split at h
  ·cases h
  ·split at h
   ·cases h
   ·next hv=>
    cases h
    refine⟨(fun h=>nomatch h),fun _=>?_,(fun h=>nomatch h)⟩
    unfold digV tkB
    simp only[toList_toArray]
    omega
 split at h
 ·unfold Lx.textL at h
  cases a:Lx.litF r [] 1 with
  |none=>rw[a]at h;cases h
  |some q=>
   obtain⟨X,i⟩:=q
   rw[a]at h
   simp only at h
   split at h
   ·cases h
   ·next hn=>
    cases h
    refine⟨(fun h=>nomatch h),(fun h=>nomatch h),fun _=>?_⟩
    have hp:=nN r [] 1 _ a (by simp)
    unfold hU N tkB
    simp only[Bool.and_eq_true,all_eq_true,decide_eq_true_eq,toList_toArray]
    refine⟨fun y f=>?_,?_⟩
    ·obtain⟨z,g,rfl⟩:=List.mem_map.1 f
     have:=hp z g
     unfold isPrint at this
     simpa using this
    ·show x.toArray.size≤16
     simp
     omega
 ·unfold Lx.symL at h
  split at h
  ·cases h
  ·cases h;exact⟨(fun h=>nomatch h),(fun h=>nomatch h),(fun h=>nomatch h)⟩
theorem toks_gt:∀(f:Nat) (l:List UInt8) (p:Nat) (L:List Tk),Lx.toksF f l p= .ok L→∀a∈L,Gt a
 |0,_,_,_,h=>by cases h
 |f+1,l,p,L,h=>by
  rw[Lx.toksF]at h
  cases hd:l.drop (Lx.skipN false l)with
  |nil=>
   rw[hd]at h
   injection h with h
   subst h
   intro a b
   rw[List.mem_singleton.1 b]
   exact⟨(fun h=>nomatch h),(fun h=>nomatch h),(fun h=>nomatch h)⟩
  |cons c r=>
   rw[hd]at h
   cases g:Lx.tokL (c::r)with
   |bad e=>simp only[g]at h;cases h
   |tok k x n=>
    simp only[g]at h
    cases hr:Lx.toksF f ((c::r).drop n) (p+Lx.skipN false l+n)with
    |bad a e=>rw[hr]at h;cases h
    |ok M=>
     rw[hr]at h
     have i: [(⟨k,x,p+Lx.skipN false l⟩:Tk)]++M=L:=by injection h
     subst i
     intro a b
     rcases List.mem_append.1 b with b|b
     ·rw[List.mem_singleton.1 b];exact tok_gt c r k x n _ g
     ·exact toks_gt f _ _ M hr a b
theorem gt_of {s:BA} {L:List Tk} (h:Lx.tokAll s= .ok L):∀a∈L,Gt a:=by
 unfold Lx.tokAll at h
 split at h
 ·cases h
 ·exact toks_gt _ _ _ L h
end
section
open Lx (Tk isDigit isLetter inWord spanN isPrint)
abbrev Kt:=Nat×List UInt8
def er (a:Tk):Kt:=(a.kind,a.text)
def LexP (P:List UInt8→Prop) (l:List UInt8) (K:List Kt):Prop:=∀(b:List UInt8) (p:Nat),P b→∃ts:List Tk,ts.map er=K∧Lx.T (l++b) p=(Lx.T b (p+l.length)).pre ts
def Any (_:List UInt8):Prop:=True
def NoW (b:List UInt8):Prop:=Lx.headW b=false
def lH (b:List UInt8):Prop:=b= []∨∃c t,b=c::t∧(c=32∨c=41∨c=44∨c=59∨c=10)
theorem lH.now {b:List UInt8} (h:lH b):NoW b:=by
 rcases h with rfl|⟨c,t,rfl,rfl|rfl|rfl|rfl|rfl⟩<;>rfl
theorem LexP.imp {P Q:List UInt8→Prop} {l:List UInt8} {K:List Kt} (h:LexP P l K) (hp:∀b,Q b→P b):LexP Q l K:=fun b p a=>h b p (hp b a)
theorem dv_snoc (l:List UInt8) (c:UInt8):Lx.digVal (l++ [c])=10*Lx.digVal l+(c.toNat-48):=by
 unfold Lx.digVal
 rw[foldl_append]
 rfl
end
section
open Lx (Tk isDigit isLetter inWord spanN isPrint)
def brK (op:Int) (K:List Kt) (r:Int):List Kt:=if lvl op<r then (5,[40])::(K++ [(5,[41])])else K
def sgK (op:Int):Kt:=(if op=16∨op=18∨op=19 then 2 else 5,(sgn op).data.toList)
def tkD (d:Nd) (xs:List (Int×List Kt)):List Kt:=
 let x:=xs.getD 0 (0,[])
 let y:=xs.getD 1 (0,[])
 if d.op=1 then (if d.vk=1 then [(3,(itoB d.vi).data.toList)]else if d.vk=2 then [(4,d.vt.data.toList)]else [(2,[78,85,76,76])])
 else if d.op=2 then (if d.tb.size=0 then [(1,d.nm.data.toList)]else [(1,d.tb.data.toList),(5,[46]),(1,d.nm.data.toList)])
 else if d.op=3 then (5,[45])::brK x.1 x.2 8
 else if d.op=9 then (2,[76,69,78,71,84,72])::(5,[40])::(brK x.1 x.2 1++ [(5,[41])])
 else if d.op=17 then brK x.1 x.2 5++ [(2,[73,83]),(2,[78,85,76,76])]
 else if d.op=20 then (2,[78,79,84])::brK x.1 x.2 3
 else brK x.1 x.2 (if lvl d.op=4 then 5 else lvl d.op)++sgK d.op::brK y.1 y.2 (lvl d.op+1)
mutual
def Ex.tkp:Ex→List Kt
 | .mk d ks=>tkD d (tkpL ks)
def tkpL:List Ex→List (Int×List Kt)
 | []=> []
 |e::es=> (e.d.op,e.tkp)::tkpL es
end
def Ex.tk (e:Ex) (r:Int):List Kt:=brK e.d.op e.tkp r
mutual
def Ex.st0:Ex→Ex
 | .mk d ks=> .mk { d with ix:=0 } (nO ks)
def nO:List Ex→List Ex
 | []=> []
 |e::es=>e.st0::nO es
end
theorem ev {s:BA} (h:s.size=0):s=⟨#[]⟩:=by
 cases s with
 |mk a=>exact congrArg ByteArray.mk (Array.eq_empty_of_size_eq_zero h)
def ctl (a:Kt):Nat:=
 if a.1=2∨a.1=5 then
  (if a.2= [79,82]then 1 else if a.2= [65,78,68]then 2
  else if a.2= [61]∨a.2= [60,62]∨a.2= [60]∨a.2= [60,61]∨a.2= [62]∨a.2= [62,61]∨a.2= [73,83]∨a.2= [78,79,84]∨a.2= [76,73,75,69]∨a.2= [66,69,84,87,69,69,78]∨a.2= [73,78]then 4
  else if a.2= [43]∨a.2= [45]then 5 else if a.2= [42]∨a.2= [47]∨a.2= [37]then 6 else if a.2= [46]then 9 else 0)
 else 0
def Ps.c (s:Ps):Nat:=ctl (er s.hd)
theorem fY {k:Nat} {x:List UInt8} (t:BA) {a:Tk} (h:er a=(k,x)) (b:(k≠2∧k≠5)∨x≠t.data.toList) (R:List Tk):isS t ⟨a::R,false⟩=false:=by
 have f:a.kind=k:=congrArg Prod.fst h
 have g:a.text=x:=congrArg Prod.snd h
 unfold isS Ps.hd tkB
 simp only[headD_cons,f,g]
 rcases b with b|b
 ·simp[b.1,b.2]
 ·have:¬(ByteArray.mk x.toArray=t):=fun e=>b (by rw[←e])
  simp[this]
section
variable {p:M Ex} (hp:Fwd p)
include hp
end
end
section
open Lx (Tk isDigit isLetter inWord spanN isPrint)
theorem pY {t:BA} {k:Kt} {a:Tk} (h:er a=k) (f:(k.1=2∨k.1=5)→k.2≠t.data.toList) (R:List Tk):isS t ⟨a::R,false⟩=false:=by
 by_cases b:k.1=2∨k.1=5
 ·exact fY (k:=k.1) (x:=k.2) t h (.inr (f b)) R
 ·exact fY (k:=k.1) (x:=k.2) t h (.inl (by omega)) R
end
section
open Lx (Tk isDigit isLetter inWord spanN isPrint)
def cmK:List (List Kt)→List Kt
 | []=> []
 |x::l=>x++l.flatMap fun y=> (5,[44])::y
def nmK (s:BA):Kt:=(1,s.data.toList)
def nmsK (l:List BA):List Kt:=(5,[40])::(cmK (l.map fun s=> [nmK s])++ [(5,[41])])
def numK (n:Int):Kt:=(3,(itoB n).data.toList)
def bndK (n:Int):List Kt:=if n<0 then [(5,[45]),numK (-n)]else [numK n]
def Cd.tk (x:Cd):List Kt:=
 nmK x.nm::((if x.ty=1 then (2,[73,78,84,69,71,69,82])::(5,[40])::(bndK x.lo++(5,[44])::(bndK x.hi++ [(5,[41])]))else (2,[84,69,88,84])::(5,[40])::(bndK x.mx++ [(5,[41])]))++
  (if x.nn=true then [(2,[78,79,84]),(2,[78,85,76,76])]else []))
def keyK (k:List BA):List Kt:=(2,[85,78,73,81,85,69])::nmsK k
def Rf.tk (x:Rf):List Kt:=(2,[70,79,82,69,73,71,78])::(2,[75,69,89])::(nmsK x.cs++(2,[82,69,70,69,82,69,78,67,69,83])::nmK x.tb::nmsK x.tg)
def chkK (e:Ex):List Kt:=(2,[67,72,69,67,75])::(5,[40])::(e.tk 1++ [(5,[41])])
def St.eltsK (s:St):List (List Kt):=s.cols.map Cd.tk++s.keys.map keyK++s.frs.map Rf.tk++s.chk.map chkK
def exsK (l:List Ex):List Kt:=cmK (l.map fun e=>e.tk 1)
def rowK (l:List Ex):List Kt:=(5,[40])::(exsK l++ [(5,[41])])
def Asg.tk (x:Asg):List Kt:=nmK x.cl::(5,[61])::x.ex.tk 1
def agK (n:Int):Kt:=(2,(agW n).data.toList)
def Itm.tk (x:Itm):List Kt:=if x.ag=1 then [(2,[67,79,85,78,84]),(5,[40]),(5,[42]),(5,[41])]else if x.ag=0 then x.ex.tk 1 else agK x.ag::(5,[40])::(x.ex.tk 1++ [(5,[41])])
def Src.tk (x:Src):List Kt:=if x.al.size=0 then [nmK x.tb]else [nmK x.tb,(2,[65,83]),nmK x.al]
def Ord'.tk (x:Ord'):List Kt:=numK x.it::(if x.ds=true then [(2,[68,69,83,67])]else [])
def St.whK (s:St):List Kt:=if s.whr.absent=true then []else (2,[87,72,69,82,69])::s.whr.tk 1
def St.itK (s:St):List Kt:=if s.itms.length=0 then [(5,[42])]else cmK (s.itms.map Itm.tk)
def St.selK (s:St):List Kt:=
 (2,[83,69,76,69,67,84])::(s.itK++(2,[70,82,79,77])::(cmK (s.frm.map Src.tk)++(s.whK++((if s.grp.length=0 then []else (2,[71,82,79,85,80])::(2,[66,89])::exsK s.grp)++
  ((if s.ord.length=0 then []else (2,[79,82,68,69,82])::(2,[66,89])::cmK (s.ord.map Ord'.tk))++(if 0<s.lim then [(2,[76,73,77,73,84]),numK s.lim]else []))))))
def St.tk (s:St):List Kt:=
 if s.kd=1 then (2,[67,82,69,65,84,69])::(2,[84,65,66,76,69])::nmK s.tb::(5,[40])::(cmK s.eltsK++ [(5,[41])])
 else if s.kd=2 then (2,[73,78,83,69,82,84])::(2,[73,78,84,79])::nmK s.tb::(2,[86,65,76,85,69,83])::cmK (s.vals.map rowK)
 else if s.kd=3 then (2,[85,80,68,65,84,69])::nmK s.tb::(2,[83,69,84])::(cmK (s.sets.map Asg.tk)++s.whK)
 else if s.kd=4 then (2,[68,69,76,69,84,69])::(2,[70,82,79,77])::nmK s.tb::s.whK
 else if s.kd=5 then s.selK
 else if s.kd=6 then [(2,[66,69,71,73,78])]else if s.kd=7 then [(2,[67,79,77,77,73,84])]else if s.kd=8 then [(2,[82,79,76,76,66,65,67,75])]
 else if s.kd=9 then [(2,[83,65,86,69,80,79,73,78,84]),nmK s.nm]else if s.kd=10 then [(2,[82,79,76,76,66,65,67,75]),(2,[84,79]),nmK s.nm]else [(2,[82,69,76,69,65,83,69]),nmK s.nm]
end
section
open Lx (Tk isDigit isLetter inWord spanN isPrint)
def Asg.st0 (x:Asg):Asg:=⟨x.cl,0,x.ex.st0⟩
end
section
open Lx (Tk isDigit isLetter inWord spanN isPrint)
inductive El where
 |col (c:Cd)
 |key (k:List BA)
 |frn (f:Rf)
 |chk (e:Ex)
def El.tk:El→List Kt
 | .col c=>c.tk
 | .key k=>keyK k
 | .frn f=>f.tk
 | .chk e=>chkK e
def El.ok:El→Bool
 | .col c=>c.ok
 | .key k=>namesB k
 | .frn f=>f.ok
 | .chk e=>e.formed
def El.put (d:Df):El→Df
 | .col c=> { d with cols:=d.cols++ [c] }
 | .key k=> { d with keys:=d.keys++ [k] }
 | .frn f=> { d with frs:=d.frs++ [f] }
 | .chk e=> { d with chk:=d.chk++ [e.st0] }
end
section
open Lx (Tk isDigit isLetter inWord spanN isPrint)
theorem jW (ex:M Ex) (m:Nat) (d:Df) (l:List BA) (st:Ps):cm ex (m+1) d l st=if isS yCm st=true then cm ex m (elemP ex d l st.next).1.1 (elemP ex d l st.next).1.2 (elemP ex d l st.next).2 else ((d,l),st):=rfl
end
section
open Lx (Tk isDigit isLetter inWord spanN isPrint)
def St.els (s:St):List El:=s.cols.map .col++s.keys.map .key++s.frs.map .frn++s.chk.map .chk
end
section
open Lx (Tk isDigit isLetter inWord spanN isPrint)
def Itm.st0 (x:Itm):Itm:=if x.ag=1 then ⟨1,exZ⟩else ⟨x.ag,x.ex.st0⟩
end
section
open Lx (Tk isDigit isLetter inWord spanN isPrint)
def stI (k:Kt):Nat:=if k.1=2∨k.1=5 then (if k.2= [87,72,69,82,69]then 1 else if k.2= [71,82,79,85,80]then 2 else if k.2= [79,82,68,69,82]then 3 else if k.2= [76,73,77,73,84]then 4 else if k.2= [59]then 5 else 0)else 5
def fO (j:Nat) (R:List Tk):Prop:=1≤j∧∃a l,R=a::l∧j≤stI (er a)
theorem fO.le {i j:Nat} {R:List Tk} (h:fO j R) (b:1≤i) (hi:i≤j):fO i R:=by
 obtain⟨_,a,l,e,f⟩:=h
 exact⟨b,a,l,e,by omega⟩
theorem fO.not {j:Nat} {R:List Tk} (h:fO j R) {t:BA} (g:stI (2,t.data.toList)<j):isS t ⟨R,false⟩=false:=by
 obtain⟨_,a,l,rfl,f⟩:=h
 refine pY (k:=er a) rfl (fun b e=>?_) l
 have:stI (er a)=stI (2,t.data.toList):=by
  unfold stI
  rw[if_pos b,if_pos (show((2:Nat),t.data.toList).1=2∨((2:Nat),t.data.toList).1=5 from .inl rfl),e]
 omega
def St.wh0 (s:St):Ex:=if s.whr.absent=true then exZ else s.whr.st0
theorem gU (ex:M Ex) (m:Nat) (l:List Src) (c:List Ex) (st:Ps):fromGo ex (m+1) l c st=if isS yCm st=true then fromGo ex m (l++ [(srcP st.next).1]) c (srcP st.next).2
  else if isS jx st=true then fromGo ex m (l++ [(srcP st.next).1]) (c++ [(ex (needP kON (srcP st.next).2)).1]) (ex (needP kON (srcP st.next).2)).2 else ((l,c),st):=rfl
end
section
open Lx (Tk)
def St.unb (s:St):Bool:=s.chk.all Ex.unb&&s.whr.unb&&s.grp.all Ex.unb&&s.vals.all (fun l=>l.all Ex.unb) &&s.sets.all (fun a=>a.ix==0&&a.ex.unb) &&s.itms.all (fun x=>x.ex.unb)
def SQ (s:St):Prop:=s.formed=true∧s.unb=true
theorem nm_ne {s:BA} (h:nameB s=true):s.toList.isEmpty=false:=by
 rw[gc]
 unfold nameB lU at h
 cases b:N s with
 |nil=>rw[b]at h;simp[iV]at h
 |cons a l=>rfl
theorem nil_e:(⟨#[]⟩:BA).toList.isEmpty=true:=by rw[gc];rfl
theorem whr_b {e:Ex} (h:WQ e):(e.absent||e.formed)=true:=by
 rcases h.1 with h|h<;>simp[h]
theorem nn_ok (l:List BA) (c:Cd):(nnC l c).ok=c.ok:=rfl
theorem sq_create {t:BA} (f:nameB t=true) {x:Df×List BA} (a:DfQ x):SQ { stZ with kd:=1,tb:=t,cols:=x.1.cols.map (nnC x.2),keys:=x.1.keys,frs:=x.1.frs,chk:=x.1.chk } :=by
 have i:(x.1.cols.map (nnC x.2)).all Cd.ok=true:=by
  rw[all_eq_true]
  intro c s
  obtain⟨d,hd,rfl⟩:=List.mem_map.1 s
  rw[nn_ok]
  exact a.cols d hd
 have j:x.1.keys.all namesB=true:=List.all_eq_true.2 a.keys
 have k:x.1.frs.all Rf.ok=true:=List.all_eq_true.2 a.frs
 have l:x.1.chk.all Ex.formed=true:=List.all_eq_true.2 fun e b=> (a.chk e b).1
 have m:x.1.chk.all Ex.unb=true:=List.all_eq_true.2 fun e b=> (a.chk e b).2
 have n:=a.ne
 have o:exZ.absent=true:=by decide
 have r:exZ.unb=true:=by decide
 refine⟨?_,?_⟩
 ·have g:St.noDef { stZ with kd:=1,tb:=t,cols:=x.1.cols.map (nnC x.2),keys:=x.1.keys,frs:=x.1.frs,chk:=x.1.chk } =false:=by
   unfold St.noDef
   simp only[length_map]
   exact decide_eq_false n
  unfold St.formed St.defOk
  rw[g]
  simp[stZ,nm_ne f,f,nil_e,o]
  exact⟨⟨⟨List.all_eq_true.1 (by simpa using i)|>fun h=>by simpa using h,by simpa using j⟩,by simpa using k⟩,by simpa using l⟩
 ·unfold St.unb
  simp[stZ,r]
  simpa using m
theorem sq_insert {t:BA} (f:nameB t=true) {v:List (List Ex)} (b:v≠[]∧∀l∈v,rowOk l=true∧∀e∈l,e.unb=true):SQ { stZ with kd:=2,tb:=t,vals:=v } :=by
 have g:v.all rowOk=true:=List.all_eq_true.2 fun l a=> (b.2 l a).1
 have i:0<v.length:=List.length_pos_iff.2 b.1
 have j:exZ.absent=true:=by decide
 have k:exZ.unb=true:=by decide
 refine⟨?_,?_⟩
 ·unfold St.formed St.noDef
  simp[stZ,nm_ne f,f,nil_e,j,i]
  simpa using g
 ·unfold St.unb
  simp[stZ,k]
  exact fun l a e m=> (b.2 l a).2 e m
theorem sq_update {t:BA} (k:nameB t=true) {v:List Asg} (f:v≠[]∧∀a∈v,a.ok=true∧a.ix=0∧a.ex.unb=true) {e:Ex} (j:WQ e):SQ { stZ with kd:=3,tb:=t,sets:=v,whr:=e } :=by
 have g:v.all Asg.ok=true:=List.all_eq_true.2 fun l b=> (f.2 l b).1
 have m:0<v.length:=List.length_pos_iff.2 f.1
 have i:=whr_b j
 refine⟨?_,?_⟩
 ·unfold St.formed St.noDef
  simp[stZ,nm_ne k,k,nil_e,m]
  simp at i g
  exact⟨i,g⟩
 ·unfold St.unb
  simp[stZ,j.2]
  exact fun l b=>⟨(f.2 l b).2.1,(f.2 l b).2.2⟩
theorem sq_delete {t:BA} (b:nameB t=true) {e:Ex} (a:WQ e):SQ { stZ with kd:=4,tb:=t,whr:=e } :=by
 have f:=whr_b a
 refine⟨?_,?_⟩
 ·unfold St.formed St.noDef
  simp[stZ,nm_ne b,b,nil_e]
  simpa using f
 ·unfold St.unb
  simp[stZ,a.2]
theorem sq_query {i:List Itm} (hi:∀x∈i,x.ok=true∧x.ex.unb=true) {f:List Src} (t:(∀y∈f,y.ok=true)∧f≠[]) {e:Ex} (s:WQ e) {g:List Ex} (b:∀x∈g,FQ x∧x.d.op=2) {o:List Ord'} (z:∀x∈o,x.ok=true)
  {l:Int} (u:0≤l∧l≤2147483648):SQ { stZ with kd:=5,itms:=i,frm:=f,whr:=e,grp:=g,ord:=o,lim:=l } :=by
 have j:i.all Itm.ok=true:=List.all_eq_true.2 fun x a=> (hi x a).1
 have w:0<f.length:=List.length_pos_iff.2 t.2
 have k:f.all Src.ok=true:=List.all_eq_true.2 t.1
 have m:g.all gJ=true:=List.all_eq_true.2 fun x a=>by unfold gJ;simp[(b x a).2,(b x a).1.1]
 have n:o.all Ord'.ok=true:=List.all_eq_true.2 z
 have r:=whr_b s
 refine⟨?_,?_⟩
 ·unfold St.formed St.noDef St.qOk inB
  simp[stZ,nil_e,w,u.1,u.2]
  simp at j k m n r
  exact⟨r,⟨⟨⟨j,k⟩,m⟩,n⟩⟩
 ·unfold St.unb
  simp[stZ,s.2]
  exact⟨fun x a=> (b x a).1.2,fun x a=> (hi x a).2⟩
theorem sq_nm {k:Int} (i:k=9∨k=10∨k=11) {a:BA} (b:nameB a=true):SQ { stZ with kd:=k,nm:=a } :=by
 have f:exZ.absent=true:=by decide
 have g:exZ.unb=true:=by decide
 refine⟨?_,?_⟩
 ·rcases i with rfl|rfl|rfl<;> (unfold St.formed St.noDef;simp[stZ,nm_ne b,b,nil_e,f])
 ·unfold St.unb
  simp[stZ,g]
theorem sq_one {k:Int} (f:k=6∨k=7∨k=8):SQ { stZ with kd:=k } :=by
 have a:exZ.absent=true:=by decide
 have b:exZ.unb=true:=by decide
 refine⟨?_,?_⟩
 ·rcases f with rfl|rfl|rfl<;> (unfold St.formed St.noDef;simp[stZ,nil_e,a])
 ·unfold St.unb
  simp[stZ,b]
section
variable {B:Nat} {ex:M Ex} (h:Yld B FQ ex) (st:Stk ex)
include h st
theorem wQ:Yld B SQ (createP ex):=by
 unfold createP
 refine av (aR _) (fun _ _=>?_) (fun _=>ab (bq 1) fun _=>ab (ak _) fun _=>ab (cn ex) fun _=>ab (ak _) fun _=>ae _)
 refine av cU (fun t a=>?_) (fun _=>ab (ak _) fun _=>ab (cn ex) fun _=>ab (ak _) fun _=>ae _)
 refine av (aR _) (fun _ _=>?_) (fun _=>ab (cn ex) fun _=>ab (ak _) fun _=>ae _)
 refine av (yld_elems h st) (fun x b=>?_) (fun _=>ab (ak _) fun _=>ae _)
 exact av (aR _) (fun _ _=>aI (sq_create a b)) (fun _=>ae _)
theorem wR:Yld B SQ (dz ex):=by
 unfold dz
 refine av (aR _) (fun _ _=>?_) (fun _=>ab (bq 1) fun _=>ab (ak _) fun _=>ab (aF (ja st)) fun _=>ae _)
 refine av cU (fun t a=>?_) (fun _=>ab (ak _) fun _=>ab (aF (ja st)) fun _=>ae _)
 refine av (aR _) (fun _ _=>?_) (fun _=>ab (aF (ja st)) fun _=>ae _)
 exact av (gT (yld_tup h st) (ja st)) (fun v b=>aI (sq_insert a b)) (fun _=>ae _)
theorem wS:Yld B SQ (dA ex):=by
 unfold dA
 refine av cU (fun t b=>?_) (fun _=>ab (ak _) fun _=>ab (aF (eO st)) fun _=>ab (bO ex) fun _=>ae _)
 refine av (aR _) (fun _ _=>?_) (fun _=>ab (aF (eO st)) fun _=>ab (bO ex) fun _=>ae _)
 refine av (gT (yld_asg h st) (eO st)) (fun v f=>?_) (fun _=>ab (bO ex) fun _=>ae _)
 exact av (yld_whr h) (fun e a=>aI (sq_update b f a)) (fun _=>ae _)
omit st in
theorem wT:Yld B SQ (dB ex):=by
 unfold dB
 refine av (aR _) (fun _ _=>?_) (fun _=>ab (bq 1) fun _=>ab (bO ex) fun _=>ae _)
 refine av cU (fun t b=>?_) (fun _=>ab (bO ex) fun _=>ae _)
 exact av (yld_whr h) (fun e a=>aI (sq_delete b a)) (fun _=>ae _)
theorem yld_query:Yld B SQ (queryP ex posP andL):=by
 unfold queryP
 refine av (Q:=fun i=> ∀x∈i,x.ok=true∧x.ex.unb=true) ?_ (fun i hi=>?_) (fun _=>ab (ak _) fun _=>ab (eP ex) fun _=>ab (jK ex _ _) fun _=>ab fD fun _=>ab (ce _) fun _=>ab (bG _) fun _=>ae _)
 ·exact bp _ (aI (by simp)) ((gT (yld_itm h st) (stk_itm st)).imp fun l a=>a.2)
 refine av (aR _) (fun _ _=>?_) (fun _=>ab (eP ex) fun _=>ab (jK ex _ _) fun _=>ab fD fun _=>ab (ce _) fun _=>ab (bG _) fun _=>ae _)
 refine av (yld_from h st) (fun f b=>?_) (fun _=>ab (jK ex _ _) fun _=>ab fD fun _=>ab (ce _) fun _=>ab (bG _) fun _=>ae _)
 refine av (yld_cond h b.2.2) (fun e j=>?_) (fun _=>ab fD fun _=>ab (ce _) fun _=>ab (bG _) fun _=>ae _)
 refine av (Q:=fun g=> ∀x∈g,FQ x∧x.d.op=2) ?_ (fun g k=>?_) (fun _=>ab (ce _) fun _=>ab (bG _) fun _=>ae _)
 ·exact bp _ (av (aR _) (fun _ _=> (gT uR i7).imp fun l a=>a.2) (fun _=>aF i7)) (aI (by simp))
 refine av (Q:=fun o=> ∀x∈o,x.ok=true) ?_ (fun o m=>?_) (fun _=>ab (bG _) fun _=>ae _)
 ·exact bp _ (av (aR _) (fun _ _=> (gT yld_ord (i8 i6)).imp fun l a=>a.2) (fun _=>aF (i8 i6))) (aI (by simp))
 refine av (Q:=fun l=>0≤l∧l≤2147483648) ?_ (fun l a=>aI (sq_query hi ⟨b.1,b.2.1⟩ j k m a)) (fun _=>ae _)
 exact bp _ (yld_pos.imp fun n r=>by omega) (aI (by omega))
theorem yld_stmt:Yld B SQ (dj ex posP andL fQ):=by
 have nm:∀k:Int,k=9∨k=10∨k=11→Yld B SQ (nmP k):=fun k g=>av cU (fun a b=>aI (sq_nm g b)) (fun _=>ae _)
 unfold dj
 refine bp _ (wQ h st) (bp _ (wR h st) (bp _ (wS h st) (bp _ (wT h) (bp _ (yld_query h st) (bp _ (aI (sq_one (by omega))) (bp _ (aI (sq_one (by omega)))
  (bp _ (bp _ (nm 10 (by omega)) (aI (sq_one (by omega)))) (bp _ (nm 9 (by omega)) (bp _ (nm 11 (by omega)) ?_)))))))))
 exact fun s hs=>⟨hs,fun f=>by cases f⟩
end
theorem tm (n:Nat):Yld n SQ (stmP n):=yld_stmt (uU n) (gD n)
end
section
open Lx (Tk isDigit isLetter inWord spanN isPrint)
def St.st0 (s:St):St:= { s with chk:=s.chk.map Ex.st0,vals:=s.vals.map (fun l=>l.map Ex.st0),sets:=s.sets.map Asg.st0,itms:=s.itms.map Itm.st0,whr:=s.wh0,grp:=s.grp.map Ex.st0 }
theorem emp_ba {s:BA} (h:s.toList.isEmpty=true):s=⟨#[]⟩:=by
 rw[gc]at h
 exact ev (by rw[←N_len,List.isEmpty_iff.1 h];rfl)
structure Lone (s:St):Prop where
 tb:4<s.kd→s.tb=⟨#[]⟩
 nm:s.kd≠9→s.kd≠10→s.kd≠11→s.nm=⟨#[]⟩
 df:s.kd≠1→s.cols= []∧s.keys= []∧s.frs= []∧s.chk= []
 vals:s.kd≠2→s.vals= []
 sets:s.kd≠3→s.sets= []
 sel:s.kd≠5→s.itms= []∧s.frm= []∧s.grp= []∧s.ord= []∧s.lim=0
 wh:s.kd≠3→s.kd≠4→s.kd≠5→s.wh0=exZ
theorem oY {s:St} (h:s.formed=true):Lone s:=by
 unfold St.formed at h
 dsimp only at h
 simp only[Bool.and_eq_true,decide_eq_true_eq]at h
 obtain⟨⟨⟨⟨⟨⟨⟨⟨⟨⟨⟨⟨r,t⟩,n⟩,_⟩,m⟩,_⟩,o⟩,g⟩,j⟩,k⟩,l⟩,i⟩,_⟩:=h
 refine⟨fun e=>?_,fun a b c=>?_,fun e=>?_,fun e=>?_,fun e=>?_,fun e=>?_,fun a b c=>?_⟩
 ·rw[decide_eq_false (by omega)]at n
  exact emp_ba (by simpa using n)
 ·have e:(s.kd==9||s.kd==10||s.kd==11)=false:=by simp[a,b,c]
  rw[e]at m
  exact emp_ba (by simpa using m)
 ·have f:(s.kd==1)=false:=by simpa using e
  rw[f]at g
  have g:s.noDef=true:=by simpa using g
  unfold St.noDef at g
  have u:=of_decide_eq_true g
  exact⟨eq (by omega),eq (by omega),eq (by omega),eq (by omega)⟩
 ·have f:(s.kd==2)=false:=by simpa using e
  rw[f]at j
  exact eq (by simpa using j)
 ·have f:(s.kd==3)=false:=by simpa using e
  rw[f]at k
  exact eq (by simpa using k)
 ·have f:(s.kd==5)=false:=by simpa using e
  rw[f]at i l
  simp only[Bool.false_or,Bool.and_eq_true,decide_eq_true_eq,beq_iff_eq]at i
  exact⟨eq (by omega),eq (by simpa using l),eq (by omega),eq (by omega),i.2⟩
 ·have e:(s.kd==3||s.kd==4||s.kd==5)=false:=by simp[a,b,c]
  rw[e]at o
  unfold St.wh0
  rw[if_pos (by simpa using o)]
end
section
open Lx (Tk isDigit isLetter inWord spanN isPrint)
def parL (vld:St→Int) (s:BA):List St×Int×Int:=
 match Lx.tokAll s with
 | .bad a e=> ([],(a:Int),(e:Int))
 | .ok L=>
  match jL (stmP (L.length+1)) vld (L.length+1) [] ⟨L,false⟩with
  | .inl q=> ([],(q.1:Int),q.2)
  | .inr l=> (l,0,0)
end
section
open Lx (Tk)
def wsm:List Tk→Nat
 | []=>0
 |a::l=>a.text.length+1+wsm l
theorem wsm_app (a b:List Tk):wsm (a++b)=wsm a+wsm b:=by
 induction a with
 |nil=>simp[wsm]
 |cons x a ih=>rw[cons_append,wsm,wsm,ih];omega
theorem oZ {s t:Ps} (h:Sfx s t):wsm t.r≤wsm s.r:=by
 obtain⟨A,e,_⟩:=h
 rw[e,wsm_app]
 omega
theorem iO {α:Type} (μ:α→Nat) (a b:List α):sumB μ (a++b)=sumB μ a+sumB μ b:=by
 induction a with
 |nil=>simp[sumB]
 |cons x a ih=>rw[cons_append,sumB,sumB,ih];omega
def Lin {α:Type} (d:Nat) (μ:α→Nat) (m:M α):Prop:=∀s,μ (m s).1+2*wsm (m s).2.r≤2*wsm s.r+d
section
variable {α β:Type} {d e:Nat} {μ:α→Nat} {ν:β→Nat}
theorem aB {m:M α} {f:α→M β} (h:Lin d μ m) (b:∀a,Lin (μ a+e) ν (f a)):Lin (d+e) ν (ay m f):=fun s=>by
 have g:=h s
 have i:=b (m s).1 (m s).2
 show ν (f (m s).1 (m s).2).1+2*wsm (f (m s).1 (m s).2).2.r≤_
 omega
theorem bt {a:α} (h:μ a≤d):Lin d μ (aH a):=fun s=>by
 show μ a+2*wsm s.r≤_
 omega
theorem eh {m:M α} (h:Rdy m) (b:∀a,μ a≤d):Lin d μ m:=fun s=>by
 have f:=oZ (h.sfx s)
 have g:=b (m s).1
 omega
theorem cV (t:BA) {m n:M α} (a:Lin d μ m) (b:Lin d μ n):Lin d μ (ifM t m n):=fun s=>by
 unfold ifM
 split
 ·next hs=>
  have f:=a s.next
  have g:=oZ (Sfx.next hs)
  omega
 ·exact b s
theorem Lin.imp {m:M α} (h:Lin d μ m) (hd:d≤e):Lin e μ m:=fun s=>by have:=h s;omega
theorem cm_wsm {s:Ps} (h:isS yCm s=true):wsm s.r=wsm s.next.r+2:=by
 obtain⟨_,a,l,b,_,f,g⟩:=dL h
 have i:a.text.length=1:=by
  have:=congrArg ByteArray.size f
  simpa[tkB,ByteArray.size] using this
 rw[b,g,wsm,i]
 show 1+1+wsm l=wsm l+2
 omega
theorem pZ {el:M α} (h:Lin d μ el) (hd:d≤4):∀(n:Nat) (o:List α) (s:Ps),sumB μ (listGo el n o s).1+2*wsm (listGo el n o s).2.r≤2*wsm s.r+sumB μ o
 |0,o,s=>by show sumB μ o+2*wsm s.r≤_;omega
 |n+1,o,s=>by
  rw[listGo]
  split
  ·next hs=>
   have a:=pZ h hd n (o++ [(el s.next).1]) (el s.next).2
   have b:=h s.next
   have f:=cm_wsm hs
   rw[iO,sumB,sumB]at a
   omega
  ·show sumB μ o+2*wsm s.r≤_
   omega
theorem gV {el:M α} (h:Lin d μ el) (hd:d≤4):Lin d (sumB μ) (listP el):=fun s=>by
 have a:=pZ h hd (s.r.length+1) [(el s).1] (el s).2
 have b:=h s
 rw[sumB,sumB]at a
 show sumB μ (listGo el (s.r.length+1) [(el s).1] (el s).2).1+_≤_
 unfold listP
 omega
end
theorem eR (k:Nat) (g:k≠0):Lin 1 bkS (takP k):=fun s=>by
 unfold takP bkS
 split
 ·next h=>
  obtain⟨_,a,l,b,_,f⟩:=kD g h
  have e:s.hd=a:=by unfold Ps.hd;rw[b];rfl
  rw[b,f,e,wsm]
  have:(tkB a).size=a.text.length:=by simp[tkB,ByteArray.size]
  simp only
  omega
 ·show 0+1+2*wsm s.r≤_
  omega
theorem bc (t:BA):Lin 0 (fun _:Unit=>0) (aE t):=eh (ar t) fun _=>Nat.le_refl _
theorem kP:Lin 2 bkK namesP:=by
 refine(aB (e:=2) (bc _) fun _=> (aB (e:=1) (gV (eR 1 (by omega)) (by omega)) fun l=>?_).imp (by omega)).imp (by omega)
 exact(aB (d:=0) (e:=sumB bkS l+1) (bc _) fun _=> (bt (by unfold bkK;omega))).imp (by omega)
theorem tn:Rdy typP:=by
 unfold typP pj maxP eK
 exact aY _ (aY _ (ah (aY _ (ah rdy_num fun _=>aj _) rdy_num) fun _=>ah (ar _) fun _=>ah (aY _ (ah rdy_num fun _=>aj _) rdy_num) fun _=>ah (ar _) fun _=>aj _) (aj _)) (ah (ar _) fun _=>aY _ (ah rdy_num fun _=>ah (ar _) fun _=>aj _) (aj _))
theorem lin_def:Lin 1 iB ek:=by
 unfold ek
 refine(aB (e:=0) (eR 1 (by omega)) fun a=> (aB (d:=0) (e:=bkS a) (μ:=fun _=>0) (eh tn fun _=>Nat.le_refl _) fun t=>?_).imp (by omega)).imp (by omega)
 refine(cV _ ?_ (bt ?_)).imp (Nat.le_refl _)
 ·exact(aB (d:=0) (e:=0+bkS a) (bc _) fun _=>bt (by unfold iB bkS;simp only;omega)).imp (by omega)
 ·unfold iB bkS;simp only;omega
theorem lin_ref:Lin 4 jP refP:=by
 unfold refP
 refine(aB (e:=2) kP fun a=> (aB (d:=0) (e:=bkK a+2) (bc _) fun _=> (aB (d:=1) (e:=0+(bkK a+2)-1) (eR 1 (by omega)) fun t=>?_).imp (by omega)).imp (by omega)).imp (by omega)
 refine(aB (d:=2) (e:=bkS t+bkK a-1) kP fun b=>bt ?_).imp ?_
 ·unfold jP bkK bkS;simp only;omega
 ·unfold bkK bkS;omega
theorem tp:Lin 3 bkF srcP:=by
 unfold srcP
 refine(aB (d:=1) (e:=2) (eR 1 (by omega)) fun t=>?_).imp (by omega)
 refine cV _ ?_ (bt (by show t.size+0+1≤t.size+1+2;omega))
 exact(aB (d:=1) (e:=bkS t) (eR 1 (by omega)) fun a=>bt (by unfold bkF bkS;simp only;omega)).imp (by omega)
def dfW (d:Df):Nat:=sumB iB d.cols+sumB bkK d.keys+sumB jP d.frs+d.chk.length
section
variable {ex:M Ex} (hr:Rdy ex)
include hr
theorem uX (d:Df) (l:List BA):Lin (dfW d+4) (fun x=>dfW x.1) (elemP ex d l):=by
 have app:∀ {α:Type} (μ:α→Nat) (a:List α) (x:α),sumB μ (a++ [x])=sumB μ a+μ x:=fun μ a x=>by rw[iO,sumB,sumB];rfl
 unfold elemP
 refine cV _ ?_ (cV _ ?_ (cV _ ?_ (cV _ ?_ ?_)))
 ·refine(aB (d:=0) (e:=dfW d+2) (bc _) fun _=> (aB (d:=2) (e:=dfW d) kP fun k=>bt ?_).imp (by omega)).imp (by omega)
  unfold dfW;simp only[app];omega
 ·refine(aB (d:=2) (e:=dfW d) kP fun k=>bt ?_).imp (by omega)
  unfold dfW;simp only[app];omega
 ·refine(aB (d:=0) (e:=dfW d+1) (bc _) fun _=> (aB (d:=1) (e:=dfW d) (μ:=fun _=>1) (eh hr fun _=>Nat.le_refl _) fun e=> (aB (d:=0) (e:=1+dfW d) (bc _) fun _=>bt ?_).imp (by omega)).imp (by omega)).imp (by omega)
  unfold dfW;simp only[length_append,length_singleton];omega
 ·refine(aB (d:=0) (e:=dfW d+4) (bc _) fun _=> (aB (d:=4) (e:=dfW d) lin_ref fun f=>bt ?_).imp (by omega)).imp (by omega)
  unfold dfW;simp only[app];omega
 ·refine(aB (d:=1) (e:=dfW d) lin_def fun c=>bt ?_).imp (by omega)
  unfold dfW;simp only[app];omega
theorem qa:∀(n:Nat) (d:Df) (l:List BA),Lin (dfW d) (fun x=>dfW x.1) (cm ex n d l)
 |0,d,l=>bt (Nat.le_refl _)
 |n+1,d,l=>fun s=>by
  show dfW (cm ex (n+1) d l s).1.1+_≤_
  rw[jW]
  split
  ·next hs=>
   have f:=cm_wsm hs
   have a:=uX hr d l s.next
   have b:=qa n (elemP ex d l s.next).1.1 (elemP ex d l s.next).1.2 (elemP ex d l s.next).2
   simp only at a b
   omega
  ·show dfW d+2*wsm s.r≤_
   omega
theorem lin_elems:Lin 4 (fun x=>dfW x.1) (bL ex):=fun s=>by
 have b:=uX hr ⟨[],[],[],[]⟩ [] s
 have f:=qa hr (s.r.length+1) (elemP ex ⟨[],[],[],[]⟩ [] s).1.1 (elemP ex ⟨[],[],[],[]⟩ [] s).1.2 (elemP ex ⟨[],[],[],[]⟩ [] s).2
 show dfW (cm ex (s.r.length+1) _ _ _).1.1+2*wsm (cm ex (s.r.length+1) (elemP ex ⟨[],[],[],[]⟩ [] s).1.1 (elemP ex ⟨[],[],[],[]⟩ [] s).1.2 (elemP ex ⟨[],[],[],[]⟩ [] s).2).2.r≤_
 have a:dfW ⟨[],[],[],[]⟩=0:=rfl
 simp only[a]at b f
 omega
theorem lI:∀(n:Nat) (l:List Src) (c:List Ex),Lin (sumB bkF l) (fun x=>sumB bkF x.1) (fromGo ex n l c)
 |0,l,c=>bt (Nat.le_refl _)
 |n+1,l,c=>fun s=>by
  have app:∀x:Src,sumB bkF (l++ [x])=sumB bkF l+bkF x:=fun x=>by rw[iO,sumB,sumB];rfl
  show sumB bkF (fromGo ex (n+1) l c s).1.1+_≤_
  rw[gU]
  split
  ·next hs=>
   have f:=cm_wsm hs
   have g:=tp s.next
   have b:=lI n (l++ [(srcP s.next).1]) c (srcP s.next).2
   simp only[app]at b
   omega
  split
  ·next hs=>
   have f:wsm s.r=wsm s.next.r+5:=by
    obtain⟨_,a,l,f,_,g,b⟩:=dL hs
    have i:a.text.length=4:=by
     have:=congrArg ByteArray.size g
     simpa[tkB,ByteArray.size] using this
    rw[f,b,wsm,i]
    show 4+1+wsm l=wsm l+5
    omega
   have g:=tp s.next
   have i:=oZ (sfx_need kON (srcP s.next).2)
   have j:=oZ (hr.sfx (needP kON (srcP s.next).2))
   have b:=lI n (l++ [(srcP s.next).1]) (c++ [(ex (needP kON (srcP s.next).2)).1]) (ex (needP kON (srcP s.next).2)).2
   simp only[app]at b
   omega
  ·show sumB bkF l+2*wsm s.r≤_
   omega
theorem lin_from:Lin 3 (fun x=>sumB bkF x.1) (fromP ex):=fun s=>by
 have b:=tp s
 have a:=lI hr (s.r.length+1) [(srcP s).1] [] (srcP s).2
 show sumB bkF (fromGo ex (s.r.length+1) _ [] _).1.1+2*wsm (fromGo ex (s.r.length+1) [(srcP s).1] [] (srcP s).2).2.r≤_
 simp only[sumB]at a
 omega
end
def St.cst (s:St):Nat:=s.tb.size+(sumB iB s.cols+sumB bkK s.keys+sumB jP s.frs+s.chk.length)+sumB (fun l:List Ex=>l.length+1) s.vals+sumB (fun x:Asg=>x.cl.size+2) s.sets+2*s.itms.length+sumB bkF s.frm+1+s.grp.length+s.ord.length+s.nm.size
theorem iP {α:Type} (l:List α):sumB (fun _=>1) l=l.length:=by
 induction l with
 |nil=>rfl
 |cons x l ih=>rw[sumB,ih,length_cons];omega
theorem uY {α:Type} (l:List α):sumB (fun _=>2) l=2*l.length:=by
 induction l with
 |nil=>rfl
 |cons x l ih=>rw[sumB,ih,length_cons];omega
section
variable {ex:M Ex} (hr:Rdy ex)
include hr
theorem jX:Rdy (whrP ex):=aY _ hr (aj _)
theorem mu:Rdy (cY ex):=by
 unfold cY itm1
 exact rdy_fst _ (fun o=>ah (ar _) fun _=>by split;exact aY _ (ah (ar _) fun _=>aj _) (ah hr fun _=>ah (ar _) fun _=>aj _);exact ah hr fun _=>ah (ar _) fun _=>aj _) (ah hr fun _=>aj _)
theorem wU:Lin 10 St.cst (createP ex):=by
 unfold createP
 refine(aB (d:=0) (e:=10) (bc _) fun _=> (aB (d:=1) (e:=9) (eR 1 (by omega)) fun t=> (aB (d:=0) (e:=bkS t+9) (bc _) fun _=> (aB (d:=4) (e:=bkS t+5) (lin_elems hr) fun x=> (aB (d:=0) (e:=dfW x.1+(bkS t+5)) (bc _) fun _=>bt ?_).imp (by omega)).imp (by omega)).imp (by omega)).imp (by omega)).imp (by omega)
 unfold St.cst dfW bkS stZ
 simp only[sumB,length_nil]
 have:sumB iB (x.1.cols.map (nnC x.2))=sumB iB x.1.cols:=by
  induction x.1.cols with
  |nil=>rfl
  |cons c l ih=>rw[map_cons,sumB,sumB,ih];rfl
 rw[this]
 show t.size+_+0+0+2*0+0+1+0+0+0≤_
 omega
theorem wV:Lin 10 St.cst (dz ex):=by
 unfold dz
 have a:Lin 2 (fun l:List Ex=>l.length+1) (tupP ex):=by
  unfold tupP
  refine(aB (d:=0) (e:=2) (bc _) fun _=> (aB (d:=1) (e:=1) (μ:=sumB fun _=>1) (gV (eh hr fun _=>Nat.le_refl _) (by omega)) fun l=> (aB (d:=0) (e:=sumB (fun _=>1) l+1) (bc _) fun _=>bt ?_).imp (by omega)).imp (by omega)).imp (by omega)
  rw[iP]
  omega
 refine(aB (d:=0) (e:=10) (bc _) fun _=> (aB (d:=1) (e:=9) (eR 1 (by omega)) fun t=> (aB (d:=0) (e:=bkS t+9) (bc _) fun _=> (aB (d:=2) (e:=bkS t+7) (gV a (by omega)) fun v=>bt ?_).imp (by omega)).imp (by omega)).imp (by omega)).imp (by omega)
 unfold St.cst bkS stZ
 simp only[sumB,length_nil]
 show t.size+0+_+0+2*0+0+1+0+0+0≤_
 omega
theorem wW:Lin 10 St.cst (dA ex):=by
 unfold dA
 have a:Lin 2 (fun x:Asg=>x.cl.size+2) (asgP ex):=by
  unfold asgP
  refine(aB (d:=1) (e:=1) (eR 1 (by omega)) fun t=> (aB (d:=0) (e:=bkS t+1) (bc _) fun _=> (aB (d:=0) (e:=bkS t+1) (μ:=fun _=>0) (eh hr fun _=>Nat.le_refl _) fun e=>bt ?_).imp (by omega)).imp (by omega)).imp (by omega)
  unfold bkS
  simp only
  omega
 refine(aB (d:=1) (e:=9) (eR 1 (by omega)) fun t=> (aB (d:=0) (e:=bkS t+9) (bc _) fun _=> (aB (d:=2) (e:=bkS t+7) (gV a (by omega)) fun v=> (aB (d:=0) (e:=sumB (fun x:Asg=>x.cl.size+2) v+(bkS t+7)) (μ:=fun _=>0) (eh (jX hr) fun _=>Nat.le_refl _) fun w=>bt ?_).imp (by omega)).imp (by omega)).imp (by omega)).imp (by omega)
 unfold St.cst bkS stZ
 simp only[sumB,length_nil]
 show t.size+0+0+_+2*0+0+1+0+0+0≤_
 omega
theorem wX:Lin 10 St.cst (dB ex):=by
 unfold dB
 refine(aB (d:=0) (e:=10) (bc _) fun _=> (aB (d:=1) (e:=9) (eR 1 (by omega)) fun t=> (aB (d:=0) (e:=bkS t+9) (μ:=fun _=>0) (eh (jX hr) fun _=>Nat.le_refl _) fun w=>bt ?_).imp (by omega)).imp (by omega)).imp (by omega)
 unfold St.cst bkS stZ
 simp only[sumB,length_nil]
 show t.size+0+0+0+2*0+0+1+0+0+0≤_
 omega
theorem lin_query (k:List Ex→Ex):Lin 10 St.cst (queryP ex posP k):=by
 unfold queryP
 have hi:Lin 2 (fun l:List Itm=>2*l.length) (itmsP ex):=by
  refine cV _ (bt (by simp)) fun s=>?_
  have:=gV (d:=2) (μ:=fun _:Itm=>2) (eh (mu hr) fun _=>Nat.le_refl _) (by omega) s
  rw[uY]at this
  exact this
 have m:Lin 1 (fun l:List Ex=>l.length) fT:=by
  refine cV _ ((aB (d:=0) (e:=1) (bc _) fun _=>fun s=>?_).imp (by omega)) (bt (by simp))
  have:=gV (d:=1) (μ:=fun _:Ex=>1) (eh rdy_col fun _=>Nat.le_refl _) (by omega) s
  rw[iP]at this
  omega
 have j:Rdy (dG posP):=ah kF fun _=>aY _ (aj _) (aY _ (aj _) (aj _))
 have n:Lin 1 (fun l:List Ord'=>l.length) (da posP):=by
  refine cV _ ((aB (d:=0) (e:=1) (bc _) fun _=>fun s=>?_).imp (by omega)) (bt (by simp))
  have:=gV (d:=1) (μ:=fun _:Ord'=>1) (eh j fun _=>Nat.le_refl _) (by omega) s
  rw[iP]at this
  omega
 have a:∀c:List Ex,Rdy (cr ex k c):=fun c=>aY _ (ah hr fun _=>aj _) (aj _)
 have b:Rdy (limP posP):=aY _ kF (aj _)
 refine(aB (d:=2) (e:=8) hi fun i=> (aB (d:=0) (e:=2*i.length+8) (bc _) fun _=> (aB (d:=3) (e:=2*i.length+5) (lin_from hr) fun f=>?_).imp (by omega)).imp (by omega)).imp (by omega)
 refine(aB (d:=0) (e:=sumB bkF f.1+(2*i.length+5)) (μ:=fun _=>0) (eh (a f.2) fun _=>Nat.le_refl _) fun w=>?_).imp (by omega)
 refine(aB (d:=1) (e:=sumB bkF f.1+(2*i.length+4)) m fun g=>?_).imp (by omega)
 refine(aB (d:=1) (e:=g.length+(sumB bkF f.1+(2*i.length+3))) n fun o=>?_).imp (by omega)
 refine(aB (d:=0) (e:=o.length+(g.length+(sumB bkF f.1+(2*i.length+3)))) (μ:=fun _=>0) (eh b fun _=>Nat.le_refl _) fun l=>bt ?_).imp (by omega)
 unfold St.cst stZ
 simp only[sumB,length_nil]
 show 0+0+0+0+_+_+1+_+_+0≤_
 omega
theorem uZ (k:List Ex→Ex):Lin 10 St.cst (dj ex posP k fQ):=by
 have nm:∀j:Int,Lin 10 St.cst (nmP j):=fun j=>by
  refine(aB (d:=1) (e:=9) (eR 1 (by omega)) fun a=>bt ?_).imp (by omega)
  unfold St.cst bkS stZ
  simp only[sumB,length_nil]
  show 0+0+0+0+2*0+0+1+0+0+a.size≤_
  omega
 have one:∀j:Int,Lin 10 St.cst (aH { stZ with kd:=j }):=fun j=>bt (by show 0+0+0+0+2*0+0+1+0+0+0≤_;omega)
 unfold dj
 refine cV _ (wU hr) (cV _ (wV hr) (cV _ (wW hr) (cV _ (wX hr) (cV _ (lin_query hr k) (cV _ (one 6) (cV _ (one 7) (cV _ (cV _ (nm 10) (one 8)) (cV _ (nm 9) (cV _ (nm 11) ?_)))))))))
 intro s
 show 0+0+0+0+2*0+0+1+0+0+0+2*wsm s.r≤_
 omega
end
theorem tok_xn (c:UInt8) (r:List UInt8) (k:Nat) (x:List UInt8) (n:Nat) (h:Lx.tokL (c::r)= .tok k x n):x.length≤n:=by
 rw[Lx.tokL]at h
 split at h
 ·unfold Lx.wordL at h
  split at h
  ·cases h;rw[length_map,length_take];omega
  ·split at h
   ·cases h
   ·cases h;rw[length_map,length_take];omega
 split at h
 ·unfold Lx.numL at h
  split at h
  ·cases h
  ·split at h
   ·cases h
   ·cases h;rw[length_take];omega
 split at h
 ·unfold Lx.textL at h
  cases a:Lx.litF r [] 1 with
  |none=>rw[a]at h;cases h
  |some q=>
   obtain⟨X,i⟩:=q
   have:=Lx.lit_bound r [] 1 X i a
   rw[a]at h
   simp only at h
   split at h
   ·cases h
   ·cases h;simp only[length_nil]at this;omega
 ·unfold Lx.symL at h
  split at h
  ·cases h
  ·cases h;rw[length_take];omega
theorem va:∀(m:Nat) (l:List UInt8) (p:Nat) (L:List Tk),l.length≤m→Lx.T l p= .ok L→wsm L≤2*l.length+1
 |0,l,p,L,hl,h=>by
  obtain rfl:l= []:=eq_nil_of_length_eq_zero (by omega)
  rw[Lx.T_end [] p rfl]at h
  cases h
  exact Nat.le_refl _
 |m+1,l,p,L,hl,h=>by
  cases hd:l.drop (Lx.skipN false l)with
  |nil=>
   rw[Lx.T_end l p hd]at h
   cases h
   show 0+1+0≤_
   omega
  |cons c r=>
   have f:(c::r).length=l.length-Lx.skipN false l:=by rw[←hd,length_drop]
   cases a:Lx.tokL (c::r)with
   |bad e'=>rw[Lx.T_bad l p c r e' hd a]at h;cases h
   |tok k y n=>
    have i:=Lx.tok_bound c r k y n a
    have j:=tok_xn c r k y n a
    rw[Lx.T_tok l p c r k y n hd a]at h
    cases b:Lx.T ((c::r).drop n) (p+Lx.skipN false l+n)with
    |bad x' e'=>rw[b]at h;cases h
    |ok z=>
     rw[b]at h
     have g:((c::r).drop n).length=(c::r).length-n:=length_drop
     have o:=va m _ _ z (by omega) b
     cases h
     show wsm (_::z)≤_
     rw[wsm]
     show y.length+1+_≤_
     omega
theorem wsm_all {s:BA} {L:List Tk} (h:Lx.tokAll s= .ok L):wsm L≤32769:=by
 unfold Lx.tokAll at h
 split at h
 ·cases h
 ·have a:s.data.toList.length=s.size:=Array.length_toList
  have:=va _ _ _ L (Nat.le_refl _) h
  omega
theorem flat_cst (l:List (List Ex)):l.flatten.length≤sumB (fun l:List Ex=>l.length+1) l:=by
 induction l with
 |nil=>exact Nat.le_refl _
 |cons a l ih=>rw[flatten_cons,length_append,sumB];omega
theorem all_cst (s:St):s.all.length≤s.cst:=by
 have a:=flat_cst s.vals
 have b:=bW (bk:=fun x:Asg=>x.cl.size+2) (fun _=>by omega) s.sets
 unfold St.all St.cst
 simp only[length_append,length_map,length_singleton]
 omega
theorem lJ {l:List Ex} (h:l.all Ex.formed=true):sizeL l=nodesL l:=(kJ h).symm
theorem o3 {α:Type} {μ ν:α→Nat} :∀ {l:List α},(∀x∈l,μ x≤ν x)→sumB μ l≤sumB ν l
 | [],_=>Nat.le_refl _
 |x::l,h=>by
  rw[sumB,sumB]
  have:=h x mem_cons_self
  have:=o3 (μ:=μ) (ν:=ν) (l:=l) fun y a=>h y (mem_cons_of_mem _ a)
  omega
theorem qb {α:Type} (μ ν:α→Nat) (l:List α):sumB (fun x=>μ x+ν x) l=sumB μ l+sumB ν l:=by
 induction l with
 |nil=>rfl
 |cons x l ih=>rw[sumB,sumB,sumB,ih];omega
theorem jj {α:Type} (f:α→Ex) (l:List α):sumB (fun x=> (f x).nodes) l=nodesL (l.map f):=by
 induction l with
 |nil=>rfl
 |cons x l ih=>rw[sumB,map_cons,nodesL,ih]
theorem nP (l:List (List Ex)):sumB nodesL l=nodesL l.flatten:=by
 induction l with
 |nil=>rfl
 |cons x l ih=>rw[sumB,flatten_cons,dc,ih]
theorem bulk_cst {s:St} (h:s.formed=true):s.bulk≤s.cst+nodesL s.all:=by
 have L:=oY h
 have K:=cu h
 have b:∀ {e:Ex},e.formed=true∨e.absent=true→e.size≤e.nodes+1:=fun {e} f=>by
  rcases f with f|f
  ·rw[fS e f];omega
  ·rw[ou f];omega
 have o:sizeL s.chk=nodesL s.chk:=by
  by_cases n:s.kd=1
  ·have:=K.2.1 n
   unfold St.defOk at this
   simp only[Bool.and_eq_true]at this
   exact lJ this.2
  ·rw[K.2.2.1 n];rfl
 have r:sumB bkR s.vals≤sumB (fun l:List Ex=>l.length+1) s.vals+nodesL s.vals.flatten:=by
  rw[←nP,←qb]
  refine o3 fun l m=>?_
  by_cases j:s.kd=2
  ·have:=List.all_eq_true.1 (K.2.2.2.1 j) l m
   unfold rowOk at this
   simp only[Bool.and_eq_true]at this
   unfold bkR
   rw[lJ this.2]
   omega
  ·rw[L.vals j]at m;cases m
 have t:sumB bkA s.sets≤sumB (fun x:Asg=>x.cl.size+2) s.sets+nodesL (s.sets.map Asg.ex):=by
  rw[←jj,←qb]
  refine o3 fun x i=>?_
  by_cases j:s.kd=3
  ·have:=List.all_eq_true.1 (K.2.2.2.2.2.1 j) x i
   unfold Asg.ok at this
   simp only[Bool.and_eq_true]at this
   have:=b (.inl this.2)
   unfold bkA
   omega
  ·rw[L.sets j]at i;cases i
 have u:sumB bkI s.itms≤2*s.itms.length+nodesL (s.itms.map Itm.ex):=by
  rw[←jj,←uY,←qb]
  refine o3 fun x i=>?_
  by_cases k:s.kd=5
  ·have g:=K.2.2.2.2.2.2.2.1 k
   unfold St.qOk at g
   simp only[Bool.and_eq_true]at g
   have a:=List.all_eq_true.1 g.1.1.1.1.1 x i
   unfold Itm.ok at a
   have:x.ex.size≤x.ex.nodes+1:=by
    split at a
    ·exact b (.inr a)
    ·simp only[Bool.and_eq_true]at a;exact b (.inl a.2)
   unfold bkI
   omega
  ·rw[(L.sel k).1]at i;cases i
 have w:sizeL s.grp=nodesL s.grp:=by
  by_cases k:s.kd=5
  ·have g:=K.2.2.2.2.2.2.2.1 k
   unfold St.qOk at g
   simp only[Bool.and_eq_true]at g
   refine lJ (List.all_eq_true.2 fun e f=>?_)
   have:=List.all_eq_true.1 g.1.1.2 e f
   unfold gJ at this
   simp only[Bool.and_eq_true]at this
   exact this.2
  ·rw[(L.sel k).2.2.1];rfl
 have y:sumB bkO s.ord=s.ord.length:=iP s.ord
 have z:=b (gM h).symm
 unfold St.bulk St.cst St.all
 simp only[dc]
 show _≤_+(_+(s.whr.nodes+0))
 omega
end
def aw1:BA:=⟨#[97,32,78,79,84,32,73,78,32,40,49,44,32,50,41]⟩
def aw2:BA:=⟨#[83,69,76,69,67,84,32,42,32,70,82,79,77,32,116,44,32,117,32,74,79,73,78,32,118,32,79,78,32,116,46,97,32,61,32,118,46,97,32,87,72,69,82,69,32,98,32,62,32,48]⟩
def aw3:BA:=⟨#[68,69,76,69,84,69,32,116]⟩
def aw4:BA:=⟨#[97,32,61,32,98,32,61,32,99]⟩
def aw5:BA:=⟨#[66,69,71,73,78,59,32,67,79,77,77,73,84,59]⟩
theorem aw_1:(parE validE aw1).2=(0,0):=by kernel_rfl
theorem aw_1t:textE (parE validE aw1).1=⟨#[78,79,84,32,40,97,32,61,32,49,32,79,82,32,97,32,61,32,50,41]⟩:=by kernel_rfl
theorem aw_2:(parS validS aw2).2=(0,0):=by kernel_rfl
theorem aw_2f:(parS validS aw2).1.frm.length=3:=by kernel_rfl
theorem aw_2t:textE (parS validS aw2).1.whr=⟨#[116,46,97,32,61,32,118,46,97,32,65,78,68,32,98,32,62,32,48]⟩:=by kernel_rfl
theorem aw_3:(parS validS aw3).2=(7,2):=by kernel_rfl
theorem aw_4:(parE validE aw4).2=(6,2):=by kernel_rfl
theorem aw_5:(parL validS aw5).2=(0,0):=by kernel_rfl
theorem aw_5n:(parL validS aw5).1.length=2:=by kernel_rfl
end Go.Proofs.YtjigcpfjhfoheaaGreatDoor
