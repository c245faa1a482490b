/- What the parser reads is well-formed and unbound, unless it has failed; The tokens of a text are good: words are names, texts can be printed, numbers fit; The tokens of canonical texts of expressions; no program in sight; The pars. -/
import Derived.Test.YtjigcpfjhfoheaaGreatDoorRca
import Derived.Test.YtjigcpfjhfoheaaGreatDoorRba
import Derived.Test.YtjigcpfjhfoheaaGreatDoorRab
import Derived.Test.YtjigcpfjhfoheaaGreatDoorRaa
import Derived.Test.YtjigcpfjhfoheaaGreatDoorRad
namespace Go.Proofs.YtjigcpfjhfoheaaGreatDoor
open Go.RowKit
set_option maxHeartbeats 1000000
set_option maxRecDepth 100000
set_option linter.unusedVariables false
set_option linter.unusedSimpArgs false
section
open Lx (Tk)
mutual
def Ex.unb:Ex→Bool
 | .mk d ks=>d.ix==0&&unbL ks
def unbL:List Ex→Bool
 | []=>true
 |e::es=>e.unb&&unbL es
end
structure Gt (a:Tk):Prop where
 nm:a.kind=1→nameB (tkB a)=true
 num:a.kind=3→fc (tkB a)≤2147483648
 txt:a.kind=4→eF (tkB a)=true
def Gs (B:Nat) (s:Ps):Prop:=s.r.length<B∧∀a∈s.r,Gt a
def Yld {α:Type} (B:Nat) (Q:α→Prop) (m:M α):Prop:=∀s,Gs B s→Gs B (m s).2∧((m s).2.bad=false→Q (m s).1)
section
variable {B:Nat}
theorem Gs.next {s:Ps} (h:Gs B s):Gs B s.next:=⟨Nat.lt_of_le_of_lt (next_len s) h.1,fun a b=>h.2 a (List.mem_of_mem_tail b)⟩
theorem Gs.fail {s:Ps} (h:Gs B s):Gs B s.fail:=h
theorem Gs.need {s:Ps} (h:Gs B s) (t:ByteArray):Gs B (needP t s):=by
 unfold needP
 split
 ·exact h.next
 ·exact h
theorem Gs.opt {s:Ps} (h:Gs B s) (t:ByteArray):Gs B (optP t s):=by
 unfold optP
 split
 ·exact h.next
 ·exact h
theorem Gs.first (l:List (ByteArray×Int)):∀ {s:Ps},Gs B s→Gs B (firstP l s).2:=by
 induction l with
 |nil=>intro s h;exact h
 |cons a l ih=>
  intro s h
  rw[firstP]
  split
  ·exact h.next
  ·exact ih h
theorem Gs.hd {s:Ps} (h:Gs B s) {k:Nat} (i:k≠0) (f:hasK k s=true):Gt s.hd∧s.hd.kind=k:=by
 obtain⟨_,a,l,b,g,_⟩:=gI i f
 have e:s.hd=a:=by unfold Ps.hd;rw[b];rfl
 rw[e]
 exact⟨h.2 a (by rw[b];exact List.mem_cons_self),g⟩
theorem Gs.tak {s:Ps} (h:Gs B s) (k:Nat):Gs B (takP k s).2:=by
 unfold takP
 split
 ·exact h.next
 ·exact h
theorem not_bad {α:Type} {m:M α} (h:Stk m) {s:Ps} (a:(m s).2.bad=false):s.bad=false:=by
 cases hs:s.bad with
 |false=>rfl
 |true=>rw[h s hs,hs]at a;exact a
section
variable {α β:Type} {Q:α→Prop} {R:β→Prop}
theorem ao {m:M α} {f:α→M β} (h:Yld B Q m) (j:∀a,Q a→Yld B R (f a)) (k:∀a,Stk (f a)):Yld B R (aA m f):=fun s hs=>by
 unfold aA
 have b:=h s hs
 cases e:(m s).2.bad with
 |true=>
  have i:=k (m s).1 (m s).2 e
  rw[i]
  exact⟨b.1,fun g=>by rw[e]at g;cases g⟩
 |false=>exact j _ (b.2 e) _ b.1
theorem aw {a:α} (h:Q a):Yld B Q (aY a):=fun s hs=>⟨hs,fun _=>h⟩
theorem aG (t:ByteArray):Yld B (fun _=>True) (aU t):=fun s hs=>⟨hs.need t,fun _=>trivial⟩
theorem aV (t:ByteArray) {m n:M α} (a:Yld B Q m) (b:Yld B Q n):Yld B Q (ifM t m n):=fun s hs=>by
 unfold ifM
 split
 ·exact a _ hs.next
 ·exact b _ hs
theorem yld_fst (ops:List (ByteArray×Int)) {f:Int→M α} {m:M α} (a:∀o,(∃t,(t,o)∈ops)→Yld B Q (f o)) (b:Yld B Q m):Yld B Q (fstM ops f m):=fun s hs=>by
 unfold fstM
 cases e:(firstP ops s).1 with
 |none=>exact b _ hs
 |some o=>exact a o (gM _ _ _ e) _ (Gs.first _ hs)
theorem Yld.imp {m:M α} {b:α→Prop} (h:Yld B Q m) (hi:∀a,Q a→b a):Yld B b m:=fun s hs=>⟨(h s hs).1,fun e=>hi _ ((h s hs).2 e)⟩
theorem md {el:M α} (h:Yld B Q el) (e:Stk el):∀(n:Nat) (o:List α) (s:Ps),Gs B s→(s.bad=false→o≠[]∧∀a∈o,Q a)→Gs B (listGo el n o s).2∧((listGo el n o s).2.bad=false→(listGo el n o s).1≠[]∧∀a∈(listGo el n o s).1,Q a)
 |0,_,_,hs,ho=>⟨hs,ho⟩
 |n+1,o,s,hs,ho=>by
  rw[listGo]
  split
  ·next hc=>
   have i:=(cu hc).1
   have f:=h s.next hs.next
   refine md h e n _ _ f.1 fun g=>⟨by simp,fun a b=>?_⟩
   rcases List.mem_append.1 b with b|b
   ·exact(ho i).2 a b
   ·rw[List.mem_singleton.1 b];exact f.2 g
  ·exact⟨hs,ho⟩
theorem eA {el:M α} (h:Yld B Q el) (b:Stk el):Yld B (fun l=>l≠[]∧∀a∈l,Q a) (listP el):=fun s hs=>by
 unfold listP
 have e:=h s hs
 exact md h b _ _ _ e.1 fun g=>⟨by simp,fun a f=>by rw[List.mem_singleton.1 f];exact e.2 g⟩
end
theorem bO:Yld B (fun b=>nameB b=true) (takP 1):=fun s hs=>⟨hs.tak 1,fun a=>by
 unfold takP at a ⊢
 split
 ·next h=>exact(hs.hd (by omega) h).1.nm (hs.hd (by omega) h).2
 ·next h=>rw[if_neg h]at a;cases a⟩
theorem me:Yld B (fun b=>eF b=true) (takP 4):=fun s hs=>⟨hs.tak 4,fun a=>by
 unfold takP at a ⊢
 split
 ·next h=>exact(hs.hd (by omega) h).1.txt (hs.hd (by omega) h).2
 ·next h=>rw[if_neg h]at a;cases a⟩
theorem digV_nn (b:ByteArray):0≤fc b:=by unfold fc;omega
theorem eO:Yld B (fun n=>0≤n∧n≤2147483648) numP:=fun s hs=>⟨hs.tak 3,fun a=>by
 unfold numP at a ⊢
 refine⟨digV_nn _,?_⟩
 unfold takP at a ⊢
 split
 ·next h=>exact(hs.hd (by omega) h).1.num (hs.hd (by omega) h).2
 ·next h=>rw[if_neg h]at a;cases a⟩
theorem yld_pos:Yld B (fun n=>1≤n∧n≤2147483648) posP:=fun s hs=>by
 unfold posP
 split
 ·refine⟨(eO s.fail hs).1,fun a=>?_⟩
  have:=not_bad nO a
  cases this
 ·next hc=>
  refine⟨(eO s hs).1,fun a=>?_⟩
  have b:=(eO s hs).2 a
  refine⟨?_,b.2⟩
  unfold numP takP at a ⊢
  split
  ·next h=>simp[h]at hc;have:=digV_nn (tkB s.hd);simp only;omega
  ·next h=>rw[if_neg h]at a;cases a
def FQ (e:Ex):Prop:=e.formed=true∧e.unb=true
theorem fq_lit1 {i:Int} (h:0≤i∧i≤2147483648):FQ (fp 1 i ⟨#[]⟩):=by
 refine⟨?_,rfl⟩
 unfold fp
 rw[Ex.formed]
 simp[opN,ndB,db,Nd.litB,ByteArray.size,h.1,h.2]
theorem fq_lit2 {t:ByteArray} (h:eF t=true):FQ (fp 2 0 t):=by
 refine⟨?_,rfl⟩
 unfold fp
 rw[Ex.formed]
 simp[opN,ndB,db,Nd.litB,ByteArray.size,h]
theorem fq_lit0:FQ (fp 0 0 ⟨#[]⟩):=by
 refine⟨?_,rfl⟩
 unfold fp
 rw[Ex.formed]
 simp[opN,ndB,db,Nd.litB,ByteArray.size]
theorem fq_col {t n:ByteArray} (a:t=⟨#[]⟩∨nameB t=true) (b:nameB n=true):FQ (colE t n):=by
 refine⟨?_,rfl⟩
 unfold colE
 rw[Ex.formed]
 have e:ndB ⟨2,t,n,0,0,0,⟨#[]⟩⟩ []=true:=by
  unfold ndB
  rw[if_pos rfl]
  rcases a with rfl|a
  ·simp only[b,Bool.true_and]
   rfl
  ·simp only[b,a,Bool.or_true,Bool.true_and]
   rfl
 show((opN 2==(0:Int)) &&db [] &&ndB ⟨2,t,n,0,0,0,⟨#[]⟩⟩ [])=true
 rw[e]
 rfl
theorem mf {o:Int} (g:o=3∨o=9∨o=17∨o=20) {a:Ex} (h:FQ a):FQ (opE o [a]):=by
 refine⟨?_,?_⟩
 ·unfold opE
  rw[Ex.formed]
  have f:=h.1
  have e:opN o=1:=by unfold opN;rw[if_neg (by omega),if_pos (by omega)]
  have b:ndB ⟨o,⟨#[]⟩,⟨#[]⟩,0,0,0,⟨#[]⟩⟩ ([a].map Ex.d)=true:=by
   unfold ndB
   rw[if_neg (show¬o=2 by omega),if_neg (show¬o=1 by omega),if_neg (fun h=>by have:o=16:=h.1;omega)]
   rfl
  rw[b]
  simp[e,db,f]
 ·unfold opE
  rw[Ex.unb]
  simp[unbL,h.2]
theorem fH {o:Int} (j:4≤o∧o≤8∨10≤o∧o≤15∨o=18∨o=19) {a b:Ex} (h:FQ a) (k:FQ b):FQ (opE o [a,b]):=by
 refine⟨?_,?_⟩
 ·unfold opE
  rw[Ex.formed]
  have g:=h.1
  have i:=k.1
  have e:opN o=2:=by unfold opN;rw[if_neg (by omega),if_neg (by omega),if_pos (by omega)]
  have f:ndB ⟨o,⟨#[]⟩,⟨#[]⟩,0,0,0,⟨#[]⟩⟩ ([a,b].map Ex.d)=true:=by
   unfold ndB
   rw[if_neg (show¬o=2 by omega),if_neg (show¬o=1 by omega),if_neg (fun h=>by have:o=16:=h.1;omega)]
   rfl
  rw[f]
  simp[e,db,g,i]
 ·unfold opE
  rw[Ex.unb]
  simp[unbL,h.2,k.2]
theorem fq_like {a:Ex} {t:ByteArray} (h:FQ a) (k:eF t=true):FQ (opE 16 [a,fp 2 0 t]):=by
 have b:=fq_lit2 k
 refine⟨?_,?_⟩
 ·unfold opE
  rw[Ex.formed]
  have e:=h.1
  have f:=b.1
  simp[opN,ndB,db,Nd.valZ,ByteArray.size,e,f]
  simp[fp,Ex.d]
 ·unfold opE
  rw[Ex.unb]
  simp[unbL,h.2,b.2]
theorem ol (b:Bool) {e:Ex} (h:FQ e):FQ (negE b e):=by
 cases b
 ·exact h
 ·exact mf (by omega) h
theorem km {el:M Ex} (h:Yld B FQ el) {ops:List (ByteArray×Int)} (i:∀x∈ops,4≤x.2∧x.2≤8∨10≤x.2∧x.2≤15∨x.2=18∨x.2=19):
  ∀(n:Nat) (e:Ex) (s:Ps),Gs B s→(s.bad=false→FQ e)→Gs B (aX el ops n e s).2∧((aX el ops n e s).2.bad=false→FQ (aX el ops n e s).1)
 |0,_,_,hs,he=>⟨hs,he⟩
 |n+1,e,s,hs,he=>by
  rw[aX]
  cases a:(firstP ops s).1 with
  |none=>exact⟨hs,he⟩
  |some o=>
   simp only
   obtain⟨t,j⟩:=gM _ _ _ a
   have f:s.bad=false:=by
    cases b:s.bad with
    |false=>rfl
    |true=>rw[gF ops s b]at a;cases a
   have g:=h _ (Gs.first ops hs)
   exact km h i n _ _ g.1 fun b=>fH (i _ j) (he f) (g.2 b)
theorem gV {el:M Ex} (h:Yld B FQ el) {ops:List (ByteArray×Int)} (a:∀x∈ops,4≤x.2∧x.2≤8∨10≤x.2∧x.2≤15∨x.2=18∨x.2=19):Yld B FQ (chainP el ops):=fun s hs=>by
 unfold chainP
 exact km h a _ _ _ (h s hs).1 (h s hs).2
theorem pH:Yld B (fun e=>FQ e∧e.d.op=2) eS:=fun s hs=>by
 have a:=bO s hs
 unfold eS
 split
 ·next hc=>
  have g:=bO (takP 1 s).2.next a.1.next
  have b:(takP 1 s).2.bad=false:=(cu hc).1
  exact⟨g.1,fun f=>⟨fq_col (.inr (a.2 b)) (g.2 f),rfl⟩⟩
 ·exact⟨a.1,fun b=>⟨fq_col (.inl rfl) (a.2 b),rfl⟩⟩
theorem yld_col:Yld B FQ eS:=pH.imp fun _ h=>h.1
section
variable {p:M Ex} (h:Yld B FQ p) (st:Stk p)
include h
theorem yld_una:Yld B FQ (dL p):=fun s hs=>by
 unfold dL
 split
 ·exact⟨(h _ hs.next).1,fun a=>mf (by omega) ((h _ hs.next).2 a)⟩
 ·exact h s hs
theorem yld_sum:Yld B FQ (sumP p):=gV (gV (yld_una h) (by decide)) (by decide)
include st
omit st in
theorem pI {a:Ex} (g:FQ a):∀(n:Nat) (e:Ex) (s:Ps),Gs B s→(s.bad=false→FQ e)→Gs B (hJ p a n e s).2∧((hJ p a n e s).2.bad=false→FQ (hJ p a n e s).1)
 |0,_,_,hs,he=>⟨hs,he⟩
 |n+1,e,s,hs,he=>by
  rw[hJ]
  split
  ·next hc=>
   have i:=(cu hc).1
   have f:=h _ hs.next
   exact pI g n _ _ f.1 fun b=>fH (by omega) (he i) (fH (by omega) g (f.2 b))
  ·exact⟨hs,he⟩
theorem yld_tail {a:Ex} (f:FQ a):Yld B FQ (de p a):=fun s hs=>by
 unfold de
 cases m:(firstP opsCmp s).1 with
 |some o=>
  simp only
  obtain⟨t,n⟩:=gM _ _ _ m
  have e:=h _ (Gs.first opsCmp hs)
  have k:∀x∈opsCmp,10≤x.2∧x.2≤15:=by decide
  exact⟨e.1,fun b=>fH (.inr (.inl (k _ n))) f (e.2 b)⟩
 |none=>
  simp only
  split
  ·exact⟨((hs.next).opt _).need _,fun _=>ol _ (mf (by omega) f)⟩
  split
  ·have e:=me _ (hs.opt kNOT).next
   exact⟨e.1,fun b=>ol _ (fq_like f (e.2 b))⟩
  split
  ·have e:=h _ (hs.opt kNOT).next
   have i:=h _ (e.1.need kAND)
   refine⟨i.1,fun b=>?_⟩
   have j:=not_bad st b
   have l:(p (optP kNOT s).next).2.bad=false:=by
    cases g:(p (optP kNOT s).next).2.bad with
    |false=>rfl
    |true=>rw[fY g,g]at j;exact j
   exact ol _ (fH (by omega) (fH (by omega) f (e.2 l)) (fH (by omega) f (i.2 b)))
  split
  ·have e:=h _ ((hs.opt kNOT).next.need yLp)
   have i:=pI h f ((needP yLp (optP kNOT s).next).r.length+1) (opE 10 [a,(p (needP yLp (optP kNOT s).next)).1]) (p (needP yLp (optP kNOT s).next)).2 e.1 (fun b=>fH (by omega) f (e.2 b))
   refine⟨i.1.need _,fun b=>ol _ (i.2 ?_)⟩
   cases g:(inP p a (needP yLp (optP kNOT s).next)).2.bad with
   |false=>exact g
   |true=>simp only at b;rw[fY g,g]at b;cases b
  ·refine⟨?_,fun _=>f⟩
   simp only
   split
   ·exact hs.opt _
   ·exact hs
theorem pJ:Yld B FQ (testP p):=fun s hs=>by
 unfold testP
 have a:=yld_sum h s hs
 cases b:(sumP p s).2.bad with
 |true=>rw[o4 _ _ _ b];exact⟨a.1,fun e=>by rw[b]at e;cases e⟩
 |false=>exact yld_tail (yld_sum h) (stk_sum st) (a.2 b) _ a.1
theorem nu:∀n,Yld B FQ (notGo p n)
 |0=>pJ h st
 |n+1=>fun s hs=>by
  rw[notGo]
  split
  ·have a:=nu n _ hs.next
   exact⟨a.1,fun b=>mf (by omega) (a.2 b)⟩
  ·exact pJ h st s hs
theorem yld_or:Yld B FQ (orP p):=gV (gV (fun s hs=>nu h st _ s hs) (by decide)) (by decide)
end
theorem Gs.step {s:Ps} {t:ByteArray} (h:Gs (B+1) s) (a:isS t s=true):Gs B s.next:=⟨by have:=ay a;have:=h.1;omega,h.next.2⟩
theorem Gs.up {s:Ps} (h:Gs B s):Gs (B+1) s:=⟨Nat.lt_succ_of_lt h.1,h.2⟩
theorem yld_prim {p:M Ex} (h:Yld B FQ p) (st:Stk p):Yld (B+1) FQ (aD p):=fun s hs=>by
 unfold aD
 split
 ·exact⟨(eO s hs).1,fun a=>fq_lit1 ((eO s hs).2 a)⟩
 split
 ·exact⟨(me s hs).1,fun a=>fq_lit2 ((me s hs).2 a)⟩
 split
 ·exact⟨hs.next,fun _=>fq_lit0⟩
 split
 ·next hc=>
  have b:=h _ ((hs.step hc).need yLp)
  refine⟨(b.1.need _).up,fun a=>mf (by omega) (b.2 ?_)⟩
  cases e:(p (needP yLp s.next)).2.bad with
  |false=>rfl
  |true=>simp only at a;rw[fY e,e]at a;cases a
 split
 ·next hc=>
  have b:=h _ (hs.step hc)
  refine⟨(b.1.need _).up,fun a=>b.2 ?_⟩
  cases e:(p s.next).2.bad with
  |false=>rfl
  |true=>simp only at a;rw[fY e,e]at a;cases a
 ·exact yld_col s hs
theorem pK:∀n,Yld n FQ (exprP n)
 |0=>fun s hs=>absurd hs.1 (Nat.not_lt_zero _)
 |n+1=>yld_or (yld_prim (pK n) (o7 n)) (o6 _)
theorem gW:Yld B (fun l=>namesB l=true) namesP:=by
 unfold namesP
 refine ao (aG _) (fun _ _=>?_) (fun _=>af (ct (cN 1)) fun _=>af (az _) fun _=>ai _)
 refine ao (eA bO (cN 1)) (fun l b=>?_) (fun _=>af (az _) fun _=>ai _)
 refine ao (aG _) (fun _ _=>aw ?_) (fun _=>ai _)
 unfold namesB
 rw[Bool.and_eq_true,List.all_eq_true]
 refine⟨?_,b.2⟩
 cases l with
 |nil=>exact absurd rfl b.1
 |cons a l=>rfl
theorem nw:Yld B (fun n=> -2147483648≤n∧n≤2147483648) fd:=by
 unfold fd
 refine aV _ (ao eO (fun n a=>aw (by omega)) (fun _=>ai _)) (eO.imp fun n a=>by omega)
def TyQ (t:Int×Int×Int×Int):Prop:=
 (t.1=1∧ -2147483648≤t.2.1∧t.2.1≤2147483648∧ -2147483648≤t.2.2.1∧t.2.2.1≤2147483648∧t.2.2.2=0)∨(t.1=2∧t.2.1=0∧t.2.2.1=0∧0≤t.2.2.2∧t.2.2.2≤2147483648)
theorem yld_typ:Yld B TyQ typP:=by
 unfold typP
 refine aV _ (aV _ ?_ (aw (.inl (by decide)))) (ao (aG _) (fun _ _=>aV _ ?_ (aw (.inr (by decide)))) (fun _=>bp _ _ (ai _)))
 ·unfold bnd2P
  refine ao nw (fun a e=>?_) (fun _=>af (az _) fun _=>af o8 fun _=>af (az _) fun _=>ai _)
  refine ao (aG _) (fun _ _=>?_) (fun _=>af o8 fun _=>af (az _) fun _=>ai _)
  refine ao nw (fun b f=>?_) (fun _=>af (az _) fun _=>ai _)
  exact ao (aG _) (fun _ _=>aw (.inl ⟨rfl,e.1,e.2,f.1,f.2,rfl⟩)) (fun _=>ai _)
 ·unfold maxP
  refine ao eO (fun a e=>?_) (fun _=>af (az _) fun _=>ai _)
  exact ao (aG _) (fun _ _=>aw (.inr ⟨rfl,rfl,rfl,e.1,e.2⟩)) (fun _=>ai _)
theorem cd_ok {a:ByteArray} (e:nameB a=true) {t:Int×Int×Int×Int} (f:TyQ t) (b:Bool):Cd.ok ⟨a,t.1,t.2.1,t.2.2.1,t.2.2.2,b⟩=true:=by
 unfold Cd.ok inB
 rcases f with ⟨h1,h2,h3,h4,h5,h6⟩|⟨h1,h2,h3,h4,h5⟩
 ·simp[h1,e,h2,h3,h4,h5,h6]
 ·simp[h1,e,h2,h3,h4,h5]
theorem yld_def:Yld B (fun c=>c.ok=true) fQ:=by
 unfold fQ
 refine ao bO (fun a b=>?_) (fun _=>af stk_typ fun _=>bp _ _ (ai _))
 refine ao yld_typ (fun t e=>?_) (fun _=>bp _ _ (ai _))
 exact aV _ (ao (aG _) (fun _ _=>aw (cd_ok b e true)) (fun _=>ai _)) (aw (cd_ok b e false))
theorem yld_ref:Yld B (fun f=>f.ok=true) refP:=by
 unfold refP
 refine ao gW (fun a e=>?_) (fun _=>af (az _) fun _=>af (cN 1) fun _=>af dW fun _=>ai _)
 refine ao (aG _) (fun _ _=>?_) (fun _=>af (cN 1) fun _=>af dW fun _=>ai _)
 refine ao bO (fun t i=>?_) (fun _=>af dW fun _=>ai _)
 refine ao gW (fun b g=>aw ?_) (fun _=>ai _)
 unfold Rf.ok
 simp only[e,i,g,Bool.and_self]
theorem om:Yld B (fun f=>f.ok=true) srcP:=by
 unfold srcP
 refine ao bO (fun a e=>?_) (fun _=>bp _ _ (ai _))
 refine aV _ (ao bO (fun b g=>aw ?_) (fun _=>ai _)) (aw ?_)
 ·unfold Src.ok
  simp only[e,g,Bool.or_true,Bool.and_self]
 ·unfold Src.ok
  simp only[e,Bool.true_and]
  rw[eX]
  rfl
theorem yld_ord:Yld B (fun f=>f.ok=true) (hU posP):=by
 unfold hU
 refine ao yld_pos (fun a e=>?_) (fun _=>bp _ _ (bp _ _ (ai _)))
 have h:∀b,Ord'.ok ⟨a,b⟩=true:=fun b=>by unfold Ord'.ok inB;simp[e.1,e.2]
 exact aV _ (aw (h _)) (aV _ (aw (h _)) (aw (h _)))
structure DfQ (x:Df×List ByteArray):Prop where
 cols:∀c∈x.1.cols,c.ok=true
 keys:∀c∈x.1.keys,namesB c=true
 frs:∀c∈x.1.frs,c.ok=true
 chk:∀c∈x.1.chk,FQ c
 ne:x.1.cols.length+x.1.keys.length+x.1.frs.length+x.1.chk.length≠0
theorem dk {α:Type} {P:α→Prop} {l:List α} {a:α} (h:∀x∈l,P x) (e:P a):∀x∈l++ [a],P x:=fun x b=>by
 rcases List.mem_append.1 b with b|b
 ·exact h x b
 ·rw[List.mem_singleton.1 b];exact e
def WQ (e:Ex):Prop:=(e.absent=true∨e.formed=true)∧e.unb=true
theorem wq_z:WQ exZ:=⟨.inl (by decide),by decide⟩
theorem fq_and:∀(l:List Ex) (e:Ex),FQ e→(∀x∈l,FQ x)→FQ (l.foldl (fun a b=>opE 18 [a,b]) e)
 | [],_,he,_=>he
 |a::l,e,he,hl=>fq_and l _ (fH (by omega) he (hl a List.mem_cons_self)) fun x f=>hl x (List.mem_cons_of_mem _ f)
theorem wq_andL {c:List Ex} (a:∀e∈c,FQ e):WQ (andL c):=by
 cases c with
 |nil=>exact wq_z
 |cons e l=>
  have:=fq_and l e (a e List.mem_cons_self) fun x b=>a x (List.mem_cons_of_mem _ b)
  exact⟨.inr this.1,this.2⟩
section
variable {ex:M Ex} (h:Yld B FQ ex) (st:Stk ex)
include h st
theorem pL {d:Df} {l:List ByteArray} (b:∀c∈d.cols,c.ok=true) (g:∀c∈d.keys,namesB c=true) (f:∀c∈d.frs,c.ok=true) (i:∀c∈d.chk,FQ c):Yld B DfQ (elemP ex d l):=by
 unfold elemP
 refine aV _ ?_ (aV _ ?_ (aV _ ?_ (aV _ ?_ ?_)))
 ·refine ao (aG _) (fun _ _=>?_) (fun _=>af dW fun _=>ai _)
  exact ao gW (fun k a=>aw ⟨b,dk g a,f,i,by simp⟩) (fun _=>ai _)
 ·exact ao gW (fun k a=>aw ⟨b,dk g a,f,i,by simp⟩) (fun _=>ai _)
 ·refine ao (aG _) (fun _ _=>?_) (fun _=>af st fun _=>af (az _) fun _=>ai _)
  refine ao h (fun e j=>?_) (fun _=>af (az _) fun _=>ai _)
  exact ao (aG _) (fun _ _=>aw ⟨b,g,f,dk i j,by simp⟩) (fun _=>ai _)
 ·refine ao (aG _) (fun _ _=>?_) (fun _=>af stk_ref fun _=>ai _)
  exact ao yld_ref (fun k a=>aw ⟨b,g,dk f a,i,by simp⟩) (fun _=>ai _)
 ·exact ao yld_def (fun k a=>aw ⟨dk b a,g,f,i,by simp⟩) (fun _=>ai _)
theorem mg:∀(n:Nat) (x:Df×List ByteArray),DfQ x→Yld B DfQ (cr ex n x.1 x.2)
 |0,_,hx=>aw hx
 |n+1,x,hx=>aV _ (ao (pL h st hx.cols hx.keys hx.frs hx.chk) (fun y a=>mg n y a) (fun _=>io ex _ _ _)) (aw hx)
theorem yld_elems:Yld B DfQ (dv ex):=fun s hs=>
 ao (pL h st (d:=⟨[],[],[],[]⟩) (by simp) (by simp) (by simp) (by simp)) (fun x a=>mg h st (s.r.length+1) x a) (fun _=>io ex _ _ _) s hs
theorem yld_tup:Yld B (fun l=>rowOk l=true∧∀e∈l,e.unb=true) (tupP ex):=by
 unfold tupP
 refine ao (aG _) (fun _ _=>?_) (fun _=>af (ct st) fun _=>af (az _) fun _=>ai _)
 refine ao (eA h st) (fun l b=>?_) (fun _=>af (az _) fun _=>ai _)
 refine ao (aG _) (fun _ _=>aw ⟨?_,fun e a=> (b.2 e a).2⟩) (fun _=>ai _)
 unfold rowOk
 rw[Bool.and_eq_true,List.all_eq_true]
 exact⟨decide_eq_true (List.length_pos_iff.2 b.1),fun e a=> (b.2 e a).1⟩
omit st in
theorem yld_whr:Yld B WQ (whrP ex):=aV _ (h.imp fun e a=>⟨.inr a.1,a.2⟩) (aw wq_z)
theorem yld_asg:Yld B (fun a=>a.ok=true∧a.ix=0∧a.ex.unb=true) (asgP ex):=by
 unfold asgP
 refine ao bO (fun a f=>?_) (fun _=>af (az _) fun _=>af st fun _=>ai _)
 refine ao (aG _) (fun _ _=>?_) (fun _=>af st fun _=>ai _)
 refine ao h (fun e b=>aw ⟨?_,rfl,b.2⟩) (fun _=>ai _)
 unfold Asg.ok
 simp only[f,b.1,Bool.and_self]
theorem yld_itm:Yld B (fun x=>x.ok=true∧x.ex.unb=true) (fX ex):=by
 have one:∀o:Int,2≤o→o≤5→Yld B (fun x:Itm=>x.ok=true∧x.ex.unb=true) (itm1 ex o):=fun o g i=>by
  unfold itm1
  refine ao h (fun e a=>?_) (fun _=>af (az _) fun _=>ai _)
  refine ao (aG _) (fun _ _=>aw ⟨?_,a.2⟩) (fun _=>ai _)
  unfold Itm.ok
  rw[if_neg (by simp;omega),a.1]
  simp;omega
 unfold fX
 refine yld_fst _ (fun o b=>ao (aG _) (fun _ _=>?_) (fun _=>?_)) (ao h (fun e a=>aw ⟨?_,a.2⟩) (fun _=>ai _))
 ·obtain⟨t,f⟩:=b
  have k:∀x∈opsAgg,2≤x.2∧x.2≤5:=by decide
  have:=k _ f
  split
  ·exact aV _ (ao (aG _) (fun _ _=>aw (by decide)) (fun _=>ai _)) (one o this.1 this.2)
  ·exact one o this.1 this.2
 ·split
  ·exact bp _ _ (o9 st o)
  ·exact o9 st o
 ·unfold Itm.ok
  rw[if_neg (by simp),a.1]
  rfl
theorem iD:∀(n:Nat) (l:List Src) (c:List Ex),(∀x∈l,x.ok=true)→l≠[]→(∀e∈c,FQ e)→Yld B (fun x=> (∀y∈x.1,y.ok=true)∧x.1≠[]∧∀e∈x.2,FQ e) (fromGo ex n l c)
 |0,_,_,h1,h2,h3=>aw ⟨h1,h2,h3⟩
 |n+1,l,c,h1,h2,h3=>by
  refine aV _ (ao om (fun x a=>iD n _ _ (dk h1 a) (by simp) h3) (fun _=>dy ex _ _ _)) (aV _ ?_ (aw ⟨h1,h2,h3⟩))
  refine ao om (fun x a=>?_) (fun _=>af (az _) fun _=>af st fun _=>dy ex _ _ _)
  refine ao (aG _) (fun _ _=>?_) (fun _=>af st fun _=>dy ex _ _ _)
  exact ao h (fun e b=>iD n _ _ (dk h1 a) (by simp) (dk h3 b)) (fun _=>dy ex _ _ _)
theorem yld_from:Yld B (fun x=> (∀y∈x.1,y.ok=true)∧x.1≠[]∧∀e∈x.2,FQ e) (fromP ex):=fun s hs=>
 ao om (fun x a=>iD h st (s.r.length+1) [x] [] (by simpa using a) (by simp) (by simp)) (fun _=>dy ex _ _ _) s hs
omit st in
theorem yld_cond {c:List Ex} (a:∀e∈c,FQ e):Yld B WQ (fM ex andL c):=
 aV _ (ao h (fun e b=>aw (wq_andL (dk a b))) (fun _=>ai _)) (aw (wq_andL a))
end
end
end
section
open Lx (Tk isDigit isLetter inWord spanN isPrint)
def dn (k:List UInt8):List Nat:=k.map fun c=>c.toNat+32
theorem kw_same:kwWords=Lx.kwNames.map dn:=by decide+kernel
theorem up_low {c:UInt8} (h:Lx.lowW c=true) (a:isLetter (Lx.upC c)=true):c.toNat=(Lx.upC c).toNat+32:=by
 have b:=Lx.upC_num c
 rw[Lx.up_letter]at a
 unfold Lx.lowW isDigit at h
 unfold isLetter at a
 split at b<;>grind
theorem dn_up:∀l:List UInt8,(∀c∈l,Lx.lowW c=true)→(∀c∈l.map Lx.upC,isLetter c=true)→l.map UInt8.toNat=dn (l.map Lx.upC)
 | [],_,_=>rfl
 |c::l,h,k=>by
  have e:=up_low (h c List.mem_cons_self) (k _ (by simp))
  have b:=dn_up l (fun x a=>h x (List.mem_cons_of_mem _ a)) (fun x a=>k x (by rw[List.map_cons];exact List.mem_cons_of_mem _ a))
  simp only[List.map_cons,dn,List.cons.injEq]at b ⊢
  exact⟨e,b⟩
theorem up_dn:∀(l k:List UInt8),(∀c∈k,isLetter c=true∧c.toNat≤90)→l.map UInt8.toNat=dn k→l.map Lx.upC=k
 | [],[],_,_=>rfl
 | [],_::_,_,h=>by simp[dn]at h
 |_::_,[],_,h=>by simp[dn]at h
 |a::l,b::k,hk,h=>by
  simp only[dn,List.map_cons,List.cons.injEq]at h
  have g:=hk b List.mem_cons_self
  have f:=Lx.upC_num a
  have e:=g.1
  unfold isLetter at e
  rw[List.map_cons,up_dn l k (fun c i=>hk c (List.mem_cons_of_mem _ i)) h.2]
  congr 1
  refine Lx.num_ext _ _ ?_
  rw[f,if_pos (by grind)]
  omega
theorem kw_caps:∀k∈Lx.kwNames,∀c∈k,isLetter c=true∧c.toNat≤90:=by
 have:(Lx.kwNames.all fun k=>k.all fun c=>isLetter c&&decide (c.toNat≤90))=true:=by decide+kernel
 intro k b c a
 have h:=List.all_eq_true.1 (List.all_eq_true.1 this k b) c a
 simpa using h
theorem kw_iff (l:List UInt8) (f:∀c∈l,Lx.lowW c=true):Lx.isKw l=kwWords.contains (l.map UInt8.toNat):=by
 rw[Bool.eq_iff_iff]
 unfold Lx.isKw
 rw[decide_eq_true_iff,List.contains_iff_mem,kw_same]
 constructor
 ·intro h
  rw[dn_up l f fun c b=> (kw_caps _ h c b).1]
  exact List.mem_map_of_mem h
 ·intro h
  obtain⟨k,a,e⟩:=List.mem_map.1 h
  rw[up_dn l k (kw_caps k a) e.symm]
  exact a
theorem low_nm (c:UInt8):Lx.lowW c=da c.toNat:=by
 unfold Lx.lowW da fR isDigit
 rw[Bool.eq_iff_iff]
 simp only[Bool.or_eq_true,Bool.and_eq_true,decide_eq_true_eq,beq_iff_eq]
 omega
theorem pM (s:ByteArray):nameB s=Lx.nameP s.data.toList:=by
 unfold nameB iP Lx.nameP N
 cases h:s.data.toList with
 |nil=>rfl
 |cons c r=>
  have f:((c::r).map UInt8.toNat).all da=(c::r).all Lx.lowW:=by
   rw[List.all_map]
   congr 1
   funext c
   exact(low_nm c).symm
  rw[f]
  cases g:(c::r).all Lx.lowW with
  |false=>simp
  |true=>
   rw[←kw_iff _ (List.all_eq_true.1 g),List.length_map]
   simp only[List.map_cons,fm,fR,Bool.and_true]
   rw[Bool.eq_iff_iff]
   simp only[Bool.and_eq_true,decide_eq_true_eq,Bool.not_eq_true']
   constructor
   ·rintro⟨⟨a,b⟩,e⟩;exact⟨⟨b,a⟩,e⟩
   ·rintro⟨⟨a,b⟩,e⟩;exact⟨⟨b,a⟩,e⟩
theorem jj {s:ByteArray} (h:nameB s=true):Lx.nameP s.data.toList=true:=by rw[←pM];exact h
theorem up_lo (c:UInt8):Lx.upC (Lx.loC c)=Lx.upC c:=by
 apply Lx.num_ext
 have h:=Lx.upC_num (Lx.loC c)
 have a:=Lx.loC_num c
 have b:=Lx.upC_num c
 split at h<;>split at a<;>split at b<;>omega
theorem lo_low {c:UInt8} (h:inWord c=true):Lx.lowW (Lx.loC c)=true:=by
 have a:=Lx.loC_num c
 unfold inWord isLetter isDigit at h
 unfold Lx.lowW isDigit
 split at a<;>grind
theorem word_name {l:List UInt8} {c:UInt8} {r:List UInt8} (i:l=c::r) (g:isLetter c=true) (k:∀x∈l,inWord x=true) (j:l.length≤24) (b:Lx.isKw l=false):nameB ⟨(l.map Lx.loC).toArray⟩=true:=by
 rw[pM]
 have e:Lx.isKw (l.map Lx.loC)=false:=by
  unfold Lx.isKw at b ⊢
  rw[List.map_map]
  have:Lx.upC∘Lx.loC=Lx.upC:=funext up_lo
  rw[this]
  exact b
 show Lx.nameP (l.map Lx.loC).toArray.toList=true
 rw[List.toList_toArray]
 subst i
 have s:∀(a:UInt8) (m:List UInt8),Lx.nameP (a::m)=(decide ((a::m).length≤24) && (decide (97≤a.toNat) &&decide (a.toNat≤122)) && (a::m).all Lx.lowW&&!(Lx.isKw (a::m))):=fun _ _=>rfl
 rw[List.map_cons,s,←List.map_cons,e,List.length_map]
 simp only[Bool.and_eq_true,decide_eq_true_eq,List.all_eq_true,Bool.not_false,and_true]
 refine⟨⟨j,?_⟩,fun x n=>?_⟩
 ·have f:=Lx.loC_num c
  unfold isLetter at g
  split at f<;>grind
 ·obtain⟨y,o,rfl⟩:=List.mem_map.1 n
  exact lo_low (k y o)
theorem j0:∀(l X:List UInt8) (i:Nat) (q:List UInt8×Nat),Lx.litF l X i=some q→(∀c∈X,isPrint c=true)→∀c∈q.1,isPrint c=true
 | [],X,i,q,h,_=>by simp[Lx.litF]at h
 | [c],X,i,q,h,hX=>by
  rw[Lx.litF]at h
  split at h
  ·cases h
  split at h
  ·cases h;exact hX
  ·simp[Lx.litF]at h
 |c::d::r,X,i,q,h,hX=>by
  rw[Lx.litF]at h
  split at h
  ·cases h
  next hp=>
  split at h
  ·split at h
   ·next h2=>
    refine j0 r _ _ q h fun x a=>?_
    rcases List.mem_append.1 a with a|a
    ·exact hX x a
    ·rw[List.mem_singleton.1 a];unfold isPrint;rw[h2];rfl
   ·cases h;exact hX
  ·refine j0 (d::r) _ _ q h fun x a=>?_
   rcases List.mem_append.1 a with a|a
   ·exact hX x a
   ·rw[List.mem_singleton.1 a];simpa using hp
theorem tok_gt (c:UInt8) (r:List UInt8) (k:Nat) (x:List UInt8) (n p:Nat) (h:Lx.tokL (c::r)= .tok k x n):Gt ⟨k,x,p⟩:=by
 rw[Lx.tokL]at h
 split at h
 ·next hc=>
  unfold Lx.wordL at h
  split at h
  ·cases h;exact⟨(fun h=>nomatch h),(fun h=>nomatch h),(fun h=>nomatch h)⟩
  ·next hk=>
   split at h
   ·cases h
   ·next hn=>
    cases h
    have g:=Lx.span_pos inWord c r (Lx.letter_word c hc)
    have j:=Lx.span_le inWord (c::r)
    refine⟨fun _=>?_,(fun h=>nomatch h),(fun h=>nomatch h)⟩
    refine word_name (c:=c) (r:=r.take (spanN inWord (c::r)-1)) ?_ hc (Lx.span_all inWord (c::r)) ?_ (by simpa using hk)
    ·obtain⟨m,b⟩:∃m,spanN inWord (c::r)=m+1:=⟨spanN inWord (c::r)-1,by omega⟩
     rw[b,List.take_succ_cons,Nat.add_sub_cancel]
    ·rw[List.length_take];omega
 split at h
 ·unfold Lx.numL at h
  split at h
  ·cases h
  ·split at h
   ·cases h
   ·next hv=>
    cases h
    refine⟨(fun h=>nomatch h),fun _=>?_,(fun h=>nomatch h)⟩
    unfold fc tkB
    simp only[List.toList_toArray]
    omega
 split at h
 ·unfold Lx.textL at h
  cases a:Lx.litF r [] 1 with
  |none=>rw[a]at h;cases h
  |some q=>
   obtain⟨X,i⟩:=q
   rw[a]at h
   simp only at h
   split at h
   ·cases h
   ·next hn=>
    cases h
    refine⟨(fun h=>nomatch h),(fun h=>nomatch h),fun _=>?_⟩
    have hp:=j0 r [] 1 _ a (by simp)
    unfold eF N tkB
    simp only[Bool.and_eq_true,List.all_eq_true,decide_eq_true_eq,List.toList_toArray]
    refine⟨fun y e=>?_,?_⟩
    ·obtain⟨z,f,rfl⟩:=List.mem_map.1 e
     have:=hp z f
     unfold isPrint at this
     simpa using this
    ·show x.toArray.size≤16
     simp
     omega
 ·unfold Lx.symL at h
  split at h
  ·cases h
  ·cases h;exact⟨(fun h=>nomatch h),(fun h=>nomatch h),(fun h=>nomatch h)⟩
theorem toks_gt:∀(f:Nat) (l:List UInt8) (p:Nat) (L:List Tk),Lx.toksF f l p= .ok L→∀a∈L,Gt a
 |0,_,_,_,h=>by cases h
 |f+1,l,p,L,h=>by
  rw[Lx.toksF]at h
  cases hd:l.drop (Lx.skipN false l)with
  |nil=>
   rw[hd]at h
   injection h with h
   subst h
   intro a b
   rw[List.mem_singleton.1 b]
   exact⟨(fun h=>nomatch h),(fun h=>nomatch h),(fun h=>nomatch h)⟩
  |cons c r=>
   rw[hd]at h
   cases i:Lx.tokL (c::r)with
   |bad e=>simp only[i]at h;cases h
   |tok k x n=>
    simp only[i]at h
    cases g:Lx.toksF f ((c::r).drop n) (p+Lx.skipN false l+n)with
    |bad a e=>rw[g]at h;cases h
    |ok M=>
     rw[g]at h
     have j: [(⟨k,x,p+Lx.skipN false l⟩:Tk)]++M=L:=by injection h
     subst j
     intro a b
     rcases List.mem_append.1 b with b|b
     ·rw[List.mem_singleton.1 b];exact tok_gt c r k x n _ i
     ·exact toks_gt f _ _ M g a b
theorem gt_of {s:ByteArray} {L:List Tk} (h:Lx.tokAll s= .ok L):∀a∈L,Gt a:=by
 unfold Lx.tokAll at h
 split at h
 ·cases h
 ·exact toks_gt _ _ _ L h
end
section
open Lx (Tk isDigit isLetter inWord spanN isPrint)
abbrev Kt:=Nat×List UInt8
def er (a:Tk):Kt:=(a.kind,a.text)
def LexP (P:List UInt8→Prop) (l:List UInt8) (K:List Kt):Prop:=∀(b:List UInt8) (p:Nat),P b→∃ts:List Tk,ts.map er=K∧Lx.T (l++b) p=(Lx.T b (p+l.length)).pre ts
def Any (_:List UInt8):Prop:=True
def NoW (b:List UInt8):Prop:=Lx.headW b=false
def iE (b:List UInt8):Prop:=b= []∨∃c t,b=c::t∧(c=32∨c=41∨c=44∨c=59∨c=10)
theorem iE.now {b:List UInt8} (h:iE b):NoW b:=by
 rcases h with rfl|⟨c,t,rfl,rfl|rfl|rfl|rfl|rfl⟩<;>rfl
theorem jk {P:List UInt8→Prop} :LexP P [] []:=fun b p _=>⟨[],rfl,by cases h:Lx.T b p<;>simp[h,Lx.Ls.pre]⟩
theorem LexP.cat {P Q:List UInt8→Prop} {l m:List UInt8} {K H:List Kt} (h:LexP P l K) (k:LexP Q m H) (hp:∀b,Q b→P (m++b)):LexP Q (l++m) (K++H):=fun b p a=>by
 obtain⟨ts,e,f⟩:=h (m++b) p (hp b a)
 obtain⟨j,g,i⟩:=k b (p+l.length) a
 refine⟨ts++j,by rw[List.map_append,e,g],?_⟩
 rw[List.append_assoc,f,i,Lx.pre_pre,List.length_append,Nat.add_assoc]
theorem LexP.imp {P Q:List UInt8→Prop} {l:List UInt8} {K:List Kt} (h:LexP P l K) (hp:∀b,Q b→P b):LexP Q l K:=fun b p a=>h b p (hp b a)
theorem eP {P:List UInt8→Prop} {c:UInt8} {r:List UInt8} {k:Nat} {x:List UInt8} (hs:∀b,P b→Lx.skipN false (c::(r++b))=0) (f:∀b,P b→Lx.tokL (c::(r++b))= .tok k x (r.length+1)):LexP P (c::r) [(k,x)]:=fun b p a=>by
 refine⟨[⟨k,x,p⟩],rfl,?_⟩
 rw[List.cons_append,Lx.T_tok _ p c (r++b) k x _ (by rw[hs b a];rfl) (f b a),hs b a]
 have e:(c::(r++b)).drop (r.length+1)=b:=by simp
 rw[e]
 rfl
theorem aE:LexP Any [32] []:=fun b p _=>by
 refine⟨[],rfl,?_⟩
 have e:Lx.T ([32]++b) p=Lx.T b (p+1):=by
  have h:Lx.skipN false ([32]++b)=Lx.skipN false b+1:=by simp[Lx.skipN]
  refine Lx.T_skip _ _ _ _ ?_ (by omega)
  rw[h];rfl
 rw[e]
 show _=(Lx.T b (p+1)).pre []
 cases Lx.T b (p+1)<;>rfl
theorem bH {c:UInt8} (a:c=40∨c=41∨c=44∨c=46∨c=42∨c=43∨c=47∨c=37∨c=59∨c=61):LexP Any [c] [(5,[c])]:=by
 have h:isLetter c=false∧isDigit c=false∧¬c.toNat=39∧c∈Lx.syms∧¬c=60∧¬c=62∧¬(c.toNat=32∨c.toNat=9∨c.toNat=10)∧¬c.toNat=45:=by
  rcases a with rfl|rfl|rfl|rfl|rfl|rfl|rfl|rfl|rfl|rfl<;>decide
 refine eP (fun b _=>?_) (fun b _=>?_)
 ·show Lx.skipN false (c::b)=0
  rw[Lx.skipN,if_neg h.2.2.2.2.2.2.1,if_neg (fun e=>h.2.2.2.2.2.2.2 e.1)]
 ·show Lx.tokL (c::b)=_
  rw[Lx.tokL,h.1,h.2.1]
  rw[if_neg (by simp),if_neg (by simp),if_neg h.2.2.1]
  have e:Lx.symN (c::b)=1:=by
   cases b with
   |nil=>rw[Lx.symN,if_pos h.2.2.2.1]
   |cons d r=>rw[Lx.symN,if_neg (by rintro(e|e|e);exact h.2.2.2.2.1 e.1;exact h.2.2.2.2.1 e.1;exact h.2.2.2.2.2.1 e.1),if_pos h.2.2.2.1]
  unfold Lx.symL
  rw[e]
  rfl
theorem j1:LexP (fun b=>b.head?≠some 45) [45] [(5,[45])]:=by
 refine eP (fun b a=>?_) (fun b a=>?_)
 ·show Lx.skipN false (45::b)=0
  rw[Lx.skipN,if_neg (by decide),if_neg (fun e=>a e.2)]
 ·show Lx.tokL (45::b)=_
  rw[Lx.tokL,if_neg (by decide),if_neg (by decide),if_neg (by decide)]
  have e:Lx.symN (45::b)=1:=by
   cases b with
   |nil=>rfl
   |cons d r=>rw[Lx.symN,if_neg (by rintro(e|e|e);exact absurd e.1 (by decide);exact absurd e.1 (by decide);exact absurd e.1 (by decide)),if_pos (by decide)]
  unfold Lx.symL
  rw[e]
  rfl
theorem lex_ang {c:UInt8} (f:c=60∨c=62):LexP (fun b=>b.head? =some 32) [c] [(5,[c])]:=by
 refine eP (fun b a=>?_) (fun b a=>?_)
 ·show Lx.skipN false (c::b)=0
  rcases f with rfl|rfl<;> (rw[Lx.skipN,if_neg (by decide),if_neg (fun e=>absurd e.1 (by decide))])
 ·cases b with
  |nil=>cases a
  |cons d r=>
   simp at a
   subst a
   show Lx.tokL (c::32::r)=_
   rcases f with rfl|rfl<;>
   ·rw[Lx.tokL,if_neg (by decide),if_neg (by decide),if_neg (by decide)]
    unfold Lx.symL
    have e:∀x:UInt8,x=60∨x=62→Lx.symN (x::32::r)=1:=fun x g=>by
     rcases g with rfl|rfl<;> (rw[Lx.symN,if_neg (by decide),if_pos (by decide)])
    rw[e _ (by decide)]
    rfl
theorem oo {c d:UInt8} (a:(c=60∧d=62)∨(c=60∧d=61)∨(c=62∧d=61)):LexP Any [c,d] [(5,[c,d])]:=by
 refine eP (fun b f=>?_) (fun b f=>?_)
 ·show Lx.skipN false (c::d::b)=0
  rcases a with ⟨rfl,rfl⟩|⟨rfl,rfl⟩|⟨rfl,rfl⟩<;> (rw[Lx.skipN,if_neg (by decide),if_neg (fun e=>absurd e.1 (by decide))])
 ·show Lx.tokL (c::d::b)=_
  rcases a with ⟨rfl,rfl⟩|⟨rfl,rfl⟩|⟨rfl,rfl⟩<;>
  ·rw[Lx.tokL,if_neg (by decide),if_neg (by decide),if_neg (by decide)]
   unfold Lx.symL
   have e:∀x y:UInt8,(x=60∧y=62)∨(x=60∧y=61)∨(x=62∧y=61)→Lx.symN (x::y::b)=2:=fun x y g=>by rw[Lx.symN,if_pos g]
   rw[e _ _ (by decide)]
   rfl
theorem gX (f:UInt8→Bool):∀(l b:List UInt8),(∀c∈l,f c=true)→(b= []∨∃c t,b=c::t∧f c=false)→spanN f (l++b)=l.length
 | [],b,_,hb=>by
  rcases hb with rfl|⟨c,t,rfl,h⟩
  ·rfl
  ·simp[spanN,h]
 |a::l,b,hl,hb=>by
  rw[List.cons_append,spanN,if_pos (hl a List.mem_cons_self),gX f l b (fun c e=>hl c (List.mem_cons_of_mem _ e)) hb,List.length_cons]
theorem mh {b:List UInt8} (h:NoW b):b= []∨∃c t,b=c::t∧inWord c=false:=by
 cases b with
 |nil=>exact .inl rfl
 |cons c t=>exact .inr ⟨c,t,rfl,h⟩
theorem mi {l:List UInt8} (h:Lx.nameP l=true):LexP NoW l [(1,l)]:=by
 cases l with
 |nil=>cases h
 |cons c r=>
  unfold Lx.nameP at h
  simp only[Bool.and_eq_true,decide_eq_true_eq,List.all_eq_true,Bool.not_eq_true']at h
  obtain⟨⟨⟨m,n⟩,e⟩,g⟩:=h
  have f:isLetter c=true:=by unfold isLetter;grind
  have j:(c::r).map Lx.loC=c::r:=by
   conv=>rhs;rw[←List.map_id (c::r)]
   exact List.map_congr_left fun x a=> (Lx.low_word x (e x a)).2
  refine eP (fun b _=>Lx.letter_skip c _ f) (fun b i=>?_)
  have hs:spanN inWord (c::(r++b))=(c::r).length:=gX inWord (c::r) b (fun x a=> (Lx.low_word x (e x a)).1) (mh i)
  have k:(c::(r++b)).take (c::r).length=c::r:=List.take_left' (l₁:=c::r) rfl
  rw[Lx.tokL,if_pos f]
  unfold Lx.wordL
  rw[hs,k,g,if_neg (by decide),if_neg (by omega),j]
  rfl
theorem cf {l:List UInt8} (h:l∈Lx.kwNames):LexP NoW l [(2,l)]:=by
 obtain⟨g,a⟩:=Lx.kw_letters l h
 have up:∀k∈Lx.kwNames,k.map Lx.upC=k:=by decide+kernel
 have f:=up l h
 cases l with
 |nil=>exact absurd rfl g
 |cons c r=>
  have e:=a c List.mem_cons_self
  refine eP (fun b _=>Lx.letter_skip c _ e) (fun b i=>?_)
  have hs:spanN inWord (c::(r++b))=(c::r).length:=gX inWord (c::r) b (fun x n=>Lx.letter_word x (a x n)) (mh i)
  have m:(c::(r++b)).take (c::r).length=c::r:=List.take_left' (l₁:=c::r) rfl
  rw[Lx.tokL,if_pos e]
  unfold Lx.wordL
  have j:Lx.isKw (c::r)=true:=by unfold Lx.isKw;rw[f];exact decide_eq_true h
  rw[hs,m,j,if_pos rfl,f]
  rfl
theorem dig_word (c:UInt8) (h:isDigit c=true):inWord c=true:=by unfold inWord;rw[h];simp
theorem now_dig {b:List UInt8} (h:NoW b):b= []∨∃c t,b=c::t∧isDigit c=false:=by
 rcases mh h with rfl|⟨c,t,rfl,hc⟩
 ·exact .inl rfl
 ·refine .inr ⟨c,t,rfl,?_⟩
  cases hd:isDigit c with
  |false=>rfl
  |true=>rw[dig_word c hd]at hc;cases hc
theorem qO {c:UInt8} {r:List UInt8} (hd:∀x∈c::r,isDigit x=true) (k:r≠[]→c≠48) (o:Lx.digVal (c::r)≤2147483648):LexP NoW (c::r) [(3,c::r)]:=by
 have a:=hd c List.mem_cons_self
 have l:48≤c.toNat∧c.toNat≤57:=by
  unfold isDigit at a
  simpa using a
 have m:isLetter c=false:=by
  unfold isLetter
  simp
  omega
 refine eP (fun b _=>?_) (fun b i=>?_)
 ·rw[Lx.skipN,if_neg (by omega),if_neg (by omega)]
 ·have hs:spanN isDigit (c::(r++b))=(c::r).length:=gX isDigit (c::r) b hd (now_dig i)
  have n:(c::(r++b)).take (c::r).length=c::r:=List.take_left' (l₁:=c::r) rfl
  have f:(c::(r++b)).drop (c::r).length=b:=List.drop_left' (l₁:=c::r) rfl
  rw[Lx.tokL,m,if_neg (by decide),if_pos a]
  unfold Lx.numL
  rw[hs,n,f,if_neg,if_neg (by omega)]
  ·rfl
  ·rintro(⟨j,g⟩|e)
   ·simp at g
    cases r with
    |nil=>simp at j
    |cons d r=>exact k (by simp) g
   ·rw[show Lx.headW b=false from i]at e;cases e
theorem j3:∀(l X:List UInt8) (i:Nat) (b:List UInt8),(∀c∈l,isPrint c=true)→b.head?≠some 39→Lx.litF (Lx.flat l++39::b) X i=some (X++l,i+(Lx.flat l).length+1)
 | [],X,i,b,_,hb=>by
  rw[Lx.flat,List.nil_append,Lx.lit_cons,if_neg (by decide),if_pos (by decide),List.append_nil]
  cases b with
  |nil=>rfl
  |cons d r=>
   have hd:¬d.toNat=39:=fun e=>hb (by rw[List.head?_cons,Lx.num_ext d 39 e])
   simp only
   rw[if_neg hd]
   rfl
 |c::r,X,i,b,h,hb=>by
  have f:=h c List.mem_cons_self
  have g:∀x∈r,isPrint x=true:=fun x j=>h x (List.mem_cons_of_mem _ j)
  rw[Lx.flat]
  by_cases a:c.toNat=39
  ·rw[if_pos a,List.cons_append,List.cons_append,Lx.lit_cons,f,if_neg (by decide),if_pos a]
   show(if c.toNat=39 then Lx.litF (Lx.flat r++39::b) (X++ [c]) (i+1+1)else some (X,i+1))=_
   rw[if_pos a,j3 r (X++ [c]) (i+1+1) b g hb,List.append_assoc]
   simp only[List.length_cons,List.singleton_append,Option.some.injEq,Prod.mk.injEq,true_and]
   omega
  ·rw[if_neg a,List.cons_append,Lx.lit_cons,f,if_neg (by decide),if_neg a,j3 r (X++ [c]) (i+1) b g hb,List.append_assoc]
   simp only[List.length_cons,List.singleton_append,Option.some.injEq,Prod.mk.injEq,true_and]
   omega
theorem lex_text {l:List UInt8} (h:∀c∈l,isPrint c=true) (f:l.length≤16):LexP (fun b=>b.head?≠some 39) (39::(Lx.flat l++ [39])) [(4,l)]:=by
 refine eP (fun b _=>?_) (fun b a=>?_)
 ·rw[Lx.skipN,if_neg (by decide),if_neg (fun e=>absurd e.1 (by decide))]
 ·rw[Lx.tokL,if_neg (by decide),if_neg (by decide),if_pos (by decide)]
  unfold Lx.textL
  have e:Lx.flat l++ [39]++b=Lx.flat l++39::b:=by simp
  rw[e,j3 l [] 1 b h a]
  simp only[List.nil_append,List.length_append,List.length_cons,List.length_nil]
  rw[if_neg (by omega)]
  congr 1
  omega
theorem dv_snoc (l:List UInt8) (c:UInt8):Lx.digVal (l++ [c])=10*Lx.digVal l+(c.toNat-48):=by
 unfold Lx.digVal
 rw[List.foldl_append]
 rfl
theorem dig_of {n:Nat} (h:n<10):(UInt8.ofNat (48+n)).toNat=48+n:=by
 rw[UInt8.toNat_ofNat']
 omega
theorem gY:∀u:Nat,(∀x∈Lib.decDigits u,isDigit x=true)∧Lx.digVal (Lib.decDigits u)=u∧(∃c r,Lib.decDigits u=c::r∧(r≠[]→c≠48)∧(u≠0→c≠48)):=by
 intro u
 induction u using Nat.strongRecOn with
 |ind u ih=>
  rw[Lib.decDigits]
  by_cases h:u<10
  ·rw[dif_pos h]
   have e:=dig_of h
   refine⟨fun x a=>?_,?_,⟨_,[],rfl,by simp,fun k f=>?_⟩⟩
   ·rw[List.mem_singleton.1 a]
    unfold isDigit
    rw[e]
    simp
    omega
   ·show 10*0+(_-48)=_
    rw[e]
    omega
   ·rw[f]at e
    have:(48:UInt8).toNat=48:=rfl
    omega
  ·rw[dif_neg h]
   obtain⟨g,i,c,r,j,l,b⟩:=ih (u/10) (by omega)
   have e:=dig_of (n:=u%10) (by omega)
   refine⟨fun x a=>?_,?_,⟨c,r++ [UInt8.ofNat (48+u%10)],by rw[j];rfl,fun _=>b (by omega),fun _=>b (by omega)⟩⟩
   ·rcases List.mem_append.1 a with a|a
    ·exact g x a
    ·rw[List.mem_singleton.1 a]
     unfold isDigit
     rw[e]
     simp
     omega
   ·rw[dv_snoc,i,e]
    omega
theorem jm {n:Int} (h:0≤n):(itoB n).data.toList=Lib.decDigits n.toNat:=by
 obtain⟨u,rfl⟩:=Int.eq_ofNat_of_zero_le h
 unfold itoB Lib.itoa
 rw[if_neg (by omega)]
theorem jn {n:Int} (g:0≤n) (i:n≤2147483648):LexP NoW (itoB n).data.toList [(3,(itoB n).data.toList)]:=by
 obtain⟨b,e,c,r,a,f,_⟩:=gY n.toNat
 rw[jm g,a]
 refine qO (by rw[←a];exact b) f ?_
 rw[←a,e]
 omega
theorem mj {n:Int} (a:0≤n):fc (itoB n)=n:=by
 unfold fc
 rw[jm a,(gY n.toNat).2.1]
 omega
theorem print_of {s:ByteArray} (h:eF s=true):(∀c∈s.data.toList,isPrint c=true)∧s.data.toList.length≤16:=by
 unfold eF at h
 simp only[Bool.and_eq_true,List.all_eq_true,decide_eq_true_eq]at h
 refine⟨fun c a=>?_,h.2⟩
 have:=h.1 c.toNat (List.mem_map_of_mem a)
 unfold isPrint
 simpa using this
theorem flat_quo (l:List UInt8):quo l=Lx.flat l:=by
 induction l with
 |nil=>rfl
 |cons c r ih=>
  rw[quo,Lx.flat,ih]
  by_cases h:c=39
  ·subst h
   rw[if_pos rfl,if_pos (by decide)]
  ·have a:¬c.toNat=39:=fun e=>h (Lx.num_ext c 39 e)
   rw[if_neg h,if_neg a]
end
section
open Lx (Tk isDigit isLetter inWord spanN isPrint)
def brK (op:Int) (K:List Kt) (r:Int):List Kt:=if lvl op<r then (5,[40])::(K++ [(5,[41])])else K
def sgK (op:Int):Kt:=(if op=16∨op=18∨op=19 then 2 else 5,(sgn op).data.toList)
def tkD (d:Nd) (xs:List (Int×List Kt)):List Kt:=
 let x:=xs.getD 0 (0,[])
 let y:=xs.getD 1 (0,[])
 if d.op=1 then (if d.vk=1 then [(3,(itoB d.vi).data.toList)]else if d.vk=2 then [(4,d.vt.data.toList)]else [(2,[78,85,76,76])])
 else if d.op=2 then (if d.tb.size=0 then [(1,d.nm.data.toList)]else [(1,d.tb.data.toList),(5,[46]),(1,d.nm.data.toList)])
 else if d.op=3 then (5,[45])::brK x.1 x.2 8
 else if d.op=9 then (2,[76,69,78,71,84,72])::(5,[40])::(brK x.1 x.2 1++ [(5,[41])])
 else if d.op=17 then brK x.1 x.2 5++ [(2,[73,83]),(2,[78,85,76,76])]
 else if d.op=20 then (2,[78,79,84])::brK x.1 x.2 3
 else brK x.1 x.2 (if lvl d.op=4 then 5 else lvl d.op)++sgK d.op::brK y.1 y.2 (lvl d.op+1)
mutual
def Ex.tkp:Ex→List Kt
 | .mk d ks=>tkD d (tkpL ks)
def tkpL:List Ex→List (Int×List Kt)
 | []=> []
 |e::es=> (e.d.op,e.tkp)::tkpL es
end
def Ex.tk (e:Ex) (r:Int):List Kt:=brK e.d.op e.tkp r
mutual
def Ex.st0:Ex→Ex
 | .mk d ks=> .mk { d with ix:=0 } (iF ks)
def iF:List Ex→List Ex
 | []=> []
 |e::es=>e.st0::iF es
end
theorem jo:∀e:Ex,e.st0.same e=true:=by
 intro e
 induction e using Ex.ind with
 |h d ks ih=>
  rw[Ex.st0,Ex.same]
  have:sameL (iF ks) ks=true:=by
   clear d
   induction ks with
   |nil=>rfl
   |cons a l ih2=>rw[iF,sameL,ih a (by simp),ih2 fun e b=>ih e (by simp[b])];rfl
  rw[this]
  simp[Nd.same]
theorem cY {s:ByteArray} (h:s.size=0):s=⟨#[]⟩:=by
 cases s with
 |mk a=>exact congrArg ByteArray.mk (Array.eq_empty_of_size_eq_zero h)
def ctl (a:Kt):Nat:=
 if a.1=2∨a.1=5 then
  (if a.2= [79,82]then 1 else if a.2= [65,78,68]then 2
  else if a.2= [61]∨a.2= [60,62]∨a.2= [60]∨a.2= [60,61]∨a.2= [62]∨a.2= [62,61]∨a.2= [73,83]∨a.2= [78,79,84]∨a.2= [76,73,75,69]∨a.2= [66,69,84,87,69,69,78]∨a.2= [73,78]then 4
  else if a.2= [43]∨a.2= [45]then 5 else if a.2= [42]∨a.2= [47]∨a.2= [37]then 6 else if a.2= [46]then 9 else 0)
 else 0
def Ps.c (s:Ps):Nat:=ctl (er s.hd)
theorem isS_ctl {t:ByteArray} {s:Ps} (h:isS t s=true):s.c=ctl (2,t.data.toList):=by
 obtain⟨_,a,l,g,i,j,_⟩:=cu h
 have e:s.hd=a:=by unfold Ps.hd;rw[g];rfl
 unfold Ps.c
 rw[e,←j]
 have b:∀(k:Nat) (x:List UInt8),(k=2∨k=5)→ctl (k,x)=ctl (2,x):=fun k x m=>by
  rcases m with rfl|rfl<;>rfl
 have f:(tkB a).data.toList=a.text:=by simp[tkB]
 rw[f]
 exact b _ _ i
theorem kM {t:ByteArray} {s:Ps} (h:s.c≠ctl (2,t.data.toList)):isS t s=false:=by
 cases hi:isS t s with
 |false=>rfl
 |true=>exact absurd (isS_ctl hi) h
theorem ec {a:Nat} :∀ {ops:List (ByteArray×Int)},(∀x∈ops,ctl (2,x.1.data.toList)=a)→∀ {s:Ps},s.c≠a→firstP ops s=(none,s)
 | [],_,_,_=>rfl
 |(t,o)::l,h,s,hs=>by
  rw[firstP,if_neg]
  ·exact ec (fun x b=>h x (List.mem_cons_of_mem _ b)) hs
  ·rw[kM (by rw[h (t,o) List.mem_cons_self];exact hs)]
   simp
theorem cG {k:Nat} (f:k=2∨k=5) (t:ByteArray) {a:Tk} (h:er a=(k,t.data.toList)) (R:List Tk):isS t ⟨a::R,false⟩=true:=by
 have b:a.kind=k:=congrArg Prod.fst h
 have e:a.text=t.data.toList:=congrArg Prod.snd h
 unfold isS Ps.hd tkB
 simp only[List.headD_cons,b,e]
 rcases f with rfl|rfl<;>simp
theorem dR {k:Nat} {x:List UInt8} (t:ByteArray) {a:Tk} (h:er a=(k,x)) (b:(k≠2∧k≠5)∨x≠t.data.toList) (R:List Tk):isS t ⟨a::R,false⟩=false:=by
 have f:a.kind=k:=congrArg Prod.fst h
 have g:a.text=x:=congrArg Prod.snd h
 unfold isS Ps.hd tkB
 simp only[List.headD_cons,f,g]
 rcases b with b|b
 ·simp[b.1,b.2]
 ·have:¬(ByteArray.mk x.toArray=t):=fun e=>b (by rw[←e])
  simp[this]
theorem cm {k:Nat} {x:List UInt8} {a:Tk} (h:er a=(k,x)) (q:Nat) (R:List Tk):hasK q ⟨a::R,false⟩=(k==q):=by
 have b:a.kind=k:=congrArg Prod.fst h
 unfold hasK Ps.hd
 simp[b]
theorem next_at (a:Tk) (R:List Tk):(⟨a::R,false⟩:Ps).next=⟨R,false⟩:=rfl
theorem tkB_at {k:Nat} {x:List UInt8} {a:Tk} (h:er a=(k,x)) (R:List Tk) (b:Bool):tkB (⟨a::R,b⟩:Ps).hd=⟨x.toArray⟩:=by
 have e:a.text=x:=congrArg Prod.snd h
 unfold tkB Ps.hd
 simp[e]
theorem j4 {k:Nat} {x:List UInt8} {a:Tk} (h:er a=(k,x)) (R:List Tk) (b:Bool):(⟨a::R,b⟩:Ps).c=ctl (k,x):=by
 unfold Ps.c Ps.hd
 simp only[List.headD_cons,h]
theorem bS (s:ByteArray):(⟨s.data.toList.toArray⟩:ByteArray)=s:=by cases s;simp
theorem iG {el:M Ex} (h:Fwd el) (ops:List (ByteArray×Int)):∀(n m:Nat) (e:Ex) (s:Ps),s.r.length<n→s.r.length<m→aX el ops n e s=aX el ops m e s
 |0,_,_,s,h1,_=>absurd h1 (Nat.not_lt_zero _)
 |_+1,0,_,s,_,h2=>absurd h2 (Nat.not_lt_zero _)
 |n+1,m+1,e,s,h1,h2=>by
  rw[aX,aX]
  cases a:(firstP ops s).1 with
  |none=>rfl
  |some o=>
   have b:=ip a
   have f:=h (firstP ops s).2
   exact iG h ops n m _ _ (by omega) (by omega)
def chC (el:M Ex) (ops:List (ByteArray×Int)) (e:Ex) (s:Ps):Ex×Ps:=aX el ops (s.r.length+1) e s
theorem jp {el:M Ex} (h:Fwd el) (ops:List (ByteArray×Int)) (s:Ps):chainP el ops s=chC el ops (el s).1 (el s).2:=
 iG h ops _ _ _ _ (by have:=h s;omega) (Nat.lt_succ_self _)
theorem jq {el:M Ex} (h:Fwd el) {ops:List (ByteArray×Int)} {s t:Ps} {o:Int} (f:firstP ops s=(some o,t)) (e:Ex):chC el ops e s=chC el ops (opE o [e,(el t).1]) (el t).2:=by
 have a:(firstP ops s).1=some o:=by rw[f]
 have b:(firstP ops s).2=t:=by rw[f]
 have g:=ip a
 have i:=h t
 rw[b]at g
 unfold chC
 rw[aX,a,b]
 exact iG h ops _ _ _ _ (by omega) (Nat.lt_succ_self _)
theorem jr (el:M Ex) {ops:List (ByteArray×Int)} {s:Ps} (a:firstP ops s=(none,s)) (e:Ex):chC el ops e s=(e,s):=by
 unfold chC
 rw[aX,a]
theorem notP_not {p:M Ex} (h:Fwd p) {s:Ps} (hi:isS kNOT s=true):notP p s=(opE 20 [(notP p s.next).1],(notP p s.next).2):=by
 have a:=ay hi
 unfold notP
 rw[←a,notGo,if_pos hi]
theorem notP_test (p:M Ex) {s:Ps} (hi:isS kNOT s=false):notP p s=testP p s:=by
 unfold notP
 cases s.r.length with
 |zero=>rfl
 |succ n=>rw[notGo,hi,if_neg (by simp)]
def lvM (p:M Ex):Nat→M Ex
 |1=>orP p
 |2=>andP p
 |3=>notP p
 |4=>testP p
 |5=>sumP p
 |6=>proP p
 |7=>dL p
 |_=>p
def cnt (p:M Ex):Nat→Ex→Ps→Ex×Ps
 |1=>chC (andP p) opsOr
 |2=>chC (notP p) opsAnd
 |5=>chC (proP p) opsSum
 |6=>chC (dL p) opsPro
 |_=>fun e s=> (e,s)
theorem lv_or:∀x∈opsOr,ctl (2,x.1.data.toList)=1:=by decide
theorem lv_and:∀x∈opsAnd,ctl (2,x.1.data.toList)=2:=by decide
theorem lv_cmp:∀x∈opsCmp,ctl (2,x.1.data.toList)=4:=by decide
theorem lv_sum:∀x∈opsSum,ctl (2,x.1.data.toList)=5:=by decide
theorem lv_pro:∀x∈opsPro,ctl (2,x.1.data.toList)=6:=by decide
theorem ca (p:M Ex) {r:Nat} {s:Ps} (h:s.c≠r) (e:Ex):cnt p r e s=(e,s):=by
 unfold cnt
 split
 ·exact jr _ (ec lv_or h) e
 ·exact jr _ (ec lv_and h) e
 ·exact jr _ (ec lv_sum h) e
 ·exact jr _ (ec lv_pro h) e
 ·rfl
section
variable {p:M Ex} (hp:Fwd p)
include hp
theorem oq:∀r,Fwd (lvM p r)
 |1=>fwd_or hp
 |2=>kF hp
 |3=>fun s=>gL hp _ s
 |4=>lf hp
 |5=>fy hp
 |6=>dX (i6 hp) _
 |7=>i6 hp
 |0=>hp
 |_+8=>hp
omit hp in
theorem tail_stop {b:M Ex} {s:Ps} (h:s.c≠4) (a:Ex):de b a s=(a,s):=by
 unfold de
 have n:∀t:ByteArray,ctl (2,t.data.toList)=4→isS t s=false:=fun t f=>kM (by rw[f];exact h)
 have e:optP kNOT s=s:=by unfold optP;rw[n kNOT (by decide),if_neg (by simp)]
 rw[ec lv_cmp h]
 simp only[e,n kIS (by decide),n kLIKE (by decide),n iW (by decide),n kIN (by decide),n kNOT (by decide)]
 simp
theorem lv_down {r:Nat} (a:1≤r) (b:r≤7) {s t:Ps} {x:Ex} (h:lvM p (r+1) s=(x,t)) (i:t.c≤r) (e:r=4→t.c≠4) (g:r=3→isS kNOT s=false) (f:r=7→isS du s=false):lvM p r s=cnt p r x t:=by
 match r,a,b with
 |1,_,_=>show chainP (andP p) opsOr s=chC (andP p) opsOr x t;rw[jp (kF hp)];show chC _ _ (lvM p 2 s).1 (lvM p 2 s).2=_;rw[h]
 |2,_,_=>show chainP (notP p) opsAnd s=chC (notP p) opsAnd x t;rw[jp (el:=notP p) (oq hp 3)];show chC _ _ (lvM p 3 s).1 (lvM p 3 s).2=_;rw[h]
 |3,_,_=>show notP p s=(x,t);rw[notP_test p (g rfl)];exact h
 |4,_,_=>
  show de (sumP p) (lvM p 5 s).1 (lvM p 5 s).2=(x,t)
  rw[h]
  exact tail_stop (e rfl) x
 |5,_,_=>show chainP (proP p) opsSum s=chC (proP p) opsSum x t;rw[jp (el:=proP p) (oq hp 6)];show chC _ _ (lvM p 6 s).1 (lvM p 6 s).2=_;rw[h]
 |6,_,_=>show chainP (dL p) opsPro s=chC (dL p) opsPro x t;rw[jp (el:=dL p) (oq hp 7)];show chC _ _ (lvM p 7 s).1 (lvM p 7 s).2=_;rw[h]
 |7,_,_=>
  show dL p s=(x,t)
  unfold dL
  rw[f rfl,if_neg (by simp)]
  exact h
theorem nx:∀(k r:Nat),1≤r→r+k+1≤8→∀ {s t:Ps} {x:Ex},lvM p (r+k+1) s=(x,t)→t.c≤r→(r=4→t.c≠4)→(r≤3→3<r+k+1→isS kNOT s=false)→(7<r+k+1→isS du s=false)→lvM p r s=cnt p r x t
 |0,r,h1,h2,s,t,x,h,hc,h4,hn,hm=>lv_down hp h1 (by omega) h hc h4 (fun e=>hn (by omega) (by omega)) (fun e=>hm (by omega))
 |k+1,r,h1,h2,s,t,x,h,hc,h4,hn,hm=>by
  have f:lvM p (r+1) s=cnt p (r+1) x t:=nx k (r+1) (by omega) (by omega) (by rw[show r+1+k+1=r+(k+1)+1 by omega];exact h) (by omega) (fun e=>by omega) (fun a b=>hn (by omega) (by omega)) (fun a=>hm (by omega))
  rw[ca p (by omega)]at f
  exact lv_down hp h1 (by omega) f hc h4 (fun e=>hn (by omega) (by omega)) (fun e=>hm (by omega))
theorem lv_from {q r:Nat} (a:1≤r) (j:r<q) (b:q≤8) {s t:Ps} {x:Ex} (h:lvM p q s=(x,t)) (f:t.c≤r) (e:r=4→t.c≠4) (i:r≤3→3<q→isS kNOT s=false) (g:7<q→isS du s=false):lvM p r s=cnt p r x t:=by
 obtain⟨k,rfl⟩:∃k,q=r+k+1:=⟨q-r-1,by omega⟩
 exact nx hp k r a b h f e i g
end
end
end Go.Proofs.YtjigcpfjhfoheaaGreatDoor
