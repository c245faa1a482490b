/- What the parser reads is well-formed and unbound, unless it has failed; The tokens of a text are good: words are names, texts can be printed, numbers fit; The tokens of canonical texts of expressions; no program in sight; The pars. -/
import Derived.Test.YtjigcpfjhfoheaaGreatDoorEbi
import Derived.Test.YtjigcpfjhfoheaaGreatDoorEbc
import Derived.Test.YtjigcpfjhfoheaaGreatDoorEab
import Derived.Test.YtjigcpfjhfoheaaGreatDoorEaa
import Derived.Test.YtjigcpfjhfoheaaGreatDoorEaf
import Derived.Test.YtjigcpfjhfoheaaGreatDoorEbg
namespace Go.Proofs.YtjigcpfjhfoheaaGreatDoor
open Go.RowKit
set_option maxHeartbeats 1000000
set_option maxRecDepth 100000
set_option linter.unusedVariables false
set_option linter.unusedSimpArgs false
section
open Lx (Tk)
mutual
def Ex.unb:Ex→Bool
 | .mk d ks=>d.ix==0&&unbL ks
def unbL:List Ex→Bool
 | []=>true
 |e::es=>e.unb&&unbL es
end
theorem unbL_all (l:List Ex):unbL l=l.all Ex.unb:=by
 induction l with
 |nil=>rfl
 |cons e l ih=>rw[unbL,ih];rfl
structure Gt (a:Tk):Prop where
 nm:a.kind=1→nameB (tkB a)=true
 num:a.kind=3→digV (tkB a)≤2147483648
 txt:a.kind=4→textB (tkB a)=true
def Gs (B:Nat) (s:Ps):Prop:=s.r.length<B∧∀a∈s.r,Gt a
def Yld {α:Type} (B:Nat) (Q:α→Prop) (m:M α):Prop:=∀s,Gs B s→Gs B (m s).2∧((m s).2.bad=false→Q (m s).1)
section
variable {B:Nat}
theorem Gs.next {s:Ps} (h:Gs B s):Gs B s.next:=⟨Nat.lt_of_le_of_lt (next_len s) h.1,fun a ha=>h.2 a (List.mem_of_mem_tail ha)⟩
theorem Gs.fail {s:Ps} (h:Gs B s):Gs B s.fail:=h
theorem Gs.need {s:Ps} (h:Gs B s) (t:ByteArray):Gs B (needP t s):=by
 unfold needP
 split
 ·exact h.next
 ·exact h
theorem Gs.opt {s:Ps} (h:Gs B s) (t:ByteArray):Gs B (optP t s):=by
 unfold optP
 split
 ·exact h.next
 ·exact h
theorem Gs.first (l:List (ByteArray×Int)):∀ {s:Ps},Gs B s→Gs B (firstP l s).2:=by
 induction l with
 |nil=>intro s h;exact h
 |cons a l ih=>
  intro s h
  rw[firstP]
  split
  ·exact h.next
  ·exact ih h
theorem Gs.hd {s:Ps} (h:Gs B s) {k:Nat} (hk:k≠0) (h2:hasK k s=true):Gt s.hd∧s.hd.kind=k:=by
 obtain⟨_,a,l,h3,h4,_⟩:=hasK_cons hk h2
 have e:s.hd=a:=by unfold Ps.hd;rw[h3];rfl
 rw[e]
 exact⟨h.2 a (by rw[h3];exact List.mem_cons_self),h4⟩
theorem Gs.tak {s:Ps} (h:Gs B s) (k:Nat):Gs B (takP k s).2:=by
 unfold takP
 split
 ·exact h.next
 ·exact h
theorem not_bad {α:Type} {m:M α} (h:Stk m) {s:Ps} (hb:(m s).2.bad=false):s.bad=false:=by
 cases hs:s.bad with
 |false=>rfl
 |true=>rw[h s hs,hs]at hb;exact hb
section
variable {α β:Type} {Q:α→Prop} {R:β→Prop}
theorem yld_bnd {m:M α} {f:α→M β} (h:Yld B Q m) (hf:∀a,Q a→Yld B R (f a)) (sf:∀a,Stk (f a)):Yld B R (bndM m f):=fun s hs=>by
 unfold bndM
 have h1:=h s hs
 cases hb:(m s).2.bad with
 |true=>
  have h2:=sf (m s).1 (m s).2 hb
  rw[h2]
  exact⟨h1.1,fun h3=>by rw[hb]at h3;cases h3⟩
 |false=>exact hf _ (h1.2 hb) _ h1.1
theorem yld_ret {a:α} (h:Q a):Yld B Q (retM a):=fun s hs=>⟨hs,fun _=>h⟩
theorem yld_need (t:ByteArray):Yld B (fun _=>True) (needM t):=fun s hs=>⟨hs.need t,fun _=>trivial⟩
theorem yld_if (t:ByteArray) {m n:M α} (h1:Yld B Q m) (h2:Yld B Q n):Yld B Q (ifM t m n):=fun s hs=>by
 unfold ifM
 split
 ·exact h1 _ hs.next
 ·exact h2 _ hs
theorem yld_fst (ops:List (ByteArray×Int)) {f:Int→M α} {m:M α} (h1:∀o,(∃t,(t,o)∈ops)→Yld B Q (f o)) (h2:Yld B Q m):Yld B Q (fstM ops f m):=fun s hs=>by
 unfold fstM
 cases ho:(firstP ops s).1 with
 |none=>exact h2 _ hs
 |some o=>exact h1 o (first_mem _ _ _ ho) _ (Gs.first _ hs)
theorem Yld.imp {m:M α} {Q':α→Prop} (h:Yld B Q m) (hi:∀a,Q a→Q' a):Yld B Q' m:=fun s hs=>⟨(h s hs).1,fun hb=>hi _ ((h s hs).2 hb)⟩
theorem yld_listGo {el:M α} (h:Yld B Q el) (hst:Stk el):∀(n:Nat) (o:List α) (s:Ps),Gs B s→(s.bad=false→o≠[]∧∀a∈o,Q a)→Gs B (listGo el n o s).2∧((listGo el n o s).2.bad=false→(listGo el n o s).1≠[]∧∀a∈(listGo el n o s).1,Q a)
 |0,_,_,hs,ho=>⟨hs,ho⟩
 |n+1,o,s,hs,ho=>by
  rw[listGo]
  split
  ·next hc=>
   have hb:=(isS_cons hc).1
   have h1:=h s.next hs.next
   refine yld_listGo h hst n _ _ h1.1 fun h2=>⟨by simp,fun a ha=>?_⟩
   rcases List.mem_append.1 ha with ha|ha
   ·exact(ho hb).2 a ha
   ·rw[List.mem_singleton.1 ha];exact h1.2 h2
  ·exact⟨hs,ho⟩
theorem yld_list {el:M α} (h:Yld B Q el) (hst:Stk el):Yld B (fun l=>l≠[]∧∀a∈l,Q a) (listP el):=fun s hs=>by
 unfold listP
 have h1:=h s hs
 exact yld_listGo h hst _ _ _ h1.1 fun hb=>⟨by simp,fun a ha=>by rw[List.mem_singleton.1 ha];exact h1.2 hb⟩
end
theorem yld_tak1:Yld B (fun b=>nameB b=true) (takP 1):=fun s hs=>⟨hs.tak 1,fun hb=>by
 unfold takP at hb ⊢
 split
 ·next h=>exact(hs.hd (by omega) h).1.nm (hs.hd (by omega) h).2
 ·next h=>rw[if_neg h]at hb;cases hb⟩
theorem yld_tak4:Yld B (fun b=>textB b=true) (takP 4):=fun s hs=>⟨hs.tak 4,fun hb=>by
 unfold takP at hb ⊢
 split
 ·next h=>exact(hs.hd (by omega) h).1.txt (hs.hd (by omega) h).2
 ·next h=>rw[if_neg h]at hb;cases hb⟩
theorem digV_nn (b:ByteArray):0≤digV b:=by unfold digV;omega
theorem yld_num:Yld B (fun n=>0≤n∧n≤2147483648) numP:=fun s hs=>⟨hs.tak 3,fun hb=>by
 unfold numP at hb ⊢
 refine⟨digV_nn _,?_⟩
 unfold takP at hb ⊢
 split
 ·next h=>exact(hs.hd (by omega) h).1.num (hs.hd (by omega) h).2
 ·next h=>rw[if_neg h]at hb;cases hb⟩
theorem yld_pos:Yld B (fun n=>1≤n∧n≤2147483648) posP:=fun s hs=>by
 unfold posP
 split
 ·refine⟨(yld_num s.fail hs).1,fun hb=>?_⟩
  have:=not_bad stk_num hb
  cases this
 ·next hc=>
  refine⟨(yld_num s hs).1,fun hb=>?_⟩
  have h1:=(yld_num s hs).2 hb
  refine⟨?_,h1.2⟩
  unfold numP takP at hb ⊢
  split
  ·next h=>simp[h]at hc;have:=digV_nn (tkB s.hd);simp only;omega
  ·next h=>rw[if_neg h]at hb;cases hb
def FQ (e:Ex):Prop:=e.formed=true∧e.unb=true
theorem fq_lit1 {i:Int} (h:0≤i∧i≤2147483648):FQ (litE 1 i ⟨#[]⟩):=by
 refine⟨?_,rfl⟩
 unfold litE
 rw[Ex.formed]
 simp[opN,ndB,formedL,Nd.litB,ByteArray.size,h.1,h.2]
theorem fq_lit2 {t:ByteArray} (h:textB t=true):FQ (litE 2 0 t):=by
 refine⟨?_,rfl⟩
 unfold litE
 rw[Ex.formed]
 simp[opN,ndB,formedL,Nd.litB,ByteArray.size,h]
theorem fq_lit0:FQ (litE 0 0 ⟨#[]⟩):=by
 refine⟨?_,rfl⟩
 unfold litE
 rw[Ex.formed]
 simp[opN,ndB,formedL,Nd.litB,ByteArray.size]
theorem fq_col {t n:ByteArray} (ht:t=⟨#[]⟩∨nameB t=true) (hn:nameB n=true):FQ (colE t n):=by
 refine⟨?_,rfl⟩
 unfold colE
 rw[Ex.formed]
 have e:ndB ⟨2,t,n,0,0,0,⟨#[]⟩⟩ []=true:=by
  unfold ndB
  rw[if_pos rfl]
  rcases ht with rfl|ht
  ·simp only[hn,Bool.true_and]
   rfl
  ·simp only[hn,ht,Bool.or_true,Bool.true_and]
   rfl
 show((opN 2==(0:Int)) &&formedL [] &&ndB ⟨2,t,n,0,0,0,⟨#[]⟩⟩ [])=true
 rw[e]
 rfl
theorem fq_op1 {o:Int} (ho:o=3∨o=9∨o=17∨o=20) {a:Ex} (h:FQ a):FQ (opE o [a]):=by
 refine⟨?_,?_⟩
 ·unfold opE
  rw[Ex.formed]
  have h1:=h.1
  have e:opN o=1:=by unfold opN;rw[if_neg (by omega),if_pos (by omega)]
  have e2:ndB ⟨o,⟨#[]⟩,⟨#[]⟩,0,0,0,⟨#[]⟩⟩ ([a].map Ex.d)=true:=by
   unfold ndB
   rw[if_neg (show¬o=2 by omega),if_neg (show¬o=1 by omega),if_neg (fun h=>by have:o=16:=h.1;omega)]
   rfl
  rw[e2]
  simp[e,formedL,h1]
 ·unfold opE
  rw[Ex.unb]
  simp[unbL,h.2]
theorem fq_op2 {o:Int} (ho:4≤o∧o≤8∨10≤o∧o≤15∨o=18∨o=19) {a b:Ex} (h:FQ a) (k:FQ b):FQ (opE o [a,b]):=by
 refine⟨?_,?_⟩
 ·unfold opE
  rw[Ex.formed]
  have h1:=h.1
  have k1:=k.1
  have e:opN o=2:=by unfold opN;rw[if_neg (by omega),if_neg (by omega),if_pos (by omega)]
  have e2:ndB ⟨o,⟨#[]⟩,⟨#[]⟩,0,0,0,⟨#[]⟩⟩ ([a,b].map Ex.d)=true:=by
   unfold ndB
   rw[if_neg (show¬o=2 by omega),if_neg (show¬o=1 by omega),if_neg (fun h=>by have:o=16:=h.1;omega)]
   rfl
  rw[e2]
  simp[e,formedL,h1,k1]
 ·unfold opE
  rw[Ex.unb]
  simp[unbL,h.2,k.2]
theorem fq_like {a:Ex} {t:ByteArray} (h:FQ a) (k:textB t=true):FQ (opE 16 [a,litE 2 0 t]):=by
 have kk:=fq_lit2 k
 refine⟨?_,?_⟩
 ·unfold opE
  rw[Ex.formed]
  have h1:=h.1
  have k1:=kk.1
  simp[opN,ndB,formedL,Nd.valZ,ByteArray.size,h1,k1]
  simp[litE,Ex.d]
 ·unfold opE
  rw[Ex.unb]
  simp[unbL,h.2,kk.2]
theorem fq_neg (b:Bool) {e:Ex} (h:FQ e):FQ (negE b e):=by
 cases b
 ·exact h
 ·exact fq_op1 (by omega) h
theorem yld_chainGo {el:M Ex} (h:Yld B FQ el) {ops:List (ByteArray×Int)} (ho:∀x∈ops,4≤x.2∧x.2≤8∨10≤x.2∧x.2≤15∨x.2=18∨x.2=19):
  ∀(n:Nat) (e:Ex) (s:Ps),Gs B s→(s.bad=false→FQ e)→Gs B (chainGo el ops n e s).2∧((chainGo el ops n e s).2.bad=false→FQ (chainGo el ops n e s).1)
 |0,_,_,hs,he=>⟨hs,he⟩
 |n+1,e,s,hs,he=>by
  rw[chainGo]
  cases h1:(firstP ops s).1 with
  |none=>exact⟨hs,he⟩
  |some o=>
   simp only
   obtain⟨t,ht⟩:=first_mem _ _ _ h1
   have hsb:s.bad=false:=by
    cases hb:s.bad with
    |false=>rfl
    |true=>rw[stk_first ops s hb]at h1;cases h1
   have h2:=h _ (Gs.first ops hs)
   exact yld_chainGo h ho n _ _ h2.1 fun hb=>fq_op2 (ho _ ht) (he hsb) (h2.2 hb)
theorem yld_chain {el:M Ex} (h:Yld B FQ el) {ops:List (ByteArray×Int)} (ho:∀x∈ops,4≤x.2∧x.2≤8∨10≤x.2∧x.2≤15∨x.2=18∨x.2=19):Yld B FQ (chainP el ops):=fun s hs=>by
 unfold chainP
 exact yld_chainGo h ho _ _ _ (h s hs).1 (h s hs).2
theorem yld_col2:Yld B (fun e=>FQ e∧e.d.op=2) colP:=fun s hs=>by
 have h1:=yld_tak1 s hs
 unfold colP
 split
 ·next hc=>
  have h2:=yld_tak1 (takP 1 s).2.next h1.1.next
  have hb:(takP 1 s).2.bad=false:=(isS_cons hc).1
  exact⟨h2.1,fun hb2=>⟨fq_col (.inr (h1.2 hb)) (h2.2 hb2),rfl⟩⟩
 ·exact⟨h1.1,fun hb=>⟨fq_col (.inl rfl) (h1.2 hb),rfl⟩⟩
theorem yld_col:Yld B FQ colP:=yld_col2.imp fun _ h=>h.1
section
variable {p:M Ex} (h:Yld B FQ p) (st:Stk p)
include h
theorem yld_una:Yld B FQ (unaP p):=fun s hs=>by
 unfold unaP
 split
 ·exact⟨(h _ hs.next).1,fun hb=>fq_op1 (by omega) ((h _ hs.next).2 hb)⟩
 ·exact h s hs
theorem yld_sum:Yld B FQ (sumP p):=yld_chain (yld_chain (yld_una h) (by decide)) (by decide)
include st
omit st in
theorem yld_inGo {a:Ex} (ha:FQ a):∀(n:Nat) (e:Ex) (s:Ps),Gs B s→(s.bad=false→FQ e)→Gs B (inGo p a n e s).2∧((inGo p a n e s).2.bad=false→FQ (inGo p a n e s).1)
 |0,_,_,hs,he=>⟨hs,he⟩
 |n+1,e,s,hs,he=>by
  rw[inGo]
  split
  ·next hc=>
   have hb:=(isS_cons hc).1
   have h2:=h _ hs.next
   exact yld_inGo ha n _ _ h2.1 fun hb2=>fq_op2 (by omega) (he hb) (fq_op2 (by omega) ha (h2.2 hb2))
  ·exact⟨hs,he⟩
theorem yld_tail {a:Ex} (ha:FQ a):Yld B FQ (tailP p a):=fun s hs=>by
 unfold tailP
 cases h1:(firstP opsCmp s).1 with
 |some o=>
  simp only
  obtain⟨t,ht⟩:=first_mem _ _ _ h1
  have h2:=h _ (Gs.first opsCmp hs)
  have k:∀x∈opsCmp,10≤x.2∧x.2≤15:=by decide
  exact⟨h2.1,fun hb=>fq_op2 (.inr (.inl (k _ ht))) ha (h2.2 hb)⟩
 |none=>
  simp only
  split
  ·exact⟨((hs.next).opt _).need _,fun _=>fq_neg _ (fq_op1 (by omega) ha)⟩
  split
  ·have h2:=yld_tak4 _ (hs.opt kNOT).next
   exact⟨h2.1,fun hb=>fq_neg _ (fq_like ha (h2.2 hb))⟩
  split
  ·have h2:=h _ (hs.opt kNOT).next
   have h3:=h _ (h2.1.need kAND)
   refine⟨h3.1,fun hb=>?_⟩
   have b1:=not_bad st hb
   have b2:(p (optP kNOT s).next).2.bad=false:=by
    cases hq:(p (optP kNOT s).next).2.bad with
    |false=>rfl
    |true=>rw[bad_need hq,hq]at b1;exact b1
   exact fq_neg _ (fq_op2 (by omega) (fq_op2 (by omega) ha (h2.2 b2)) (fq_op2 (by omega) ha (h3.2 hb)))
  split
  ·have h2:=h _ ((hs.opt kNOT).next.need yLp)
   have h3:=yld_inGo h ha ((needP yLp (optP kNOT s).next).r.length+1) (opE 10 [a,(p (needP yLp (optP kNOT s).next)).1]) (p (needP yLp (optP kNOT s).next)).2 h2.1 (fun hb=>fq_op2 (by omega) ha (h2.2 hb))
   refine⟨h3.1.need _,fun hb=>fq_neg _ (h3.2 ?_)⟩
   cases hq:(inP p a (needP yLp (optP kNOT s).next)).2.bad with
   |false=>exact hq
   |true=>simp only at hb;rw[bad_need hq,hq]at hb;cases hb
  ·refine⟨?_,fun _=>ha⟩
   simp only
   split
   ·exact hs.opt _
   ·exact hs
theorem yld_test:Yld B FQ (testP p):=fun s hs=>by
 unfold testP
 have h1:=yld_sum h s hs
 cases hb:(sumP p s).2.bad with
 |true=>rw[stk_tail _ _ _ hb];exact⟨h1.1,fun h2=>by rw[hb]at h2;cases h2⟩
 |false=>exact yld_tail (yld_sum h) (stk_sum st) (h1.2 hb) _ h1.1
theorem yld_notGo:∀n,Yld B FQ (notGo p n)
 |0=>yld_test h st
 |n+1=>fun s hs=>by
  rw[notGo]
  split
  ·have h1:=yld_notGo n _ hs.next
   exact⟨h1.1,fun hb=>fq_op1 (by omega) (h1.2 hb)⟩
  ·exact yld_test h st s hs
theorem yld_or:Yld B FQ (orP p):=yld_chain (yld_chain (fun s hs=>yld_notGo h st _ s hs) (by decide)) (by decide)
end
theorem Gs.step {s:Ps} {t:ByteArray} (h:Gs (B+1) s) (hc:isS t s=true):Gs B s.next:=⟨by have:=isS_len hc;have:=h.1;omega,h.next.2⟩
theorem Gs.up {s:Ps} (h:Gs B s):Gs (B+1) s:=⟨Nat.lt_succ_of_lt h.1,h.2⟩
theorem yld_prim {p:M Ex} (h:Yld B FQ p) (st:Stk p):Yld (B+1) FQ (primP p):=fun s hs=>by
 unfold primP
 split
 ·exact⟨(yld_num s hs).1,fun hb=>fq_lit1 ((yld_num s hs).2 hb)⟩
 split
 ·exact⟨(yld_tak4 s hs).1,fun hb=>fq_lit2 ((yld_tak4 s hs).2 hb)⟩
 split
 ·exact⟨hs.next,fun _=>fq_lit0⟩
 split
 ·next hc=>
  have h1:=h _ ((hs.step hc).need yLp)
  refine⟨(h1.1.need _).up,fun hb=>fq_op1 (by omega) (h1.2 ?_)⟩
  cases hq:(p (needP yLp s.next)).2.bad with
  |false=>rfl
  |true=>simp only at hb;rw[bad_need hq,hq]at hb;cases hb
 split
 ·next hc=>
  have h1:=h _ (hs.step hc)
  refine⟨(h1.1.need _).up,fun hb=>h1.2 ?_⟩
  cases hq:(p s.next).2.bad with
  |false=>rfl
  |true=>simp only at hb;rw[bad_need hq,hq]at hb;cases hb
 ·exact yld_col s hs
theorem yld_expr:∀n,Yld n FQ (exprP n)
 |0=>fun s hs=>absurd hs.1 (Nat.not_lt_zero _)
 |n+1=>yld_or (yld_prim (yld_expr n) (stk_expr n)) (stk_prim _)
theorem yld_names:Yld B (fun l=>namesB l=true) namesP:=by
 unfold namesP
 refine yld_bnd (yld_need _) (fun _ _=>?_) (fun _=>stk_bnd (stk_list (stk_tak 1)) fun _=>stk_bnd (stk_need _) fun _=>stk_ret _)
 refine yld_bnd (yld_list yld_tak1 (stk_tak 1)) (fun l hl=>?_) (fun _=>stk_bnd (stk_need _) fun _=>stk_ret _)
 refine yld_bnd (yld_need _) (fun _ _=>yld_ret ?_) (fun _=>stk_ret _)
 unfold namesB
 rw[Bool.and_eq_true,List.all_eq_true]
 refine⟨?_,hl.2⟩
 cases l with
 |nil=>exact absurd rfl hl.1
 |cons a l=>rfl
theorem yld_bound:Yld B (fun n=> -2147483648≤n∧n≤2147483648) bndP:=by
 unfold bndP
 refine yld_if _ (yld_bnd yld_num (fun n hn=>yld_ret (by omega)) (fun _=>stk_ret _)) (yld_num.imp fun n hn=>by omega)
def TyQ (t:Int×Int×Int×Int):Prop:=
 (t.1=1∧ -2147483648≤t.2.1∧t.2.1≤2147483648∧ -2147483648≤t.2.2.1∧t.2.2.1≤2147483648∧t.2.2.2=0)∨(t.1=2∧t.2.1=0∧t.2.2.1=0∧0≤t.2.2.2∧t.2.2.2≤2147483648)
theorem yld_typ:Yld B TyQ typP:=by
 unfold typP
 refine yld_if _ (yld_if _ ?_ (yld_ret (.inl (by decide)))) (yld_bnd (yld_need _) (fun _ _=>yld_if _ ?_ (yld_ret (.inr (by decide)))) (fun _=>stk_if _ _ (stk_ret _)))
 ·unfold bnd2P
  refine yld_bnd yld_bound (fun a ha=>?_) (fun _=>stk_bnd (stk_need _) fun _=>stk_bnd stk_bndP fun _=>stk_bnd (stk_need _) fun _=>stk_ret _)
  refine yld_bnd (yld_need _) (fun _ _=>?_) (fun _=>stk_bnd stk_bndP fun _=>stk_bnd (stk_need _) fun _=>stk_ret _)
  refine yld_bnd yld_bound (fun b hb=>?_) (fun _=>stk_bnd (stk_need _) fun _=>stk_ret _)
  exact yld_bnd (yld_need _) (fun _ _=>yld_ret (.inl ⟨rfl,ha.1,ha.2,hb.1,hb.2,rfl⟩)) (fun _=>stk_ret _)
 ·unfold maxP
  refine yld_bnd yld_num (fun a ha=>?_) (fun _=>stk_bnd (stk_need _) fun _=>stk_ret _)
  exact yld_bnd (yld_need _) (fun _ _=>yld_ret (.inr ⟨rfl,rfl,rfl,ha.1,ha.2⟩)) (fun _=>stk_ret _)
theorem cd_ok {a:ByteArray} (ha:nameB a=true) {t:Int×Int×Int×Int} (ht:TyQ t) (b:Bool):Cd.ok ⟨a,t.1,t.2.1,t.2.2.1,t.2.2.2,b⟩=true:=by
 unfold Cd.ok inB
 rcases ht with ⟨h1,h2,h3,h4,h5,h6⟩|⟨h1,h2,h3,h4,h5⟩
 ·simp[h1,ha,h2,h3,h4,h5,h6]
 ·simp[h1,ha,h2,h3,h4,h5]
theorem yld_def:Yld B (fun c=>c.ok=true) defP:=by
 unfold defP
 refine yld_bnd yld_tak1 (fun a ha=>?_) (fun _=>stk_bnd stk_typ fun _=>stk_if _ _ (stk_ret _))
 refine yld_bnd yld_typ (fun t ht=>?_) (fun _=>stk_if _ _ (stk_ret _))
 exact yld_if _ (yld_bnd (yld_need _) (fun _ _=>yld_ret (cd_ok ha ht true)) (fun _=>stk_ret _)) (yld_ret (cd_ok ha ht false))
theorem yld_ref:Yld B (fun f=>f.ok=true) refP:=by
 unfold refP
 refine yld_bnd yld_names (fun a ha=>?_) (fun _=>stk_bnd (stk_need _) fun _=>stk_bnd (stk_tak 1) fun _=>stk_bnd stk_names fun _=>stk_ret _)
 refine yld_bnd (yld_need _) (fun _ _=>?_) (fun _=>stk_bnd (stk_tak 1) fun _=>stk_bnd stk_names fun _=>stk_ret _)
 refine yld_bnd yld_tak1 (fun t ht=>?_) (fun _=>stk_bnd stk_names fun _=>stk_ret _)
 refine yld_bnd yld_names (fun b hb=>yld_ret ?_) (fun _=>stk_ret _)
 unfold Rf.ok
 simp only[ha,ht,hb,Bool.and_self]
theorem yld_src:Yld B (fun f=>f.ok=true) srcP:=by
 unfold srcP
 refine yld_bnd yld_tak1 (fun a ha=>?_) (fun _=>stk_if _ _ (stk_ret _))
 refine yld_if _ (yld_bnd yld_tak1 (fun b hb=>yld_ret ?_) (fun _=>stk_ret _)) (yld_ret ?_)
 ·unfold Src.ok
  simp only[ha,hb,Bool.or_true,Bool.and_self]
 ·unfold Src.ok
  simp only[ha,Bool.true_and]
  rw[str_empty]
  rfl
theorem yld_ord:Yld B (fun f=>f.ok=true) (ordP posP):=by
 unfold ordP
 refine yld_bnd yld_pos (fun a ha=>?_) (fun _=>stk_if _ _ (stk_if _ _ (stk_ret _)))
 have h:∀b,Ord'.ok ⟨a,b⟩=true:=fun b=>by unfold Ord'.ok inB;simp[ha.1,ha.2]
 exact yld_if _ (yld_ret (h _)) (yld_if _ (yld_ret (h _)) (yld_ret (h _)))
structure DfQ (x:Df×List ByteArray):Prop where
 cols:∀c∈x.1.cols,c.ok=true
 keys:∀c∈x.1.keys,namesB c=true
 frs:∀c∈x.1.frs,c.ok=true
 chk:∀c∈x.1.chk,FQ c
 ne:x.1.cols.length+x.1.keys.length+x.1.frs.length+x.1.chk.length≠0
theorem mem_snoc {α:Type} {P:α→Prop} {l:List α} {a:α} (h:∀x∈l,P x) (ha:P a):∀x∈l++ [a],P x:=fun x hx=>by
 rcases List.mem_append.1 hx with hx|hx
 ·exact h x hx
 ·rw[List.mem_singleton.1 hx];exact ha
def WQ (e:Ex):Prop:=(e.absent=true∨e.formed=true)∧e.unb=true
theorem wq_z:WQ exZ:=⟨.inl (by decide),by decide⟩
theorem fq_and:∀(l:List Ex) (e:Ex),FQ e→(∀x∈l,FQ x)→FQ (l.foldl (fun a b=>opE 18 [a,b]) e)
 | [],_,he,_=>he
 |a::l,e,he,hl=>fq_and l _ (fq_op2 (by omega) he (hl a List.mem_cons_self)) fun x hx=>hl x (List.mem_cons_of_mem _ hx)
theorem wq_andL {c:List Ex} (hc:∀e∈c,FQ e):WQ (andL c):=by
 cases c with
 |nil=>exact wq_z
 |cons e l=>
  have:=fq_and l e (hc e List.mem_cons_self) fun x hx=>hc x (List.mem_cons_of_mem _ hx)
  exact⟨.inr this.1,this.2⟩
section
variable {ex:M Ex} (h:Yld B FQ ex) (st:Stk ex)
include h st
theorem yld_elem {d:Df} {l:List ByteArray} (hc:∀c∈d.cols,c.ok=true) (hk:∀c∈d.keys,namesB c=true) (hf:∀c∈d.frs,c.ok=true) (hx:∀c∈d.chk,FQ c):Yld B DfQ (elemP ex d l):=by
 unfold elemP
 refine yld_if _ ?_ (yld_if _ ?_ (yld_if _ ?_ (yld_if _ ?_ ?_)))
 ·refine yld_bnd (yld_need _) (fun _ _=>?_) (fun _=>stk_bnd stk_names fun _=>stk_ret _)
  exact yld_bnd yld_names (fun k hk2=>yld_ret ⟨hc,mem_snoc hk hk2,hf,hx,by simp⟩) (fun _=>stk_ret _)
 ·exact yld_bnd yld_names (fun k hk2=>yld_ret ⟨hc,mem_snoc hk hk2,hf,hx,by simp⟩) (fun _=>stk_ret _)
 ·refine yld_bnd (yld_need _) (fun _ _=>?_) (fun _=>stk_bnd st fun _=>stk_bnd (stk_need _) fun _=>stk_ret _)
  refine yld_bnd h (fun e he=>?_) (fun _=>stk_bnd (stk_need _) fun _=>stk_ret _)
  exact yld_bnd (yld_need _) (fun _ _=>yld_ret ⟨hc,hk,hf,mem_snoc hx he,by simp⟩) (fun _=>stk_ret _)
 ·refine yld_bnd (yld_need _) (fun _ _=>?_) (fun _=>stk_bnd stk_ref fun _=>stk_ret _)
  exact yld_bnd yld_ref (fun k hk2=>yld_ret ⟨hc,hk,mem_snoc hf hk2,hx,by simp⟩) (fun _=>stk_ret _)
 ·exact yld_bnd yld_def (fun k hk2=>yld_ret ⟨mem_snoc hc hk2,hk,hf,hx,by simp⟩) (fun _=>stk_ret _)
theorem yld_elemGo:∀(n:Nat) (x:Df×List ByteArray),DfQ x→Yld B DfQ (elemGo ex n x.1 x.2)
 |0,_,hx=>yld_ret hx
 |n+1,x,hx=>yld_if _ (yld_bnd (yld_elem h st hx.cols hx.keys hx.frs hx.chk) (fun y hy=>yld_elemGo n y hy) (fun _=>stk_elemGo ex _ _ _)) (yld_ret hx)
theorem yld_elems:Yld B DfQ (elemsP ex):=fun s hs=>
 yld_bnd (yld_elem h st (d:=⟨[],[],[],[]⟩) (by simp) (by simp) (by simp) (by simp)) (fun x hx=>yld_elemGo h st (s.r.length+1) x hx) (fun _=>stk_elemGo ex _ _ _) s hs
theorem yld_tup:Yld B (fun l=>rowOk l=true∧∀e∈l,e.unb=true) (tupP ex):=by
 unfold tupP
 refine yld_bnd (yld_need _) (fun _ _=>?_) (fun _=>stk_bnd (stk_list st) fun _=>stk_bnd (stk_need _) fun _=>stk_ret _)
 refine yld_bnd (yld_list h st) (fun l hl=>?_) (fun _=>stk_bnd (stk_need _) fun _=>stk_ret _)
 refine yld_bnd (yld_need _) (fun _ _=>yld_ret ⟨?_,fun e he=> (hl.2 e he).2⟩) (fun _=>stk_ret _)
 unfold rowOk
 rw[Bool.and_eq_true,List.all_eq_true]
 exact⟨decide_eq_true (List.length_pos_iff.2 hl.1),fun e he=> (hl.2 e he).1⟩
omit st in
theorem yld_whr:Yld B WQ (whrP ex):=yld_if _ (h.imp fun e he=>⟨.inr he.1,he.2⟩) (yld_ret wq_z)
theorem yld_asg:Yld B (fun a=>a.ok=true∧a.ix=0∧a.ex.unb=true) (asgP ex):=by
 unfold asgP
 refine yld_bnd yld_tak1 (fun a ha=>?_) (fun _=>stk_bnd (stk_need _) fun _=>stk_bnd st fun _=>stk_ret _)
 refine yld_bnd (yld_need _) (fun _ _=>?_) (fun _=>stk_bnd st fun _=>stk_ret _)
 refine yld_bnd h (fun e he=>yld_ret ⟨?_,rfl,he.2⟩) (fun _=>stk_ret _)
 unfold Asg.ok
 simp only[ha,he.1,Bool.and_self]
theorem yld_itm:Yld B (fun x=>x.ok=true∧x.ex.unb=true) (itmP ex):=by
 have one:∀o:Int,2≤o→o≤5→Yld B (fun x:Itm=>x.ok=true∧x.ex.unb=true) (itm1 ex o):=fun o h1 h2=>by
  unfold itm1
  refine yld_bnd h (fun e he=>?_) (fun _=>stk_bnd (stk_need _) fun _=>stk_ret _)
  refine yld_bnd (yld_need _) (fun _ _=>yld_ret ⟨?_,he.2⟩) (fun _=>stk_ret _)
  unfold Itm.ok
  rw[if_neg (by simp;omega),he.1]
  simp;omega
 unfold itmP
 refine yld_fst _ (fun o ho=>yld_bnd (yld_need _) (fun _ _=>?_) (fun _=>?_)) (yld_bnd h (fun e he=>yld_ret ⟨?_,he.2⟩) (fun _=>stk_ret _))
 ·obtain⟨t,ht⟩:=ho
  have k:∀x∈opsAgg,2≤x.2∧x.2≤5:=by decide
  have:=k _ ht
  split
  ·exact yld_if _ (yld_bnd (yld_need _) (fun _ _=>yld_ret (by decide)) (fun _=>stk_ret _)) (one o this.1 this.2)
  ·exact one o this.1 this.2
 ·split
  ·exact stk_if _ _ (stk_itm1 st o)
  ·exact stk_itm1 st o
 ·unfold Itm.ok
  rw[if_neg (by simp),he.1]
  rfl
theorem yld_fromGo:∀(n:Nat) (l:List Src) (c:List Ex),(∀x∈l,x.ok=true)→l≠[]→(∀e∈c,FQ e)→Yld B (fun x=> (∀y∈x.1,y.ok=true)∧x.1≠[]∧∀e∈x.2,FQ e) (fromGo ex n l c)
 |0,_,_,h1,h2,h3=>yld_ret ⟨h1,h2,h3⟩
 |n+1,l,c,h1,h2,h3=>by
  refine yld_if _ (yld_bnd yld_src (fun x hx=>yld_fromGo n _ _ (mem_snoc h1 hx) (by simp) h3) (fun _=>stk_fromGo ex _ _ _)) (yld_if _ ?_ (yld_ret ⟨h1,h2,h3⟩))
  refine yld_bnd yld_src (fun x hx=>?_) (fun _=>stk_bnd (stk_need _) fun _=>stk_bnd st fun _=>stk_fromGo ex _ _ _)
  refine yld_bnd (yld_need _) (fun _ _=>?_) (fun _=>stk_bnd st fun _=>stk_fromGo ex _ _ _)
  exact yld_bnd h (fun e he=>yld_fromGo n _ _ (mem_snoc h1 hx) (by simp) (mem_snoc h3 he)) (fun _=>stk_fromGo ex _ _ _)
theorem yld_from:Yld B (fun x=> (∀y∈x.1,y.ok=true)∧x.1≠[]∧∀e∈x.2,FQ e) (fromP ex):=fun s hs=>
 yld_bnd yld_src (fun x hx=>yld_fromGo h st (s.r.length+1) [x] [] (by simpa using hx) (by simp) (by simp)) (fun _=>stk_fromGo ex _ _ _) s hs
omit st in
theorem yld_cond {c:List Ex} (hc:∀e∈c,FQ e):Yld B WQ (condP ex andL c):=
 yld_if _ (yld_bnd h (fun e he=>yld_ret (wq_andL (mem_snoc hc he))) (fun _=>stk_ret _)) (yld_ret (wq_andL hc))
end
end
end
section
open Lx (Tk isDigit isLetter inWord spanN isPrint)
def dn (k:List UInt8):List Nat:=k.map fun c=>c.toNat+32
theorem kw_same:kwWords=Lx.kwNames.map dn:=by decide+kernel
theorem up_low {c:UInt8} (h:Lx.lowW c=true) (hu:isLetter (Lx.upC c)=true):c.toNat=(Lx.upC c).toNat+32:=by
 have h1:=Lx.upC_num c
 rw[Lx.up_letter]at hu
 unfold Lx.lowW isDigit at h
 unfold isLetter at hu
 split at h1<;>grind
theorem dn_up:∀l:List UInt8,(∀c∈l,Lx.lowW c=true)→(∀c∈l.map Lx.upC,isLetter c=true)→l.map UInt8.toNat=dn (l.map Lx.upC)
 | [],_,_=>rfl
 |c::l,h,k=>by
  have h1:=up_low (h c List.mem_cons_self) (k _ (by simp))
  have h2:=dn_up l (fun x hx=>h x (List.mem_cons_of_mem _ hx)) (fun x hx=>k x (by rw[List.map_cons];exact List.mem_cons_of_mem _ hx))
  simp only[List.map_cons,dn,List.cons.injEq]at h2 ⊢
  exact⟨h1,h2⟩
theorem up_dn:∀(l k:List UInt8),(∀c∈k,isLetter c=true∧c.toNat≤90)→l.map UInt8.toNat=dn k→l.map Lx.upC=k
 | [],[],_,_=>rfl
 | [],_::_,_,h=>by simp[dn]at h
 |_::_,[],_,h=>by simp[dn]at h
 |a::l,b::k,hk,h=>by
  simp only[dn,List.map_cons,List.cons.injEq]at h
  have hb:=hk b List.mem_cons_self
  have h1:=Lx.upC_num a
  have hb1:=hb.1
  unfold isLetter at hb1
  rw[List.map_cons,up_dn l k (fun c hc=>hk c (List.mem_cons_of_mem _ hc)) h.2]
  congr 1
  refine Lx.num_ext _ _ ?_
  rw[h1,if_pos (by grind)]
  omega
theorem kw_caps:∀k∈Lx.kwNames,∀c∈k,isLetter c=true∧c.toNat≤90:=by
 have:(Lx.kwNames.all fun k=>k.all fun c=>isLetter c&&decide (c.toNat≤90))=true:=by decide+kernel
 intro k hk c hc
 have h:=List.all_eq_true.1 (List.all_eq_true.1 this k hk) c hc
 simpa using h
theorem kw_iff (l:List UInt8) (hl:∀c∈l,Lx.lowW c=true):Lx.isKw l=kwWords.contains (l.map UInt8.toNat):=by
 rw[Bool.eq_iff_iff]
 unfold Lx.isKw
 rw[decide_eq_true_iff,List.contains_iff_mem,kw_same]
 constructor
 ·intro h
  rw[dn_up l hl fun c hc=> (kw_caps _ h c hc).1]
  exact List.mem_map_of_mem h
 ·intro h
  obtain⟨k,hk,e⟩:=List.mem_map.1 h
  rw[up_dn l k (kw_caps k hk) e.symm]
  exact hk
theorem low_nm (c:UInt8):Lx.lowW c=isNmC c.toNat:=by
 unfold Lx.lowW isNmC isLow isDigit
 rw[Bool.eq_iff_iff]
 simp only[Bool.or_eq_true,Bool.and_eq_true,decide_eq_true_eq,beq_iff_eq]
 omega
theorem name_iff (s:ByteArray):nameB s=Lx.nameP s.data.toList:=by
 unfold nameB nameL Lx.nameP N
 cases h:s.data.toList with
 |nil=>rfl
 |cons c r=>
  have e1:((c::r).map UInt8.toNat).all isNmC=(c::r).all Lx.lowW:=by
   rw[List.all_map]
   congr 1
   funext c
   exact(low_nm c).symm
  rw[e1]
  cases ha:(c::r).all Lx.lowW with
  |false=>simp
  |true=>
   rw[←kw_iff _ (List.all_eq_true.1 ha),List.length_map]
   simp only[List.map_cons,fstLow,isLow,Bool.and_true]
   rw[Bool.eq_iff_iff]
   simp only[Bool.and_eq_true,decide_eq_true_eq,Bool.not_eq_true']
   constructor
   ·rintro⟨⟨h1,h2⟩,h3⟩;exact⟨⟨h2,h1⟩,h3⟩
   ·rintro⟨⟨h1,h2⟩,h3⟩;exact⟨⟨h2,h1⟩,h3⟩
theorem up_lo (c:UInt8):Lx.upC (Lx.loC c)=Lx.upC c:=by
 apply Lx.num_ext
 have h:=Lx.upC_num (Lx.loC c)
 have h2:=Lx.loC_num c
 have h3:=Lx.upC_num c
 split at h<;>split at h2<;>split at h3<;>omega
theorem lo_low {c:UInt8} (h:inWord c=true):Lx.lowW (Lx.loC c)=true:=by
 have h2:=Lx.loC_num c
 unfold inWord isLetter isDigit at h
 unfold Lx.lowW isDigit
 split at h2<;>grind
theorem word_name {l:List UInt8} {c:UInt8} {r:List UInt8} (hl:l=c::r) (hc:isLetter c=true) (hw:∀x∈l,inWord x=true) (hn:l.length≤24) (hk:Lx.isKw l=false):nameB ⟨(l.map Lx.loC).toArray⟩=true:=by
 rw[name_iff]
 have e:Lx.isKw (l.map Lx.loC)=false:=by
  unfold Lx.isKw at hk ⊢
  rw[List.map_map]
  have:Lx.upC∘Lx.loC=Lx.upC:=funext up_lo
  rw[this]
  exact hk
 show Lx.nameP (l.map Lx.loC).toArray.toList=true
 rw[List.toList_toArray]
 subst hl
 have np:∀(a:UInt8) (m:List UInt8),Lx.nameP (a::m)=(decide ((a::m).length≤24) && (decide (97≤a.toNat) &&decide (a.toNat≤122)) && (a::m).all Lx.lowW&&!(Lx.isKw (a::m))):=fun _ _=>rfl
 rw[List.map_cons,np,←List.map_cons,e,List.length_map]
 simp only[Bool.and_eq_true,decide_eq_true_eq,List.all_eq_true,Bool.not_false,and_true]
 refine⟨⟨hn,?_⟩,fun x hx=>?_⟩
 ·have h2:=Lx.loC_num c
  unfold isLetter at hc
  split at h2<;>grind
 ·obtain⟨y,hy,rfl⟩:=List.mem_map.1 hx
  exact lo_low (hw y hy)
theorem lit_print:∀(l X:List UInt8) (i:Nat) (q:List UInt8×Nat),Lx.litF l X i=some q→(∀c∈X,isPrint c=true)→∀c∈q.1,isPrint c=true
 | [],X,i,q,h,_=>by simp[Lx.litF]at h
 | [c],X,i,q,h,hX=>by
  rw[Lx.litF]at h
  split at h
  ·cases h
  split at h
  ·cases h;exact hX
  ·simp[Lx.litF]at h
 |c::d::r,X,i,q,h,hX=>by
  rw[Lx.litF]at h
  split at h
  ·cases h
  next hp=>
  split at h
  ·split at h
   ·next h2=>
    refine lit_print r _ _ q h fun x hx=>?_
    rcases List.mem_append.1 hx with hx|hx
    ·exact hX x hx
    ·rw[List.mem_singleton.1 hx];unfold isPrint;rw[h2];rfl
   ·cases h;exact hX
  ·refine lit_print (d::r) _ _ q h fun x hx=>?_
   rcases List.mem_append.1 hx with hx|hx
   ·exact hX x hx
   ·rw[List.mem_singleton.1 hx];simpa using hp
theorem tok_gt (c:UInt8) (r:List UInt8) (k:Nat) (x:List UInt8) (n p:Nat) (h:Lx.tokL (c::r)= .tok k x n):Gt ⟨k,x,p⟩:=by
 rw[Lx.tokL]at h
 split at h
 ·next hc=>
  unfold Lx.wordL at h
  split at h
  ·cases h;exact⟨(fun h=>nomatch h),(fun h=>nomatch h),(fun h=>nomatch h)⟩
  ·next hk=>
   split at h
   ·cases h
   ·next hn=>
    cases h
    have h1:=Lx.span_pos inWord c r (Lx.letter_word c hc)
    have h2:=Lx.span_le inWord (c::r)
    refine⟨fun _=>?_,(fun h=>nomatch h),(fun h=>nomatch h)⟩
    refine word_name (c:=c) (r:=r.take (spanN inWord (c::r)-1)) ?_ hc (Lx.span_all inWord (c::r)) ?_ (by simpa using hk)
    ·obtain⟨m,hm⟩:∃m,spanN inWord (c::r)=m+1:=⟨spanN inWord (c::r)-1,by omega⟩
     rw[hm,List.take_succ_cons,Nat.add_sub_cancel]
    ·rw[List.length_take];omega
 split at h
 ·unfold Lx.numL at h
  split at h
  ·cases h
  ·split at h
   ·cases h
   ·next hv=>
    cases h
    refine⟨(fun h=>nomatch h),fun _=>?_,(fun h=>nomatch h)⟩
    unfold digV tkB
    simp only[List.toList_toArray]
    omega
 split at h
 ·unfold Lx.textL at h
  cases hl:Lx.litF r [] 1 with
  |none=>rw[hl]at h;cases h
  |some q=>
   obtain⟨X,i⟩:=q
   rw[hl]at h
   simp only at h
   split at h
   ·cases h
   ·next hn=>
    cases h
    refine⟨(fun h=>nomatch h),(fun h=>nomatch h),fun _=>?_⟩
    have hp:=lit_print r [] 1 _ hl (by simp)
    unfold textB N tkB
    simp only[Bool.and_eq_true,List.all_eq_true,decide_eq_true_eq,List.toList_toArray]
    refine⟨fun y hy=>?_,?_⟩
    ·obtain⟨z,hz,rfl⟩:=List.mem_map.1 hy
     have:=hp z hz
     unfold isPrint at this
     simpa using this
    ·show x.toArray.size≤16
     simp
     omega
 ·unfold Lx.symL at h
  split at h
  ·cases h
  ·cases h;exact⟨(fun h=>nomatch h),(fun h=>nomatch h),(fun h=>nomatch h)⟩
theorem toks_gt:∀(f:Nat) (l:List UInt8) (p:Nat) (L:List Tk),Lx.toksF f l p= .ok L→∀a∈L,Gt a
 |0,_,_,_,h=>by cases h
 |f+1,l,p,L,h=>by
  rw[Lx.toksF]at h
  cases hd:l.drop (Lx.skipN false l)with
  |nil=>
   rw[hd]at h
   injection h with h
   subst h
   intro a ha
   rw[List.mem_singleton.1 ha]
   exact⟨(fun h=>nomatch h),(fun h=>nomatch h),(fun h=>nomatch h)⟩
  |cons c r=>
   rw[hd]at h
   cases ht:Lx.tokL (c::r)with
   |bad e=>simp only[ht]at h;cases h
   |tok k x n=>
    simp only[ht]at h
    cases hr:Lx.toksF f ((c::r).drop n) (p+Lx.skipN false l+n)with
    |bad a e=>rw[hr]at h;cases h
    |ok M=>
     rw[hr]at h
     have h2: [(⟨k,x,p+Lx.skipN false l⟩:Tk)]++M=L:=by injection h
     subst h2
     intro a ha
     rcases List.mem_append.1 ha with ha|ha
     ·rw[List.mem_singleton.1 ha];exact tok_gt c r k x n _ ht
     ·exact toks_gt f _ _ M hr a ha
theorem gt_of {s:ByteArray} {L:List Tk} (h:Lx.tokAll s= .ok L):∀a∈L,Gt a:=by
 unfold Lx.tokAll at h
 split at h
 ·cases h
 ·exact toks_gt _ _ _ L h
end
section
open Lx (Tk isDigit isLetter inWord spanN isPrint)
abbrev Kt:=Nat×List UInt8
def er (a:Tk):Kt:=(a.kind,a.text)
def LexP (P:List UInt8→Prop) (l:List UInt8) (K:List Kt):Prop:=∀(b:List UInt8) (p:Nat),P b→∃ts:List Tk,ts.map er=K∧Lx.T (l++b) p=(Lx.T b (p+l.length)).pre ts
def Any (_:List UInt8):Prop:=True
def NoW (b:List UInt8):Prop:=Lx.headW b=false
def EdgL (b:List UInt8):Prop:=b= []∨∃c t,b=c::t∧(c=32∨c=41∨c=44∨c=59∨c=10)
theorem EdgL.now {b:List UInt8} (h:EdgL b):NoW b:=by
 rcases h with rfl|⟨c,t,rfl,rfl|rfl|rfl|rfl|rfl⟩<;>rfl
theorem LexP.imp {P Q:List UInt8→Prop} {l:List UInt8} {K:List Kt} (h:LexP P l K) (hp:∀b,Q b→P b):LexP Q l K:=fun b p hb=>h b p (hp b hb)
theorem dv_snoc (l:List UInt8) (c:UInt8):Lx.digVal (l++ [c])=10*Lx.digVal l+(c.toNat-48):=by
 unfold Lx.digVal
 rw[List.foldl_append]
 rfl
end
section
open Lx (Tk isDigit isLetter inWord spanN isPrint)
def brK (op:Int) (K:List Kt) (r:Int):List Kt:=if lvl op<r then (5,[40])::(K++ [(5,[41])])else K
def sgK (op:Int):Kt:=(if op=16∨op=18∨op=19 then 2 else 5,(sgn op).data.toList)
def tkD (d:Nd) (xs:List (Int×List Kt)):List Kt:=
 let x:=xs.getD 0 (0,[])
 let y:=xs.getD 1 (0,[])
 if d.op=1 then (if d.vk=1 then [(3,(itoB d.vi).data.toList)]else if d.vk=2 then [(4,d.vt.data.toList)]else [(2,[78,85,76,76])])
 else if d.op=2 then (if d.tb.size=0 then [(1,d.nm.data.toList)]else [(1,d.tb.data.toList),(5,[46]),(1,d.nm.data.toList)])
 else if d.op=3 then (5,[45])::brK x.1 x.2 8
 else if d.op=9 then (2,[76,69,78,71,84,72])::(5,[40])::(brK x.1 x.2 1++ [(5,[41])])
 else if d.op=17 then brK x.1 x.2 5++ [(2,[73,83]),(2,[78,85,76,76])]
 else if d.op=20 then (2,[78,79,84])::brK x.1 x.2 3
 else brK x.1 x.2 (if lvl d.op=4 then 5 else lvl d.op)++sgK d.op::brK y.1 y.2 (lvl d.op+1)
mutual
def Ex.tkp:Ex→List Kt
 | .mk d ks=>tkD d (tkpL ks)
def tkpL:List Ex→List (Int×List Kt)
 | []=> []
 |e::es=> (e.d.op,e.tkp)::tkpL es
end
def Ex.tk (e:Ex) (r:Int):List Kt:=brK e.d.op e.tkp r
mutual
def Ex.st0:Ex→Ex
 | .mk d ks=> .mk { d with ix:=0 } (st0L ks)
def st0L:List Ex→List Ex
 | []=> []
 |e::es=>e.st0::st0L es
end
theorem ba_nil {s:ByteArray} (h:s.size=0):s=⟨#[]⟩:=by
 cases s with
 |mk a=>exact congrArg ByteArray.mk (Array.eq_empty_of_size_eq_zero h)
def ctl (a:Kt):Nat:=
 if a.1=2∨a.1=5 then
  (if a.2= [79,82]then 1 else if a.2= [65,78,68]then 2
  else if a.2= [61]∨a.2= [60,62]∨a.2= [60]∨a.2= [60,61]∨a.2= [62]∨a.2= [62,61]∨a.2= [73,83]∨a.2= [78,79,84]∨a.2= [76,73,75,69]∨a.2= [66,69,84,87,69,69,78]∨a.2= [73,78]then 4
  else if a.2= [43]∨a.2= [45]then 5 else if a.2= [42]∨a.2= [47]∨a.2= [37]then 6 else if a.2= [46]then 9 else 0)
 else 0
def Ps.c (s:Ps):Nat:=ctl (er s.hd)
theorem isS_not {k:Nat} {x:List UInt8} (t:ByteArray) {a:Tk} (h:er a=(k,x)) (hx:(k≠2∧k≠5)∨x≠t.data.toList) (R:List Tk):isS t ⟨a::R,false⟩=false:=by
 have h1:a.kind=k:=congrArg Prod.fst h
 have h2:a.text=x:=congrArg Prod.snd h
 unfold isS Ps.hd tkB
 simp only[List.headD_cons,h1,h2]
 rcases hx with hx|hx
 ·simp[hx.1,hx.2]
 ·have:¬(ByteArray.mk x.toArray=t):=fun e=>hx (by rw[←e])
  simp[this]
section
variable {p:M Ex} (hp:Fwd p)
include hp
end
end
section
open Lx (Tk isDigit isLetter inWord spanN isPrint)
theorem not_hd {t:ByteArray} {k:Kt} {a:Tk} (h:er a=k) (hk:(k.1=2∨k.1=5)→k.2≠t.data.toList) (R:List Tk):isS t ⟨a::R,false⟩=false:=by
 by_cases h2:k.1=2∨k.1=5
 ·exact isS_not (k:=k.1) (x:=k.2) t h (.inr (hk h2)) R
 ·exact isS_not (k:=k.1) (x:=k.2) t h (.inl (by omega)) R
end
section
open Lx (Tk isDigit isLetter inWord spanN isPrint)
def cmK:List (List Kt)→List Kt
 | []=> []
 |x::l=>x++l.flatMap fun y=> (5,[44])::y
def nmK (s:ByteArray):Kt:=(1,s.data.toList)
def nmsK (l:List ByteArray):List Kt:=(5,[40])::(cmK (l.map fun s=> [nmK s])++ [(5,[41])])
def numK (n:Int):Kt:=(3,(itoB n).data.toList)
def bndK (n:Int):List Kt:=if n<0 then [(5,[45]),numK (-n)]else [numK n]
def Cd.tk (x:Cd):List Kt:=
 nmK x.nm::((if x.ty=1 then (2,[73,78,84,69,71,69,82])::(5,[40])::(bndK x.lo++(5,[44])::(bndK x.hi++ [(5,[41])]))else (2,[84,69,88,84])::(5,[40])::(bndK x.mx++ [(5,[41])]))++
  (if x.nn=true then [(2,[78,79,84]),(2,[78,85,76,76])]else []))
def keyK (k:List ByteArray):List Kt:=(2,[85,78,73,81,85,69])::nmsK k
def Rf.tk (x:Rf):List Kt:=(2,[70,79,82,69,73,71,78])::(2,[75,69,89])::(nmsK x.cs++(2,[82,69,70,69,82,69,78,67,69,83])::nmK x.tb::nmsK x.tg)
def chkK (e:Ex):List Kt:=(2,[67,72,69,67,75])::(5,[40])::(e.tk 1++ [(5,[41])])
def St.eltsK (s:St):List (List Kt):=s.cols.map Cd.tk++s.keys.map keyK++s.frs.map Rf.tk++s.chk.map chkK
def exsK (l:List Ex):List Kt:=cmK (l.map fun e=>e.tk 1)
def rowK (l:List Ex):List Kt:=(5,[40])::(exsK l++ [(5,[41])])
def Asg.tk (x:Asg):List Kt:=nmK x.cl::(5,[61])::x.ex.tk 1
def agK (n:Int):Kt:=(2,(agW n).data.toList)
def Itm.tk (x:Itm):List Kt:=if x.ag=1 then [(2,[67,79,85,78,84]),(5,[40]),(5,[42]),(5,[41])]else if x.ag=0 then x.ex.tk 1 else agK x.ag::(5,[40])::(x.ex.tk 1++ [(5,[41])])
def Src.tk (x:Src):List Kt:=if x.al.size=0 then [nmK x.tb]else [nmK x.tb,(2,[65,83]),nmK x.al]
def Ord'.tk (x:Ord'):List Kt:=numK x.it::(if x.ds=true then [(2,[68,69,83,67])]else [])
def St.whK (s:St):List Kt:=if s.whr.absent=true then []else (2,[87,72,69,82,69])::s.whr.tk 1
def St.itK (s:St):List Kt:=if s.itms.length=0 then [(5,[42])]else cmK (s.itms.map Itm.tk)
def St.selK (s:St):List Kt:=
 (2,[83,69,76,69,67,84])::(s.itK++(2,[70,82,79,77])::(cmK (s.frm.map Src.tk)++(s.whK++((if s.grp.length=0 then []else (2,[71,82,79,85,80])::(2,[66,89])::exsK s.grp)++
  ((if s.ord.length=0 then []else (2,[79,82,68,69,82])::(2,[66,89])::cmK (s.ord.map Ord'.tk))++(if 0<s.lim then [(2,[76,73,77,73,84]),numK s.lim]else []))))))
def St.tk (s:St):List Kt:=
 if s.kd=1 then (2,[67,82,69,65,84,69])::(2,[84,65,66,76,69])::nmK s.tb::(5,[40])::(cmK s.eltsK++ [(5,[41])])
 else if s.kd=2 then (2,[73,78,83,69,82,84])::(2,[73,78,84,79])::nmK s.tb::(2,[86,65,76,85,69,83])::cmK (s.vals.map rowK)
 else if s.kd=3 then (2,[85,80,68,65,84,69])::nmK s.tb::(2,[83,69,84])::(cmK (s.sets.map Asg.tk)++s.whK)
 else if s.kd=4 then (2,[68,69,76,69,84,69])::(2,[70,82,79,77])::nmK s.tb::s.whK
 else if s.kd=5 then s.selK
 else if s.kd=6 then [(2,[66,69,71,73,78])]else if s.kd=7 then [(2,[67,79,77,77,73,84])]else if s.kd=8 then [(2,[82,79,76,76,66,65,67,75])]
 else if s.kd=9 then [(2,[83,65,86,69,80,79,73,78,84]),nmK s.nm]else if s.kd=10 then [(2,[82,79,76,76,66,65,67,75]),(2,[84,79]),nmK s.nm]else [(2,[82,69,76,69,65,83,69]),nmK s.nm]
end
section
open Lx (Tk isDigit isLetter inWord spanN isPrint)
def Asg.st0 (x:Asg):Asg:=⟨x.cl,0,x.ex.st0⟩
end
section
open Lx (Tk isDigit isLetter inWord spanN isPrint)
inductive El where
 |col (c:Cd)
 |key (k:List ByteArray)
 |frn (f:Rf)
 |chk (e:Ex)
def El.tk:El→List Kt
 | .col c=>c.tk
 | .key k=>keyK k
 | .frn f=>f.tk
 | .chk e=>chkK e
def El.ok:El→Bool
 | .col c=>c.ok
 | .key k=>namesB k
 | .frn f=>f.ok
 | .chk e=>e.formed
def El.put (d:Df):El→Df
 | .col c=> { d with cols:=d.cols++ [c] }
 | .key k=> { d with keys:=d.keys++ [k] }
 | .frn f=> { d with frs:=d.frs++ [f] }
 | .chk e=> { d with chk:=d.chk++ [e.st0] }
end
section
open Lx (Tk isDigit isLetter inWord spanN isPrint)
theorem elG_succ (ex:M Ex) (m:Nat) (d:Df) (l:List ByteArray) (st:Ps):elemGo ex (m+1) d l st=if isS yCm st=true then elemGo ex m (elemP ex d l st.next).1.1 (elemP ex d l st.next).1.2 (elemP ex d l st.next).2 else ((d,l),st):=rfl
end
section
open Lx (Tk isDigit isLetter inWord spanN isPrint)
def Itm.st0 (x:Itm):Itm:=if x.ag=1 then ⟨1,exZ⟩else ⟨x.ag,x.ex.st0⟩
end
section
open Lx (Tk isDigit isLetter inWord spanN isPrint)
def stI (k:Kt):Nat:=if k.1=2∨k.1=5 then (if k.2= [87,72,69,82,69]then 1 else if k.2= [71,82,79,85,80]then 2 else if k.2= [79,82,68,69,82]then 3 else if k.2= [76,73,77,73,84]then 4 else if k.2= [59]then 5 else 0)else 5
def StpN (j:Nat) (R:List Tk):Prop:=1≤j∧∃a l,R=a::l∧j≤stI (er a)
theorem StpN.le {i j:Nat} {R:List Tk} (h:StpN j R) (h1:1≤i) (hi:i≤j):StpN i R:=by
 obtain⟨_,a,l,e,hj⟩:=h
 exact⟨h1,a,l,e,by omega⟩
theorem StpN.not {j:Nat} {R:List Tk} (h:StpN j R) {t:ByteArray} (ht:stI (2,t.data.toList)<j):isS t ⟨R,false⟩=false:=by
 obtain⟨_,a,l,rfl,hj⟩:=h
 refine not_hd (k:=er a) rfl (fun h2 e=>?_) l
 have:stI (er a)=stI (2,t.data.toList):=by
  unfold stI
  rw[if_pos h2,if_pos (show((2:Nat),t.data.toList).1=2∨((2:Nat),t.data.toList).1=5 from .inl rfl),e]
 omega
def St.wh0 (s:St):Ex:=if s.whr.absent=true then exZ else s.whr.st0
theorem frm_succ (ex:M Ex) (m:Nat) (l:List Src) (c:List Ex) (st:Ps):fromGo ex (m+1) l c st=if isS yCm st=true then fromGo ex m (l++ [(srcP st.next).1]) c (srcP st.next).2
  else if isS kJOIN st=true then fromGo ex m (l++ [(srcP st.next).1]) (c++ [(ex (needP kON (srcP st.next).2)).1]) (ex (needP kON (srcP st.next).2)).2 else ((l,c),st):=rfl
end
section
open Lx (Tk)
def St.unb (s:St):Bool:=s.chk.all Ex.unb&&s.whr.unb&&s.grp.all Ex.unb&&s.vals.all (fun l=>l.all Ex.unb) &&s.sets.all (fun a=>a.ix==0&&a.ex.unb) &&s.itms.all (fun x=>x.ex.unb)
def SQ (s:St):Prop:=s.formed=true∧s.unb=true
theorem nm_ne {s:ByteArray} (h:nameB s=true):s.toList.isEmpty=false:=by
 rw[str_empty]
 unfold nameB nameL at h
 cases hN:N s with
 |nil=>rw[hN]at h;simp[fstLow]at h
 |cons a l=>rfl
theorem nil_e:(⟨#[]⟩:ByteArray).toList.isEmpty=true:=by rw[str_empty];rfl
theorem whr_b {e:Ex} (h:WQ e):(e.absent||e.formed)=true:=by
 rcases h.1 with h|h<;>simp[h]
theorem nn_ok (l:List ByteArray) (c:Cd):(nnC l c).ok=c.ok:=rfl
theorem sq_create {t:ByteArray} (ht:nameB t=true) {x:Df×List ByteArray} (hx:DfQ x):SQ { stZ with kd:=1,tb:=t,cols:=x.1.cols.map (nnC x.2),keys:=x.1.keys,frs:=x.1.frs,chk:=x.1.chk } :=by
 have h1:(x.1.cols.map (nnC x.2)).all Cd.ok=true:=by
  rw[List.all_eq_true]
  intro c hc
  obtain⟨d,hd,rfl⟩:=List.mem_map.1 hc
  rw[nn_ok]
  exact hx.cols d hd
 have h2:x.1.keys.all namesB=true:=List.all_eq_true.2 hx.keys
 have h3:x.1.frs.all Rf.ok=true:=List.all_eq_true.2 hx.frs
 have h4:x.1.chk.all Ex.formed=true:=List.all_eq_true.2 fun e he=> (hx.chk e he).1
 have h5:x.1.chk.all Ex.unb=true:=List.all_eq_true.2 fun e he=> (hx.chk e he).2
 have h6:=hx.ne
 have h7:exZ.absent=true:=by decide
 have h8:exZ.unb=true:=by decide
 refine⟨?_,?_⟩
 ·have h0:St.noDef { stZ with kd:=1,tb:=t,cols:=x.1.cols.map (nnC x.2),keys:=x.1.keys,frs:=x.1.frs,chk:=x.1.chk } =false:=by
   unfold St.noDef
   simp only[List.length_map]
   exact decide_eq_false h6
  unfold St.formed St.defOk
  rw[h0]
  simp[stZ,nm_ne ht,ht,nil_e,h7]
  exact⟨⟨⟨List.all_eq_true.1 (by simpa using h1)|>fun h=>by simpa using h,by simpa using h2⟩,by simpa using h3⟩,by simpa using h4⟩
 ·unfold St.unb
  simp[stZ,h8]
  simpa using h5
theorem sq_insert {t:ByteArray} (ht:nameB t=true) {v:List (List Ex)} (hv:v≠[]∧∀l∈v,rowOk l=true∧∀e∈l,e.unb=true):SQ { stZ with kd:=2,tb:=t,vals:=v } :=by
 have h1:v.all rowOk=true:=List.all_eq_true.2 fun l hl=> (hv.2 l hl).1
 have h2:0<v.length:=List.length_pos_iff.2 hv.1
 have h7:exZ.absent=true:=by decide
 have h8:exZ.unb=true:=by decide
 refine⟨?_,?_⟩
 ·unfold St.formed St.noDef
  simp[stZ,nm_ne ht,ht,nil_e,h7,h2]
  simpa using h1
 ·unfold St.unb
  simp[stZ,h8]
  exact fun l hl e he=> (hv.2 l hl).2 e he
theorem sq_update {t:ByteArray} (ht:nameB t=true) {v:List Asg} (hv:v≠[]∧∀a∈v,a.ok=true∧a.ix=0∧a.ex.unb=true) {e:Ex} (he:WQ e):SQ { stZ with kd:=3,tb:=t,sets:=v,whr:=e } :=by
 have h1:v.all Asg.ok=true:=List.all_eq_true.2 fun l hl=> (hv.2 l hl).1
 have h2:0<v.length:=List.length_pos_iff.2 hv.1
 have h7:=whr_b he
 refine⟨?_,?_⟩
 ·unfold St.formed St.noDef
  simp[stZ,nm_ne ht,ht,nil_e,h2]
  simp at h7 h1
  exact⟨h7,h1⟩
 ·unfold St.unb
  simp[stZ,he.2]
  exact fun l hl=>⟨(hv.2 l hl).2.1,(hv.2 l hl).2.2⟩
theorem sq_delete {t:ByteArray} (ht:nameB t=true) {e:Ex} (he:WQ e):SQ { stZ with kd:=4,tb:=t,whr:=e } :=by
 have h7:=whr_b he
 refine⟨?_,?_⟩
 ·unfold St.formed St.noDef
  simp[stZ,nm_ne ht,ht,nil_e]
  simpa using h7
 ·unfold St.unb
  simp[stZ,he.2]
theorem sq_query {i:List Itm} (hi:∀x∈i,x.ok=true∧x.ex.unb=true) {f:List Src} (hf:(∀y∈f,y.ok=true)∧f≠[]) {e:Ex} (he:WQ e) {g:List Ex} (hg:∀x∈g,FQ x∧x.d.op=2) {o:List Ord'} (ho:∀x∈o,x.ok=true)
  {l:Int} (hl:0≤l∧l≤2147483648):SQ { stZ with kd:=5,itms:=i,frm:=f,whr:=e,grp:=g,ord:=o,lim:=l } :=by
 have h1:i.all Itm.ok=true:=List.all_eq_true.2 fun x hx=> (hi x hx).1
 have h2:0<f.length:=List.length_pos_iff.2 hf.2
 have h3:f.all Src.ok=true:=List.all_eq_true.2 hf.1
 have h4:g.all colX=true:=List.all_eq_true.2 fun x hx=>by unfold colX;simp[(hg x hx).2,(hg x hx).1.1]
 have h5:o.all Ord'.ok=true:=List.all_eq_true.2 ho
 have h7:=whr_b he
 refine⟨?_,?_⟩
 ·unfold St.formed St.noDef St.qOk inB
  simp[stZ,nil_e,h2,hl.1,hl.2]
  simp at h1 h3 h4 h5 h7
  exact⟨h7,⟨⟨⟨h1,h3⟩,h4⟩,h5⟩⟩
 ·unfold St.unb
  simp[stZ,he.2]
  exact⟨fun x hx=> (hg x hx).1.2,fun x hx=> (hi x hx).2⟩
theorem sq_nm {k:Int} (hk:k=9∨k=10∨k=11) {a:ByteArray} (ha:nameB a=true):SQ { stZ with kd:=k,nm:=a } :=by
 have h7:exZ.absent=true:=by decide
 have h8:exZ.unb=true:=by decide
 refine⟨?_,?_⟩
 ·rcases hk with rfl|rfl|rfl<;> (unfold St.formed St.noDef;simp[stZ,nm_ne ha,ha,nil_e,h7])
 ·unfold St.unb
  simp[stZ,h8]
theorem sq_one {k:Int} (hk:k=6∨k=7∨k=8):SQ { stZ with kd:=k } :=by
 have h7:exZ.absent=true:=by decide
 have h8:exZ.unb=true:=by decide
 refine⟨?_,?_⟩
 ·rcases hk with rfl|rfl|rfl<;> (unfold St.formed St.noDef;simp[stZ,nil_e,h7])
 ·unfold St.unb
  simp[stZ,h8]
section
variable {B:Nat} {ex:M Ex} (h:Yld B FQ ex) (st:Stk ex)
include h st
theorem yld_create:Yld B SQ (createP ex):=by
 unfold createP
 refine yld_bnd (yld_need _) (fun _ _=>?_) (fun _=>stk_bnd (stk_tak 1) fun _=>stk_bnd (stk_need _) fun _=>stk_bnd (stk_elems ex) fun _=>stk_bnd (stk_need _) fun _=>stk_ret _)
 refine yld_bnd yld_tak1 (fun t ht=>?_) (fun _=>stk_bnd (stk_need _) fun _=>stk_bnd (stk_elems ex) fun _=>stk_bnd (stk_need _) fun _=>stk_ret _)
 refine yld_bnd (yld_need _) (fun _ _=>?_) (fun _=>stk_bnd (stk_elems ex) fun _=>stk_bnd (stk_need _) fun _=>stk_ret _)
 refine yld_bnd (yld_elems h st) (fun x hx=>?_) (fun _=>stk_bnd (stk_need _) fun _=>stk_ret _)
 exact yld_bnd (yld_need _) (fun _ _=>yld_ret (sq_create ht hx)) (fun _=>stk_ret _)
theorem yld_insert:Yld B SQ (insertP ex):=by
 unfold insertP
 refine yld_bnd (yld_need _) (fun _ _=>?_) (fun _=>stk_bnd (stk_tak 1) fun _=>stk_bnd (stk_need _) fun _=>stk_bnd (stk_list (stk_tup st)) fun _=>stk_ret _)
 refine yld_bnd yld_tak1 (fun t ht=>?_) (fun _=>stk_bnd (stk_need _) fun _=>stk_bnd (stk_list (stk_tup st)) fun _=>stk_ret _)
 refine yld_bnd (yld_need _) (fun _ _=>?_) (fun _=>stk_bnd (stk_list (stk_tup st)) fun _=>stk_ret _)
 exact yld_bnd (yld_list (yld_tup h st) (stk_tup st)) (fun v hv=>yld_ret (sq_insert ht hv)) (fun _=>stk_ret _)
theorem yld_update:Yld B SQ (updateP ex):=by
 unfold updateP
 refine yld_bnd yld_tak1 (fun t ht=>?_) (fun _=>stk_bnd (stk_need _) fun _=>stk_bnd (stk_list (stk_asg st)) fun _=>stk_bnd (stk_whr ex) fun _=>stk_ret _)
 refine yld_bnd (yld_need _) (fun _ _=>?_) (fun _=>stk_bnd (stk_list (stk_asg st)) fun _=>stk_bnd (stk_whr ex) fun _=>stk_ret _)
 refine yld_bnd (yld_list (yld_asg h st) (stk_asg st)) (fun v hv=>?_) (fun _=>stk_bnd (stk_whr ex) fun _=>stk_ret _)
 exact yld_bnd (yld_whr h) (fun e he=>yld_ret (sq_update ht hv he)) (fun _=>stk_ret _)
omit st in
theorem yld_delete:Yld B SQ (deleteP ex):=by
 unfold deleteP
 refine yld_bnd (yld_need _) (fun _ _=>?_) (fun _=>stk_bnd (stk_tak 1) fun _=>stk_bnd (stk_whr ex) fun _=>stk_ret _)
 refine yld_bnd yld_tak1 (fun t ht=>?_) (fun _=>stk_bnd (stk_whr ex) fun _=>stk_ret _)
 exact yld_bnd (yld_whr h) (fun e he=>yld_ret (sq_delete ht he)) (fun _=>stk_ret _)
theorem yld_query:Yld B SQ (queryP ex posP andL):=by
 unfold queryP
 refine yld_bnd (Q:=fun i=> ∀x∈i,x.ok=true∧x.ex.unb=true) ?_ (fun i hi=>?_) (fun _=>stk_bnd (stk_need _) fun _=>stk_bnd (stk_from ex) fun _=>stk_bnd (stk_cond ex _ _) fun _=>stk_bnd stk_grp fun _=>stk_bnd (stk_ords _) fun _=>stk_bnd (stk_lim _) fun _=>stk_ret _)
 ·exact yld_if _ (yld_ret (by simp)) ((yld_list (yld_itm h st) (stk_itm st)).imp fun l hl=>hl.2)
 refine yld_bnd (yld_need _) (fun _ _=>?_) (fun _=>stk_bnd (stk_from ex) fun _=>stk_bnd (stk_cond ex _ _) fun _=>stk_bnd stk_grp fun _=>stk_bnd (stk_ords _) fun _=>stk_bnd (stk_lim _) fun _=>stk_ret _)
 refine yld_bnd (yld_from h st) (fun f hf=>?_) (fun _=>stk_bnd (stk_cond ex _ _) fun _=>stk_bnd stk_grp fun _=>stk_bnd (stk_ords _) fun _=>stk_bnd (stk_lim _) fun _=>stk_ret _)
 refine yld_bnd (yld_cond h hf.2.2) (fun e he=>?_) (fun _=>stk_bnd stk_grp fun _=>stk_bnd (stk_ords _) fun _=>stk_bnd (stk_lim _) fun _=>stk_ret _)
 refine yld_bnd (Q:=fun g=> ∀x∈g,FQ x∧x.d.op=2) ?_ (fun g hg=>?_) (fun _=>stk_bnd (stk_ords _) fun _=>stk_bnd (stk_lim _) fun _=>stk_ret _)
 ·exact yld_if _ (yld_bnd (yld_need _) (fun _ _=> (yld_list yld_col2 stk_col).imp fun l hl=>hl.2) (fun _=>stk_list stk_col)) (yld_ret (by simp))
 refine yld_bnd (Q:=fun o=> ∀x∈o,x.ok=true) ?_ (fun o ho=>?_) (fun _=>stk_bnd (stk_lim _) fun _=>stk_ret _)
 ·exact yld_if _ (yld_bnd (yld_need _) (fun _ _=> (yld_list yld_ord (stk_ord stk_pos)).imp fun l hl=>hl.2) (fun _=>stk_list (stk_ord stk_pos))) (yld_ret (by simp))
 refine yld_bnd (Q:=fun l=>0≤l∧l≤2147483648) ?_ (fun l hl=>yld_ret (sq_query hi ⟨hf.1,hf.2.1⟩ he hg ho hl)) (fun _=>stk_ret _)
 exact yld_if _ (yld_pos.imp fun n hn=>by omega) (yld_ret (by omega))
theorem yld_stmt:Yld B SQ (stmtP ex posP andL lastP):=by
 have nm:∀k:Int,k=9∨k=10∨k=11→Yld B SQ (nmP k):=fun k hk=>yld_bnd yld_tak1 (fun a ha=>yld_ret (sq_nm hk ha)) (fun _=>stk_ret _)
 unfold stmtP
 refine yld_if _ (yld_create h st) (yld_if _ (yld_insert h st) (yld_if _ (yld_update h st) (yld_if _ (yld_delete h) (yld_if _ (yld_query h st) (yld_if _ (yld_ret (sq_one (by omega))) (yld_if _ (yld_ret (sq_one (by omega)))
  (yld_if _ (yld_if _ (nm 10 (by omega)) (yld_ret (sq_one (by omega)))) (yld_if _ (nm 9 (by omega)) (yld_if _ (nm 11 (by omega)) ?_)))))))))
 exact fun s hs=>⟨hs,fun hb=>by cases hb⟩
end
theorem yld_stm (n:Nat):Yld n SQ (stmP n):=yld_stmt (yld_expr n) (stk_expr n)
end
section
open Lx (Tk isDigit isLetter inWord spanN isPrint)
def St.st0 (s:St):St:= { s with chk:=s.chk.map Ex.st0,vals:=s.vals.map (fun l=>l.map Ex.st0),sets:=s.sets.map Asg.st0,itms:=s.itms.map Itm.st0,whr:=s.wh0,grp:=s.grp.map Ex.st0 }
theorem emp_ba {s:ByteArray} (h:s.toList.isEmpty=true):s=⟨#[]⟩:=by
 rw[str_empty]at h
 exact ba_nil (by rw[←N_len,List.isEmpty_iff.1 h];rfl)
structure Lone (s:St):Prop where
 tb:4<s.kd→s.tb=⟨#[]⟩
 nm:s.kd≠9→s.kd≠10→s.kd≠11→s.nm=⟨#[]⟩
 df:s.kd≠1→s.cols= []∧s.keys= []∧s.frs= []∧s.chk= []
 vals:s.kd≠2→s.vals= []
 sets:s.kd≠3→s.sets= []
 sel:s.kd≠5→s.itms= []∧s.frm= []∧s.grp= []∧s.ord= []∧s.lim=0
 wh:s.kd≠3→s.kd≠4→s.kd≠5→s.wh0=exZ
theorem lone_of {s:St} (h:s.formed=true):Lone s:=by
 unfold St.formed at h
 dsimp only at h
 simp only[Bool.and_eq_true,decide_eq_true_eq]at h
 obtain⟨⟨⟨⟨⟨⟨⟨⟨⟨⟨⟨⟨h1,h2⟩,t1⟩,_⟩,n1⟩,_⟩,w1⟩,h3⟩,h4⟩,h5⟩,h6⟩,h7⟩,_⟩:=h
 refine⟨fun e=>?_,fun a b c=>?_,fun e=>?_,fun e=>?_,fun e=>?_,fun e=>?_,fun a b c=>?_⟩
 ·rw[decide_eq_false (by omega)]at t1
  exact emp_ba (by simpa using t1)
 ·have e:(s.kd==9||s.kd==10||s.kd==11)=false:=by simp[a,b,c]
  rw[e]at n1
  exact emp_ba (by simpa using n1)
 ·have e1:(s.kd==1)=false:=by simpa using e
  rw[e1]at h3
  have h3:s.noDef=true:=by simpa using h3
  unfold St.noDef at h3
  have h8:=of_decide_eq_true h3
  exact⟨nil_of (by omega),nil_of (by omega),nil_of (by omega),nil_of (by omega)⟩
 ·have e1:(s.kd==2)=false:=by simpa using e
  rw[e1]at h4
  exact nil_of (by simpa using h4)
 ·have e1:(s.kd==3)=false:=by simpa using e
  rw[e1]at h5
  exact nil_of (by simpa using h5)
 ·have e1:(s.kd==5)=false:=by simpa using e
  rw[e1]at h7 h6
  simp only[Bool.false_or,Bool.and_eq_true,decide_eq_true_eq,beq_iff_eq]at h7
  exact⟨nil_of (by omega),nil_of (by simpa using h6),nil_of (by omega),nil_of (by omega),h7.2⟩
 ·have e:(s.kd==3||s.kd==4||s.kd==5)=false:=by simp[a,b,c]
  rw[e]at w1
  unfold St.wh0
  rw[if_pos (by simpa using w1)]
end
section
open Lx (Tk isDigit isLetter inWord spanN isPrint)
def parL (vld:St→Int) (s:ByteArray):List St×Int×Int:=
 match Lx.tokAll s with
 | .bad a e=> ([],(a:Int),(e:Int))
 | .ok L=>
  match scrGo (stmP (L.length+1)) vld (L.length+1) [] ⟨L,false⟩with
  | .inl q=> ([],(q.1:Int),q.2)
  | .inr l=> (l,0,0)
end
end Go.Proofs.YtjigcpfjhfoheaaGreatDoor
