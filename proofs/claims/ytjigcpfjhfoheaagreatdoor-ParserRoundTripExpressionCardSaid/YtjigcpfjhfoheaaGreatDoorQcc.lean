/- Valid of a statement that is too large: without a bound on its bulk; What the parser reads is well-formed and unbound, unless it has failed; The tokens of a text are good: words are names, texts can be printed, numbers fit; The to. -/
import Derived.Test.YtjigcpfjhfoheaaGreatDoorQbe
import Derived.Test.YtjigcpfjhfoheaaGreatDoorQca
import Derived.Test.YtjigcpfjhfoheaaGreatDoorQba
import Derived.Test.YtjigcpfjhfoheaaGreatDoorQab
import Derived.Test.YtjigcpfjhfoheaaGreatDoorQaa
import Derived.Test.YtjigcpfjhfoheaaGreatDoorQad
namespace Go.Proofs.YtjigcpfjhfoheaaGreatDoor
open Go.RowKit
set_option maxHeartbeats 2000000
set_option maxRecDepth 100000
set_option linter.unusedVariables false
set_option linter.unusedSimpArgs false
theorem lp (s:St) (a:SA) (w:World) (hv:StV w s a) (hlen:s.all.length≤100000000) (hL:largeB s.all=true):
  Calls Tryz.prog 31 #[s.val a] w fun r w'=>r= .returned (.int .i64 3)∧Ext w w':=by
 have H1:=hid (fun W (hW:Ext w W)=>all_any s a W (hv.ext hW) hlen)
 have H2:=hid (fun (W:World) (A:Option Addr) (c:Nat) (hk:KidsAt W A s.all)=>gS s.all A s.all.length c W rfl (by omega) hk)
 have HB:=hid (Blk.of_new w 40 (s.cells a))
 have HX:=hid ((Ext.refl w).alloc (.cells (s.cells a).toArray 40))
 rw[hL]at H2
 clear hv hlen hL
 unfold St.val at*
 unfold St.cells Sl.v at*
 go_enter Tryz.func31,Tryz.ntmps31
 go_upto_region 1 with fail
 generalize w.alloc (.cells _ 40)=w1 at*
 generalize w.heap.size=g at*
 go_wp2_with (first|(refine aw rfl 40 (.tmp 1) rfl g rfl 40 _ _ HB.out Tryz.underlying40 rfl (by kernel_rfl) ?_)|(go_at_call 63;(with_reducible refine(H1.out _ HX.out).mono ?_);rintro _ w2 ⟨A1,c1,rfl,hk1,hx2⟩)|(go_at_call 62;(with_reducible refine(H2.out _ _ _ hk1).mono ?_);rintro _ w3 ⟨rfl,hx3⟩))
 go_ret
 exact⟨rfl,HX.out.trans (hx2.trans hx3)⟩
section
open Lx (Tk)
mutual
def Ex.unb:Ex→Bool
 | .mk d ks=>d.ix==0&&unbL ks
def unbL:List Ex→Bool
 | []=>true
 |e::es=>e.unb&&unbL es
end
structure Gt (a:Tk):Prop where
 nm:a.kind=1→nameB (tkB a)=true
 num:a.kind=3→eb (tkB a)≤2147483648
 txt:a.kind=4→dC (tkB a)=true
def Gs (B:Nat) (s:Ps):Prop:=s.r.length<B∧∀a∈s.r,Gt a
def Yld {α:Type} (B:Nat) (Q:α→Prop) (m:M α):Prop:=∀s,Gs B s→Gs B (m s).2∧((m s).2.bad=false→Q (m s).1)
section
variable {B:Nat}
theorem Gs.next {s:Ps} (h:Gs B s):Gs B s.next:=⟨Nat.lt_of_le_of_lt (next_len s) h.1,fun a ha=>h.2 a (List.mem_of_mem_tail ha)⟩
theorem Gs.fail {s:Ps} (h:Gs B s):Gs B s.fail:=h
theorem Gs.need {s:Ps} (h:Gs B s) (t:ByteArray):Gs B (needP t s):=by
 unfold needP
 split
 ·exact h.next
 ·exact h
theorem Gs.opt {s:Ps} (h:Gs B s) (t:ByteArray):Gs B (optP t s):=by
 unfold optP
 split
 ·exact h.next
 ·exact h
theorem Gs.first (l:List (ByteArray×Int)):∀ {s:Ps},Gs B s→Gs B (firstP l s).2:=by
 induction l with
 |nil=>intro s h;exact h
 |cons a l ih=>
  intro s h
  rw[firstP]
  split
  ·exact h.next
  ·exact ih h
theorem Gs.hd {s:Ps} (h:Gs B s) {k:Nat} (hk:k≠0) (h2:hasK k s=true):Gt s.hd∧s.hd.kind=k:=by
 obtain⟨_,a,l,h3,h4,_⟩:=gK hk h2
 have e:s.hd=a:=by unfold Ps.hd;rw[h3];rfl
 rw[e]
 exact⟨h.2 a (by rw[h3];exact List.mem_cons_self),h4⟩
theorem Gs.tak {s:Ps} (h:Gs B s) (k:Nat):Gs B (takP k s).2:=by
 unfold takP
 split
 ·exact h.next
 ·exact h
theorem not_bad {α:Type} {m:M α} (h:Stk m) {s:Ps} (hb:(m s).2.bad=false):s.bad=false:=by
 cases hs:s.bad with
 |false=>rfl
 |true=>rw[h s hs,hs]at hb;exact hb
section
variable {α β:Type} {Q:α→Prop} {R:β→Prop}
theorem aj {m:M α} {f:α→M β} (h:Yld B Q m) (hf:∀a,Q a→Yld B R (f a)) (sf:∀a,Stk (f a)):Yld B R (az m f):=fun s hs=>by
 unfold az
 have h1:=h s hs
 cases hb:(m s).2.bad with
 |true=>
  have h2:=sf (m s).1 (m s).2 hb
  rw[h2]
  exact⟨h1.1,fun h3=>by rw[hb]at h3;cases h3⟩
 |false=>exact hf _ (h1.2 hb) _ h1.1
theorem av {a:α} (h:Q a):Yld B Q (aW a):=fun s hs=>⟨hs,fun _=>h⟩
theorem aC (t:ByteArray):Yld B (fun _=>True) (aR t):=fun s hs=>⟨hs.need t,fun _=>trivial⟩
theorem aK (t:ByteArray) {m n:M α} (h1:Yld B Q m) (h2:Yld B Q n):Yld B Q (ifM t m n):=fun s hs=>by
 unfold ifM
 split
 ·exact h1 _ hs.next
 ·exact h2 _ hs
theorem yld_fst (ops:List (ByteArray×Int)) {f:Int→M α} {m:M α} (h1:∀o,(∃t,(t,o)∈ops)→Yld B Q (f o)) (h2:Yld B Q m):Yld B Q (gG ops f m):=fun s hs=>by
 unfold gG
 cases ho:(firstP ops s).1 with
 |none=>exact h2 _ hs
 |some o=>exact h1 o (eR _ _ _ ho) _ (Gs.first _ hs)
theorem Yld.imp {m:M α} {Q':α→Prop} (h:Yld B Q m) (hi:∀a,Q a→Q' a):Yld B Q' m:=fun s hs=>⟨(h s hs).1,fun hb=>hi _ ((h s hs).2 hb)⟩
theorem jU {el:M α} (h:Yld B Q el) (hst:Stk el):∀(n:Nat) (o:List α) (s:Ps),Gs B s→(s.bad=false→o≠[]∧∀a∈o,Q a)→Gs B (listGo el n o s).2∧((listGo el n o s).2.bad=false→(listGo el n o s).1≠[]∧∀a∈(listGo el n o s).1,Q a)
 |0,_,_,hs,ho=>⟨hs,ho⟩
 |n+1,o,s,hs,ho=>by
  rw[listGo]
  split
  ·next hc=>
   have hb:=(bx hc).1
   have h1:=h s.next hs.next
   refine jU h hst n _ _ h1.1 fun h2=>⟨by simp,fun a ha=>?_⟩
   rcases List.mem_append.1 ha with ha|ha
   ·exact(ho hb).2 a ha
   ·rw[List.mem_singleton.1 ha];exact h1.2 h2
  ·exact⟨hs,ho⟩
theorem dz {el:M α} (h:Yld B Q el) (hst:Stk el):Yld B (fun l=>l≠[]∧∀a∈l,Q a) (listP el):=fun s hs=>by
 unfold listP
 have h1:=h s hs
 exact jU h hst _ _ _ h1.1 fun hb=>⟨by simp,fun a ha=>by rw[List.mem_singleton.1 ha];exact h1.2 hb⟩
end
theorem br:Yld B (fun b=>nameB b=true) (takP 1):=fun s hs=>⟨hs.tak 1,fun hb=>by
 unfold takP at hb ⊢
 split
 ·next h=>exact(hs.hd (by omega) h).1.nm (hs.hd (by omega) h).2
 ·next h=>rw[if_neg h]at hb;cases hb⟩
theorem jV:Yld B (fun b=>dC b=true) (takP 4):=fun s hs=>⟨hs.tak 4,fun hb=>by
 unfold takP at hb ⊢
 split
 ·next h=>exact(hs.hd (by omega) h).1.txt (hs.hd (by omega) h).2
 ·next h=>rw[if_neg h]at hb;cases hb⟩
theorem digV_nn (b:ByteArray):0≤eb b:=by unfold eb;omega
theorem dJ:Yld B (fun n=>0≤n∧n≤2147483648) bj:=fun s hs=>⟨hs.tak 3,fun hb=>by
 unfold bj at hb ⊢
 refine⟨digV_nn _,?_⟩
 unfold takP at hb ⊢
 split
 ·next h=>exact(hs.hd (by omega) h).1.num (hs.hd (by omega) h).2
 ·next h=>rw[if_neg h]at hb;cases hb⟩
theorem yld_pos:Yld B (fun n=>1≤n∧n≤2147483648) posP:=fun s hs=>by
 unfold posP
 split
 ·refine⟨(dJ s.fail hs).1,fun hb=>?_⟩
  have:=not_bad kS hb
  cases this
 ·next hc=>
  refine⟨(dJ s hs).1,fun hb=>?_⟩
  have h1:=(dJ s hs).2 hb
  refine⟨?_,h1.2⟩
  unfold bj takP at hb ⊢
  split
  ·next h=>simp[h]at hc;have:=digV_nn (tkB s.hd);simp only;omega
  ·next h=>rw[if_neg h]at hb;cases hb
def FQ (e:Ex):Prop:=e.formed=true∧e.unb=true
theorem fq_lit1 {i:Int} (h:0≤i∧i≤2147483648):FQ (cQ 1 i ⟨#[]⟩):=by
 refine⟨?_,rfl⟩
 unfold cQ
 rw[Ex.formed]
 simp[opN,ndB,bv,Nd.litB,ByteArray.size,h.1,h.2]
theorem fq_lit2 {t:ByteArray} (h:dC t=true):FQ (cQ 2 0 t):=by
 refine⟨?_,rfl⟩
 unfold cQ
 rw[Ex.formed]
 simp[opN,ndB,bv,Nd.litB,ByteArray.size,h]
theorem fq_lit0:FQ (cQ 0 0 ⟨#[]⟩):=by
 refine⟨?_,rfl⟩
 unfold cQ
 rw[Ex.formed]
 simp[opN,ndB,bv,Nd.litB,ByteArray.size]
theorem fq_col {t n:ByteArray} (ht:t=⟨#[]⟩∨nameB t=true) (hn:nameB n=true):FQ (colE t n):=by
 refine⟨?_,rfl⟩
 unfold colE
 rw[Ex.formed]
 have e:ndB ⟨2,t,n,0,0,0,⟨#[]⟩⟩ []=true:=by
  unfold ndB
  rw[if_pos rfl]
  rcases ht with rfl|ht
  ·simp only[hn,Bool.true_and]
   rfl
  ·simp only[hn,ht,Bool.or_true,Bool.true_and]
   rfl
 show((opN 2==(0:Int)) &&bv [] &&ndB ⟨2,t,n,0,0,0,⟨#[]⟩⟩ [])=true
 rw[e]
 rfl
theorem jW {o:Int} (ho:o=3∨o=9∨o=17∨o=20) {a:Ex} (h:FQ a):FQ (opE o [a]):=by
 refine⟨?_,?_⟩
 ·unfold opE
  rw[Ex.formed]
  have h1:=h.1
  have e:opN o=1:=by unfold opN;rw[if_neg (by omega),if_pos (by omega)]
  have e2:ndB ⟨o,⟨#[]⟩,⟨#[]⟩,0,0,0,⟨#[]⟩⟩ ([a].map Ex.d)=true:=by
   unfold ndB
   rw[if_neg (show¬o=2 by omega),if_neg (show¬o=1 by omega),if_neg (fun h=>by have:o=16:=h.1;omega)]
   rfl
  rw[e2]
  simp[e,bv,h1]
 ·unfold opE
  rw[Ex.unb]
  simp[unbL,h.2]
theorem ek {o:Int} (ho:4≤o∧o≤8∨10≤o∧o≤15∨o=18∨o=19) {a b:Ex} (h:FQ a) (k:FQ b):FQ (opE o [a,b]):=by
 refine⟨?_,?_⟩
 ·unfold opE
  rw[Ex.formed]
  have h1:=h.1
  have k1:=k.1
  have e:opN o=2:=by unfold opN;rw[if_neg (by omega),if_neg (by omega),if_pos (by omega)]
  have e2:ndB ⟨o,⟨#[]⟩,⟨#[]⟩,0,0,0,⟨#[]⟩⟩ ([a,b].map Ex.d)=true:=by
   unfold ndB
   rw[if_neg (show¬o=2 by omega),if_neg (show¬o=1 by omega),if_neg (fun h=>by have:o=16:=h.1;omega)]
   rfl
  rw[e2]
  simp[e,bv,h1,k1]
 ·unfold opE
  rw[Ex.unb]
  simp[unbL,h.2,k.2]
theorem fq_like {a:Ex} {t:ByteArray} (h:FQ a) (k:dC t=true):FQ (opE 16 [a,cQ 2 0 t]):=by
 have kk:=fq_lit2 k
 refine⟨?_,?_⟩
 ·unfold opE
  rw[Ex.formed]
  have h1:=h.1
  have k1:=kk.1
  simp[opN,ndB,bv,Nd.valZ,ByteArray.size,h1,k1]
  simp[cQ,Ex.d]
 ·unfold opE
  rw[Ex.unb]
  simp[unbL,h.2,kk.2]
theorem lq (b:Bool) {e:Ex} (h:FQ e):FQ (negE b e):=by
 cases b
 ·exact h
 ·exact jW (by omega) h
theorem io {el:M Ex} (h:Yld B FQ el) {ops:List (ByteArray×Int)} (ho:∀x∈ops,4≤x.2∧x.2≤8∨10≤x.2∧x.2≤15∨x.2=18∨x.2=19):
  ∀(n:Nat) (e:Ex) (s:Ps),Gs B s→(s.bad=false→FQ e)→Gs B (aM el ops n e s).2∧((aM el ops n e s).2.bad=false→FQ (aM el ops n e s).1)
 |0,_,_,hs,he=>⟨hs,he⟩
 |n+1,e,s,hs,he=>by
  rw[aM]
  cases h1:(firstP ops s).1 with
  |none=>exact⟨hs,he⟩
  |some o=>
   simp only
   obtain⟨t,ht⟩:=eR _ _ _ h1
   have hsb:s.bad=false:=by
    cases hb:s.bad with
    |false=>rfl
    |true=>rw[eM ops s hb]at h1;cases h1
   have h2:=h _ (Gs.first ops hs)
   exact io h ho n _ _ h2.1 fun hb=>ek (ho _ ht) (he hsb) (h2.2 hb)
theorem fc {el:M Ex} (h:Yld B FQ el) {ops:List (ByteArray×Int)} (ho:∀x∈ops,4≤x.2∧x.2≤8∨10≤x.2∧x.2≤15∨x.2=18∨x.2=19):Yld B FQ (aL el ops):=fun s hs=>by
 unfold aL
 exact io h ho _ _ _ (h s hs).1 (h s hs).2
theorem mG:Yld B (fun e=>FQ e∧e.d.op=2) cU:=fun s hs=>by
 have h1:=br s hs
 unfold cU
 split
 ·next hc=>
  have h2:=br (takP 1 s).2.next h1.1.next
  have hb:(takP 1 s).2.bad=false:=(bx hc).1
  exact⟨h2.1,fun hb2=>⟨fq_col (.inr (h1.2 hb)) (h2.2 hb2),rfl⟩⟩
 ·exact⟨h1.1,fun hb=>⟨fq_col (.inl rfl) (h1.2 hb),rfl⟩⟩
theorem yld_col:Yld B FQ cU:=mG.imp fun _ h=>h.1
section
variable {p:M Ex} (h:Yld B FQ p) (st:Stk p)
include h
theorem yld_una:Yld B FQ (cj p):=fun s hs=>by
 unfold cj
 split
 ·exact⟨(h _ hs.next).1,fun hb=>jW (by omega) ((h _ hs.next).2 hb)⟩
 ·exact h s hs
theorem yld_sum:Yld B FQ (sumP p):=fc (fc (yld_una h) (by decide)) (by decide)
include st
omit st in
theorem mH {a:Ex} (ha:FQ a):∀(n:Nat) (e:Ex) (s:Ps),Gs B s→(s.bad=false→FQ e)→Gs B (fg p a n e s).2∧((fg p a n e s).2.bad=false→FQ (fg p a n e s).1)
 |0,_,_,hs,he=>⟨hs,he⟩
 |n+1,e,s,hs,he=>by
  rw[fg]
  split
  ·next hc=>
   have hb:=(bx hc).1
   have h2:=h _ hs.next
   exact mH ha n _ _ h2.1 fun hb2=>ek (by omega) (he hb) (ek (by omega) ha (h2.2 hb2))
  ·exact⟨hs,he⟩
theorem yld_tail {a:Ex} (ha:FQ a):Yld B FQ (cm p a):=fun s hs=>by
 unfold cm
 cases h1:(firstP opsCmp s).1 with
 |some o=>
  simp only
  obtain⟨t,ht⟩:=eR _ _ _ h1
  have h2:=h _ (Gs.first opsCmp hs)
  have k:∀x∈opsCmp,10≤x.2∧x.2≤15:=by decide
  exact⟨h2.1,fun hb=>ek (.inr (.inl (k _ ht))) ha (h2.2 hb)⟩
 |none=>
  simp only
  split
  ·exact⟨((hs.next).opt _).need _,fun _=>lq _ (jW (by omega) ha)⟩
  split
  ·have h2:=jV _ (hs.opt kNOT).next
   exact⟨h2.1,fun hb=>lq _ (fq_like ha (h2.2 hb))⟩
  split
  ·have h2:=h _ (hs.opt kNOT).next
   have h3:=h _ (h2.1.need kAND)
   refine⟨h3.1,fun hb=>?_⟩
   have b1:=not_bad st hb
   have b2:(p (optP kNOT s).next).2.bad=false:=by
    cases hq:(p (optP kNOT s).next).2.bad with
    |false=>rfl
    |true=>rw[ev hq,hq]at b1;exact b1
   exact lq _ (ek (by omega) (ek (by omega) ha (h2.2 b2)) (ek (by omega) ha (h3.2 hb)))
  split
  ·have h2:=h _ ((hs.opt kNOT).next.need yLp)
   have h3:=mH h ha ((needP yLp (optP kNOT s).next).r.length+1) (opE 10 [a,(p (needP yLp (optP kNOT s).next)).1]) (p (needP yLp (optP kNOT s).next)).2 h2.1 (fun hb=>ek (by omega) ha (h2.2 hb))
   refine⟨h3.1.need _,fun hb=>lq _ (h3.2 ?_)⟩
   cases hq:(inP p a (needP yLp (optP kNOT s).next)).2.bad with
   |false=>exact hq
   |true=>simp only at hb;rw[ev hq,hq]at hb;cases hb
  ·refine⟨?_,fun _=>ha⟩
   simp only
   split
   ·exact hs.opt _
   ·exact hs
theorem mI:Yld B FQ (testP p):=fun s hs=>by
 unfold testP
 have h1:=yld_sum h s hs
 cases hb:(sumP p s).2.bad with
 |true=>rw[lW _ _ _ hb];exact⟨h1.1,fun h2=>by rw[hb]at h2;cases h2⟩
 |false=>exact yld_tail (yld_sum h) (stk_sum st) (h1.2 hb) _ h1.1
theorem kC:∀n,Yld B FQ (notGo p n)
 |0=>mI h st
 |n+1=>fun s hs=>by
  rw[notGo]
  split
  ·have h1:=kC n _ hs.next
   exact⟨h1.1,fun hb=>jW (by omega) (h1.2 hb)⟩
  ·exact mI h st s hs
theorem yld_or:Yld B FQ (orP p):=fc (fc (fun s hs=>kC h st _ s hs) (by decide)) (by decide)
end
theorem Gs.step {s:Ps} {t:ByteArray} (h:Gs (B+1) s) (hc:isS t s=true):Gs B s.next:=⟨by have:=aP hc;have:=h.1;omega,h.next.2⟩
theorem Gs.up {s:Ps} (h:Gs B s):Gs (B+1) s:=⟨Nat.lt_succ_of_lt h.1,h.2⟩
theorem yld_prim {p:M Ex} (h:Yld B FQ p) (st:Stk p):Yld (B+1) FQ (aE p):=fun s hs=>by
 unfold aE
 split
 ·exact⟨(dJ s hs).1,fun hb=>fq_lit1 ((dJ s hs).2 hb)⟩
 split
 ·exact⟨(jV s hs).1,fun hb=>fq_lit2 ((jV s hs).2 hb)⟩
 split
 ·exact⟨hs.next,fun _=>fq_lit0⟩
 split
 ·next hc=>
  have h1:=h _ ((hs.step hc).need yLp)
  refine⟨(h1.1.need _).up,fun hb=>jW (by omega) (h1.2 ?_)⟩
  cases hq:(p (needP yLp s.next)).2.bad with
  |false=>rfl
  |true=>simp only at hb;rw[ev hq,hq]at hb;cases hb
 split
 ·next hc=>
  have h1:=h _ (hs.step hc)
  refine⟨(h1.1.need _).up,fun hb=>h1.2 ?_⟩
  cases hq:(p s.next).2.bad with
  |false=>rfl
  |true=>simp only at hb;rw[ev hq,hq]at hb;cases hb
 ·exact yld_col s hs
theorem mJ:∀n,Yld n FQ (exprP n)
 |0=>fun s hs=>absurd hs.1 (Nat.not_lt_zero _)
 |n+1=>yld_or (yld_prim (mJ n) (lZ n)) (lY _)
theorem fd:Yld B (fun l=>namesB l=true) dN:=by
 unfold dN
 refine aj (aC _) (fun _ _=>?_) (fun _=>ae (bL (bS 1)) fun _=>ae (ay _) fun _=>ah _)
 refine aj (dz br (bS 1)) (fun l hl=>?_) (fun _=>ae (ay _) fun _=>ah _)
 refine aj (aC _) (fun _ _=>av ?_) (fun _=>ah _)
 unfold namesB
 rw[Bool.and_eq_true,List.all_eq_true]
 refine⟨?_,hl.2⟩
 cases l with
 |nil=>exact absurd rfl hl.1
 |cons a l=>rfl
theorem kD:Yld B (fun n=> -2147483648≤n∧n≤2147483648) bndP:=by
 unfold bndP
 refine aK _ (aj dJ (fun n hn=>av (by omega)) (fun _=>ah _)) (dJ.imp fun n hn=>by omega)
def TyQ (t:Int×Int×Int×Int):Prop:=
 (t.1=1∧ -2147483648≤t.2.1∧t.2.1≤2147483648∧ -2147483648≤t.2.2.1∧t.2.2.1≤2147483648∧t.2.2.2=0)∨(t.1=2∧t.2.1=0∧t.2.2.1=0∧0≤t.2.2.2∧t.2.2.2≤2147483648)
theorem yld_typ:Yld B TyQ typP:=by
 unfold typP
 refine aK _ (aK _ ?_ (av (.inl (by decide)))) (aj (aC _) (fun _ _=>aK _ ?_ (av (.inr (by decide)))) (fun _=>aY _ _ (ah _)))
 ·unfold bnd2P
  refine aj kD (fun a ha=>?_) (fun _=>ae (ay _) fun _=>ae l8 fun _=>ae (ay _) fun _=>ah _)
  refine aj (aC _) (fun _ _=>?_) (fun _=>ae l8 fun _=>ae (ay _) fun _=>ah _)
  refine aj kD (fun b hb=>?_) (fun _=>ae (ay _) fun _=>ah _)
  exact aj (aC _) (fun _ _=>av (.inl ⟨rfl,ha.1,ha.2,hb.1,hb.2,rfl⟩)) (fun _=>ah _)
 ·unfold maxP
  refine aj dJ (fun a ha=>?_) (fun _=>ae (ay _) fun _=>ah _)
  exact aj (aC _) (fun _ _=>av (.inr ⟨rfl,rfl,rfl,ha.1,ha.2⟩)) (fun _=>ah _)
theorem cd_ok {a:ByteArray} (ha:nameB a=true) {t:Int×Int×Int×Int} (ht:TyQ t) (b:Bool):Cd.ok ⟨a,t.1,t.2.1,t.2.2.1,t.2.2.2,b⟩=true:=by
 unfold Cd.ok inB
 rcases ht with ⟨h1,h2,h3,h4,h5,h6⟩|⟨h1,h2,h3,h4,h5⟩
 ·simp[h1,ha,h2,h3,h4,h5,h6]
 ·simp[h1,ha,h2,h3,h4,h5]
theorem yld_def:Yld B (fun c=>c.ok=true) defP:=by
 unfold defP
 refine aj br (fun a ha=>?_) (fun _=>ae stk_typ fun _=>aY _ _ (ah _))
 refine aj yld_typ (fun t ht=>?_) (fun _=>aY _ _ (ah _))
 exact aK _ (aj (aC _) (fun _ _=>av (cd_ok ha ht true)) (fun _=>ah _)) (av (cd_ok ha ht false))
theorem yld_ref:Yld B (fun f=>f.ok=true) refP:=by
 unfold refP
 refine aj fd (fun a ha=>?_) (fun _=>ae (ay _) fun _=>ae (bS 1) fun _=>ae db fun _=>ah _)
 refine aj (aC _) (fun _ _=>?_) (fun _=>ae (bS 1) fun _=>ae db fun _=>ah _)
 refine aj br (fun t ht=>?_) (fun _=>ae db fun _=>ah _)
 refine aj fd (fun b hb=>av ?_) (fun _=>ah _)
 unfold Rf.ok
 simp only[ha,ht,hb,Bool.and_self]
theorem lr:Yld B (fun f=>f.ok=true) srcP:=by
 unfold srcP
 refine aj br (fun a ha=>?_) (fun _=>aY _ _ (ah _))
 refine aK _ (aj br (fun b hb=>av ?_) (fun _=>ah _)) (av ?_)
 ·unfold Src.ok
  simp only[ha,hb,Bool.or_true,Bool.and_self]
 ·unfold Src.ok
  simp only[ha,Bool.true_and]
  rw[eH]
  rfl
theorem yld_ord:Yld B (fun f=>f.ok=true) (fy posP):=by
 unfold fy
 refine aj yld_pos (fun a ha=>?_) (fun _=>aY _ _ (aY _ _ (ah _)))
 have h:∀b,Ord'.ok ⟨a,b⟩=true:=fun b=>by unfold Ord'.ok inB;simp[ha.1,ha.2]
 exact aK _ (av (h _)) (aK _ (av (h _)) (av (h _)))
structure DfQ (x:Df×List ByteArray):Prop where
 cols:∀c∈x.1.cols,c.ok=true
 keys:∀c∈x.1.keys,namesB c=true
 frs:∀c∈x.1.frs,c.ok=true
 chk:∀c∈x.1.chk,FQ c
 ne:x.1.cols.length+x.1.keys.length+x.1.frs.length+x.1.chk.length≠0
theorem cn {α:Type} {P:α→Prop} {l:List α} {a:α} (h:∀x∈l,P x) (ha:P a):∀x∈l++ [a],P x:=fun x hx=>by
 rcases List.mem_append.1 hx with hx|hx
 ·exact h x hx
 ·rw[List.mem_singleton.1 hx];exact ha
def WQ (e:Ex):Prop:=(e.absent=true∨e.formed=true)∧e.unb=true
theorem wq_z:WQ exZ:=⟨.inl (by decide),by decide⟩
theorem fq_and:∀(l:List Ex) (e:Ex),FQ e→(∀x∈l,FQ x)→FQ (l.foldl (fun a b=>opE 18 [a,b]) e)
 | [],_,he,_=>he
 |a::l,e,he,hl=>fq_and l _ (ek (by omega) he (hl a List.mem_cons_self)) fun x hx=>hl x (List.mem_cons_of_mem _ hx)
theorem wq_andL {c:List Ex} (hc:∀e∈c,FQ e):WQ (andL c):=by
 cases c with
 |nil=>exact wq_z
 |cons e l=>
  have:=fq_and l e (hc e List.mem_cons_self) fun x hx=>hc x (List.mem_cons_of_mem _ hx)
  exact⟨.inr this.1,this.2⟩
section
variable {ex:M Ex} (h:Yld B FQ ex) (st:Stk ex)
include h st
theorem mK {d:Df} {l:List ByteArray} (hc:∀c∈d.cols,c.ok=true) (hk:∀c∈d.keys,namesB c=true) (hf:∀c∈d.frs,c.ok=true) (hx:∀c∈d.chk,FQ c):Yld B DfQ (elemP ex d l):=by
 unfold elemP
 refine aK _ ?_ (aK _ ?_ (aK _ ?_ (aK _ ?_ ?_)))
 ·refine aj (aC _) (fun _ _=>?_) (fun _=>ae db fun _=>ah _)
  exact aj fd (fun k hk2=>av ⟨hc,cn hk hk2,hf,hx,by simp⟩) (fun _=>ah _)
 ·exact aj fd (fun k hk2=>av ⟨hc,cn hk hk2,hf,hx,by simp⟩) (fun _=>ah _)
 ·refine aj (aC _) (fun _ _=>?_) (fun _=>ae st fun _=>ae (ay _) fun _=>ah _)
  refine aj h (fun e he=>?_) (fun _=>ae (ay _) fun _=>ah _)
  exact aj (aC _) (fun _ _=>av ⟨hc,hk,hf,cn hx he,by simp⟩) (fun _=>ah _)
 ·refine aj (aC _) (fun _ _=>?_) (fun _=>ae stk_ref fun _=>ah _)
  exact aj yld_ref (fun k hk2=>av ⟨hc,hk,cn hf hk2,hx,by simp⟩) (fun _=>ah _)
 ·exact aj yld_def (fun k hk2=>av ⟨cn hc hk2,hk,hf,hx,by simp⟩) (fun _=>ah _)
theorem jX:∀(n:Nat) (x:Df×List ByteArray),DfQ x→Yld B DfQ (dq ex n x.1 x.2)
 |0,_,hx=>av hx
 |n+1,x,hx=>aK _ (aj (mK h st hx.cols hx.keys hx.frs hx.chk) (fun y hy=>jX n y hy) (fun _=>fB ex _ _ _)) (av hx)
theorem yld_elems:Yld B DfQ (gH ex):=fun s hs=>
 aj (mK h st (d:=⟨[],[],[],[]⟩) (by simp) (by simp) (by simp) (by simp)) (fun x hx=>jX h st (s.r.length+1) x hx) (fun _=>fB ex _ _ _) s hs
theorem yld_tup:Yld B (fun l=>rowOk l=true∧∀e∈l,e.unb=true) (tupP ex):=by
 unfold tupP
 refine aj (aC _) (fun _ _=>?_) (fun _=>ae (bL st) fun _=>ae (ay _) fun _=>ah _)
 refine aj (dz h st) (fun l hl=>?_) (fun _=>ae (ay _) fun _=>ah _)
 refine aj (aC _) (fun _ _=>av ⟨?_,fun e he=> (hl.2 e he).2⟩) (fun _=>ah _)
 unfold rowOk
 rw[Bool.and_eq_true,List.all_eq_true]
 exact⟨decide_eq_true (List.length_pos_iff.2 hl.1),fun e he=> (hl.2 e he).1⟩
omit st in
theorem yld_whr:Yld B WQ (whrP ex):=aK _ (h.imp fun e he=>⟨.inr he.1,he.2⟩) (av wq_z)
theorem yld_asg:Yld B (fun a=>a.ok=true∧a.ix=0∧a.ex.unb=true) (asgP ex):=by
 unfold asgP
 refine aj br (fun a ha=>?_) (fun _=>ae (ay _) fun _=>ae st fun _=>ah _)
 refine aj (aC _) (fun _ _=>?_) (fun _=>ae st fun _=>ah _)
 refine aj h (fun e he=>av ⟨?_,rfl,he.2⟩) (fun _=>ah _)
 unfold Asg.ok
 simp only[ha,he.1,Bool.and_self]
theorem yld_itm:Yld B (fun x=>x.ok=true∧x.ex.unb=true) (fz ex):=by
 have one:∀o:Int,2≤o→o≤5→Yld B (fun x:Itm=>x.ok=true∧x.ex.unb=true) (iy ex o):=fun o h1 h2=>by
  unfold iy
  refine aj h (fun e he=>?_) (fun _=>ae (ay _) fun _=>ah _)
  refine aj (aC _) (fun _ _=>av ⟨?_,he.2⟩) (fun _=>ah _)
  unfold Itm.ok
  rw[if_neg (by simp;omega),he.1]
  simp;omega
 unfold fz
 refine yld_fst _ (fun o ho=>aj (aC _) (fun _ _=>?_) (fun _=>?_)) (aj h (fun e he=>av ⟨?_,he.2⟩) (fun _=>ah _))
 ·obtain⟨t,ht⟩:=ho
  have k:∀x∈opsAgg,2≤x.2∧x.2≤5:=by decide
  have:=k _ ht
  split
  ·exact aK _ (aj (aC _) (fun _ _=>av (by decide)) (fun _=>ah _)) (one o this.1 this.2)
  ·exact one o this.1 this.2
 ·split
  ·exact aY _ _ (ma st o)
  ·exact ma st o
 ·unfold Itm.ok
  rw[if_neg (by simp),he.1]
  rfl
theorem fP:∀(n:Nat) (l:List Src) (c:List Ex),(∀x∈l,x.ok=true)→l≠[]→(∀e∈c,FQ e)→Yld B (fun x=> (∀y∈x.1,y.ok=true)∧x.1≠[]∧∀e∈x.2,FQ e) (fromGo ex n l c)
 |0,_,_,h1,h2,h3=>av ⟨h1,h2,h3⟩
 |n+1,l,c,h1,h2,h3=>by
  refine aK _ (aj lr (fun x hx=>fP n _ _ (cn h1 hx) (by simp) h3) (fun _=>cu ex _ _ _)) (aK _ ?_ (av ⟨h1,h2,h3⟩))
  refine aj lr (fun x hx=>?_) (fun _=>ae (ay _) fun _=>ae st fun _=>cu ex _ _ _)
  refine aj (aC _) (fun _ _=>?_) (fun _=>ae st fun _=>cu ex _ _ _)
  exact aj h (fun e he=>fP n _ _ (cn h1 hx) (by simp) (cn h3 he)) (fun _=>cu ex _ _ _)
theorem yld_from:Yld B (fun x=> (∀y∈x.1,y.ok=true)∧x.1≠[]∧∀e∈x.2,FQ e) (fromP ex):=fun s hs=>
 aj lr (fun x hx=>fP h st (s.r.length+1) [x] [] (by simpa using hx) (by simp) (by simp)) (fun _=>cu ex _ _ _) s hs
omit st in
theorem yld_cond {c:List Ex} (hc:∀e∈c,FQ e):Yld B WQ (et ex andL c):=
 aK _ (aj h (fun e he=>av (wq_andL (cn hc he))) (fun _=>ah _)) (av (wq_andL hc))
end
end
end
section
open Lx (Tk isDigit isLetter inWord spanN isPrint)
def dn (k:List UInt8):List Nat:=k.map fun c=>c.toNat+32
theorem kw_same:kwWords=Lx.kwNames.map dn:=by decide+kernel
theorem up_low {c:UInt8} (h:Lx.lowW c=true) (hu:isLetter (Lx.upC c)=true):c.toNat=(Lx.upC c).toNat+32:=by
 have h1:=Lx.upC_num c
 rw[Lx.up_letter]at hu
 unfold Lx.lowW isDigit at h
 unfold isLetter at hu
 split at h1<;>grind
theorem dn_up:∀l:List UInt8,(∀c∈l,Lx.lowW c=true)→(∀c∈l.map Lx.upC,isLetter c=true)→l.map UInt8.toNat=dn (l.map Lx.upC)
 | [],_,_=>rfl
 |c::l,h,k=>by
  have h1:=up_low (h c List.mem_cons_self) (k _ (by simp))
  have h2:=dn_up l (fun x hx=>h x (List.mem_cons_of_mem _ hx)) (fun x hx=>k x (by rw[List.map_cons];exact List.mem_cons_of_mem _ hx))
  simp only[List.map_cons,dn,List.cons.injEq]at h2 ⊢
  exact⟨h1,h2⟩
theorem up_dn:∀(l k:List UInt8),(∀c∈k,isLetter c=true∧c.toNat≤90)→l.map UInt8.toNat=dn k→l.map Lx.upC=k
 | [],[],_,_=>rfl
 | [],_::_,_,h=>by simp[dn]at h
 |_::_,[],_,h=>by simp[dn]at h
 |a::l,b::k,hk,h=>by
  simp only[dn,List.map_cons,List.cons.injEq]at h
  have hb:=hk b List.mem_cons_self
  have h1:=Lx.upC_num a
  have hb1:=hb.1
  unfold isLetter at hb1
  rw[List.map_cons,up_dn l k (fun c hc=>hk c (List.mem_cons_of_mem _ hc)) h.2]
  congr 1
  refine Lx.num_ext _ _ ?_
  rw[h1,if_pos (by grind)]
  omega
theorem kw_caps:∀k∈Lx.kwNames,∀c∈k,isLetter c=true∧c.toNat≤90:=by
 have:(Lx.kwNames.all fun k=>k.all fun c=>isLetter c&&decide (c.toNat≤90))=true:=by decide+kernel
 intro k hk c hc
 have h:=List.all_eq_true.1 (List.all_eq_true.1 this k hk) c hc
 simpa using h
theorem kw_iff (l:List UInt8) (hl:∀c∈l,Lx.lowW c=true):Lx.isKw l=kwWords.contains (l.map UInt8.toNat):=by
 rw[Bool.eq_iff_iff]
 unfold Lx.isKw
 rw[decide_eq_true_iff,List.contains_iff_mem,kw_same]
 constructor
 ·intro h
  rw[dn_up l hl fun c hc=> (kw_caps _ h c hc).1]
  exact List.mem_map_of_mem h
 ·intro h
  obtain⟨k,hk,e⟩:=List.mem_map.1 h
  rw[up_dn l k (kw_caps k hk) e.symm]
  exact hk
theorem low_nm (c:UInt8):Lx.lowW c=cg c.toNat:=by
 unfold Lx.lowW cg eo isDigit
 rw[Bool.eq_iff_iff]
 simp only[Bool.or_eq_true,Bool.and_eq_true,decide_eq_true_eq,beq_iff_eq]
 omega
theorem mL (s:ByteArray):nameB s=Lx.nameP s.data.toList:=by
 unfold nameB fV Lx.nameP N
 cases h:s.data.toList with
 |nil=>rfl
 |cons c r=>
  have e1:((c::r).map UInt8.toNat).all cg=(c::r).all Lx.lowW:=by
   rw[List.all_map]
   congr 1
   funext c
   exact(low_nm c).symm
  rw[e1]
  cases ha:(c::r).all Lx.lowW with
  |false=>simp
  |true=>
   rw[←kw_iff _ (List.all_eq_true.1 ha),List.length_map]
   simp only[List.map_cons,d9,eo,Bool.and_true]
   rw[Bool.eq_iff_iff]
   simp only[Bool.and_eq_true,decide_eq_true_eq,Bool.not_eq_true']
   constructor
   ·rintro⟨⟨h1,h2⟩,h3⟩;exact⟨⟨h2,h1⟩,h3⟩
   ·rintro⟨⟨h1,h2⟩,h3⟩;exact⟨⟨h2,h1⟩,h3⟩
theorem jY {s:ByteArray} (h:nameB s=true):Lx.nameP s.data.toList=true:=by rw[←mL];exact h
theorem up_lo (c:UInt8):Lx.upC (Lx.loC c)=Lx.upC c:=by
 apply Lx.num_ext
 have h:=Lx.upC_num (Lx.loC c)
 have h2:=Lx.loC_num c
 have h3:=Lx.upC_num c
 split at h<;>split at h2<;>split at h3<;>omega
theorem lo_low {c:UInt8} (h:inWord c=true):Lx.lowW (Lx.loC c)=true:=by
 have h2:=Lx.loC_num c
 unfold inWord isLetter isDigit at h
 unfold Lx.lowW isDigit
 split at h2<;>grind
theorem word_name {l:List UInt8} {c:UInt8} {r:List UInt8} (hl:l=c::r) (hc:isLetter c=true) (hw:∀x∈l,inWord x=true) (hn:l.length≤24) (hk:Lx.isKw l=false):nameB ⟨(l.map Lx.loC).toArray⟩=true:=by
 rw[mL]
 have e:Lx.isKw (l.map Lx.loC)=false:=by
  unfold Lx.isKw at hk ⊢
  rw[List.map_map]
  have:Lx.upC∘Lx.loC=Lx.upC:=funext up_lo
  rw[this]
  exact hk
 show Lx.nameP (l.map Lx.loC).toArray.toList=true
 rw[List.toList_toArray]
 subst hl
 have np:∀(a:UInt8) (m:List UInt8),Lx.nameP (a::m)=(decide ((a::m).length≤24) && (decide (97≤a.toNat) &&decide (a.toNat≤122)) && (a::m).all Lx.lowW&&!(Lx.isKw (a::m))):=fun _ _=>rfl
 rw[List.map_cons,np,←List.map_cons,e,List.length_map]
 simp only[Bool.and_eq_true,decide_eq_true_eq,List.all_eq_true,Bool.not_false,and_true]
 refine⟨⟨hn,?_⟩,fun x hx=>?_⟩
 ·have h2:=Lx.loC_num c
  unfold isLetter at hc
  split at h2<;>grind
 ·obtain⟨y,hy,rfl⟩:=List.mem_map.1 hx
  exact lo_low (hw y hy)
theorem gZ:∀(l X:List UInt8) (i:Nat) (q:List UInt8×Nat),Lx.litF l X i=some q→(∀c∈X,isPrint c=true)→∀c∈q.1,isPrint c=true
 | [],X,i,q,h,_=>by simp[Lx.litF]at h
 | [c],X,i,q,h,hX=>by
  rw[Lx.litF]at h
  split at h
  ·cases h
  split at h
  ·cases h;exact hX
  ·simp[Lx.litF]at h
 |c::d::r,X,i,q,h,hX=>by
  rw[Lx.litF]at h
  split at h
  ·cases h
  next hp=>
  split at h
  ·split at h
   ·next h2=>
    refine gZ r _ _ q h fun x hx=>?_
    rcases List.mem_append.1 hx with hx|hx
    ·exact hX x hx
    ·rw[List.mem_singleton.1 hx];unfold isPrint;rw[h2];rfl
   ·cases h;exact hX
  ·refine gZ (d::r) _ _ q h fun x hx=>?_
   rcases List.mem_append.1 hx with hx|hx
   ·exact hX x hx
   ·rw[List.mem_singleton.1 hx];simpa using hp
theorem tok_gt (c:UInt8) (r:List UInt8) (k:Nat) (x:List UInt8) (n p:Nat) (h:Lx.tokL (c::r)= .tok k x n):Gt ⟨k,x,p⟩:=by
 rw[Lx.tokL]at h
 split at h
 ·next hc=>
  unfold Lx.wordL at h
  split at h
  ·cases h;exact⟨(fun h=>nomatch h),(fun h=>nomatch h),(fun h=>nomatch h)⟩
  ·next hk=>
   split at h
   ·cases h
   ·next hn=>
    cases h
    have h1:=Lx.span_pos inWord c r (Lx.letter_word c hc)
    have h2:=Lx.span_le inWord (c::r)
    refine⟨fun _=>?_,(fun h=>nomatch h),(fun h=>nomatch h)⟩
    refine word_name (c:=c) (r:=r.take (spanN inWord (c::r)-1)) ?_ hc (Lx.span_all inWord (c::r)) ?_ (by simpa using hk)
    ·obtain⟨m,hm⟩:∃m,spanN inWord (c::r)=m+1:=⟨spanN inWord (c::r)-1,by omega⟩
     rw[hm,List.take_succ_cons,Nat.add_sub_cancel]
    ·rw[List.length_take];omega
 split at h
 ·unfold Lx.numL at h
  split at h
  ·cases h
  ·split at h
   ·cases h
   ·next hv=>
    cases h
    refine⟨(fun h=>nomatch h),fun _=>?_,(fun h=>nomatch h)⟩
    unfold eb tkB
    simp only[List.toList_toArray]
    omega
 split at h
 ·unfold Lx.textL at h
  cases hl:Lx.litF r [] 1 with
  |none=>rw[hl]at h;cases h
  |some q=>
   obtain⟨X,i⟩:=q
   rw[hl]at h
   simp only at h
   split at h
   ·cases h
   ·next hn=>
    cases h
    refine⟨(fun h=>nomatch h),(fun h=>nomatch h),fun _=>?_⟩
    have hp:=gZ r [] 1 _ hl (by simp)
    unfold dC N tkB
    simp only[Bool.and_eq_true,List.all_eq_true,decide_eq_true_eq,List.toList_toArray]
    refine⟨fun y hy=>?_,?_⟩
    ·obtain⟨z,hz,rfl⟩:=List.mem_map.1 hy
     have:=hp z hz
     unfold isPrint at this
     simpa using this
    ·show x.toArray.size≤16
     simp
     omega
 ·unfold Lx.symL at h
  split at h
  ·cases h
  ·cases h;exact⟨(fun h=>nomatch h),(fun h=>nomatch h),(fun h=>nomatch h)⟩
theorem toks_gt:∀(f:Nat) (l:List UInt8) (p:Nat) (L:List Tk),Lx.toksF f l p= .ok L→∀a∈L,Gt a
 |0,_,_,_,h=>by cases h
 |f+1,l,p,L,h=>by
  rw[Lx.toksF]at h
  cases hd:l.drop (Lx.skipN false l)with
  |nil=>
   rw[hd]at h
   injection h with h
   subst h
   intro a ha
   rw[List.mem_singleton.1 ha]
   exact⟨(fun h=>nomatch h),(fun h=>nomatch h),(fun h=>nomatch h)⟩
  |cons c r=>
   rw[hd]at h
   cases ht:Lx.tokL (c::r)with
   |bad e=>simp only[ht]at h;cases h
   |tok k x n=>
    simp only[ht]at h
    cases hr:Lx.toksF f ((c::r).drop n) (p+Lx.skipN false l+n)with
    |bad a e=>rw[hr]at h;cases h
    |ok M=>
     rw[hr]at h
     have h2: [(⟨k,x,p+Lx.skipN false l⟩:Tk)]++M=L:=by injection h
     subst h2
     intro a ha
     rcases List.mem_append.1 ha with ha|ha
     ·rw[List.mem_singleton.1 ha];exact tok_gt c r k x n _ ht
     ·exact toks_gt f _ _ M hr a ha
theorem gt_of {s:ByteArray} {L:List Tk} (h:Lx.tokAll s= .ok L):∀a∈L,Gt a:=by
 unfold Lx.tokAll at h
 split at h
 ·cases h
 ·exact toks_gt _ _ _ L h
end
section
open Lx (Tk isDigit isLetter inWord spanN isPrint)
abbrev Kt:=Nat×List UInt8
def er (a:Tk):Kt:=(a.kind,a.text)
def cp (P:List UInt8→Prop) (l:List UInt8) (K:List Kt):Prop:=∀(b:List UInt8) (p:Nat),P b→∃ts:List Tk,ts.map er=K∧Lx.T (l++b) p=(Lx.T b (p+l.length)).pre ts
def Any (_:List UInt8):Prop:=True
def NoW (b:List UInt8):Prop:=Lx.headW b=false
def fQ (b:List UInt8):Prop:=b= []∨∃c t,b=c::t∧(c=32∨c=41∨c=44∨c=59∨c=10)
theorem fQ.now {b:List UInt8} (h:fQ b):NoW b:=by
 rcases h with rfl|⟨c,t,rfl,rfl|rfl|rfl|rfl|rfl⟩<;>rfl
theorem cp.cat {P Q:List UInt8→Prop} {l m:List UInt8} {K H:List Kt} (h:cp P l K) (k:cp Q m H) (hp:∀b,Q b→P (m++b)):cp Q (l++m) (K++H):=fun b p hb=>by
 obtain⟨ts,h1,h2⟩:=h (m++b) p (hp b hb)
 obtain⟨us,k1,k2⟩:=k b (p+l.length) hb
 refine⟨ts++us,by rw[List.map_append,h1,k1],?_⟩
 rw[List.append_assoc,h2,k2,Lx.pre_pre,List.length_append,Nat.add_assoc]
theorem cp.imp {P Q:List UInt8→Prop} {l:List UInt8} {K:List Kt} (h:cp P l K) (hp:∀b,Q b→P b):cp Q l K:=fun b p hb=>h b p (hp b hb)
theorem dK {P:List UInt8→Prop} {c:UInt8} {r:List UInt8} {k:Nat} {x:List UInt8} (hs:∀b,P b→Lx.skipN false (c::(r++b))=0) (ht:∀b,P b→Lx.tokL (c::(r++b))= .tok k x (r.length+1)):cp P (c::r) [(k,x)]:=fun b p hb=>by
 refine⟨[⟨k,x,p⟩],rfl,?_⟩
 rw[List.cons_append,Lx.T_tok _ p c (r++b) k x _ (by rw[hs b hb];rfl) (ht b hb),hs b hb]
 have e:(c::(r++b)).drop (r.length+1)=b:=by simp
 rw[e]
 rfl
theorem dZ:cp Any [32] []:=fun b p _=>by
 refine⟨[],rfl,?_⟩
 have e:Lx.T ([32]++b) p=Lx.T b (p+1):=by
  have h:Lx.skipN false ([32]++b)=Lx.skipN false b+1:=by simp[Lx.skipN]
  refine Lx.T_skip _ _ _ _ ?_ (by omega)
  rw[h];rfl
 rw[e]
 show _=(Lx.T b (p+1)).pre []
 cases Lx.T b (p+1)<;>rfl
theorem cJ {c:UInt8} (hc:c=40∨c=41∨c=44∨c=46∨c=42∨c=43∨c=47∨c=37∨c=59∨c=61):cp Any [c] [(5,[c])]:=by
 have h:isLetter c=false∧isDigit c=false∧¬c.toNat=39∧c∈Lx.syms∧¬c=60∧¬c=62∧¬(c.toNat=32∨c.toNat=9∨c.toNat=10)∧¬c.toNat=45:=by
  rcases hc with rfl|rfl|rfl|rfl|rfl|rfl|rfl|rfl|rfl|rfl<;>decide
 refine dK (fun b _=>?_) (fun b _=>?_)
 ·show Lx.skipN false (c::b)=0
  rw[Lx.skipN,if_neg h.2.2.2.2.2.2.1,if_neg (fun e=>h.2.2.2.2.2.2.2 e.1)]
 ·show Lx.tokL (c::b)=_
  rw[Lx.tokL,h.1,h.2.1]
  rw[if_neg (by simp),if_neg (by simp),if_neg h.2.2.1]
  have e:Lx.symN (c::b)=1:=by
   cases b with
   |nil=>rw[Lx.symN,if_pos h.2.2.2.1]
   |cons d r=>rw[Lx.symN,if_neg (by rintro(e|e|e);exact h.2.2.2.2.1 e.1;exact h.2.2.2.2.1 e.1;exact h.2.2.2.2.2.1 e.1),if_pos h.2.2.2.1]
  unfold Lx.symL
  rw[e]
  rfl
theorem kE:cp (fun b=>b.head?≠some 45) [45] [(5,[45])]:=by
 refine dK (fun b hb=>?_) (fun b hb=>?_)
 ·show Lx.skipN false (45::b)=0
  rw[Lx.skipN,if_neg (by decide),if_neg (fun e=>hb e.2)]
 ·show Lx.tokL (45::b)=_
  rw[Lx.tokL,if_neg (by decide),if_neg (by decide),if_neg (by decide)]
  have e:Lx.symN (45::b)=1:=by
   cases b with
   |nil=>rfl
   |cons d r=>rw[Lx.symN,if_neg (by rintro(e|e|e);exact absurd e.1 (by decide);exact absurd e.1 (by decide);exact absurd e.1 (by decide)),if_pos (by decide)]
  unfold Lx.symL
  rw[e]
  rfl
theorem lex_ang {c:UInt8} (hc:c=60∨c=62):cp (fun b=>b.head? =some 32) [c] [(5,[c])]:=by
 refine dK (fun b hb=>?_) (fun b hb=>?_)
 ·show Lx.skipN false (c::b)=0
  rcases hc with rfl|rfl<;> (rw[Lx.skipN,if_neg (by decide),if_neg (fun e=>absurd e.1 (by decide))])
 ·cases b with
  |nil=>cases hb
  |cons d r=>
   simp at hb
   subst hb
   show Lx.tokL (c::32::r)=_
   rcases hc with rfl|rfl<;>
   ·rw[Lx.tokL,if_neg (by decide),if_neg (by decide),if_neg (by decide)]
    unfold Lx.symL
    have e:∀x:UInt8,x=60∨x=62→Lx.symN (x::32::r)=1:=fun x hx=>by
     rcases hx with rfl|rfl<;> (rw[Lx.symN,if_neg (by decide),if_pos (by decide)])
    rw[e _ (by decide)]
    rfl
theorem ls {c d:UInt8} (hc:(c=60∧d=62)∨(c=60∧d=61)∨(c=62∧d=61)):cp Any [c,d] [(5,[c,d])]:=by
 refine dK (fun b hb=>?_) (fun b hb=>?_)
 ·show Lx.skipN false (c::d::b)=0
  rcases hc with ⟨rfl,rfl⟩|⟨rfl,rfl⟩|⟨rfl,rfl⟩<;> (rw[Lx.skipN,if_neg (by decide),if_neg (fun e=>absurd e.1 (by decide))])
 ·show Lx.tokL (c::d::b)=_
  rcases hc with ⟨rfl,rfl⟩|⟨rfl,rfl⟩|⟨rfl,rfl⟩<;>
  ·rw[Lx.tokL,if_neg (by decide),if_neg (by decide),if_neg (by decide)]
   unfold Lx.symL
   have e:∀x y:UInt8,(x=60∧y=62)∨(x=60∧y=61)∨(x=62∧y=61)→Lx.symN (x::y::b)=2:=fun x y hx=>by rw[Lx.symN,if_pos hx]
   rw[e _ _ (by decide)]
   rfl
theorem fe (f:UInt8→Bool):∀(l b:List UInt8),(∀c∈l,f c=true)→(b= []∨∃c t,b=c::t∧f c=false)→spanN f (l++b)=l.length
 | [],b,_,hb=>by
  rcases hb with rfl|⟨c,t,rfl,h⟩
  ·rfl
  ·simp[spanN,h]
 |a::l,b,hl,hb=>by
  rw[List.cons_append,spanN,if_pos (hl a List.mem_cons_self),fe f l b (fun c hc=>hl c (List.mem_cons_of_mem _ hc)) hb,List.length_cons]
theorem jZ {b:List UInt8} (h:NoW b):b= []∨∃c t,b=c::t∧inWord c=false:=by
 cases b with
 |nil=>exact .inl rfl
 |cons c t=>exact .inr ⟨c,t,rfl,h⟩
theorem mM {l:List UInt8} (h:Lx.nameP l=true):cp NoW l [(1,l)]:=by
 cases l with
 |nil=>cases h
 |cons c r=>
  unfold Lx.nameP at h
  simp only[Bool.and_eq_true,decide_eq_true_eq,List.all_eq_true,Bool.not_eq_true']at h
  obtain⟨⟨⟨h1,h2⟩,h3⟩,h4⟩:=h
  have hl:isLetter c=true:=by unfold isLetter;grind
  have hm:(c::r).map Lx.loC=c::r:=by
   conv=>rhs;rw[←List.map_id (c::r)]
   exact List.map_congr_left fun x hx=> (Lx.low_word x (h3 x hx)).2
  refine dK (fun b _=>Lx.letter_skip c _ hl) (fun b hb=>?_)
  have hs:spanN inWord (c::(r++b))=(c::r).length:=fe inWord (c::r) b (fun x hx=> (Lx.low_word x (h3 x hx)).1) (jZ hb)
  have ht:(c::(r++b)).take (c::r).length=c::r:=List.take_left' (l₁:=c::r) rfl
  rw[Lx.tokL,if_pos hl]
  unfold Lx.wordL
  rw[hs,ht,h4,if_neg (by decide),if_neg (by omega),hm]
  rfl
theorem eE {l:List UInt8} (h:l∈Lx.kwNames):cp NoW l [(2,l)]:=by
 obtain⟨h1,h2⟩:=Lx.kw_letters l h
 have up:∀k∈Lx.kwNames,k.map Lx.upC=k:=by decide+kernel
 have hu:=up l h
 cases l with
 |nil=>exact absurd rfl h1
 |cons c r=>
  have hc:=h2 c List.mem_cons_self
  refine dK (fun b _=>Lx.letter_skip c _ hc) (fun b hb=>?_)
  have hs:spanN inWord (c::(r++b))=(c::r).length:=fe inWord (c::r) b (fun x hx=>Lx.letter_word x (h2 x hx)) (jZ hb)
  have ht:(c::(r++b)).take (c::r).length=c::r:=List.take_left' (l₁:=c::r) rfl
  rw[Lx.tokL,if_pos hc]
  unfold Lx.wordL
  have hk:Lx.isKw (c::r)=true:=by unfold Lx.isKw;rw[hu];exact decide_eq_true h
  rw[hs,ht,hk,if_pos rfl,hu]
  rfl
theorem dig_word (c:UInt8) (h:isDigit c=true):inWord c=true:=by unfold inWord;rw[h];simp
theorem now_dig {b:List UInt8} (h:NoW b):b= []∨∃c t,b=c::t∧isDigit c=false:=by
 rcases jZ h with rfl|⟨c,t,rfl,hc⟩
 ·exact .inl rfl
 ·refine .inr ⟨c,t,rfl,?_⟩
  cases hd:isDigit c with
  |false=>rfl
  |true=>rw[dig_word c hd]at hc;cases hc
theorem nB {c:UInt8} {r:List UInt8} (hd:∀x∈c::r,isDigit x=true) (h0:r≠[]→c≠48) (hv:Lx.digVal (c::r)≤2147483648):cp NoW (c::r) [(3,c::r)]:=by
 have hc:=hd c List.mem_cons_self
 have hcn:48≤c.toNat∧c.toNat≤57:=by
  unfold isDigit at hc
  simpa using hc
 have hl:isLetter c=false:=by
  unfold isLetter
  simp
  omega
 refine dK (fun b _=>?_) (fun b hb=>?_)
 ·rw[Lx.skipN,if_neg (by omega),if_neg (by omega)]
 ·have hs:spanN isDigit (c::(r++b))=(c::r).length:=fe isDigit (c::r) b hd (now_dig hb)
  have ht:(c::(r++b)).take (c::r).length=c::r:=List.take_left' (l₁:=c::r) rfl
  have hdr:(c::(r++b)).drop (c::r).length=b:=List.drop_left' (l₁:=c::r) rfl
  rw[Lx.tokL,hl,if_neg (by decide),if_pos hc]
  unfold Lx.numL
  rw[hs,ht,hdr,if_neg,if_neg (by omega)]
  ·rfl
  ·rintro(⟨e1,e2⟩|e)
   ·simp at e2
    cases r with
    |nil=>simp at e1
    |cons d r=>exact h0 (by simp) e2
   ·rw[show Lx.headW b=false from hb]at e;cases e
theorem g9:∀(l X:List UInt8) (i:Nat) (b:List UInt8),(∀c∈l,isPrint c=true)→b.head?≠some 39→Lx.litF (Lx.flat l++39::b) X i=some (X++l,i+(Lx.flat l).length+1)
 | [],X,i,b,_,hb=>by
  rw[Lx.flat,List.nil_append,Lx.lit_cons,if_neg (by decide),if_pos (by decide),List.append_nil]
  cases b with
  |nil=>rfl
  |cons d r=>
   have hd:¬d.toNat=39:=fun e=>hb (by rw[List.head?_cons,Lx.num_ext d 39 e])
   simp only
   rw[if_neg hd]
   rfl
 |c::r,X,i,b,h,hb=>by
  have hc:=h c List.mem_cons_self
  have hr:∀x∈r,isPrint x=true:=fun x hx=>h x (List.mem_cons_of_mem _ hx)
  rw[Lx.flat]
  by_cases hq:c.toNat=39
  ·rw[if_pos hq,List.cons_append,List.cons_append,Lx.lit_cons,hc,if_neg (by decide),if_pos hq]
   show(if c.toNat=39 then Lx.litF (Lx.flat r++39::b) (X++ [c]) (i+1+1)else some (X,i+1))=_
   rw[if_pos hq,g9 r (X++ [c]) (i+1+1) b hr hb,List.append_assoc]
   simp only[List.length_cons,List.singleton_append,Option.some.injEq,Prod.mk.injEq,true_and]
   omega
  ·rw[if_neg hq,List.cons_append,Lx.lit_cons,hc,if_neg (by decide),if_neg hq,g9 r (X++ [c]) (i+1) b hr hb,List.append_assoc]
   simp only[List.length_cons,List.singleton_append,Option.some.injEq,Prod.mk.injEq,true_and]
   omega
theorem lex_text {l:List UInt8} (h:∀c∈l,isPrint c=true) (hn:l.length≤16):cp (fun b=>b.head?≠some 39) (39::(Lx.flat l++ [39])) [(4,l)]:=by
 refine dK (fun b _=>?_) (fun b hb=>?_)
 ·rw[Lx.skipN,if_neg (by decide),if_neg (fun e=>absurd e.1 (by decide))]
 ·rw[Lx.tokL,if_neg (by decide),if_neg (by decide),if_pos (by decide)]
  unfold Lx.textL
  have e:Lx.flat l++ [39]++b=Lx.flat l++39::b:=by simp
  rw[e,g9 l [] 1 b h hb]
  simp only[List.nil_append,List.length_append,List.length_cons,List.length_nil]
  rw[if_neg (by omega)]
  congr 1
  omega
theorem dv_snoc (l:List UInt8) (c:UInt8):Lx.digVal (l++ [c])=10*Lx.digVal l+(c.toNat-48):=by
 unfold Lx.digVal
 rw[List.foldl_append]
 rfl
theorem dig_of {n:Nat} (h:n<10):(UInt8.ofNat (48+n)).toNat=48+n:=by
 rw[UInt8.toNat_ofNat']
 omega
theorem hH:∀u:Nat,(∀x∈Lib.decDigits u,isDigit x=true)∧Lx.digVal (Lib.decDigits u)=u∧(∃c r,Lib.decDigits u=c::r∧(r≠[]→c≠48)∧(u≠0→c≠48)):=by
 intro u
 induction u using Nat.strongRecOn with
 |ind u ih=>
  rw[Lib.decDigits]
  by_cases h:u<10
  ·rw[dif_pos h]
   have e:=dig_of h
   refine⟨fun x hx=>?_,?_,⟨_,[],rfl,by simp,fun h0 e0=>?_⟩⟩
   ·rw[List.mem_singleton.1 hx]
    unfold isDigit
    rw[e]
    simp
    omega
   ·show 10*0+(_-48)=_
    rw[e]
    omega
   ·rw[e0]at e
    have:(48:UInt8).toNat=48:=rfl
    omega
  ·rw[dif_neg h]
   obtain⟨h1,h2,c,r,h3,h4,h5⟩:=ih (u/10) (by omega)
   have e:=dig_of (n:=u%10) (by omega)
   refine⟨fun x hx=>?_,?_,⟨c,r++ [UInt8.ofNat (48+u%10)],by rw[h3];rfl,fun _=>h5 (by omega),fun _=>h5 (by omega)⟩⟩
   ·rcases List.mem_append.1 hx with hx|hx
    ·exact h1 x hx
    ·rw[List.mem_singleton.1 hx]
     unfold isDigit
     rw[e]
     simp
     omega
   ·rw[dv_snoc,h2,e]
    omega
theorem j0 {n:Int} (h:0≤n):(itoB n).data.toList=Lib.decDigits n.toNat:=by
 obtain⟨u,rfl⟩:=Int.eq_ofNat_of_zero_le h
 unfold itoB Lib.itoa
 rw[if_neg (by omega)]
theorem lex_num {n:Int} (h0:0≤n) (h1:n≤2147483648):cp NoW (itoB n).data.toList [(3,(itoB n).data.toList)]:=by
 obtain⟨d1,d2,c,r,d3,d4,_⟩:=hH n.toNat
 rw[j0 h0,d3]
 refine nB (by rw[←d3];exact d1) d4 ?_
 rw[←d3,d2]
 omega
theorem digV_ito {n:Int} (h0:0≤n):eb (itoB n)=n:=by
 unfold eb
 rw[j0 h0,(hH n.toNat).2.1]
 omega
theorem print_of {s:ByteArray} (h:dC s=true):(∀c∈s.data.toList,isPrint c=true)∧s.data.toList.length≤16:=by
 unfold dC at h
 simp only[Bool.and_eq_true,List.all_eq_true,decide_eq_true_eq]at h
 refine⟨fun c hc=>?_,h.2⟩
 have:=h.1 c.toNat (List.mem_map_of_mem hc)
 unfold isPrint
 simpa using this
theorem flat_quo (l:List UInt8):quo l=Lx.flat l:=by
 induction l with
 |nil=>rfl
 |cons c r ih=>
  rw[quo,Lx.flat,ih]
  by_cases h:c=39
  ·subst h
   rw[if_pos rfl,if_pos (by decide)]
  ·have h2:¬c.toNat=39:=fun e=>h (Lx.num_ext c 39 e)
   rw[if_neg h,if_neg h2]
end
section
open Lx (Tk isDigit isLetter inWord spanN isPrint)
def brK (op:Int) (K:List Kt) (r:Int):List Kt:=if lvl op<r then (5,[40])::(K++ [(5,[41])])else K
def sgK (op:Int):Kt:=(if op=16∨op=18∨op=19 then 2 else 5,(sgn op).data.toList)
def tkD (d:Nd) (xs:List (Int×List Kt)):List Kt:=
 let x:=xs.getD 0 (0,[])
 let y:=xs.getD 1 (0,[])
 if d.op=1 then (if d.vk=1 then [(3,(itoB d.vi).data.toList)]else if d.vk=2 then [(4,d.vt.data.toList)]else [(2,[78,85,76,76])])
 else if d.op=2 then (if d.tb.size=0 then [(1,d.nm.data.toList)]else [(1,d.tb.data.toList),(5,[46]),(1,d.nm.data.toList)])
 else if d.op=3 then (5,[45])::brK x.1 x.2 8
 else if d.op=9 then (2,[76,69,78,71,84,72])::(5,[40])::(brK x.1 x.2 1++ [(5,[41])])
 else if d.op=17 then brK x.1 x.2 5++ [(2,[73,83]),(2,[78,85,76,76])]
 else if d.op=20 then (2,[78,79,84])::brK x.1 x.2 3
 else brK x.1 x.2 (if lvl d.op=4 then 5 else lvl d.op)++sgK d.op::brK y.1 y.2 (lvl d.op+1)
mutual
def Ex.tkp:Ex→List Kt
 | .mk d ks=>tkD d (tkpL ks)
def tkpL:List Ex→List (Int×List Kt)
 | []=> []
 |e::es=> (e.d.op,e.tkp)::tkpL es
end
def Ex.tk (e:Ex) (r:Int):List Kt:=brK e.d.op e.tkp r
mutual
def Ex.st0:Ex→Ex
 | .mk d ks=> .mk { d with ix:=0 } (dQ ks)
def dQ:List Ex→List Ex
 | []=> []
 |e::es=>e.st0::dQ es
end
theorem st0_same:∀e:Ex,e.st0.same e=true:=by
 intro e
 induction e using Ex.ind with
 |h d ks ih=>
  rw[Ex.st0,Ex.same]
  have:sameL (dQ ks) ks=true:=by
   clear d
   induction ks with
   |nil=>rfl
   |cons a l ih2=>rw[dQ,sameL,ih a (by simp),ih2 fun e he=>ih e (by simp[he])];rfl
  rw[this]
  simp[Nd.same]
theorem cS {s:ByteArray} (h:s.size=0):s=⟨#[]⟩:=by
 cases s with
 |mk a=>exact congrArg ByteArray.mk (Array.eq_empty_of_size_eq_zero h)
def ctl (a:Kt):Nat:=
 if a.1=2∨a.1=5 then
  (if a.2= [79,82]then 1 else if a.2= [65,78,68]then 2
  else if a.2= [61]∨a.2= [60,62]∨a.2= [60]∨a.2= [60,61]∨a.2= [62]∨a.2= [62,61]∨a.2= [73,83]∨a.2= [78,79,84]∨a.2= [76,73,75,69]∨a.2= [66,69,84,87,69,69,78]∨a.2= [73,78]then 4
  else if a.2= [43]∨a.2= [45]then 5 else if a.2= [42]∨a.2= [47]∨a.2= [37]then 6 else if a.2= [46]then 9 else 0)
 else 0
def Ps.c (s:Ps):Nat:=ctl (er s.hd)
theorem isS_ctl {t:ByteArray} {s:Ps} (h:isS t s=true):s.c=ctl (2,t.data.toList):=by
 obtain⟨_,a,l,h1,h2,h3,_⟩:=bx h
 have e:s.hd=a:=by unfold Ps.hd;rw[h1];rfl
 unfold Ps.c
 rw[e,←h3]
 have key:∀(k:Nat) (x:List UInt8),(k=2∨k=5)→ctl (k,x)=ctl (2,x):=fun k x hk=>by
  rcases hk with rfl|rfl<;>rfl
 have e2:(tkB a).data.toList=a.text:=by simp[tkB]
 rw[e2]
 exact key _ _ h2
theorem lu {t:ByteArray} {s:Ps} (h:s.c≠ctl (2,t.data.toList)):isS t s=false:=by
 cases hi:isS t s with
 |false=>rfl
 |true=>exact absurd (isS_ctl hi) h
theorem dg {lv:Nat} :∀ {ops:List (ByteArray×Int)},(∀x∈ops,ctl (2,x.1.data.toList)=lv)→∀ {s:Ps},s.c≠lv→firstP ops s=(none,s)
 | [],_,_,_=>rfl
 |(t,o)::l,h,s,hs=>by
  rw[firstP,if_neg]
  ·exact dg (fun x hx=>h x (List.mem_cons_of_mem _ hx)) hs
  ·rw[lu (by rw[h (t,o) List.mem_cons_self];exact hs)]
   simp
theorem isS_at {k:Nat} (hk:k=2∨k=5) (t:ByteArray) {a:Tk} (h:er a=(k,t.data.toList)) (R:List Tk):isS t ⟨a::R,false⟩=true:=by
 have h1:a.kind=k:=congrArg Prod.fst h
 have h2:a.text=t.data.toList:=congrArg Prod.snd h
 unfold isS Ps.hd tkB
 simp only[List.headD_cons,h1,h2]
 rcases hk with rfl|rfl<;>simp
theorem em {k:Nat} {x:List UInt8} (t:ByteArray) {a:Tk} (h:er a=(k,x)) (hx:(k≠2∧k≠5)∨x≠t.data.toList) (R:List Tk):isS t ⟨a::R,false⟩=false:=by
 have h1:a.kind=k:=congrArg Prod.fst h
 have h2:a.text=x:=congrArg Prod.snd h
 unfold isS Ps.hd tkB
 simp only[List.headD_cons,h1,h2]
 rcases hx with hx|hx
 ·simp[hx.1,hx.2]
 ·have:¬(ByteArray.mk x.toArray=t):=fun e=>hx (by rw[←e])
  simp[this]
theorem bI {k:Nat} {x:List UInt8} {a:Tk} (h:er a=(k,x)) (q:Nat) (R:List Tk):hasK q ⟨a::R,false⟩=(k==q):=by
 have h1:a.kind=k:=congrArg Prod.fst h
 unfold hasK Ps.hd
 simp[h1]
theorem en (a:Tk) (R:List Tk):(⟨a::R,false⟩:Ps).next=⟨R,false⟩:=rfl
theorem tkB_at {k:Nat} {x:List UInt8} {a:Tk} (h:er a=(k,x)) (R:List Tk) (b:Bool):tkB (⟨a::R,b⟩:Ps).hd=⟨x.toArray⟩:=by
 have h2:a.text=x:=congrArg Prod.snd h
 unfold tkB Ps.hd
 simp[h2]
theorem c_at {k:Nat} {x:List UInt8} {a:Tk} (h:er a=(k,x)) (R:List Tk) (b:Bool):(⟨a::R,b⟩:Ps).c=ctl (k,x):=by
 unfold Ps.c Ps.hd
 simp only[List.headD_cons,h]
theorem hJ (s:ByteArray):(⟨s.data.toList.toArray⟩:ByteArray)=s:=by cases s;simp
theorem fR {el:M Ex} (h:Fwd el) (ops:List (ByteArray×Int)):∀(n m:Nat) (e:Ex) (s:Ps),s.r.length<n→s.r.length<m→aM el ops n e s=aM el ops m e s
 |0,_,_,s,h1,_=>absurd h1 (Nat.not_lt_zero _)
 |_+1,0,_,s,_,h2=>absurd h2 (Nat.not_lt_zero _)
 |n+1,m+1,e,s,h1,h2=>by
  rw[aM,aM]
  cases ho:(firstP ops s).1 with
  |none=>rfl
  |some o=>
   have h3:=fC ho
   have h4:=h (firstP ops s).2
   exact fR h ops n m _ _ (by omega) (by omega)
def chC (el:M Ex) (ops:List (ByteArray×Int)) (e:Ex) (s:Ps):Ex×Ps:=aM el ops (s.r.length+1) e s
theorem gu {el:M Ex} (h:Fwd el) (ops:List (ByteArray×Int)) (s:Ps):aL el ops s=chC el ops (el s).1 (el s).2:=
 fR h ops _ _ _ _ (by have:=h s;omega) (Nat.lt_succ_self _)
theorem gw {el:M Ex} (h:Fwd el) {ops:List (ByteArray×Int)} {s t:Ps} {o:Int} (hf:firstP ops s=(some o,t)) (e:Ex):chC el ops e s=chC el ops (opE o [e,(el t).1]) (el t).2:=by
 have h1:(firstP ops s).1=some o:=by rw[hf]
 have h2:(firstP ops s).2=t:=by rw[hf]
 have h3:=fC h1
 have h4:=h t
 rw[h2]at h3
 unfold chC
 rw[aM,h1,h2]
 exact fR h ops _ _ _ _ (by omega) (Nat.lt_succ_self _)
theorem gx (el:M Ex) {ops:List (ByteArray×Int)} {s:Ps} (hf:firstP ops s=(none,s)) (e:Ex):chC el ops e s=(e,s):=by
 unfold chC
 rw[aM,hf]
theorem notP_not {p:M Ex} (h:Fwd p) {s:Ps} (hi:isS kNOT s=true):notP p s=(opE 20 [(notP p s.next).1],(notP p s.next).2):=by
 have hl:=aP hi
 unfold notP
 rw[←hl,notGo,if_pos hi]
theorem notP_test (p:M Ex) {s:Ps} (hi:isS kNOT s=false):notP p s=testP p s:=by
 unfold notP
 cases s.r.length with
 |zero=>rfl
 |succ n=>rw[notGo,hi,if_neg (by simp)]
def lvM (p:M Ex):Nat→M Ex
 |1=>orP p
 |2=>fh p
 |3=>notP p
 |4=>testP p
 |5=>sumP p
 |6=>eq p
 |7=>cj p
 |_=>p
def cnt (p:M Ex):Nat→Ex→Ps→Ex×Ps
 |1=>chC (fh p) opsOr
 |2=>chC (notP p) opsAnd
 |5=>chC (eq p) opsSum
 |6=>chC (cj p) opsPro
 |_=>fun e s=> (e,s)
theorem lv_or:∀x∈opsOr,ctl (2,x.1.data.toList)=1:=by decide
theorem lv_and:∀x∈opsAnd,ctl (2,x.1.data.toList)=2:=by decide
theorem lv_cmp:∀x∈opsCmp,ctl (2,x.1.data.toList)=4:=by decide
theorem lv_sum:∀x∈opsSum,ctl (2,x.1.data.toList)=5:=by decide
theorem lv_pro:∀x∈opsPro,ctl (2,x.1.data.toList)=6:=by decide
theorem bB (p:M Ex) {r:Nat} {s:Ps} (h:s.c≠r) (e:Ex):cnt p r e s=(e,s):=by
 unfold cnt
 split
 ·exact gx _ (dg lv_or h) e
 ·exact gx _ (dg lv_and h) e
 ·exact gx _ (dg lv_sum h) e
 ·exact gx _ (dg lv_pro h) e
 ·rfl
section
variable {p:M Ex} (hp:Fwd p)
include hp
theorem lx:∀r,Fwd (lvM p r)
 |1=>fwd_or hp
 |2=>iJ hp
 |3=>fun s=>eQ hp _ s
 |4=>jm hp
 |5=>ed hp
 |6=>dd (gh hp) _
 |7=>gh hp
 |0=>hp
 |_+8=>hp
omit hp in
theorem tail_stop {sum:M Ex} {s:Ps} (h:s.c≠4) (a:Ex):cm sum a s=(a,s):=by
 unfold cm
 have n:∀t:ByteArray,ctl (2,t.data.toList)=4→isS t s=false:=fun t ht=>lu (by rw[ht];exact h)
 have e:optP kNOT s=s:=by unfold optP;rw[n kNOT (by decide),if_neg (by simp)]
 rw[dg lv_cmp h]
 simp only[e,n kIS (by decide),n ib (by decide),n dm (by decide),n kIN (by decide),n kNOT (by decide)]
 simp
theorem lv_down {r:Nat} (h1:1≤r) (h2:r≤7) {s t:Ps} {x:Ex} (h:lvM p (r+1) s=(x,t)) (hc:t.c≤r) (h4:r=4→t.c≠4) (hn:r=3→isS kNOT s=false) (hm:r=7→isS ct s=false):lvM p r s=cnt p r x t:=by
 match r,h1,h2 with
 |1,_,_=>show aL (fh p) opsOr s=chC (fh p) opsOr x t;rw[gu (iJ hp)];show chC _ _ (lvM p 2 s).1 (lvM p 2 s).2=_;rw[h]
 |2,_,_=>show aL (notP p) opsAnd s=chC (notP p) opsAnd x t;rw[gu (el:=notP p) (lx hp 3)];show chC _ _ (lvM p 3 s).1 (lvM p 3 s).2=_;rw[h]
 |3,_,_=>show notP p s=(x,t);rw[notP_test p (hn rfl)];exact h
 |4,_,_=>
  show cm (sumP p) (lvM p 5 s).1 (lvM p 5 s).2=(x,t)
  rw[h]
  exact tail_stop (h4 rfl) x
 |5,_,_=>show aL (eq p) opsSum s=chC (eq p) opsSum x t;rw[gu (el:=eq p) (lx hp 6)];show chC _ _ (lvM p 6 s).1 (lvM p 6 s).2=_;rw[h]
 |6,_,_=>show aL (cj p) opsPro s=chC (cj p) opsPro x t;rw[gu (el:=cj p) (lx hp 7)];show chC _ _ (lvM p 7 s).1 (lvM p 7 s).2=_;rw[h]
 |7,_,_=>
  show cj p s=(x,t)
  unfold cj
  rw[hm rfl,if_neg (by simp)]
  exact h
theorem kF:∀(k r:Nat),1≤r→r+k+1≤8→∀ {s t:Ps} {x:Ex},lvM p (r+k+1) s=(x,t)→t.c≤r→(r=4→t.c≠4)→(r≤3→3<r+k+1→isS kNOT s=false)→(7<r+k+1→isS ct s=false)→lvM p r s=cnt p r x t
 |0,r,h1,h2,s,t,x,h,hc,h4,hn,hm=>lv_down hp h1 (by omega) h hc h4 (fun e=>hn (by omega) (by omega)) (fun e=>hm (by omega))
 |k+1,r,h1,h2,s,t,x,h,hc,h4,hn,hm=>by
  have h3:lvM p (r+1) s=cnt p (r+1) x t:=kF k (r+1) (by omega) (by omega) (by rw[show r+1+k+1=r+(k+1)+1 by omega];exact h) (by omega) (fun e=>by omega) (fun a b=>hn (by omega) (by omega)) (fun a=>hm (by omega))
  rw[bB p (by omega)]at h3
  exact lv_down hp h1 (by omega) h3 hc h4 (fun e=>hn (by omega) (by omega)) (fun e=>hm (by omega))
theorem lv_from {q r:Nat} (h1:1≤r) (hr:r<q) (h2:q≤8) {s t:Ps} {x:Ex} (h:lvM p q s=(x,t)) (hc:t.c≤r) (h4:r=4→t.c≠4) (hn:r≤3→3<q→isS kNOT s=false) (hm:7<q→isS ct s=false):lvM p r s=cnt p r x t:=by
 obtain⟨k,rfl⟩:∃k,q=r+k+1:=⟨q-r-1,by omega⟩
 exact kF hp k r h1 h2 h hc h4 hn hm
end
end
end Go.Proofs.YtjigcpfjhfoheaaGreatDoor
