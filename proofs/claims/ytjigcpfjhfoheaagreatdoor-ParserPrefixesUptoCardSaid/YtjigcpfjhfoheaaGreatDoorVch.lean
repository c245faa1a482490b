/- The parser as plain functions on a list of tokens; no program in sight; The reference's reader as plain functions; it reads as the parser does; The tokens of a text are good: words are names, texts can be printed, numbers fit; The. -/
import Derived.Test.YtjigcpfjhfoheaaGreatDoorVbc
import Derived.Test.YtjigcpfjhfoheaaGreatDoorVcd
import Derived.Test.YtjigcpfjhfoheaaGreatDoorVcg
namespace Go.Proofs.YtjigcpfjhfoheaaGreatDoor
open Go.RowKit List Go.Proofs.Tryz
set_option maxHeartbeats 1000000
set_option maxRecDepth 100000
set_option linter.unusedVariables false
set_option linter.unusedSimpArgs false
section
open Lx (Tk)
abbrev kOR:BA:=⟨#[79,82]⟩
abbrev kCOUNT:BA:=⟨#[67,79,85,78,84]⟩
abbrev kSUM:BA:=⟨#[83,85,77]⟩
abbrev kMIN:BA:=⟨#[77,73,78]⟩
abbrev kMAX:BA:=⟨#[77,65,88]⟩
end
section
open Lx (Tk)
theorem Rel.st {α:Type} {x y:α×Ps} (h:Rel x y):x.2=y.2:=by
 rcases h with rfl|h
 ·rfl
 ·exact h.1
section
variable {a b:M Ex} (h:Sim a b) (ha:Stk a) (hb:Stk b)
include h ha hb
end
end
section
open Lx (Tk isDigit isLetter inWord spanN isPrint)
theorem mJ {s:BA} (h:nameB s=true):Lx.nameP s.data.toList=true:=by rw[←uW];exact h
end
section
open Lx (Tk isDigit isLetter inWord spanN isPrint)
theorem mK {P:List UInt8→Prop} :LexP P [] []:=fun b p _=>⟨[],rfl,by cases h:Lx.T b p<;>simp[h,Lx.Ls.pre]⟩
theorem LexP.cat {P Q:List UInt8→Prop} {l m:List UInt8} {K H:List Kt} (h:LexP P l K) (k:LexP Q m H) (hp:∀b,Q b→P (m++b)):LexP Q (l++m) (K++H):=fun b p hb=>by
 obtain⟨ts,e,f⟩:=h (m++b) p (hp b hb)
 obtain⟨j,g,i⟩:=k b (p+l.length) hb
 refine⟨ts++j,by rw[map_append,e,g],?_⟩
 rw[append_assoc,f,i,Lx.pre_pre,length_append,Nat.add_assoc]
theorem ip {P:List UInt8→Prop} {c:UInt8} {r:List UInt8} {k:Nat} {x:List UInt8} (hs:∀b,P b→Lx.skipN false (c::(r++b))=0) (f:∀b,P b→Lx.tokL (c::(r++b))= .tok k x (r.length+1)):LexP P (c::r) [(k,x)]:=fun b p hb=>by
 refine⟨[⟨k,x,p⟩],rfl,?_⟩
 rw[cons_append,Lx.T_tok _ p c (r++b) k x _ (by rw[hs b hb];rfl) (f b hb),hs b hb]
 have e:(c::(r++b)).drop (r.length+1)=b:=by simp
 rw[e]
 rfl
theorem aQ:LexP Any [32] []:=fun b p _=>by
 refine⟨[],rfl,?_⟩
 have e:Lx.T ([32]++b) p=Lx.T b (p+1):=by
  have h:Lx.skipN false ([32]++b)=Lx.skipN false b+1:=by simp[Lx.skipN]
  refine Lx.T_skip _ _ _ _ ?_ (by omega)
  rw[h];rfl
 rw[e]
 show _=(Lx.T b (p+1)).pre []
 cases Lx.T b (p+1)<;>rfl
theorem cC {c:UInt8} (f:c=40∨c=41∨c=44∨c=46∨c=42∨c=43∨c=47∨c=37∨c=59∨c=61):LexP Any [c] [(5,[c])]:=by
 have h:isLetter c=false∧isDigit c=false∧¬c.toNat=39∧c∈Lx.syms∧¬c=60∧¬c=62∧¬(c.toNat=32∨c.toNat=9∨c.toNat=10)∧¬c.toNat=45:=by
  rcases f with rfl|rfl|rfl|rfl|rfl|rfl|rfl|rfl|rfl|rfl<;>decide
 refine ip (fun b _=>?_) (fun b _=>?_)
 ·show Lx.skipN false (c::b)=0
  rw[Lx.skipN,if_neg h.2.2.2.2.2.2.1,if_neg (fun e=>h.2.2.2.2.2.2.2 e.1)]
 ·show Lx.tokL (c::b)=_
  rw[Lx.tokL,h.1,h.2.1]
  rw[if_neg (by simp),if_neg (by simp),if_neg h.2.2.1]
  have e:Lx.symN (c::b)=1:=by
   cases b with
   |nil=>rw[Lx.symN,if_pos h.2.2.2.1]
   |cons d r=>rw[Lx.symN,if_neg (by rintro(e|e|e);exact h.2.2.2.2.1 e.1;exact h.2.2.2.2.1 e.1;exact h.2.2.2.2.2.1 e.1),if_pos h.2.2.2.1]
  unfold Lx.symL
  rw[e]
  rfl
theorem nZ:LexP (fun b=>b.head?≠some 45) [45] [(5,[45])]:=by
 refine ip (fun b hb=>?_) (fun b hb=>?_)
 ·show Lx.skipN false (45::b)=0
  rw[Lx.skipN,if_neg (by decide),if_neg (fun e=>hb e.2)]
 ·show Lx.tokL (45::b)=_
  rw[Lx.tokL,if_neg (by decide),if_neg (by decide),if_neg (by decide)]
  have e:Lx.symN (45::b)=1:=by
   cases b with
   |nil=>rfl
   |cons d r=>rw[Lx.symN,if_neg (by rintro(e|e|e);exact absurd e.1 (by decide);exact absurd e.1 (by decide);exact absurd e.1 (by decide)),if_pos (by decide)]
  unfold Lx.symL
  rw[e]
  rfl
theorem lex_ang {c:UInt8} (f:c=60∨c=62):LexP (fun b=>b.head? =some 32) [c] [(5,[c])]:=by
 refine ip (fun b hb=>?_) (fun b hb=>?_)
 ·show Lx.skipN false (c::b)=0
  rcases f with rfl|rfl<;> (rw[Lx.skipN,if_neg (by decide),if_neg (fun e=>absurd e.1 (by decide))])
 ·cases b with
  |nil=>cases hb
  |cons d r=>
   simp at hb
   subst hb
   show Lx.tokL (c::32::r)=_
   rcases f with rfl|rfl<;>
   ·rw[Lx.tokL,if_neg (by decide),if_neg (by decide),if_neg (by decide)]
    unfold Lx.symL
    have e:∀x:UInt8,x=60∨x=62→Lx.symN (x::32::r)=1:=fun x g=>by
     rcases g with rfl|rfl<;> (rw[Lx.symN,if_neg (by decide),if_pos (by decide)])
    rw[e _ (by decide)]
    rfl
theorem tK {c d:UInt8} (f:(c=60∧d=62)∨(c=60∧d=61)∨(c=62∧d=61)):LexP Any [c,d] [(5,[c,d])]:=by
 refine ip (fun b hb=>?_) (fun b hb=>?_)
 ·show Lx.skipN false (c::d::b)=0
  rcases f with ⟨rfl,rfl⟩|⟨rfl,rfl⟩|⟨rfl,rfl⟩<;> (rw[Lx.skipN,if_neg (by decide),if_neg (fun e=>absurd e.1 (by decide))])
 ·show Lx.tokL (c::d::b)=_
  rcases f with ⟨rfl,rfl⟩|⟨rfl,rfl⟩|⟨rfl,rfl⟩<;>
  ·rw[Lx.tokL,if_neg (by decide),if_neg (by decide),if_neg (by decide)]
   unfold Lx.symL
   have e:∀x y:UInt8,(x=60∧y=62)∨(x=60∧y=61)∨(x=62∧y=61)→Lx.symN (x::y::b)=2:=fun x y g=>by rw[Lx.symN,if_pos g]
   rw[e _ _ (by decide)]
   rfl
theorem kW (f:UInt8→Bool):∀(l b:List UInt8),(∀c∈l,f c=true)→(b= []∨∃c t,b=c::t∧f c=false)→spanN f (l++b)=l.length
 | [],b,_,hb=>by
  rcases hb with rfl|⟨c,t,rfl,h⟩
  ·rfl
  ·simp[spanN,h]
 |a::l,b,hl,hb=>by
  rw[cons_append,spanN,if_pos (hl a mem_cons_self),kW f l b (fun c e=>hl c (mem_cons_of_mem _ e)) hb,length_cons]
theorem qD {b:List UInt8} (h:NoW b):b= []∨∃c t,b=c::t∧inWord c=false:=by
 cases b with
 |nil=>exact .inl rfl
 |cons c t=>exact .inr ⟨c,t,rfl,h⟩
theorem qE {l:List UInt8} (h:Lx.nameP l=true):LexP NoW l [(1,l)]:=by
 cases l with
 |nil=>cases h
 |cons c r=>
  unfold Lx.nameP at h
  simp only[Bool.and_eq_true,decide_eq_true_eq,all_eq_true,Bool.not_eq_true']at h
  obtain⟨⟨⟨m,n⟩,f⟩,i⟩:=h
  have g:isLetter c=true:=by unfold isLetter;grind
  have j:(c::r).map Lx.loC=c::r:=by
   conv=>rhs;rw[←map_id (c::r)]
   exact map_congr_left fun x e=> (Lx.low_word x (f x e)).2
  refine ip (fun b _=>Lx.letter_skip c _ g) (fun b hb=>?_)
  have hs:spanN inWord (c::(r++b))=(c::r).length:=kW inWord (c::r) b (fun x e=> (Lx.low_word x (f x e)).1) (qD hb)
  have k:(c::(r++b)).take (c::r).length=c::r:=take_left' (l₁:=c::r) rfl
  rw[Lx.tokL,if_pos g]
  unfold Lx.wordL
  rw[hs,k,i,if_neg (by decide),if_neg (by omega),j]
  rfl
theorem dv {l:List UInt8} (h:l∈Lx.kwNames):LexP NoW l [(2,l)]:=by
 obtain⟨i,e⟩:=Lx.kw_letters l h
 have up:∀k∈Lx.kwNames,k.map Lx.upC=k:=by decide+kernel
 have g:=up l h
 cases l with
 |nil=>exact absurd rfl i
 |cons c r=>
  have f:=e c mem_cons_self
  refine ip (fun b _=>Lx.letter_skip c _ f) (fun b hb=>?_)
  have hs:spanN inWord (c::(r++b))=(c::r).length:=kW inWord (c::r) b (fun x n=>Lx.letter_word x (e x n)) (qD hb)
  have m:(c::(r++b)).take (c::r).length=c::r:=take_left' (l₁:=c::r) rfl
  rw[Lx.tokL,if_pos f]
  unfold Lx.wordL
  have j:Lx.isKw (c::r)=true:=by unfold Lx.isKw;rw[g];exact decide_eq_true h
  rw[hs,m,j,if_pos rfl,g]
  rfl
theorem dig_word (c:UInt8) (h:isDigit c=true):inWord c=true:=by unfold inWord;rw[h];simp
theorem now_dig {b:List UInt8} (h:NoW b):b= []∨∃c t,b=c::t∧isDigit c=false:=by
 rcases qD h with rfl|⟨c,t,rfl,hc⟩
 ·exact .inl rfl
 ·refine .inr ⟨c,t,rfl,?_⟩
  cases hd:isDigit c with
  |false=>rfl
  |true=>rw[dig_word c hd]at hc;cases hc
theorem xq {c:UInt8} {r:List UInt8} (hd:∀x∈c::r,isDigit x=true) (k:r≠[]→c≠48) (o:Lx.digVal (c::r)≤2147483648):LexP NoW (c::r) [(3,c::r)]:=by
 have f:=hd c mem_cons_self
 have l:48≤c.toNat∧c.toNat≤57:=by
  unfold isDigit at f
  simpa using f
 have m:isLetter c=false:=by
  unfold isLetter
  simp
  omega
 refine ip (fun b _=>?_) (fun b hb=>?_)
 ·rw[Lx.skipN,if_neg (by omega),if_neg (by omega)]
 ·have hs:spanN isDigit (c::(r++b))=(c::r).length:=kW isDigit (c::r) b hd (now_dig hb)
  have n:(c::(r++b)).take (c::r).length=c::r:=take_left' (l₁:=c::r) rfl
  have g:(c::(r++b)).drop (c::r).length=b:=drop_left' (l₁:=c::r) rfl
  rw[Lx.tokL,m,if_neg (by decide),if_pos f]
  unfold Lx.numL
  rw[hs,n,g,if_neg,if_neg (by omega)]
  ·rfl
  ·rintro(⟨j,i⟩|e)
   ·simp at i
    cases r with
    |nil=>simp at j
    |cons d r=>exact k (by simp) i
   ·rw[show Lx.headW b=false from hb]at e;cases e
theorem oa:∀(l X:List UInt8) (i:Nat) (b:List UInt8),(∀c∈l,isPrint c=true)→b.head?≠some 39→Lx.litF (Lx.flat l++39::b) X i=some (X++l,i+(Lx.flat l).length+1)
 | [],X,i,b,_,hb=>by
  rw[Lx.flat,nil_append,Lx.lit_cons,if_neg (by decide),if_pos (by decide),append_nil]
  cases b with
  |nil=>rfl
  |cons d r=>
   have hd:¬d.toNat=39:=fun e=>hb (by rw[head?_cons,Lx.num_ext d 39 e])
   simp only
   rw[if_neg hd]
   rfl
 |c::r,X,i,b,h,hb=>by
  have g:=h c mem_cons_self
  have j:∀x∈r,isPrint x=true:=fun x k=>h x (mem_cons_of_mem _ k)
  rw[Lx.flat]
  by_cases f:c.toNat=39
  ·rw[if_pos f,cons_append,cons_append,Lx.lit_cons,g,if_neg (by decide),if_pos f]
   show(if c.toNat=39 then Lx.litF (Lx.flat r++39::b) (X++ [c]) (i+1+1)else some (X,i+1))=_
   rw[if_pos f,oa r (X++ [c]) (i+1+1) b j hb,append_assoc]
   simp only[length_cons,singleton_append,Option.some.injEq,Prod.mk.injEq,true_and]
   omega
  ·rw[if_neg f,cons_append,Lx.lit_cons,g,if_neg (by decide),if_neg f,oa r (X++ [c]) (i+1) b j hb,append_assoc]
   simp only[length_cons,singleton_append,Option.some.injEq,Prod.mk.injEq,true_and]
   omega
theorem lex_text {l:List UInt8} (h:∀c∈l,isPrint c=true) (f:l.length≤16):LexP (fun b=>b.head?≠some 39) (39::(Lx.flat l++ [39])) [(4,l)]:=by
 refine ip (fun b _=>?_) (fun b hb=>?_)
 ·rw[Lx.skipN,if_neg (by decide),if_neg (fun e=>absurd e.1 (by decide))]
 ·rw[Lx.tokL,if_neg (by decide),if_neg (by decide),if_pos (by decide)]
  unfold Lx.textL
  have e:Lx.flat l++ [39]++b=Lx.flat l++39::b:=by simp
  rw[e,oa l [] 1 b h hb]
  simp only[nil_append,length_append,length_cons,length_nil]
  rw[if_neg (by omega)]
  congr 1
  omega
theorem dig_of {n:Nat} (h:n<10):(UInt8.ofNat (48+n)).toNat=48+n:=by
 rw[UInt8.toNat_ofNat']
 omega
theorem kX:∀u:Nat,(∀x∈Lib.decDigits u,isDigit x=true)∧Lx.digVal (Lib.decDigits u)=u∧(∃c r,Lib.decDigits u=c::r∧(r≠[]→c≠48)∧(u≠0→c≠48)):=by
 intro u
 induction u using Nat.strongRecOn with
 |ind u ih=>
  rw[Lib.decDigits]
  by_cases h:u<10
  ·rw[dif_pos h]
   have e:=dig_of h
   refine⟨fun x f=>?_,?_,⟨_,[],rfl,by simp,fun m i=>?_⟩⟩
   ·rw[List.mem_singleton.1 f]
    unfold isDigit
    rw[e]
    simp
    omega
   ·show 10*0+(_-48)=_
    rw[e]
    omega
   ·rw[i]at e
    have:(48:UInt8).toNat=48:=rfl
    omega
  ·rw[dif_neg h]
   obtain⟨j,k,c,r,l,o,g⟩:=ih (u/10) (by omega)
   have e:=dig_of (n:=u%10) (by omega)
   refine⟨fun x f=>?_,?_,⟨c,r++ [UInt8.ofNat (48+u%10)],by rw[l];rfl,fun _=>g (by omega),fun _=>g (by omega)⟩⟩
   ·rcases List.mem_append.1 f with f|f
    ·exact j x f
    ·rw[List.mem_singleton.1 f]
     unfold isDigit
     rw[e]
     simp
     omega
   ·rw[dv_snoc,k,e]
    omega
theorem mL {n:Int} (h:0≤n):(itoB n).data.toList=Lib.decDigits n.toNat:=by
 obtain⟨u,rfl⟩:=Int.eq_ofNat_of_zero_le h
 unfold itoB Lib.itoa
 rw[if_neg (by omega)]
theorem mM {n:Int} (j:0≤n) (k:n≤2147483648):LexP NoW (itoB n).data.toList [(3,(itoB n).data.toList)]:=by
 obtain⟨f,g,c,r,e,i,_⟩:=kX n.toNat
 rw[mL j,e]
 refine xq (by rw[←e];exact f) i ?_
 rw[←e,g]
 omega
theorem qF {n:Int} (e:0≤n):digV (itoB n)=n:=by
 unfold digV
 rw[mL e,(kX n.toNat).2.1]
 omega
theorem print_of {s:BA} (h:hU s=true):(∀c∈s.data.toList,isPrint c=true)∧s.data.toList.length≤16:=by
 unfold hU at h
 simp only[Bool.and_eq_true,all_eq_true,decide_eq_true_eq]at h
 refine⟨fun c e=>?_,h.2⟩
 have:=h.1 c.toNat (mem_map_of_mem e)
 unfold isPrint
 simpa using this
theorem flat_quo (l:List UInt8):quo l=Lx.flat l:=by
 induction l with
 |nil=>rfl
 |cons c r ih=>
  rw[quo,Lx.flat,ih]
  by_cases h:c=39
  ·subst h
   rw[if_pos rfl,if_pos (by decide)]
  ·have f:¬c.toNat=39:=fun e=>h (Lx.num_ext c 39 e)
   rw[if_neg h,if_neg f]
end
section
open Lx (Tk isDigit isLetter inWord spanN isPrint)
theorem isS_ctl {t:BA} {s:Ps} (h:isS t s=true):s.c=ctl (2,t.data.toList):=by
 obtain⟨_,a,l,i,j,m,_⟩:=dL h
 have e:s.hd=a:=by unfold Ps.hd;rw[i];rfl
 unfold Ps.c
 rw[e,←m]
 have f:∀(k:Nat) (x:List UInt8),(k=2∨k=5)→ctl (k,x)=ctl (2,x):=fun k x n=>by
  rcases n with rfl|rfl<;>rfl
 have g:(tkB a).data.toList=a.text:=by simp[tkB]
 rw[g]
 exact f _ _ j
theorem o6 {t:BA} {s:Ps} (h:s.c≠ctl (2,t.data.toList)):isS t s=false:=by
 cases hi:isS t s with
 |false=>rfl
 |true=>exact absurd (isS_ctl hi) h
theorem gq {e:Nat} :∀ {ops:List (BA×Int)},(∀x∈ops,ctl (2,x.1.data.toList)=e)→∀ {s:Ps},s.c≠e→firstP ops s=(none,s)
 | [],_,_,_=>rfl
 |(t,o)::l,h,s,hs=>by
  rw[firstP,if_neg]
  ·exact gq (fun x f=>h x (mem_cons_of_mem _ f)) hs
  ·rw[o6 (by rw[h (t,o) mem_cons_self];exact hs)]
   simp
theorem dW {k:Nat} (g:k=2∨k=5) (t:BA) {a:Tk} (h:er a=(k,t.data.toList)) (R:List Tk):isS t ⟨a::R,false⟩=true:=by
 have e:a.kind=k:=congrArg Prod.fst h
 have f:a.text=t.data.toList:=congrArg Prod.snd h
 unfold isS Ps.hd tkB
 simp only[headD_cons,e,f]
 rcases g with rfl|rfl<;>simp
theorem dE {k:Nat} {x:List UInt8} {a:Tk} (h:er a=(k,x)) (q:Nat) (R:List Tk):hasK q ⟨a::R,false⟩=(k==q):=by
 have e:a.kind=k:=congrArg Prod.fst h
 unfold hasK Ps.hd
 simp[e]
theorem next_at (a:Tk) (R:List Tk):(⟨a::R,false⟩:Ps).next=⟨R,false⟩:=rfl
theorem tkB_at {k:Nat} {x:List UInt8} {a:Tk} (h:er a=(k,x)) (R:List Tk) (b:Bool):tkB (⟨a::R,b⟩:Ps).hd=⟨x.toArray⟩:=by
 have e:a.text=x:=congrArg Prod.snd h
 unfold tkB Ps.hd
 simp[e]
theorem ob {k:Nat} {x:List UInt8} {a:Tk} (h:er a=(k,x)) (R:List Tk) (b:Bool):(⟨a::R,b⟩:Ps).c=ctl (k,x):=by
 unfold Ps.c Ps.hd
 simp only[headD_cons,h]
theorem dh (s:BA):(⟨s.data.toList.toArray⟩:BA)=s:=by cases s;simp
theorem lQ {el:M Ex} (h:Fwd el) (ops:List (BA×Int)):∀(n m:Nat) (e:Ex) (s:Ps),s.r.length<n→s.r.length<m→chainGo el ops n e s=chainGo el ops m e s
 |0,_,_,s,h1,_=>absurd h1 (Nat.not_lt_zero _)
 |_+1,0,_,s,_,h2=>absurd h2 (Nat.not_lt_zero _)
 |n+1,m+1,e,s,h1,h2=>by
  rw[chainGo,chainGo]
  cases f:(firstP ops s).1 with
  |none=>rfl
  |some o=>
   have g:=lq f
   have i:=h (firstP ops s).2
   exact lQ h ops n m _ _ (by omega) (by omega)
def chC (el:M Ex) (ops:List (BA×Int)) (e:Ex) (s:Ps):Ex×Ps:=chainGo el ops (s.r.length+1) e s
theorem mN {el:M Ex} (h:Fwd el) (ops:List (BA×Int)) (s:Ps):chainP el ops s=chC el ops (el s).1 (el s).2:=
 lQ h ops _ _ _ _ (by have:=h s;omega) (Nat.lt_succ_self _)
theorem mO {el:M Ex} (h:Fwd el) {ops:List (BA×Int)} {s t:Ps} {o:Int} (i:firstP ops s=(some o,t)) (e:Ex):chC el ops e s=chC el ops (opE o [e,(el t).1]) (el t).2:=by
 have f:(firstP ops s).1=some o:=by rw[i]
 have g:(firstP ops s).2=t:=by rw[i]
 have j:=lq f
 have k:=h t
 rw[g]at j
 unfold chC
 rw[chainGo,f,g]
 exact lQ h ops _ _ _ _ (by omega) (Nat.lt_succ_self _)
theorem mP (el:M Ex) {ops:List (BA×Int)} {s:Ps} (f:firstP ops s=(none,s)) (e:Ex):chC el ops e s=(e,s):=by
 unfold chC
 rw[chainGo,f]
theorem notP_not {p:M Ex} (h:Fwd p) {s:Ps} (hi:isS kNOT s=true):notP p s=(opE 20 [(notP p s.next).1],(notP p s.next).2):=by
 have e:=au hi
 unfold notP
 rw[←e,notGo,if_pos hi]
theorem notP_test (p:M Ex) {s:Ps} (hi:isS kNOT s=false):notP p s=testP p s:=by
 unfold notP
 cases s.r.length with
 |zero=>rfl
 |succ n=>rw[notGo,hi,if_neg (by simp)]
def lvM (p:M Ex):Nat→M Ex
 |1=>orP p
 |2=>andP p
 |3=>notP p
 |4=>testP p
 |5=>sumP p
 |6=>nr p
 |7=>unaP p
 |_=>p
def cnt (p:M Ex):Nat→Ex→Ps→Ex×Ps
 |1=>chC (andP p) opsOr
 |2=>chC (notP p) opsAnd
 |5=>chC (nr p) opsSum
 |6=>chC (unaP p) opsPro
 |_=>fun e s=> (e,s)
theorem lv_or:∀x∈opsOr,ctl (2,x.1.data.toList)=1:=by decide
theorem lv_and:∀x∈opsAnd,ctl (2,x.1.data.toList)=2:=by decide
theorem lv_cmp:∀x∈opsCmp,ctl (2,x.1.data.toList)=4:=by decide
theorem lv_sum:∀x∈opsSum,ctl (2,x.1.data.toList)=5:=by decide
theorem lv_pro:∀x∈opsPro,ctl (2,x.1.data.toList)=6:=by decide
theorem dt (p:M Ex) {r:Nat} {s:Ps} (h:s.c≠r) (e:Ex):cnt p r e s=(e,s):=by
 unfold cnt
 split
 ·exact mP _ (gq lv_or h) e
 ·exact mP _ (gq lv_and h) e
 ·exact mP _ (gq lv_sum h) e
 ·exact mP _ (gq lv_pro h) e
 ·rfl
section
variable {p:M Ex} (hp:Fwd p)
include hp
theorem tL:∀r,Fwd (lvM p r)
 |1=>fwd_or hp
 |2=>mf hp
 |3=>fun s=>iI hp _ s
 |4=>pn hp
 |5=>ii hp
 |6=>ey (fU hp) _
 |7=>fU hp
 |0=>hp
 |_+8=>hp
omit hp in
theorem tail_stop {f:M Ex} {s:Ps} (h:s.c≠4) (a:Ex):tailP f a s=(a,s):=by
 unfold tailP
 have n:∀t:BA,ctl (2,t.data.toList)=4→isS t s=false:=fun t g=>o6 (by rw[g];exact h)
 have e:optP kNOT s=s:=by unfold optP;rw[n kNOT (by decide),if_neg (by simp)]
 rw[gq lv_cmp h]
 simp only[e,n kIS (by decide),n oo (by decide),n gB (by decide),n kIN (by decide),n kNOT (by decide)]
 simp
theorem lv_down {r:Nat} (e:1≤r) (f:r≤7) {s t:Ps} {x:Ex} (h:lvM p (r+1) s=(x,t)) (k:t.c≤r) (g:r=4→t.c≠4) (j:r=3→isS kNOT s=false) (i:r=7→isS dJ s=false):lvM p r s=cnt p r x t:=by
 match r,e,f with
 |1,_,_=>show chainP (andP p) opsOr s=chC (andP p) opsOr x t;rw[mN (mf hp)];show chC _ _ (lvM p 2 s).1 (lvM p 2 s).2=_;rw[h]
 |2,_,_=>show chainP (notP p) opsAnd s=chC (notP p) opsAnd x t;rw[mN (el:=notP p) (tL hp 3)];show chC _ _ (lvM p 3 s).1 (lvM p 3 s).2=_;rw[h]
 |3,_,_=>show notP p s=(x,t);rw[notP_test p (j rfl)];exact h
 |4,_,_=>
  show tailP (sumP p) (lvM p 5 s).1 (lvM p 5 s).2=(x,t)
  rw[h]
  exact tail_stop (g rfl) x
 |5,_,_=>show chainP (nr p) opsSum s=chC (nr p) opsSum x t;rw[mN (el:=nr p) (tL hp 6)];show chC _ _ (lvM p 6 s).1 (lvM p 6 s).2=_;rw[h]
 |6,_,_=>show chainP (unaP p) opsPro s=chC (unaP p) opsPro x t;rw[mN (el:=unaP p) (tL hp 7)];show chC _ _ (lvM p 7 s).1 (lvM p 7 s).2=_;rw[h]
 |7,_,_=>
  show unaP p s=(x,t)
  unfold unaP
  rw[i rfl,if_neg (by simp)]
  exact h
theorem rX:∀(k r:Nat),1≤r→r+k+1≤8→∀ {s t:Ps} {x:Ex},lvM p (r+k+1) s=(x,t)→t.c≤r→(r=4→t.c≠4)→(r≤3→3<r+k+1→isS kNOT s=false)→(7<r+k+1→isS dJ s=false)→lvM p r s=cnt p r x t
 |0,r,h1,h2,s,t,x,h,hc,h4,hn,hm=>lv_down hp h1 (by omega) h hc h4 (fun e=>hn (by omega) (by omega)) (fun e=>hm (by omega))
 |k+1,r,h1,h2,s,t,x,h,hc,h4,hn,hm=>by
  have f:lvM p (r+1) s=cnt p (r+1) x t:=rX k (r+1) (by omega) (by omega) (by rw[show r+1+k+1=r+(k+1)+1 by omega];exact h) (by omega) (fun e=>by omega) (fun a b=>hn (by omega) (by omega)) (fun a=>hm (by omega))
  rw[dt p (by omega)]at f
  exact lv_down hp h1 (by omega) f hc h4 (fun e=>hn (by omega) (by omega)) (fun e=>hm (by omega))
theorem lv_from {q r:Nat} (e:1≤r) (m:r<q) (f:q≤8) {s t:Ps} {x:Ex} (h:lvM p q s=(x,t)) (i:t.c≤r) (g:r=4→t.c≠4) (l:r≤3→3<q→isS kNOT s=false) (j:7<q→isS dJ s=false):lvM p r s=cnt p r x t:=by
 obtain⟨k,rfl⟩:∃k,q=r+k+1:=⟨q-r-1,by omega⟩
 exact rX hp k r e f h i g l j
end
end
section
open Lx (Tk isDigit isLetter inWord spanN isPrint)
theorem isS_eq {k:Nat} {x:List UInt8} (g:k=2∨k=5) (t:BA) {a:Tk} (h:er a=(k,x)) (R:List Tk):isS t ⟨a::R,false⟩=decide (t.data.toList=x):=by
 by_cases f:t.data.toList=x
 ·subst f
  rw[dW g t h R,decide_eq_true rfl]
 ·rw[fY t h (.inr fun e=>f e.symm) R,decide_eq_false f]
theorem j7 {k:Nat} {x:List UInt8} (f:k=2∨k=5) {z:Tk} (h:er z=(k,x)) (R:List Tk):∀ops:List (BA×Int),
  firstP ops ⟨z::R,false⟩=(match ops.find? (fun y=>decide (y.1.data.toList=x))with|some y=> (some y.2,⟨R,false⟩)|none=> (none,⟨z::R,false⟩))
 | []=>rfl
 |(t,o)::l=>by
  rw[firstP,isS_eq f t h R,find?_cons]
  by_cases e:t.data.toList=x
  ·rw[if_pos (by simpa using e)]
   simp only[e,decide_true]
   rfl
  ·rw[if_neg (by simpa using e),j7 f h R l]
   simp only[e,decide_false]
theorem need_at {k:Nat} (e:k=2∨k=5) (t:BA) {a:Tk} (h:er a=(k,t.data.toList)) (R:List Tk):needP t ⟨a::R,false⟩=⟨R,false⟩:=by
 unfold needP
 rw[dW e t h R,if_pos rfl]
 rfl
theorem opt_at {k:Nat} {x:List UInt8} (e:k=2∨k=5) (t:BA) {a:Tk} (h:er a=(k,x)) (f:t.data.toList≠x) (R:List Tk):optP t ⟨a::R,false⟩=⟨a::R,false⟩:=by
 unfold optP
 rw[isS_eq e t h R,decide_eq_false f,if_neg (by simp)]
theorem tak_at {k:Nat} {x:List UInt8} {a:Tk} (h:er a=(k,x)) (R:List Tk):takP k ⟨a::R,false⟩=(⟨x.toArray⟩,⟨R,false⟩):=by
 unfold takP
 rw[dE h,if_pos (by simp),tkB_at h]
 rfl
def Ex.q (e:Ex):Nat:=(lvl e.d.op).toNat
theorem iR (op:Int):1≤lvl op∧lvl op≤8:=by
 unfold lvl
 repeat' split
 all_goals omega
theorem tM (e:Ex):(e.q:Int)=lvl e.d.op:=by
 have:=iR e.d.op
 unfold Ex.q
 omega
theorem tk_low {e:Ex} {r:Nat} (h:r≤e.q):e.tk r=e.tkp:=by
 have:=tM e
 unfold Ex.tk brK
 rw[if_neg (by omega)]
theorem tk_high {e:Ex} {r:Nat} (h:e.q<r):e.tk r=(5,[40])::(e.tkp++ [(5,[41])]):=by
 have:=tM e
 unfold Ex.tk brK
 rw[if_pos (by omega)]
def RdM (e:Ex):Prop:=∀(n:Nat) (ts R:List Tk),ts.map er=e.tkp→ts.length≤n→(⟨R,false⟩:Ps).c≤e.q→(e.q=4→(⟨R,false⟩:Ps).c≠4)→
 lvM (aG (exprP n)) e.q ⟨ts++R,false⟩=cnt (aG (exprP n)) e.q e.st0 ⟨R,false⟩
def RdA (e:Ex):Prop:=∀(r n:Nat) (ts R:List Tk),1≤r→r≤8→ts.map er=e.tk r→ts.length≤n→(⟨R,false⟩:Ps).c≤r→(r=4→(⟨R,false⟩:Ps).c≠4)→
 lvM (aG (exprP n)) r ⟨ts++R,false⟩=cnt (aG (exprP n)) r e.st0 ⟨R,false⟩
theorem kids1 {d:Nd} {ks:List Ex} (h:opN d.op=1) (f:(Ex.mk d ks).formed=true):∃a,ks= [a]∧a.formed=true:=by
 obtain⟨g,e,i⟩:=aN f
 obtain⟨a,rfl⟩:∃a,ks= [a]:=List.length_eq_one_iff.1 (by omega)
 exact⟨a,rfl,e a (by simp)⟩
theorem kids2 {d:Nd} {ks:List Ex} (h:opN d.op=2) (f:(Ex.mk d ks).formed=true):∃a b,ks= [a,b]∧a.formed=true∧b.formed=true:=by
 obtain⟨g,e,i⟩:=aN f
 obtain⟨a,b,rfl⟩:∃a b,ks= [a,b]:=by
  have:ks.length=2:=by omega
  match ks,this with
  | [a,b],_=>exact⟨a,b,rfl⟩
 exact⟨a,b,rfl,e a (by simp),e b (by simp)⟩
theorem op_st0 {d:Nd} {ks:List Ex} (j:d.op≠1) (k:d.op≠2) (m:(Ex.mk d ks).formed=true):(Ex.mk d ks).st0=opE d.op (nO ks):=by
 obtain⟨_,_,e⟩:=aN m
 have l:d.tb.size=0∧d.nm.size=0∧d.valZ=true:=by
  unfold ndB at e
  rw[if_neg k,if_neg j]at e
  split at e
  ·cases e
  ·simpa[and_assoc] using e
 obtain⟨op,tb,nm,ix,vk,vi,vt⟩:=d
 obtain⟨g,i,f⟩:=l
 unfold Nd.valZ at f
 simp only[Bool.and_eq_true,beq_iff_eq]at g i f
 obtain⟨⟨rfl,rfl⟩,f⟩:=f
 rw[Ex.st0,ev g,ev i,ev f]
 rfl
def NtK (k:Kt):Prop:=(k.1=2∨k.1=5)→k.2≠[78,79,84]
def NmK (k:Kt):Prop:=(k.1=2∨k.1=5)→k.2≠[45]
theorem j8 {k:Nat} {x:List UInt8} (h:k=1∨k=3∨k=4):NtK (k,x)∧NmK (k,x):=⟨fun e=>by simp only at e;omega,fun e=>by simp only at e;omega⟩
theorem hd_tk:∀e:Ex,e.formed=true→∀r:Int,3<r→∃k K,e.tk r=k::K∧NtK k∧(7<r→NmK k):=by
 intro e
 induction e using Ex.ind with
 |h d ks ih=>
  intro j r u
  obtain⟨o,s,t⟩:=aN j
  unfold Ex.tk brK
  split
  ·exact⟨_,_,rfl,fun _=>by decide,fun _ _=>by decide⟩
  ·next hl=>
   have f:¬lvl d.op<r:=hl
   have n:=iR d.op
   rw[Ex.tkp]
   rcases cQ d.op with ⟨h0,h4⟩|⟨h0,h4⟩|⟨h0,h4⟩|h0
   ·unfold tkD
    simp only
    by_cases o1:d.op=1
    ·rw[if_pos o1]
     split
     ·exact⟨_,_,rfl,(j8 (by omega)).1,fun _=> (j8 (by omega)).2⟩
     ·split
      ·exact⟨_,_,rfl,(j8 (by omega)).1,fun _=> (j8 (by omega)).2⟩
      ·exact⟨_,_,rfl,fun _=>by decide,fun _ _=>by decide⟩
    ·rw[if_neg o1,if_pos (by omega)]
     split
     ·exact⟨_,_,rfl,(j8 (by omega)).1,fun _=> (j8 (by omega)).2⟩
     ·exact⟨_,_,rfl,(j8 (by omega)).1,fun _=> (j8 (by omega)).2⟩
   ·obtain⟨a,rfl,ha⟩:=kids1 h0 j
    rcases h4 with h4|h4|h4|h4
    ·refine⟨(5,[45]),_,by unfold tkD;simp only;rw[if_neg (by omega),if_neg (by omega),if_pos h4],fun _=>by decide,fun h=>?_⟩
     rw[h4]at f
     exact absurd (show lvl 3=7 by decide) (by omega)
    ·exact⟨(2,[76,69,78,71,84,72]),_,by unfold tkD;simp only;rw[if_neg (by omega),if_neg (by omega),if_neg (by omega),if_pos h4],fun _=>by decide,fun _ _=>by decide⟩
    ·rw[h4]at f
     have:lvl 17=4:=by decide
     obtain⟨k,K,g,i,m⟩:=ih a (by simp) ha 5 (by omega)
     refine⟨k,K++ [(2,[73,83]),(2,[78,85,76,76])],?_,i,fun h=>by omega⟩
     unfold tkD
     simp only
     rw[if_neg (by omega),if_neg (by omega),if_neg (by omega),if_neg (by omega),if_pos h4]
     show a.tk 5++_=_
     rw[g]
     rfl
    ·rw[h4]at f
     exact absurd (show lvl 20=3 by decide) (by omega)
   ·obtain⟨a,b,rfl,ha,hb⟩:=kids2 h0 j
    have l:3<(if lvl d.op=4 then 5 else lvl d.op):=by split<;>omega
    obtain⟨k,K,g,i,m⟩:=ih a (by simp) ha _ l
    refine⟨k,K++sgK d.op::b.tk (lvl d.op+1),?_,i,fun h=>?_⟩
    ·unfold tkD
     simp only
     rw[if_neg (by omega),if_neg (by omega),if_neg (by omega),if_neg (by omega),if_neg (by omega),if_neg (by omega)]
     show a.tk _++_=_
     rw[g]
     rfl
    ·have:lvl d.op≤6:=by
      unfold lvl
      repeat' split
      all_goals omega
     omega
   ·omega
theorem rd_low {e:Ex} (u:e.formed=true) (H:RdM e) (r n:Nat) (ts R:List Tk) (x:1≤r) (E:r≤e.q) (f:ts.map er=e.tkp) (w:ts.length≤n) (s:(⟨R,false⟩:Ps).c≤r) (m:r=4→(⟨R,false⟩:Ps).c≠4):
  lvM (aG (exprP n)) r ⟨ts++R,false⟩=cnt (aG (exprP n)) r e.st0 ⟨R,false⟩:=by
 have D:=iR e.d.op
 have A:=tM e
 by_cases z:r=e.q
 ·subst z
  exact H n ts R f w s m
 ·have o:=H n ts R f w (by omega) (fun i=>by omega)
  rw[dt _ (by omega)]at o
  refine lv_from (iJ (ec n)) x (by omega) (by omega) o s m (fun C y=>?_) (fun y=>?_)
  ·obtain⟨k,K,g,j,l⟩:=hd_tk e u e.q (by omega)
   rw[tk_low (Nat.le_refl _),←f]at g
   obtain⟨a,B,rfl,i,_⟩:=List.map_eq_cons_iff.1 g
   exact pY (t:=kNOT) i j _
  ·obtain⟨k,K,g,j,l⟩:=hd_tk e u e.q (by omega)
   rw[tk_low (Nat.le_refl _),←f]at g
   obtain⟨a,B,rfl,i,_⟩:=List.map_eq_cons_iff.1 g
   exact pY (t:=dJ) i (l (by omega)) _
theorem rd_brk {e:Ex} (k:e.formed=true) (H:RdM e) (n:Nat) (a z:Tk) (f R:List Tk) (ha:er a=(5,[40])) (i:er z=(5,[41])) (g:f.map er=e.tkp) (o:f.length+1≤n):
  aG (exprP n) ⟨a::(f++z::R),false⟩=(e.st0,⟨R,false⟩):=by
 obtain⟨m,rfl⟩:∃m,n=m+1:=⟨n-1,by omega⟩
 have r:=iR e.d.op
 have l:=tM e
 have j:=rd_low k H 1 m f (z::R) (by omega) (by omega) g (by omega) (by rw[ob i];decide) (fun h=>by omega)
 rw[dt _ (by rw[ob i];decide)]at j
 unfold aG
 rw[dE ha,dE ha,isS_eq (.inr rfl) _ ha,isS_eq (.inr rfl) _ ha,isS_eq (.inr rfl) _ ha]
 rw[if_neg (by decide),if_neg (by decide),if_neg (by decide),if_neg (by decide),if_pos (by decide),next_at]
 show((lvM (aG (exprP m)) 1 ⟨f++z::R,false⟩).1,needP yRp (lvM (aG (exprP m)) 1 ⟨f++z::R,false⟩).2)=_
 rw[j,need_at (.inr rfl) yRp i]
theorem rd_at {e:Ex} (m:e.formed=true) (H:RdM e):RdA e:=by
 intro r n ts R i D f o l j
 by_cases s:r≤e.q
 ·rw[tk_low s]at f
  exact rd_low m H r n ts R i s f o l j
 ·rw[tk_high (by omega)]at f
  obtain⟨a,E,rfl,g,u⟩:=List.map_eq_cons_iff.1 f
  obtain⟨t,F,rfl,w,x⟩:=List.map_eq_append_iff.1 u
  obtain⟨z,C,rfl,y,A⟩:=List.map_eq_cons_iff.1 x
  obtain rfl:=List.map_eq_nil_iff.1 A
  simp only[length_cons,length_append,length_nil]at o
  have k:lvM (aG (exprP n)) 8 ⟨a::(t++ [z])++R,false⟩=(e.st0,⟨R,false⟩):=by
   show aG (exprP n) _=_
   have:=rd_brk m H n a z t R g y w (by omega)
   simpa using this
  by_cases B:r=8
  ·subst B
   exact k
  ·refine lv_from (iJ (ec n)) i (by omega) (by omega) k l j (fun _ _=>?_) (fun _=>?_)
   ·exact fY kNOT g (.inr (by decide)) _
   ·exact fY dJ g (.inr (by decide)) _
theorem find_sg {op:Int} (h:4≤op∧op≤8∨10≤op∧op≤15∨op=18∨op=19):
  (lvl op=1→opsOr.find? (fun y=>decide (y.1.data.toList=(sgK op).2))=some (kOR,op))∧(lvl op=2→(opsAnd.find? (fun y=>decide (y.1.data.toList=(sgK op).2))).map (·.2)=some op)∧
  (lvl op=4→(opsCmp.find? (fun y=>decide (y.1.data.toList=(sgK op).2))).map (·.2)=some op)∧(lvl op=5→(opsSum.find? (fun y=>decide (y.1.data.toList=(sgK op).2))).map (·.2)=some op)∧
  (lvl op=6→(opsPro.find? (fun y=>decide (y.1.data.toList=(sgK op).2))).map (·.2)=some op):=by
 have:op=4∨op=5∨op=6∨op=7∨op=8∨op=10∨op=11∨op=12∨op=13∨op=14∨op=15∨op=18∨op=19:=by omega
 rcases this with rfl|rfl|rfl|rfl|rfl|rfl|rfl|rfl|rfl|rfl|rfl|rfl|rfl<;>decide
end
section
open Lx (Tk isDigit isLetter inWord spanN isPrint)
theorem aT {ts:List Tk} {k:Kt} (h:ts.map er= [k]):∃a,ts= [a]∧er a=k:=by
 obtain⟨a,l,rfl,e,f⟩:=List.map_eq_cons_iff.1 h
 obtain rfl:=List.map_eq_nil_iff.1 f
 exact⟨a,rfl,e⟩
theorem ao {ts:List Tk} {k:Kt} {K:List Kt} (h:ts.map er=k::K):∃a e,ts=a::e∧er a=k∧e.map er=K:=by
 obtain⟨a,l,f,g,i⟩:=List.map_eq_cons_iff.1 h
 exact⟨a,l,f,g,i⟩
theorem bu {ts:List Tk} {K H:List Kt} (h:ts.map er=K++H):∃e f,ts=e++f∧e.map er=K∧f.map er=H:=by
 obtain⟨a,l,g,i,j⟩:=List.map_eq_append_iff.1 h
 exact⟨a,l,g,i,j⟩
theorem q_of (d:Nd) (ks:List Ex) {v:Int} (h:lvl d.op=v):(Ex.mk d ks).q=v.toNat:=by unfold Ex.q;show(lvl d.op).toNat=_;rw[h]
theorem rd_leaf {d:Nd} {ks:List Ex} (x:(Ex.mk d ks).formed=true) (A:opN d.op=0):RdM (.mk d ks):=by
 intro n ts R f E l _
 obtain⟨B,C,i⟩:=aN x
 obtain rfl:ks= []:=eq_nil_of_length_eq_zero (by omega)
 have o:d.op=1∨d.op=2:=by rcases cQ d.op with ⟨_,h⟩|⟨h,_⟩|⟨h,_⟩|h<;>omega
 have y:(Ex.mk d []).q=8:=q_of d [] (v:=8) (by rcases o with h|h<;>rw[h] <;>decide)
 rw[y]at l ⊢
 show aG (exprP n) ⟨ts++R,false⟩=((Ex.mk d []).st0,⟨R,false⟩)
 rw[Ex.st0,nO]
 rw[Ex.tkp]at f
 unfold tkD at f
 simp only at f
 obtain⟨op,tb,nm,ix,vk,vi,vt⟩:=d
 simp only at o f i ⊢
 unfold ndB at i
 simp only at i
 rcases o with rfl|rfl
 ·rw[if_neg (by decide),if_pos rfl]at i
  rw[if_pos rfl]at f
  simp only[Bool.and_eq_true,beq_iff_eq]at i
  obtain⟨⟨u,w⟩,g⟩:=i
  obtain rfl:=ev u
  obtain rfl:=ev w
  unfold Nd.litB at g
  simp only at g
  split at g
  ·next hv=>
   subst hv
   simp only[Bool.and_eq_true,beq_iff_eq]at g
   obtain⟨rfl,j⟩:=g
   obtain rfl:=ev j
   rw[if_neg (by decide),if_neg (by decide)]at f
   obtain⟨a,rfl,ha⟩:=aT f
   unfold aG
   rw[singleton_append,dE ha,dE ha,isS_eq (.inl rfl) _ ha,if_neg (by decide),if_neg (by decide),if_pos (by decide)]
   rfl
  ·split at g
   ·next hv=>
    subst hv
    simp only[Bool.and_eq_true,beq_iff_eq,decide_eq_true_eq]at g
    obtain⟨⟨j,D⟩,k⟩:=g
    obtain rfl:=ev k
    rw[if_pos rfl]at f
    obtain⟨a,rfl,ha⟩:=aT f
    unfold aG
    rw[singleton_append,dE ha,if_pos (by decide)]
    unfold numP
    rw[tak_at ha]
    simp only
    rw[dh,qF j]
    rfl
   ·split at g
    ·next hv=>
     subst hv
     simp only[Bool.and_eq_true,beq_iff_eq]at g
     obtain⟨rfl,j⟩:=g
     rw[if_neg (by decide),if_pos rfl]at f
     obtain⟨a,rfl,ha⟩:=aT f
     unfold aG
     rw[singleton_append,dE ha,dE ha,if_neg (by decide),if_pos (by decide),tak_at ha]
     simp only
     rw[dh]
     rfl
    ·cases g
 ·rw[if_pos rfl]at i
  rw[if_neg (by decide),if_pos rfl]at f
  simp only[Bool.and_eq_true,Bool.or_eq_true,beq_iff_eq]at i
  obtain⟨⟨u,w⟩,g⟩:=i
  unfold Nd.valZ at g
  simp only[Bool.and_eq_true,beq_iff_eq]at g
  obtain⟨⟨rfl,rfl⟩,j⟩:=g
  obtain rfl:=ev j
  by_cases r:tb.size=0
  ·rw[if_pos r]at f
   obtain rfl:=ev r
   obtain⟨a,rfl,ha⟩:=aT f
   have hs:∀t,isS t ⟨a::R,false⟩=false:=fun t=>fY t ha (.inl (by omega)) R
   unfold aG
   rw[singleton_append,dE ha,dE ha,hs,hs,hs,if_neg (by decide),if_neg (by decide),if_neg (by decide),if_neg (by decide),if_neg (by decide)]
   unfold colP
   rw[tak_at ha]
   simp only
   rw[o6 (t:=nq) (s:=⟨R,false⟩) (fun e=>by rw[e]at l;revert l;decide),if_neg (by simp),dh]
   rfl
  ·rw[if_neg r]at f
   obtain⟨a,z,rfl,ha,f⟩:=ao f
   obtain⟨b,z,rfl,hb,f⟩:=ao f
   obtain⟨c,rfl,m⟩:=aT f
   have hs:∀t,isS t ⟨a::b::c::R,false⟩=false:=fun t=>fY t ha (.inl (by omega)) _
   unfold aG
   rw[cons_append,cons_append,singleton_append,dE ha,dE ha,hs,hs,hs,if_neg (by decide),if_neg (by decide),if_neg (by decide),if_neg (by decide),if_neg (by decide)]
   unfold colP
   rw[tak_at ha]
   simp only
   rw[isS_eq (.inr rfl) nq hb,if_pos (by decide),next_at,tak_at m]
   simp only
   rw[dh,dh]
   rfl
theorem rd_one {d:Nd} {a:Ex} (C:(Ex.mk d [a]).formed=true) (E:opN d.op=1) (ha:a.formed=true) (H:RdM a):RdM (.mk d [a]):=by
 intro n ts R f w t F
 have u:=rd_at ha H
 have i:d.op=3∨d.op=9∨d.op=17∨d.op=20:=by rcases cQ d.op with ⟨h,_⟩|⟨_,h⟩|⟨h,_⟩|h<;>omega
 rw[op_st0 (by omega) (by omega) C]
 simp only[nO]
 rw[Ex.tkp]at f
 unfold tkD at f
 simp only[tkpL,getD_cons_zero]at f
 rcases i with i|i|i|i
 ·have l:(Ex.mk d [a]).q=7:=q_of d [a] (v:=7) (by rw[i];decide)
  rw[l]at t ⊢
  rw[if_neg (by omega),if_neg (by omega),if_pos i]at f
  obtain⟨b,g,rfl,hb,f⟩:=ao f
  simp only[length_cons]at w
  have j:=u 8 n g R (by omega) (by omega) f (by omega) (by omega) (fun h=>by omega)
  show unaP (aG (exprP n)) ⟨b::g++R,false⟩=(opE d.op [a.st0],⟨R,false⟩)
  unfold unaP
  rw[cons_append,isS_eq (.inr rfl) dJ hb,if_pos (by decide),next_at,i]
  have k:aG (exprP n) ⟨g++R,false⟩=(a.st0,⟨R,false⟩):=j
  rw[k]
 ·have l:(Ex.mk d [a]).q=8:=q_of d [a] (v:=8) (by rw[i];decide)
  rw[l]at t ⊢
  rw[if_neg (by omega),if_neg (by omega),if_neg (by omega),if_pos i]at f
  obtain⟨b,g,rfl,hb,f⟩:=ao f
  obtain⟨c,g,rfl,x,f⟩:=ao f
  obtain⟨g,D,rfl,o,s⟩:=bu f
  obtain⟨z,rfl,r⟩:=aT s
  simp only[length_cons,length_append,length_nil]at w
  obtain⟨m,rfl⟩:∃m,n=m+1:=⟨n-1,by omega⟩
  have j:=u 1 m g (z::R) (by omega) (by omega) o (by omega) (by rw[ob r];decide) (fun h=>by omega)
  rw[dt _ (by rw[ob r];decide)]at j
  have k:exprP (m+1) ⟨g++z::R,false⟩=(a.st0,⟨z::R,false⟩):=j
  show aG (exprP (m+1)) ⟨b::c::(g++ [z])++R,false⟩=(opE d.op [a.st0],⟨R,false⟩)
  have e:b::c::(g++ [z])++R=b::c::(g++z::R):=by simp
  rw[e]
  unfold aG
  rw[dE hb,dE hb,isS_eq (.inl rfl) kNULL hb,isS_eq (.inl rfl) iZ hb,if_neg (by decide),if_neg (by decide),if_neg (by decide),if_pos (by decide),next_at,need_at (.inr rfl) yLp x,k]
  simp only
  rw[need_at (.inr rfl) yRp r,i]
 ·have l:(Ex.mk d [a]).q=4:=q_of d [a] (v:=4) (by rw[i];decide)
  rw[l]at t ⊢
  rw[if_neg (by omega),if_neg (by omega),if_neg (by omega),if_neg (by omega),if_pos i]at f
  obtain⟨g,D,rfl,o,s⟩:=bu f
  obtain⟨b,G,rfl,hb,A⟩:=ao s
  obtain⟨z,rfl,r⟩:=aT A
  simp only[length_cons,length_append,length_nil]at w
  have j:=u 5 n g (b::z::R) (by omega) (by omega) o (by omega) (by rw[ob hb];decide) (fun h=>by omega)
  rw[dt _ (by rw[ob hb];decide)]at j
  have k:sumP (aG (exprP n)) ⟨g++b::z::R,false⟩=(a.st0,⟨b::z::R,false⟩):=j
  show testP (aG (exprP n)) ⟨g++ [b,z]++R,false⟩=(opE d.op [a.st0],⟨R,false⟩)
  have e:g++ [b,z]++R=g++b::z::R:=by simp
  rw[e]
  unfold testP
  rw[k]
  unfold tailP
  rw[j7 (.inl rfl) hb]
  have B:opsCmp.find? (fun y=>decide (y.1.data.toList= [73,83]))=none:=by decide
  rw[B]
  simp only
  rw[isS_eq (.inl rfl) kIS hb,if_pos (by decide),next_at,isS_eq (.inl rfl) kNOT r,opt_at (.inl rfl) kNOT r (by decide),need_at (.inl rfl) kNULL r,i]
  rfl
 ·have l:(Ex.mk d [a]).q=3:=q_of d [a] (v:=3) (by rw[i];decide)
  rw[l]at t ⊢
  rw[if_neg (by omega),if_neg (by omega),if_neg (by omega),if_neg (by omega),if_neg (by omega),if_pos i]at f
  obtain⟨b,g,rfl,hb,f⟩:=ao f
  simp only[length_cons]at w
  have j:=u 3 n g R (by omega) (by omega) f (by omega) t (fun h=>by omega)
  have k:notP (aG (exprP n)) ⟨g++R,false⟩=(a.st0,⟨R,false⟩):=j
  show notP (aG (exprP n)) ⟨b::g++R,false⟩=(opE d.op [a.st0],⟨R,false⟩)
  rw[cons_append,notP_not (iJ (ec n)) (dW (.inl rfl) kNOT hb _),next_at,k,i]
theorem sg_c {op:Int} (h:4≤op∧op≤8∨10≤op∧op≤16∨op=18∨op=19):((sgK op).1=2∨(sgK op).1=5)∧((ctl (sgK op):Nat):Int)=lvl op∧(lvl op=1∨lvl op=2∨lvl op=4∨lvl op=5∨lvl op=6):=by
 have:op=4∨op=5∨op=6∨op=7∨op=8∨op=10∨op=11∨op=12∨op=13∨op=14∨op=15∨op=16∨op=18∨op=19:=by omega
 rcases this with rfl|rfl|rfl|rfl|rfl|rfl|rfl|rfl|rfl|rfl|rfl|rfl|rfl|rfl<;>decide
theorem j9 {op:Int} {z:Tk} (g:er z=sgK op) (f:(sgK op).1=2∨(sgK op).1=5) {ops:List (BA×Int)} (h:(ops.find? (fun y=>decide (y.1.data.toList=(sgK op).2))).map (·.2)=some op) (R:List Tk):firstP ops ⟨z::R,false⟩=(some op,⟨R,false⟩):=by
 rw[j7 (k:=(sgK op).1) (x:=(sgK op).2) f g R ops]
 cases e:ops.find? (fun y=>decide (y.1.data.toList=(sgK op).2))with
 |none=>rw[e]at h;cases h
 |some y=>
  rw[e]at h
  simp only[Option.map_some,Option.some.injEq]at h
  simp only[h]
theorem rd_two {d:Nd} {a b:Ex} (hf:(Ex.mk d [a,b]).formed=true) (h0:opN d.op=2) (ha:a.formed=true) (hb:b.formed=true) (H:RdM a) (K:RdM b):RdM (.mk d [a,b]):=by
 intro n ts R t hn hc h4
 have D:=rd_at ha H
 have E:=rd_at hb K
 have ho:4≤d.op∧d.op≤8∨10≤d.op∧d.op≤16∨d.op=18∨d.op=19:=by rcases cQ d.op with ⟨h,_⟩|⟨h,_⟩|⟨_,h⟩|h<;>omega
 obtain⟨I,Y,Z⟩:=sg_c ho
 have ac:=op_st0 (by omega) (by omega) hf
 rw[ac]
 simp only[nO]
 rw[Ex.tkp]at t
 unfold tkD at t
 simp only[tkpL,getD_cons_zero,getD_cons_succ]at t
 rw[if_neg (by omega),if_neg (by omega),if_neg (by omega),if_neg (by omega),if_neg (by omega),if_neg (by omega)]at t
 obtain⟨B,zs,rfl,l,ag⟩:=bu t
 obtain⟨z,f,rfl,C,i⟩:=ao ag
 simp only[length_cons,length_append]at hn
 have e:B++z::f++R=B++z::(f++R):=by simp
 rw[e]
 have m:(⟨z::(f++R),false⟩:Ps).c=ctl (sgK d.op):=ob (k:=(sgK d.op).1) (x:=(sgK d.op).2) C _ _
 have J:=fun r=>tL (iJ (ec n)) r
 have F:=fun (h:4≤d.op∧d.op≤8∨10≤d.op∧d.op≤15∨d.op=18∨d.op=19)=>find_sg h
 rcases Z with hl|hl|hl|hl|hl
 all_goals
  rw[hl]at Y l i
  have hq:=q_of d [a,b] hl
  simp only[Int.toNat]at hq
  rw[hq]at hc h4 ⊢
 ·have w:=D 1 n B (z::(f++R)) (by omega) (by omega) l (by omega) (by rw[m];omega) (fun h=>by omega)
  have j:=E 2 n f R (by omega) (by omega) i (by omega) (by omega) (fun h=>by omega)
  rw[dt _ (by omega)]at j
  have g:d.op≠16:=by intro h;rw[h]at hl;revert hl;decide
  have A:=j9 C I (ops:=opsOr) (by rw[(F (by omega)).1 hl];rfl) (f++R)
  rw[w]
  show chC (lvM (aG (exprP n)) 2) opsOr _ _=chC (lvM (aG (exprP n)) 2) opsOr _ _
  rw[mO (J 2) A,j]
 ·have w:=D 2 n B (z::(f++R)) (by omega) (by omega) l (by omega) (by rw[m];omega) (fun h=>by omega)
  have j:=E 3 n f R (by omega) (by omega) i (by omega) (by omega) (fun h=>by omega)
  rw[dt _ (by omega)]at j
  have g:d.op≠16:=by intro h;rw[h]at hl;revert hl;decide
  have A:=j9 C I ((F (by omega)).2.1 hl) (f++R)
  rw[w]
  show chC (lvM (aG (exprP n)) 3) opsAnd _ _=chC (lvM (aG (exprP n)) 3) opsAnd _ _
  rw[mO (J 3) A,j]
 ·have w:=D 5 n B (z::(f++R)) (by omega) (by omega) l (by omega) (by rw[m];omega) (fun h=>by omega)
  rw[dt _ (by rw[m];omega)]at w
  have Q:sumP (aG (exprP n)) ⟨B++z::(f++R),false⟩=(a.st0,⟨z::(f++R),false⟩):=w
  show testP (aG (exprP n)) _=(_,_)
  unfold testP
  rw[Q]
  by_cases g:d.op=16
  ·
   obtain⟨_,_,L⟩:=aN hf
   have G:b.d.op=1∧b.d.vk=2:=by
    unfold ndB at L
    rw[if_neg (by omega),if_neg (by omega)]at L
    split at L
    ·cases L
    ·next hn2=>
     simp only[map_cons,map_nil,getD_cons_succ,getD_cons_zero]at hn2
     refine⟨?_,?_⟩
     ·apply Classical.byContradiction;intro h;exact hn2 ⟨g,.inl h⟩
     ·apply Classical.byContradiction;intro h;exact hn2 ⟨g,.inr h⟩
   obtain⟨⟨aS,a0,ax,an,a2,a1,P⟩,O⟩:=b
   simp only[Ex.d]at G
   obtain⟨rfl,rfl⟩:=G
   obtain⟨V,a3,o⟩:=aN hb
   obtain rfl:O= []:=eq_nil_of_length_eq_zero (by simp[opN]at V;omega)
   unfold ndB at o
   dsimp only at o
   rw[if_neg (show¬(1:Int)=2 by decide),if_pos rfl]at o
   simp only[Bool.and_eq_true,beq_iff_eq]at o
   obtain⟨⟨W,X⟩,s⟩:=o
   obtain rfl:=ev W
   obtain rfl:=ev X
   unfold Nd.litB at s
   dsimp only at s
   rw[if_neg (show¬(2:Int)=0 by decide),if_neg (show¬(2:Int)=1 by decide),if_pos rfl]at s
   simp only[Bool.and_eq_true,beq_iff_eq]at s
   obtain⟨rfl,_⟩:=s
   have ad:f.map er= [(4,P.data.toList)]:=by
    rw[i,Ex.tkp]
    rfl
   obtain⟨v,rfl,hv⟩:=aT ad
   have u:er z=(2,[76,73,75,69]):=by rw[C,g];rfl
   unfold tailP
   rw[j7 (.inl rfl) u]
   have e2:opsCmp.find? (fun y=>decide (y.1.data.toList= [76,73,75,69]))=none:=by decide
   rw[e2]
   simp only[singleton_append]
   rw[isS_eq (.inl rfl) kIS u,if_neg (by decide),opt_at (.inl rfl) kNOT u (by decide),isS_eq (.inl rfl) oo u,if_pos (by decide),next_at,isS_eq (.inl rfl) kNOT u,tak_at hv]
   simp only
   rw[dh,g]
   rfl
  ·have j:=E 5 n f R (by omega) (by omega) i (by omega) (by omega) (fun h=>by omega)
   rw[dt _ (by omega)]at j
   have U:sumP (aG (exprP n)) ⟨f++R,false⟩=(b.st0,⟨R,false⟩):=j
   have A:=j9 C I ((F (by omega)).2.2.1 hl) (f++R)
   unfold tailP
   rw[A]
   simp only
   rw[U]
 ·have w:=D 5 n B (z::(f++R)) (by omega) (by omega) l (by omega) (by rw[m];omega) (fun h=>by omega)
  have j:=E 6 n f R (by omega) (by omega) i (by omega) (by omega) (fun h=>by omega)
  rw[dt _ (by omega)]at j
  have g:d.op≠16:=by intro h;rw[h]at hl;revert hl;decide
  have A:=j9 C I ((F (by omega)).2.2.2.1 hl) (f++R)
  rw[w]
  show chC (lvM (aG (exprP n)) 6) opsSum _ _=chC (lvM (aG (exprP n)) 6) opsSum _ _
  rw[mO (J 6) A,j]
 ·have w:=D 6 n B (z::(f++R)) (by omega) (by omega) l (by omega) (by rw[m];omega) (fun h=>by omega)
  have j:=E 7 n f R (by omega) (by omega) i (by omega) (by omega) (fun h=>by omega)
  rw[dt _ (by omega)]at j
  have g:d.op≠16:=by intro h;rw[h]at hl;revert hl;decide
  have A:=j9 C I ((F (by omega)).2.2.2.2 hl) (f++R)
  rw[w]
  show chC (lvM (aG (exprP n)) 7) opsPro _ _=chC (lvM (aG (exprP n)) 7) opsPro _ _
  rw[mO (J 7) A,j]
theorem rd_main:∀e:Ex,e.formed=true→RdM e:=by
 intro e
 induction e using Ex.ind with
 |h d ks ih=>
  intro f
  rcases cQ d.op with ⟨h0,_⟩|⟨h0,_⟩|⟨h0,_⟩|h0
  ·exact rd_leaf f h0
  ·obtain⟨a,rfl,ha⟩:=kids1 h0 f
   exact rd_one f h0 ha (ih a (by simp) ha)
  ·obtain⟨a,b,rfl,ha,hb⟩:=kids2 h0 f
   exact rd_two f h0 ha hb (ih a (by simp) ha) (ih b (by simp) hb)
  ·obtain⟨g,_⟩:=aN f
   omega
theorem rd_expr {e:Ex} (g:e.formed=true) {n:Nat} {ts R:List Tk} (f:ts.map er=e.tk 1) (j:ts.length<n) (i:(⟨R,false⟩:Ps).c=0):exprP n ⟨ts++R,false⟩=(e.st0,⟨R,false⟩):=by
 obtain⟨m,rfl⟩:∃m,n=m+1:=⟨n-1,by omega⟩
 have h:=rd_at g (rd_main e g) 1 m ts R (by omega) (by omega) f (by omega) (by omega) (fun h=>by omega)
 rw[dt _ (by omega)]at h
 exact h
end
section
open Lx (Tk isDigit isLetter inWord spanN isPrint)
abbrev dl (s:BA):List UInt8:=s.data.toList
theorem aX (a b:BA):(a++b).data.toList=a.data.toList++b.data.toList:=by rw[ByteArray.data_append,Array.toList_append]
theorem cD (b:List UInt8):lH ([32]++b):= .inr ⟨32,b,rfl,by decide⟩
theorem jq (b:List UInt8):lH ([41]++b):= .inr ⟨41,b,rfl,by decide⟩
theorem edge_quo {b:List UInt8} (h:lH b):b.head?≠some 39:=by
 rcases h with rfl|⟨c,t,rfl,rfl|rfl|rfl|rfl|rfl⟩<;>simp
theorem o7 {op:Int} {s:BA} {K:List Kt} (h:LexP lH (dl s) K) (r:Int):LexP lH (dl (brk op s r)) (brK op K r):=by
 unfold brk brK
 split
 ·simp only[dl,aX]
  have f:LexP Any ([40]++dl s++ [41]) ([(5,[40])]++K++ [(5,[41])]):=((cC (c:=40) (by decide)).cat h (fun _ _=>trivial)).cat (cC (c:=41) (by decide)) (fun b _=>jq b)
  have e:(5,[40])::(K++ [(5,[41])])= [((5:Nat),([40]:List UInt8))]++K++ [(5,[41])]:=by simp
  rw[e]
  exact f.imp fun _ _=>trivial
 ·exact h
theorem sg_lex {op:Int} (h:4≤op∧op≤8∨10≤op∧op≤16∨op=18∨op=19):LexP (fun b=>b.head? =some 32) (dl (sgn op)) [sgK op]:=by
 have now:∀b:List UInt8,b.head? =some 32→NoW b:=fun b hb=>by
  cases b with
  |nil=>cases hb
  |cons c t=>simp at hb;subst hb;rfl
 have:op=4∨op=5∨op=6∨op=7∨op=8∨op=10∨op=11∨op=12∨op=13∨op=14∨op=15∨op=16∨op=18∨op=19:=by omega
 rcases this with rfl|rfl|rfl|rfl|rfl|rfl|rfl|rfl|rfl|rfl|rfl|rfl|rfl|rfl
 ·exact(cC (c:=43) (by decide)).imp fun _ _=>trivial
 ·exact nZ.imp fun b hb=>by rw[hb];simp
 ·exact(cC (c:=42) (by decide)).imp fun _ _=>trivial
 ·exact(cC (c:=47) (by decide)).imp fun _ _=>trivial
 ·exact(cC (c:=37) (by decide)).imp fun _ _=>trivial
 ·exact(cC (c:=61) (by decide)).imp fun _ _=>trivial
 ·exact(tK (c:=60) (d:=62) (by decide)).imp fun _ _=>trivial
 ·exact lex_ang (c:=60) (by decide)
 ·exact(tK (c:=60) (d:=61) (by decide)).imp fun _ _=>trivial
 ·exact lex_ang (c:=62) (by decide)
 ·exact(tK (c:=62) (d:=61) (by decide)).imp fun _ _=>trivial
 ·exact(dv (l:= [76,73,75,69]) (by decide)).imp now
 ·exact(dv (l:= [65,78,68]) (by decide)).imp now
 ·exact(dv (l:= [79,82]) (by decide)).imp now
theorem name_hd {s:BA} (h:nameB s=true):∃c r,dl s=c::r∧c≠45:=by
 have:=mJ h
 unfold Lx.nameP at this
 unfold dl
 cases hs:s.data.toList with
 |nil=>rw[hs]at this;cases this
 |cons c r=>
  rw[hs]at this
  simp only[Bool.and_eq_true,decide_eq_true_eq]at this
  refine⟨c,r,rfl,fun e=>?_⟩
  have f:=this.1.1.2.1
  rw[e]at f
  revert f;decide
theorem hd8 {e:Ex} (l:e.formed=true) (b:List UInt8):(dl (e.tx 8)++b).head?≠some 45:=by
 obtain⟨d,ks⟩:=e
 obtain⟨t,u,f⟩:=aN l
 unfold Ex.tx brk
 have o:=iR d.op
 split
 ·simp only[dl,aX]
  show(([40]++_++ [41])++b).head?≠_
  simp
 ·next hl=>
  have n:¬lvl d.op<8:=hl
  have g:d.op=1∨d.op=2∨d.op=9:=by
   have:lvl d.op=8:=by omega
   unfold lvl at this
   repeat' split at this
   all_goals omega
  rw[Ex.pl]
  unfold plD
  simp only
  rcases g with g|g|g
  ·rw[if_pos g]
   unfold ndB at f
   rw[if_neg (by omega),if_pos g]at f
   simp only[Bool.and_eq_true]at f
   split
   ·next hv=>
    have m:=(iE f.2).2.1 hv
    obtain⟨k,s,c,r,j,_⟩:=kX d.vi.toNat
    unfold dl
    rw[mL m.1,j]
    simp only[cons_append,head?_cons,ne_eq,Option.some.injEq]
    intro e
    have:=k c (by rw[j];simp)
    rw[e]at this
    revert this;decide
   ·split
    ·simp only[dl,aX]
     show(([39]++_++ [39])++b).head?≠_
     simp
    ·show([78,85,76,76]++b).head?≠_
     simp
  ·rw[if_neg (by omega),if_pos g]
   unfold ndB at f
   rw[if_pos g]at f
   simp only[Bool.and_eq_true,Bool.or_eq_true,beq_iff_eq]at f
   split
   ·obtain⟨c,r,e,i⟩:=name_hd f.1.1
    rw[e]
    simpa using i
   ·next ht=>
    obtain⟨c,r,e,i⟩:=name_hd (f.1.2.resolve_left ht)
    unfold dl at e ⊢
    rw[aX,aX,e]
    simpa using i
  ·rw[if_neg (by omega),if_neg (by omega),if_neg (by omega),if_pos g]
   simp only[dl,aX]
   show(([76,69,78,71,84,72,40]++_++ [41])++b).head?≠_
   simp
theorem pl_lex:∀e:Ex,e.formed=true→LexP lH (dl e.pl) e.tkp:=by
 intro e
 induction e using Ex.ind with
 |h d ks ih=>
  intro m
  obtain⟨G,H,f⟩:=aN m
  have g:∀ {l:List UInt8} {K:List Kt},LexP Any l K→LexP lH l K:=fun h=>h.imp fun _ _=>trivial
  rw[Ex.pl,Ex.tkp]
  rcases cQ d.op with ⟨h0,h4⟩|⟨h0,h4⟩|⟨h0,h4⟩|h0
  ·unfold plD tkD
   simp only
   by_cases o1:d.op=1
   ·rw[if_pos o1,if_pos o1]
    unfold ndB at f
    rw[if_neg (by omega),if_pos o1]at f
    simp only[Bool.and_eq_true]at f
    have hb:=f.2
    split
    ·next hv=>
     have s:=(iE hb).2.1 hv
     exact(mM s.1 s.2).imp fun _ h=>h.now
    ·split
     ·next hv1 hv2=>
      unfold Nd.litB at hb
      rw[if_neg (by omega),if_neg hv1,if_pos hv2]at hb
      simp only[Bool.and_eq_true]at hb
      obtain⟨E,F⟩:=print_of hb.2
      have k:=lex_text E F
      simp only[dl,aX]
      have e:(⟨#[39]⟩:BA).data.toList++(oL d.vt).data.toList++(⟨#[39]⟩:BA).data.toList=39::(Lx.flat d.vt.data.toList++ [39]):=by
       unfold oL
       rw[←flat_quo]
       simp
      rw[e]
      exact k.imp fun _ h=>edge_quo h
     ·exact(dv (l:= [78,85,76,76]) (by decide)).imp fun _ h=>h.now
   ·have o2:d.op=2:=by omega
    rw[if_neg o1,if_neg o1,if_pos o2,if_pos o2]
    unfold ndB at f
    rw[if_pos (by omega)]at f
    simp only[Bool.and_eq_true,Bool.or_eq_true,beq_iff_eq]at f
    have t:=qE (mJ f.1.1)
    split
    ·exact t.imp fun _ h=>h.now
    ·next n=>
     have n:=qE (mJ (f.1.2.resolve_left n))
     simp only[dl,aX]
     have k:=(n.cat (cC (c:=46) (by decide)) (fun b _=> (show NoW ([46]++b) by unfold NoW;rfl))).cat t (fun _ _=>trivial)
     exact k.imp fun _ h=>h.now
  ·obtain⟨a,rfl,ha⟩:=kids1 h0 m
   have hb:=fun r=>o7 (op:=a.d.op) (ih a (by simp) ha) r
   unfold plD tkD
   simp only[plL,tkpL,getD_cons_zero]
   rcases h4 with h4|h4|h4|h4
   ·rw[if_neg (by omega),if_neg (by omega),if_pos h4,if_neg (by omega),if_neg (by omega),if_pos h4]
    simp only[dl,aX]
    exact nZ.cat (hb 8) (fun b _=>hd8 ha b)
   ·rw[if_neg (by omega),if_neg (by omega),if_neg (by omega),if_pos h4,if_neg (by omega),if_neg (by omega),if_neg (by omega),if_pos h4]
    simp only[dl,aX]
    have i:=((dv (l:= [76,69,78,71,84,72]) (by decide)).cat (cC (c:=40) (by decide)) (fun b _=> (show NoW ([40]++b) by unfold NoW;rfl)))
    have j:=(i.cat (hb 1) (fun _ _=>trivial)).cat (cC (c:=41) (by decide)) (fun b _=>jq b)
    have:=g j
    simpa using this
   ·rw[if_neg (by omega),if_neg (by omega),if_neg (by omega),if_neg (by omega),if_pos h4,if_neg (by omega),if_neg (by omega),if_neg (by omega),if_neg (by omega),if_pos h4]
    simp only[dl,aX]
    have i:=(hb 5).cat aQ (fun b _=>cD b)
    have j:=(i.cat (dv (l:= [73,83]) (by decide)) (fun _ _=>trivial)).cat aQ (fun b _=> (cD b).now)
    have o:=j.cat (dv (l:= [78,85,76,76]) (by decide)) (fun _ _=>trivial)
    have u:=o.imp (Q:=lH) fun _ h=>h.now
    simpa using u
   ·rw[if_neg (by omega),if_neg (by omega),if_neg (by omega),if_neg (by omega),if_neg (by omega),if_pos h4,if_neg (by omega),if_neg (by omega),if_neg (by omega),if_neg (by omega),if_neg (by omega),if_pos h4]
    simp only[dl,aX]
    have i:=((dv (l:= [78,79,84]) (by decide)).cat aQ (fun b _=> (cD b).now)).cat (hb 3) (fun _ _=>trivial)
    simpa using i
  ·obtain⟨a,b,rfl,ha,hb⟩:=kids2 h0 m
   have w:=fun r=>o7 (op:=a.d.op) (ih a (by simp) ha) r
   have x:=fun r=>o7 (op:=b.d.op) (ih b (by simp) hb) r
   unfold plD tkD
   simp only[plL,tkpL,getD_cons_zero,getD_cons_succ]
   have y:¬d.op=1:=by omega
   have z:¬d.op=2:=by omega
   have A:¬d.op=3:=by omega
   have B:¬d.op=9:=by omega
   have C:¬d.op=17:=by omega
   have D:¬d.op=20:=by omega
   simp only[y,z,A,B,C,D,if_false]
   simp only[dl,aX]
   have i:=(w (if lvl d.op=4 then 5 else lvl d.op)).cat aQ (fun b _=>cD b)
   have j:=(i.cat (sg_lex (op:=d.op) (by omega)) (fun _ _=>trivial)).cat aQ (fun b _=>rfl)
   have o:=j.cat (x (lvl d.op+1)) (fun _ _=>trivial)
   simpa using o
  ·omega
theorem od {e:Ex} (f:e.formed=true) (r:Int):LexP lH (dl (e.tx r)) (e.tk r):=o7 (pl_lex e f) r
end
section
open Lx (Tk isDigit isLetter inWord spanN isPrint)
abbrev LxE:=LexP lH
theorem anyE {l:List UInt8} {K:List Kt} (h:LexP Any l K) {P:List UInt8→Prop} :LexP P l K:=h.imp fun _ _=>trivial
theorem oO {l:List UInt8} {K:List Kt} (h:LexP NoW l K):LxE l K:=h.imp fun _ h=>h.now
def kwsB:List (List UInt8)→List UInt8
 | []=> []
 |k::l=>k++32::kwsB l
theorem cO:∀l:List (List UInt8),(∀k∈l,k∈Lx.kwNames)→LexP Any (kwsB l) (l.map fun k=> (2,k))
 | [],_=>mK
 |k::l,h=>by
  have e:=((dv (h k mem_cons_self)).cat aQ (fun b _=> (cD b).now)).cat (cO l fun x f=>h x (mem_cons_of_mem _ f)) (fun _ _=>trivial)
  simpa[kwsB] using e
def kwsA:List (List UInt8)→List UInt8
 | []=> []
 |k::l=>32::(k++kwsA l)
theorem vM (l:List (List UInt8)) (b:List UInt8) (h:NoW b):NoW (kwsA l++b):=by
 cases l with
 |nil=>exact h
 |cons k l=>rfl
theorem g9:∀l:List (List UInt8),(∀k∈l,k∈Lx.kwNames)→LexP NoW (kwsA l) (l.map fun k=> (2,k))
 | [],_=>mK
 |k::l,h=>by
  have e:=(aQ.cat (dv (h k mem_cons_self)) (fun _ _=>trivial)).cat (g9 l fun x f=>h x (mem_cons_of_mem _ f)) (fun b hb=>vM l b hb)
  simpa[kwsA] using e
theorem cX {s:BA} (h:nameB s=true):LexP NoW (dl s) [nmK s]:=qE (mJ h)
theorem edge_l (c:UInt8) (e:c=32∨c=41∨c=44∨c=59∨c=10) (l b:List UInt8):lH ((c::l)++b):= .inr ⟨c,l++b,rfl,e⟩
theorem cma_lex:∀(l:List (BA×List Kt)),(∀x∈l,LxE (dl x.1) x.2)→LxE (dl (cma (l.map (·.1)))) (cmK (l.map (·.2))):=by
 have g:∀(l:List (BA×List Kt)) (a:BA) (K:List Kt),LxE (dl a) K→(∀x∈l,LxE (dl x.1) x.2)→LxE (dl ((l.map (·.1)).foldl (fun a y=>a++jQ++y) a)) (K++(l.map (·.2)).flatMap fun y=> (5,[44])::y):=by
  intro l
  induction l with
  |nil=>intro a K h _;simpa using h
  |cons x l ih=>
   intro a K h e
   rw[map_cons,foldl_cons,map_cons,flatMap_cons]
   have j:LxE (dl (a++jQ++x.1)) (K++((5,[44])::x.2)):=by
    simp only[dl,aX]
    have k:LexP Any ([44]++ [32]) ([((5:Nat),([44]:List UInt8))]++ []):=(cC (c:=44) (by decide)).cat aQ (fun _ _=>trivial)
    have m:=(h.cat k (fun b _=>edge_l 44 (by decide) [32] b)).cat (e x mem_cons_self) (fun _ _=>trivial)
    have i:jQ.data.toList= [44,32]:=rfl
    rw[i]
    simpa using m
   have:=ih (a++jQ++x.1) _ j fun y f=>e y (mem_cons_of_mem _ f)
   simpa using this
 intro l e
 cases l with
 |nil=>exact mK
 |cons x l=>exact g l x.1 x.2 (e x mem_cons_self) fun y f=>e y (mem_cons_of_mem _ f)
theorem jr {α:Type} (l:List α) (tx:α→BA) (tk:α→List Kt) (h:∀x∈l,LxE (dl (tx x)) (tk x)):LxE (dl (cma (l.map tx))) (cmK (l.map tk)):=by
 have e:=cma_lex (l.map fun x=> (tx x,tk x)) fun y g=>by
  obtain⟨x,f,rfl⟩:=List.mem_map.1 g
  exact h x f
 simpa[map_map,Function.comp_def] using e
theorem kc:LexP Any [41] [(5,[41])]:=cC (by decide)
theorem ke:LexP Any [40] [(5,[40])]:=cC (by decide)
theorem cma_names {l:List BA} (h:l.all nameB=true):LxE (dl (cma l)) (cmK (l.map fun s=> [nmK s])):=by
 have:=jr l (fun s=>s) (fun s=> [nmK s]) fun s hs=>oO (cX (List.all_eq_true.1 h s hs))
 simpa using this
theorem oe {l:List BA} (h:l.all nameB=true):LexP Any ([40]++dl (cma l)++ [41]) (nmsK l):=by
 have e:=(ke.cat (cma_names h) (fun _ _=>trivial)).cat kc (fun b _=>jq b)
 simpa[nmsK] using e
theorem tN {n:Int} (k: -2147483648≤n) (i:n≤2147483648):LexP NoW (dl (itoB n)) (bndK n):=by
 unfold bndK
 split
 ·next hn=>
  have e:dl (itoB n)= [45]++dl (itoB (-n)):=by
   unfold dl itoB Lib.itoa
   rw[if_pos hn,if_neg (by omega)]
   have:(-n).toNat=n.natAbs:=by omega
   simp[this]
  rw[e]
  refine LexP.cat nZ (mM (by omega) (by omega)) (fun b _=>?_)
  obtain⟨g,j,c,r,f,_⟩:=kX (-n).toNat
  unfold dl
  rw[mL (by omega),f]
  simp only[cons_append,head?_cons,ne_eq,Option.some.injEq]
  intro e
  have:=g c (by rw[f];simp)
  rw[e]at this
  revert this;decide
 ·exact mM (by omega) i
theorem cd_lex {x:Cd} (h:x.ok=true):LxE (dl x.tx) x.tk:=by
 have hb:LexP Any (dl x.bs) (nmK x.nm::(if x.ty=1 then (2,[73,78,84,69,71,69,82])::(5,[40])::(bndK x.lo++(5,[44])::(bndK x.hi++ [(5,[41])]))else (2,[84,69,88,84])::(5,[40])::(bndK x.mx++ [(5,[41])]))):=by
  unfold Cd.ok at h
  unfold Cd.bs
  by_cases e:x.ty=1
  ·rw[if_pos (by simpa using e)]at h
   rw[if_pos e,if_pos e]
   simp only[Bool.and_eq_true,dC]at h
   obtain⟨⟨⟨i,g⟩,m⟩,_⟩:=h
   simp only[dl,aX]
   have j:=(((cX i).cat aQ (fun b _=> (cD b).now)).cat (dv (l:= [73,78,84,69,71,69,82]) (by decide)) (fun _ _=>trivial)).cat ke (fun b _=>rfl)
   have f:=(j.cat (tN g.1 g.2) (fun _ _=>trivial)).cat (cC (c:=44) (by decide)) (fun b _=>rfl)
   have n:=((f.cat aQ (fun _ _=>trivial)).cat (tN m.1 m.2) (fun _ _=>trivial)).cat kc (fun b _=>rfl)
   simpa using n
  ·rw[if_neg (by simpa using e)]at h
   rw[if_neg e,if_neg e]
   simp only[Bool.and_eq_true,dC]at h
   obtain⟨⟨⟨⟨_,i⟩,_⟩,_⟩,g⟩:=h
   simp only[dl,aX]
   have j:=(((cX i).cat aQ (fun b _=> (cD b).now)).cat (dv (l:= [84,69,88,84]) (by decide)) (fun _ _=>trivial)).cat ke (fun b _=>rfl)
   have f:=(j.cat (tN (by omega) g.2) (fun _ _=>trivial)).cat kc (fun b _=>rfl)
   simpa using f
 unfold Cd.tx Cd.tk
 split
 ·simp only[dl,aX]
  have k:=hb.cat (g9 [[78,79,84],[78,85,76,76]] (by decide)) (fun _ _=>trivial)
  have f:=oO k
  simpa[kwsA] using f
 ·simpa using (anyE hb:LxE _ _)
theorem key_lex {k:List BA} (h:namesB k=true):LxE (dl (keyT k)) (keyK k):=by
 unfold namesB at h
 simp only[Bool.and_eq_true]at h
 have e:=(cO [[85,78,73,81,85,69]] (by decide)).cat (oe h.2) (fun _ _=>trivial)
 unfold keyT keyK
 simp only[dl,aX]
 have f:LxE _ _:=anyE e
 simpa[kwsB] using f
theorem rf_lex {x:Rf} (h:x.ok=true):LxE (dl x.tx) x.tk:=by
 unfold Rf.ok namesB at h
 simp only[Bool.and_eq_true]at h
 obtain⟨⟨⟨_,e⟩,f⟩,_,g⟩:=h
 have i:=(cO [[70,79,82,69,73,71,78],[75,69,89]] (by decide)).cat (oe e) (fun _ _=>trivial)
 have j:=(i.cat aQ (fun _ _=>trivial)).cat (cO [[82,69,70,69,82,69,78,67,69,83]] (by decide)) (fun _ _=>trivial)
 have k:=((j.cat (cX f) (fun _ _=>trivial)).cat aQ (fun b _=> (cD b).now)).cat (oe g) (fun _ _=>trivial)
 unfold Rf.tx Rf.tk
 simp only[dl,aX]
 have l:LxE _ _:=anyE k
 simpa[kwsB] using l
theorem chk_lex {e:Ex} (h:e.formed=true):LxE (dl (gK e)) (chkK e):=by
 have f:=(((cO [[67,72,69,67,75]] (by decide)).cat ke (fun _ _=>trivial)).cat (od h 1) (fun _ _=>trivial)).cat kc (fun b _=>jq b)
 unfold gK chkK
 simp only[dl,aX]
 have g:LxE _ _:=anyE f
 simpa[kwsB] using g
theorem exs_lex {l:List Ex} (h:l.all Ex.formed=true):LxE (dl (exsT l)) (exsK l):=jr l (fun e=>e.tx 1) (fun e=>e.tk 1) fun e f=>od (List.all_eq_true.1 h e f) 1
theorem row_lex {l:List Ex} (h:rowOk l=true):LxE (dl (dV l)) (rowK l):=by
 unfold rowOk at h
 simp only[Bool.and_eq_true]at h
 have e:=(ke.cat (exs_lex h.2) (fun _ _=>trivial)).cat kc (fun b _=>jq b)
 unfold dV rowK
 simp only[dl,aX]
 have f:LxE _ _:=anyE e
 simpa using f
theorem asg_lex {x:Asg} (h:x.ok=true):LxE (dl x.tx) x.tk:=by
 unfold Asg.ok at h
 simp only[Bool.and_eq_true]at h
 have e:=(((cX h.1).cat aQ (fun b _=> (cD b).now)).cat (cC (c:=61) (by decide)) (fun _ _=>trivial)).cat aQ (fun _ _=>trivial)
 have f:=e.cat (od h.2 1) (fun _ _=>trivial)
 unfold Asg.tx Asg.tk
 simp only[dl,aX]
 simpa using f
theorem itm_lex {x:Itm} (h:x.ok=true):LxE (dl x.tx) x.tk:=by
 unfold Itm.tx Itm.tk
 unfold Itm.ok at h
 by_cases f:x.ag=1
 ·rw[if_pos f,if_pos f]
  have k:=(((dv (l:= [67,79,85,78,84]) (by decide)).cat ke (fun b _=>rfl)).cat (cC (c:=42) (by decide)) (fun _ _=>trivial)).cat kc (fun _ _=>trivial)
  exact anyE k
 ·rw[if_neg f,if_neg f]
  rw[if_neg (by simpa using f)]at h
  simp only[Bool.and_eq_true,decide_eq_true_eq]at h
  obtain⟨⟨n,o⟩,i⟩:=h
  by_cases g:x.ag=0
  ·rw[if_pos g,if_pos g]
   exact od i 1
  ·rw[if_neg g,if_neg g]
   have j:(agW x.ag).data.toList∈Lx.kwNames:=by
    have:x.ag=2∨x.ag=3∨x.ag=4∨x.ag=5:=by omega
    rcases this with e|e|e|e<;> (rw[e];decide)
   have k:=(((dv j).cat ke (fun b _=>rfl)).cat (od i 1) (fun _ _=>trivial)).cat kc (fun b _=>jq b)
   simp only[dl,aX]
   have m:LxE _ _:=anyE k
   simpa[agK] using m
theorem src_lex {x:Src} (h:x.ok=true):LxE (dl x.tx) x.tk:=by
 unfold Src.ok at h
 simp only[Bool.and_eq_true,Bool.or_eq_true]at h
 unfold Src.tx Src.tk
 split
 ·exact oO (cX h.1)
 ·next ha=>
  have g:nameB x.al=true:=h.2.resolve_left fun e=>by
   rw[gc]at e
   have f:N x.al= []:=by simpa using e
   have:=congrArg List.length f
   rw[N_len]at this
   exact ha this
  have k:=(((cX h.1).cat (aQ.cat (dv (l:= [65,83]) (by decide)) (fun _ _=>trivial)) (fun b _=>rfl)).cat aQ (fun b _=> (cD b).now)).cat (cX g) (fun _ _=>trivial)
  have i:=oO k
  simp only[dl,aX]
  simpa using i
theorem ord_lex {x:Ord'} (h:x.ok=true):LxE (dl x.tx) x.tk:=by
 unfold Ord'.ok at h
 rw[dC]at h
 have e:=mM (n:=x.it) (by omega) h.2
 unfold Ord'.tx Ord'.tk
 split
 ·simp only[dl,aX]
  have k:=oO (e.cat (g9 [[68,69,83,67]] (by decide)) (fun b hb=>vM _ b hb))
  simpa[kwsA,numK] using k
 ·exact oO e
def SpE (l:List UInt8):Prop:=l= []∨∃t,l=32::t
theorem SpE.edge {l:List UInt8} (h:SpE l) {b:List UInt8} (hb:lH b):lH (l++b):=by
 rcases h with rfl|⟨t,rfl⟩
 ·exact hb
 ·exact edge_l 32 (by decide) t b
theorem wh_lex {s:St} (h:s.whr.absent=true∨s.whr.formed=true):LxE (dl s.whT) s.whK∧SpE (dl s.whT):=by
 unfold St.whT St.whK
 split
 ·exact⟨mK,.inl rfl⟩
 ·next ha=>
  have e:=h.resolve_left ha
  have k:=((g9 [[87,72,69,82,69]] (by decide)).cat aQ (fun b _=> (cD b).now)).cat (od e 1) (fun _ _=>trivial)
  refine⟨?_,.inr ?_⟩
  ·unfold nI
   simp only[dl,aX]
   simpa[kwsA] using k
  ·unfold nI
   simp only[dl,aX]
   exact⟨_,rfl⟩
end
section
open Lx (Tk isDigit isLetter inWord spanN isPrint)
theorem kY {s:St} (h:s.formed=true) (f:s.kd≤4):nameB s.tb=true:=by
 unfold St.formed at h
 dsimp only at h
 simp only[Bool.and_eq_true,decide_eq_true_eq]at h
 obtain⟨⟨⟨⟨⟨⟨⟨⟨⟨⟨⟨⟨_,_⟩,_⟩,e⟩,_⟩,_⟩,_⟩,_⟩,_⟩,_⟩,_⟩,_⟩,_⟩:=h
 simpa[f] using e
theorem formed_nm {s:St} (h:s.formed=true) (e:s.kd=9∨s.kd=10∨s.kd=11):nameB s.nm=true:=by
 unfold St.formed at h
 dsimp only at h
 simp only[Bool.and_eq_true,decide_eq_true_eq]at h
 obtain⟨⟨⟨⟨⟨⟨⟨⟨⟨⟨⟨⟨_,_⟩,_⟩,_⟩,_⟩,f⟩,_⟩,_⟩,_⟩,_⟩,_⟩,_⟩,_⟩:=h
 rcases e with e|e|e<;>simpa[e] using f
theorem elts_lex {s:St} (h:s.defOk=true):LxE (dl (cma s.elts)) (cmK s.eltsK):=by
 unfold St.defOk at h
 simp only[Bool.and_eq_true,all_eq_true]at h
 obtain⟨⟨⟨⟨_,f⟩,g⟩,i⟩,j⟩:=h
 have k:=cma_lex (s.cols.map (fun x=> (x.tx,x.tk))++s.keys.map (fun x=> (keyT x,keyK x))++s.frs.map (fun x=> (x.tx,x.tk))++s.chk.map (fun x=> (gK x,chkK x))) (fun x e=>by
  simp only[mem_append,mem_map]at e
  rcases e with ((⟨y,hy,rfl⟩|⟨y,hy,rfl⟩)|⟨y,hy,rfl⟩)|⟨y,hy,rfl⟩
  ·exact cd_lex (f y hy)
  ·exact key_lex (g y hy)
  ·exact rf_lex (i y hy)
  ·exact chk_lex (j y hy))
 simpa[St.elts,St.eltsK,map_append,map_map,Function.comp_def] using k
def PtL (l:List UInt8) (K:List Kt):Prop:=LxE l K∧SpE l
theorem PtL.cat {l m:List UInt8} {K H:List Kt} (h:LxE l K) (k:PtL m H):LxE (l++m) (K++H):=LexP.cat h k.1 (fun b hb=>k.2.edge hb)
theorem tO:PtL [] []:=⟨mK,.inl rfl⟩
theorem grp_pt {l:List Ex} (h:l.all Ex.formed=true):PtL (if l.length=0 then []else dl ((⟨#[32,71,82,79,85,80,32,66,89,32]⟩:BA)++exsT l)) (if l.length=0 then []else (2,[71,82,79,85,80])::(2,[66,89])::exsK l):=by
 split
 ·exact tO
 ·refine⟨?_,.inr ?_⟩
  ·have k:=((g9 [[71,82,79,85,80],[66,89]] (by decide)).cat aQ (fun b _=> (cD b).now)).cat (exs_lex h) (fun _ _=>trivial)
   simp only[dl,aX]
   simpa[kwsA] using k
  ·simp only[dl,aX]
   exact⟨_,rfl⟩
theorem ord_pt {l:List Ord'} (h:l.all Ord'.ok=true):PtL (if l.length=0 then []else dl ((⟨#[32,79,82,68,69,82,32,66,89,32]⟩:BA)++cma (l.map Ord'.tx))) (if l.length=0 then []else (2,[79,82,68,69,82])::(2,[66,89])::cmK (l.map Ord'.tk)):=by
 split
 ·exact tO
 ·refine⟨?_,.inr ?_⟩
  ·have k:=((g9 [[79,82,68,69,82],[66,89]] (by decide)).cat aQ (fun b _=> (cD b).now)).cat (jr l Ord'.tx Ord'.tk fun x e=>ord_lex (List.all_eq_true.1 h x e)) (fun _ _=>trivial)
   simp only[dl,aX]
   simpa[kwsA] using k
  ·simp only[dl,aX]
   exact⟨_,rfl⟩
theorem lim_pt {n:Int} (h:0≤n∧n≤2147483648):PtL (if 0<n then dl ((⟨#[32,76,73,77,73,84,32]⟩:BA)++itoB n)else []) (if 0<n then [(2,[76,73,77,73,84]),numK n]else []):=by
 split
 ·refine⟨?_,.inr ?_⟩
  ·have k:=oO (((g9 [[76,73,77,73,84]] (by decide)).cat aQ (fun b _=> (cD b).now)).cat (mM h.1 h.2) (fun _ _=>trivial))
   simp only[dl,aX]
   simpa[kwsA,numK] using k
  ·simp only[dl,aX]
   exact⟨_,rfl⟩
 ·exact tO
theorem sel_eq (s:St):dl s.sel=(([83,69,76,69,67,84,32]++dl s.itT++ [32,70,82,79,77,32]++dl (cma (s.frm.map Src.tx))++dl s.whT)++(if s.grp.length=0 then []else dl ((⟨#[32,71,82,79,85,80,32,66,89,32]⟩:BA)++exsT s.grp)))++
  (if s.ord.length=0 then []else dl ((⟨#[32,79,82,68,69,82,32,66,89,32]⟩:BA)++cma (s.ord.map Ord'.tx)))++(if 0<s.lim then dl ((⟨#[32,76,73,77,73,84,32]⟩:BA)++itoB s.lim)else []):=by
 unfold St.sel St.sel2 St.sel1 St.sel0
 split<;>split<;>split<;>simp[dl,aX]
theorem it_lex {s:St} (h:s.itms.all Itm.ok=true):LxE (dl s.itT) s.itK:=by
 unfold St.itT St.itK
 split
 ·exact anyE (cC (c:=42) (by decide))
 ·exact jr s.itms Itm.tx Itm.tk fun x e=>itm_lex (List.all_eq_true.1 h x e)
theorem sel_lex {s:St} (h:s.qOk=true) (y:s.whr.absent=true∨s.whr.formed=true):LxE (dl s.sel) s.selK:=by
 unfold St.qOk at h
 simp only[Bool.and_eq_true,dC]at h
 obtain⟨⟨⟨⟨⟨m,_⟩,n⟩,o⟩,r⟩,t⟩:=h
 have w:s.grp.all Ex.formed=true:=List.all_eq_true.2 fun e u=>by
  have:=List.all_eq_true.1 o e u
  unfold gJ at this
  simp only[Bool.and_eq_true]at this
  exact this.2
 have f:=((cO [[83,69,76,69,67,84]] (by decide)).cat (it_lex m) (fun _ _=>trivial)).cat aQ (fun b _=>cD b)
 have g:=(f.cat (cO [[70,82,79,77]] (by decide)) (fun _ _=>trivial)).cat (jr s.frm Src.tx Src.tk fun x z=>src_lex (List.all_eq_true.1 n x z)) (fun _ _=>trivial)
 have i:=PtL.cat g (wh_lex y)
 have j:=PtL.cat i (grp_pt w)
 have k:=PtL.cat j (ord_pt r)
 have l:=PtL.cat k (lim_pt t)
 rw[sel_eq]
 unfold St.selK
 simpa[kwsB] using l
theorem st_lex {s:St} (h:s.formed=true):LxE (dl s.body) s.tk:=by
 obtain⟨⟨C,D⟩,z,_,A,_,B,_,f5,_⟩:=cu h
 have w:=gM h
 unfold St.body St.tk
 by_cases g:s.kd=1
 ·rw[if_pos g,if_pos g]
  have k:=((((cO [[67,82,69,65,84,69],[84,65,66,76,69]] (by decide)).cat (cX (kY h (by omega))) (fun _ _=>trivial)).cat (aQ.cat ke (fun _ _=>trivial)) (fun b _=>rfl)).cat (elts_lex (z g)) (fun _ _=>trivial)).cat kc (fun b _=>jq b)
  have f:LxE _ _:=anyE k
  simp only[dl,aX]
  simpa[kwsB] using f
 rw[if_neg g,if_neg g]
 by_cases i:s.kd=2
 ·rw[if_pos i,if_pos i]
  have k:=((((cO [[73,78,83,69,82,84],[73,78,84,79]] (by decide)).cat (cX (kY h (by omega))) (fun _ _=>trivial)).cat aQ (fun b _=> (cD b).now)).cat (cO [[86,65,76,85,69,83]] (by decide)) (fun _ _=>trivial)).cat (jr s.vals dV rowK fun x y=>row_lex (List.all_eq_true.1 (A i) x y)) (fun _ _=>trivial)
  simp only[dl,aX]
  simpa[kwsB] using k
 rw[if_neg i,if_neg i]
 by_cases j:s.kd=3
 ·rw[if_pos j,if_pos j]
  have k:=((((cO [[85,80,68,65,84,69]] (by decide)).cat (cX (kY h (by omega))) (fun _ _=>trivial)).cat aQ (fun b _=> (cD b).now)).cat (cO [[83,69,84]] (by decide)) (fun _ _=>trivial)).cat (jr s.sets Asg.tx Asg.tk fun x y=>asg_lex (List.all_eq_true.1 (B j) x y)) (fun _ _=>trivial)
  have f:=PtL.cat k (wh_lex w)
  simp only[dl,aX]at f ⊢
  simpa[kwsB] using f
 rw[if_neg j,if_neg j]
 by_cases n:s.kd=4
 ·rw[if_pos n,if_pos n]
  have k:=(cO [[68,69,76,69,84,69],[70,82,79,77]] (by decide)).cat (oO (cX (kY h (by omega)))) (fun _ _=>trivial)
  have f:=PtL.cat k (wh_lex w)
  unfold fX
  simp only[dl,aX]at f ⊢
  simpa[kwsB] using f
 rw[if_neg n,if_neg n]
 by_cases m:s.kd=5
 ·rw[if_pos m,if_pos m]
  exact sel_lex (f5 m) w
 rw[if_neg m,if_neg m]
 by_cases o:s.kd=6
 ·rw[if_pos o,if_pos o]
  exact oO (dv (l:= [66,69,71,73,78]) (by decide))
 rw[if_neg o,if_neg o]
 by_cases r:s.kd=7
 ·rw[if_pos r,if_pos r]
  exact oO (dv (l:= [67,79,77,77,73,84]) (by decide))
 rw[if_neg r,if_neg r]
 by_cases t:s.kd=8
 ·rw[if_pos t,if_pos t]
  exact oO (dv (l:= [82,79,76,76,66,65,67,75]) (by decide))
 rw[if_neg t,if_neg t]
 have nm:=oO (cX (formed_nm h (by omega)))
 by_cases u:s.kd=9
 ·rw[if_pos u,if_pos u]
  have k:=(cO [[83,65,86,69,80,79,73,78,84]] (by decide)).cat nm (fun _ _=>trivial)
  simp only[dl,aX]at k ⊢
  simpa[kwsB] using k
 rw[if_neg u,if_neg u]
 by_cases e:s.kd=10
 ·rw[if_pos e,if_pos e]
  have k:=(cO [[82,79,76,76,66,65,67,75],[84,79]] (by decide)).cat nm (fun _ _=>trivial)
  simp only[dl,aX]at k ⊢
  simpa[kwsB] using k
 ·rw[if_neg e,if_neg e]
  have k:=(cO [[82,69,76,69,65,83,69]] (by decide)).cat nm (fun _ _=>trivial)
  simp only[dl,aX]at k ⊢
  simpa[kwsB] using k
end
section
open Lx (Tk isDigit isLetter inWord spanN isPrint)
theorem kh {α:Type} {el:M α} (h:Fwd el):∀(n m:Nat) (o:List α) (s:Ps),s.r.length<n→s.r.length<m→listGo el n o s=listGo el m o s
 |0,_,_,s,h1,_=>absurd h1 (Nat.not_lt_zero _)
 |_+1,0,_,s,_,h2=>absurd h2 (Nat.not_lt_zero _)
 |n+1,m+1,o,s,h1,h2=>by
  rw[listGo,listGo]
  split
  ·next hi=>
   have e:=au hi
   have f:=h s.next
   exact kh h n m _ _ (by omega) (by omega)
  ·rfl
def liC {α:Type} (el:M α) (o:List α) (s:Ps):List α×Ps:=listGo el (s.r.length+1) o s
theorem listP_C {α:Type} {el:M α} (h:Fwd el) (s:Ps):listP el s=liC el [(el s).1] (el s).2:=kh h _ _ _ _ (by have:=h s;omega) (Nat.lt_succ_self _)
theorem liC_step {α:Type} {el:M α} (h:Fwd el) {s:Ps} (hi:isS yCm s=true) (o:List α):liC el o s=liC el (o++ [(el s.next).1]) (el s.next).2:=by
 have e:=au hi
 have f:=h s.next
 unfold liC
 rw[listGo,if_pos hi]
 exact kh h _ _ _ _ (by omega) (Nat.lt_succ_self _)
theorem liC_stop {α:Type} (el:M α) {s:Ps} (hi:isS yCm s=false) (o:List α):liC el o s=(o,s):=by
 unfold liC
 rw[listGo,hi,if_neg (by simp)]
def Reads' {α β:Type} (n:Nat) (el:M β) (tok:α→List Kt) (val:α→β) (Fol:Ps→Prop) (x:α):Prop:=∀(ts R:List Tk),ts.map er=tok x→ts.length<n→Fol ⟨R,false⟩→el ⟨ts++R,false⟩=(val x,⟨R,false⟩)
theorem fy {α β:Type} {n:Nat} {el:M β} (B:Fwd el) {tok:α→List Kt} {val:α→β} {Fol:Ps→Prop} (t:∀(a:Tk) (R:List Tk),er a=(5,[44])→Fol ⟨a::R,false⟩) {l:List α} (G:l≠[]) (i:∀x∈l,Reads' n el tok val Fol x)
  {ts R:List Tk} (k:ts.map er=cmK (l.map tok)) (H:ts.length<n) (E:Fol ⟨R,false⟩) (F:isS yCm ⟨R,false⟩=false):listP el ⟨ts++R,false⟩=(l.map val,⟨R,false⟩):=by
 have z:∀(l:List α) (o:List β) (ts:List Tk),(∀x∈l,Reads' n el tok val Fol x)→ts.map er=(l.map tok).flatMap (fun y=> (5,[44])::y)→ts.length<n→liC el o ⟨ts++R,false⟩=(o++l.map val,⟨R,false⟩)∧Fol ⟨ts++R,false⟩:=by
  intro l
  induction l with
  |nil=>
   intro o ts _ h _
   obtain rfl:=List.map_eq_nil_iff.1 h
   exact⟨by rw[nil_append,liC_stop el F];simp,E⟩
  |cons x l ih=>
   intro o ts C h j
   rw[map_cons,flatMap_cons]at h
   obtain⟨g,f,rfl,r,s⟩:=bu h
   obtain⟨a,g,rfl,A,D⟩:=ao r
   simp only[length_append,length_cons]at j
   have e:a::g++f++R=a::(g++(f++R)):=by simp
   rw[e]
   refine⟨?_,t a _ A⟩
   have m:=ih (o++ [val x]) f (fun y w=>C y (mem_cons_of_mem _ w)) s (by omega)
   have u:=C x mem_cons_self g (f++R) D (by omega) m.2
   rw[liC_step B (dW (.inr rfl) yCm A _),next_at,u]
   simp only
   rw[m.1]
   simp
 cases l with
 |nil=>exact absurd rfl G
 |cons x l=>
  rw[map_cons,cmK]at k
  obtain⟨g,f,rfl,r,s⟩:=bu k
  simp only[length_append]at H
  have m:=z l [val x] f (fun y w=>i y (mem_cons_of_mem _ w)) s (by omega)
  have u:=i x mem_cons_self g (f++R) r (by omega) m.2
  rw[listP_C B,append_assoc,u]
  simp only
  rw[m.1]
  simp
def F0 (s:Ps):Prop:=s.c=0
theorem f0_cm (a:Tk) (R:List Tk) (h:er a=(5,[44])):F0 ⟨a::R,false⟩:=by unfold F0;rw[ob h];decide
theorem ex_reads {n:Nat} {e:Ex} (j:e.formed=true):Reads' n (exprP n) (fun e:Ex=>e.tk 1) Ex.st0 F0 e:=fun ts R f g i=>rd_expr j f g i
theorem nm_reads {n:Nat} (x:BA):Reads' n (takP 1) (fun s=> [nmK s]) (fun s=>s) (fun _=>True) x:=fun ts R e _ _=>by
 obtain⟨a,rfl,ha⟩:=aT e
 rw[singleton_append,tak_at ha,dh]
theorem names_read {l:List BA} (h:namesB l=true) {ts R:List Tk} (g:ts.map er=nmsK l):namesP ⟨ts++R,false⟩=(l,⟨R,false⟩):=by
 unfold namesB at h
 simp only[Bool.and_eq_true]at h
 have r:l≠[]:=by
  rintro rfl
  simp at h
 obtain⟨a,f,rfl,ha,j⟩:=ao g
 obtain⟨f,t,rfl,m,o⟩:=bu j
 obtain⟨z,rfl,i⟩:=aT o
 have k:=fy (n:=f.length+1) (fwd_tak 1) (tok:=fun s=> [nmK s]) (val:=fun s=>s) (Fol:=fun _=>True) (fun _ _ _=>trivial) r (fun x _=>nm_reads x) m (Nat.lt_succ_self _) (R:=z::R) trivial (by rw[isS_eq (.inr rfl) yCm i];decide)
 rw[map_id']at k
 show(listP (takP 1) (needP yLp ⟨a::(f++ [z])++R,false⟩)|>fun x=> (x.1,needP yRp x.2))=_
 have e:a::(f++ [z])++R=a::(f++z::R):=by simp
 rw[e,need_at (.inr rfl) yLp ha,k]
 simp only
 rw[need_at (.inr rfl) yRp i]
end
section
open Lx (Tk isDigit isLetter inWord spanN isPrint)
theorem row_read {n:Nat} {l:List Ex} (h:rowOk l=true) {ts R:List Tk} (g:ts.map er=rowK l) (s:ts.length<n):tupP (exprP n) ⟨ts++R,false⟩=(l.map Ex.st0,⟨R,false⟩):=by
 unfold rowOk at h
 simp only[Bool.and_eq_true,decide_eq_true_eq,all_eq_true]at h
 have r:l≠[]:=List.length_pos_iff.1 h.1
 obtain⟨a,f,rfl,ha,j⟩:=ao g
 obtain⟨f,u,rfl,m,o⟩:=bu j
 obtain⟨z,rfl,i⟩:=aT o
 simp only[length_cons,length_append,length_nil]at s
 have k:=fy (n:=n) (ec n) (tok:=fun e:Ex=>e.tk 1) (val:=Ex.st0) (Fol:=F0) f0_cm r (fun x t=>ex_reads (h.2 x t)) m (by omega) (R:=z::R) (by unfold F0;rw[ob i];decide) (by rw[isS_eq (.inr rfl) yCm i];decide)
 show(listP (exprP n) (needP yLp ⟨a::(f++ [z])++R,false⟩)|>fun x=> (x.1,needP yRp x.2))=_
 have e:a::(f++ [z])++R=a::(f++z::R):=by simp
 rw[e,need_at (.inr rfl) yLp ha,k]
 simp only
 rw[need_at (.inr rfl) yRp i]
theorem asg_read {n:Nat} {x:Asg} (h:x.ok=true):Reads' n (asgP (exprP n)) Asg.tk Asg.st0 F0 x:=fun ts R f l j=>by
 unfold Asg.ok at h
 simp only[Bool.and_eq_true]at h
 obtain⟨a,o,rfl,ha,g⟩:=ao f
 obtain⟨b,m,rfl,hb,i⟩:=ao g
 simp only[length_cons]at l
 have k:=rd_expr (n:=n) h.2 i (by omega) j
 show(fun t:BA×Ps=> (fun e:Ex×Ps=> ((⟨t.1,0,e.1⟩:Asg),e.2)) (exprP n (needP yEq t.2))) (takP 1 ⟨a::b::m++R,false⟩)=_
 rw[cons_append,tak_at ha]
 simp only
 rw[cons_append,need_at (.inr rfl) yEq hb,k,dh]
 rfl
theorem vN {n:Nat} {x:Src} (h:x.ok=true):Reads' n srcP Src.tk (fun x=>x) (fun s=>isS kAS s=false) x:=fun ts R e o k=>by
 unfold Src.tk at e
 have f:∀s:Ps,srcP s=(fun t:BA×Ps=>if isS kAS t.2=true then ((⟨t.1,(takP 1 t.2.next).1⟩:Src),(takP 1 t.2.next).2)else (⟨t.1,⟨#[]⟩⟩,t.2)) (takP 1 s):=fun s=>by
  unfold srcP ay ifM aH
  rfl
 rw[f]
 split at e
 ·next ha=>
  obtain⟨a,rfl,g⟩:=aT e
  rw[singleton_append,tak_at g]
  simp only
  rw[k,if_neg (by simp),dh]
  obtain⟨tb,al⟩:=x
  rw[ev (s:=al) ha]
 ·obtain⟨a,m,rfl,g,i⟩:=ao e
  obtain⟨b,m,rfl,hb,j⟩:=ao i
  obtain⟨c,rfl,l⟩:=aT j
  rw[cons_append,tak_at g]
  simp only
  rw[cons_append,isS_eq (.inl rfl) kAS hb,if_pos (by decide),next_at,singleton_append,tak_at l]
theorem num_read {n:Int} (h:0≤n) {a:Tk} (ha:er a=numK n) (R:List Tk):numP ⟨a::R,false⟩=(n,⟨R,false⟩):=by
 unfold numP
 rw[tak_at (k:=3) (x:=(itoB n).data.toList) ha]
 simp only
 rw[dh,qF h]
theorem pos_read {n:Int} (h:1≤n) {a:Tk} (ha:er a=numK n) (R:List Tk):posP ⟨a::R,false⟩=(n,⟨R,false⟩):=by
 unfold posP
 rw[tkB_at (k:=3) (x:=(itoB n).data.toList) ha,dh,qF (by omega),if_neg,num_read (by omega) ha]
 simp
 omega
theorem ord_read {n:Nat} {x:Ord'} (h:x.ok=true):Reads' n (dG posP) Ord'.tk (fun x=>x) (fun s=>isS kASC s=false∧isS jJ s=false) x:=fun ts R g k i=>by
 unfold Ord'.ok at h
 rw[dC]at h
 unfold Ord'.tk at g
 have f:∀s:Ps,dG posP s=(fun t:Int×Ps=>if isS kASC t.2=true then ((⟨t.1,false⟩:Ord'),t.2.next)else if isS jJ t.2=true then (⟨t.1,true⟩,t.2.next)else (⟨t.1,false⟩,t.2)) (posP s):=fun s=>by
  unfold dG ay ifM aH
  rfl
 rw[f]
 obtain⟨it,ds⟩:=x
 obtain⟨a,l,rfl,j,e⟩:=ao g
 rw[cons_append,pos_read h.1 j]
 simp only at e ⊢
 cases ds with
 |true=>
  rw[if_pos rfl]at e
  obtain⟨b,rfl,hb⟩:=aT e
  rw[singleton_append,isS_eq (.inl rfl) kASC hb,isS_eq (.inl rfl) jJ hb,if_neg (by decide),if_pos (by decide)]
  rfl
 |false=>
  rw[if_neg (by simp)]at e
  obtain rfl:=List.map_eq_nil_iff.1 e
  rw[nil_append,i.1,i.2,if_neg (by simp),if_neg (by simp)]
theorem bnd_read {n:Int} {ts R:List Tk} (e:ts.map er=bndK n):eK ⟨ts++R,false⟩=(n,⟨R,false⟩):=by
 unfold bndK at e
 have f:∀s:Ps,eK s=if isS dJ s=true then (-(numP s.next).1,(numP s.next).2)else numP s:=fun s=>rfl
 rw[f]
 split at e
 ·next hn=>
  obtain⟨a,i,rfl,ha,g⟩:=ao e
  obtain⟨b,rfl,hb⟩:=aT g
  rw[cons_append,isS_eq (.inr rfl) dJ ha,if_pos (by decide),next_at,singleton_append,num_read (by omega) hb]
  simp
 ·obtain⟨a,rfl,ha⟩:=aT e
  rw[singleton_append,fY (k:=3) (x:=(itoB n).data.toList) dJ ha (.inl (by omega)) R,if_neg (by simp),num_read (by omega) ha]
end
section
open Lx (Tk isDigit isLetter inWord spanN isPrint)
theorem typ_int (s:Ps) (h:isS eJ s=true) (e:isS yLp s.next=true):typP s=(fun a:Int×Ps=> (fun b:Int×Ps=> ((1,a.1,b.1,0),needP yRp b.2)) (eK (needP yCm a.2))) (eK s.next.next):=by
 unfold typP
 show(if isS eJ s=true then _ else _)=_
 rw[if_pos h]
 show(if isS yLp s.next=true then _ else _)=_
 rw[if_pos e]
 rfl
theorem typ_text (s:Ps) (h:isS eJ s=false) (e:isS yLp (needP pi s)=true):typP s=(fun a:Int×Ps=> ((2,0,0,a.1),needP yRp a.2)) (numP (needP pi s).next):=by
 unfold typP
 show(if isS eJ s=true then _ else _)=_
 rw[h,if_neg (by simp)]
 show(if isS yLp (needP pi s)=true then _ else _)=_
 rw[if_pos e]
 rfl
theorem def_eq (s:Ps):ek s=(fun a:BA×Ps=> (fun t:(Int×Int×Int×Int)×Ps=>if isS kNOT t.2=true then ((⟨a.1,t.1.1,t.1.2.1,t.1.2.2.1,t.1.2.2.2,true⟩:Cd),needP kNULL t.2.next)else (⟨a.1,t.1.1,t.1.2.1,t.1.2.2.1,t.1.2.2.2,false⟩,t.2)) (typP a.2)) (takP 1 s):=rfl
theorem cd_read {n:Nat} {x:Cd} (h:x.ok=true):Reads' n ek Cd.tk (fun x=>x) (fun s=>isS kNOT s=false) x:=fun ts R o H E=>by
 obtain⟨nm,ty,lo,hi,mx,nn⟩:=x
 rw[def_eq]
 unfold Cd.tk at o
 obtain⟨a,g,rfl,ha,B⟩:=ao o
 obtain⟨g,i,rfl,f,j⟩:=bu B
 have y:∀ {T:Int×Int×Int×Int},T=(ty,lo,hi,mx)→(fun t:(Int×Int×Int×Int)×Ps=>if isS kNOT t.2=true then ((⟨nm,t.1.1,t.1.2.1,t.1.2.2.1,t.1.2.2.2,true⟩:Cd),needP kNULL t.2.next)else (⟨nm,t.1.1,t.1.2.1,t.1.2.2.1,t.1.2.2.2,false⟩,t.2)) (T,⟨i++R,false⟩)=(⟨nm,ty,lo,hi,mx,nn⟩,⟨R,false⟩):=fun {T} F=>by
  subst F
  simp only at j ⊢
  cases nn with
  |true=>
   rw[if_pos rfl]at j
   obtain⟨b,I,rfl,hb,C⟩:=ao j
   obtain⟨c,rfl,k⟩:=aT C
   rw[cons_append,isS_eq (.inl rfl) kNOT hb,if_pos (by decide),next_at,singleton_append,need_at (.inl rfl) kNULL k]
  |false=>
   rw[if_neg (by simp)]at j
   obtain rfl:=List.map_eq_nil_iff.1 j
   rw[nil_append,E,if_neg (by simp)]
 have e:a::(g++i)++R=a::(g++(i++R)):=by simp
 rw[e,tak_at ha,dh]
 simp only
 unfold Cd.ok at h
 simp only at h f
 by_cases u:ty=1
 ·subst u
  rw[if_pos (by rfl)]at h
  rw[if_pos rfl]at f
  simp only[Bool.and_eq_true,beq_iff_eq]at h
  obtain⟨_,rfl⟩:=h
  obtain⟨b,g,rfl,hb,f⟩:=ao f
  obtain⟨c,g,rfl,k,f⟩:=ao f
  obtain⟨ls,g,rfl,l,f⟩:=bu f
  obtain⟨d,g,rfl,hd,f⟩:=ao f
  obtain⟨A,g,rfl,G,f⟩:=bu f
  obtain⟨z,rfl,w⟩:=aT f
  have r:b::c::(ls++d::(A++ [z]))++(i++R)=b::c::(ls++d::(A++z::(i++R))):=by simp
  rw[r,typ_int _ (dW (.inl rfl) eJ hb _) (dW (.inr rfl) yLp k _),next_at,next_at,bnd_read l]
  simp only
  rw[need_at (.inr rfl) yCm hd,bnd_read G]
  simp only
  rw[need_at (.inr rfl) yRp w]
  exact y rfl
 ·rw[if_neg (by simpa using u)]at h
  rw[if_neg u]at f
  simp only[Bool.and_eq_true,beq_iff_eq,dC]at h
  obtain⟨⟨⟨⟨rfl,_⟩,rfl⟩,rfl⟩,D⟩:=h
  obtain⟨b,g,rfl,hb,f⟩:=ao f
  obtain⟨c,g,rfl,k,f⟩:=ao f
  obtain⟨ls,g,rfl,l,f⟩:=bu f
  obtain⟨z,rfl,w⟩:=aT f
  unfold bndK at l
  rw[if_neg (by omega)]at l
  obtain⟨d,rfl,hd⟩:=aT l
  have r:b::c::([d]++ [z])++(i++R)=b::c::d::z::(i++R):=by simp
  have m:=need_at (.inl rfl) pi hb (c::d::z::(i++R))
  rw[r,typ_text _ (by rw[isS_eq (.inl rfl) eJ hb];decide) (by rw[m];exact dW (.inr rfl) yLp k _),m,next_at,num_read D.1 hd]
  simp only
  rw[need_at (.inr rfl) yRp w]
  exact y rfl
theorem rf_read {x:Rf} (h:x.ok=true) {ts R:List Tk} (j:ts.map er=nmsK x.cs++(2,[82,69,70,69,82,69,78,67,69,83])::nmK x.tb::nmsK x.tg):refP ⟨ts++R,false⟩=(x,⟨R,false⟩):=by
 unfold Rf.ok at h
 simp only[Bool.and_eq_true]at h
 have g:∀s:Ps,refP s=(fun a:List BA×Ps=> (fun t:BA×Ps=> (fun b:List BA×Ps=> ((⟨a.1,t.1,b.1⟩:Rf),b.2)) (namesP t.2)) (takP 1 (needP kREFERENCES a.2))) (namesP s):=fun s=>rfl
 obtain⟨k,i,rfl,l,f⟩:=bu j
 obtain⟨b,i,rfl,hb,f⟩:=ao f
 obtain⟨c,i,rfl,m,f⟩:=ao f
 have e:k++b::c::i++R=k++b::c::(i++R):=by simp
 rw[g,e,names_read h.1.1 l]
 simp only
 rw[need_at (.inl rfl) kREFERENCES hb,tak_at m]
 simp only
 rw[names_read h.2 f,dh]
end
section
open Lx (Tk isDigit isLetter inWord spanN isPrint)
theorem elem_eq (ex:M Ex) (d:Df) (l:List BA) (s:Ps):elemP ex d l s=if isS eI s=true then (({ d with keys:=d.keys++ [(namesP (needP kKEY s.next)).1] },l++(namesP (needP kKEY s.next)).1),(namesP (needP kKEY s.next)).2)
  else if isS fC s=true then (({ d with keys:=d.keys++ [(namesP s.next).1] },l),(namesP s.next).2)
  else if isS iu s=true then (({ d with chk:=d.chk++ [(ex (needP yLp s.next)).1] },l),needP yRp (ex (needP yLp s.next)).2)
  else if isS ea s=true then (({ d with frs:=d.frs++ [(refP (needP kKEY s.next)).1] },l),(refP (needP kKEY s.next)).2)
  else (({ d with cols:=d.cols++ [(ek s).1] },l),(ek s).2):=rfl
theorem el_read {n:Nat} {x:El} (h:x.ok=true) (d:Df) (l:List BA) {ts R:List Tk} (i:ts.map er=x.tk) (r:ts.length<n) (B:isS kNOT ⟨R,false⟩=false):elemP (exprP n) d l ⟨ts++R,false⟩=((x.put d,l),⟨R,false⟩):=by
 rw[elem_eq]
 cases x with
 |col c=>
  have w:∃a g,ts=a::g∧er a=nmK c.nm:=by
   obtain⟨a,g,e,j,_⟩:=ao (show ts.map er=nmK c.nm::_ from i)
   exact⟨a,g,e,j⟩
  have k:=cd_read (n:=n) h ts R i r B
  obtain⟨a,g,rfl,ha⟩:=w
  have m:∀t,isS t ⟨a::g++R,false⟩=false:=fun t=>fY (k:=1) (x:=c.nm.data.toList) t ha (.inl (by omega)) _
  rw[m,m,m,m,if_neg (by simp),if_neg (by simp),if_neg (by simp),if_neg (by simp),k]
  rfl
 |key k=>
  obtain⟨a,g,rfl,ha,j⟩:=ao (show ts.map er=(2,[85,78,73,81,85,69])::nmsK k from i)
  rw[cons_append,isS_eq (.inl rfl) eI ha,isS_eq (.inl rfl) fC ha,if_neg (by decide),if_pos (by decide),next_at,names_read h j]
  rfl
 |frn f=>
  obtain⟨a,g,rfl,ha,j⟩:=ao (show ts.map er=(2,[70,79,82,69,73,71,78])::(2,[75,69,89])::_ from i)
  obtain⟨b,g,rfl,hb,o⟩:=ao j
  rw[cons_append,cons_append,isS_eq (.inl rfl) eI ha,isS_eq (.inl rfl) fC ha,isS_eq (.inl rfl) iu ha,isS_eq (.inl rfl) ea ha,if_neg (by decide),if_neg (by decide),if_neg (by decide),if_pos (by decide),next_at,need_at (.inl rfl) kKEY hb,rf_read h o]
  rfl
 |chk e=>
  obtain⟨a,g,rfl,ha,j⟩:=ao (show ts.map er=(2,[67,72,69,67,75])::(5,[40])::(e.tk 1++ [(5,[41])]) from i)
  obtain⟨b,g,rfl,hb,o⟩:=ao j
  obtain⟨g,C,rfl,y,A⟩:=bu o
  obtain⟨z,rfl,s⟩:=aT A
  simp only[length_cons,length_append,length_nil]at r
  have u:a::b::(g++ [z])++R=a::b::(g++z::R):=by simp
  have k:=rd_expr (n:=n) h y (by omega) (R:=z::R) (by rw[ob s];decide)
  rw[u,isS_eq (.inl rfl) eI ha,isS_eq (.inl rfl) fC ha,isS_eq (.inl rfl) iu ha,if_neg (by decide),if_neg (by decide),if_pos (by decide),next_at,need_at (.inr rfl) yLp hb,k]
  simp only
  rw[need_at (.inr rfl) yRp s]
  rfl
end
section
open Lx (Tk isDigit isLetter inWord spanN isPrint)
theorem els_eq (ex:M Ex) (s:Ps):bL ex s=cm ex (s.r.length+1) (elemP ex ⟨[],[],[],[]⟩ [] s).1.1 (elemP ex ⟨[],[],[],[]⟩ [] s).1.2 (elemP ex ⟨[],[],[],[]⟩ [] s).2:=rfl
theorem els_go {n:Nat} {R:List Tk} (l:isS yCm ⟨R,false⟩=false) (o:isS kNOT ⟨R,false⟩=false):∀(f:List El) (m:Nat) (d:Df) (ts:List Tk),(∀x∈f,x.ok=true)→ts.map er=(f.map El.tk).flatMap (fun y=> (5,[44])::y)→ts.length<n→ts.length<m→
  cm (exprP n) m d [] ⟨ts++R,false⟩=((f.foldl El.put d,[]),⟨R,false⟩)∧isS kNOT ⟨ts++R,false⟩=false
 |_,0,_,_,_,_,_,h=>absurd h (Nat.not_lt_zero _)
 | [],m+1,d,ts,_,h,_,_=>by
  obtain rfl:=List.map_eq_nil_iff.1 h
  rw[nil_append,jW,l,if_neg (by simp)]
  exact⟨rfl,o⟩
 |x::f,m+1,d,ts,hx,h,hn,hm=>by
  rw[map_cons,flatMap_cons]at h
  obtain⟨g,i,rfl,r,s⟩:=bu h
  obtain⟨a,g,rfl,j,t⟩:=ao r
  simp only[length_append,length_cons]at hn hm
  have e:a::g++i++R=a::(g++(i++R)):=by simp
  have k:=els_go (n:=n) l o f m (x.put d) i (fun y w=>hx y (mem_cons_of_mem _ w)) s (by omega) (by omega)
  have u:g.length<n:=by omega
  have z:=el_read (n:=n) (hx x mem_cons_self) d [] t u (R:=i++R) k.2
  rw[e,jW,dW (.inr rfl) yCm j,if_pos rfl,next_at,z]
  exact⟨k.1,by rw[isS_eq (.inr rfl) kNOT j];decide⟩
theorem els_read {n:Nat} {f:List El} (l:f≠[]) (m:∀x∈f,x.ok=true) {ts R:List Tk} (g:ts.map er=cmK (f.map El.tk)) (u:ts.length<n) (s:isS yCm ⟨R,false⟩=false) (t:isS kNOT ⟨R,false⟩=false):
  bL (exprP n) ⟨ts++R,false⟩=((f.foldl El.put ⟨[],[],[],[]⟩,[]),⟨R,false⟩):=by
 cases f with
 |nil=>exact absurd rfl l
 |cons x f=>
  rw[map_cons,cmK]at g
  obtain⟨j,i,rfl,o,r⟩:=bu g
  simp only[length_append]at u
  have k:=els_go (n:=n) s t f ((j++i++R).length+1) (x.put ⟨[],[],[],[]⟩) i (fun y z=>m y (mem_cons_of_mem _ z)) r (by omega) (by simp;omega)
  have w:j.length<n:=by omega
  have A:=el_read (n:=n) (m x mem_cons_self) ⟨[],[],[],[]⟩ [] o w (R:=i++R) k.2
  rw[els_eq]
  have e:j++i++R=j++(i++R):=by simp
  rw[e]at k ⊢
  rw[A]
  exact k.1
end
section
open Lx (Tk isDigit isLetter inWord spanN isPrint)
theorem els_tk (s:St):s.els.map El.tk=s.eltsK:=by
 simp[St.els,St.eltsK,map_append,map_map,Function.comp_def,El.tk]
theorem vO:∀(l:List Cd) (d:Df),(l.map El.col).foldl El.put d= { d with cols:=d.cols++l }
 | [],d=>by simp
 |x::l,d=>by rw[map_cons,foldl_cons,vO l];simp[El.put]
theorem vP:∀(l:List (List BA)) (d:Df),(l.map El.key).foldl El.put d= { d with keys:=d.keys++l }
 | [],d=>by simp
 |x::l,d=>by rw[map_cons,foldl_cons,vP l];simp[El.put]
theorem put_frs:∀(l:List Rf) (d:Df),(l.map El.frn).foldl El.put d= { d with frs:=d.frs++l }
 | [],d=>by simp
 |x::l,d=>by rw[map_cons,foldl_cons,put_frs l];simp[El.put]
theorem put_chk:∀(l:List Ex) (d:Df),(l.map El.chk).foldl El.put d= { d with chk:=d.chk++l.map Ex.st0 }
 | [],d=>by simp
 |x::l,d=>by rw[map_cons,foldl_cons,put_chk l];simp[El.put]
theorem els_put (s:St):s.els.foldl El.put ⟨[],[],[],[]⟩=⟨s.cols,s.keys,s.frs,s.chk.map Ex.st0⟩:=by
 unfold St.els
 rw[foldl_append,foldl_append,foldl_append,vO,vP,put_frs,put_chk]
 simp
theorem nn_nil (l:List Cd):l.map (nnC [])=l:=by
 conv=>rhs;rw[←map_id l]
 refine map_congr_left fun c _=>?_
 obtain⟨nm,ty,lo,hi,mx,nn⟩:=c
 simp[nnC]
end
section
open Lx (Tk isDigit isLetter inWord spanN isPrint)
theorem create_eq (ex:M Ex) (s:Ps):createP ex s=(fun t:BA×Ps=> (fun x:(Df×List BA)×Ps=> (({ stZ with kd:=1,tb:=t.1,cols:=x.1.1.cols.map (nnC x.1.2),keys:=x.1.1.keys,frs:=x.1.1.frs,chk:=x.1.1.chk } :St),needP yRp x.2)) (bL ex (needP yLp t.2))) (takP 1 (needP kTABLE s)):=rfl
theorem els_ok {s:St} (h:s.defOk=true):s.els≠[]∧∀x∈s.els,x.ok=true:=by
 unfold St.defOk at h
 simp only[Bool.and_eq_true,all_eq_true,Bool.not_eq_true']at h
 obtain⟨⟨⟨⟨g,j⟩,k⟩,l⟩,m⟩:=h
 refine⟨fun e=>?_,fun x f=>?_⟩
 ·have i:=congrArg List.length e
  unfold St.els at i
  simp only[length_append,length_map,length_nil]at i
  unfold St.noDef at g
  exact(of_decide_eq_false g) (by omega)
 ·unfold St.els at f
  simp only[mem_append,mem_map]at f
  rcases f with ((⟨y,hy,rfl⟩|⟨y,hy,rfl⟩)|⟨y,hy,rfl⟩)|⟨y,hy,rfl⟩
  ·exact j y hy
  ·exact k y hy
  ·exact l y hy
  ·exact m y hy
theorem vQ {n:Nat} {s:St} (h:s.defOk=true) {ts R:List Tk} (g:ts.map er=(2,[84,65,66,76,69])::nmK s.tb::(5,[40])::(cmK s.eltsK++ [(5,[41])])) (x:ts.length<n):
  createP (exprP n) ⟨ts++R,false⟩=({ stZ with kd:=1,tb:=s.tb,cols:=s.cols,keys:=s.keys,frs:=s.frs,chk:=s.chk.map Ex.st0 },⟨R,false⟩):=by
 obtain⟨a,f,rfl,ha,m⟩:=ao g
 obtain⟨b,f,rfl,hb,o⟩:=ao m
 obtain⟨c,f,rfl,w,r⟩:=ao o
 obtain⟨f,y,rfl,t,u⟩:=bu r
 obtain⟨z,rfl,i⟩:=aT u
 simp only[length_cons,length_append,length_nil]at x
 obtain⟨j,l⟩:=els_ok h
 have k:=els_read (n:=n) j l (ts:=f) (R:=z::R) (by rw[els_tk];exact t) (by omega) (by rw[isS_eq (.inr rfl) yCm i];decide) (by rw[isS_eq (.inr rfl) kNOT i];decide)
 have e:a::b::c::(f++ [z])++R=a::b::c::(f++z::R):=by simp
 rw[create_eq,e,need_at (.inl rfl) kTABLE ha,tak_at hb,dh]
 simp only
 rw[need_at (.inr rfl) yLp w,k,els_put]
 simp only
 rw[need_at (.inr rfl) yRp i,nn_nil]
end
section
open Lx (Tk isDigit isLetter inWord spanN isPrint)
def hdL:List (List UInt8):= [[78,79,84],[45],[40],[76,69,78,71,84,72],[78,85,76,76]]
def HdK (k:Kt):Prop:=(k.1=2∨k.1=5)→k.2∈hdL
theorem hd_any:∀e:Ex,e.formed=true→∀r:Int,∃k K,e.tk r=k::K∧HdK k:=by
 intro e
 induction e using Ex.ind with
 |h d ks ih=>
  intro j r
  obtain⟨l,m,n⟩:=aN j
  have f:∀ {k:Nat} {x:List UInt8},k=1∨k=3∨k=4→HdK (k,x):=fun h e=>by simp only at e;omega
  unfold Ex.tk brK
  split
  ·exact⟨_,_,rfl,fun _=>by decide⟩
  ·rw[Ex.tkp]
   rcases cQ d.op with ⟨h0,h4⟩|⟨h0,h4⟩|⟨h0,h4⟩|h0
   ·unfold tkD
    simp only
    by_cases o1:d.op=1
    ·rw[if_pos o1]
     split
     ·exact⟨_,_,rfl,f (by omega)⟩
     ·split
      ·exact⟨_,_,rfl,f (by omega)⟩
      ·exact⟨_,_,rfl,fun _=>by decide⟩
    ·rw[if_neg o1,if_pos (by omega)]
     split
     ·exact⟨_,_,rfl,f (by omega)⟩
     ·exact⟨_,_,rfl,f (by omega)⟩
   ·obtain⟨a,rfl,ha⟩:=kids1 h0 j
    rcases h4 with h4|h4|h4|h4
    ·exact⟨(5,[45]),_,by unfold tkD;simp only;rw[if_neg (by omega),if_neg (by omega),if_pos h4],fun _=>by decide⟩
    ·exact⟨(2,[76,69,78,71,84,72]),_,by unfold tkD;simp only;rw[if_neg (by omega),if_neg (by omega),if_neg (by omega),if_pos h4],fun _=>by decide⟩
    ·obtain⟨k,K,g,i⟩:=ih a (by simp) ha 5
     refine⟨k,K++ [(2,[73,83]),(2,[78,85,76,76])],?_,i⟩
     unfold tkD
     simp only
     rw[if_neg (by omega),if_neg (by omega),if_neg (by omega),if_neg (by omega),if_pos h4]
     show a.tk 5++_=_
     rw[g]
     rfl
    ·exact⟨(2,[78,79,84]),_,by unfold tkD;simp only;rw[if_neg (by omega),if_neg (by omega),if_neg (by omega),if_neg (by omega),if_neg (by omega),if_pos h4],fun _=>by decide⟩
   ·obtain⟨a,b,rfl,ha,hb⟩:=kids2 h0 j
    obtain⟨k,K,g,i⟩:=ih a (by simp) ha (if lvl d.op=4 then 5 else lvl d.op)
    refine⟨k,K++sgK d.op::b.tk (lvl d.op+1),?_,i⟩
    unfold tkD
    simp only
    rw[if_neg (by omega),if_neg (by omega),if_neg (by omega),if_neg (by omega),if_neg (by omega),if_neg (by omega)]
    show a.tk _++_=_
    rw[g]
    rfl
   ·omega
theorem hd_not {k:Kt} {a:Tk} (h:er a=k) (g:HdK k) {t:BA} (i:t.data.toList∉hdL) (R:List Tk):isS t ⟨a::R,false⟩=false:=pY h (fun f e=>i (e ▸ g f)) R
theorem itm_eq (ex:M Ex) (s:Ps):cY ex s=(match (firstP opsAgg s).1 with
  |some o=>if o=2∧isS cZ (needP yLp (firstP opsAgg s).2)=true then ((⟨1,exZ⟩:Itm),needP yRp (needP yLp (firstP opsAgg s).2).next)else (⟨o,(ex (needP yLp (firstP opsAgg s).2)).1⟩,needP yRp (ex (needP yLp (firstP opsAgg s).2)).2)
  |none=> (⟨0,(ex s).1⟩,(ex s).2)):=by
 unfold cY lp
 cases (firstP opsAgg s).1 with
 |none=>rfl
 |some o=>
  simp only
  unfold ay aE
  simp only
  by_cases f:o=2
  ·rw[if_pos f]
   unfold ifM
   by_cases hs:isS cZ (needP yLp (firstP opsAgg s).2)=true
   ·rw[if_pos hs,if_pos ⟨f,hs⟩];rfl
   ·rw[if_neg hs,if_neg (fun e=>hs e.2)];rfl
  ·rw[if_neg f,if_neg (fun e=>f e.1)];rfl
theorem agg_find {o:Int} (h:o=2∨o=3∨o=4∨o=5):(agK o).1=2∧∃t,opsAgg.find? (fun y=>decide (y.1.data.toList=(agK o).2))=some (t,o):=by
 rcases h with rfl|rfl|rfl|rfl
 ·exact⟨rfl,kCOUNT,by decide⟩
 ·exact⟨rfl,kSUM,by decide⟩
 ·exact⟨rfl,kMIN,by decide⟩
 ·exact⟨rfl,kMAX,by decide⟩
theorem rY {o:Int} (h:o=2∨o=3∨o=4∨o=5) {a:Tk} (ha:er a=agK o) (R:List Tk):firstP opsAgg ⟨a::R,false⟩=(some o,⟨R,false⟩):=by
 obtain⟨e,t,f⟩:=agg_find h
 rw[j7 (k:=(agK o).1) (x:=(agK o).2) (.inl e) ha R opsAgg,f]
theorem first_hd {a:Tk} {k:Kt} (ha:er a=k) (e:HdK k) (R:List Tk):firstP opsAgg ⟨a::R,false⟩=(none,⟨a::R,false⟩):=by
 have h:=fun (t:BA) (f:t.data.toList∉hdL)=>hd_not ha e f R
 unfold opsAgg
 rw[firstP,h _ (by decide),if_neg (by simp),firstP,h _ (by decide),if_neg (by simp),firstP,h _ (by decide),if_neg (by simp),firstP,h _ (by decide),if_neg (by simp),firstP]
theorem itm_read {n:Nat} {x:Itm} (h:x.ok=true):Reads' n (cY (exprP n)) Itm.tk Itm.st0 F0 x:=fun ts R f C I=>by
 obtain⟨ag,e⟩:=x
 unfold Itm.ok at h
 unfold Itm.tk at f
 unfold Itm.st0
 simp only at h f ⊢
 rw[itm_eq]
 by_cases i:ag=1
 ·rw[if_pos i]at f
  rw[if_pos i]
  obtain⟨a,g,rfl,ha,w⟩:=ao f
  obtain⟨b,g,rfl,hb,y⟩:=ao w
  obtain⟨c,g,rfl,r,j⟩:=ao y
  obtain⟨d,rfl,hd⟩:=aT j
  rw[cons_append,rY (o:=2) (by omega) ha]
  simp only
  rw[cons_append,need_at (.inr rfl) yLp hb,cons_append,dW (.inr rfl) cZ r,if_pos (by simp),next_at,singleton_append,need_at (.inr rfl) yRp hd]
 ·rw[if_neg i]at f
  rw[if_neg i]
  rw[if_neg (by simpa using i)]at h
  simp only[Bool.and_eq_true,decide_eq_true_eq]at h
  obtain⟨⟨w,y⟩,j⟩:=h
  obtain⟨k,K,s,u⟩:=hd_any e j 1
  by_cases m:ag=0
  ·rw[if_pos m]at f
   have l:=rd_expr (n:=n) j f C I
   obtain⟨a,g,rfl,ha,A⟩:=ao (f.trans s)
   rw[cons_append]at l ⊢
   rw[first_hd ha u]
   simp only
   rw[l,m]
  ·rw[if_neg m]at f
   obtain⟨a,g,rfl,ha,A⟩:=ao f
   obtain⟨b,g,rfl,hb,G⟩:=ao A
   obtain⟨g,L,rfl,B,H⟩:=bu G
   obtain⟨z,rfl,D⟩:=aT H
   simp only[length_cons,length_append,length_nil]at C
   have l:=rd_expr (n:=n) (R:=z::R) j B (by omega) (by rw[ob D];decide)
   obtain⟨c,E,rfl,r,J⟩:=ao (B.trans s)
   have F:a::b::(c::E++ [z])++R=a::b::c::(E++z::R):=by simp
   rw[cons_append]at l
   rw[F,rY (o:=ag) (by omega) ha]
   simp only
   rw[need_at (.inr rfl) yLp hb,hd_not r u (t:=cZ) (by decide),if_neg (by simp),l,need_at (.inr rfl) yRp D]
theorem col_read {n:Nat} {e:Ex} (h:gJ e=true):Reads' n colP (fun e:Ex=>e.tk 1) Ex.st0 F0 e:=fun ts R i F z=>by
 unfold gJ at h
 simp only[Bool.and_eq_true,beq_iff_eq]at h
 obtain⟨y,A⟩:=h
 obtain⟨d,ks⟩:=e
 have g:d.op=2:=y
 obtain⟨D,E,j⟩:=aN A
 have B:ks= []:=eq_nil_of_length_eq_zero (by have:opN d.op=0:=(by rw[g];decide);omega)
 subst B
 unfold ndB at j
 rw[if_pos g]at j
 simp only[Bool.and_eq_true,Bool.or_eq_true,beq_iff_eq]at j
 obtain⟨_,k⟩:=j
 unfold Nd.valZ at k
 simp only[Bool.and_eq_true,beq_iff_eq]at k
 obtain⟨⟨m,o⟩,r⟩:=k
 have w:(Ex.mk d []).tk 1=tkD d []:=by
  show brK d.op (tkD d (tkpL [])) 1=_
  unfold brK
  rw[if_neg (by rw[g];decide)]
  rfl
 have f:ts.map er=tkD d []:=i.trans w
 unfold tkD at f
 dsimp only at f
 rw[if_neg (by omega),if_pos g]at f
 have x:(Ex.mk d []).st0=colE d.tb d.nm:=by
  rw[Ex.st0,nO]
  obtain⟨op,tb,nm,ix,vk,vi,vt⟩:=d
  simp only at g m o r
  subst g m o
  rw[ev r]
  rfl
 rw[x]
 unfold colP
 split at f
 ·next ht=>
  obtain⟨a,rfl,ha⟩:=aT f
  rw[singleton_append,tak_at ha]
  simp only
  have u:(⟨R,false⟩:Ps).c=0:=z
  rw[o6 (t:=nq) (s:=⟨R,false⟩) (fun e=>by rw[e]at u;revert u;decide),if_neg (by simp),dh,ev ht]
 ·obtain⟨a,C,rfl,ha,i⟩:=ao f
  obtain⟨b,C,rfl,hb,i⟩:=ao i
  obtain⟨c,rfl,l⟩:=aT i
  rw[cons_append,tak_at ha]
  simp only
  rw[cons_append,isS_eq (.inr rfl) nq hb,if_pos (by decide),next_at,singleton_append,tak_at l]
end
end Go.Proofs.YtjigcpfjhfoheaaGreatDoor
