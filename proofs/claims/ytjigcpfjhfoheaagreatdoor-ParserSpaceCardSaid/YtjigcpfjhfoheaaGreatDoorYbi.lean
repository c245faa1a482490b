/- Walk: begin; Valid of a statement that is too large: without a bound on its bulk; What the parser reads is well-formed and unbound, unless it has failed; The tokens of a text are good: words are names, texts can be printed, number. -/
import Derived.Test.YtjigcpfjhfoheaaGreatDoorYbg
import Derived.Test.YtjigcpfjhfoheaaGreatDoorYbh
import Derived.Test.YtjigcpfjhfoheaaGreatDoorYad
import Derived.Test.YtjigcpfjhfoheaaGreatDoorYbe
import Derived.Test.YtjigcpfjhfoheaaGreatDoorYba
import Derived.Test.YtjigcpfjhfoheaaGreatDoorYab
import Derived.Test.YtjigcpfjhfoheaaGreatDoorYaa
import Derived.Test.YtjigcpfjhfoheaaGreatDoorYae
namespace Go.Proofs.YtjigcpfjhfoheaaGreatDoor
open Go.RowKit
set_option maxHeartbeats 2000000
set_option maxRecDepth 100000
set_option linter.unusedVariables false
set_option linter.unusedSimpArgs false
section
open Lx (Tk)
theorem mJ:∀(f:Nat) (l:List UInt8) (p a x:Nat),l.length<f→Lx.toksF f l p= .bad a x→x≠0
 |0,l,p,a,x,hl,_=>by omega
 |f+1,l,p,a,x,hl,h=>by
  rw[Lx.toksF]at h
  cases hd:l.drop (Lx.skipN false l)with
  |nil=>rw[hd]at h;cases h
  |cons c r=>
   rw[hd]at h
   have i:(c::r).length=l.length-Lx.skipN false l:=by rw[←hd,List.length_drop]
   cases b:Lx.tokL (c::r)with
   |bad e=>
    simp only[b]at h
    injection h with _ h
    have:=Lx.tok_bad c r e b
    omega
   |tok k y n=>
    simp only[b]at h
    have m:=Lx.tok_bound c r k y n b
    have j:((c::r).drop n).length=(c::r).length-n:=List.length_drop
    cases g:Lx.toksF f ((c::r).drop n) (p+Lx.skipN false l+n)with
    |bad a2 e=>
     rw[g]at h
     injection h with _ h
     subst h
     exact mJ f _ _ _ _ (by omega) g
    |ok M=>rw[g]at h;cases h
theorem all_err {s:ByteArray} {a x:Nat} (h:Lx.tokAll s= .bad a x):x≠0:=by
 unfold Lx.tokAll at h
 split at h
 ·injection h with _ h;omega
 ·exact mJ _ _ _ _ _ (Nat.lt_succ_self _) h
theorem hH (s:ByteArray) (w:World) (hs:s.size≤20000) (I:Lx.KwAt w):
  Calls Tryz.prog 28 #[.string s] w fun e w'=>Ext w w'∧((∃a x:Nat,Lx.tokAll s= .bad a x∧x≠0∧e= .returned (.tuple #[.pointer none,.int .i64 a,.int .i64 x]))∨
   ∃(L:List Tk) (P:Nat) (A:Option Addr) (c:Nat),Lx.tokAll s= .ok L∧e= .returned (.tuple #[.pointer (some ⟨P,0,none⟩),.int .i64 0,.int .i64 0])∧PsAt 68 P A c L w w' ⟨L,false⟩):=by
 have E:=hid (Lx.tokens_cap s w hs I)
 go_enter Tryz.func28,Tryz.ntmps28
 go_wp2_with fail
 refine E.mono ?_
 rintro e q ⟨v,rfl,⟨A,c,rfl,f,t⟩,C⟩
 have r:=hid C
 cases g:Lx.tokAll s with
 |bad a x=>
  have y:=all_err g
  have F:¬((x:Int)=0):=by omega
  rw[g]at f t
  have k:Lx.lsL (.bad a x)= []:=rfl
  have o:Lx.lsP (.bad a x)=a:=rfl
  have n:Lx.lsE (.bad a x)=x:=rfl
  rw[k,o,n]
  clear f t k o n
  go_wp2_with fail
  go_ret3
  exact⟨r,.inl ⟨a,x,g,y,rfl⟩⟩
 |ok l=>
  rw[g]at f t
  have k:Lx.lsL (.ok l)=l:=rfl
  have o:Lx.lsP (.ok l)=0:=rfl
  have n:Lx.lsE (.ok l)=0:=rfl
  rw[k]at f
  rw[k,o,n]
  have u:=hid f
  have K:=hid (eD g)
  have J:=hid g
  have m:Hid (0<l.length):=by
   unfold Lx.tokAll at g
   split at g
   ·cases g
   ·exact(jT _ _ _ l g).len.1
  have G:=hid (Blk.of_new q 68 [.slice A l.length c,.int .i64 0,.bool false])
  clear f t k o n C
  go_wp2_with fail
  go_ret3
  refine⟨r.alloc _,.inr ⟨l,q.heap.size,A,c,g,rfl,?_⟩⟩
  refine⟨r.alloc _,r.size,?_,by simp,m,fun i a H=>?_⟩
  ·rw[Nat.sub_self]
   exact G
  ·obtain⟨b,z,D,c0,c1,c2⟩:=u i a H
   have j:=(Ext.refl q).alloc (.cells #[.slice A l.length c,.int .i64 0,.bool false] 68)
   exact⟨b,z,D,World.block_lt_of_cell? q _ c0,j.keep c0,j.keep c1,j.keep c2⟩
end
theorem lz (s:St) (a:SA) (w:World) (m:StV w s a) (b:s.all.length≤100000000) (j:largeB s.all=true):
  Calls Tryz.prog 31 #[s.val a] w fun r w'=>r= .returned (.int .i64 3)∧Ext w w':=by
 have n:=hid (fun W (q:Ext w W)=>all_any s a W (m.ext q) b)
 have k:=hid (fun (W:World) (A:Option Addr) (c:Nat) (t:KidsAt W A s.all)=>gU s.all A s.all.length c W rfl (by omega) t)
 have o:=hid (Blk.of_new w 40 (s.cells a))
 have l:=hid ((Ext.refl w).alloc (.cells (s.cells a).toArray 40))
 rw[j]at k
 clear m b j
 unfold St.val at*
 unfold St.cells Sl.v at*
 go_enter Tryz.func31,Tryz.ntmps31
 go_upto_region 1 with fail
 generalize w.alloc (.cells _ 40)=y at*
 generalize w.heap.size=g at*
 go_wp2_with (first|(refine aw rfl 40 (.tmp 1) rfl g rfl 40 _ _ o Tryz.underlying40 rfl (by kernel_rfl) ?_)|(go_at_call 63;(with_reducible refine(n.out _ l.out).mono ?_);rintro _ z ⟨x,c1,rfl,e,f⟩)|(go_at_call 62;(with_reducible refine(k.out _ _ _ e).mono ?_);rintro _ u ⟨rfl,i⟩))
 go_ret
 exact⟨rfl,l.trans (f.trans i)⟩
section
open Lx (Tk)
mutual
def Ex.unb:Ex→Bool
 | .mk d ks=>d.ix==0&&unbL ks
def unbL:List Ex→Bool
 | []=>true
 |e::es=>e.unb&&unbL es
end
structure Gt (a:Tk):Prop where
 nm:a.kind=1→nameB (tkB a)=true
 num:a.kind=3→eh (tkB a)≤2147483648
 txt:a.kind=4→ed (tkB a)=true
def Gs (B:Nat) (s:Ps):Prop:=s.r.length<B∧∀a∈s.r,Gt a
def Yld {α:Type} (B:Nat) (Q:α→Prop) (m:M α):Prop:=∀s,Gs B s→Gs B (m s).2∧((m s).2.bad=false→Q (m s).1)
section
variable {B:Nat}
theorem Gs.next {s:Ps} (h:Gs B s):Gs B s.next:=⟨Nat.lt_of_le_of_lt (next_len s) h.1,fun a b=>h.2 a (List.mem_of_mem_tail b)⟩
theorem Gs.fail {s:Ps} (h:Gs B s):Gs B s.fail:=h
theorem Gs.need {s:Ps} (h:Gs B s) (t:ByteArray):Gs B (needP t s):=by
 unfold needP
 split
 ·exact h.next
 ·exact h
theorem Gs.opt {s:Ps} (h:Gs B s) (t:ByteArray):Gs B (optP t s):=by
 unfold optP
 split
 ·exact h.next
 ·exact h
theorem Gs.first (l:List (ByteArray×Int)):∀ {s:Ps},Gs B s→Gs B (firstP l s).2:=by
 induction l with
 |nil=>intro s h;exact h
 |cons a l ih=>
  intro s h
  rw[firstP]
  split
  ·exact h.next
  ·exact ih h
theorem Gs.hd {s:Ps} (h:Gs B s) {k:Nat} (g:k≠0) (f:hasK k s=true):Gt s.hd∧s.hd.kind=k:=by
 obtain⟨_,a,l,b,i,_⟩:=eV g f
 have e:s.hd=a:=by unfold Ps.hd;rw[b];rfl
 rw[e]
 exact⟨h.2 a (by rw[b];exact List.mem_cons_self),i⟩
theorem Gs.tak {s:Ps} (h:Gs B s) (k:Nat):Gs B (takP k s).2:=by
 unfold takP
 split
 ·exact h.next
 ·exact h
theorem not_bad {α:Type} {m:M α} (h:Stk m) {s:Ps} (a:(m s).2.bad=false):s.bad=false:=by
 cases hs:s.bad with
 |false=>rfl
 |true=>rw[h s hs,hs]at a;exact a
section
variable {α β:Type} {Q:α→Prop} {R:β→Prop}
theorem ao {m:M α} {f:α→M β} (h:Yld B Q m) (k:∀a,Q a→Yld B R (f a)) (j:∀a,Stk (f a)):Yld B R (aB m f):=fun s hs=>by
 unfold aB
 have b:=h s hs
 cases e:(m s).2.bad with
 |true=>
  have i:=j (m s).1 (m s).2 e
  rw[i]
  exact⟨b.1,fun g=>by rw[e]at g;cases g⟩
 |false=>exact k _ (b.2 e) _ b.1
theorem av {a:α} (h:Q a):Yld B Q (bb a):=fun s hs=>⟨hs,fun _=>h⟩
theorem aF (t:ByteArray):Yld B (fun _=>True) (aY t):=fun s hs=>⟨hs.need t,fun _=>trivial⟩
theorem aR (t:ByteArray) {m n:M α} (b:Yld B Q m) (a:Yld B Q n):Yld B Q (ifM t m n):=fun s hs=>by
 unfold ifM
 split
 ·exact b _ hs.next
 ·exact a _ hs
theorem yld_fst (ops:List (ByteArray×Int)) {f:Int→M α} {m:M α} (e:∀o,(∃t,(t,o)∈ops)→Yld B Q (f o)) (a:Yld B Q m):Yld B Q (gK ops f m):=fun s hs=>by
 unfold gK
 cases b:(firstP ops s).1 with
 |none=>exact a _ hs
 |some o=>exact e o (fa _ _ _ b) _ (Gs.first _ hs)
theorem Yld.imp {m:M α} {b:α→Prop} (h:Yld B Q m) (hi:∀a,Q a→b a):Yld B b m:=fun s hs=>⟨(h s hs).1,fun e=>hi _ ((h s hs).2 e)⟩
theorem jU {b:M α} (h:Yld B Q b) (f:Stk b):∀(n:Nat) (o:List α) (s:Ps),Gs B s→(s.bad=false→o≠[]∧∀a∈o,Q a)→Gs B (listGo b n o s).2∧((listGo b n o s).2.bad=false→(listGo b n o s).1≠[]∧∀a∈(listGo b n o s).1,Q a)
 |0,_,_,hs,ho=>⟨hs,ho⟩
 |n+1,o,s,hs,ho=>by
  rw[listGo]
  split
  ·next hc=>
   have j:=(ce hc).1
   have g:=h s.next hs.next
   refine jU h f n _ _ g.1 fun i=>⟨by simp,fun a e=>?_⟩
   rcases List.mem_append.1 e with e|e
   ·exact(ho j).2 a e
   ·rw[List.mem_singleton.1 e];exact g.2 i
  ·exact⟨hs,ho⟩
theorem du {e:M α} (h:Yld B Q e) (b:Stk e):Yld B (fun l=>l≠[]∧∀a∈l,Q a) (listP e):=fun s hs=>by
 unfold listP
 have f:=h s hs
 exact jU h b _ _ _ f.1 fun i=>⟨by simp,fun a g=>by rw[List.mem_singleton.1 g];exact f.2 i⟩
end
theorem bA:Yld B (fun b=>nameB b=true) (takP 1):=fun s hs=>⟨hs.tak 1,fun a=>by
 unfold takP at a ⊢
 split
 ·next h=>exact(hs.hd (by omega) h).1.nm (hs.hd (by omega) h).2
 ·next h=>rw[if_neg h]at a;cases a⟩
theorem jV:Yld B (fun b=>ed b=true) (takP 4):=fun s hs=>⟨hs.tak 4,fun a=>by
 unfold takP at a ⊢
 split
 ·next h=>exact(hs.hd (by omega) h).1.txt (hs.hd (by omega) h).2
 ·next h=>rw[if_neg h]at a;cases a⟩
theorem digV_nn (b:ByteArray):0≤eh b:=by unfold eh;omega
theorem dB:Yld B (fun n=>0≤n∧n≤2147483648) numP:=fun s hs=>⟨hs.tak 3,fun a=>by
 unfold numP at a ⊢
 refine⟨digV_nn _,?_⟩
 unfold takP at a ⊢
 split
 ·next h=>exact(hs.hd (by omega) h).1.num (hs.hd (by omega) h).2
 ·next h=>rw[if_neg h]at a;cases a⟩
theorem yld_pos:Yld B (fun n=>1≤n∧n≤2147483648) posP:=fun s hs=>by
 unfold posP
 split
 ·refine⟨(dB s.fail hs).1,fun a=>?_⟩
  have:=not_bad ld a
  cases this
 ·next hc=>
  refine⟨(dB s hs).1,fun a=>?_⟩
  have b:=(dB s hs).2 a
  refine⟨?_,b.2⟩
  unfold numP takP at a ⊢
  split
  ·next h=>simp[h]at hc;have:=digV_nn (tkB s.hd);simp only;omega
  ·next h=>rw[if_neg h]at a;cases a
def FQ (e:Ex):Prop:=e.formed=true∧e.unb=true
theorem fq_lit1 {i:Int} (h:0≤i∧i≤2147483648):FQ (ei 1 i ⟨#[]⟩):=by
 refine⟨?_,rfl⟩
 unfold ei
 rw[Ex.formed]
 simp[opN,ndB,cC,Nd.litB,ByteArray.size,h.1,h.2]
theorem fq_lit2 {t:ByteArray} (h:ed t=true):FQ (ei 2 0 t):=by
 refine⟨?_,rfl⟩
 unfold ei
 rw[Ex.formed]
 simp[opN,ndB,cC,Nd.litB,ByteArray.size,h]
theorem fq_lit0:FQ (ei 0 0 ⟨#[]⟩):=by
 refine⟨?_,rfl⟩
 unfold ei
 rw[Ex.formed]
 simp[opN,ndB,cC,Nd.litB,ByteArray.size]
theorem fq_col {t n:ByteArray} (a:t=⟨#[]⟩∨nameB t=true) (b:nameB n=true):FQ (colE t n):=by
 refine⟨?_,rfl⟩
 unfold colE
 rw[Ex.formed]
 have e:ndB ⟨2,t,n,0,0,0,⟨#[]⟩⟩ []=true:=by
  unfold ndB
  rw[if_pos rfl]
  rcases a with rfl|a
  ·simp only[b,Bool.true_and]
   rfl
  ·simp only[b,a,Bool.or_true,Bool.true_and]
   rfl
 show((opN 2==(0:Int)) &&cC [] &&ndB ⟨2,t,n,0,0,0,⟨#[]⟩⟩ [])=true
 rw[e]
 rfl
theorem jW {o:Int} (g:o=3∨o=9∨o=17∨o=20) {a:Ex} (h:FQ a):FQ (opE o [a]):=by
 refine⟨?_,?_⟩
 ·unfold opE
  rw[Ex.formed]
  have f:=h.1
  have e:opN o=1:=by unfold opN;rw[if_neg (by omega),if_pos (by omega)]
  have b:ndB ⟨o,⟨#[]⟩,⟨#[]⟩,0,0,0,⟨#[]⟩⟩ ([a].map Ex.d)=true:=by
   unfold ndB
   rw[if_neg (show¬o=2 by omega),if_neg (show¬o=1 by omega),if_neg (fun h=>by have:o=16:=h.1;omega)]
   rfl
  rw[b]
  simp[e,cC,f]
 ·unfold opE
  rw[Ex.unb]
  simp[unbL,h.2]
theorem ec {o:Int} (j:4≤o∧o≤8∨10≤o∧o≤15∨o=18∨o=19) {a b:Ex} (h:FQ a) (k:FQ b):FQ (opE o [a,b]):=by
 refine⟨?_,?_⟩
 ·unfold opE
  rw[Ex.formed]
  have g:=h.1
  have f:=k.1
  have e:opN o=2:=by unfold opN;rw[if_neg (by omega),if_neg (by omega),if_pos (by omega)]
  have i:ndB ⟨o,⟨#[]⟩,⟨#[]⟩,0,0,0,⟨#[]⟩⟩ ([a,b].map Ex.d)=true:=by
   unfold ndB
   rw[if_neg (show¬o=2 by omega),if_neg (show¬o=1 by omega),if_neg (fun h=>by have:o=16:=h.1;omega)]
   rfl
  rw[i]
  simp[e,cC,g,f]
 ·unfold opE
  rw[Ex.unb]
  simp[unbL,h.2,k.2]
theorem fq_like {a:Ex} {t:ByteArray} (h:FQ a) (k:ed t=true):FQ (opE 16 [a,ei 2 0 t]):=by
 have b:=fq_lit2 k
 refine⟨?_,?_⟩
 ·unfold opE
  rw[Ex.formed]
  have e:=h.1
  have f:=b.1
  simp[opN,ndB,cC,Nd.valZ,ByteArray.size,e,f]
  simp[ei,Ex.d]
 ·unfold opE
  rw[Ex.unb]
  simp[unbL,h.2,b.2]
theorem lA (b:Bool) {e:Ex} (h:FQ e):FQ (negE b e):=by
 cases b
 ·exact h
 ·exact jW (by omega) h
theorem iw {a:M Ex} (h:Yld B FQ a) {ops:List (ByteArray×Int)} (i:∀x∈ops,4≤x.2∧x.2≤8∨10≤x.2∧x.2≤15∨x.2=18∨x.2=19):
  ∀(n:Nat) (e:Ex) (s:Ps),Gs B s→(s.bad=false→FQ e)→Gs B (bq a ops n e s).2∧((bq a ops n e s).2.bad=false→FQ (bq a ops n e s).1)
 |0,_,_,hs,he=>⟨hs,he⟩
 |n+1,e,s,hs,he=>by
  rw[bq]
  cases f:(firstP ops s).1 with
  |none=>exact⟨hs,he⟩
  |some o=>
   simp only
   obtain⟨t,k⟩:=fa _ _ _ f
   have b:s.bad=false:=by
    cases g:s.bad with
    |false=>rfl
    |true=>rw[eS ops s g]at f;cases f
   have j:=h _ (Gs.first ops hs)
   exact iw h i n _ _ j.1 fun g=>ec (i _ k) (he b) (j.2 g)
theorem fi {a:M Ex} (h:Yld B FQ a) {ops:List (ByteArray×Int)} (b:∀x∈ops,4≤x.2∧x.2≤8∨10≤x.2∧x.2≤15∨x.2=18∨x.2=19):Yld B FQ (chainP a ops):=fun s hs=>by
 unfold chainP
 exact iw h b _ _ _ (h s hs).1 (h s hs).2
theorem mK:Yld B (fun e=>FQ e∧e.d.op=2) dV:=fun s hs=>by
 have a:=bA s hs
 unfold dV
 split
 ·next hc=>
  have g:=bA (takP 1 s).2.next a.1.next
  have f:(takP 1 s).2.bad=false:=(ce hc).1
  exact⟨g.1,fun b=>⟨fq_col (.inr (a.2 f)) (g.2 b),rfl⟩⟩
 ·exact⟨a.1,fun f=>⟨fq_col (.inl rfl) (a.2 f),rfl⟩⟩
theorem yld_col:Yld B FQ dV:=mK.imp fun _ h=>h.1
section
variable {p:M Ex} (h:Yld B FQ p) (st:Stk p)
include h
theorem yld_una:Yld B FQ (fo p):=fun s hs=>by
 unfold fo
 split
 ·exact⟨(h _ hs.next).1,fun a=>jW (by omega) ((h _ hs.next).2 a)⟩
 ·exact h s hs
theorem yld_sum:Yld B FQ (sumP p):=fi (fi (yld_una h) (by decide)) (by decide)
include st
omit st in
theorem mL {a:Ex} (g:FQ a):∀(n:Nat) (e:Ex) (s:Ps),Gs B s→(s.bad=false→FQ e)→Gs B (fp p a n e s).2∧((fp p a n e s).2.bad=false→FQ (fp p a n e s).1)
 |0,_,_,hs,he=>⟨hs,he⟩
 |n+1,e,s,hs,he=>by
  rw[fp]
  split
  ·next hc=>
   have i:=(ce hc).1
   have f:=h _ hs.next
   exact mL g n _ _ f.1 fun b=>ec (by omega) (he i) (ec (by omega) g (f.2 b))
  ·exact⟨hs,he⟩
theorem yld_tail {a:Ex} (f:FQ a):Yld B FQ (dL p a):=fun s hs=>by
 unfold dL
 cases m:(firstP opsCmp s).1 with
 |some o=>
  simp only
  obtain⟨t,n⟩:=fa _ _ _ m
  have e:=h _ (Gs.first opsCmp hs)
  have k:∀x∈opsCmp,10≤x.2∧x.2≤15:=by decide
  exact⟨e.1,fun b=>ec (.inr (.inl (k _ n))) f (e.2 b)⟩
 |none=>
  simp only
  split
  ·exact⟨((hs.next).opt _).need _,fun _=>lA _ (jW (by omega) f)⟩
  split
  ·have e:=jV _ (hs.opt kNOT).next
   exact⟨e.1,fun b=>lA _ (fq_like f (e.2 b))⟩
  split
  ·have e:=h _ (hs.opt kNOT).next
   have i:=h _ (e.1.need kAND)
   refine⟨i.1,fun b=>?_⟩
   have j:=not_bad st b
   have l:(p (optP kNOT s).next).2.bad=false:=by
    cases g:(p (optP kNOT s).next).2.bad with
    |false=>rfl
    |true=>rw[et g,g]at j;exact j
   exact lA _ (ec (by omega) (ec (by omega) f (e.2 l)) (ec (by omega) f (i.2 b)))
  split
  ·have e:=h _ ((hs.opt kNOT).next.need yLp)
   have i:=mL h f ((needP yLp (optP kNOT s).next).r.length+1) (opE 10 [a,(p (needP yLp (optP kNOT s).next)).1]) (p (needP yLp (optP kNOT s).next)).2 e.1 (fun b=>ec (by omega) f (e.2 b))
   refine⟨i.1.need _,fun b=>lA _ (i.2 ?_)⟩
   cases g:(inP p a (needP yLp (optP kNOT s).next)).2.bad with
   |false=>exact g
   |true=>simp only at b;rw[et g,g]at b;cases b
  ·refine⟨?_,fun _=>f⟩
   simp only
   split
   ·exact hs.opt _
   ·exact hs
theorem mM:Yld B FQ (testP p):=fun s hs=>by
 unfold testP
 have b:=yld_sum h s hs
 cases a:(sumP p s).2.bad with
 |true=>rw[lZ _ _ _ a];exact⟨b.1,fun e=>by rw[a]at e;cases e⟩
 |false=>exact yld_tail (yld_sum h) (stk_sum st) (b.2 a) _ b.1
theorem kM:∀n,Yld B FQ (notGo p n)
 |0=>mM h st
 |n+1=>fun s hs=>by
  rw[notGo]
  split
  ·have a:=kM n _ hs.next
   exact⟨a.1,fun b=>jW (by omega) (a.2 b)⟩
  ·exact mM h st s hs
theorem yld_or:Yld B FQ (orP p):=fi (fi (fun s hs=>kM h st _ s hs) (by decide)) (by decide)
end
theorem Gs.step {s:Ps} {t:ByteArray} (h:Gs (B+1) s) (a:isS t s=true):Gs B s.next:=⟨by have:=aM a;have:=h.1;omega,h.next.2⟩
theorem Gs.up {s:Ps} (h:Gs B s):Gs (B+1) s:=⟨Nat.lt_succ_of_lt h.1,h.2⟩
theorem yld_prim {p:M Ex} (h:Yld B FQ p) (st:Stk p):Yld (B+1) FQ (bQ p):=fun s hs=>by
 unfold bQ
 split
 ·exact⟨(dB s hs).1,fun a=>fq_lit1 ((dB s hs).2 a)⟩
 split
 ·exact⟨(jV s hs).1,fun a=>fq_lit2 ((jV s hs).2 a)⟩
 split
 ·exact⟨hs.next,fun _=>fq_lit0⟩
 split
 ·next hc=>
  have b:=h _ ((hs.step hc).need yLp)
  refine⟨(b.1.need _).up,fun a=>jW (by omega) (b.2 ?_)⟩
  cases e:(p (needP yLp s.next)).2.bad with
  |false=>rfl
  |true=>simp only at a;rw[et e,e]at a;cases a
 split
 ·next hc=>
  have b:=h _ (hs.step hc)
  refine⟨(b.1.need _).up,fun a=>b.2 ?_⟩
  cases e:(p s.next).2.bad with
  |false=>rfl
  |true=>simp only at a;rw[et e,e]at a;cases a
 ·exact yld_col s hs
theorem mN:∀n,Yld n FQ (exprP n)
 |0=>fun s hs=>absurd hs.1 (Nat.not_lt_zero _)
 |n+1=>yld_or (yld_prim (mN n) (mb n)) (ma _)
theorem fj:Yld B (fun l=>namesB l=true) namesP:=by
 unfold namesP
 refine ao (aF _) (fun _ _=>?_) (fun _=>ah (bR (ch 1)) fun _=>ah (aA _) fun _=>aj _)
 refine ao (du bA (ch 1)) (fun l b=>?_) (fun _=>ah (aA _) fun _=>aj _)
 refine ao (aF _) (fun _ _=>av ?_) (fun _=>aj _)
 unfold namesB
 rw[Bool.and_eq_true,List.all_eq_true]
 refine⟨?_,b.2⟩
 cases l with
 |nil=>exact absurd rfl b.1
 |cons a l=>rfl
theorem kN:Yld B (fun n=> -2147483648≤n∧n≤2147483648) bndP:=by
 unfold bndP
 refine aR _ (ao dB (fun n a=>av (by omega)) (fun _=>aj _)) (dB.imp fun n a=>by omega)
def TyQ (t:Int×Int×Int×Int):Prop:=
 (t.1=1∧ -2147483648≤t.2.1∧t.2.1≤2147483648∧ -2147483648≤t.2.2.1∧t.2.2.1≤2147483648∧t.2.2.2=0)∨(t.1=2∧t.2.1=0∧t.2.2.1=0∧0≤t.2.2.2∧t.2.2.2≤2147483648)
theorem yld_typ:Yld B TyQ typP:=by
 unfold typP
 refine aR _ (aR _ ?_ (av (.inl (by decide)))) (ao (aF _) (fun _ _=>aR _ ?_ (av (.inr (by decide)))) (fun _=>bh _ _ (aj _)))
 ·unfold bnd2P
  refine ao kN (fun a e=>?_) (fun _=>ah (aA _) fun _=>ah mc fun _=>ah (aA _) fun _=>aj _)
  refine ao (aF _) (fun _ _=>?_) (fun _=>ah mc fun _=>ah (aA _) fun _=>aj _)
  refine ao kN (fun b f=>?_) (fun _=>ah (aA _) fun _=>aj _)
  exact ao (aF _) (fun _ _=>av (.inl ⟨rfl,e.1,e.2,f.1,f.2,rfl⟩)) (fun _=>aj _)
 ·unfold maxP
  refine ao dB (fun a e=>?_) (fun _=>ah (aA _) fun _=>aj _)
  exact ao (aF _) (fun _ _=>av (.inr ⟨rfl,rfl,rfl,e.1,e.2⟩)) (fun _=>aj _)
theorem cd_ok {a:ByteArray} (e:nameB a=true) {t:Int×Int×Int×Int} (f:TyQ t) (b:Bool):Cd.ok ⟨a,t.1,t.2.1,t.2.2.1,t.2.2.2,b⟩=true:=by
 unfold Cd.ok inB
 rcases f with ⟨h1,h2,h3,h4,h5,h6⟩|⟨h1,h2,h3,h4,h5⟩
 ·simp[h1,e,h2,h3,h4,h5,h6]
 ·simp[h1,e,h2,h3,h4,h5]
theorem yld_def:Yld B (fun c=>c.ok=true) cX:=by
 unfold cX
 refine ao bA (fun a e=>?_) (fun _=>ah stk_typ fun _=>bh _ _ (aj _))
 refine ao yld_typ (fun t b=>?_) (fun _=>bh _ _ (aj _))
 exact aR _ (ao (aF _) (fun _ _=>av (cd_ok e b true)) (fun _=>aj _)) (av (cd_ok e b false))
theorem yld_ref:Yld B (fun f=>f.ok=true) refP:=by
 unfold refP
 refine ao fj (fun a g=>?_) (fun _=>ah (aA _) fun _=>ah (ch 1) fun _=>ah de fun _=>aj _)
 refine ao (aF _) (fun _ _=>?_) (fun _=>ah (ch 1) fun _=>ah de fun _=>aj _)
 refine ao bA (fun t e=>?_) (fun _=>ah de fun _=>aj _)
 refine ao fj (fun b i=>av ?_) (fun _=>aj _)
 unfold Rf.ok
 simp only[g,e,i,Bool.and_self]
theorem lB:Yld B (fun f=>f.ok=true) srcP:=by
 unfold srcP
 refine ao bA (fun a e=>?_) (fun _=>bh _ _ (aj _))
 refine aR _ (ao bA (fun b g=>av ?_) (fun _=>aj _)) (av ?_)
 ·unfold Src.ok
  simp only[e,g,Bool.or_true,Bool.and_self]
 ·unfold Src.ok
  simp only[e,Bool.true_and]
  rw[eK]
  rfl
theorem yld_ord:Yld B (fun f=>f.ok=true) (fE posP):=by
 unfold fE
 refine ao yld_pos (fun a e=>?_) (fun _=>bh _ _ (bh _ _ (aj _)))
 have h:∀b,Ord'.ok ⟨a,b⟩=true:=fun b=>by unfold Ord'.ok inB;simp[e.1,e.2]
 exact aR _ (av (h _)) (aR _ (av (h _)) (av (h _)))
structure DfQ (x:Df×List ByteArray):Prop where
 cols:∀c∈x.1.cols,c.ok=true
 keys:∀c∈x.1.keys,namesB c=true
 frs:∀c∈x.1.frs,c.ok=true
 chk:∀c∈x.1.chk,FQ c
 ne:x.1.cols.length+x.1.keys.length+x.1.frs.length+x.1.chk.length≠0
theorem cF {α:Type} {P:α→Prop} {l:List α} {a:α} (h:∀x∈l,P x) (e:P a):∀x∈l++ [a],P x:=fun x b=>by
 rcases List.mem_append.1 b with b|b
 ·exact h x b
 ·rw[List.mem_singleton.1 b];exact e
def WQ (e:Ex):Prop:=(e.absent=true∨e.formed=true)∧e.unb=true
theorem wq_z:WQ exZ:=⟨.inl (by decide),by decide⟩
theorem fq_and:∀(l:List Ex) (e:Ex),FQ e→(∀x∈l,FQ x)→FQ (l.foldl (fun a b=>opE 18 [a,b]) e)
 | [],_,he,_=>he
 |a::l,e,he,hl=>fq_and l _ (ec (by omega) he (hl a List.mem_cons_self)) fun x f=>hl x (List.mem_cons_of_mem _ f)
theorem wq_andL {c:List Ex} (a:∀e∈c,FQ e):WQ (andL c):=by
 cases c with
 |nil=>exact wq_z
 |cons e l=>
  have:=fq_and l e (a e List.mem_cons_self) fun x b=>a x (List.mem_cons_of_mem _ b)
  exact⟨.inr this.1,this.2⟩
section
variable {ex:M Ex} (h:Yld B FQ ex) (st:Stk ex)
include h st
theorem mO {d:Df} {l:List ByteArray} (i:∀c∈d.cols,c.ok=true) (b:∀c∈d.keys,namesB c=true) (f:∀c∈d.frs,c.ok=true) (g:∀c∈d.chk,FQ c):Yld B DfQ (elemP ex d l):=by
 unfold elemP
 refine aR _ ?_ (aR _ ?_ (aR _ ?_ (aR _ ?_ ?_)))
 ·refine ao (aF _) (fun _ _=>?_) (fun _=>ah de fun _=>aj _)
  exact ao fj (fun k a=>av ⟨i,cF b a,f,g,by simp⟩) (fun _=>aj _)
 ·exact ao fj (fun k a=>av ⟨i,cF b a,f,g,by simp⟩) (fun _=>aj _)
 ·refine ao (aF _) (fun _ _=>?_) (fun _=>ah st fun _=>ah (aA _) fun _=>aj _)
  refine ao h (fun e j=>?_) (fun _=>ah (aA _) fun _=>aj _)
  exact ao (aF _) (fun _ _=>av ⟨i,b,f,cF g j,by simp⟩) (fun _=>aj _)
 ·refine ao (aF _) (fun _ _=>?_) (fun _=>ah stk_ref fun _=>aj _)
  exact ao yld_ref (fun k a=>av ⟨i,b,cF f a,g,by simp⟩) (fun _=>aj _)
 ·exact ao yld_def (fun k a=>av ⟨cF i a,b,f,g,by simp⟩) (fun _=>aj _)
theorem jX:∀(n:Nat) (x:Df×List ByteArray),DfQ x→Yld B DfQ (elemGo ex n x.1 x.2)
 |0,_,hx=>av hx
 |n+1,x,hx=>aR _ (ao (mO h st hx.cols hx.keys hx.frs hx.chk) (fun y a=>jX n y a) (fun _=>fG ex _ _ _)) (av hx)
theorem yld_elems:Yld B DfQ (eo ex):=fun s hs=>
 ao (mO h st (d:=⟨[],[],[],[]⟩) (by simp) (by simp) (by simp) (by simp)) (fun x a=>jX h st (s.r.length+1) x a) (fun _=>fG ex _ _ _) s hs
theorem yld_tup:Yld B (fun l=>rowOk l=true∧∀e∈l,e.unb=true) (tupP ex):=by
 unfold tupP
 refine ao (aF _) (fun _ _=>?_) (fun _=>ah (bR st) fun _=>ah (aA _) fun _=>aj _)
 refine ao (du h st) (fun l b=>?_) (fun _=>ah (aA _) fun _=>aj _)
 refine ao (aF _) (fun _ _=>av ⟨?_,fun e a=> (b.2 e a).2⟩) (fun _=>aj _)
 unfold rowOk
 rw[Bool.and_eq_true,List.all_eq_true]
 exact⟨decide_eq_true (List.length_pos_iff.2 b.1),fun e a=> (b.2 e a).1⟩
omit st in
theorem yld_whr:Yld B WQ (whrP ex):=aR _ (h.imp fun e a=>⟨.inr a.1,a.2⟩) (av wq_z)
theorem yld_asg:Yld B (fun a=>a.ok=true∧a.ix=0∧a.ex.unb=true) (asgP ex):=by
 unfold asgP
 refine ao bA (fun a f=>?_) (fun _=>ah (aA _) fun _=>ah st fun _=>aj _)
 refine ao (aF _) (fun _ _=>?_) (fun _=>ah st fun _=>aj _)
 refine ao h (fun e b=>av ⟨?_,rfl,b.2⟩) (fun _=>aj _)
 unfold Asg.ok
 simp only[f,b.1,Bool.and_self]
theorem yld_itm:Yld B (fun x=>x.ok=true∧x.ex.unb=true) (fF ex):=by
 have one:∀o:Int,2≤o→o≤5→Yld B (fun x:Itm=>x.ok=true∧x.ex.unb=true) (iD ex o):=fun o i g=>by
  unfold iD
  refine ao h (fun e a=>?_) (fun _=>ah (aA _) fun _=>aj _)
  refine ao (aF _) (fun _ _=>av ⟨?_,a.2⟩) (fun _=>aj _)
  unfold Itm.ok
  rw[if_neg (by simp;omega),a.1]
  simp;omega
 unfold fF
 refine yld_fst _ (fun o b=>ao (aF _) (fun _ _=>?_) (fun _=>?_)) (ao h (fun e a=>av ⟨?_,a.2⟩) (fun _=>aj _))
 ·obtain⟨t,f⟩:=b
  have k:∀x∈opsAgg,2≤x.2∧x.2≤5:=by decide
  have:=k _ f
  split
  ·exact aR _ (ao (aF _) (fun _ _=>av (by decide)) (fun _=>aj _)) (one o this.1 this.2)
  ·exact one o this.1 this.2
 ·split
  ·exact bh _ _ (md st o)
  ·exact md st o
 ·unfold Itm.ok
  rw[if_neg (by simp),a.1]
  rfl
theorem fQ:∀(n:Nat) (l:List Src) (c:List Ex),(∀x∈l,x.ok=true)→l≠[]→(∀e∈c,FQ e)→Yld B (fun x=> (∀y∈x.1,y.ok=true)∧x.1≠[]∧∀e∈x.2,FQ e) (fromGo ex n l c)
 |0,_,_,h1,h2,h3=>av ⟨h1,h2,h3⟩
 |n+1,l,c,h1,h2,h3=>by
  refine aR _ (ao lB (fun x a=>fQ n _ _ (cF h1 a) (by simp) h3) (fun _=>cL ex _ _ _)) (aR _ ?_ (av ⟨h1,h2,h3⟩))
  refine ao lB (fun x a=>?_) (fun _=>ah (aA _) fun _=>ah st fun _=>cL ex _ _ _)
  refine ao (aF _) (fun _ _=>?_) (fun _=>ah st fun _=>cL ex _ _ _)
  exact ao h (fun e b=>fQ n _ _ (cF h1 a) (by simp) (cF h3 b)) (fun _=>cL ex _ _ _)
theorem yld_from:Yld B (fun x=> (∀y∈x.1,y.ok=true)∧x.1≠[]∧∀e∈x.2,FQ e) (fromP ex):=fun s hs=>
 ao lB (fun x a=>fQ h st (s.r.length+1) [x] [] (by simpa using a) (by simp) (by simp)) (fun _=>cL ex _ _ _) s hs
omit st in
theorem yld_cond {c:List Ex} (a:∀e∈c,FQ e):Yld B WQ (ep ex andL c):=
 aR _ (ao h (fun e b=>av (wq_andL (cF a b))) (fun _=>aj _)) (av (wq_andL a))
end
end
end
section
open Lx (Tk isDigit isLetter inWord spanN isPrint)
def dn (k:List UInt8):List Nat:=k.map fun c=>c.toNat+32
theorem kw_same:kwWords=Lx.kwNames.map dn:=by decide+kernel
theorem up_low {c:UInt8} (h:Lx.lowW c=true) (a:isLetter (Lx.upC c)=true):c.toNat=(Lx.upC c).toNat+32:=by
 have b:=Lx.upC_num c
 rw[Lx.up_letter]at a
 unfold Lx.lowW isDigit at h
 unfold isLetter at a
 split at b<;>grind
theorem dn_up:∀l:List UInt8,(∀c∈l,Lx.lowW c=true)→(∀c∈l.map Lx.upC,isLetter c=true)→l.map UInt8.toNat=dn (l.map Lx.upC)
 | [],_,_=>rfl
 |c::l,h,k=>by
  have e:=up_low (h c List.mem_cons_self) (k _ (by simp))
  have b:=dn_up l (fun x a=>h x (List.mem_cons_of_mem _ a)) (fun x a=>k x (by rw[List.map_cons];exact List.mem_cons_of_mem _ a))
  simp only[List.map_cons,dn,List.cons.injEq]at b ⊢
  exact⟨e,b⟩
theorem up_dn:∀(l k:List UInt8),(∀c∈k,isLetter c=true∧c.toNat≤90)→l.map UInt8.toNat=dn k→l.map Lx.upC=k
 | [],[],_,_=>rfl
 | [],_::_,_,h=>by simp[dn]at h
 |_::_,[],_,h=>by simp[dn]at h
 |a::l,b::k,hk,h=>by
  simp only[dn,List.map_cons,List.cons.injEq]at h
  have f:=hk b List.mem_cons_self
  have i:=Lx.upC_num a
  have e:=f.1
  unfold isLetter at e
  rw[List.map_cons,up_dn l k (fun c g=>hk c (List.mem_cons_of_mem _ g)) h.2]
  congr 1
  refine Lx.num_ext _ _ ?_
  rw[i,if_pos (by grind)]
  omega
theorem kw_caps:∀k∈Lx.kwNames,∀c∈k,isLetter c=true∧c.toNat≤90:=by
 have:(Lx.kwNames.all fun k=>k.all fun c=>isLetter c&&decide (c.toNat≤90))=true:=by decide+kernel
 intro k a c b
 have h:=List.all_eq_true.1 (List.all_eq_true.1 this k a) c b
 simpa using h
theorem kw_iff (l:List UInt8) (b:∀c∈l,Lx.lowW c=true):Lx.isKw l=kwWords.contains (l.map UInt8.toNat):=by
 rw[Bool.eq_iff_iff]
 unfold Lx.isKw
 rw[decide_eq_true_iff,List.contains_iff_mem,kw_same]
 constructor
 ·intro h
  rw[dn_up l b fun c f=> (kw_caps _ h c f).1]
  exact List.mem_map_of_mem h
 ·intro h
  obtain⟨k,a,e⟩:=List.mem_map.1 h
  rw[up_dn l k (kw_caps k a) e.symm]
  exact a
theorem low_nm (c:UInt8):Lx.lowW c=cB c.toNat:=by
 unfold Lx.lowW cB ej isDigit
 rw[Bool.eq_iff_iff]
 simp only[Bool.or_eq_true,Bool.and_eq_true,decide_eq_true_eq,beq_iff_eq]
 omega
theorem name_iff (s:ByteArray):nameB s=Lx.nameP s.data.toList:=by
 unfold nameB fU Lx.nameP N
 cases h:s.data.toList with
 |nil=>rfl
 |cons c r=>
  have g:((c::r).map UInt8.toNat).all cB=(c::r).all Lx.lowW:=by
   rw[List.all_map]
   congr 1
   funext c
   exact(low_nm c).symm
  rw[g]
  cases f:(c::r).all Lx.lowW with
  |false=>simp
  |true=>
   rw[←kw_iff _ (List.all_eq_true.1 f),List.length_map]
   simp only[List.map_cons,dS,ej,Bool.and_true]
   rw[Bool.eq_iff_iff]
   simp only[Bool.and_eq_true,decide_eq_true_eq,Bool.not_eq_true']
   constructor
   ·rintro⟨⟨b,a⟩,e⟩;exact⟨⟨a,b⟩,e⟩
   ·rintro⟨⟨b,a⟩,e⟩;exact⟨⟨a,b⟩,e⟩
theorem up_lo (c:UInt8):Lx.upC (Lx.loC c)=Lx.upC c:=by
 apply Lx.num_ext
 have h:=Lx.upC_num (Lx.loC c)
 have a:=Lx.loC_num c
 have b:=Lx.upC_num c
 split at h<;>split at a<;>split at b<;>omega
theorem lo_low {c:UInt8} (h:inWord c=true):Lx.lowW (Lx.loC c)=true:=by
 have a:=Lx.loC_num c
 unfold inWord isLetter isDigit at h
 unfold Lx.lowW isDigit
 split at a<;>grind
theorem word_name {l:List UInt8} {c:UInt8} {r:List UInt8} (k:l=c::r) (q:isLetter c=true) (i:∀x∈l,inWord x=true) (o:l.length≤24) (b:Lx.isKw l=false):nameB ⟨(l.map Lx.loC).toArray⟩=true:=by
 rw[name_iff]
 have e:Lx.isKw (l.map Lx.loC)=false:=by
  unfold Lx.isKw at b ⊢
  rw[List.map_map]
  have:Lx.upC∘Lx.loC=Lx.upC:=funext up_lo
  rw[this]
  exact b
 show Lx.nameP (l.map Lx.loC).toArray.toList=true
 rw[List.toList_toArray]
 subst k
 have f:∀(a:UInt8) (m:List UInt8),Lx.nameP (a::m)=(decide ((a::m).length≤24) && (decide (97≤a.toNat) &&decide (a.toNat≤122)) && (a::m).all Lx.lowW&&!(Lx.isKw (a::m))):=fun _ _=>rfl
 rw[List.map_cons,f,←List.map_cons,e,List.length_map]
 simp only[Bool.and_eq_true,decide_eq_true_eq,List.all_eq_true,Bool.not_false,and_true]
 refine⟨⟨o,?_⟩,fun x n=>?_⟩
 ·have j:=Lx.loC_num c
  unfold isLetter at q
  split at j<;>grind
 ·obtain⟨y,g,rfl⟩:=List.mem_map.1 n
  exact lo_low (i y g)
theorem hJ:∀(l X:List UInt8) (i:Nat) (q:List UInt8×Nat),Lx.litF l X i=some q→(∀c∈X,isPrint c=true)→∀c∈q.1,isPrint c=true
 | [],X,i,q,h,_=>by simp[Lx.litF]at h
 | [c],X,i,q,h,hX=>by
  rw[Lx.litF]at h
  split at h
  ·cases h
  split at h
  ·cases h;exact hX
  ·simp[Lx.litF]at h
 |c::d::r,X,i,q,h,hX=>by
  rw[Lx.litF]at h
  split at h
  ·cases h
  next hp=>
  split at h
  ·split at h
   ·next h2=>
    refine hJ r _ _ q h fun x a=>?_
    rcases List.mem_append.1 a with a|a
    ·exact hX x a
    ·rw[List.mem_singleton.1 a];unfold isPrint;rw[h2];rfl
   ·cases h;exact hX
  ·refine hJ (d::r) _ _ q h fun x a=>?_
   rcases List.mem_append.1 a with a|a
   ·exact hX x a
   ·rw[List.mem_singleton.1 a];simpa using hp
theorem tok_gt (c:UInt8) (r:List UInt8) (k:Nat) (x:List UInt8) (n p:Nat) (h:Lx.tokL (c::r)= .tok k x n):Gt ⟨k,x,p⟩:=by
 rw[Lx.tokL]at h
 split at h
 ·next hc=>
  unfold Lx.wordL at h
  split at h
  ·cases h;exact⟨(fun h=>nomatch h),(fun h=>nomatch h),(fun h=>nomatch h)⟩
  ·next hk=>
   split at h
   ·cases h
   ·next hn=>
    cases h
    have j:=Lx.span_pos inWord c r (Lx.letter_word c hc)
    have g:=Lx.span_le inWord (c::r)
    refine⟨fun _=>?_,(fun h=>nomatch h),(fun h=>nomatch h)⟩
    refine word_name (c:=c) (r:=r.take (spanN inWord (c::r)-1)) ?_ hc (Lx.span_all inWord (c::r)) ?_ (by simpa using hk)
    ·obtain⟨m,e⟩:∃m,spanN inWord (c::r)=m+1:=⟨spanN inWord (c::r)-1,by omega⟩
     rw[e,List.take_succ_cons,Nat.add_sub_cancel]
    ·rw[List.length_take];omega
 split at h
 ·unfold Lx.numL at h
  split at h
  ·cases h
  ·split at h
   ·cases h
   ·next hv=>
    cases h
    refine⟨(fun h=>nomatch h),fun _=>?_,(fun h=>nomatch h)⟩
    unfold eh tkB
    simp only[List.toList_toArray]
    omega
 split at h
 ·unfold Lx.textL at h
  cases a:Lx.litF r [] 1 with
  |none=>rw[a]at h;cases h
  |some q=>
   obtain⟨X,i⟩:=q
   rw[a]at h
   simp only at h
   split at h
   ·cases h
   ·next hn=>
    cases h
    refine⟨(fun h=>nomatch h),(fun h=>nomatch h),fun _=>?_⟩
    have hp:=hJ r [] 1 _ a (by simp)
    unfold ed N tkB
    simp only[Bool.and_eq_true,List.all_eq_true,decide_eq_true_eq,List.toList_toArray]
    refine⟨fun y b=>?_,?_⟩
    ·obtain⟨z,f,rfl⟩:=List.mem_map.1 b
     have:=hp z f
     unfold isPrint at this
     simpa using this
    ·show x.toArray.size≤16
     simp
     omega
 ·unfold Lx.symL at h
  split at h
  ·cases h
  ·cases h;exact⟨(fun h=>nomatch h),(fun h=>nomatch h),(fun h=>nomatch h)⟩
theorem toks_gt:∀(f:Nat) (l:List UInt8) (p:Nat) (L:List Tk),Lx.toksF f l p= .ok L→∀a∈L,Gt a
 |0,_,_,_,h=>by cases h
 |f+1,l,p,L,h=>by
  rw[Lx.toksF]at h
  cases hd:l.drop (Lx.skipN false l)with
  |nil=>
   rw[hd]at h
   injection h with h
   subst h
   intro a b
   rw[List.mem_singleton.1 b]
   exact⟨(fun h=>nomatch h),(fun h=>nomatch h),(fun h=>nomatch h)⟩
  |cons c r=>
   rw[hd]at h
   cases i:Lx.tokL (c::r)with
   |bad e=>simp only[i]at h;cases h
   |tok k x n=>
    simp only[i]at h
    cases g:Lx.toksF f ((c::r).drop n) (p+Lx.skipN false l+n)with
    |bad a e=>rw[g]at h;cases h
    |ok M=>
     rw[g]at h
     have j: [(⟨k,x,p+Lx.skipN false l⟩:Tk)]++M=L:=by injection h
     subst j
     intro a b
     rcases List.mem_append.1 b with b|b
     ·rw[List.mem_singleton.1 b];exact tok_gt c r k x n _ i
     ·exact toks_gt f _ _ M g a b
theorem gt_of {s:ByteArray} {L:List Tk} (h:Lx.tokAll s= .ok L):∀a∈L,Gt a:=by
 unfold Lx.tokAll at h
 split at h
 ·cases h
 ·exact toks_gt _ _ _ L h
end
section
open Lx (Tk isDigit isLetter inWord spanN isPrint)
abbrev Kt:=Nat×List UInt8
def er (a:Tk):Kt:=(a.kind,a.text)
def LexP (P:List UInt8→Prop) (l:List UInt8) (K:List Kt):Prop:=∀(b:List UInt8) (p:Nat),P b→∃ts:List Tk,ts.map er=K∧Lx.T (l++b) p=(Lx.T b (p+l.length)).pre ts
def Any (_:List UInt8):Prop:=True
def NoW (b:List UInt8):Prop:=Lx.headW b=false
def EdgL (b:List UInt8):Prop:=b= []∨∃c t,b=c::t∧(c=32∨c=41∨c=44∨c=59∨c=10)
theorem EdgL.now {b:List UInt8} (h:EdgL b):NoW b:=by
 rcases h with rfl|⟨c,t,rfl,rfl|rfl|rfl|rfl|rfl⟩<;>rfl
theorem LexP.imp {P Q:List UInt8→Prop} {l:List UInt8} {K:List Kt} (h:LexP P l K) (hp:∀b,Q b→P b):LexP Q l K:=fun b p a=>h b p (hp b a)
theorem dv_snoc (l:List UInt8) (c:UInt8):Lx.digVal (l++ [c])=10*Lx.digVal l+(c.toNat-48):=by
 unfold Lx.digVal
 rw[List.foldl_append]
 rfl
end
section
open Lx (Tk isDigit isLetter inWord spanN isPrint)
def brK (op:Int) (K:List Kt) (r:Int):List Kt:=if lvl op<r then (5,[40])::(K++ [(5,[41])])else K
def sgK (op:Int):Kt:=(if op=16∨op=18∨op=19 then 2 else 5,(sgn op).data.toList)
def tkD (d:Nd) (xs:List (Int×List Kt)):List Kt:=
 let x:=xs.getD 0 (0,[])
 let y:=xs.getD 1 (0,[])
 if d.op=1 then (if d.vk=1 then [(3,(itoB d.vi).data.toList)]else if d.vk=2 then [(4,d.vt.data.toList)]else [(2,[78,85,76,76])])
 else if d.op=2 then (if d.tb.size=0 then [(1,d.nm.data.toList)]else [(1,d.tb.data.toList),(5,[46]),(1,d.nm.data.toList)])
 else if d.op=3 then (5,[45])::brK x.1 x.2 8
 else if d.op=9 then (2,[76,69,78,71,84,72])::(5,[40])::(brK x.1 x.2 1++ [(5,[41])])
 else if d.op=17 then brK x.1 x.2 5++ [(2,[73,83]),(2,[78,85,76,76])]
 else if d.op=20 then (2,[78,79,84])::brK x.1 x.2 3
 else brK x.1 x.2 (if lvl d.op=4 then 5 else lvl d.op)++sgK d.op::brK y.1 y.2 (lvl d.op+1)
mutual
def Ex.tkp:Ex→List Kt
 | .mk d ks=>tkD d (tkpL ks)
def tkpL:List Ex→List (Int×List Kt)
 | []=> []
 |e::es=> (e.d.op,e.tkp)::tkpL es
end
def Ex.tk (e:Ex) (r:Int):List Kt:=brK e.d.op e.tkp r
mutual
def Ex.st0:Ex→Ex
 | .mk d ks=> .mk { d with ix:=0 } (st0L ks)
def st0L:List Ex→List Ex
 | []=> []
 |e::es=>e.st0::st0L es
end
theorem ba_nil {s:ByteArray} (h:s.size=0):s=⟨#[]⟩:=by
 cases s with
 |mk a=>exact congrArg ByteArray.mk (Array.eq_empty_of_size_eq_zero h)
def ctl (a:Kt):Nat:=
 if a.1=2∨a.1=5 then
  (if a.2= [79,82]then 1 else if a.2= [65,78,68]then 2
  else if a.2= [61]∨a.2= [60,62]∨a.2= [60]∨a.2= [60,61]∨a.2= [62]∨a.2= [62,61]∨a.2= [73,83]∨a.2= [78,79,84]∨a.2= [76,73,75,69]∨a.2= [66,69,84,87,69,69,78]∨a.2= [73,78]then 4
  else if a.2= [43]∨a.2= [45]then 5 else if a.2= [42]∨a.2= [47]∨a.2= [37]then 6 else if a.2= [46]then 9 else 0)
 else 0
def Ps.c (s:Ps):Nat:=ctl (er s.hd)
theorem isS_not {k:Nat} {x:List UInt8} (t:ByteArray) {a:Tk} (h:er a=(k,x)) (b:(k≠2∧k≠5)∨x≠t.data.toList) (R:List Tk):isS t ⟨a::R,false⟩=false:=by
 have g:a.kind=k:=congrArg Prod.fst h
 have f:a.text=x:=congrArg Prod.snd h
 unfold isS Ps.hd tkB
 simp only[List.headD_cons,g,f]
 rcases b with b|b
 ·simp[b.1,b.2]
 ·have:¬(ByteArray.mk x.toArray=t):=fun e=>b (by rw[←e])
  simp[this]
section
variable {p:M Ex} (hp:Fwd p)
include hp
end
end
section
open Lx (Tk isDigit isLetter inWord spanN isPrint)
theorem not_hd {t:ByteArray} {k:Kt} {a:Tk} (h:er a=k) (e:(k.1=2∨k.1=5)→k.2≠t.data.toList) (R:List Tk):isS t ⟨a::R,false⟩=false:=by
 by_cases b:k.1=2∨k.1=5
 ·exact isS_not (k:=k.1) (x:=k.2) t h (.inr (e b)) R
 ·exact isS_not (k:=k.1) (x:=k.2) t h (.inl (by omega)) R
end
section
open Lx (Tk isDigit isLetter inWord spanN isPrint)
def cmK:List (List Kt)→List Kt
 | []=> []
 |x::l=>x++l.flatMap fun y=> (5,[44])::y
def nmK (s:ByteArray):Kt:=(1,s.data.toList)
def nmsK (l:List ByteArray):List Kt:=(5,[40])::(cmK (l.map fun s=> [nmK s])++ [(5,[41])])
def numK (n:Int):Kt:=(3,(itoB n).data.toList)
def bndK (n:Int):List Kt:=if n<0 then [(5,[45]),numK (-n)]else [numK n]
def Cd.tk (x:Cd):List Kt:=
 nmK x.nm::((if x.ty=1 then (2,[73,78,84,69,71,69,82])::(5,[40])::(bndK x.lo++(5,[44])::(bndK x.hi++ [(5,[41])]))else (2,[84,69,88,84])::(5,[40])::(bndK x.mx++ [(5,[41])]))++
  (if x.nn=true then [(2,[78,79,84]),(2,[78,85,76,76])]else []))
def keyK (k:List ByteArray):List Kt:=(2,[85,78,73,81,85,69])::nmsK k
def Rf.tk (x:Rf):List Kt:=(2,[70,79,82,69,73,71,78])::(2,[75,69,89])::(nmsK x.cs++(2,[82,69,70,69,82,69,78,67,69,83])::nmK x.tb::nmsK x.tg)
def chkK (e:Ex):List Kt:=(2,[67,72,69,67,75])::(5,[40])::(e.tk 1++ [(5,[41])])
def St.eltsK (s:St):List (List Kt):=s.cols.map Cd.tk++s.keys.map keyK++s.frs.map Rf.tk++s.chk.map chkK
def exsK (l:List Ex):List Kt:=cmK (l.map fun e=>e.tk 1)
def rowK (l:List Ex):List Kt:=(5,[40])::(exsK l++ [(5,[41])])
def Asg.tk (x:Asg):List Kt:=nmK x.cl::(5,[61])::x.ex.tk 1
def agK (n:Int):Kt:=(2,(agW n).data.toList)
def Itm.tk (x:Itm):List Kt:=if x.ag=1 then [(2,[67,79,85,78,84]),(5,[40]),(5,[42]),(5,[41])]else if x.ag=0 then x.ex.tk 1 else agK x.ag::(5,[40])::(x.ex.tk 1++ [(5,[41])])
def Src.tk (x:Src):List Kt:=if x.al.size=0 then [nmK x.tb]else [nmK x.tb,(2,[65,83]),nmK x.al]
def Ord'.tk (x:Ord'):List Kt:=numK x.it::(if x.ds=true then [(2,[68,69,83,67])]else [])
def St.whK (s:St):List Kt:=if s.whr.absent=true then []else (2,[87,72,69,82,69])::s.whr.tk 1
def St.itK (s:St):List Kt:=if s.itms.length=0 then [(5,[42])]else cmK (s.itms.map Itm.tk)
def St.selK (s:St):List Kt:=
 (2,[83,69,76,69,67,84])::(s.itK++(2,[70,82,79,77])::(cmK (s.frm.map Src.tk)++(s.whK++((if s.grp.length=0 then []else (2,[71,82,79,85,80])::(2,[66,89])::exsK s.grp)++
  ((if s.ord.length=0 then []else (2,[79,82,68,69,82])::(2,[66,89])::cmK (s.ord.map Ord'.tk))++(if 0<s.lim then [(2,[76,73,77,73,84]),numK s.lim]else []))))))
def St.tk (s:St):List Kt:=
 if s.kd=1 then (2,[67,82,69,65,84,69])::(2,[84,65,66,76,69])::nmK s.tb::(5,[40])::(cmK s.eltsK++ [(5,[41])])
 else if s.kd=2 then (2,[73,78,83,69,82,84])::(2,[73,78,84,79])::nmK s.tb::(2,[86,65,76,85,69,83])::cmK (s.vals.map rowK)
 else if s.kd=3 then (2,[85,80,68,65,84,69])::nmK s.tb::(2,[83,69,84])::(cmK (s.sets.map Asg.tk)++s.whK)
 else if s.kd=4 then (2,[68,69,76,69,84,69])::(2,[70,82,79,77])::nmK s.tb::s.whK
 else if s.kd=5 then s.selK
 else if s.kd=6 then [(2,[66,69,71,73,78])]else if s.kd=7 then [(2,[67,79,77,77,73,84])]else if s.kd=8 then [(2,[82,79,76,76,66,65,67,75])]
 else if s.kd=9 then [(2,[83,65,86,69,80,79,73,78,84]),nmK s.nm]else if s.kd=10 then [(2,[82,79,76,76,66,65,67,75]),(2,[84,79]),nmK s.nm]else [(2,[82,69,76,69,65,83,69]),nmK s.nm]
end
section
open Lx (Tk isDigit isLetter inWord spanN isPrint)
def Asg.st0 (x:Asg):Asg:=⟨x.cl,0,x.ex.st0⟩
end
section
open Lx (Tk isDigit isLetter inWord spanN isPrint)
inductive El where
 |col (c:Cd)
 |key (k:List ByteArray)
 |frn (f:Rf)
 |chk (e:Ex)
def El.tk:El→List Kt
 | .col c=>c.tk
 | .key k=>keyK k
 | .frn f=>f.tk
 | .chk e=>chkK e
def El.ok:El→Bool
 | .col c=>c.ok
 | .key k=>namesB k
 | .frn f=>f.ok
 | .chk e=>e.formed
def El.put (d:Df):El→Df
 | .col c=> { d with cols:=d.cols++ [c] }
 | .key k=> { d with keys:=d.keys++ [k] }
 | .frn f=> { d with frs:=d.frs++ [f] }
 | .chk e=> { d with chk:=d.chk++ [e.st0] }
end
section
open Lx (Tk isDigit isLetter inWord spanN isPrint)
theorem elG_succ (ex:M Ex) (m:Nat) (d:Df) (l:List ByteArray) (st:Ps):elemGo ex (m+1) d l st=if isS yCm st=true then elemGo ex m (elemP ex d l st.next).1.1 (elemP ex d l st.next).1.2 (elemP ex d l st.next).2 else ((d,l),st):=rfl
end
section
open Lx (Tk isDigit isLetter inWord spanN isPrint)
def Itm.st0 (x:Itm):Itm:=if x.ag=1 then ⟨1,exZ⟩else ⟨x.ag,x.ex.st0⟩
end
section
open Lx (Tk isDigit isLetter inWord spanN isPrint)
def stI (k:Kt):Nat:=if k.1=2∨k.1=5 then (if k.2= [87,72,69,82,69]then 1 else if k.2= [71,82,79,85,80]then 2 else if k.2= [79,82,68,69,82]then 3 else if k.2= [76,73,77,73,84]then 4 else if k.2= [59]then 5 else 0)else 5
def StpN (j:Nat) (R:List Tk):Prop:=1≤j∧∃a l,R=a::l∧j≤stI (er a)
theorem StpN.le {i j:Nat} {R:List Tk} (h:StpN j R) (b:1≤i) (hi:i≤j):StpN i R:=by
 obtain⟨_,a,l,e,f⟩:=h
 exact⟨b,a,l,e,by omega⟩
theorem StpN.not {j:Nat} {R:List Tk} (h:StpN j R) {t:ByteArray} (f:stI (2,t.data.toList)<j):isS t ⟨R,false⟩=false:=by
 obtain⟨_,a,l,rfl,g⟩:=h
 refine not_hd (k:=er a) rfl (fun b e=>?_) l
 have:stI (er a)=stI (2,t.data.toList):=by
  unfold stI
  rw[if_pos b,if_pos (show((2:Nat),t.data.toList).1=2∨((2:Nat),t.data.toList).1=5 from .inl rfl),e]
 omega
def St.wh0 (s:St):Ex:=if s.whr.absent=true then exZ else s.whr.st0
theorem frm_succ (ex:M Ex) (m:Nat) (l:List Src) (c:List Ex) (st:Ps):fromGo ex (m+1) l c st=if isS yCm st=true then fromGo ex m (l++ [(srcP st.next).1]) c (srcP st.next).2
  else if isS fv st=true then fromGo ex m (l++ [(srcP st.next).1]) (c++ [(ex (needP kON (srcP st.next).2)).1]) (ex (needP kON (srcP st.next).2)).2 else ((l,c),st):=rfl
end
section
open Lx (Tk)
def St.unb (s:St):Bool:=s.chk.all Ex.unb&&s.whr.unb&&s.grp.all Ex.unb&&s.vals.all (fun l=>l.all Ex.unb) &&s.sets.all (fun a=>a.ix==0&&a.ex.unb) &&s.itms.all (fun x=>x.ex.unb)
def SQ (s:St):Prop:=s.formed=true∧s.unb=true
theorem nm_ne {s:ByteArray} (h:nameB s=true):s.toList.isEmpty=false:=by
 rw[eK]
 unfold nameB fU at h
 cases b:N s with
 |nil=>rw[b]at h;simp[dS]at h
 |cons a l=>rfl
theorem nil_e:(⟨#[]⟩:ByteArray).toList.isEmpty=true:=by rw[eK];rfl
theorem whr_b {e:Ex} (h:WQ e):(e.absent||e.formed)=true:=by
 rcases h.1 with h|h<;>simp[h]
theorem nn_ok (l:List ByteArray) (c:Cd):(nnC l c).ok=c.ok:=rfl
theorem sq_create {t:ByteArray} (f:nameB t=true) {x:Df×List ByteArray} (a:DfQ x):SQ { stZ with kd:=1,tb:=t,cols:=x.1.cols.map (nnC x.2),keys:=x.1.keys,frs:=x.1.frs,chk:=x.1.chk } :=by
 have j:(x.1.cols.map (nnC x.2)).all Cd.ok=true:=by
  rw[List.all_eq_true]
  intro c o
  obtain⟨d,hd,rfl⟩:=List.mem_map.1 o
  rw[nn_ok]
  exact a.cols d hd
 have g:x.1.keys.all namesB=true:=List.all_eq_true.2 a.keys
 have m:x.1.frs.all Rf.ok=true:=List.all_eq_true.2 a.frs
 have r:x.1.chk.all Ex.formed=true:=List.all_eq_true.2 fun e b=> (a.chk e b).1
 have l:x.1.chk.all Ex.unb=true:=List.all_eq_true.2 fun e b=> (a.chk e b).2
 have q:=a.ne
 have n:exZ.absent=true:=by decide
 have k:exZ.unb=true:=by decide
 refine⟨?_,?_⟩
 ·have i:St.noDef { stZ with kd:=1,tb:=t,cols:=x.1.cols.map (nnC x.2),keys:=x.1.keys,frs:=x.1.frs,chk:=x.1.chk } =false:=by
   unfold St.noDef
   simp only[List.length_map]
   exact decide_eq_false q
  unfold St.formed St.defOk
  rw[i]
  simp[stZ,nm_ne f,f,nil_e,n]
  exact⟨⟨⟨List.all_eq_true.1 (by simpa using j)|>fun h=>by simpa using h,by simpa using g⟩,by simpa using m⟩,by simpa using r⟩
 ·unfold St.unb
  simp[stZ,k]
  simpa using l
theorem sq_insert {t:ByteArray} (f:nameB t=true) {v:List (List Ex)} (b:v≠[]∧∀l∈v,rowOk l=true∧∀e∈l,e.unb=true):SQ { stZ with kd:=2,tb:=t,vals:=v } :=by
 have i:v.all rowOk=true:=List.all_eq_true.2 fun l a=> (b.2 l a).1
 have g:0<v.length:=List.length_pos_iff.2 b.1
 have k:exZ.absent=true:=by decide
 have j:exZ.unb=true:=by decide
 refine⟨?_,?_⟩
 ·unfold St.formed St.noDef
  simp[stZ,nm_ne f,f,nil_e,k,g]
  simpa using i
 ·unfold St.unb
  simp[stZ,j]
  exact fun l a e m=> (b.2 l a).2 e m
theorem sq_update {t:ByteArray} (k:nameB t=true) {v:List Asg} (f:v≠[]∧∀a∈v,a.ok=true∧a.ix=0∧a.ex.unb=true) {e:Ex} (j:WQ e):SQ { stZ with kd:=3,tb:=t,sets:=v,whr:=e } :=by
 have g:v.all Asg.ok=true:=List.all_eq_true.2 fun l b=> (f.2 l b).1
 have m:0<v.length:=List.length_pos_iff.2 f.1
 have i:=whr_b j
 refine⟨?_,?_⟩
 ·unfold St.formed St.noDef
  simp[stZ,nm_ne k,k,nil_e,m]
  simp at i g
  exact⟨i,g⟩
 ·unfold St.unb
  simp[stZ,j.2]
  exact fun l b=>⟨(f.2 l b).2.1,(f.2 l b).2.2⟩
theorem sq_delete {t:ByteArray} (b:nameB t=true) {e:Ex} (a:WQ e):SQ { stZ with kd:=4,tb:=t,whr:=e } :=by
 have f:=whr_b a
 refine⟨?_,?_⟩
 ·unfold St.formed St.noDef
  simp[stZ,nm_ne b,b,nil_e]
  simpa using f
 ·unfold St.unb
  simp[stZ,a.2]
theorem sq_query {i:List Itm} (hi:∀x∈i,x.ok=true∧x.ex.unb=true) {f:List Src} (r:(∀y∈f,y.ok=true)∧f≠[]) {e:Ex} (s:WQ e) {g:List Ex} (b:∀x∈g,FQ x∧x.d.op=2) {o:List Ord'} (u:∀x∈o,x.ok=true)
  {l:Int} (j:0≤l∧l≤2147483648):SQ { stZ with kd:=5,itms:=i,frm:=f,whr:=e,grp:=g,ord:=o,lim:=l } :=by
 have k:i.all Itm.ok=true:=List.all_eq_true.2 fun x a=> (hi x a).1
 have w:0<f.length:=List.length_pos_iff.2 r.2
 have n:f.all Src.ok=true:=List.all_eq_true.2 r.1
 have t:g.all colX=true:=List.all_eq_true.2 fun x a=>by unfold colX;simp[(b x a).2,(b x a).1.1]
 have m:o.all Ord'.ok=true:=List.all_eq_true.2 u
 have q:=whr_b s
 refine⟨?_,?_⟩
 ·unfold St.formed St.noDef St.qOk inB
  simp[stZ,nil_e,w,j.1,j.2]
  simp at k n t m q
  exact⟨q,⟨⟨⟨k,n⟩,t⟩,m⟩⟩
 ·unfold St.unb
  simp[stZ,s.2]
  exact⟨fun x a=> (b x a).1.2,fun x a=> (hi x a).2⟩
theorem sq_nm {k:Int} (f:k=9∨k=10∨k=11) {a:ByteArray} (b:nameB a=true):SQ { stZ with kd:=k,nm:=a } :=by
 have e:exZ.absent=true:=by decide
 have g:exZ.unb=true:=by decide
 refine⟨?_,?_⟩
 ·rcases f with rfl|rfl|rfl<;> (unfold St.formed St.noDef;simp[stZ,nm_ne b,b,nil_e,e])
 ·unfold St.unb
  simp[stZ,g]
theorem sq_one {k:Int} (b:k=6∨k=7∨k=8):SQ { stZ with kd:=k } :=by
 have a:exZ.absent=true:=by decide
 have e:exZ.unb=true:=by decide
 refine⟨?_,?_⟩
 ·rcases b with rfl|rfl|rfl<;> (unfold St.formed St.noDef;simp[stZ,nil_e,a])
 ·unfold St.unb
  simp[stZ,e]
section
variable {B:Nat} {ex:M Ex} (h:Yld B FQ ex) (st:Stk ex)
include h st
theorem nV:Yld B SQ (createP ex):=by
 unfold createP
 refine ao (aF _) (fun _ _=>?_) (fun _=>ah (ch 1) fun _=>ah (aA _) fun _=>ah (gL ex) fun _=>ah (aA _) fun _=>aj _)
 refine ao bA (fun t a=>?_) (fun _=>ah (aA _) fun _=>ah (gL ex) fun _=>ah (aA _) fun _=>aj _)
 refine ao (aF _) (fun _ _=>?_) (fun _=>ah (gL ex) fun _=>ah (aA _) fun _=>aj _)
 refine ao (yld_elems h st) (fun x b=>?_) (fun _=>ah (aA _) fun _=>aj _)
 exact ao (aF _) (fun _ _=>av (sq_create a b)) (fun _=>aj _)
theorem nW:Yld B SQ (eP ex):=by
 unfold eP
 refine ao (aF _) (fun _ _=>?_) (fun _=>ah (ch 1) fun _=>ah (aA _) fun _=>ah (bR (iM st)) fun _=>aj _)
 refine ao bA (fun t a=>?_) (fun _=>ah (aA _) fun _=>ah (bR (iM st)) fun _=>aj _)
 refine ao (aF _) (fun _ _=>?_) (fun _=>ah (bR (iM st)) fun _=>aj _)
 exact ao (du (yld_tup h st) (iM st)) (fun v b=>av (sq_insert a b)) (fun _=>aj _)
theorem nX:Yld B SQ (eQ ex):=by
 unfold eQ
 refine ao bA (fun t f=>?_) (fun _=>ah (aA _) fun _=>ah (bR (lg st)) fun _=>ah (gi ex) fun _=>aj _)
 refine ao (aF _) (fun _ _=>?_) (fun _=>ah (bR (lg st)) fun _=>ah (gi ex) fun _=>aj _)
 refine ao (du (yld_asg h st) (lg st)) (fun v b=>?_) (fun _=>ah (gi ex) fun _=>aj _)
 exact ao (yld_whr h) (fun e a=>av (sq_update f b a)) (fun _=>aj _)
omit st in
theorem nY:Yld B SQ (eR ex):=by
 unfold eR
 refine ao (aF _) (fun _ _=>?_) (fun _=>ah (ch 1) fun _=>ah (gi ex) fun _=>aj _)
 refine ao bA (fun t b=>?_) (fun _=>ah (gi ex) fun _=>aj _)
 exact ao (yld_whr h) (fun e a=>av (sq_delete b a)) (fun _=>aj _)
theorem yld_query:Yld B SQ (queryP ex posP andL):=by
 unfold queryP
 refine ao (Q:=fun i=> ∀x∈i,x.ok=true∧x.ex.unb=true) ?_ (fun i hi=>?_) (fun _=>ah (aA _) fun _=>ah (me ex) fun _=>ah (jk ex _ _) fun _=>ah iL fun _=>ah (eu _) fun _=>ah (eU _) fun _=>aj _)
 ·exact aR _ (av (by simp)) ((du (yld_itm h st) (stk_itm st)).imp fun l a=>a.2)
 refine ao (aF _) (fun _ _=>?_) (fun _=>ah (me ex) fun _=>ah (jk ex _ _) fun _=>ah iL fun _=>ah (eu _) fun _=>ah (eU _) fun _=>aj _)
 refine ao (yld_from h st) (fun f b=>?_) (fun _=>ah (jk ex _ _) fun _=>ah iL fun _=>ah (eu _) fun _=>ah (eU _) fun _=>aj _)
 refine ao (yld_cond h b.2.2) (fun e m=>?_) (fun _=>ah iL fun _=>ah (eu _) fun _=>ah (eU _) fun _=>aj _)
 refine ao (Q:=fun g=> ∀x∈g,FQ x∧x.d.op=2) ?_ (fun g k=>?_) (fun _=>ah (eu _) fun _=>ah (eU _) fun _=>aj _)
 ·exact aR _ (ao (aF _) (fun _ _=> (du mK lf).imp fun l a=>a.2) (fun _=>bR lf)) (av (by simp))
 refine ao (Q:=fun o=> ∀x∈o,x.ok=true) ?_ (fun o j=>?_) (fun _=>ah (eU _) fun _=>aj _)
 ·exact aR _ (ao (aF _) (fun _ _=> (du yld_ord (stk_ord stk_pos)).imp fun l a=>a.2) (fun _=>bR (stk_ord stk_pos))) (av (by simp))
 refine ao (Q:=fun l=>0≤l∧l≤2147483648) ?_ (fun l a=>av (sq_query hi ⟨b.1,b.2.1⟩ m k j a)) (fun _=>aj _)
 exact aR _ (yld_pos.imp fun n q=>by omega) (av (by omega))
theorem yld_stmt:Yld B SQ (eq ex posP andL gh):=by
 have nm:∀k:Int,k=9∨k=10∨k=11→Yld B SQ (nmP k):=fun k e=>ao bA (fun a b=>av (sq_nm e b)) (fun _=>aj _)
 unfold eq
 refine aR _ (nV h st) (aR _ (nW h st) (aR _ (nX h st) (aR _ (nY h) (aR _ (yld_query h st) (aR _ (av (sq_one (by omega))) (aR _ (av (sq_one (by omega)))
  (aR _ (aR _ (nm 10 (by omega)) (av (sq_one (by omega)))) (aR _ (nm 9 (by omega)) (aR _ (nm 11 (by omega)) ?_)))))))))
 exact fun s hs=>⟨hs,fun f=>by cases f⟩
end
theorem yld_stm (n:Nat):Yld n SQ (stmP n):=yld_stmt (mN n) (mb n)
end
section
open Lx (Tk isDigit isLetter inWord spanN isPrint)
def St.st0 (s:St):St:= { s with chk:=s.chk.map Ex.st0,vals:=s.vals.map (fun l=>l.map Ex.st0),sets:=s.sets.map Asg.st0,itms:=s.itms.map Itm.st0,whr:=s.wh0,grp:=s.grp.map Ex.st0 }
theorem emp_ba {s:ByteArray} (h:s.toList.isEmpty=true):s=⟨#[]⟩:=by
 rw[eK]at h
 exact ba_nil (by rw[←N_len,List.isEmpty_iff.1 h];rfl)
structure Lone (s:St):Prop where
 tb:4<s.kd→s.tb=⟨#[]⟩
 nm:s.kd≠9→s.kd≠10→s.kd≠11→s.nm=⟨#[]⟩
 df:s.kd≠1→s.cols= []∧s.keys= []∧s.frs= []∧s.chk= []
 vals:s.kd≠2→s.vals= []
 sets:s.kd≠3→s.sets= []
 sel:s.kd≠5→s.itms= []∧s.frm= []∧s.grp= []∧s.ord= []∧s.lim=0
 wh:s.kd≠3→s.kd≠4→s.kd≠5→s.wh0=exZ
theorem lone_of {s:St} (h:s.formed=true):Lone s:=by
 unfold St.formed at h
 dsimp only at h
 simp only[Bool.and_eq_true,decide_eq_true_eq]at h
 obtain⟨⟨⟨⟨⟨⟨⟨⟨⟨⟨⟨⟨q,o⟩,l⟩,_⟩,n1⟩,_⟩,j⟩,g⟩,n⟩,k⟩,m⟩,i⟩,_⟩:=h
 refine⟨fun e=>?_,fun a b c=>?_,fun e=>?_,fun e=>?_,fun e=>?_,fun e=>?_,fun a b c=>?_⟩
 ·rw[decide_eq_false (by omega)]at l
  exact emp_ba (by simpa using l)
 ·have e:(s.kd==9||s.kd==10||s.kd==11)=false:=by simp[a,b,c]
  rw[e]at n1
  exact emp_ba (by simpa using n1)
 ·have f:(s.kd==1)=false:=by simpa using e
  rw[f]at g
  have g:s.noDef=true:=by simpa using g
  unfold St.noDef at g
  have r:=of_decide_eq_true g
  exact⟨cr (by omega),cr (by omega),cr (by omega),cr (by omega)⟩
 ·have f:(s.kd==2)=false:=by simpa using e
  rw[f]at n
  exact cr (by simpa using n)
 ·have f:(s.kd==3)=false:=by simpa using e
  rw[f]at k
  exact cr (by simpa using k)
 ·have f:(s.kd==5)=false:=by simpa using e
  rw[f]at i m
  simp only[Bool.false_or,Bool.and_eq_true,decide_eq_true_eq,beq_iff_eq]at i
  exact⟨cr (by omega),cr (by simpa using m),cr (by omega),cr (by omega),i.2⟩
 ·have e:(s.kd==3||s.kd==4||s.kd==5)=false:=by simp[a,b,c]
  rw[e]at j
  unfold St.wh0
  rw[if_pos (by simpa using j)]
end
section
open Lx (Tk isDigit isLetter inWord spanN isPrint)
def parL (vld:St→Int) (s:ByteArray):List St×Int×Int:=
 match Lx.tokAll s with
 | .bad a e=> ([],(a:Int),(e:Int))
 | .ok L=>
  match kv (stmP (L.length+1)) vld (L.length+1) [] ⟨L,false⟩with
  | .inl q=> ([],(q.1:Int),q.2)
  | .inr l=> (l,0,0)
end
end Go.Proofs.YtjigcpfjhfoheaaGreatDoor
