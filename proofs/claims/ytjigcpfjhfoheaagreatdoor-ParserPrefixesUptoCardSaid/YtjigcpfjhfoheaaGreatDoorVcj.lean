/- Statements of a text that is cut off, put together; The first tokens of a valid statement's text are a statement, or fail at their end. -/
import Derived.Test.YtjigcpfjhfoheaaGreatDoorVci
namespace Go.Proofs.YtjigcpfjhfoheaaGreatDoor
open Go.RowKit List Go.Proofs.Tryz
set_option maxHeartbeats 1000000
set_option maxRecDepth 100000
set_option linter.unusedVariables false
set_option linter.unusedSimpArgs false
section
open Lx (Tk)
section
variable {z:Tk} (hz:z.kind=0) {X:List Tk} {K:Nat}
include hz
theorem zb_src:Zb z srcP:=cG (kl hz (by omega)) fun _=>aU _ _ (ae _)
omit hz in
theorem oh:∀x:Src,Bs x x:=fun _=> .inl rfl
theorem pf_src:Pf z X K Bs srcP srcP:=by
 unfold srcP
 refine bj hz (C:=Eq) (fP hz (fun _=>rfl) (by omega)) (fun t=>?_) (fun v u e=>?_) (fun _=>aY _ (ah (rdy_tak (by omega)) fun _=>aj _) (aj _)) (fun _=>aU _ _ (ae _)) (fun _=>aU _ _ (ae _))
 ·refine kn hz _ ?_ (cJ (oh _)) ?_ (aj _)
  ·exact bj hz (C:=Eq) (fP hz (fun _=>rfl) (by omega)) (fun _=>cJ (oh _)) (fun v u e=>by rw[e];exact bC (oh _)) (fun _=>aj _) (fun _=>ae _) (fun _=>ae _)
  ·exact ju _ (mX fun _=>bC (.inr ⟨rfl,rfl⟩)) (bC (oh _))
 ·subst e
  exact km hz _ _ (ju _ (mX fun _=>bC (.inr ⟨rfl,rfl⟩)) (bC (oh _)))
theorem pf_ord:Pf z X K Bo (dG posP) (dG posP):=by
 have a:∀x:Ord',Bo x x:=fun _=> .inl rfl
 have em:∀n:Int,Em z Bo (aH (⟨n,false⟩:Ord')) (ifM kASC (aH ⟨n,false⟩) (ifM jJ (aH ⟨n,true⟩) (aH ⟨n,false⟩))):=fun n=>ju _ (bC (a _)) (ju _ (bC (.inr ⟨rfl,rfl⟩)) (bC (a _)))
 have b:∀n:Int,Em z Bo (ifM jJ (aH (⟨n,true⟩:Ord')) (aH ⟨n,false⟩)) (ifM kASC (aH ⟨n,false⟩) (ifM jJ (aH ⟨n,true⟩) (aH ⟨n,false⟩))):=fun n=>km hz _ _ (em n)
 unfold dG
 refine bj hz (C:=Eq) (pf_pos hz fun _=>rfl) (fun t=>?_) (fun v u e=>?_) (fun _=>aY _ (aj _) (aY _ (aj _) (aj _))) (fun _=>aU _ _ (aU _ _ (ae _))) (fun _=>aU _ _ (aU _ _ (ae _)))
 ·exact kn hz _ (cJ (a _)) (kn hz _ (cJ (a _)) (cJ (a _)) (ju _ (bC (.inr ⟨rfl,rfl⟩)) (bC (a _))) (aj _)) (b t) (aY _ (aj _) (aj _))
 ·subst e
  exact km hz _ _ (b v)
omit hz in
theorem vZ:Rdy (dG posP):=ah kF fun _=>aY _ (aj _) (aY _ (aj _) (aj _))
theorem pf_grp:Pf z X K (LE Bx) fT fT:=by
 unfold fT
 refine kn hz _ ?_ (cJ (LE.refl _ _)) ?_ (aj _)
 ·exact bj hz (C:=Eq) (cP hz (fun _=>rfl) _) (fun _=>na hz Bx.refl (pf_col hz) i7) (fun _ _ _=> (mU (zb_col hz)).em _ _) (fun _=>bB rdy_col) (fun _=>aF i7) (fun _=>aF i7)
 ·exact ju _ (mX fun _=>fun b a _ _=>LE.nil _ _) (bC (LE.refl _ _))
theorem pf_ords:Pf z X K (LE Bo) (da posP) (da posP):=by
 unfold da
 refine kn hz _ ?_ (cJ (LE.refl _ _)) ?_ (aj _)
 ·exact bj hz (C:=Eq) (cP hz (fun _=>rfl) _) (fun _=>na hz (fun _=> .inl rfl) (pf_ord hz) (i8 i6)) (fun _ _ _=> (mU (cG (zb_pos hz) fun _=>aU _ _ (aU _ _ (ae _)))).em _ _) (fun _=>bB vZ) (fun _=>aF (i8 i6)) (fun _=>aF (i8 i6))
 ·exact ju _ (mX fun _=>fun b a _ _=>LE.nil _ _) (bC (LE.refl _ _))
theorem pf_lim:Pf z X K Bl (limP posP) (limP posP):=by
 unfold limP
 refine kn hz _ (pf_pos hz fun _=> .inl rfl) (cJ (.inl rfl)) ?_ (aj _)
 exact ju _ (fun b a _ _=> .inr rfl) (bC (.inl rfl))
theorem em_grp:Em z (LE Bx) fT fT:=km hz _ _ fun b a _ _=>LE.nil _ _
theorem em_ords:Em z (LE Bo) (da posP) (da posP):=km hz _ _ fun b a _ _=>LE.nil _ _
theorem em_lim:Em z Bl (limP posP) (limP posP):=km hz _ _ fun b a _ _=> .inr rfl
section
variable {ex ex':M Ex} (h:PX z X K ex ex') (nz:Nz ex) (nz':Nz ex')
include h nz'
omit hz in
theorem pw_ex:Pf z X K BW ex ex':=pf_val (Q:=fun e=>e.d.op≠0) h.pf (fun s=>nz' s) fun v u=>bw_bx
theorem pf_whr:Pf z X K BW (whrP ex) (whrP ex'):=kn hz _ (pw_ex h nz') (cJ (BW.refl _)) (fun b a _ _=>bw_z _) (aj _)
omit h nz' in
theorem em_whr (ex ex':M Ex):Em z BW (whrP ex) (whrP ex'):=km hz _ _ fun b a _ _=>bw_z _
omit nz' in
theorem pf_tup:Pf z X K Eq (tupP ex) (tupP ex'):=
 bj hz (C:=Eq) (cP hz (fun _=>rfl) _)
  (fun _=>bj hz (C:=fun _ _=>True) (t7 hz (pt_ex h) h.st') (fun l=>bj hz (C:=Eq) (cP hz (fun _=>rfl) _) (fun _=>cJ rfl) (fun _ _ _=>bC rfl) (fun _=>aj _) (fun _=>ae _) (fun _=>ae _))
   (fun _ _ _=> (cG (ei hz _) fun _=>ae _).em _ _) (fun _=>ah (ar _) fun _=>aj _) (fun _=>ab (ak _) fun _=>ae _) (fun _=>ab (ak _) fun _=>ae _))
  (fun _ _ _=> (cG (mU h.zb) fun _=>ab (ak _) fun _=>ae _).em _ _) (fun _=>ah (bB h.rd) fun _=>ah (ar _) fun _=>aj _) (fun _=>ab (aF h.st) fun _=>ab (ak _) fun _=>ae _) (fun _=>ab (aF h.st') fun _=>ab (ak _) fun _=>ae _)
omit nz' in
theorem pf_asg:Pf z X K Ba (asgP ex) (asgP ex'):=by
 have b:∀x:Asg,Ba x x:=fun x=>⟨rfl,Bx.refl _⟩
 unfold asgP
 refine bj hz (C:=Eq) (fP hz (fun _=>rfl) (by omega)) (fun a=>?_) (fun v u _=> (cG (ei hz _) fun _=>ab h.st fun _=>ae _).em _ _) (fun _=>ah (ar _) fun _=>ah h.rd fun _=>aj _) (fun _=>ab (ak _) fun _=>ab h.st fun _=>ae _) (fun _=>ab (ak _) fun _=>ab h.st' fun _=>ae _)
 refine bj hz (C:=Eq) (cP hz (fun _=>rfl) _) (fun _=>?_) (fun v u _=> (cG h.zb fun _=>ae _).em _ _) (fun _=>ah h.rd fun _=>aj _) (fun _=>ab h.st fun _=>ae _) (fun _=>ab h.st' fun _=>ae _)
 exact bj hz (C:=Bx) h.pf (fun _=>cJ (b _)) (fun v u e=>bC ⟨rfl,e⟩) (fun _=>aj _) (fun _=>ae _) (fun _=>ae _)
omit nz' in
theorem pt_itm:PT z X K (cY ex) (cY ex'):=fun A b g i=>by
 have e:∀o,Rdy (itm1 ex o):=fun o=>ah h.rd fun _=>ah (ar _) fun _=>aj _
 have rd:Rdy (cY ex):=mu h.rd
 cases A with
 |nil=>exact .inr ⟨ff hz (rd.sfx _),fun _ _=>trivial⟩
 |cons c l=>
  have m:∀x∈l,Okk x:=fun x n=>i x (mem_cons_of_mem _ n)
  unfold cY lp
  rw[gu (z:=z) opsAgg c l X b]
  have f:=gu (z:=z) opsAgg c l [z] b
  cases k:(firstP opsAgg ⟨c::l++ [z],b⟩).1 with
  |none=>exact br hz (pt_ex h) (fun _=>dy _) (fun _=>aj _) (c::l) b g i
  |some o=>
   rw[k]at f
   rw[f]
   simp only[Option.isSome_some,if_true]
   have j:PT z X K (itm1 ex o) (itm1 ex' o):=br hz (pt_ex h) (fun _=>br hz (di hz _) (fun _=>dy _) fun _=>aj _) fun _=>ah (ar _) fun _=>aj _
   have p:PT z X K (ay (aE yLp) fun _=>if o=2 then ifM cZ (ay (aE yRp) fun _=>aH ⟨1,exZ⟩) (itm1 ex o)else itm1 ex o) (ay (aE yLp) fun _=>if o=2 then ifM cZ (ay (aE yRp) fun _=>aH ⟨1,exZ⟩) (itm1 ex' o)else itm1 ex' o):=
    br hz (di hz _) (fun _=>by
     by_cases a:o=2
     ·rw[if_pos a,if_pos a]
      exact kp hz _ (br hz (di hz _) (fun _=>dy _) fun _=>aj _) j (e o)
     ·rw[if_neg a,if_neg a]
      exact j) fun _=>by
     by_cases a:o=2
     ·rw[if_pos a]
      exact aY _ (ah (ar _) fun _=>aj _) (e o)
     ·rw[if_neg a]
      exact e o
   simp only[length_cons]at g ⊢
   exact(p l b (by omega) m).imp (by omega) fun _ _ h=>h
omit nz' in
theorem pt_itms:PT z X K (itmsP ex) (itmsP ex'):=kp hz _ (dy _) (t7 hz (pt_itm hz h) (stk_itm h.st')) (bB (mu h.rd))
def BF (v u:List Src×List Ex):Prop:=LE Bs v.1 u.1∧LE Bx v.2 u.2
omit hz h nz' in
theorem iT (ex:M Ex):∀(n:Nat) (l:List Src) (c:List Ex) (s:Ps),(∃q,(fromGo ex n l c s).1.1=l++q)∧∃q,(fromGo ex n l c s).1.2=c++q
 |0,l,c,s=>⟨⟨[],by rw[append_nil];rfl⟩,⟨[],by rw[append_nil];rfl⟩⟩
 |n+1,l,c,s=>by
  rw[gU]
  split
  ·obtain⟨⟨q,a⟩,b⟩:=iT ex n (l++ [(srcP s.next).1]) c (srcP s.next).2
   exact⟨⟨(srcP s.next).1::q,by rw[a];simp⟩,b⟩
  split
  ·obtain⟨⟨q,a⟩,⟨e,b⟩⟩:=iT ex n (l++ [(srcP s.next).1]) (c++ [(ex (needP kON (srcP s.next).2)).1]) (ex (needP kON (srcP s.next).2)).2
   exact⟨⟨(srcP s.next).1::q,by rw[a];simp⟩,⟨(ex (needP kON (srcP s.next).2)).1::e,by rw[b];simp⟩⟩
  ·exact⟨⟨[],by simp⟩,⟨[],by simp⟩⟩
omit nz' h in
theorem qL (ex:M Ex) (n:Nat) (l:List Src) (c:List Ex) (q:Bool):fromGo ex n l c ⟨[z],q⟩=((l,c),⟨[z],q⟩):=by
 cases n with
 |zero=>rfl
 |succ n=>rw[gU,ch hz,if_neg (by simp),ch hz,if_neg (by simp)]
omit nz' in
theorem oi:∀(k:Nat) (A:List Tk) (b:Bool) (n e:Nat) (l:List Src) (c:List Ex),A.length≤k→A.length≤K→A.length<n→A.length<e→(∀a∈A,Okk a)→
  Out z X A.length BF (fromGo ex n l c ⟨A++ [z],b⟩) (fromGo ex' e l c ⟨A++X,b⟩)
 |k,A,b,0,_,l,c,_,_,h3,_,_=>absurd h3 (Nat.not_lt_zero _)
 |k,A,b,_+1,0,l,c,_,_,_,h4,_=>absurd h4 (Nat.not_lt_zero _)
 |k,[],b,n+1,e+1,l,c,_,_,_,_,hk=>by
  rw[nil_append,qL hz]
  obtain⟨⟨i,f⟩,⟨j,g⟩⟩:=iT ex' (e+1) l c ⟨[]++X,b⟩
  exact .inr ⟨rfl,fun _ _=>⟨by rw[f];exact(LE.refl _ l).app i,by rw[g];exact(LE.refl _ c).app j⟩⟩
 |0,t::r,b,n+1,e+1,l,c,f,_,_,_,_=>absurd f (by simp)
 |k+1,t::r,b,n+1,e+1,l,c,f,g,h3,h4,hk=>by
  have C:∀x∈r,Okk x:=fun x F=>hk x (mem_cons_of_mem _ F)
  simp only[length_cons]at f g h3 h4
  have m:∀R:List Tk,(⟨t::r++R,b⟩:Ps).next=⟨r++R,b⟩:=fun _=>rfl
  rw[gU,gU,bD yCm t r [z] X b,bD jx t r [z] X b]
  split
  ·rw[m,m]
   rcases pf_src hz (X:=X) (K:=K) r b (by omega) C with ⟨A1,b1,n1,l1,k1,e1,e2,e3⟩|⟨e1,e2⟩
   ·rw[e1,e2,←e3]
    exact(oi k A1 b1 n e _ _ (by omega) (by omega) (by omega) (by omega) k1).imp (by simp only[length_cons];omega) fun _ _ h=>h
   ·generalize (srcP ⟨r++ [z],b⟩).1=v at*
    generalize (srcP ⟨r++X,b⟩).1=u at*
    generalize (srcP ⟨r++X,b⟩).2=B at*
    generalize (srcP ⟨r++ [z],b⟩).2=s at*
    obtain⟨D,q⟩:=s
    simp only at e1 e2
    subst e1
    rw[qL hz]
    refine .inr ⟨rfl,fun o p=>?_⟩
    have w:=eg (aV ex' e _ _) p
    obtain⟨⟨i,f⟩,⟨j,g⟩⟩:=iT ex' e (l++ [u]) c B
    exact⟨by rw[f];exact(LE.last l (e2 o w)).app i,by rw[g];exact(LE.refl _ c).app j⟩
  split
  ·rw[m,m]
   have E:Out z X r.length Bs ((srcP ⟨r++ [z],b⟩).1,needP kON (srcP ⟨r++ [z],b⟩).2) ((srcP ⟨r++X,b⟩).1,needP kON (srcP ⟨r++X,b⟩).2):=hH hz oh kON (pf_src hz (X:=X) (K:=K) r b (by omega) C)
   generalize (srcP ⟨r++ [z],b⟩).1=v at*
   generalize (srcP ⟨r++X,b⟩).1=u at*
   rcases E with ⟨A1,b1,n1,l1,k1,e1,e2,e3⟩|⟨e1,e2⟩
   ·simp only at e1 e2 e3
    rw[e1,e2,←e3]
    rcases h.pf A1 b1 (by omega) k1 with ⟨A2,b2,n2,l2,k2,f1,f2,f3⟩|⟨f1,f2⟩
    ·rw[f1,f2,←f3]
     exact(oi k A2 b2 n e _ _ (by omega) (by omega) (by omega) (by omega) k2).imp (by simp only[length_cons];omega) fun _ _ h=>h
    ·generalize (ex ⟨A1++ [z],b1⟩).1=x at*
     generalize (ex' ⟨A1++X,b1⟩).1=y at*
     generalize (ex' ⟨A1++X,b1⟩).2=B at*
     generalize (ex ⟨A1++ [z],b1⟩).2=s at*
     obtain⟨D,q⟩:=s
     simp only at f1 f2
     subst f1
     rw[qL hz]
     refine .inr ⟨rfl,fun o p=>?_⟩
     have w:=eg (aV ex' e _ _) p
     obtain⟨⟨i,f⟩,⟨j,g⟩⟩:=iT ex' e (l++ [v]) (c++ [y]) B
     exact⟨by rw[f];exact(LE.refl _ _).app i,by rw[g];exact(LE.last c (f2 o w)).app j⟩
   ·simp only at e1
    generalize needP kON (srcP ⟨r++ [z],b⟩).2=s at*
    obtain⟨D,q⟩:=s
    simp only at e1
    subst e1
    rw[z_px hz h,qL hz]
    exact iq rfl rfl
  ·exact cE _ t r b b hk
omit nz' in
theorem pf_from:Pf z X K BF (fromP ex) (fromP ex'):=fun A b a k=>by
 rw[tP,tP]
 rcases pf_src hz (X:=X) (K:=K) A b a k with ⟨A1,b1,n1,l1,k1,e1,e2,e3⟩|⟨e1,e2⟩
 ·rw[e1,e2,←e3]
  exact(oi hz h A1.length A1 b1 _ _ _ _ (Nat.le_refl _) (Nat.le_trans l1 a) (by simp only[length_append,length_singleton];omega) (by simp only[length_append];omega) k1).imp l1 fun _ _ h=>h
 ·generalize (srcP ⟨A++ [z],b⟩).1=v at*
  generalize (srcP ⟨A++X,b⟩).1=u at*
  generalize (srcP ⟨A++X,b⟩).2=n at*
  generalize (srcP ⟨A++ [z],b⟩).2=s at*
  obtain⟨o,q⟩:=s
  simp only at e1 e2
  subst e1
  rw[qL hz]
  refine .inr ⟨rfl,fun e f=>?_⟩
  have g:=eg (aV ex' _ _ _) f
  obtain⟨⟨l,i⟩,⟨m,j⟩⟩:=iT ex' ((⟨A++X,b⟩:Ps).r.length+1) [u] [] n
  exact⟨by rw[i];exact(LE.last [] (e2 e g)).app l,by rw[j];exact(LE.refl _ []).app m⟩
omit nz' hz h in
theorem v8 {ex:M Ex} (h:Rdy ex) (c:List Ex):Rdy (cr ex andL c):=aY _ (ah h fun _=>aj _) (aj _)
theorem pf_cond (c:List Ex) (i:∀e∈c,e.d.op≠0):Pf z X K BW (cr ex andL c) (cr ex' andL c):=by
 have em:Em z BW (aH (andL c)) (ifM eH (ay ex' fun e=>aH (andL (c++ [e]))) (aH (andL c))):=fun b j _ _=>by
  unfold ifM
  split
  ·exact tZ ((LE.refl _ c).app _) fun e f=>by
    rcases List.mem_append.1 f with f|f
    ·exact i e f
    ·rw[List.mem_singleton.1 f];exact nz' _
  ·exact BW.refl _
 unfold cr
 refine kn hz _ ?_ (cJ (BW.refl _)) em (aj _)
 refine bj hz (C:=fun v u=>Bx v u∧u.d.op≠0) (pf_val (Q:=fun e=>e.d.op≠0) h.pf (fun s=>nz' s) fun v u a b=>⟨a,b⟩) (fun _=>cJ (BW.refl _)) (fun v u e=>bC ?_) (fun _=>aj _) (fun _=>ae _) (fun _=>ae _)
 exact tZ (LE.last c e.1) fun x g=>by
  rcases List.mem_append.1 g with g|g
  ·exact i x g
  ·rw[List.mem_singleton.1 g];exact e.2
omit h in
theorem em_cond {c d:List Ex} (a:LE Bx c d) (hd:∀e∈d,e.d.op≠0) (ex:M Ex):Em z BW (cr ex andL c) (cr ex' andL d):=km hz _ _ fun b g _ _=>by
 unfold cr ifM
 split
 ·exact tZ (a.app _) fun e f=>by
   rcases List.mem_append.1 f with f|f
   ·exact hd e f
   ·rw[List.mem_singleton.1 f];exact nz' _
 ·exact tZ a hd
def qryR (ex:M Ex) (i:List Itm) (f:List Src×List Ex):M St:=
 ay (cr ex andL f.2) fun w=>ay fT fun g=>ay (da posP) fun o=>ay (limP posP) fun l=>aH { stZ with kd:=5,itms:=i,frm:=f.1,whr:=w,grp:=g,ord:=o,lim:=l }
omit hz h nz' in
theorem hJ:Rdy (limP posP):=aY _ kF (aj _)
omit hz h nz' in
theorem iU:Rdy (da posP):=aY _ (ah (ar _) fun _=>bB vZ) (aj _)
omit hz h nz' in
theorem qM:Rdy fT:=aY _ (ah (ar _) fun _=>bB rdy_col) (aj _)
omit hz h nz' in
theorem o8 {ex:M Ex} (h:Rdy ex) (i:List Itm) (f:List Src×List Ex):Rdy (qryR ex i f):=ah (v8 h _) fun _=>ah qM fun _=>ah iU fun _=>ah hJ fun _=>aj _
omit hz h nz' in
theorem fZ (ex:M Ex) (i:List Itm) (f:List Src×List Ex):Stk (qryR ex i f):=ab (jK ex _ _) fun _=>ab fD fun _=>ab (ce _) fun _=>ab (bG _) fun _=>ae _
omit h nz' in
theorem em_rest (i:List Itm) {f a:List Src} (b:LE Bs f a) {w w':Ex} (m:BW w w'):Em z BS (ay fT fun g=>ay (da posP) fun o=>ay (limP posP) fun l=>aH { stZ with kd:=5,itms:=i,frm:=f,whr:=w,grp:=g,ord:=o,lim:=l }) (ay fT fun g=>ay (da posP) fun o=>ay (limP posP) fun l=>aH { stZ with kd:=5,itms:=i,frm:=a,whr:=w',grp:=g,ord:=o,lim:=l }):=
 jt hz (em_grp hz) qM (fun g n e=>jt hz (em_ords hz) iU (fun o r k=>jt hz (em_lim hz) hJ (fun l p j=>bC (m7 i b m e k j)) (fun _=>ae _) (fun _=>ae _)) (fun _=>ab (bG _) fun _=>ae _) (fun _=>ab (bG _) fun _=>ae _)) (fun _=>ab (ce _) fun _=>ab (bG _) fun _=>ae _) (fun _=>ab (ce _) fun _=>ab (bG _) fun _=>ae _)
omit h in
theorem em_qry (i:List Itm) {f a:List Src×List Ex} (b:BF f a) (hd:∀e∈a.2,e.d.op≠0) (g:Rdy ex):Em z BS (qryR ex i f) (qryR ex' i a):=
 jt hz (em_cond hz nz' b.2 hd ex) (v8 g _) (fun w w' j=>em_rest hz i b.1 j) (fun _=>ab fD fun _=>ab (ce _) fun _=>ab (bG _) fun _=>ae _) (fun _=>ab fD fun _=>ab (ce _) fun _=>ab (bG _) fun _=>ae _)
theorem pf_qry (i:List Itm) (f:List Src×List Ex) (hd:∀e∈f.2,e.d.op≠0):Pf z X K BS (qryR ex i f) (qryR ex' i f):=by
 refine bj hz (C:=BW) (pf_cond hz h nz' f.2 hd) (fun w=>?_) (fun w w' m=>em_rest hz i (LE.refl _ _) m) (fun _=>ah qM fun _=>ah iU fun _=>ah hJ fun _=>aj _) (fun _=>ab fD fun _=>ab (ce _) fun _=>ab (bG _) fun _=>ae _) (fun _=>ab fD fun _=>ab (ce _) fun _=>ab (bG _) fun _=>ae _)
 refine bj hz (C:=LE Bx) (pf_grp hz) (fun g=>?_) (fun g p k=>jt hz (em_ords hz) iU (fun o n b=>jt hz (em_lim hz) hJ (fun l j a=>bC (m7 i (LE.refl _ _) (BW.refl _) k b a)) (fun _=>ae _) (fun _=>ae _)) (fun _=>ab (bG _) fun _=>ae _) (fun _=>ab (bG _) fun _=>ae _)) (fun _=>ah iU fun _=>ah hJ fun _=>aj _) (fun _=>ab (ce _) fun _=>ab (bG _) fun _=>ae _) (fun _=>ab (ce _) fun _=>ab (bG _) fun _=>ae _)
 refine bj hz (C:=LE Bo) (pf_ords hz) (fun o=>?_) (fun o n b=>jt hz (em_lim hz) hJ (fun l j a=>bC (m7 i (LE.refl _ _) (BW.refl _) (LE.refl _ _) b a)) (fun _=>ae _) (fun _=>ae _)) (fun _=>ah hJ fun _=>aj _) (fun _=>ab (bG _) fun _=>ae _) (fun _=>ab (bG _) fun _=>ae _)
 exact bj hz (C:=Bl) (pf_lim hz) (fun _=>cJ (BS.refl _)) (fun l j a=>bC (m7 i (LE.refl _ _) (BW.refl _) (LE.refl _ _) (LE.refl _ _) a)) (fun _=>aj _) (fun _=>ae _) (fun _=>ae _)
theorem pf_query:Pf z X K BS (queryP ex posP andL) (queryP ex' posP andL):=by
 have a:∀s,∀e∈(fromP ex' s).1.2,e.d.op≠0:=fun s=>oS nz' _ _ _ _ (by simp)
 have o:Zb z (fromP ex):=fun b=>by
  rw[tP,aV ex _ _ _ _ (zb_src hz b)]
  exact zb_src hz b
 have m:Zb z (ay (aE kFROM) fun _=>ay (fromP ex) fun f=>qryR ex [] f):=cG (ei hz _) fun _=>ab (eP ex) fun _=>fZ ex _ _
 show Pf z X K BS (ay (itmsP ex) fun i=>ay (aE kFROM) fun _=>ay (fromP ex) fun f=>qryR ex i f) (ay (itmsP ex') fun i=>ay (aE kFROM) fun _=>ay (fromP ex') fun f=>qryR ex' i f)
 refine bj hz (C:=fun _ _=>True) (pt_itms hz h) (fun i=>?_) (fun v u _=> (cG (ei hz _) fun _=>ab (eP ex) fun _=>fZ ex _ _).em _ _) (fun _=>ah (ar _) fun _=>ah (ml h.rd) fun _=>o8 h.rd _ _) (fun _=>ab (ak _) fun _=>ab (eP ex) fun _=>fZ ex _ _) (fun _=>ab (ak _) fun _=>ab (eP ex') fun _=>fZ ex' _ _)
 refine bj hz (C:=Eq) (cP hz (fun _=>rfl) _) (fun _=>?_) (fun v u _=> (cG o fun _=>fZ ex _ _).em _ _) (fun _=>ah (ml h.rd) fun _=>o8 h.rd _ _) (fun _=>ab (eP ex) fun _=>fZ ex _ _) (fun _=>ab (eP ex') fun _=>fZ ex' _ _)
 intro A b k l
 show Out z X A.length BS (qryR ex i (fromP ex ⟨A++ [z],b⟩).1 (fromP ex ⟨A++ [z],b⟩).2) (qryR ex' i (fromP ex' ⟨A++X,b⟩).1 (fromP ex' ⟨A++X,b⟩).2)
 have hd:=a ⟨A++X,b⟩
 rcases pf_from hz h A b k l with ⟨A1,b1,n1,l1,k1,e1,e2,e3⟩|⟨e1,e2⟩
 ·rw[e1,e2,e3]
  exact(pf_qry hz h nz' i _ hd A1 b1 (Nat.le_trans l1 k) k1).imp l1 fun _ _ h=>h
 ·generalize (fromP ex ⟨A++ [z],b⟩).1=v at*
  generalize (fromP ex' ⟨A++X,b⟩).1=u at*
  generalize (fromP ex' ⟨A++X,b⟩).2=n at*
  generalize (fromP ex ⟨A++ [z],b⟩).2=s at*
  obtain⟨p,q⟩:=s
  simp only at e1 e2
  subst e1
  exact .inr ⟨ff hz ((o8 h.rd i v).sfx _),fun g j=>em_qry hz nz' i (e2 (eg (fZ ex i v) g) (eg (fZ ex' i u) j)) hd h.rd q n g j⟩
omit nz' in
theorem pf_create:Pf z X K BS (createP ex) (createP ex'):=by
 have a:Rdy (bL ex):=nu h.rd
 have b:∀t:BA,Zb z (ay (bL ex) fun x=>ay (aE yRp) fun _=>aH ({ stZ with kd:=1,tb:=t,cols:=x.1.cols.map (nnC x.2),keys:=x.1.keys,frs:=x.1.frs,chk:=x.1.chk } :St)):=fun t=>zb_bnd2 hz a fun _=>cG (ei hz _) fun _=>ae _
 unfold createP
 refine bj hz (C:=Eq) (cP hz (fun _=>rfl) _) (fun _=>?_) (fun v u _=> (cG (kl hz (by omega)) fun _=>ab (ak _) fun _=>ab (cn ex) fun _=>ab (ak _) fun _=>ae _).em _ _) (fun _=>ah (rdy_tak (by omega)) fun _=>ah (ar _) fun _=>ah a fun _=>ah (ar _) fun _=>aj _) (fun _=>ab (bq 1) fun _=>ab (ak _) fun _=>ab (cn ex) fun _=>ab (ak _) fun _=>ae _) (fun _=>ab (bq 1) fun _=>ab (ak _) fun _=>ab (cn ex') fun _=>ab (ak _) fun _=>ae _)
 refine bj hz (C:=Eq) (fP hz (fun _=>rfl) (by omega)) (fun t=>?_) (fun v u _=> (cG (ei hz _) fun _=>ab (cn ex) fun _=>ab (ak _) fun _=>ae _).em _ _) (fun _=>ah (ar _) fun _=>ah a fun _=>ah (ar _) fun _=>aj _) (fun _=>ab (ak _) fun _=>ab (cn ex) fun _=>ab (ak _) fun _=>ae _) (fun _=>ab (ak _) fun _=>ab (cn ex') fun _=>ab (ak _) fun _=>ae _)
 refine bj hz (C:=Eq) (cP hz (fun _=>rfl) _) (fun _=>?_) (fun v u _=> (b t).em _ _) (fun _=>ah a fun _=>ah (ar _) fun _=>aj _) (fun _=>ab (cn ex) fun _=>ab (ak _) fun _=>ae _) (fun _=>ab (cn ex') fun _=>ab (ak _) fun _=>ae _)
 refine bj hz (C:=fun _ _=>True) (pt_elems hz h) (fun x=>?_) (fun v u _=> (cG (ei hz _) fun _=>ae _).em _ _) (fun _=>ah (ar _) fun _=>aj _) (fun _=>ab (ak _) fun _=>ae _) (fun _=>ab (ak _) fun _=>ae _)
 exact bj hz (C:=Eq) (cP hz (fun _=>rfl) _) (fun _=>cJ (BS.refl _)) (fun v u _=>bC (BS.refl _)) (fun _=>aj _) (fun _=>ae _) (fun _=>ae _)
omit nz' in
theorem pf_insert:Pf z X K BS (dz ex) (dz ex'):=by
 have st:∀ {e:M Ex},Stk e→Stk (tupP e):=fun h=>ja h
 have a:Rdy (tupP ex):=ah (ar _) fun _=>ah (bB h.rd) fun _=>ah (ar _) fun _=>aj _
 have b:Zb z (tupP ex):=cG (ei hz _) fun _=>ab (aF h.st) fun _=>ab (ak _) fun _=>ae _
 unfold dz
 refine bj hz (C:=Eq) (cP hz (fun _=>rfl) _) (fun _=>?_) (fun v u _=> (cG (kl hz (by omega)) fun _=>ab (ak _) fun _=>ab (aF (st h.st)) fun _=>ae _).em _ _) (fun _=>ah (rdy_tak (by omega)) fun _=>ah (ar _) fun _=>ah (bB a) fun _=>aj _) (fun _=>ab (bq 1) fun _=>ab (ak _) fun _=>ab (aF (st h.st)) fun _=>ae _) (fun _=>ab (bq 1) fun _=>ab (ak _) fun _=>ab (aF (st h.st')) fun _=>ae _)
 refine bj hz (C:=Eq) (fP hz (fun _=>rfl) (by omega)) (fun t=>?_) (fun v u _=> (cG (ei hz _) fun _=>ab (aF (st h.st)) fun _=>ae _).em _ _) (fun _=>ah (ar _) fun _=>ah (bB a) fun _=>aj _) (fun _=>ab (ak _) fun _=>ab (aF (st h.st)) fun _=>ae _) (fun _=>ab (ak _) fun _=>ab (aF (st h.st')) fun _=>ae _)
 refine bj hz (C:=Eq) (cP hz (fun _=>rfl) _) (fun _=>?_) (fun v u _=> (cG (mU b) fun _=>ae _).em _ _) (fun _=>ah (bB a) fun _=>aj _) (fun _=>ab (aF (st h.st)) fun _=>ae _) (fun _=>ab (aF (st h.st')) fun _=>ae _)
 exact bj hz (C:=LE Eq) (na hz (fun _=>rfl) (pf_tup hz h) (st h.st')) (fun _=>cJ (BS.refl _)) (fun v u e=>bC (bs_insert t e)) (fun _=>aj _) (fun _=>ae _) (fun _=>ae _)
theorem pf_update:Pf z X K BS (dA ex) (dA ex'):=by
 have f:Rdy (asgP ex):=vT h.rd
 have a:Rdy (whrP ex):=jX h.rd
 have g:Zb z (asgP ex):=cG (kl hz (by omega)) fun _=>ab (ak _) fun _=>ab h.st fun _=>ae _
 unfold dA
 refine bj hz (C:=Eq) (fP hz (fun _=>rfl) (by omega)) (fun t=>?_) (fun v u _=> (cG (ei hz _) fun _=>ab (aF (eO h.st)) fun _=>ab (bO ex) fun _=>ae _).em _ _) (fun _=>ah (ar _) fun _=>ah (bB f) fun _=>ah a fun _=>aj _) (fun _=>ab (ak _) fun _=>ab (aF (eO h.st)) fun _=>ab (bO ex) fun _=>ae _) (fun _=>ab (ak _) fun _=>ab (aF (eO h.st')) fun _=>ab (bO ex') fun _=>ae _)
 refine bj hz (C:=Eq) (cP hz (fun _=>rfl) _) (fun _=>?_) (fun v u _=> (cG (mU g) fun _=>ab (bO ex) fun _=>ae _).em _ _) (fun _=>ah (bB f) fun _=>ah a fun _=>aj _) (fun _=>ab (aF (eO h.st)) fun _=>ab (bO ex) fun _=>ae _) (fun _=>ab (aF (eO h.st')) fun _=>ab (bO ex') fun _=>ae _)
 refine bj hz (C:=LE Ba) (na hz (fun _=>⟨rfl,Bx.refl _⟩) (pf_asg hz h) (eO h.st')) (fun v=>?_) (fun v u e=>jt hz (em_whr hz ex ex') a (fun w w' b=>bC (sc t e b)) (fun _=>ae _) (fun _=>ae _)) (fun _=>ah a fun _=>aj _) (fun _=>ab (bO ex) fun _=>ae _) (fun _=>ab (bO ex') fun _=>ae _)
 exact bj hz (C:=BW) (pf_whr hz h nz') (fun _=>cJ (BS.refl _)) (fun w w' b=>bC (sc t (LE.refl _ _) b)) (fun _=>aj _) (fun _=>ae _) (fun _=>ae _)
theorem pf_delete:Pf z X K BS (dB ex) (dB ex'):=by
 have b:Rdy (whrP ex):=jX h.rd
 unfold dB
 refine bj hz (C:=Eq) (cP hz (fun _=>rfl) _) (fun _=>?_) (fun v u _=> (cG (kl hz (by omega)) fun _=>ab (bO ex) fun _=>ae _).em _ _) (fun _=>ah (rdy_tak (by omega)) fun _=>ah b fun _=>aj _) (fun _=>ab (bq 1) fun _=>ab (bO ex) fun _=>ae _) (fun _=>ab (bq 1) fun _=>ab (bO ex') fun _=>ae _)
 refine bj hz (C:=Eq) (fP hz (fun _=>rfl) (by omega)) (fun t=>?_) (fun v u e=>?_) (fun _=>ah b fun _=>aj _) (fun _=>ab (bO ex) fun _=>ae _) (fun _=>ab (bO ex') fun _=>ae _)
 ·exact bj hz (C:=BW) (pf_whr hz h nz') (fun _=>cJ (BS.refl _)) (fun w w' a=>bC (sd t a)) (fun _=>aj _) (fun _=>ae _) (fun _=>ae _)
 ·subst e
  exact jt hz (em_whr hz ex ex') b (fun w w' a=>bC (sd v a)) (fun _=>ae _) (fun _=>ae _)
omit h nz' in
theorem pf_nm (k:Int):Pf z X K BS (nmP k) (nmP k):=bj hz (C:=Eq) (fP hz (fun _=>rfl) (by omega)) (fun _=>cJ (BS.refl _)) (fun v u e=>by rw[e];exact bC (BS.refl _)) (fun _=>aj _) (fun _=>ae _) (fun _=>ae _)
omit hz h nz' in
theorem rdy_nm (k:Int):Rdy (nmP k):=ah (rdy_tak (by omega)) fun _=>aj _
theorem pf_stmt:Pf z X K BS (dj ex posP andL fQ) (dj ex' posP andL fQ):=by
 have H:Zb z (fun s:Ps=> (stZ,s.fail)):=fun _=>rfl
 have F:Rdy (fun s:Ps=> (stZ,s.fail)):=⟨fun s=>Sfx.fail s,fun _ _=>rfl⟩
 have pl:Pf z X K BS (fun s:Ps=> (stZ,s.fail)) (fun s:Ps=> (stZ,s.fail)):=fun A b I r=>by
  cases A with
  |nil=>exact iq rfl rfl
  |cons a l=>exact cE stZ a l b true r
 have P:∀(t:BA) {m j n o:M St},Pf z X K BS m j→(Pf z X K BS n o∧Zb z n∧Rdy n)→Rdy m→(Pf z X K BS (ifM t m n) (ifM t j o)∧Zb z (ifM t m n)∧Rdy (ifM t m n)):=fun t {m j n o} w e G=>⟨kn hz t w e.1 (e.2.1.em _ _) e.2.2,zb_if hz t m e.2.1,aY t G e.2.2⟩
 have one:∀k:Int,Pf z X K BS (aH ({ stZ with kd:=k } :St)) (aH { stZ with kd:=k }):=fun k=>cJ (BS.refl _)
 have B:Rdy (bL ex):=nu h.rd
 have p:Rdy (whrP ex):=jX h.rd
 have x:Rdy (createP ex):=ah (ar _) fun _=>ah (rdy_tak (by omega)) fun _=>ah (ar _) fun _=>ah B fun _=>ah (ar _) fun _=>aj _
 have C:Rdy (dz ex):=ah (ar _) fun _=>ah (rdy_tak (by omega)) fun _=>ah (ar _) fun _=>ah (bB (ah (ar _) fun _=>ah (bB h.rd) fun _=>ah (ar _) fun _=>aj _)) fun _=>aj _
 have E:Rdy (dA ex):=ah (rdy_tak (by omega)) fun _=>ah (ar _) fun _=>ah (bB (vT h.rd)) fun _=>ah p fun _=>aj _
 have y:Rdy (dB ex):=ah (ar _) fun _=>ah (rdy_tak (by omega)) fun _=>ah p fun _=>aj _
 have D:Rdy (queryP ex posP andL):=ah (aY _ (aj _) (bB (mu h.rd))) fun i=>ah (ar _) fun _=>ah (ml h.rd) fun f=>o8 h.rd i f
 have g:Em z BS (aH ({ stZ with kd:=8 } :St)) (ifM kTO (nmP 10) (aH { stZ with kd:=8 })):=by
  refine ju _ (mX fun u=>bC ⟨?_,?_,?_⟩) (bC (BS.refl _))
  ·rw[iC,iC];exact Nat.le_refl _
  ·rw[iD,iD];exact Nat.le_refl _
  ·show 8≤(St.body _).size
   unfold St.body
   simp only[Int.reduceEq,↓reduceIte,ByteArray.size_append]
   show 8≤12+_
   omega
 unfold dj
 refine(P _ (pf_create hz h) (P _ (pf_insert hz h) (P _ (pf_update hz h nz') (P _ (pf_delete hz h nz') (P _ (pf_query hz h nz') (P _ (one 6) (P _ (one 7) (P _ (kn hz _ (pf_nm hz 10) (one 8) g (aj _)) (P _ (pf_nm hz 9) ?_ (rdy_nm 9)) (aY _ (rdy_nm 10) (aj _))) (aj _)) (aj _)) D) y) E) C) x).1
 unfold fQ
 exact P _ (pf_nm hz 11) ⟨pl,H,F⟩ (rdy_nm 11)
end
theorem pf_stm (n a:Nat):Pf z X n BS (stmP (n+1)) (stmP (n+a+1)):=pf_stmt hz (px_expr hz n a) (nz_expr _)
end
end
section
open Lx (Tk isDigit isLetter inWord spanN isPrint)
theorem oj (f:UInt8→Bool):∀(l:List UInt8) (q:Nat),spanN f l≤q→spanN f (l.take q)=spanN f l
 | [],q,_=>by simp
 |c::r,0,h=>by
  rw[take_zero]
  rw[spanN]at h ⊢
  split at h
  ·omega
  ·next hc=>rw[spanN,if_neg hc]
 |c::r,q+1,h=>by
  rw[take_succ_cons,spanN,spanN]
  rw[spanN]at h
  split at h
  ·next hc=>rw[if_pos hc,if_pos hc,oj f r q (by omega)]
  ·next hc=>rw[if_neg hc,if_neg hc]
theorem qN:∀(l X:List UInt8) (i:Nat) (Y:List UInt8) (k q:Nat),Lx.litF l X i=some (Y,k)→k≤i+q→Lx.litF (l.take q) X i=some (Y,k)
 | [],X,i,Y,k,q,h,_=>by simp[Lx.litF]at h
 | [c],X,i,Y,k,q,h,hq=>by
  have:=Lx.lit_bound _ _ _ _ _ h
  obtain⟨q,rfl⟩:∃p,q=p+1:=⟨q-1,by omega⟩
  simpa using h
 |c::d::r,X,i,Y,k,q,h,hq=>by
  have a:=Lx.lit_bound _ _ _ _ _ h
  obtain⟨q,rfl⟩:∃p,q=p+1:=⟨q-1,by omega⟩
  rw[Lx.lit_cons]at h
  rw[take_succ_cons,Lx.lit_cons]
  split at h
  ·cases h
  next h1=>
  rw[if_neg h1]
  split at h
  ·next h2=>
   rw[if_pos h2]
   simp only at h
   cases q with
   |zero=>
    rw[take_zero]
    simp only
    split at h
    ·have:=Lx.lit_bound _ _ _ _ _ h
     omega
    ·exact h
   |succ q=>
    rw[take_succ_cons]
    simp only
    split at h
    ·next h3=>rw[if_pos h3];exact qN r _ _ Y k q h (by omega)
    ·next h3=>rw[if_neg h3];exact h
  ·next h2=>
   rw[if_neg h2]
   exact qN (d::r) _ _ Y k q h (by omega)
theorem tok_take (c:UInt8) (r:List UInt8) (k:Nat) (x:List UInt8) (n j:Nat) (h:Lx.tokL (c::r)= .tok k x n) (u:n≤j+1):Lx.tokL (c::r.take j)= .tok k x n:=by
 have b:c::r.take j=(c::r).take (j+1):=(take_succ_cons).symm
 have g:∀m,m≤j+1→((c::r).take (j+1)).take m=(c::r).take m:=fun m s=>by rw[take_take,Nat.min_eq_left s]
 rw[Lx.tokL]at h ⊢
 split at h
 ·next h1=>
  rw[if_pos h1,b]
  unfold Lx.wordL at h ⊢
  have hs:spanN inWord (c::r)=n:=by
   split at h
   ·cases h;rfl
   ·split at h
    ·cases h
    ·cases h;rfl
  rw[oj inWord _ _ (by omega),g _ (by omega)]
  exact h
 next h1=>
 rw[if_neg h1]
 split at h
 ·next h2=>
  rw[if_pos h2,b]
  unfold Lx.numL at h ⊢
  have hs:spanN isDigit (c::r)=n∧Lx.headW ((c::r).drop (spanN isDigit (c::r)))=false:=by
   split at h
   ·cases h
   ·next hh=>
    refine⟨?_,?_⟩
    ·split at h
     ·cases h
     ·cases h;rfl
    ·cases t:Lx.headW ((c::r).drop (spanN isDigit (c::r)))with
     |false=>rfl
     |true=>exact absurd (.inr t) hh
  rw[oj isDigit _ _ (by omega),g _ (by omega)]
  have o:((c::r).take (j+1)).head? =(c::r).head? :=rfl
  have p:Lx.headW (((c::r).take (j+1)).drop (spanN isDigit (c::r)))=Lx.headW ((c::r).drop (spanN isDigit (c::r))):=by
   rw[hs.2,List.drop_take]
   cases hd:(c::r).drop (spanN isDigit (c::r))with
   |nil=>simp[Lx.headW]
   |cons a l=>
    have:=hs.2
    rw[hd]at this
    cases j+1-spanN isDigit (c::r)with
    |zero=>rfl
    |succ m=>rw[take_succ_cons];exact this
  rw[o,p]
  exact h
 next h2=>
 rw[if_neg h2]
 split at h
 ·next h3=>
  rw[if_pos h3]
  unfold Lx.textL at h ⊢
  cases f:Lx.litF r [] 1 with
  |none=>rw[f]at h;cases h
  |some q=>
   obtain⟨Y,i⟩:=q
   rw[f]at h
   simp only at h
   have hi:i=n:=by
    split at h
    ·cases h
    ·cases h;rfl
   rw[qN r [] 1 Y i j f (by omega)]
   exact h
 ·next h3=>
  rw[if_neg h3,b]
  unfold Lx.symL at h ⊢
  have hs:Lx.symN (c::r)=n:=by
   split at h
   ·cases h
   ·cases h;rfl
  have e:Lx.symN ((c::r).take (j+1))=Lx.symN (c::r):=by
   cases r with
   |nil=>rw[take_of_length_le (by simp)]
   |cons d r=>
    rw[Lx.symN]at hs ⊢
    cases j with
    |zero=>
     rw[take_succ_cons,take_zero,Lx.symN]
     split at hs
     ·omega
     ·next h4=>rw[if_neg h4]
    |succ j=>
     rw[take_succ_cons,take_succ_cons,Lx.symN]
  rw[e,g _ (by omega)]
  exact h
theorem sl:∀(m:Bool) (l:List UInt8) (q:Nat),Lx.skipN m l≤q→(m=false→q=Lx.skipN m l∨Lx.skipN m l<q)→(m=true→Lx.skipN m l<l.length)→Lx.skipN m (l.take q)=Lx.skipN m l:=by
 intro m l
 induction l generalizing m with
 |nil=>intro q _ _ _;simp
 |cons c r ih=>
  intro q h o f
  cases m with
  |true=>
   rw[Lx.skipN]at h f
   split at h
   ·next hc=>
    obtain⟨q,rfl⟩:∃p,q=p+1:=⟨q-1,by omega⟩
    rw[take_succ_cons,Lx.skipN,Lx.skipN,if_pos hc,if_pos hc,ih false q (by omega) (fun _=>by omega) (fun e=>by cases e)]
   ·next hc=>
    obtain⟨q,rfl⟩:∃p,q=p+1:=⟨q-1,by omega⟩
    have i:=f rfl
    rw[if_neg hc,length_cons]at i
    rw[take_succ_cons,Lx.skipN,Lx.skipN,if_neg hc,if_neg hc,ih true q (by omega) (fun e=>by cases e) (fun _=>by omega)]
  |false=>
   cases q with
   |zero=>
    rw[take_zero]
    have:Lx.skipN false (c::r)=0:=by omega
    rw[this]
    rfl
   |succ q=>
    rw[Lx.skipN]at h
    rw[take_succ_cons,Lx.skipN,Lx.skipN]
    split at h
    ·next hc=>
     rw[if_pos hc,if_pos hc,ih false q (by omega) (fun _=>by omega) (fun e=>by cases e)]
    ·next hc=>
     rw[if_neg hc,if_neg hc]
     split at h
     ·next hc2=>
      rw[if_pos hc2]
      cases r with
      |nil=>simp at hc2
      |cons d r'=>
       have hd:d=45:=by simpa using hc2.2
       have k:1≤Lx.skipN true (d::r'):=by rw[Lx.skipN];split<;>omega
       obtain⟨q,rfl⟩:∃p,q=p+1:=⟨q-1,by omega⟩
       have e:((d::r').take (q+1)).head? =some 45:=by rw[take_succ_cons,hd];rfl
       rw[if_pos ⟨hc2.1,e⟩]
       by_cases j:Lx.skipN true (d::r')<(d::r').length
       ·rw[ih true (q+1) (by omega) (fun e=>by cases e) (fun _=>j)]
       ·have n:=Lx.skip_le true (d::r')
        rw[take_of_length_le (by omega)]
     ·next hc2=>
      have b:¬(c.toNat=45∧(r.take q).head? =some 45):=by
       rintro⟨g,a⟩
       apply hc2
       refine⟨g,?_⟩
       cases r with
       |nil=>simp at a
       |cons d r'=>
        cases q with
        |zero=>simp at a
        |succ q=>simpa using a
      rw[if_neg b,if_neg hc2]
theorem T_cut:∀(m:Nat) (l:List UInt8) (p:Nat) (L:List Tk),l.length≤m→Lx.T l p= .ok L→∀(k:Nat) (a:Tk),L[k]? =some a→k+1<L.length→p≤a.pos∧a.pos-p≤l.length∧Lx.T (l.take (a.pos-p)) p= .ok (L.take k++ [⟨0,[],a.pos⟩])
 |0,l,p,L,hl,h,k,a,ha,hk=>by
  obtain rfl:l= []:=eq_nil_of_length_eq_zero (by omega)
  rw[Lx.T_end [] p rfl]at h
  cases h
  simp at hk
 |m+1,l,p,L,hl,h,k,a,ha,hk=>by
  cases hd:l.drop (Lx.skipN false l)with
  |nil=>
   rw[Lx.T_end l p hd]at h
   cases h
   simp at hk
  |cons c r=>
   have g:(c::r).length=l.length-Lx.skipN false l:=by rw[←hd,length_drop]
   have x:(c::r).length=r.length+1:=rfl
   cases b:Lx.tokL (c::r)with
   |bad e'=>rw[Lx.T_bad l p c r e' hd b]at h;cases h
   |tok kd y n=>
    have C:=Lx.tok_bound c r kd y n b
    rw[Lx.T_tok l p c r kd y n hd b]at h
    cases hz:Lx.T ((c::r).drop n) (p+Lx.skipN false l+n)with
    |bad x' e'=>rw[hz]at h;cases h
    |ok z=>
     rw[hz]at h
     have t:L=⟨kd,y,p+Lx.skipN false l⟩::z:=by cases h;rfl
     subst t
     cases k with
     |zero=>
      simp only[getElem?_cons_zero,Option.some.injEq]at ha
      subst ha
      refine⟨by show p≤p+_;omega,by show p+_-p≤_;omega,?_⟩
      show Lx.T (l.take (p+Lx.skipN false l-p)) p=_
      rw[Nat.add_sub_cancel_left]
      have e:Lx.skipN false (l.take (Lx.skipN false l))=Lx.skipN false l:=sl false l _ (Nat.le_refl _) (fun _=> .inl rfl) (fun e=>by cases e)
      rw[Lx.T_end _ p (by rw[e];exact drop_of_length_le (by rw[length_take];omega)),e]
      rfl
     |succ k=>
      simp only[getElem?_cons_succ]at ha
      simp only[length_cons]at hk
      have u:((c::r).drop n).length=(c::r).length-n:=length_drop
      obtain⟨A,B,s⟩:=T_cut m _ _ z (by omega) hz k a ha (by omega)
      refine⟨by omega,by omega,?_⟩
      obtain⟨j,w⟩:∃j,a.pos-p=Lx.skipN false l+(j+1):=⟨a.pos-p-Lx.skipN false l-1,by omega⟩
      have f:Lx.skipN false (l.take (a.pos-p))=Lx.skipN false l:=sl false l _ (by omega) (fun _=> .inr (by omega)) (fun e=>by cases e)
      have i:(l.take (a.pos-p)).drop (Lx.skipN false (l.take (a.pos-p)))=c::r.take j:=by
       rw[f,List.drop_take,hd,w,Nat.add_sub_cancel_left,take_succ_cons]
      rw[Lx.T_tok _ p c (r.take j) kd y n i (tok_take c r kd y n j b (by omega)),f]
      have o:(c::r.take j).drop n=((c::r).drop n).take (a.pos- (p+Lx.skipN false l+n)):=by
       have:c::r.take j=(c::r).take (j+1):=(take_succ_cons).symm
       rw[this,List.drop_take]
       congr 1
       omega
      rw[o,s]
      rfl
theorem dep_any {l:List Ex} :(l.any fun e=>decide (50<e.depth))=decide (50<aJ l):=by
 induction l with
 |nil=>rfl
 |cons e l ih=>
  rw[any_cons,ih,aJ,Bool.eq_iff_iff]
  simp only[Bool.or_eq_true,decide_eq_true_eq]
  omega
theorem large_bs {c f:St} (h:BS c f) (a:largeB f.all=false):largeB c.all=false:=by
 unfold largeB at a ⊢
 rw[dep_any]at a ⊢
 simp only[Bool.or_eq_false_iff,decide_eq_false_iff_not]at a ⊢
 have:=h.nd
 have:=h.dp
 omega
theorem cut_law {s:St} (h:validS s=0) {L:List Tk} (f:Lx.tokAll s.body= .ok L) {k:Nat} {a:Tk} (ha:L[k]? =some a) (B:k+1<L.length) {t:BA} (I:t.data.toList=s.body.data.toList.take a.pos) (hp:a.pos≤s.body.size):
  ((parS validS t).2.1=0∧(parS validS t).2.2=0)∨((parS validS t).2.1=t.size∧(parS validS t).2.2=2):=by
 obtain⟨W,o,Y⟩:=kj h
 obtain⟨ts,O,G⟩:=tR o Y
 have g:L=ts++ [⟨0,[],s.body.size⟩]:=by rw[f]at G;cases G;rfl
 have C:t.size=a.pos:=by
  have w:t.data.toList.length=t.size:=Array.length_toList
  have p:s.body.data.toList.length=s.body.size:=Array.length_toList
  rw[←w,I,length_take]
  omega
 have hT:Lx.T s.body.data.toList 0= .ok L:=by
  unfold Lx.tokAll at f
  rw[if_neg (by omega)]at f
  exact f
 obtain⟨_,_,c3⟩:=T_cut _ _ 0 L (Nat.le_refl _) hT k a ha B
 have ac:k<ts.length:=by rw[g]at B;simp at B;omega
 have Q:L.take k=ts.take k:=by rw[g,take_append_of_le_length (by omega)]
 have hcut:Lx.tokAll t= .ok (ts.take k++ [⟨0,[],t.size⟩]):=by
  unfold Lx.tokAll
  rw[if_neg (by omega),I]
  rw[Q,Nat.sub_zero]at c3
  rw[c3,C]
 have l:(ts.take k++ [(⟨0,[],t.size⟩:Tk)]).length=k+1:=by
  rw[length_append,length_take,length_singleton]
  omega
 have j:=qH (n:=(ts++ [(⟨0,[],s.body.size⟩:Tk)]).length+1) (R:= [⟨0,[],s.body.size⟩]) o O (by simp;omega) (tT s.body.size [])
 have V:ts++ [(⟨0,[],s.body.size⟩:Tk)]=ts.take k++(ts.drop k++ [⟨0,[],s.body.size⟩]):=by rw[←append_assoc,take_append_drop]
 have U:(ts++ [(⟨0,[],s.body.size⟩:Tk)]).length+1=(k+1)+(ts.length-k)+1:=by simp;omega
 have F:∀x∈ts.take k,Okk x:=fun x u=>by
  have m:x∈ts:=List.mem_of_mem_take u
  have D:x∈L:=by rw[g];exact List.mem_append_left _ m
  have hg:=gt_of f x D
  refine⟨fun Z=>?_,fun w p=>?_⟩
  ·have e:=gS f
   obtain⟨i,hi⟩:=getElem?_of_mem m
   have y:=(List.getElem?_eq_some_iff.1 hi).1
   have:=(e.last i x (by rw[g,getElem?_append_left y];exact hi)).1 Z
   rw[g]at this
   simp at this
   omega
  ·have hn:=hg.nm w
   have hz:(tkB x).size=0:=by simp[tkB,ByteArray.size,p]
   have:=nm_ne hn
   have h4:N (tkB x)= []:=eq_nil_of_length_eq_zero (by rw[N_len];exact hz)
   rw[gc,h4]at this
   cases this
 have P:=pf_stm (z:=⟨0,[],t.size⟩) rfl (X:=ts.drop k++ [⟨0,[],s.body.size⟩]) (k+1) (ts.length-k) (ts.take k) false (by rw[length_take];omega) F
 rw[←U,←V,j]at P
 unfold parS
 rw[hcut]
 simp only
 rw[l]
 rcases P with ⟨A,b,n1,_,_,_,p2,_⟩|⟨p1,p2⟩
 ·exfalso
  have: [(⟨0,[],s.body.size⟩:Tk)]=A++(ts.drop k++ [⟨0,[],s.body.size⟩]):=congrArg Ps.r p2
  have p:=congrArg List.length this
  simp only[length_append,length_singleton,length_drop]at p
  have:0<A.length:=List.length_pos_iff.2 n1
  omega
 ·have J:=oJ hcut (n:=k+1+1) (by omega)
  obtain⟨x,u⟩:∃x,stmP (k+1+1) ⟨ts.take k++ [⟨0,[],t.size⟩],false⟩=x:=⟨_,rfl⟩
  rw[u]at p1 p2 J
  have E:eM (stmP (k+1+1)) (ts.take k++ [⟨0,[],t.size⟩])=if x.2.bad=true then .inl t.size else .inr x.1:=by
   unfold eM
   rw[u]
   obtain⟨v,r,b⟩:=x
   simp only at p1
   subst p1
   cases b with
   |true=>rw[end_bad rfl];rfl
   |false=>rfl
  rw[E]
  cases H:x.2.bad with
  |true=>rw[if_pos rfl];exact .inr ⟨rfl,rfl⟩
  |false=>
   rw[if_neg (by simp)]
   dsimp only
   have bs:=p2 H rfl
   have hv:validS x.1=0:=vS (large_bs bs (by rw[r8 o];exact W)) (J H) (by have:=bs.bd;rw[vR o]at this;omega)
   rw[if_pos hv]
   exact .inl ⟨rfl,rfl⟩
end
end Go.Proofs.YtjigcpfjhfoheaaGreatDoor
