/- The parser reads the tokens of a well-formed expression as that expression: the proof; The parser reads the tokens of a well-formed expression as that expression, apart from indexes; The canonical text of a well-formed expression . -/
import Derived.Test.YtjigcpfjhfoheaaGreatDoorRcb
import Derived.Test.YtjigcpfjhfoheaaGreatDoorRba
namespace Go.Proofs.YtjigcpfjhfoheaaGreatDoor
open Go.RowKit
set_option maxHeartbeats 1000000
set_option maxRecDepth 100000
set_option linter.unusedVariables false
set_option linter.unusedSimpArgs false
section
open Lx (Tk isDigit isLetter inWord spanN isPrint)
theorem isS_eq {k:Nat} {x:List UInt8} (f:k=2∨k=5) (t:ByteArray) {a:Tk} (h:er a=(k,x)) (R:List Tk):isS t ⟨a::R,false⟩=decide (t.data.toList=x):=by
 by_cases b:t.data.toList=x
 ·subst b
  rw[cG f t h R,decide_eq_true rfl]
 ·rw[dR t h (.inr fun e=>b e.symm) R,decide_eq_false b]
theorem gw {k:Nat} {x:List UInt8} (b:k=2∨k=5) {z:Tk} (h:er z=(k,x)) (R:List Tk):∀ops:List (ByteArray×Int),
  firstP ops ⟨z::R,false⟩=(match ops.find? (fun y=>decide (y.1.data.toList=x))with|some y=> (some y.2,⟨R,false⟩)|none=> (none,⟨z::R,false⟩))
 | []=>rfl
 |(t,o)::l=>by
  rw[firstP,isS_eq b t h R,List.find?_cons]
  by_cases a:t.data.toList=x
  ·rw[if_pos (by simpa using a)]
   simp only[a,decide_true]
   rfl
  ·rw[if_neg (by simpa using a),gw b h R l]
   simp only[a,decide_false]
theorem need_at {k:Nat} (b:k=2∨k=5) (t:ByteArray) {a:Tk} (h:er a=(k,t.data.toList)) (R:List Tk):needP t ⟨a::R,false⟩=⟨R,false⟩:=by
 unfold needP
 rw[cG b t h R,if_pos rfl]
 rfl
theorem opt_at {k:Nat} {x:List UInt8} (b:k=2∨k=5) (t:ByteArray) {a:Tk} (h:er a=(k,x)) (e:t.data.toList≠x) (R:List Tk):optP t ⟨a::R,false⟩=⟨a::R,false⟩:=by
 unfold optP
 rw[isS_eq b t h R,decide_eq_false e,if_neg (by simp)]
theorem tak_at {k:Nat} {x:List UInt8} {a:Tk} (h:er a=(k,x)) (R:List Tk):takP k ⟨a::R,false⟩=(⟨x.toArray⟩,⟨R,false⟩):=by
 unfold takP
 rw[cm h,if_pos (by simp),tkB_at h]
 rfl
def Ex.q (e:Ex):Nat:=(lvl e.d.op).toNat
theorem fj (op:Int):1≤lvl op∧lvl op≤8:=by
 unfold lvl
 repeat' split
 all_goals omega
theorem ot (e:Ex):(e.q:Int)=lvl e.d.op:=by
 have:=fj e.d.op
 unfold Ex.q
 omega
theorem tk_low {e:Ex} {r:Nat} (h:r≤e.q):e.tk r=e.tkp:=by
 have:=ot e
 unfold Ex.tk brK
 rw[if_neg (by omega)]
theorem tk_high {e:Ex} {r:Nat} (h:e.q<r):e.tk r=(5,[40])::(e.tkp++ [(5,[41])]):=by
 have:=ot e
 unfold Ex.tk brK
 rw[if_pos (by omega)]
def RdM (e:Ex):Prop:=∀(n:Nat) (ts R:List Tk),ts.map er=e.tkp→ts.length≤n→(⟨R,false⟩:Ps).c≤e.q→(e.q=4→(⟨R,false⟩:Ps).c≠4)→
 lvM (aD (exprP n)) e.q ⟨ts++R,false⟩=cnt (aD (exprP n)) e.q e.st0 ⟨R,false⟩
def RdA (e:Ex):Prop:=∀(r n:Nat) (ts R:List Tk),1≤r→r≤8→ts.map er=e.tk r→ts.length≤n→(⟨R,false⟩:Ps).c≤r→(r=4→(⟨R,false⟩:Ps).c≠4)→
 lvM (aD (exprP n)) r ⟨ts++R,false⟩=cnt (aD (exprP n)) r e.st0 ⟨R,false⟩
theorem kids1 {d:Nd} {ks:List Ex} (h:opN d.op=1) (e:(Ex.mk d ks).formed=true):∃a,ks= [a]∧a.formed=true:=by
 obtain⟨f,b,g⟩:=aB e
 obtain⟨a,rfl⟩:∃a,ks= [a]:=List.length_eq_one_iff.1 (by omega)
 exact⟨a,rfl,b a (by simp)⟩
theorem kids2 {d:Nd} {ks:List Ex} (h:opN d.op=2) (f:(Ex.mk d ks).formed=true):∃a b,ks= [a,b]∧a.formed=true∧b.formed=true:=by
 obtain⟨g,e,i⟩:=aB f
 obtain⟨a,b,rfl⟩:∃a b,ks= [a,b]:=by
  have:ks.length=2:=by omega
  match ks,this with
  | [a,b],_=>exact⟨a,b,rfl⟩
 exact⟨a,b,rfl,e a (by simp),e b (by simp)⟩
theorem op_st0 {d:Nd} {ks:List Ex} (g:d.op≠1) (h:d.op≠2) (j:(Ex.mk d ks).formed=true):(Ex.mk d ks).st0=opE d.op (iF ks):=by
 obtain⟨_,_,a⟩:=aB j
 have i:d.tb.size=0∧d.nm.size=0∧d.valZ=true:=by
  unfold ndB at a
  rw[if_neg h,if_neg g]at a
  split at a
  ·cases a
  ·simpa[and_assoc] using a
 obtain⟨op,tb,nm,ix,vk,vi,vt⟩:=d
 obtain⟨e,f,b⟩:=i
 unfold Nd.valZ at b
 simp only[Bool.and_eq_true,beq_iff_eq]at e f b
 obtain⟨⟨rfl,rfl⟩,b⟩:=b
 rw[Ex.st0,cY e,cY f,cY b]
 rfl
def NtK (k:Kt):Prop:=(k.1=2∨k.1=5)→k.2≠[78,79,84]
def NmK (k:Kt):Prop:=(k.1=2∨k.1=5)→k.2≠[45]
theorem gx {k:Nat} {x:List UInt8} (h:k=1∨k=3∨k=4):NtK (k,x)∧NmK (k,x):=⟨fun e=>by simp only at e;omega,fun e=>by simp only at e;omega⟩
theorem hd_tk:∀e:Ex,e.formed=true→∀r:Int,3<r→∃k K,e.tk r=k::K∧NtK k∧(7<r→NmK k):=by
 intro e
 induction e using Ex.ind with
 |h d ks ih=>
  intro l r w
  obtain⟨p,s,t⟩:=aB l
  unfold Ex.tk brK
  split
  ·exact⟨_,_,rfl,fun _=>by decide,fun _ _=>by decide⟩
  ·next hl=>
   have f:¬lvl d.op<r:=hl
   have o:=fj d.op
   rw[Ex.tkp]
   rcases bL d.op with ⟨h0,h4⟩|⟨h0,h4⟩|⟨h0,h4⟩|h0
   ·unfold tkD
    simp only
    by_cases o1:d.op=1
    ·rw[if_pos o1]
     split
     ·exact⟨_,_,rfl,(gx (by omega)).1,fun _=> (gx (by omega)).2⟩
     ·split
      ·exact⟨_,_,rfl,(gx (by omega)).1,fun _=> (gx (by omega)).2⟩
      ·exact⟨_,_,rfl,fun _=>by decide,fun _ _=>by decide⟩
    ·rw[if_neg o1,if_pos (by omega)]
     split
     ·exact⟨_,_,rfl,(gx (by omega)).1,fun _=> (gx (by omega)).2⟩
     ·exact⟨_,_,rfl,(gx (by omega)).1,fun _=> (gx (by omega)).2⟩
   ·obtain⟨a,rfl,j⟩:=kids1 h0 l
    rcases h4 with h4|h4|h4|h4
    ·refine⟨(5,[45]),_,by unfold tkD;simp only;rw[if_neg (by omega),if_neg (by omega),if_pos h4],fun _=>by decide,fun h=>?_⟩
     rw[h4]at f
     exact absurd (show lvl 3=7 by decide) (by omega)
    ·exact⟨(2,[76,69,78,71,84,72]),_,by unfold tkD;simp only;rw[if_neg (by omega),if_neg (by omega),if_neg (by omega),if_pos h4],fun _=>by decide,fun _ _=>by decide⟩
    ·rw[h4]at f
     have:lvl 17=4:=by decide
     obtain⟨k,K,g,i,n⟩:=ih a (by simp) j 5 (by omega)
     refine⟨k,K++ [(2,[73,83]),(2,[78,85,76,76])],?_,i,fun h=>by omega⟩
     unfold tkD
     simp only
     rw[if_neg (by omega),if_neg (by omega),if_neg (by omega),if_neg (by omega),if_pos h4]
     show a.tk 5++_=_
     rw[g]
     rfl
    ·rw[h4]at f
     exact absurd (show lvl 20=3 by decide) (by omega)
   ·obtain⟨a,b,rfl,j,u⟩:=kids2 h0 l
    have m:3<(if lvl d.op=4 then 5 else lvl d.op):=by split<;>omega
    obtain⟨k,K,g,i,n⟩:=ih a (by simp) j _ m
    refine⟨k,K++sgK d.op::b.tk (lvl d.op+1),?_,i,fun h=>?_⟩
    ·unfold tkD
     simp only
     rw[if_neg (by omega),if_neg (by omega),if_neg (by omega),if_neg (by omega),if_neg (by omega),if_neg (by omega)]
     show a.tk _++_=_
     rw[g]
     rfl
    ·have:lvl d.op≤6:=by
      unfold lvl
      repeat' split
      all_goals omega
     omega
   ·omega
theorem ml {t:ByteArray} {k:Kt} {a:Tk} (h:er a=k) (e:(k.1=2∨k.1=5)→k.2≠t.data.toList) (R:List Tk):isS t ⟨a::R,false⟩=false:=by
 by_cases b:k.1=2∨k.1=5
 ·exact dR (k:=k.1) (x:=k.2) t h (.inr (e b)) R
 ·exact dR (k:=k.1) (x:=k.2) t h (.inl (by omega)) R
theorem rd_low {e:Ex} (o:e.formed=true) (H:RdM e) (r n:Nat) (ts R:List Tk) (s:1≤r) (B:r≤e.q) (b:ts.map er=e.tkp) (p:ts.length≤n) (m:(⟨R,false⟩:Ps).c≤r) (j:r=4→(⟨R,false⟩:Ps).c≠4):
  lvM (aD (exprP n)) r ⟨ts++R,false⟩=cnt (aD (exprP n)) r e.st0 ⟨R,false⟩:=by
 have A:=fj e.d.op
 have x:=ot e
 by_cases w:r=e.q
 ·subst w
  exact H n ts R b p m j
 ·have l:=H n ts R b p (by omega) (fun g=>by omega)
  rw[ca _ (by omega)]at l
  refine lv_from (ff (cK n)) s (by omega) (by omega) l m j (fun z u=>?_) (fun u=>?_)
  ·obtain⟨k,K,f,h,i⟩:=hd_tk e o e.q (by omega)
   rw[tk_low (Nat.le_refl _),←b]at f
   obtain⟨a,y,rfl,g,_⟩:=List.map_eq_cons_iff.1 f
   exact ml (t:=kNOT) g h _
  ·obtain⟨k,K,f,h,i⟩:=hd_tk e o e.q (by omega)
   rw[tk_low (Nat.le_refl _),←b]at f
   obtain⟨a,y,rfl,g,_⟩:=List.map_eq_cons_iff.1 f
   exact ml (t:=du) g (i (by omega)) _
theorem rd_brk {e:Ex} (k:e.formed=true) (H:RdM e) (n:Nat) (a z:Tk) (b R:List Tk) (f:er a=(5,[40])) (i:er z=(5,[41])) (g:b.map er=e.tkp) (o:b.length+1≤n):
  aD (exprP n) ⟨a::(b++z::R),false⟩=(e.st0,⟨R,false⟩):=by
 obtain⟨m,rfl⟩:∃m,n=m+1:=⟨n-1,by omega⟩
 have p:=fj e.d.op
 have l:=ot e
 have j:=rd_low k H 1 m b (z::R) (by omega) (by omega) g (by omega) (by rw[j4 i];decide) (fun h=>by omega)
 rw[ca _ (by rw[j4 i];decide)]at j
 unfold aD
 rw[cm f,cm f,isS_eq (.inr rfl) _ f,isS_eq (.inr rfl) _ f,isS_eq (.inr rfl) _ f]
 rw[if_neg (by decide),if_neg (by decide),if_neg (by decide),if_neg (by decide),if_pos (by decide),next_at]
 show((lvM (aD (exprP m)) 1 ⟨b++z::R,false⟩).1,needP yRp (lvM (aD (exprP m)) 1 ⟨b++z::R,false⟩).2)=_
 rw[j,need_at (.inr rfl) yRp i]
theorem rd_at {e:Ex} (k:e.formed=true) (H:RdM e):RdA e:=by
 intro r n ts R g A b l j h
 by_cases m:r≤e.q
 ·rw[tk_low m]at b
  exact rd_low k H r n ts R g m b l j h
 ·rw[tk_high (by omega)]at b
  obtain⟨a,B,rfl,f,p⟩:=List.map_eq_cons_iff.1 b
  obtain⟨o,C,rfl,s,t⟩:=List.map_eq_append_iff.1 p
  obtain⟨z,y,rfl,u,w⟩:=List.map_eq_cons_iff.1 t
  obtain rfl:=List.map_eq_nil_iff.1 w
  simp only[List.length_cons,List.length_append,List.length_nil]at l
  have i:lvM (aD (exprP n)) 8 ⟨a::(o++ [z])++R,false⟩=(e.st0,⟨R,false⟩):=by
   show aD (exprP n) _=_
   have:=rd_brk k H n a z o R f u s (by omega)
   simpa using this
  by_cases x:r=8
  ·subst x
   exact i
  ·refine lv_from (ff (cK n)) g (by omega) (by omega) i j h (fun _ _=>?_) (fun _=>?_)
   ·exact dR kNOT f (.inr (by decide)) _
   ·exact dR du f (.inr (by decide)) _
theorem find_sg {op:Int} (h:4≤op∧op≤8∨10≤op∧op≤15∨op=18∨op=19):
  (lvl op=1→opsOr.find? (fun y=>decide (y.1.data.toList=(sgK op).2))=some (kOR,op))∧(lvl op=2→(opsAnd.find? (fun y=>decide (y.1.data.toList=(sgK op).2))).map (·.2)=some op)∧
  (lvl op=4→(opsCmp.find? (fun y=>decide (y.1.data.toList=(sgK op).2))).map (·.2)=some op)∧(lvl op=5→(opsSum.find? (fun y=>decide (y.1.data.toList=(sgK op).2))).map (·.2)=some op)∧
  (lvl op=6→(opsPro.find? (fun y=>decide (y.1.data.toList=(sgK op).2))).map (·.2)=some op):=by
 have:op=4∨op=5∨op=6∨op=7∨op=8∨op=10∨op=11∨op=12∨op=13∨op=14∨op=15∨op=18∨op=19:=by omega
 rcases this with rfl|rfl|rfl|rfl|rfl|rfl|rfl|rfl|rfl|rfl|rfl|rfl|rfl<;>decide
end
section
open Lx (Tk isDigit isLetter inWord spanN isPrint)
theorem aJ {ts:List Tk} {k:Kt} (h:ts.map er= [k]):∃a,ts= [a]∧er a=k:=by
 obtain⟨a,l,rfl,b,e⟩:=List.map_eq_cons_iff.1 h
 obtain rfl:=List.map_eq_nil_iff.1 e
 exact⟨a,rfl,b⟩
theorem aj {ts:List Tk} {k:Kt} {K:List Kt} (h:ts.map er=k::K):∃a b,ts=a::b∧er a=k∧b.map er=K:=by
 obtain⟨a,l,e,f,g⟩:=List.map_eq_cons_iff.1 h
 exact⟨a,l,e,f,g⟩
theorem aZ {ts:List Tk} {K H:List Kt} (h:ts.map er=K++H):∃b e,ts=b++e∧b.map er=K∧e.map er=H:=by
 obtain⟨a,l,f,g,i⟩:=List.map_eq_append_iff.1 h
 exact⟨a,l,f,g,i⟩
theorem q_of (d:Nd) (ks:List Ex) {v:Int} (h:lvl d.op=v):(Ex.mk d ks).q=v.toNat:=by unfold Ex.q;show(lvl d.op).toNat=_;rw[h]
theorem rd_leaf {d:Nd} {ks:List Ex} (y:(Ex.mk d ks).formed=true) (B:opN d.op=0):RdM (.mk d ks):=by
 intro n ts R f F m _
 obtain⟨C,D,j⟩:=aB y
 obtain rfl:ks= []:=List.eq_nil_of_length_eq_zero (by omega)
 have p:d.op=1∨d.op=2:=by rcases bL d.op with ⟨_,h⟩|⟨h,_⟩|⟨h,_⟩|h<;>omega
 have z:(Ex.mk d []).q=8:=q_of d [] (v:=8) (by rcases p with h|h<;>rw[h] <;>decide)
 rw[z]at m ⊢
 show aD (exprP n) ⟨ts++R,false⟩=((Ex.mk d []).st0,⟨R,false⟩)
 rw[Ex.st0,iF]
 rw[Ex.tkp]at f
 unfold tkD at f
 simp only at f
 obtain⟨op,tb,nm,ix,vk,vi,vt⟩:=d
 simp only at p f j ⊢
 unfold ndB at j
 simp only at j
 rcases p with rfl|rfl
 ·rw[if_neg (by decide),if_pos rfl]at j
  rw[if_pos rfl]at f
  simp only[Bool.and_eq_true,beq_iff_eq]at j
  obtain⟨⟨u,w⟩,i⟩:=j
  obtain rfl:=cY u
  obtain rfl:=cY w
  unfold Nd.litB at i
  simp only at i
  split at i
  ·next hv=>
   subst hv
   simp only[Bool.and_eq_true,beq_iff_eq]at i
   obtain⟨rfl,k⟩:=i
   obtain rfl:=cY k
   rw[if_neg (by decide),if_neg (by decide)]at f
   obtain⟨a,rfl,g⟩:=aJ f
   unfold aD
   rw[List.singleton_append,cm g,cm g,isS_eq (.inl rfl) _ g,if_neg (by decide),if_neg (by decide),if_pos (by decide)]
   rfl
  ·split at i
   ·next hv=>
    subst hv
    simp only[Bool.and_eq_true,beq_iff_eq,decide_eq_true_eq]at i
    obtain⟨⟨k,E⟩,l⟩:=i
    obtain rfl:=cY l
    rw[if_pos rfl]at f
    obtain⟨a,rfl,g⟩:=aJ f
    unfold aD
    rw[List.singleton_append,cm g,if_pos (by decide)]
    unfold numP
    rw[tak_at g]
    simp only
    rw[bS,mj k]
    rfl
   ·split at i
    ·next hv=>
     subst hv
     simp only[Bool.and_eq_true,beq_iff_eq]at i
     obtain⟨rfl,k⟩:=i
     rw[if_neg (by decide),if_pos rfl]at f
     obtain⟨a,rfl,g⟩:=aJ f
     unfold aD
     rw[List.singleton_append,cm g,cm g,if_neg (by decide),if_pos (by decide),tak_at g]
     simp only
     rw[bS]
     rfl
    ·cases i
 ·rw[if_pos rfl]at j
  rw[if_neg (by decide),if_pos rfl]at f
  simp only[Bool.and_eq_true,Bool.or_eq_true,beq_iff_eq]at j
  obtain⟨⟨u,w⟩,i⟩:=j
  unfold Nd.valZ at i
  simp only[Bool.and_eq_true,beq_iff_eq]at i
  obtain⟨⟨rfl,rfl⟩,k⟩:=i
  obtain rfl:=cY k
  by_cases r:tb.size=0
  ·rw[if_pos r]at f
   obtain rfl:=cY r
   obtain⟨a,rfl,g⟩:=aJ f
   have hs:∀t,isS t ⟨a::R,false⟩=false:=fun t=>dR t g (.inl (by omega)) R
   unfold aD
   rw[List.singleton_append,cm g,cm g,hs,hs,hs,if_neg (by decide),if_neg (by decide),if_neg (by decide),if_neg (by decide),if_neg (by decide)]
   unfold eS
   rw[tak_at g]
   simp only
   rw[kM (t:=yDot) (s:=⟨R,false⟩) (fun e=>by rw[e]at m;revert m;decide),if_neg (by simp),bS]
   rfl
  ·rw[if_neg r]at f
   obtain⟨a,A,rfl,g,f⟩:=aj f
   obtain⟨b,A,rfl,x,f⟩:=aj f
   obtain⟨c,rfl,o⟩:=aJ f
   have hs:∀t,isS t ⟨a::b::c::R,false⟩=false:=fun t=>dR t g (.inl (by omega)) _
   unfold aD
   rw[List.cons_append,List.cons_append,List.singleton_append,cm g,cm g,hs,hs,hs,if_neg (by decide),if_neg (by decide),if_neg (by decide),if_neg (by decide),if_neg (by decide)]
   unfold eS
   rw[tak_at g]
   simp only
   rw[isS_eq (.inr rfl) yDot x,if_pos (by decide),next_at,tak_at o]
   simp only
   rw[bS,bS]
   rfl
theorem rd_one {d:Nd} {a:Ex} (D:(Ex.mk d [a]).formed=true) (F:opN d.op=1) (C:a.formed=true) (H:RdM a):RdM (.mk d [a]):=by
 intro n ts R f w t G
 have u:=rd_at C H
 have i:d.op=3∨d.op=9∨d.op=17∨d.op=20:=by rcases bL d.op with ⟨h,_⟩|⟨_,h⟩|⟨h,_⟩|h<;>omega
 rw[op_st0 (by omega) (by omega) D]
 simp only[iF]
 rw[Ex.tkp]at f
 unfold tkD at f
 simp only[tkpL,List.getD_cons_zero]at f
 rcases i with i|i|i|i
 ·have o:(Ex.mk d [a]).q=7:=q_of d [a] (v:=7) (by rw[i];decide)
  rw[o]at t ⊢
  rw[if_neg (by omega),if_neg (by omega),if_pos i]at f
  obtain⟨b,g,rfl,j,f⟩:=aj f
  simp only[List.length_cons]at w
  have k:=u 8 n g R (by omega) (by omega) f (by omega) (by omega) (fun h=>by omega)
  show dL (aD (exprP n)) ⟨b::g++R,false⟩=(opE d.op [a.st0],⟨R,false⟩)
  unfold dL
  rw[List.cons_append,isS_eq (.inr rfl) du j,if_pos (by decide),next_at,i]
  have l:aD (exprP n) ⟨g++R,false⟩=(a.st0,⟨R,false⟩):=k
  rw[l]
 ·have o:(Ex.mk d [a]).q=8:=q_of d [a] (v:=8) (by rw[i];decide)
  rw[o]at t ⊢
  rw[if_neg (by omega),if_neg (by omega),if_neg (by omega),if_pos i]at f
  obtain⟨b,g,rfl,j,f⟩:=aj f
  obtain⟨c,g,rfl,x,f⟩:=aj f
  obtain⟨g,E,rfl,p,s⟩:=aZ f
  obtain⟨z,rfl,r⟩:=aJ s
  simp only[List.length_cons,List.length_append,List.length_nil]at w
  obtain⟨m,rfl⟩:∃m,n=m+1:=⟨n-1,by omega⟩
  have k:=u 1 m g (z::R) (by omega) (by omega) p (by omega) (by rw[j4 r];decide) (fun h=>by omega)
  rw[ca _ (by rw[j4 r];decide)]at k
  have l:exprP (m+1) ⟨g++z::R,false⟩=(a.st0,⟨z::R,false⟩):=k
  show aD (exprP (m+1)) ⟨b::c::(g++ [z])++R,false⟩=(opE d.op [a.st0],⟨R,false⟩)
  have e:b::c::(g++ [z])++R=b::c::(g++z::R):=by simp
  rw[e]
  unfold aD
  rw[cm j,cm j,isS_eq (.inl rfl) kNULL j,isS_eq (.inl rfl) nN j,if_neg (by decide),if_neg (by decide),if_neg (by decide),if_pos (by decide),next_at,need_at (.inr rfl) yLp x,l]
  simp only
  rw[need_at (.inr rfl) yRp r,i]
 ·have o:(Ex.mk d [a]).q=4:=q_of d [a] (v:=4) (by rw[i];decide)
  rw[o]at t ⊢
  rw[if_neg (by omega),if_neg (by omega),if_neg (by omega),if_neg (by omega),if_pos i]at f
  obtain⟨g,E,rfl,p,s⟩:=aZ f
  obtain⟨b,I,rfl,j,A⟩:=aj s
  obtain⟨z,rfl,r⟩:=aJ A
  simp only[List.length_cons,List.length_append,List.length_nil]at w
  have k:=u 5 n g (b::z::R) (by omega) (by omega) p (by omega) (by rw[j4 j];decide) (fun h=>by omega)
  rw[ca _ (by rw[j4 j];decide)]at k
  have l:sumP (aD (exprP n)) ⟨g++b::z::R,false⟩=(a.st0,⟨b::z::R,false⟩):=k
  show testP (aD (exprP n)) ⟨g++ [b,z]++R,false⟩=(opE d.op [a.st0],⟨R,false⟩)
  have e:g++ [b,z]++R=g++b::z::R:=by simp
  rw[e]
  unfold testP
  rw[l]
  unfold de
  rw[gw (.inl rfl) j]
  have B:opsCmp.find? (fun y=>decide (y.1.data.toList= [73,83]))=none:=by decide
  rw[B]
  simp only
  rw[isS_eq (.inl rfl) kIS j,if_pos (by decide),next_at,isS_eq (.inl rfl) kNOT r,opt_at (.inl rfl) kNOT r (by decide),need_at (.inl rfl) kNULL r,i]
  rfl
 ·have o:(Ex.mk d [a]).q=3:=q_of d [a] (v:=3) (by rw[i];decide)
  rw[o]at t ⊢
  rw[if_neg (by omega),if_neg (by omega),if_neg (by omega),if_neg (by omega),if_neg (by omega),if_pos i]at f
  obtain⟨b,g,rfl,j,f⟩:=aj f
  simp only[List.length_cons]at w
  have k:=u 3 n g R (by omega) (by omega) f (by omega) t (fun h=>by omega)
  have l:notP (aD (exprP n)) ⟨g++R,false⟩=(a.st0,⟨R,false⟩):=k
  show notP (aD (exprP n)) ⟨b::g++R,false⟩=(opE d.op [a.st0],⟨R,false⟩)
  rw[List.cons_append,notP_not (ff (cK n)) (cG (.inl rfl) kNOT j _),next_at,l,i]
theorem sg_c {op:Int} (h:4≤op∧op≤8∨10≤op∧op≤16∨op=18∨op=19):((sgK op).1=2∨(sgK op).1=5)∧((ctl (sgK op):Nat):Int)=lvl op∧(lvl op=1∨lvl op=2∨lvl op=4∨lvl op=5∨lvl op=6):=by
 have:op=4∨op=5∨op=6∨op=7∨op=8∨op=10∨op=11∨op=12∨op=13∨op=14∨op=15∨op=16∨op=18∨op=19:=by omega
 rcases this with rfl|rfl|rfl|rfl|rfl|rfl|rfl|rfl|rfl|rfl|rfl|rfl|rfl|rfl<;>decide
theorem gz {op:Int} {z:Tk} (e:er z=sgK op) (b:(sgK op).1=2∨(sgK op).1=5) {ops:List (ByteArray×Int)} (h:(ops.find? (fun y=>decide (y.1.data.toList=(sgK op).2))).map (·.2)=some op) (R:List Tk):firstP ops ⟨z::R,false⟩=(some op,⟨R,false⟩):=by
 rw[gw (k:=(sgK op).1) (x:=(sgK op).2) b e R ops]
 cases a:ops.find? (fun y=>decide (y.1.data.toList=(sgK op).2))with
 |none=>rw[a]at h;cases h
 |some y=>
  rw[a]at h
  simp only[Option.map_some,Option.some.injEq]at h
  simp only[h]
theorem rd_two {d:Nd} {a b:Ex} (hf:(Ex.mk d [a,b]).formed=true) (h0:opN d.op=2) (ha:a.formed=true) (hb:b.formed=true) (H:RdM a) (K:RdM b):RdM (.mk d [a,b]):=by
 intro n ts R s hn hc h4
 have C:=rd_at ha H
 have D:=rd_at hb K
 have ho:4≤d.op∧d.op≤8∨10≤d.op∧d.op≤16∨d.op=18∨d.op=19:=by rcases bL d.op with ⟨h,_⟩|⟨h,_⟩|⟨_,h⟩|h<;>omega
 obtain⟨G,X,Y⟩:=sg_c ho
 have Z:=op_st0 (by omega) (by omega) hf
 rw[Z]
 simp only[iF]
 rw[Ex.tkp]at s
 unfold tkD at s
 simp only[tkpL,List.getD_cons_zero,List.getD_cons_succ]at s
 rw[if_neg (by omega),if_neg (by omega),if_neg (by omega),if_neg (by omega),if_neg (by omega),if_neg (by omega)]at s
 obtain⟨A,zs,rfl,l,ad⟩:=aZ s
 obtain⟨z,f,rfl,B,i⟩:=aj ad
 simp only[List.length_cons,List.length_append]at hn
 have e:A++z::f++R=A++z::(f++R):=by simp
 rw[e]
 have m:(⟨z::(f++R),false⟩:Ps).c=ctl (sgK d.op):=j4 (k:=(sgK d.op).1) (x:=(sgK d.op).2) B _ _
 have I:=fun r=>oq (ff (cK n)) r
 have E:=fun (h:4≤d.op∧d.op≤8∨10≤d.op∧d.op≤15∨d.op=18∨d.op=19)=>find_sg h
 rcases Y with hl|hl|hl|hl|hl
 all_goals
  rw[hl]at X l i
  have hq:=q_of d [a,b] hl
  simp only[Int.toNat]at hq
  rw[hq]at hc h4 ⊢
 ·have u:=C 1 n A (z::(f++R)) (by omega) (by omega) l (by omega) (by rw[m];omega) (fun h=>by omega)
  have j:=D 2 n f R (by omega) (by omega) i (by omega) (by omega) (fun h=>by omega)
  rw[ca _ (by omega)]at j
  have g:d.op≠16:=by intro h;rw[h]at hl;revert hl;decide
  have w:=gz B G (ops:=opsOr) (by rw[(E (by omega)).1 hl];rfl) (f++R)
  rw[u]
  show chC (lvM (aD (exprP n)) 2) opsOr _ _=chC (lvM (aD (exprP n)) 2) opsOr _ _
  rw[jq (I 2) w,j]
 ·have u:=C 2 n A (z::(f++R)) (by omega) (by omega) l (by omega) (by rw[m];omega) (fun h=>by omega)
  have j:=D 3 n f R (by omega) (by omega) i (by omega) (by omega) (fun h=>by omega)
  rw[ca _ (by omega)]at j
  have g:d.op≠16:=by intro h;rw[h]at hl;revert hl;decide
  have w:=gz B G ((E (by omega)).2.1 hl) (f++R)
  rw[u]
  show chC (lvM (aD (exprP n)) 3) opsAnd _ _=chC (lvM (aD (exprP n)) 3) opsAnd _ _
  rw[jq (I 3) w,j]
 ·have u:=C 5 n A (z::(f++R)) (by omega) (by omega) l (by omega) (by rw[m];omega) (fun h=>by omega)
  rw[ca _ (by rw[m];omega)]at u
  have P:sumP (aD (exprP n)) ⟨A++z::(f++R),false⟩=(a.st0,⟨z::(f++R),false⟩):=u
  show testP (aD (exprP n)) _=(_,_)
  unfold testP
  rw[P]
  by_cases g:d.op=16
  ·
   obtain⟨_,_,J⟩:=aB hf
   have F:b.d.op=1∧b.d.vk=2:=by
    unfold ndB at J
    rw[if_neg (by omega),if_neg (by omega)]at J
    split at J
    ·cases J
    ·next hn2=>
     simp only[List.map_cons,List.map_nil,List.getD_cons_succ,List.getD_cons_zero]at hn2
     refine⟨?_,?_⟩
     ·apply Classical.byContradiction;intro h;exact hn2 ⟨g,.inl h⟩
     ·apply Classical.byContradiction;intro h;exact hn2 ⟨g,.inr h⟩
   obtain⟨⟨ax,a0,an,ag,a2,a1,O⟩,L⟩:=b
   simp only[Ex.d]at F
   obtain⟨rfl,rfl⟩:=F
   obtain⟨U,a3,o⟩:=aB hb
   obtain rfl:L= []:=List.eq_nil_of_length_eq_zero (by simp[opN]at U;omega)
   unfold ndB at o
   dsimp only at o
   rw[if_neg (show¬(1:Int)=2 by decide),if_pos rfl]at o
   simp only[Bool.and_eq_true,beq_iff_eq]at o
   obtain⟨⟨V,W⟩,p⟩:=o
   obtain rfl:=cY V
   obtain rfl:=cY W
   unfold Nd.litB at p
   dsimp only at p
   rw[if_neg (show¬(2:Int)=0 by decide),if_neg (show¬(2:Int)=1 by decide),if_pos rfl]at p
   simp only[Bool.and_eq_true,beq_iff_eq]at p
   obtain⟨rfl,_⟩:=p
   have ac:f.map er= [(4,O.data.toList)]:=by
    rw[i,Ex.tkp]
    rfl
   obtain⟨v,rfl,hv⟩:=aJ ac
   have t:er z=(2,[76,73,75,69]):=by rw[B,g];rfl
   unfold de
   rw[gw (.inl rfl) t]
   have e2:opsCmp.find? (fun y=>decide (y.1.data.toList= [76,73,75,69]))=none:=by decide
   rw[e2]
   simp only[List.singleton_append]
   rw[isS_eq (.inl rfl) kIS t,if_neg (by decide),opt_at (.inl rfl) kNOT t (by decide),isS_eq (.inl rfl) kLIKE t,if_pos (by decide),next_at,isS_eq (.inl rfl) kNOT t,tak_at hv]
   simp only
   rw[bS,g]
   rfl
  ·have j:=D 5 n f R (by omega) (by omega) i (by omega) (by omega) (fun h=>by omega)
   rw[ca _ (by omega)]at j
   have Q:sumP (aD (exprP n)) ⟨f++R,false⟩=(b.st0,⟨R,false⟩):=j
   have w:=gz B G ((E (by omega)).2.2.1 hl) (f++R)
   unfold de
   rw[w]
   simp only
   rw[Q]
 ·have u:=C 5 n A (z::(f++R)) (by omega) (by omega) l (by omega) (by rw[m];omega) (fun h=>by omega)
  have j:=D 6 n f R (by omega) (by omega) i (by omega) (by omega) (fun h=>by omega)
  rw[ca _ (by omega)]at j
  have g:d.op≠16:=by intro h;rw[h]at hl;revert hl;decide
  have w:=gz B G ((E (by omega)).2.2.2.1 hl) (f++R)
  rw[u]
  show chC (lvM (aD (exprP n)) 6) opsSum _ _=chC (lvM (aD (exprP n)) 6) opsSum _ _
  rw[jq (I 6) w,j]
 ·have u:=C 6 n A (z::(f++R)) (by omega) (by omega) l (by omega) (by rw[m];omega) (fun h=>by omega)
  have j:=D 7 n f R (by omega) (by omega) i (by omega) (by omega) (fun h=>by omega)
  rw[ca _ (by omega)]at j
  have g:d.op≠16:=by intro h;rw[h]at hl;revert hl;decide
  have w:=gz B G ((E (by omega)).2.2.2.2 hl) (f++R)
  rw[u]
  show chC (lvM (aD (exprP n)) 7) opsPro _ _=chC (lvM (aD (exprP n)) 7) opsPro _ _
  rw[jq (I 7) w,j]
theorem rd_main:∀e:Ex,e.formed=true→RdM e:=by
 intro e
 induction e using Ex.ind with
 |h d ks ih=>
  intro f
  rcases bL d.op with ⟨h0,_⟩|⟨h0,_⟩|⟨h0,_⟩|h0
  ·exact rd_leaf f h0
  ·obtain⟨a,rfl,g⟩:=kids1 h0 f
   exact rd_one f h0 g (ih a (by simp) g)
  ·obtain⟨a,b,rfl,g,i⟩:=kids2 h0 f
   exact rd_two f h0 g i (ih a (by simp) g) (ih b (by simp) i)
  ·obtain⟨j,_⟩:=aB f
   omega
theorem rd_expr {e:Ex} (b:e.formed=true) {n:Nat} {ts R:List Tk} (a:ts.map er=e.tk 1) (g:ts.length<n) (f:(⟨R,false⟩:Ps).c=0):exprP n ⟨ts++R,false⟩=(e.st0,⟨R,false⟩):=by
 obtain⟨m,rfl⟩:∃m,n=m+1:=⟨n-1,by omega⟩
 have h:=rd_at b (rd_main e b) 1 m ts R (by omega) (by omega) a (by omega) (by omega) (fun h=>by omega)
 rw[ca _ (by omega)]at h
 exact h
end
section
open Lx (Tk isDigit isLetter inWord spanN isPrint)
abbrev dl (s:ByteArray):List UInt8:=s.data.toList
theorem aL (a b:ByteArray):(a++b).data.toList=a.data.toList++b.data.toList:=by rw[ByteArray.data_append,Array.toList_append]
theorem bI (b:List UInt8):iE ([32]++b):= .inr ⟨32,b,rfl,by decide⟩
theorem fI (b:List UInt8):iE ([41]++b):= .inr ⟨41,b,rfl,by decide⟩
theorem edge_quo {b:List UInt8} (h:iE b):b.head?≠some 39:=by
 rcases h with rfl|⟨c,t,rfl,rfl|rfl|rfl|rfl|rfl⟩<;>simp
theorem kN {op:Int} {s:ByteArray} {K:List Kt} (h:LexP iE (dl s) K) (r:Int):LexP iE (dl (brk op s r)) (brK op K r):=by
 unfold brk brK
 split
 ·simp only[dl,aL]
  have a:LexP Any ([40]++dl s++ [41]) ([(5,[40])]++K++ [(5,[41])]):=((bH (c:=40) (by decide)).cat h (fun _ _=>trivial)).cat (bH (c:=41) (by decide)) (fun b _=>fI b)
  have e:(5,[40])::(K++ [(5,[41])])= [((5:Nat),([40]:List UInt8))]++K++ [(5,[41])]:=by simp
  rw[e]
  exact a.imp fun _ _=>trivial
 ·exact h
theorem sg_lex {op:Int} (h:4≤op∧op≤8∨10≤op∧op≤16∨op=18∨op=19):LexP (fun b=>b.head? =some 32) (dl (sgn op)) [sgK op]:=by
 have now:∀b:List UInt8,b.head? =some 32→NoW b:=fun b a=>by
  cases b with
  |nil=>cases a
  |cons c t=>simp at a;subst a;rfl
 have:op=4∨op=5∨op=6∨op=7∨op=8∨op=10∨op=11∨op=12∨op=13∨op=14∨op=15∨op=16∨op=18∨op=19:=by omega
 rcases this with rfl|rfl|rfl|rfl|rfl|rfl|rfl|rfl|rfl|rfl|rfl|rfl|rfl|rfl
 ·exact(bH (c:=43) (by decide)).imp fun _ _=>trivial
 ·exact j1.imp fun b a=>by rw[a];simp
 ·exact(bH (c:=42) (by decide)).imp fun _ _=>trivial
 ·exact(bH (c:=47) (by decide)).imp fun _ _=>trivial
 ·exact(bH (c:=37) (by decide)).imp fun _ _=>trivial
 ·exact(bH (c:=61) (by decide)).imp fun _ _=>trivial
 ·exact(oo (c:=60) (d:=62) (by decide)).imp fun _ _=>trivial
 ·exact lex_ang (c:=60) (by decide)
 ·exact(oo (c:=60) (d:=61) (by decide)).imp fun _ _=>trivial
 ·exact lex_ang (c:=62) (by decide)
 ·exact(oo (c:=62) (d:=61) (by decide)).imp fun _ _=>trivial
 ·exact(cf (l:= [76,73,75,69]) (by decide)).imp now
 ·exact(cf (l:= [65,78,68]) (by decide)).imp now
 ·exact(cf (l:= [79,82]) (by decide)).imp now
theorem name_hd {s:ByteArray} (h:nameB s=true):∃c r,dl s=c::r∧c≠45:=by
 have:=jj h
 unfold Lx.nameP at this
 unfold dl
 cases hs:s.data.toList with
 |nil=>rw[hs]at this;cases this
 |cons c r=>
  rw[hs]at this
  simp only[Bool.and_eq_true,decide_eq_true_eq]at this
  refine⟨c,r,rfl,fun e=>?_⟩
  have a:=this.1.1.2.1
  rw[e]at a
  revert a;decide
theorem hd8 {e:Ex} (j:e.formed=true) (b:List UInt8):(dl (e.tx 8)++b).head?≠some 45:=by
 obtain⟨d,ks⟩:=e
 obtain⟨o,p,a⟩:=aB j
 unfold Ex.tx brk
 have m:=fj d.op
 split
 ·simp only[dl,aL]
  show(([40]++_++ [41])++b).head?≠_
  simp
 ·next hl=>
  have l:¬lvl d.op<8:=hl
  have f:d.op=1∨d.op=2∨d.op=9:=by
   have:lvl d.op=8:=by omega
   unfold lvl at this
   repeat' split at this
   all_goals omega
  rw[Ex.pl]
  unfold plD
  simp only
  rcases f with f|f|f
  ·rw[if_pos f]
   unfold ndB at a
   rw[if_neg (by omega),if_pos f]at a
   simp only[Bool.and_eq_true]at a
   split
   ·next hv=>
    have k:=(fa a.2).2.1 hv
    obtain⟨i,n,c,r,h,_⟩:=gY d.vi.toNat
    unfold dl
    rw[jm k.1,h]
    simp only[List.cons_append,List.head?_cons,ne_eq,Option.some.injEq]
    intro e
    have:=i c (by rw[h];simp)
    rw[e]at this
    revert this;decide
   ·split
    ·simp only[dl,aL]
     show(([39]++_++ [39])++b).head?≠_
     simp
    ·show([78,85,76,76]++b).head?≠_
     simp
  ·rw[if_neg (by omega),if_pos f]
   unfold ndB at a
   rw[if_pos f]at a
   simp only[Bool.and_eq_true,Bool.or_eq_true,beq_iff_eq]at a
   split
   ·obtain⟨c,r,e,g⟩:=name_hd a.1.1
    rw[e]
    simpa using g
   ·next ht=>
    obtain⟨c,r,e,g⟩:=name_hd (a.1.2.resolve_left ht)
    unfold dl at e ⊢
    rw[aL,aL,e]
    simpa using g
  ·rw[if_neg (by omega),if_neg (by omega),if_neg (by omega),if_pos f]
   simp only[dl,aL]
   show(([76,69,78,71,84,72,40]++_++ [41])++b).head?≠_
   simp
theorem pl_lex:∀e:Ex,e.formed=true→LexP iE (dl e.pl) e.tkp:=by
 intro e
 induction e using Ex.ind with
 |h d ks ih=>
  intro o
  obtain⟨H,I,g⟩:=aB o
  have i:∀ {l:List UInt8} {K:List Kt},LexP Any l K→LexP iE l K:=fun h=>h.imp fun _ _=>trivial
  rw[Ex.pl,Ex.tkp]
  rcases bL d.op with ⟨h0,h4⟩|⟨h0,h4⟩|⟨h0,h4⟩|h0
  ·unfold plD tkD
   simp only
   by_cases o1:d.op=1
   ·rw[if_pos o1,if_pos o1]
    unfold ndB at g
    rw[if_neg (by omega),if_pos o1]at g
    simp only[Bool.and_eq_true]at g
    have f:=g.2
    split
    ·next hv=>
     have t:=(fa f).2.1 hv
     exact(jn t.1 t.2).imp fun _ h=>h.now
    ·split
     ·next hv1 hv2=>
      unfold Nd.litB at f
      rw[if_neg (by omega),if_neg hv1,if_pos hv2]at f
      simp only[Bool.and_eq_true]at f
      obtain⟨F,G⟩:=print_of f.2
      have n:=lex_text F G
      simp only[dl,aL]
      have e:(⟨#[39]⟩:ByteArray).data.toList++(kt d.vt).data.toList++(⟨#[39]⟩:ByteArray).data.toList=39::(Lx.flat d.vt.data.toList++ [39]):=by
       unfold kt
       rw[←flat_quo]
       simp
      rw[e]
      exact n.imp fun _ h=>edge_quo h
     ·exact(cf (l:= [78,85,76,76]) (by decide)).imp fun _ h=>h.now
   ·have o2:d.op=2:=by omega
    rw[if_neg o1,if_neg o1,if_pos o2,if_pos o2]
    unfold ndB at g
    rw[if_pos (by omega)]at g
    simp only[Bool.and_eq_true,Bool.or_eq_true,beq_iff_eq]at g
    have u:=mi (jj g.1.1)
    split
    ·exact u.imp fun _ h=>h.now
    ·next p=>
     have p:=mi (jj (g.1.2.resolve_left p))
     simp only[dl,aL]
     have n:=(p.cat (bH (c:=46) (by decide)) (fun b _=> (show NoW ([46]++b) by unfold NoW;rfl))).cat u (fun _ _=>trivial)
     exact n.imp fun _ h=>h.now
  ·obtain⟨a,rfl,m⟩:=kids1 h0 o
   have f:=fun r=>kN (op:=a.d.op) (ih a (by simp) m) r
   unfold plD tkD
   simp only[plL,tkpL,List.getD_cons_zero]
   rcases h4 with h4|h4|h4|h4
   ·rw[if_neg (by omega),if_neg (by omega),if_pos h4,if_neg (by omega),if_neg (by omega),if_pos h4]
    simp only[dl,aL]
    exact j1.cat (f 8) (fun b _=>hd8 m b)
   ·rw[if_neg (by omega),if_neg (by omega),if_neg (by omega),if_pos h4,if_neg (by omega),if_neg (by omega),if_neg (by omega),if_pos h4]
    simp only[dl,aL]
    have j:=((cf (l:= [76,69,78,71,84,72]) (by decide)).cat (bH (c:=40) (by decide)) (fun b _=> (show NoW ([40]++b) by unfold NoW;rfl)))
    have k:=(j.cat (f 1) (fun _ _=>trivial)).cat (bH (c:=41) (by decide)) (fun b _=>fI b)
    have:=i k
    simpa using this
   ·rw[if_neg (by omega),if_neg (by omega),if_neg (by omega),if_neg (by omega),if_pos h4,if_neg (by omega),if_neg (by omega),if_neg (by omega),if_neg (by omega),if_pos h4]
    simp only[dl,aL]
    have j:=(f 5).cat aE (fun b _=>bI b)
    have k:=(j.cat (cf (l:= [73,83]) (by decide)) (fun _ _=>trivial)).cat aE (fun b _=> (bI b).now)
    have s:=k.cat (cf (l:= [78,85,76,76]) (by decide)) (fun _ _=>trivial)
    have w:=s.imp (Q:=iE) fun _ h=>h.now
    simpa using w
   ·rw[if_neg (by omega),if_neg (by omega),if_neg (by omega),if_neg (by omega),if_neg (by omega),if_pos h4,if_neg (by omega),if_neg (by omega),if_neg (by omega),if_neg (by omega),if_neg (by omega),if_pos h4]
    simp only[dl,aL]
    have j:=((cf (l:= [78,79,84]) (by decide)).cat aE (fun b _=> (bI b).now)).cat (f 3) (fun _ _=>trivial)
    simpa using j
  ·obtain⟨a,b,rfl,m,f⟩:=kids2 h0 o
   have x:=fun r=>kN (op:=a.d.op) (ih a (by simp) m) r
   have y:=fun r=>kN (op:=b.d.op) (ih b (by simp) f) r
   unfold plD tkD
   simp only[plL,tkpL,List.getD_cons_zero,List.getD_cons_succ]
   have z:¬d.op=1:=by omega
   have A:¬d.op=2:=by omega
   have B:¬d.op=3:=by omega
   have C:¬d.op=9:=by omega
   have D:¬d.op=17:=by omega
   have E:¬d.op=20:=by omega
   simp only[z,A,B,C,D,E,if_false]
   simp only[dl,aL]
   have j:=(x (if lvl d.op=4 then 5 else lvl d.op)).cat aE (fun b _=>bI b)
   have k:=(j.cat (sg_lex (op:=d.op) (by omega)) (fun _ _=>trivial)).cat aE (fun b _=>rfl)
   have s:=k.cat (y (lvl d.op+1)) (fun _ _=>trivial)
   simpa using s
  ·omega
theorem j5 {e:Ex} (a:e.formed=true) (r:Int):LexP iE (dl (e.tx r)) (e.tk r):=kN (pl_lex e a) r
end
section
open Lx (Tk isDigit isLetter inWord spanN isPrint)
def cmK:List (List Kt)→List Kt
 | []=> []
 |x::l=>x++l.flatMap fun y=> (5,[44])::y
def nmK (s:ByteArray):Kt:=(1,s.data.toList)
def nmsK (l:List ByteArray):List Kt:=(5,[40])::(cmK (l.map fun s=> [nmK s])++ [(5,[41])])
def numK (n:Int):Kt:=(3,(itoB n).data.toList)
def bndK (n:Int):List Kt:=if n<0 then [(5,[45]),numK (-n)]else [numK n]
def Cd.tk (x:Cd):List Kt:=
 nmK x.nm::((if x.ty=1 then (2,[73,78,84,69,71,69,82])::(5,[40])::(bndK x.lo++(5,[44])::(bndK x.hi++ [(5,[41])]))else (2,[84,69,88,84])::(5,[40])::(bndK x.mx++ [(5,[41])]))++
  (if x.nn=true then [(2,[78,79,84]),(2,[78,85,76,76])]else []))
def keyK (k:List ByteArray):List Kt:=(2,[85,78,73,81,85,69])::nmsK k
def Rf.tk (x:Rf):List Kt:=(2,[70,79,82,69,73,71,78])::(2,[75,69,89])::(nmsK x.cs++(2,[82,69,70,69,82,69,78,67,69,83])::nmK x.tb::nmsK x.tg)
def chkK (e:Ex):List Kt:=(2,[67,72,69,67,75])::(5,[40])::(e.tk 1++ [(5,[41])])
def St.eltsK (s:St):List (List Kt):=s.cols.map Cd.tk++s.keys.map keyK++s.frs.map Rf.tk++s.chk.map chkK
def exsK (l:List Ex):List Kt:=cmK (l.map fun e=>e.tk 1)
def rowK (l:List Ex):List Kt:=(5,[40])::(exsK l++ [(5,[41])])
def Asg.tk (x:Asg):List Kt:=nmK x.cl::(5,[61])::x.ex.tk 1
def agK (n:Int):Kt:=(2,(agW n).data.toList)
def Itm.tk (x:Itm):List Kt:=if x.ag=1 then [(2,[67,79,85,78,84]),(5,[40]),(5,[42]),(5,[41])]else if x.ag=0 then x.ex.tk 1 else agK x.ag::(5,[40])::(x.ex.tk 1++ [(5,[41])])
def Src.tk (x:Src):List Kt:=if x.al.size=0 then [nmK x.tb]else [nmK x.tb,(2,[65,83]),nmK x.al]
def Ord'.tk (x:Ord'):List Kt:=numK x.it::(if x.ds=true then [(2,[68,69,83,67])]else [])
def St.whK (s:St):List Kt:=if s.whr.absent=true then []else (2,[87,72,69,82,69])::s.whr.tk 1
def St.itK (s:St):List Kt:=if s.itms.length=0 then [(5,[42])]else cmK (s.itms.map Itm.tk)
def St.selK (s:St):List Kt:=
 (2,[83,69,76,69,67,84])::(s.itK++(2,[70,82,79,77])::(cmK (s.frm.map Src.tk)++(s.whK++((if s.grp.length=0 then []else (2,[71,82,79,85,80])::(2,[66,89])::exsK s.grp)++
  ((if s.ord.length=0 then []else (2,[79,82,68,69,82])::(2,[66,89])::cmK (s.ord.map Ord'.tk))++(if 0<s.lim then [(2,[76,73,77,73,84]),numK s.lim]else []))))))
def St.tk (s:St):List Kt:=
 if s.kd=1 then (2,[67,82,69,65,84,69])::(2,[84,65,66,76,69])::nmK s.tb::(5,[40])::(cmK s.eltsK++ [(5,[41])])
 else if s.kd=2 then (2,[73,78,83,69,82,84])::(2,[73,78,84,79])::nmK s.tb::(2,[86,65,76,85,69,83])::cmK (s.vals.map rowK)
 else if s.kd=3 then (2,[85,80,68,65,84,69])::nmK s.tb::(2,[83,69,84])::(cmK (s.sets.map Asg.tk)++s.whK)
 else if s.kd=4 then (2,[68,69,76,69,84,69])::(2,[70,82,79,77])::nmK s.tb::s.whK
 else if s.kd=5 then s.selK
 else if s.kd=6 then [(2,[66,69,71,73,78])]else if s.kd=7 then [(2,[67,79,77,77,73,84])]else if s.kd=8 then [(2,[82,79,76,76,66,65,67,75])]
 else if s.kd=9 then [(2,[83,65,86,69,80,79,73,78,84]),nmK s.nm]else if s.kd=10 then [(2,[82,79,76,76,66,65,67,75]),(2,[84,79]),nmK s.nm]else [(2,[82,69,76,69,65,83,69]),nmK s.nm]
abbrev LxE:=LexP iE
theorem anyE {l:List UInt8} {K:List Kt} (h:LexP Any l K) {P:List UInt8→Prop} :LexP P l K:=h.imp fun _ _=>trivial
theorem kv {l:List UInt8} {K:List Kt} (h:LexP NoW l K):LxE l K:=h.imp fun _ h=>h.now
def kwsB:List (List UInt8)→List UInt8
 | []=> []
 |k::l=>k++32::kwsB l
theorem bK:∀l:List (List UInt8),(∀k∈l,k∈Lx.kwNames)→LexP Any (kwsB l) (l.map fun k=> (2,k))
 | [],_=>jk
 |k::l,h=>by
  have a:=((cf (h k List.mem_cons_self)).cat aE (fun b _=> (bI b).now)).cat (bK l fun x e=>h x (List.mem_cons_of_mem _ e)) (fun _ _=>trivial)
  simpa[kwsB] using a
def kwsA:List (List UInt8)→List UInt8
 | []=> []
 |k::l=>32::(k++kwsA l)
theorem pN (l:List (List UInt8)) (b:List UInt8) (h:NoW b):NoW (kwsA l++b):=by
 cases l with
 |nil=>exact h
 |cons k l=>rfl
theorem eB:∀l:List (List UInt8),(∀k∈l,k∈Lx.kwNames)→LexP NoW (kwsA l) (l.map fun k=> (2,k))
 | [],_=>jk
 |k::l,h=>by
  have a:=(aE.cat (cf (h k List.mem_cons_self)) (fun _ _=>trivial)).cat (eB l fun x f=>h x (List.mem_cons_of_mem _ f)) (fun b e=>pN l b e)
  simpa[kwsA] using a
theorem bP {s:ByteArray} (h:nameB s=true):LexP NoW (dl s) [nmK s]:=mi (jj h)
theorem edge_l (c:UInt8) (a:c=32∨c=41∨c=44∨c=59∨c=10) (l b:List UInt8):iE ((c::l)++b):= .inr ⟨c,l++b,rfl,a⟩
theorem cma_lex:∀(l:List (ByteArray×List Kt)),(∀x∈l,LxE (dl x.1) x.2)→LxE (dl (cma (l.map (·.1)))) (cmK (l.map (·.2))):=by
 have g:∀(l:List (ByteArray×List Kt)) (a:ByteArray) (K:List Kt),LxE (dl a) K→(∀x∈l,LxE (dl x.1) x.2)→LxE (dl ((l.map (·.1)).foldl (fun a y=>a++gk++y) a)) (K++(l.map (·.2)).flatMap fun y=> (5,[44])::y):=by
  intro l
  induction l with
  |nil=>intro a K h _;simpa using h
  |cons x l ih=>
   intro a K h e
   rw[List.map_cons,List.foldl_cons,List.map_cons,List.flatMap_cons]
   have j:LxE (dl (a++gk++x.1)) (K++((5,[44])::x.2)):=by
    simp only[dl,aL]
    have k:LexP Any ([44]++ [32]) ([((5:Nat),([44]:List UInt8))]++ []):=(bH (c:=44) (by decide)).cat aE (fun _ _=>trivial)
    have m:=(h.cat k (fun b _=>edge_l 44 (by decide) [32] b)).cat (e x List.mem_cons_self) (fun _ _=>trivial)
    have i:gk.data.toList= [44,32]:=rfl
    rw[i]
    simpa using m
   have:=ih (a++gk++x.1) _ j fun y f=>e y (List.mem_cons_of_mem _ f)
   simpa using this
 intro l e
 cases l with
 |nil=>exact jk
 |cons x l=>exact g l x.1 x.2 (e x List.mem_cons_self) fun y f=>e y (List.mem_cons_of_mem _ f)
theorem fJ {α:Type} (l:List α) (tx:α→ByteArray) (tk:α→List Kt) (h:∀x∈l,LxE (dl (tx x)) (tk x)):LxE (dl (cma (l.map tx))) (cmK (l.map tk)):=by
 have a:=cma_lex (l.map fun x=> (tx x,tk x)) fun y e=>by
  obtain⟨x,b,rfl⟩:=List.mem_map.1 e
  exact h x b
 simpa[List.map_map,Function.comp_def] using a
theorem gA:LexP Any [41] [(5,[41])]:=bH (by decide)
theorem gB:LexP Any [40] [(5,[40])]:=bH (by decide)
theorem cma_names {l:List ByteArray} (h:l.all nameB=true):LxE (dl (cma l)) (cmK (l.map fun s=> [nmK s])):=by
 have:=fJ l (fun s=>s) (fun s=> [nmK s]) fun s hs=>kv (bP (List.all_eq_true.1 h s hs))
 simpa using this
theorem j6 {l:List ByteArray} (h:l.all nameB=true):LexP Any ([40]++dl (cma l)++ [41]) (nmsK l):=by
 have a:=(gB.cat (cma_names h) (fun _ _=>trivial)).cat gA (fun b _=>fI b)
 simpa[nmsK] using a
theorem ou {n:Int} (i: -2147483648≤n) (g:n≤2147483648):LexP NoW (dl (itoB n)) (bndK n):=by
 unfold bndK
 split
 ·next hn=>
  have e:dl (itoB n)= [45]++dl (itoB (-n)):=by
   unfold dl itoB Lib.itoa
   rw[if_pos hn,if_neg (by omega)]
   have:(-n).toNat=n.natAbs:=by omega
   simp[this]
  rw[e]
  refine LexP.cat j1 (jn (by omega) (by omega)) (fun b _=>?_)
  obtain⟨f,h,c,r,a,_⟩:=gY (-n).toNat
  unfold dl
  rw[jm (by omega),a]
  simp only[List.cons_append,List.head?_cons,ne_eq,Option.some.injEq]
  intro e
  have:=f c (by rw[a];simp)
  rw[e]at this
  revert this;decide
 ·exact jn (by omega) g
theorem cd_lex {x:Cd} (h:x.ok=true):LxE (dl x.tx) x.tk:=by
 have m:LexP Any (dl x.bs) (nmK x.nm::(if x.ty=1 then (2,[73,78,84,69,71,69,82])::(5,[40])::(bndK x.lo++(5,[44])::(bndK x.hi++ [(5,[41])]))else (2,[84,69,88,84])::(5,[40])::(bndK x.mx++ [(5,[41])]))):=by
  unfold Cd.ok at h
  unfold Cd.bs
  by_cases a:x.ty=1
  ·rw[if_pos (by simpa using a)]at h
   rw[if_pos a,if_pos a]
   simp only[Bool.and_eq_true,ch]at h
   obtain⟨⟨⟨g,f⟩,j⟩,_⟩:=h
   simp only[dl,aL]
   have i:=(((bP g).cat aE (fun b _=> (bI b).now)).cat (cf (l:= [73,78,84,69,71,69,82]) (by decide)) (fun _ _=>trivial)).cat gB (fun b _=>rfl)
   have e:=(i.cat (ou f.1 f.2) (fun _ _=>trivial)).cat (bH (c:=44) (by decide)) (fun b _=>rfl)
   have n:=((e.cat aE (fun _ _=>trivial)).cat (ou j.1 j.2) (fun _ _=>trivial)).cat gA (fun b _=>rfl)
   simpa using n
  ·rw[if_neg (by simpa using a)]at h
   rw[if_neg a,if_neg a]
   simp only[Bool.and_eq_true,ch]at h
   obtain⟨⟨⟨⟨_,g⟩,_⟩,_⟩,f⟩:=h
   simp only[dl,aL]
   have i:=(((bP g).cat aE (fun b _=> (bI b).now)).cat (cf (l:= [84,69,88,84]) (by decide)) (fun _ _=>trivial)).cat gB (fun b _=>rfl)
   have e:=(i.cat (ou (by omega) f.2) (fun _ _=>trivial)).cat gA (fun b _=>rfl)
   simpa using e
 unfold Cd.tx Cd.tk
 split
 ·simp only[dl,aL]
  have k:=m.cat (eB [[78,79,84],[78,85,76,76]] (by decide)) (fun _ _=>trivial)
  have e:=kv k
  simpa[kwsA] using e
 ·simpa using (anyE m:LxE _ _)
theorem key_lex {k:List ByteArray} (h:namesB k=true):LxE (dl (keyT k)) (keyK k):=by
 unfold namesB at h
 simp only[Bool.and_eq_true]at h
 have a:=(bK [[85,78,73,81,85,69]] (by decide)).cat (j6 h.2) (fun _ _=>trivial)
 unfold keyT keyK
 simp only[dl,aL]
 have b:LxE _ _:=anyE a
 simpa[kwsB] using b
theorem rf_lex {x:Rf} (h:x.ok=true):LxE (dl x.tx) x.tk:=by
 unfold Rf.ok namesB at h
 simp only[Bool.and_eq_true]at h
 obtain⟨⟨⟨_,a⟩,e⟩,_,f⟩:=h
 have g:=(bK [[70,79,82,69,73,71,78],[75,69,89]] (by decide)).cat (j6 a) (fun _ _=>trivial)
 have i:=(g.cat aE (fun _ _=>trivial)).cat (bK [[82,69,70,69,82,69,78,67,69,83]] (by decide)) (fun _ _=>trivial)
 have j:=((i.cat (bP e) (fun _ _=>trivial)).cat aE (fun b _=> (bI b).now)).cat (j6 f) (fun _ _=>trivial)
 unfold Rf.tx Rf.tk
 simp only[dl,aL]
 have k:LxE _ _:=anyE j
 simpa[kwsB] using k
theorem chk_lex {e:Ex} (h:e.formed=true):LxE (dl (ep e)) (chkK e):=by
 have a:=(((bK [[67,72,69,67,75]] (by decide)).cat gB (fun _ _=>trivial)).cat (j5 h 1) (fun _ _=>trivial)).cat gA (fun b _=>fI b)
 unfold ep chkK
 simp only[dl,aL]
 have f:LxE _ _:=anyE a
 simpa[kwsB] using f
theorem exs_lex {l:List Ex} (h:l.all Ex.formed=true):LxE (dl (exsT l)) (exsK l):=fJ l (fun e=>e.tx 1) (fun e=>e.tk 1) fun e a=>j5 (List.all_eq_true.1 h e a) 1
theorem row_lex {l:List Ex} (h:rowOk l=true):LxE (dl (cM l)) (rowK l):=by
 unfold rowOk at h
 simp only[Bool.and_eq_true]at h
 have a:=(gB.cat (exs_lex h.2) (fun _ _=>trivial)).cat gA (fun b _=>fI b)
 unfold cM rowK
 simp only[dl,aL]
 have e:LxE _ _:=anyE a
 simpa using e
theorem asg_lex {x:Asg} (h:x.ok=true):LxE (dl x.tx) x.tk:=by
 unfold Asg.ok at h
 simp only[Bool.and_eq_true]at h
 have a:=(((bP h.1).cat aE (fun b _=> (bI b).now)).cat (bH (c:=61) (by decide)) (fun _ _=>trivial)).cat aE (fun _ _=>trivial)
 have e:=a.cat (j5 h.2 1) (fun _ _=>trivial)
 unfold Asg.tx Asg.tk
 simp only[dl,aL]
 simpa using e
theorem itm_lex {x:Itm} (h:x.ok=true):LxE (dl x.tx) x.tk:=by
 unfold Itm.tx Itm.tk
 unfold Itm.ok at h
 by_cases a:x.ag=1
 ·rw[if_pos a,if_pos a]
  have k:=(((cf (l:= [67,79,85,78,84]) (by decide)).cat gB (fun b _=>rfl)).cat (bH (c:=42) (by decide)) (fun _ _=>trivial)).cat gA (fun _ _=>trivial)
  exact anyE k
 ·rw[if_neg a,if_neg a]
  rw[if_neg (by simpa using a)]at h
  simp only[Bool.and_eq_true,decide_eq_true_eq]at h
  obtain⟨⟨m,n⟩,g⟩:=h
  by_cases f:x.ag=0
  ·rw[if_pos f,if_pos f]
   exact j5 g 1
  ·rw[if_neg f,if_neg f]
   have i:(agW x.ag).data.toList∈Lx.kwNames:=by
    have:x.ag=2∨x.ag=3∨x.ag=4∨x.ag=5:=by omega
    rcases this with e|e|e|e<;> (rw[e];decide)
   have k:=(((cf i).cat gB (fun b _=>rfl)).cat (j5 g 1) (fun _ _=>trivial)).cat gA (fun b _=>fI b)
   simp only[dl,aL]
   have j:LxE _ _:=anyE k
   simpa[agK] using j
theorem src_lex {x:Src} (h:x.ok=true):LxE (dl x.tx) x.tk:=by
 unfold Src.ok at h
 simp only[Bool.and_eq_true,Bool.or_eq_true]at h
 unfold Src.tx Src.tk
 split
 ·exact kv (bP h.1)
 ·next ha=>
  have f:nameB x.al=true:=h.2.resolve_left fun e=>by
   rw[eX]at e
   have a:N x.al= []:=by simpa using e
   have:=congrArg List.length a
   rw[N_len]at this
   exact ha this
  have k:=(((bP h.1).cat (aE.cat (cf (l:= [65,83]) (by decide)) (fun _ _=>trivial)) (fun b _=>rfl)).cat aE (fun b _=> (bI b).now)).cat (bP f) (fun _ _=>trivial)
  have g:=kv k
  simp only[dl,aL]
  simpa using g
theorem ord_lex {x:Ord'} (h:x.ok=true):LxE (dl x.tx) x.tk:=by
 unfold Ord'.ok at h
 rw[ch]at h
 have a:=jn (n:=x.it) (by omega) h.2
 unfold Ord'.tx Ord'.tk
 split
 ·simp only[dl,aL]
  have k:=kv (a.cat (eB [[68,69,83,67]] (by decide)) (fun b e=>pN _ b e))
  simpa[kwsA,numK] using k
 ·exact kv a
def SpE (l:List UInt8):Prop:=l= []∨∃t,l=32::t
theorem SpE.edge {l:List UInt8} (h:SpE l) {b:List UInt8} (a:iE b):iE (l++b):=by
 rcases h with rfl|⟨t,rfl⟩
 ·exact a
 ·exact edge_l 32 (by decide) t b
theorem wh_lex {s:St} (h:s.whr.absent=true∨s.whr.formed=true):LxE (dl s.whT) s.whK∧SpE (dl s.whT):=by
 unfold St.whT St.whK
 split
 ·exact⟨jk,.inl rfl⟩
 ·next ha=>
  have a:=h.resolve_left ha
  have k:=((eB [[87,72,69,82,69]] (by decide)).cat aE (fun b _=> (bI b).now)).cat (j5 a 1) (fun _ _=>trivial)
  refine⟨?_,.inr ?_⟩
  ·unfold jU
   simp only[dl,aL]
   simpa[kwsA] using k
  ·unfold jU
   simp only[dl,aL]
   exact⟨_,rfl⟩
end
section
open Lx (Tk isDigit isLetter inWord spanN isPrint)
theorem gZ {s:St} (h:s.formed=true) (b:s.kd≤4):nameB s.tb=true:=by
 unfold St.formed at h
 dsimp only at h
 simp only[Bool.and_eq_true,decide_eq_true_eq]at h
 obtain⟨⟨⟨⟨⟨⟨⟨⟨⟨⟨⟨⟨_,_⟩,_⟩,a⟩,_⟩,_⟩,_⟩,_⟩,_⟩,_⟩,_⟩,_⟩,_⟩:=h
 simpa[b] using a
theorem formed_nm {s:St} (h:s.formed=true) (a:s.kd=9∨s.kd=10∨s.kd=11):nameB s.nm=true:=by
 unfold St.formed at h
 dsimp only at h
 simp only[Bool.and_eq_true,decide_eq_true_eq]at h
 obtain⟨⟨⟨⟨⟨⟨⟨⟨⟨⟨⟨⟨_,_⟩,_⟩,_⟩,_⟩,b⟩,_⟩,_⟩,_⟩,_⟩,_⟩,_⟩,_⟩:=h
 rcases a with a|a|a<;>simpa[a] using b
theorem elts_lex {s:St} (h:s.defOk=true):LxE (dl (cma s.elts)) (cmK s.eltsK):=by
 unfold St.defOk at h
 simp only[Bool.and_eq_true,List.all_eq_true]at h
 obtain⟨⟨⟨⟨_,b⟩,e⟩,f⟩,g⟩:=h
 have k:=cma_lex (s.cols.map (fun x=> (x.tx,x.tk))++s.keys.map (fun x=> (keyT x,keyK x))++s.frs.map (fun x=> (x.tx,x.tk))++s.chk.map (fun x=> (ep x,chkK x))) (fun x a=>by
  simp only[List.mem_append,List.mem_map]at a
  rcases a with ((⟨y,hy,rfl⟩|⟨y,hy,rfl⟩)|⟨y,hy,rfl⟩)|⟨y,hy,rfl⟩
  ·exact cd_lex (b y hy)
  ·exact key_lex (e y hy)
  ·exact rf_lex (f y hy)
  ·exact chk_lex (g y hy))
 simpa[St.elts,St.eltsK,List.map_append,List.map_map,Function.comp_def] using k
def PtL (l:List UInt8) (K:List Kt):Prop:=LxE l K∧SpE l
theorem PtL.cat {l m:List UInt8} {K H:List Kt} (h:LxE l K) (k:PtL m H):LxE (l++m) (K++H):=LexP.cat h k.1 (fun b a=>k.2.edge a)
theorem ox:PtL [] []:=⟨jk,.inl rfl⟩
theorem grp_pt {l:List Ex} (h:l.all Ex.formed=true):PtL (if l.length=0 then []else dl ((⟨#[32,71,82,79,85,80,32,66,89,32]⟩:ByteArray)++exsT l)) (if l.length=0 then []else (2,[71,82,79,85,80])::(2,[66,89])::exsK l):=by
 split
 ·exact ox
 ·refine⟨?_,.inr ?_⟩
  ·have k:=((eB [[71,82,79,85,80],[66,89]] (by decide)).cat aE (fun b _=> (bI b).now)).cat (exs_lex h) (fun _ _=>trivial)
   simp only[dl,aL]
   simpa[kwsA] using k
  ·simp only[dl,aL]
   exact⟨_,rfl⟩
theorem ord_pt {l:List Ord'} (h:l.all Ord'.ok=true):PtL (if l.length=0 then []else dl ((⟨#[32,79,82,68,69,82,32,66,89,32]⟩:ByteArray)++cma (l.map Ord'.tx))) (if l.length=0 then []else (2,[79,82,68,69,82])::(2,[66,89])::cmK (l.map Ord'.tk)):=by
 split
 ·exact ox
 ·refine⟨?_,.inr ?_⟩
  ·have k:=((eB [[79,82,68,69,82],[66,89]] (by decide)).cat aE (fun b _=> (bI b).now)).cat (fJ l Ord'.tx Ord'.tk fun x a=>ord_lex (List.all_eq_true.1 h x a)) (fun _ _=>trivial)
   simp only[dl,aL]
   simpa[kwsA] using k
  ·simp only[dl,aL]
   exact⟨_,rfl⟩
theorem lim_pt {n:Int} (h:0≤n∧n≤2147483648):PtL (if 0<n then dl ((⟨#[32,76,73,77,73,84,32]⟩:ByteArray)++itoB n)else []) (if 0<n then [(2,[76,73,77,73,84]),numK n]else []):=by
 split
 ·refine⟨?_,.inr ?_⟩
  ·have k:=kv (((eB [[76,73,77,73,84]] (by decide)).cat aE (fun b _=> (bI b).now)).cat (jn h.1 h.2) (fun _ _=>trivial))
   simp only[dl,aL]
   simpa[kwsA,numK] using k
  ·simp only[dl,aL]
   exact⟨_,rfl⟩
 ·exact ox
theorem sel_eq (s:St):dl s.sel=(([83,69,76,69,67,84,32]++dl s.itT++ [32,70,82,79,77,32]++dl (cma (s.frm.map Src.tx))++dl s.whT)++(if s.grp.length=0 then []else dl ((⟨#[32,71,82,79,85,80,32,66,89,32]⟩:ByteArray)++exsT s.grp)))++
  (if s.ord.length=0 then []else dl ((⟨#[32,79,82,68,69,82,32,66,89,32]⟩:ByteArray)++cma (s.ord.map Ord'.tx)))++(if 0<s.lim then dl ((⟨#[32,76,73,77,73,84,32]⟩:ByteArray)++itoB s.lim)else []):=by
 unfold St.sel St.sel2 St.sel1 St.sel0
 split<;>split<;>split<;>simp[dl,aL]
theorem it_lex {s:St} (h:s.itms.all Itm.ok=true):LxE (dl s.itT) s.itK:=by
 unfold St.itT St.itK
 split
 ·exact anyE (bH (c:=42) (by decide))
 ·exact fJ s.itms Itm.tx Itm.tk fun x a=>itm_lex (List.all_eq_true.1 h x a)
theorem sel_lex {s:St} (h:s.qOk=true) (u:s.whr.absent=true∨s.whr.formed=true):LxE (dl s.sel) s.selK:=by
 unfold St.qOk at h
 simp only[Bool.and_eq_true,ch]at h
 obtain⟨⟨⟨⟨⟨l,_⟩,m⟩,n⟩,o⟩,p⟩:=h
 have t:s.grp.all Ex.formed=true:=List.all_eq_true.2 fun e r=>by
  have:=List.all_eq_true.1 n e r
  unfold eo at this
  simp only[Bool.and_eq_true]at this
  exact this.2
 have a:=((bK [[83,69,76,69,67,84]] (by decide)).cat (it_lex l) (fun _ _=>trivial)).cat aE (fun b _=>bI b)
 have f:=(a.cat (bK [[70,82,79,77]] (by decide)) (fun _ _=>trivial)).cat (fJ s.frm Src.tx Src.tk fun x w=>src_lex (List.all_eq_true.1 m x w)) (fun _ _=>trivial)
 have g:=PtL.cat f (wh_lex u)
 have i:=PtL.cat g (grp_pt t)
 have j:=PtL.cat i (ord_pt o)
 have k:=PtL.cat j (lim_pt p)
 rw[sel_eq]
 unfold St.selK
 simpa[kwsB] using k
theorem st_lex {s:St} (h:s.formed=true):LxE (dl s.body) s.tk:=by
 obtain⟨⟨A,B⟩,w,_,y,_,z,_,f5,_⟩:=bC h
 have t:=et h
 unfold St.body St.tk
 by_cases f:s.kd=1
 ·rw[if_pos f,if_pos f]
  have k:=((((bK [[67,82,69,65,84,69],[84,65,66,76,69]] (by decide)).cat (bP (gZ h (by omega))) (fun _ _=>trivial)).cat (aE.cat gB (fun _ _=>trivial)) (fun b _=>rfl)).cat (elts_lex (w f)) (fun _ _=>trivial)).cat gA (fun b _=>fI b)
  have e:LxE _ _:=anyE k
  simp only[dl,aL]
  simpa[kwsB] using e
 rw[if_neg f,if_neg f]
 by_cases g:s.kd=2
 ·rw[if_pos g,if_pos g]
  have k:=((((bK [[73,78,83,69,82,84],[73,78,84,79]] (by decide)).cat (bP (gZ h (by omega))) (fun _ _=>trivial)).cat aE (fun b _=> (bI b).now)).cat (bK [[86,65,76,85,69,83]] (by decide)) (fun _ _=>trivial)).cat (fJ s.vals cM rowK fun x u=>row_lex (List.all_eq_true.1 (y g) x u)) (fun _ _=>trivial)
  simp only[dl,aL]
  simpa[kwsB] using k
 rw[if_neg g,if_neg g]
 by_cases i:s.kd=3
 ·rw[if_pos i,if_pos i]
  have k:=((((bK [[85,80,68,65,84,69]] (by decide)).cat (bP (gZ h (by omega))) (fun _ _=>trivial)).cat aE (fun b _=> (bI b).now)).cat (bK [[83,69,84]] (by decide)) (fun _ _=>trivial)).cat (fJ s.sets Asg.tx Asg.tk fun x u=>asg_lex (List.all_eq_true.1 (z i) x u)) (fun _ _=>trivial)
  have e:=PtL.cat k (wh_lex t)
  simp only[dl,aL]at e ⊢
  simpa[kwsB] using e
 rw[if_neg i,if_neg i]
 by_cases m:s.kd=4
 ·rw[if_pos m,if_pos m]
  have k:=(bK [[68,69,76,69,84,69],[70,82,79,77]] (by decide)).cat (kv (bP (gZ h (by omega)))) (fun _ _=>trivial)
  have e:=PtL.cat k (wh_lex t)
  unfold fD
  simp only[dl,aL]at e ⊢
  simpa[kwsB] using e
 rw[if_neg m,if_neg m]
 by_cases j:s.kd=5
 ·rw[if_pos j,if_pos j]
  exact sel_lex (f5 j) t
 rw[if_neg j,if_neg j]
 by_cases n:s.kd=6
 ·rw[if_pos n,if_pos n]
  exact kv (cf (l:= [66,69,71,73,78]) (by decide))
 rw[if_neg n,if_neg n]
 by_cases o:s.kd=7
 ·rw[if_pos o,if_pos o]
  exact kv (cf (l:= [67,79,77,77,73,84]) (by decide))
 rw[if_neg o,if_neg o]
 by_cases p:s.kd=8
 ·rw[if_pos p,if_pos p]
  exact kv (cf (l:= [82,79,76,76,66,65,67,75]) (by decide))
 rw[if_neg p,if_neg p]
 have nm:=kv (bP (formed_nm h (by omega)))
 by_cases r:s.kd=9
 ·rw[if_pos r,if_pos r]
  have k:=(bK [[83,65,86,69,80,79,73,78,84]] (by decide)).cat nm (fun _ _=>trivial)
  simp only[dl,aL]at k ⊢
  simpa[kwsB] using k
 rw[if_neg r,if_neg r]
 by_cases a:s.kd=10
 ·rw[if_pos a,if_pos a]
  have k:=(bK [[82,79,76,76,66,65,67,75],[84,79]] (by decide)).cat nm (fun _ _=>trivial)
  simp only[dl,aL]at k ⊢
  simpa[kwsB] using k
 ·rw[if_neg a,if_neg a]
  have k:=(bK [[82,69,76,69,65,83,69]] (by decide)).cat nm (fun _ _=>trivial)
  simp only[dl,aL]at k ⊢
  simpa[kwsB] using k
end
end Go.Proofs.YtjigcpfjhfoheaaGreatDoor
