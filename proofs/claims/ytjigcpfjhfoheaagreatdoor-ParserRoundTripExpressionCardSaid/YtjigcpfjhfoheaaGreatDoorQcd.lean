/- The parser reads the tokens of a well-formed expression as that expression: the proof; The parser reads the tokens of a well-formed expression as that expression, apart from indexes; The canonical text of a well-formed expression . -/
import Derived.Test.YtjigcpfjhfoheaaGreatDoorQcc
import Derived.Test.YtjigcpfjhfoheaaGreatDoorQba
import Derived.Test.YtjigcpfjhfoheaaGreatDoorQad
import Derived.Test.YtjigcpfjhfoheaaGreatDoorQbe
namespace Go.Proofs.YtjigcpfjhfoheaaGreatDoor
open Go.RowKit
set_option maxHeartbeats 1000000
set_option maxRecDepth 100000
set_option linter.unusedVariables false
set_option linter.unusedSimpArgs false
section
open Lx (Tk isDigit isLetter inWord spanN isPrint)
theorem isS_eq {k:Nat} {x:List UInt8} (hk:k=2∨k=5) (t:ByteArray) {a:Tk} (h:er a=(k,x)) (R:List Tk):isS t ⟨a::R,false⟩=decide (t.data.toList=x):=by
 by_cases hx:t.data.toList=x
 ·subst hx
  rw[isS_at hk t h R,decide_eq_true rfl]
 ·rw[em t h (.inr fun e=>hx e.symm) R,decide_eq_false hx]
theorem gz {k:Nat} {x:List UInt8} (hk:k=2∨k=5) {z:Tk} (h:er z=(k,x)) (R:List Tk):∀ops:List (ByteArray×Int),
  firstP ops ⟨z::R,false⟩=(match ops.find? (fun y=>decide (y.1.data.toList=x))with|some y=> (some y.2,⟨R,false⟩)|none=> (none,⟨z::R,false⟩))
 | []=>rfl
 |(t,o)::l=>by
  rw[firstP,isS_eq hk t h R,List.find?_cons]
  by_cases hx:t.data.toList=x
  ·rw[if_pos (by simpa using hx)]
   simp only[hx,decide_true]
   rfl
  ·rw[if_neg (by simpa using hx),gz hk h R l]
   simp only[hx,decide_false]
theorem need_at {k:Nat} (hk:k=2∨k=5) (t:ByteArray) {a:Tk} (h:er a=(k,t.data.toList)) (R:List Tk):needP t ⟨a::R,false⟩=⟨R,false⟩:=by
 unfold needP
 rw[isS_at hk t h R,if_pos rfl]
 rfl
theorem opt_at {k:Nat} {x:List UInt8} (hk:k=2∨k=5) (t:ByteArray) {a:Tk} (h:er a=(k,x)) (hx:t.data.toList≠x) (R:List Tk):optP t ⟨a::R,false⟩=⟨a::R,false⟩:=by
 unfold optP
 rw[isS_eq hk t h R,decide_eq_false hx,if_neg (by simp)]
theorem tak_at {k:Nat} {x:List UInt8} {a:Tk} (h:er a=(k,x)) (R:List Tk):takP k ⟨a::R,false⟩=(⟨x.toArray⟩,⟨R,false⟩):=by
 unfold takP
 rw[bI h,if_pos (by simp),tkB_at h]
 rfl
def Ex.q (e:Ex):Nat:=(lvl e.d.op).toNat
theorem d8 (op:Int):1≤lvl op∧lvl op≤8:=by
 unfold lvl
 repeat' split
 all_goals omega
theorem ly (e:Ex):(e.q:Int)=lvl e.d.op:=by
 have:=d8 e.d.op
 unfold Ex.q
 omega
theorem tk_low {e:Ex} {r:Nat} (h:r≤e.q):e.tk r=e.tkp:=by
 have:=ly e
 unfold Ex.tk brK
 rw[if_neg (by omega)]
theorem tk_high {e:Ex} {r:Nat} (h:e.q<r):e.tk r=(5,[40])::(e.tkp++ [(5,[41])]):=by
 have:=ly e
 unfold Ex.tk brK
 rw[if_pos (by omega)]
def RdM (e:Ex):Prop:=∀(n:Nat) (ts R:List Tk),ts.map er=e.tkp→ts.length≤n→(⟨R,false⟩:Ps).c≤e.q→(e.q=4→(⟨R,false⟩:Ps).c≠4)→
 lvM (aE (exprP n)) e.q ⟨ts++R,false⟩=cnt (aE (exprP n)) e.q e.st0 ⟨R,false⟩
def RdA (e:Ex):Prop:=∀(r n:Nat) (ts R:List Tk),1≤r→r≤8→ts.map er=e.tk r→ts.length≤n→(⟨R,false⟩:Ps).c≤r→(r=4→(⟨R,false⟩:Ps).c≠4)→
 lvM (aE (exprP n)) r ⟨ts++R,false⟩=cnt (aE (exprP n)) r e.st0 ⟨R,false⟩
theorem kids1 {d:Nd} {ks:List Ex} (h:opN d.op=1) (hf:(Ex.mk d ks).formed=true):∃a,ks= [a]∧a.formed=true:=by
 obtain⟨h1,h2,h3⟩:=aA hf
 obtain⟨a,rfl⟩:∃a,ks= [a]:=List.length_eq_one_iff.1 (by omega)
 exact⟨a,rfl,h2 a (by simp)⟩
theorem kids2 {d:Nd} {ks:List Ex} (h:opN d.op=2) (hf:(Ex.mk d ks).formed=true):∃a b,ks= [a,b]∧a.formed=true∧b.formed=true:=by
 obtain⟨h1,h2,h3⟩:=aA hf
 obtain⟨a,b,rfl⟩:∃a b,ks= [a,b]:=by
  have:ks.length=2:=by omega
  match ks,this with
  | [a,b],_=>exact⟨a,b,rfl⟩
 exact⟨a,b,rfl,h2 a (by simp),h2 b (by simp)⟩
theorem op_st0 {d:Nd} {ks:List Ex} (h1:d.op≠1) (h2:d.op≠2) (hf:(Ex.mk d ks).formed=true):(Ex.mk d ks).st0=opE d.op (dQ ks):=by
 obtain⟨_,_,h3⟩:=aA hf
 have h4:d.tb.size=0∧d.nm.size=0∧d.valZ=true:=by
  unfold ndB at h3
  rw[if_neg h2,if_neg h1]at h3
  split at h3
  ·cases h3
  ·simpa[and_assoc] using h3
 obtain⟨op,tb,nm,ix,vk,vi,vt⟩:=d
 obtain⟨h5,h6,h7⟩:=h4
 unfold Nd.valZ at h7
 simp only[Bool.and_eq_true,beq_iff_eq]at h5 h6 h7
 obtain⟨⟨rfl,rfl⟩,h7⟩:=h7
 rw[Ex.st0,cS h5,cS h6,cS h7]
 rfl
def NtK (k:Kt):Prop:=(k.1=2∨k.1=5)→k.2≠[78,79,84]
def NmK (k:Kt):Prop:=(k.1=2∨k.1=5)→k.2≠[45]
theorem eF {k:Nat} {x:List UInt8} (h:k=1∨k=3∨k=4):NtK (k,x)∧NmK (k,x):=⟨fun e=>by simp only at e;omega,fun e=>by simp only at e;omega⟩
theorem hd_tk:∀e:Ex,e.formed=true→∀r:Int,3<r→∃k K,e.tk r=k::K∧NtK k∧(7<r→NmK k):=by
 intro e
 induction e using Ex.ind with
 |h d ks ih=>
  intro hf r hr
  obtain⟨h1,h2,h3⟩:=aA hf
  unfold Ex.tk brK
  split
  ·exact⟨_,_,rfl,fun _=>by decide,fun _ _=>by decide⟩
  ·next hl=>
   have hl':¬lvl d.op<r:=hl
   have hlr:=d8 d.op
   rw[Ex.tkp]
   rcases bi d.op with ⟨h0,h4⟩|⟨h0,h4⟩|⟨h0,h4⟩|h0
   ·unfold tkD
    simp only
    by_cases o1:d.op=1
    ·rw[if_pos o1]
     split
     ·exact⟨_,_,rfl,(eF (by omega)).1,fun _=> (eF (by omega)).2⟩
     ·split
      ·exact⟨_,_,rfl,(eF (by omega)).1,fun _=> (eF (by omega)).2⟩
      ·exact⟨_,_,rfl,fun _=>by decide,fun _ _=>by decide⟩
    ·rw[if_neg o1,if_pos (by omega)]
     split
     ·exact⟨_,_,rfl,(eF (by omega)).1,fun _=> (eF (by omega)).2⟩
     ·exact⟨_,_,rfl,(eF (by omega)).1,fun _=> (eF (by omega)).2⟩
   ·obtain⟨a,rfl,ha⟩:=kids1 h0 hf
    rcases h4 with h4|h4|h4|h4
    ·refine⟨(5,[45]),_,by unfold tkD;simp only;rw[if_neg (by omega),if_neg (by omega),if_pos h4],fun _=>by decide,fun h=>?_⟩
     rw[h4]at hl'
     exact absurd (show lvl 3=7 by decide) (by omega)
    ·exact⟨(2,[76,69,78,71,84,72]),_,by unfold tkD;simp only;rw[if_neg (by omega),if_neg (by omega),if_neg (by omega),if_pos h4],fun _=>by decide,fun _ _=>by decide⟩
    ·rw[h4]at hl'
     have:lvl 17=4:=by decide
     obtain⟨k,K,e1,e2,e3⟩:=ih a (by simp) ha 5 (by omega)
     refine⟨k,K++ [(2,[73,83]),(2,[78,85,76,76])],?_,e2,fun h=>by omega⟩
     unfold tkD
     simp only
     rw[if_neg (by omega),if_neg (by omega),if_neg (by omega),if_neg (by omega),if_pos h4]
     show a.tk 5++_=_
     rw[e1]
     rfl
    ·rw[h4]at hl'
     exact absurd (show lvl 20=3 by decide) (by omega)
   ·obtain⟨a,b,rfl,ha,hb⟩:=kids2 h0 hf
    have hr2:3<(if lvl d.op=4 then 5 else lvl d.op):=by split<;>omega
    obtain⟨k,K,e1,e2,e3⟩:=ih a (by simp) ha _ hr2
    refine⟨k,K++sgK d.op::b.tk (lvl d.op+1),?_,e2,fun h=>?_⟩
    ·unfold tkD
     simp only
     rw[if_neg (by omega),if_neg (by omega),if_neg (by omega),if_neg (by omega),if_neg (by omega),if_neg (by omega)]
     show a.tk _++_=_
     rw[e1]
     rfl
    ·have:lvl d.op≤6:=by
      unfold lvl
      repeat' split
      all_goals omega
     omega
   ·omega
theorem not_hd {t:ByteArray} {k:Kt} {a:Tk} (h:er a=k) (hk:(k.1=2∨k.1=5)→k.2≠t.data.toList) (R:List Tk):isS t ⟨a::R,false⟩=false:=by
 by_cases h2:k.1=2∨k.1=5
 ·exact em (k:=k.1) (x:=k.2) t h (.inr (hk h2)) R
 ·exact em (k:=k.1) (x:=k.2) t h (.inl (by omega)) R
theorem rd_low {e:Ex} (hf:e.formed=true) (H:RdM e) (r n:Nat) (ts R:List Tk) (h1:1≤r) (hr:r≤e.q) (hts:ts.map er=e.tkp) (hn:ts.length≤n) (hc:(⟨R,false⟩:Ps).c≤r) (h4:r=4→(⟨R,false⟩:Ps).c≠4):
  lvM (aE (exprP n)) r ⟨ts++R,false⟩=cnt (aE (exprP n)) r e.st0 ⟨R,false⟩:=by
 have hq:=d8 e.d.op
 have hqc:=ly e
 by_cases he:r=e.q
 ·subst he
  exact H n ts R hts hn hc h4
 ·have h5:=H n ts R hts hn (by omega) (fun e4=>by omega)
  rw[bB _ (by omega)]at h5
  refine lv_from (dU (dr n)) h1 (by omega) (by omega) h5 hc h4 (fun h6 h7=>?_) (fun h7=>?_)
  ·obtain⟨k,K,e1,e2,e3⟩:=hd_tk e hf e.q (by omega)
   rw[tk_low (Nat.le_refl _),←hts]at e1
   obtain⟨a,us,rfl,e4,_⟩:=List.map_eq_cons_iff.1 e1
   exact not_hd (t:=kNOT) e4 e2 _
  ·obtain⟨k,K,e1,e2,e3⟩:=hd_tk e hf e.q (by omega)
   rw[tk_low (Nat.le_refl _),←hts]at e1
   obtain⟨a,us,rfl,e4,_⟩:=List.map_eq_cons_iff.1 e1
   exact not_hd (t:=ct) e4 (e3 (by omega)) _
theorem rd_brk {e:Ex} (hf:e.formed=true) (H:RdM e) (n:Nat) (a z:Tk) (us R:List Tk) (ha:er a=(5,[40])) (hz:er z=(5,[41])) (hus:us.map er=e.tkp) (hn:us.length+1≤n):
  aE (exprP n) ⟨a::(us++z::R),false⟩=(e.st0,⟨R,false⟩):=by
 obtain⟨m,rfl⟩:∃m,n=m+1:=⟨n-1,by omega⟩
 have hq:=d8 e.d.op
 have hqc:=ly e
 have h5:=rd_low hf H 1 m us (z::R) (by omega) (by omega) hus (by omega) (by rw[c_at hz];decide) (fun h=>by omega)
 rw[bB _ (by rw[c_at hz];decide)]at h5
 unfold aE
 rw[bI ha,bI ha,isS_eq (.inr rfl) _ ha,isS_eq (.inr rfl) _ ha,isS_eq (.inr rfl) _ ha]
 rw[if_neg (by decide),if_neg (by decide),if_neg (by decide),if_neg (by decide),if_pos (by decide),en]
 show((lvM (aE (exprP m)) 1 ⟨us++z::R,false⟩).1,needP yRp (lvM (aE (exprP m)) 1 ⟨us++z::R,false⟩).2)=_
 rw[h5,need_at (.inr rfl) yRp hz]
theorem rd_at {e:Ex} (hf:e.formed=true) (H:RdM e):RdA e:=by
 intro r n ts R h1 h8 hts hn hc h4
 by_cases hr:r≤e.q
 ·rw[tk_low hr]at hts
  exact rd_low hf H r n ts R h1 hr hts hn hc h4
 ·rw[tk_high (by omega)]at hts
  obtain⟨a,us,rfl,e1,e2⟩:=List.map_eq_cons_iff.1 hts
  obtain⟨vs,zs,rfl,e3,e4⟩:=List.map_eq_append_iff.1 e2
  obtain⟨z,zs',rfl,e5,e6⟩:=List.map_eq_cons_iff.1 e4
  obtain rfl:=List.map_eq_nil_iff.1 e6
  simp only[List.length_cons,List.length_append,List.length_nil]at hn
  have h5:lvM (aE (exprP n)) 8 ⟨a::(vs++ [z])++R,false⟩=(e.st0,⟨R,false⟩):=by
   show aE (exprP n) _=_
   have:=rd_brk hf H n a z vs R e1 e5 e3 (by omega)
   simpa using this
  by_cases h9:r=8
  ·subst h9
   exact h5
  ·refine lv_from (dU (dr n)) h1 (by omega) (by omega) h5 hc h4 (fun _ _=>?_) (fun _=>?_)
   ·exact em kNOT e1 (.inr (by decide)) _
   ·exact em ct e1 (.inr (by decide)) _
theorem find_sg {op:Int} (h:4≤op∧op≤8∨10≤op∧op≤15∨op=18∨op=19):
  (lvl op=1→opsOr.find? (fun y=>decide (y.1.data.toList=(sgK op).2))=some (kOR,op))∧(lvl op=2→(opsAnd.find? (fun y=>decide (y.1.data.toList=(sgK op).2))).map (·.2)=some op)∧
  (lvl op=4→(opsCmp.find? (fun y=>decide (y.1.data.toList=(sgK op).2))).map (·.2)=some op)∧(lvl op=5→(opsSum.find? (fun y=>decide (y.1.data.toList=(sgK op).2))).map (·.2)=some op)∧
  (lvl op=6→(opsPro.find? (fun y=>decide (y.1.data.toList=(sgK op).2))).map (·.2)=some op):=by
 have:op=4∨op=5∨op=6∨op=7∨op=8∨op=10∨op=11∨op=12∨op=13∨op=14∨op=15∨op=18∨op=19:=by omega
 rcases this with rfl|rfl|rfl|rfl|rfl|rfl|rfl|rfl|rfl|rfl|rfl|rfl|rfl<;>decide
end
section
open Lx (Tk isDigit isLetter inWord spanN isPrint)
theorem dL {ts:List Tk} {k:Kt} (h:ts.map er= [k]):∃a,ts= [a]∧er a=k:=by
 obtain⟨a,l,rfl,h1,h2⟩:=List.map_eq_cons_iff.1 h
 obtain rfl:=List.map_eq_nil_iff.1 h2
 exact⟨a,rfl,h1⟩
theorem cO {ts:List Tk} {k:Kt} {K:List Kt} (h:ts.map er=k::K):∃a us,ts=a::us∧er a=k∧us.map er=K:=by
 obtain⟨a,l,h0,h1,h2⟩:=List.map_eq_cons_iff.1 h
 exact⟨a,l,h0,h1,h2⟩
theorem lz {ts:List Tk} {K H:List Kt} (h:ts.map er=K++H):∃us vs,ts=us++vs∧us.map er=K∧vs.map er=H:=by
 obtain⟨a,l,h0,h1,h2⟩:=List.map_eq_append_iff.1 h
 exact⟨a,l,h0,h1,h2⟩
theorem q_of (d:Nd) (ks:List Ex) {v:Int} (h:lvl d.op=v):(Ex.mk d ks).q=v.toNat:=by unfold Ex.q;show(lvl d.op).toNat=_;rw[h]
theorem rd_leaf {d:Nd} {ks:List Ex} (hf:(Ex.mk d ks).formed=true) (h0:opN d.op=0):RdM (.mk d ks):=by
 intro n ts R hts hn hc _
 obtain⟨h1,h2,h3⟩:=aA hf
 obtain rfl:ks= []:=List.eq_nil_of_length_eq_zero (by omega)
 have ho:d.op=1∨d.op=2:=by rcases bi d.op with ⟨_,h⟩|⟨h,_⟩|⟨h,_⟩|h<;>omega
 have hq:(Ex.mk d []).q=8:=q_of d [] (v:=8) (by rcases ho with h|h<;>rw[h] <;>decide)
 rw[hq]at hc ⊢
 show aE (exprP n) ⟨ts++R,false⟩=((Ex.mk d []).st0,⟨R,false⟩)
 rw[Ex.st0,dQ]
 rw[Ex.tkp]at hts
 unfold tkD at hts
 simp only at hts
 obtain⟨op,tb,nm,ix,vk,vi,vt⟩:=d
 simp only at ho hts h3 ⊢
 unfold ndB at h3
 simp only at h3
 rcases ho with rfl|rfl
 ·rw[if_neg (by decide),if_pos rfl]at h3
  rw[if_pos rfl]at hts
  simp only[Bool.and_eq_true,beq_iff_eq]at h3
  obtain⟨⟨h5,h6⟩,h7⟩:=h3
  obtain rfl:=cS h5
  obtain rfl:=cS h6
  unfold Nd.litB at h7
  simp only at h7
  split at h7
  ·next hv=>
   subst hv
   simp only[Bool.and_eq_true,beq_iff_eq]at h7
   obtain⟨rfl,h8⟩:=h7
   obtain rfl:=cS h8
   rw[if_neg (by decide),if_neg (by decide)]at hts
   obtain⟨a,rfl,ha⟩:=dL hts
   unfold aE
   rw[List.singleton_append,bI ha,bI ha,isS_eq (.inl rfl) _ ha,if_neg (by decide),if_neg (by decide),if_pos (by decide)]
   rfl
  ·split at h7
   ·next hv=>
    subst hv
    simp only[Bool.and_eq_true,beq_iff_eq,decide_eq_true_eq]at h7
    obtain⟨⟨h8,h9⟩,h10⟩:=h7
    obtain rfl:=cS h10
    rw[if_pos rfl]at hts
    obtain⟨a,rfl,ha⟩:=dL hts
    unfold aE
    rw[List.singleton_append,bI ha,if_pos (by decide)]
    unfold bj
    rw[tak_at ha]
    simp only
    rw[hJ,digV_ito h8]
    rfl
   ·split at h7
    ·next hv=>
     subst hv
     simp only[Bool.and_eq_true,beq_iff_eq]at h7
     obtain⟨rfl,h8⟩:=h7
     rw[if_neg (by decide),if_pos rfl]at hts
     obtain⟨a,rfl,ha⟩:=dL hts
     unfold aE
     rw[List.singleton_append,bI ha,bI ha,if_neg (by decide),if_pos (by decide),tak_at ha]
     simp only
     rw[hJ]
     rfl
    ·cases h7
 ·rw[if_pos rfl]at h3
  rw[if_neg (by decide),if_pos rfl]at hts
  simp only[Bool.and_eq_true,Bool.or_eq_true,beq_iff_eq]at h3
  obtain⟨⟨h5,h6⟩,h7⟩:=h3
  unfold Nd.valZ at h7
  simp only[Bool.and_eq_true,beq_iff_eq]at h7
  obtain⟨⟨rfl,rfl⟩,h8⟩:=h7
  obtain rfl:=cS h8
  by_cases ht:tb.size=0
  ·rw[if_pos ht]at hts
   obtain rfl:=cS ht
   obtain⟨a,rfl,ha⟩:=dL hts
   have hs:∀t,isS t ⟨a::R,false⟩=false:=fun t=>em t ha (.inl (by omega)) R
   unfold aE
   rw[List.singleton_append,bI ha,bI ha,hs,hs,hs,if_neg (by decide),if_neg (by decide),if_neg (by decide),if_neg (by decide),if_neg (by decide)]
   unfold cU
   rw[tak_at ha]
   simp only
   rw[lu (t:=yDot) (s:=⟨R,false⟩) (fun e=>by rw[e]at hc;revert hc;decide),if_neg (by simp),hJ]
   rfl
  ·rw[if_neg ht]at hts
   obtain⟨a,us,rfl,ha,hts⟩:=cO hts
   obtain⟨b,us,rfl,hb,hts⟩:=cO hts
   obtain⟨c,rfl,hcc⟩:=dL hts
   have hs:∀t,isS t ⟨a::b::c::R,false⟩=false:=fun t=>em t ha (.inl (by omega)) _
   unfold aE
   rw[List.cons_append,List.cons_append,List.singleton_append,bI ha,bI ha,hs,hs,hs,if_neg (by decide),if_neg (by decide),if_neg (by decide),if_neg (by decide),if_neg (by decide)]
   unfold cU
   rw[tak_at ha]
   simp only
   rw[isS_eq (.inr rfl) yDot hb,if_pos (by decide),en,tak_at hcc]
   simp only
   rw[hJ,hJ]
   rfl
theorem rd_one {d:Nd} {a:Ex} (hf:(Ex.mk d [a]).formed=true) (h0:opN d.op=1) (ha:a.formed=true) (H:RdM a):RdM (.mk d [a]):=by
 intro n ts R hts hn hc h4
 have HA:=rd_at ha H
 have ho:d.op=3∨d.op=9∨d.op=17∨d.op=20:=by rcases bi d.op with ⟨h,_⟩|⟨_,h⟩|⟨h,_⟩|h<;>omega
 rw[op_st0 (by omega) (by omega) hf]
 simp only[dQ]
 rw[Ex.tkp]at hts
 unfold tkD at hts
 simp only[tkpL,List.getD_cons_zero]at hts
 rcases ho with ho|ho|ho|ho
 ·have hq:(Ex.mk d [a]).q=7:=q_of d [a] (v:=7) (by rw[ho];decide)
  rw[hq]at hc ⊢
  rw[if_neg (by omega),if_neg (by omega),if_pos ho]at hts
  obtain⟨b,us,rfl,hb,hts⟩:=cO hts
  simp only[List.length_cons]at hn
  have h5:=HA 8 n us R (by omega) (by omega) hts (by omega) (by omega) (fun h=>by omega)
  show cj (aE (exprP n)) ⟨b::us++R,false⟩=(opE d.op [a.st0],⟨R,false⟩)
  unfold cj
  rw[List.cons_append,isS_eq (.inr rfl) ct hb,if_pos (by decide),en,ho]
  have h6:aE (exprP n) ⟨us++R,false⟩=(a.st0,⟨R,false⟩):=h5
  rw[h6]
 ·have hq:(Ex.mk d [a]).q=8:=q_of d [a] (v:=8) (by rw[ho];decide)
  rw[hq]at hc ⊢
  rw[if_neg (by omega),if_neg (by omega),if_neg (by omega),if_pos ho]at hts
  obtain⟨b,us,rfl,hb,hts⟩:=cO hts
  obtain⟨c,us,rfl,hcc,hts⟩:=cO hts
  obtain⟨us,zs,rfl,hus,hzs⟩:=lz hts
  obtain⟨z,rfl,hz⟩:=dL hzs
  simp only[List.length_cons,List.length_append,List.length_nil]at hn
  obtain⟨m,rfl⟩:∃m,n=m+1:=⟨n-1,by omega⟩
  have h5:=HA 1 m us (z::R) (by omega) (by omega) hus (by omega) (by rw[c_at hz];decide) (fun h=>by omega)
  rw[bB _ (by rw[c_at hz];decide)]at h5
  have h6:exprP (m+1) ⟨us++z::R,false⟩=(a.st0,⟨z::R,false⟩):=h5
  show aE (exprP (m+1)) ⟨b::c::(us++ [z])++R,false⟩=(opE d.op [a.st0],⟨R,false⟩)
  have e:b::c::(us++ [z])++R=b::c::(us++z::R):=by simp
  rw[e]
  unfold aE
  rw[bI hb,bI hb,isS_eq (.inl rfl) kNULL hb,isS_eq (.inl rfl) ec hb,if_neg (by decide),if_neg (by decide),if_neg (by decide),if_pos (by decide),en,need_at (.inr rfl) yLp hcc,h6]
  simp only
  rw[need_at (.inr rfl) yRp hz,ho]
 ·have hq:(Ex.mk d [a]).q=4:=q_of d [a] (v:=4) (by rw[ho];decide)
  rw[hq]at hc ⊢
  rw[if_neg (by omega),if_neg (by omega),if_neg (by omega),if_neg (by omega),if_pos ho]at hts
  obtain⟨us,zs,rfl,hus,hzs⟩:=lz hts
  obtain⟨b,ys,rfl,hb,hys⟩:=cO hzs
  obtain⟨z,rfl,hz⟩:=dL hys
  simp only[List.length_cons,List.length_append,List.length_nil]at hn
  have h5:=HA 5 n us (b::z::R) (by omega) (by omega) hus (by omega) (by rw[c_at hb];decide) (fun h=>by omega)
  rw[bB _ (by rw[c_at hb];decide)]at h5
  have h6:sumP (aE (exprP n)) ⟨us++b::z::R,false⟩=(a.st0,⟨b::z::R,false⟩):=h5
  show testP (aE (exprP n)) ⟨us++ [b,z]++R,false⟩=(opE d.op [a.st0],⟨R,false⟩)
  have e:us++ [b,z]++R=us++b::z::R:=by simp
  rw[e]
  unfold testP
  rw[h6]
  unfold cm
  rw[gz (.inl rfl) hb]
  have e2:opsCmp.find? (fun y=>decide (y.1.data.toList= [73,83]))=none:=by decide
  rw[e2]
  simp only
  rw[isS_eq (.inl rfl) kIS hb,if_pos (by decide),en,isS_eq (.inl rfl) kNOT hz,opt_at (.inl rfl) kNOT hz (by decide),need_at (.inl rfl) kNULL hz,ho]
  rfl
 ·have hq:(Ex.mk d [a]).q=3:=q_of d [a] (v:=3) (by rw[ho];decide)
  rw[hq]at hc ⊢
  rw[if_neg (by omega),if_neg (by omega),if_neg (by omega),if_neg (by omega),if_neg (by omega),if_pos ho]at hts
  obtain⟨b,us,rfl,hb,hts⟩:=cO hts
  simp only[List.length_cons]at hn
  have h5:=HA 3 n us R (by omega) (by omega) hts (by omega) hc (fun h=>by omega)
  have h6:notP (aE (exprP n)) ⟨us++R,false⟩=(a.st0,⟨R,false⟩):=h5
  show notP (aE (exprP n)) ⟨b::us++R,false⟩=(opE d.op [a.st0],⟨R,false⟩)
  rw[List.cons_append,notP_not (dU (dr n)) (isS_at (.inl rfl) kNOT hb _),en,h6,ho]
theorem sg_c {op:Int} (h:4≤op∧op≤8∨10≤op∧op≤16∨op=18∨op=19):((sgK op).1=2∨(sgK op).1=5)∧((ctl (sgK op):Nat):Int)=lvl op∧(lvl op=1∨lvl op=2∨lvl op=4∨lvl op=5∨lvl op=6):=by
 have:op=4∨op=5∨op=6∨op=7∨op=8∨op=10∨op=11∨op=12∨op=13∨op=14∨op=15∨op=16∨op=18∨op=19:=by omega
 rcases this with rfl|rfl|rfl|rfl|rfl|rfl|rfl|rfl|rfl|rfl|rfl|rfl|rfl|rfl<;>decide
theorem eG {op:Int} {z:Tk} (hz:er z=sgK op) (hk:(sgK op).1=2∨(sgK op).1=5) {ops:List (ByteArray×Int)} (h:(ops.find? (fun y=>decide (y.1.data.toList=(sgK op).2))).map (·.2)=some op) (R:List Tk):firstP ops ⟨z::R,false⟩=(some op,⟨R,false⟩):=by
 rw[gz (k:=(sgK op).1) (x:=(sgK op).2) hk hz R ops]
 cases hf:ops.find? (fun y=>decide (y.1.data.toList=(sgK op).2))with
 |none=>rw[hf]at h;cases h
 |some y=>
  rw[hf]at h
  simp only[Option.map_some,Option.some.injEq]at h
  simp only[h]
theorem rd_two {d:Nd} {a b:Ex} (hf:(Ex.mk d [a,b]).formed=true) (h0:opN d.op=2) (ha:a.formed=true) (hb:b.formed=true) (H:RdM a) (K:RdM b):RdM (.mk d [a,b]):=by
 intro n ts R hts hn hc h4
 have HA:=rd_at ha H
 have HB:=rd_at hb K
 have ho:4≤d.op∧d.op≤8∨10≤d.op∧d.op≤16∨d.op=18∨d.op=19:=by rcases bi d.op with ⟨h,_⟩|⟨h,_⟩|⟨_,h⟩|h<;>omega
 obtain⟨hk,hcl,hlv⟩:=sg_c ho
 have hs0:=op_st0 (by omega) (by omega) hf
 rw[hs0]
 simp only[dQ]
 rw[Ex.tkp]at hts
 unfold tkD at hts
 simp only[tkpL,List.getD_cons_zero,List.getD_cons_succ]at hts
 rw[if_neg (by omega),if_neg (by omega),if_neg (by omega),if_neg (by omega),if_neg (by omega),if_neg (by omega)]at hts
 obtain⟨us,zs,rfl,hus,hzz⟩:=lz hts
 obtain⟨z,vs,rfl,hz,hvs⟩:=cO hzz
 simp only[List.length_cons,List.length_append]at hn
 have e:us++z::vs++R=us++z::(vs++R):=by simp
 rw[e]
 have hzc:(⟨z::(vs++R),false⟩:Ps).c=ctl (sgK d.op):=c_at (k:=(sgK d.op).1) (x:=(sgK d.op).2) hz _ _
 have fw:=fun r=>lx (dU (dr n)) r
 have fs:=fun (h:4≤d.op∧d.op≤8∨10≤d.op∧d.op≤15∨d.op=18∨d.op=19)=>find_sg h
 rcases hlv with hl|hl|hl|hl|hl
 all_goals
  rw[hl]at hcl hus hvs
  have hq:=q_of d [a,b] hl
  simp only[Int.toNat]at hq
  rw[hq]at hc h4 ⊢
 ·have h5:=HA 1 n us (z::(vs++R)) (by omega) (by omega) hus (by omega) (by rw[hzc];omega) (fun h=>by omega)
  have h6:=HB 2 n vs R (by omega) (by omega) hvs (by omega) (by omega) (fun h=>by omega)
  rw[bB _ (by omega)]at h6
  have h16:d.op≠16:=by intro h;rw[h]at hl;revert hl;decide
  have h7:=eG hz hk (ops:=opsOr) (by rw[(fs (by omega)).1 hl];rfl) (vs++R)
  rw[h5]
  show chC (lvM (aE (exprP n)) 2) opsOr _ _=chC (lvM (aE (exprP n)) 2) opsOr _ _
  rw[gw (fw 2) h7,h6]
 ·have h5:=HA 2 n us (z::(vs++R)) (by omega) (by omega) hus (by omega) (by rw[hzc];omega) (fun h=>by omega)
  have h6:=HB 3 n vs R (by omega) (by omega) hvs (by omega) (by omega) (fun h=>by omega)
  rw[bB _ (by omega)]at h6
  have h16:d.op≠16:=by intro h;rw[h]at hl;revert hl;decide
  have h7:=eG hz hk ((fs (by omega)).2.1 hl) (vs++R)
  rw[h5]
  show chC (lvM (aE (exprP n)) 3) opsAnd _ _=chC (lvM (aE (exprP n)) 3) opsAnd _ _
  rw[gw (fw 3) h7,h6]
 ·have h5:=HA 5 n us (z::(vs++R)) (by omega) (by omega) hus (by omega) (by rw[hzc];omega) (fun h=>by omega)
  rw[bB _ (by rw[hzc];omega)]at h5
  have h5':sumP (aE (exprP n)) ⟨us++z::(vs++R),false⟩=(a.st0,⟨z::(vs++R),false⟩):=h5
  show testP (aE (exprP n)) _=(_,_)
  unfold testP
  rw[h5']
  by_cases h16:d.op=16
  ·
   obtain⟨_,_,h3⟩:=aA hf
   have hbb:b.d.op=1∧b.d.vk=2:=by
    unfold ndB at h3
    rw[if_neg (by omega),if_neg (by omega)]at h3
    split at h3
    ·cases h3
    ·next hn2=>
     simp only[List.map_cons,List.map_nil,List.getD_cons_succ,List.getD_cons_zero]at hn2
     refine⟨?_,?_⟩
     ·apply Classical.byContradiction;intro h;exact hn2 ⟨h16,.inl h⟩
     ·apply Classical.byContradiction;intro h;exact hn2 ⟨h16,.inr h⟩
   obtain⟨⟨bop,btb,bnm,bix,bvk,bvi,bvt⟩,bks⟩:=b
   simp only[Ex.d]at hbb
   obtain⟨rfl,rfl⟩:=hbb
   obtain⟨hb1,hb2,hb3⟩:=aA hb
   obtain rfl:bks= []:=List.eq_nil_of_length_eq_zero (by simp[opN]at hb1;omega)
   unfold ndB at hb3
   dsimp only at hb3
   rw[if_neg (show¬(1:Int)=2 by decide),if_pos rfl]at hb3
   simp only[Bool.and_eq_true,beq_iff_eq]at hb3
   obtain⟨⟨hb5,hb6⟩,hb7⟩:=hb3
   obtain rfl:=cS hb5
   obtain rfl:=cS hb6
   unfold Nd.litB at hb7
   dsimp only at hb7
   rw[if_neg (show¬(2:Int)=0 by decide),if_neg (show¬(2:Int)=1 by decide),if_pos rfl]at hb7
   simp only[Bool.and_eq_true,beq_iff_eq]at hb7
   obtain⟨rfl,_⟩:=hb7
   have hv2:vs.map er= [(4,bvt.data.toList)]:=by
    rw[hvs,Ex.tkp]
    rfl
   obtain⟨v,rfl,hv⟩:=dL hv2
   have hz':er z=(2,[76,73,75,69]):=by rw[hz,h16];rfl
   unfold cm
   rw[gz (.inl rfl) hz']
   have e2:opsCmp.find? (fun y=>decide (y.1.data.toList= [76,73,75,69]))=none:=by decide
   rw[e2]
   simp only[List.singleton_append]
   rw[isS_eq (.inl rfl) kIS hz',if_neg (by decide),opt_at (.inl rfl) kNOT hz' (by decide),isS_eq (.inl rfl) ib hz',if_pos (by decide),en,isS_eq (.inl rfl) kNOT hz',tak_at hv]
   simp only
   rw[hJ,h16]
   rfl
  ·have h6:=HB 5 n vs R (by omega) (by omega) hvs (by omega) (by omega) (fun h=>by omega)
   rw[bB _ (by omega)]at h6
   have h6':sumP (aE (exprP n)) ⟨vs++R,false⟩=(b.st0,⟨R,false⟩):=h6
   have h7:=eG hz hk ((fs (by omega)).2.2.1 hl) (vs++R)
   unfold cm
   rw[h7]
   simp only
   rw[h6']
 ·have h5:=HA 5 n us (z::(vs++R)) (by omega) (by omega) hus (by omega) (by rw[hzc];omega) (fun h=>by omega)
  have h6:=HB 6 n vs R (by omega) (by omega) hvs (by omega) (by omega) (fun h=>by omega)
  rw[bB _ (by omega)]at h6
  have h16:d.op≠16:=by intro h;rw[h]at hl;revert hl;decide
  have h7:=eG hz hk ((fs (by omega)).2.2.2.1 hl) (vs++R)
  rw[h5]
  show chC (lvM (aE (exprP n)) 6) opsSum _ _=chC (lvM (aE (exprP n)) 6) opsSum _ _
  rw[gw (fw 6) h7,h6]
 ·have h5:=HA 6 n us (z::(vs++R)) (by omega) (by omega) hus (by omega) (by rw[hzc];omega) (fun h=>by omega)
  have h6:=HB 7 n vs R (by omega) (by omega) hvs (by omega) (by omega) (fun h=>by omega)
  rw[bB _ (by omega)]at h6
  have h16:d.op≠16:=by intro h;rw[h]at hl;revert hl;decide
  have h7:=eG hz hk ((fs (by omega)).2.2.2.2 hl) (vs++R)
  rw[h5]
  show chC (lvM (aE (exprP n)) 7) opsPro _ _=chC (lvM (aE (exprP n)) 7) opsPro _ _
  rw[gw (fw 7) h7,h6]
theorem rd_main:∀e:Ex,e.formed=true→RdM e:=by
 intro e
 induction e using Ex.ind with
 |h d ks ih=>
  intro hf
  rcases bi d.op with ⟨h0,_⟩|⟨h0,_⟩|⟨h0,_⟩|h0
  ·exact rd_leaf hf h0
  ·obtain⟨a,rfl,ha⟩:=kids1 h0 hf
   exact rd_one hf h0 ha (ih a (by simp) ha)
  ·obtain⟨a,b,rfl,ha,hb⟩:=kids2 h0 hf
   exact rd_two hf h0 ha hb (ih a (by simp) ha) (ih b (by simp) hb)
  ·obtain⟨h1,_⟩:=aA hf
   omega
theorem rd_expr {e:Ex} (hf:e.formed=true) {n:Nat} {ts R:List Tk} (hts:ts.map er=e.tk 1) (hn:ts.length<n) (hc:(⟨R,false⟩:Ps).c=0):exprP n ⟨ts++R,false⟩=(e.st0,⟨R,false⟩):=by
 obtain⟨m,rfl⟩:∃m,n=m+1:=⟨n-1,by omega⟩
 have h:=rd_at hf (rd_main e hf) 1 m ts R (by omega) (by omega) hts (by omega) (by omega) (fun h=>by omega)
 rw[bB _ (by omega)]at h
 exact h
end
section
open Lx (Tk isDigit isLetter inWord spanN isPrint)
abbrev dl (s:ByteArray):List UInt8:=s.data.toList
theorem cE (a b:ByteArray):(a++b).data.toList=a.data.toList++b.data.toList:=by rw[ByteArray.data_append,Array.toList_append]
theorem iR (b:List UInt8):fQ ([32]++b):= .inr ⟨32,b,rfl,by decide⟩
theorem edge_rp (b:List UInt8):fQ ([41]++b):= .inr ⟨41,b,rfl,by decide⟩
theorem edge_quo {b:List UInt8} (h:fQ b):b.head?≠some 39:=by
 rcases h with rfl|⟨c,t,rfl,rfl|rfl|rfl|rfl|rfl⟩<;>simp
theorem iS {op:Int} {s:ByteArray} {K:List Kt} (h:cp fQ (dl s) K) (r:Int):cp fQ (dl (brk op s r)) (brK op K r):=by
 unfold brk brK
 split
 ·simp only[dl,cE]
  have h1:cp Any ([40]++dl s++ [41]) ([(5,[40])]++K++ [(5,[41])]):=((cJ (c:=40) (by decide)).cat h (fun _ _=>trivial)).cat (cJ (c:=41) (by decide)) (fun b _=>edge_rp b)
  have e:(5,[40])::(K++ [(5,[41])])= [((5:Nat),([40]:List UInt8))]++K++ [(5,[41])]:=by simp
  rw[e]
  exact h1.imp fun _ _=>trivial
 ·exact h
theorem sg_lex {op:Int} (h:4≤op∧op≤8∨10≤op∧op≤16∨op=18∨op=19):cp (fun b=>b.head? =some 32) (dl (sgn op)) [sgK op]:=by
 have now:∀b:List UInt8,b.head? =some 32→NoW b:=fun b hb=>by
  cases b with
  |nil=>cases hb
  |cons c t=>simp at hb;subst hb;rfl
 have:op=4∨op=5∨op=6∨op=7∨op=8∨op=10∨op=11∨op=12∨op=13∨op=14∨op=15∨op=16∨op=18∨op=19:=by omega
 rcases this with rfl|rfl|rfl|rfl|rfl|rfl|rfl|rfl|rfl|rfl|rfl|rfl|rfl|rfl
 ·exact(cJ (c:=43) (by decide)).imp fun _ _=>trivial
 ·exact kE.imp fun b hb=>by rw[hb];simp
 ·exact(cJ (c:=42) (by decide)).imp fun _ _=>trivial
 ·exact(cJ (c:=47) (by decide)).imp fun _ _=>trivial
 ·exact(cJ (c:=37) (by decide)).imp fun _ _=>trivial
 ·exact(cJ (c:=61) (by decide)).imp fun _ _=>trivial
 ·exact(ls (c:=60) (d:=62) (by decide)).imp fun _ _=>trivial
 ·exact lex_ang (c:=60) (by decide)
 ·exact(ls (c:=60) (d:=61) (by decide)).imp fun _ _=>trivial
 ·exact lex_ang (c:=62) (by decide)
 ·exact(ls (c:=62) (d:=61) (by decide)).imp fun _ _=>trivial
 ·exact(eE (l:= [76,73,75,69]) (by decide)).imp now
 ·exact(eE (l:= [65,78,68]) (by decide)).imp now
 ·exact(eE (l:= [79,82]) (by decide)).imp now
theorem name_hd {s:ByteArray} (h:nameB s=true):∃c r,dl s=c::r∧c≠45:=by
 have:=jY h
 unfold Lx.nameP at this
 unfold dl
 cases hs:s.data.toList with
 |nil=>rw[hs]at this;cases this
 |cons c r=>
  rw[hs]at this
  simp only[Bool.and_eq_true,decide_eq_true_eq]at this
  refine⟨c,r,rfl,fun e=>?_⟩
  have h1:=this.1.1.2.1
  rw[e]at h1
  revert h1;decide
theorem hd8 {e:Ex} (hf:e.formed=true) (b:List UInt8):(dl (e.tx 8)++b).head?≠some 45:=by
 obtain⟨d,ks⟩:=e
 obtain⟨h1,h2,h3⟩:=aA hf
 unfold Ex.tx brk
 have hlr:=d8 d.op
 split
 ·simp only[dl,cE]
  show(([40]++_++ [41])++b).head?≠_
  simp
 ·next hl=>
  have hl':¬lvl d.op<8:=hl
  have ho:d.op=1∨d.op=2∨d.op=9:=by
   have:lvl d.op=8:=by omega
   unfold lvl at this
   repeat' split at this
   all_goals omega
  rw[Ex.pl]
  unfold plD
  simp only
  rcases ho with ho|ho|ho
  ·rw[if_pos ho]
   unfold ndB at h3
   rw[if_neg (by omega),if_pos ho]at h3
   simp only[Bool.and_eq_true]at h3
   split
   ·next hv=>
    have hh:=(cZ h3.2).2.1 hv
    obtain⟨d1,d2,c,r,d3,_⟩:=hH d.vi.toNat
    unfold dl
    rw[j0 hh.1,d3]
    simp only[List.cons_append,List.head?_cons,ne_eq,Option.some.injEq]
    intro e
    have:=d1 c (by rw[d3];simp)
    rw[e]at this
    revert this;decide
   ·split
    ·simp only[dl,cE]
     show(([39]++_++ [39])++b).head?≠_
     simp
    ·show([78,85,76,76]++b).head?≠_
     simp
  ·rw[if_neg (by omega),if_pos ho]
   unfold ndB at h3
   rw[if_pos ho]at h3
   simp only[Bool.and_eq_true,Bool.or_eq_true,beq_iff_eq]at h3
   split
   ·obtain⟨c,r,e,hc⟩:=name_hd h3.1.1
    rw[e]
    simpa using hc
   ·next ht=>
    obtain⟨c,r,e,hc⟩:=name_hd (h3.1.2.resolve_left ht)
    unfold dl at e ⊢
    rw[cE,cE,e]
    simpa using hc
  ·rw[if_neg (by omega),if_neg (by omega),if_neg (by omega),if_pos ho]
   simp only[dl,cE]
   show(([76,69,78,71,84,72,40]++_++ [41])++b).head?≠_
   simp
theorem pl_lex:∀e:Ex,e.formed=true→cp fQ (dl e.pl) e.tkp:=by
 intro e
 induction e using Ex.ind with
 |h d ks ih=>
  intro hf
  obtain⟨h1,h2,h3⟩:=aA hf
  have toEdge:∀ {l:List UInt8} {K:List Kt},cp Any l K→cp fQ l K:=fun h=>h.imp fun _ _=>trivial
  rw[Ex.pl,Ex.tkp]
  rcases bi d.op with ⟨h0,h4⟩|⟨h0,h4⟩|⟨h0,h4⟩|h0
  ·unfold plD tkD
   simp only
   by_cases o1:d.op=1
   ·rw[if_pos o1,if_pos o1]
    unfold ndB at h3
    rw[if_neg (by omega),if_pos o1]at h3
    simp only[Bool.and_eq_true]at h3
    have hb:=h3.2
    split
    ·next hv=>
     have hh:=(cZ hb).2.1 hv
     exact(lex_num hh.1 hh.2).imp fun _ h=>h.now
    ·split
     ·next hv1 hv2=>
      unfold Nd.litB at hb
      rw[if_neg (by omega),if_neg hv1,if_pos hv2]at hb
      simp only[Bool.and_eq_true]at hb
      obtain⟨p1,p2⟩:=print_of hb.2
      have h5:=lex_text p1 p2
      simp only[dl,cE]
      have e:(⟨#[39]⟩:ByteArray).data.toList++(iu d.vt).data.toList++(⟨#[39]⟩:ByteArray).data.toList=39::(Lx.flat d.vt.data.toList++ [39]):=by
       unfold iu
       rw[←flat_quo]
       simp
      rw[e]
      exact h5.imp fun _ h=>edge_quo h
     ·exact(eE (l:= [78,85,76,76]) (by decide)).imp fun _ h=>h.now
   ·have o2:d.op=2:=by omega
    rw[if_neg o1,if_neg o1,if_pos o2,if_pos o2]
    unfold ndB at h3
    rw[if_pos (by omega)]at h3
    simp only[Bool.and_eq_true,Bool.or_eq_true,beq_iff_eq]at h3
    have hn:=mM (jY h3.1.1)
    split
    ·exact hn.imp fun _ h=>h.now
    ·next ht=>
     have ht:=mM (jY (h3.1.2.resolve_left ht))
     simp only[dl,cE]
     have h5:=(ht.cat (cJ (c:=46) (by decide)) (fun b _=> (show NoW ([46]++b) by unfold NoW;rfl))).cat hn (fun _ _=>trivial)
     exact h5.imp fun _ h=>h.now
  ·obtain⟨a,rfl,ha⟩:=kids1 h0 hf
   have hb:=fun r=>iS (op:=a.d.op) (ih a (by simp) ha) r
   unfold plD tkD
   simp only[plL,tkpL,List.getD_cons_zero]
   rcases h4 with h4|h4|h4|h4
   ·rw[if_neg (by omega),if_neg (by omega),if_pos h4,if_neg (by omega),if_neg (by omega),if_pos h4]
    simp only[dl,cE]
    exact kE.cat (hb 8) (fun b _=>hd8 ha b)
   ·rw[if_neg (by omega),if_neg (by omega),if_neg (by omega),if_pos h4,if_neg (by omega),if_neg (by omega),if_neg (by omega),if_pos h4]
    simp only[dl,cE]
    have k1:=((eE (l:= [76,69,78,71,84,72]) (by decide)).cat (cJ (c:=40) (by decide)) (fun b _=> (show NoW ([40]++b) by unfold NoW;rfl)))
    have k2:=(k1.cat (hb 1) (fun _ _=>trivial)).cat (cJ (c:=41) (by decide)) (fun b _=>edge_rp b)
    have:=toEdge k2
    simpa using this
   ·rw[if_neg (by omega),if_neg (by omega),if_neg (by omega),if_neg (by omega),if_pos h4,if_neg (by omega),if_neg (by omega),if_neg (by omega),if_neg (by omega),if_pos h4]
    simp only[dl,cE]
    have k1:=(hb 5).cat dZ (fun b _=>iR b)
    have k2:=(k1.cat (eE (l:= [73,83]) (by decide)) (fun _ _=>trivial)).cat dZ (fun b _=> (iR b).now)
    have k3:=k2.cat (eE (l:= [78,85,76,76]) (by decide)) (fun _ _=>trivial)
    have k4:=k3.imp (Q:=fQ) fun _ h=>h.now
    simpa using k4
   ·rw[if_neg (by omega),if_neg (by omega),if_neg (by omega),if_neg (by omega),if_neg (by omega),if_pos h4,if_neg (by omega),if_neg (by omega),if_neg (by omega),if_neg (by omega),if_neg (by omega),if_pos h4]
    simp only[dl,cE]
    have k1:=((eE (l:= [78,79,84]) (by decide)).cat dZ (fun b _=> (iR b).now)).cat (hb 3) (fun _ _=>trivial)
    simpa using k1
  ·obtain⟨a,b,rfl,ha,hb⟩:=kids2 h0 hf
   have ka:=fun r=>iS (op:=a.d.op) (ih a (by simp) ha) r
   have kb:=fun r=>iS (op:=b.d.op) (ih b (by simp) hb) r
   unfold plD tkD
   simp only[plL,tkpL,List.getD_cons_zero,List.getD_cons_succ]
   have n1:¬d.op=1:=by omega
   have n2:¬d.op=2:=by omega
   have n3:¬d.op=3:=by omega
   have n4:¬d.op=9:=by omega
   have n5:¬d.op=17:=by omega
   have n6:¬d.op=20:=by omega
   simp only[n1,n2,n3,n4,n5,n6,if_false]
   simp only[dl,cE]
   have k1:=(ka (if lvl d.op=4 then 5 else lvl d.op)).cat dZ (fun b _=>iR b)
   have k2:=(k1.cat (sg_lex (op:=d.op) (by omega)) (fun _ _=>trivial)).cat dZ (fun b _=>rfl)
   have k3:=k2.cat (kb (lvl d.op+1)) (fun _ _=>trivial)
   simpa using k3
  ·omega
theorem tx_lex {e:Ex} (hf:e.formed=true) (r:Int):cp fQ (dl (e.tx r)) (e.tk r):=iS (pl_lex e hf) r
end
section
open Lx (Tk isDigit isLetter inWord spanN isPrint)
def cmK:List (List Kt)→List Kt
 | []=> []
 |x::l=>x++l.flatMap fun y=> (5,[44])::y
def nmK (s:ByteArray):Kt:=(1,s.data.toList)
def nmsK (l:List ByteArray):List Kt:=(5,[40])::(cmK (l.map fun s=> [nmK s])++ [(5,[41])])
def numK (n:Int):Kt:=(3,(itoB n).data.toList)
def bndK (n:Int):List Kt:=if n<0 then [(5,[45]),numK (-n)]else [numK n]
def Cd.tk (x:Cd):List Kt:=
 nmK x.nm::((if x.ty=1 then (2,[73,78,84,69,71,69,82])::(5,[40])::(bndK x.lo++(5,[44])::(bndK x.hi++ [(5,[41])]))else (2,[84,69,88,84])::(5,[40])::(bndK x.mx++ [(5,[41])]))++
  (if x.nn=true then [(2,[78,79,84]),(2,[78,85,76,76])]else []))
def keyK (k:List ByteArray):List Kt:=(2,[85,78,73,81,85,69])::nmsK k
def Rf.tk (x:Rf):List Kt:=(2,[70,79,82,69,73,71,78])::(2,[75,69,89])::(nmsK x.cs++(2,[82,69,70,69,82,69,78,67,69,83])::nmK x.tb::nmsK x.tg)
def chkK (e:Ex):List Kt:=(2,[67,72,69,67,75])::(5,[40])::(e.tk 1++ [(5,[41])])
def St.eltsK (s:St):List (List Kt):=s.cols.map Cd.tk++s.keys.map keyK++s.frs.map Rf.tk++s.chk.map chkK
def exsK (l:List Ex):List Kt:=cmK (l.map fun e=>e.tk 1)
def rowK (l:List Ex):List Kt:=(5,[40])::(exsK l++ [(5,[41])])
def Asg.tk (x:Asg):List Kt:=nmK x.cl::(5,[61])::x.ex.tk 1
def agK (n:Int):Kt:=(2,(agW n).data.toList)
def Itm.tk (x:Itm):List Kt:=if x.ag=1 then [(2,[67,79,85,78,84]),(5,[40]),(5,[42]),(5,[41])]else if x.ag=0 then x.ex.tk 1 else agK x.ag::(5,[40])::(x.ex.tk 1++ [(5,[41])])
def Src.tk (x:Src):List Kt:=if x.al.size=0 then [nmK x.tb]else [nmK x.tb,(2,[65,83]),nmK x.al]
def Ord'.tk (x:Ord'):List Kt:=numK x.it::(if x.ds=true then [(2,[68,69,83,67])]else [])
def St.whK (s:St):List Kt:=if s.whr.absent=true then []else (2,[87,72,69,82,69])::s.whr.tk 1
def St.itK (s:St):List Kt:=if s.itms.length=0 then [(5,[42])]else cmK (s.itms.map Itm.tk)
def St.selK (s:St):List Kt:=
 (2,[83,69,76,69,67,84])::(s.itK++(2,[70,82,79,77])::(cmK (s.frm.map Src.tk)++(s.whK++((if s.grp.length=0 then []else (2,[71,82,79,85,80])::(2,[66,89])::exsK s.grp)++
  ((if s.ord.length=0 then []else (2,[79,82,68,69,82])::(2,[66,89])::cmK (s.ord.map Ord'.tk))++(if 0<s.lim then [(2,[76,73,77,73,84]),numK s.lim]else []))))))
def St.tk (s:St):List Kt:=
 if s.kd=1 then (2,[67,82,69,65,84,69])::(2,[84,65,66,76,69])::nmK s.tb::(5,[40])::(cmK s.eltsK++ [(5,[41])])
 else if s.kd=2 then (2,[73,78,83,69,82,84])::(2,[73,78,84,79])::nmK s.tb::(2,[86,65,76,85,69,83])::cmK (s.vals.map rowK)
 else if s.kd=3 then (2,[85,80,68,65,84,69])::nmK s.tb::(2,[83,69,84])::(cmK (s.sets.map Asg.tk)++s.whK)
 else if s.kd=4 then (2,[68,69,76,69,84,69])::(2,[70,82,79,77])::nmK s.tb::s.whK
 else if s.kd=5 then s.selK
 else if s.kd=6 then [(2,[66,69,71,73,78])]else if s.kd=7 then [(2,[67,79,77,77,73,84])]else if s.kd=8 then [(2,[82,79,76,76,66,65,67,75])]
 else if s.kd=9 then [(2,[83,65,86,69,80,79,73,78,84]),nmK s.nm]else if s.kd=10 then [(2,[82,79,76,76,66,65,67,75]),(2,[84,79]),nmK s.nm]else [(2,[82,69,76,69,65,83,69]),nmK s.nm]
abbrev LxE:=cp fQ
theorem edge_l (c:UInt8) (hc:c=32∨c=41∨c=44∨c=59∨c=10) (l b:List UInt8):fQ ((c::l)++b):= .inr ⟨c,l++b,rfl,hc⟩
def SpE (l:List UInt8):Prop:=l= []∨∃t,l=32::t
theorem SpE.edge {l:List UInt8} (h:SpE l) {b:List UInt8} (hb:fQ b):fQ (l++b):=by
 rcases h with rfl|⟨t,rfl⟩
 ·exact hb
 ·exact edge_l 32 (by decide) t b
end
section
open Lx (Tk isDigit isLetter inWord spanN isPrint)
def PtL (l:List UInt8) (K:List Kt):Prop:=LxE l K∧SpE l
theorem PtL.cat {l m:List UInt8} {K H:List Kt} (h:LxE l K) (k:PtL m H):LxE (l++m) (K++H):=cp.cat h k.1 (fun b hb=>k.2.edge hb)
end
section
open Lx (Tk isDigit isLetter inWord spanN isPrint)
def F0 (s:Ps):Prop:=s.c=0
end
section
open Lx (Tk isDigit isLetter inWord spanN isPrint)
def Asg.st0 (x:Asg):Asg:=⟨x.cl,0,x.ex.st0⟩
end
section
open Lx (Tk isDigit isLetter inWord spanN isPrint)
inductive El where
 |col (c:Cd)
 |key (k:List ByteArray)
 |frn (f:Rf)
 |chk (e:Ex)
def El.tk:El→List Kt
 | .col c=>c.tk
 | .key k=>keyK k
 | .frn f=>f.tk
 | .chk e=>chkK e
def El.ok:El→Bool
 | .col c=>c.ok
 | .key k=>namesB k
 | .frn f=>f.ok
 | .chk e=>e.formed
def El.put (d:Df):El→Df
 | .col c=> { d with cols:=d.cols++ [c] }
 | .key k=> { d with keys:=d.keys++ [k] }
 | .frn f=> { d with frs:=d.frs++ [f] }
 | .chk e=> { d with chk:=d.chk++ [e.st0] }
end
section
open Lx (Tk isDigit isLetter inWord spanN isPrint)
theorem elG_succ (ex:M Ex) (m:Nat) (d:Df) (l:List ByteArray) (st:Ps):dq ex (m+1) d l st=if isS yCm st=true then dq ex m (elemP ex d l st.next).1.1 (elemP ex d l st.next).1.2 (elemP ex d l st.next).2 else ((d,l),st):=rfl
end
section
open Lx (Tk isDigit isLetter inWord spanN isPrint)
def Itm.st0 (x:Itm):Itm:=if x.ag=1 then ⟨1,exZ⟩else ⟨x.ag,x.ex.st0⟩
end
section
open Lx (Tk isDigit isLetter inWord spanN isPrint)
def stI (k:Kt):Nat:=if k.1=2∨k.1=5 then (if k.2= [87,72,69,82,69]then 1 else if k.2= [71,82,79,85,80]then 2 else if k.2= [79,82,68,69,82]then 3 else if k.2= [76,73,77,73,84]then 4 else if k.2= [59]then 5 else 0)else 5
def StpN (j:Nat) (R:List Tk):Prop:=1≤j∧∃a l,R=a::l∧j≤stI (er a)
theorem StpN.le {i j:Nat} {R:List Tk} (h:StpN j R) (h1:1≤i) (hi:i≤j):StpN i R:=by
 obtain⟨_,a,l,e,hj⟩:=h
 exact⟨h1,a,l,e,by omega⟩
theorem StpN.not {j:Nat} {R:List Tk} (h:StpN j R) {t:ByteArray} (ht:stI (2,t.data.toList)<j):isS t ⟨R,false⟩=false:=by
 obtain⟨_,a,l,rfl,hj⟩:=h
 refine not_hd (k:=er a) rfl (fun h2 e=>?_) l
 have:stI (er a)=stI (2,t.data.toList):=by
  unfold stI
  rw[if_pos h2,if_pos (show((2:Nat),t.data.toList).1=2∨((2:Nat),t.data.toList).1=5 from .inl rfl),e]
 omega
theorem StpN.f0 {j:Nat} {R:List Tk} (h:StpN j R):F0 ⟨R,false⟩:=by
 obtain⟨h1,a,l,rfl,hj⟩:=h
 unfold F0
 rw[c_at (k:=(er a).1) (x:=(er a).2) rfl]
 unfold stI at hj
 unfold ctl
 by_cases hk:(er a).1=2∨(er a).1=5
 ·rw[if_pos hk]at hj ⊢
  simp only
  split at hj
  ·next e=>rw[e];decide
  split at hj
  ·next e=>rw[e];decide
  split at hj
  ·next e=>rw[e];decide
  split at hj
  ·next e=>rw[e];decide
  split at hj
  ·next e=>rw[e];decide
  ·omega
 ·rw[if_neg hk]
def St.wh0 (s:St):Ex:=if s.whr.absent=true then exZ else s.whr.st0
theorem frm_succ (ex:M Ex) (m:Nat) (l:List Src) (c:List Ex) (st:Ps):fromGo ex (m+1) l c st=if isS yCm st=true then fromGo ex m (l++ [(srcP st.next).1]) c (srcP st.next).2
  else if isS fl st=true then fromGo ex m (l++ [(srcP st.next).1]) (c++ [(ex (needP kON (srcP st.next).2)).1]) (ex (needP kON (srcP st.next).2)).2 else ((l,c),st):=rfl
end
section
open Lx (Tk)
def St.unb (s:St):Bool:=s.chk.all Ex.unb&&s.whr.unb&&s.grp.all Ex.unb&&s.vals.all (fun l=>l.all Ex.unb) &&s.sets.all (fun a=>a.ix==0&&a.ex.unb) &&s.itms.all (fun x=>x.ex.unb)
def SQ (s:St):Prop:=s.formed=true∧s.unb=true
theorem nm_ne {s:ByteArray} (h:nameB s=true):s.toList.isEmpty=false:=by
 rw[eH]
 unfold nameB fV at h
 cases hN:N s with
 |nil=>rw[hN]at h;simp[d9]at h
 |cons a l=>rfl
theorem nil_e:(⟨#[]⟩:ByteArray).toList.isEmpty=true:=by rw[eH];rfl
theorem whr_b {e:Ex} (h:WQ e):(e.absent||e.formed)=true:=by
 rcases h.1 with h|h<;>simp[h]
theorem nn_ok (l:List ByteArray) (c:Cd):(nnC l c).ok=c.ok:=rfl
theorem sq_create {t:ByteArray} (ht:nameB t=true) {x:Df×List ByteArray} (hx:DfQ x):SQ { stZ with kd:=1,tb:=t,cols:=x.1.cols.map (nnC x.2),keys:=x.1.keys,frs:=x.1.frs,chk:=x.1.chk } :=by
 have h1:(x.1.cols.map (nnC x.2)).all Cd.ok=true:=by
  rw[List.all_eq_true]
  intro c hc
  obtain⟨d,hd,rfl⟩:=List.mem_map.1 hc
  rw[nn_ok]
  exact hx.cols d hd
 have h2:x.1.keys.all namesB=true:=List.all_eq_true.2 hx.keys
 have h3:x.1.frs.all Rf.ok=true:=List.all_eq_true.2 hx.frs
 have h4:x.1.chk.all Ex.formed=true:=List.all_eq_true.2 fun e he=> (hx.chk e he).1
 have h5:x.1.chk.all Ex.unb=true:=List.all_eq_true.2 fun e he=> (hx.chk e he).2
 have h6:=hx.ne
 have h7:exZ.absent=true:=by decide
 have h8:exZ.unb=true:=by decide
 refine⟨?_,?_⟩
 ·have h0:St.noDef { stZ with kd:=1,tb:=t,cols:=x.1.cols.map (nnC x.2),keys:=x.1.keys,frs:=x.1.frs,chk:=x.1.chk } =false:=by
   unfold St.noDef
   simp only[List.length_map]
   exact decide_eq_false h6
  unfold St.formed St.defOk
  rw[h0]
  simp[stZ,nm_ne ht,ht,nil_e,h7]
  exact⟨⟨⟨List.all_eq_true.1 (by simpa using h1)|>fun h=>by simpa using h,by simpa using h2⟩,by simpa using h3⟩,by simpa using h4⟩
 ·unfold St.unb
  simp[stZ,h8]
  simpa using h5
theorem sq_insert {t:ByteArray} (ht:nameB t=true) {v:List (List Ex)} (hv:v≠[]∧∀l∈v,rowOk l=true∧∀e∈l,e.unb=true):SQ { stZ with kd:=2,tb:=t,vals:=v } :=by
 have h1:v.all rowOk=true:=List.all_eq_true.2 fun l hl=> (hv.2 l hl).1
 have h2:0<v.length:=List.length_pos_iff.2 hv.1
 have h7:exZ.absent=true:=by decide
 have h8:exZ.unb=true:=by decide
 refine⟨?_,?_⟩
 ·unfold St.formed St.noDef
  simp[stZ,nm_ne ht,ht,nil_e,h7,h2]
  simpa using h1
 ·unfold St.unb
  simp[stZ,h8]
  exact fun l hl e he=> (hv.2 l hl).2 e he
theorem sq_update {t:ByteArray} (ht:nameB t=true) {v:List Asg} (hv:v≠[]∧∀a∈v,a.ok=true∧a.ix=0∧a.ex.unb=true) {e:Ex} (he:WQ e):SQ { stZ with kd:=3,tb:=t,sets:=v,whr:=e } :=by
 have h1:v.all Asg.ok=true:=List.all_eq_true.2 fun l hl=> (hv.2 l hl).1
 have h2:0<v.length:=List.length_pos_iff.2 hv.1
 have h7:=whr_b he
 refine⟨?_,?_⟩
 ·unfold St.formed St.noDef
  simp[stZ,nm_ne ht,ht,nil_e,h2]
  simp at h7 h1
  exact⟨h7,h1⟩
 ·unfold St.unb
  simp[stZ,he.2]
  exact fun l hl=>⟨(hv.2 l hl).2.1,(hv.2 l hl).2.2⟩
theorem sq_delete {t:ByteArray} (ht:nameB t=true) {e:Ex} (he:WQ e):SQ { stZ with kd:=4,tb:=t,whr:=e } :=by
 have h7:=whr_b he
 refine⟨?_,?_⟩
 ·unfold St.formed St.noDef
  simp[stZ,nm_ne ht,ht,nil_e]
  simpa using h7
 ·unfold St.unb
  simp[stZ,he.2]
theorem sq_query {i:List Itm} (hi:∀x∈i,x.ok=true∧x.ex.unb=true) {f:List Src} (hf:(∀y∈f,y.ok=true)∧f≠[]) {e:Ex} (he:WQ e) {g:List Ex} (hg:∀x∈g,FQ x∧x.d.op=2) {o:List Ord'} (ho:∀x∈o,x.ok=true)
  {l:Int} (hl:0≤l∧l≤2147483648):SQ { stZ with kd:=5,itms:=i,frm:=f,whr:=e,grp:=g,ord:=o,lim:=l } :=by
 have h1:i.all Itm.ok=true:=List.all_eq_true.2 fun x hx=> (hi x hx).1
 have h2:0<f.length:=List.length_pos_iff.2 hf.2
 have h3:f.all Src.ok=true:=List.all_eq_true.2 hf.1
 have h4:g.all colX=true:=List.all_eq_true.2 fun x hx=>by unfold colX;simp[(hg x hx).2,(hg x hx).1.1]
 have h5:o.all Ord'.ok=true:=List.all_eq_true.2 ho
 have h7:=whr_b he
 refine⟨?_,?_⟩
 ·unfold St.formed St.noDef St.qOk inB
  simp[stZ,nil_e,h2,hl.1,hl.2]
  simp at h1 h3 h4 h5 h7
  exact⟨h7,⟨⟨⟨h1,h3⟩,h4⟩,h5⟩⟩
 ·unfold St.unb
  simp[stZ,he.2]
  exact⟨fun x hx=> (hg x hx).1.2,fun x hx=> (hi x hx).2⟩
theorem sq_nm {k:Int} (hk:k=9∨k=10∨k=11) {a:ByteArray} (ha:nameB a=true):SQ { stZ with kd:=k,nm:=a } :=by
 have h7:exZ.absent=true:=by decide
 have h8:exZ.unb=true:=by decide
 refine⟨?_,?_⟩
 ·rcases hk with rfl|rfl|rfl<;> (unfold St.formed St.noDef;simp[stZ,nm_ne ha,ha,nil_e,h7])
 ·unfold St.unb
  simp[stZ,h8]
theorem sq_one {k:Int} (hk:k=6∨k=7∨k=8):SQ { stZ with kd:=k } :=by
 have h7:exZ.absent=true:=by decide
 have h8:exZ.unb=true:=by decide
 refine⟨?_,?_⟩
 ·rcases hk with rfl|rfl|rfl<;> (unfold St.formed St.noDef;simp[stZ,nil_e,h7])
 ·unfold St.unb
  simp[stZ,h8]
section
variable {B:Nat} {ex:M Ex} (h:Yld B FQ ex) (st:Stk ex)
include h st
theorem nC:Yld B SQ (createP ex):=by
 unfold createP
 refine aj (aC _) (fun _ _=>?_) (fun _=>ae (bS 1) fun _=>ae (ay _) fun _=>ae (gJ ex) fun _=>ae (ay _) fun _=>ah _)
 refine aj br (fun t ht=>?_) (fun _=>ae (ay _) fun _=>ae (gJ ex) fun _=>ae (ay _) fun _=>ah _)
 refine aj (aC _) (fun _ _=>?_) (fun _=>ae (gJ ex) fun _=>ae (ay _) fun _=>ah _)
 refine aj (yld_elems h st) (fun x hx=>?_) (fun _=>ae (ay _) fun _=>ah _)
 exact aj (aC _) (fun _ _=>av (sq_create ht hx)) (fun _=>ah _)
theorem nD:Yld B SQ (eJ ex):=by
 unfold eJ
 refine aj (aC _) (fun _ _=>?_) (fun _=>ae (bS 1) fun _=>ae (ay _) fun _=>ae (bL (iH st)) fun _=>ah _)
 refine aj br (fun t ht=>?_) (fun _=>ae (ay _) fun _=>ae (bL (iH st)) fun _=>ah _)
 refine aj (aC _) (fun _ _=>?_) (fun _=>ae (bL (iH st)) fun _=>ah _)
 exact aj (dz (yld_tup h st) (iH st)) (fun v hv=>av (sq_insert ht hv)) (fun _=>ah _)
theorem nE:Yld B SQ (eK ex):=by
 unfold eK
 refine aj br (fun t ht=>?_) (fun _=>ae (ay _) fun _=>ae (bL (kU st)) fun _=>ae (gf ex) fun _=>ah _)
 refine aj (aC _) (fun _ _=>?_) (fun _=>ae (bL (kU st)) fun _=>ae (gf ex) fun _=>ah _)
 refine aj (dz (yld_asg h st) (kU st)) (fun v hv=>?_) (fun _=>ae (gf ex) fun _=>ah _)
 exact aj (yld_whr h) (fun e he=>av (sq_update ht hv he)) (fun _=>ah _)
omit st in
theorem nF:Yld B SQ (eL ex):=by
 unfold eL
 refine aj (aC _) (fun _ _=>?_) (fun _=>ae (bS 1) fun _=>ae (gf ex) fun _=>ah _)
 refine aj br (fun t ht=>?_) (fun _=>ae (gf ex) fun _=>ah _)
 exact aj (yld_whr h) (fun e he=>av (sq_delete ht he)) (fun _=>ah _)
theorem yld_query:Yld B SQ (queryP ex posP andL):=by
 unfold queryP
 refine aj (Q:=fun i=> ∀x∈i,x.ok=true∧x.ex.unb=true) ?_ (fun i hi=>?_) (fun _=>ae (ay _) fun _=>ae (mb ex) fun _=>ae (jh ex _ _) fun _=>ae iG fun _=>ae (ew _) fun _=>ae (eO _) fun _=>ah _)
 ·exact aK _ (av (by simp)) ((dz (yld_itm h st) (stk_itm st)).imp fun l hl=>hl.2)
 refine aj (aC _) (fun _ _=>?_) (fun _=>ae (mb ex) fun _=>ae (jh ex _ _) fun _=>ae iG fun _=>ae (ew _) fun _=>ae (eO _) fun _=>ah _)
 refine aj (yld_from h st) (fun f hf=>?_) (fun _=>ae (jh ex _ _) fun _=>ae iG fun _=>ae (ew _) fun _=>ae (eO _) fun _=>ah _)
 refine aj (yld_cond h hf.2.2) (fun e he=>?_) (fun _=>ae iG fun _=>ae (ew _) fun _=>ae (eO _) fun _=>ah _)
 refine aj (Q:=fun g=> ∀x∈g,FQ x∧x.d.op=2) ?_ (fun g hg=>?_) (fun _=>ae (ew _) fun _=>ae (eO _) fun _=>ah _)
 ·exact aK _ (aj (aC _) (fun _ _=> (dz mG kT).imp fun l hl=>hl.2) (fun _=>bL kT)) (av (by simp))
 refine aj (Q:=fun o=> ∀x∈o,x.ok=true) ?_ (fun o ho=>?_) (fun _=>ae (eO _) fun _=>ah _)
 ·exact aK _ (aj (aC _) (fun _ _=> (dz yld_ord (stk_ord stk_pos)).imp fun l hl=>hl.2) (fun _=>bL (stk_ord stk_pos))) (av (by simp))
 refine aj (Q:=fun l=>0≤l∧l≤2147483648) ?_ (fun l hl=>av (sq_query hi ⟨hf.1,hf.2.1⟩ he hg ho hl)) (fun _=>ah _)
 exact aK _ (yld_pos.imp fun n hn=>by omega) (av (by omega))
theorem yld_stmt:Yld B SQ (eu ex posP andL gc):=by
 have nm:∀k:Int,k=9∨k=10∨k=11→Yld B SQ (nmP k):=fun k hk=>aj br (fun a ha=>av (sq_nm hk ha)) (fun _=>ah _)
 unfold eu
 refine aK _ (nC h st) (aK _ (nD h st) (aK _ (nE h st) (aK _ (nF h) (aK _ (yld_query h st) (aK _ (av (sq_one (by omega))) (aK _ (av (sq_one (by omega)))
  (aK _ (aK _ (nm 10 (by omega)) (av (sq_one (by omega)))) (aK _ (nm 9 (by omega)) (aK _ (nm 11 (by omega)) ?_)))))))))
 exact fun s hs=>⟨hs,fun hb=>by cases hb⟩
end
theorem yld_stm (n:Nat):Yld n SQ (stmP n):=yld_stmt (mJ n) (lZ n)
end
section
open Lx (Tk isDigit isLetter inWord spanN isPrint)
def St.st0 (s:St):St:= { s with chk:=s.chk.map Ex.st0,vals:=s.vals.map (fun l=>l.map Ex.st0),sets:=s.sets.map Asg.st0,itms:=s.itms.map Itm.st0,whr:=s.wh0,grp:=s.grp.map Ex.st0 }
theorem emp_ba {s:ByteArray} (h:s.toList.isEmpty=true):s=⟨#[]⟩:=by
 rw[eH]at h
 exact cS (by rw[←N_len,List.isEmpty_iff.1 h];rfl)
structure Lone (s:St):Prop where
 tb:4<s.kd→s.tb=⟨#[]⟩
 nm:s.kd≠9→s.kd≠10→s.kd≠11→s.nm=⟨#[]⟩
 df:s.kd≠1→s.cols= []∧s.keys= []∧s.frs= []∧s.chk= []
 vals:s.kd≠2→s.vals= []
 sets:s.kd≠3→s.sets= []
 sel:s.kd≠5→s.itms= []∧s.frm= []∧s.grp= []∧s.ord= []∧s.lim=0
 wh:s.kd≠3→s.kd≠4→s.kd≠5→s.wh0=exZ
theorem lone_of {s:St} (h:s.formed=true):Lone s:=by
 unfold St.formed at h
 dsimp only at h
 simp only[Bool.and_eq_true,decide_eq_true_eq]at h
 obtain⟨⟨⟨⟨⟨⟨⟨⟨⟨⟨⟨⟨h1,h2⟩,t1⟩,_⟩,n1⟩,_⟩,w1⟩,h3⟩,h4⟩,h5⟩,h6⟩,h7⟩,_⟩:=h
 refine⟨fun e=>?_,fun a b c=>?_,fun e=>?_,fun e=>?_,fun e=>?_,fun e=>?_,fun a b c=>?_⟩
 ·rw[decide_eq_false (by omega)]at t1
  exact emp_ba (by simpa using t1)
 ·have e:(s.kd==9||s.kd==10||s.kd==11)=false:=by simp[a,b,c]
  rw[e]at n1
  exact emp_ba (by simpa using n1)
 ·have e1:(s.kd==1)=false:=by simpa using e
  rw[e1]at h3
  have h3:s.noDef=true:=by simpa using h3
  unfold St.noDef at h3
  have h8:=of_decide_eq_true h3
  exact⟨bX (by omega),bX (by omega),bX (by omega),bX (by omega)⟩
 ·have e1:(s.kd==2)=false:=by simpa using e
  rw[e1]at h4
  exact bX (by simpa using h4)
 ·have e1:(s.kd==3)=false:=by simpa using e
  rw[e1]at h5
  exact bX (by simpa using h5)
 ·have e1:(s.kd==5)=false:=by simpa using e
  rw[e1]at h7 h6
  simp only[Bool.false_or,Bool.and_eq_true,decide_eq_true_eq,beq_iff_eq]at h7
  exact⟨bX (by omega),bX (by simpa using h6),bX (by omega),bX (by omega),h7.2⟩
 ·have e:(s.kd==3||s.kd==4||s.kd==5)=false:=by simp[a,b,c]
  rw[e]at w1
  unfold St.wh0
  rw[if_pos (by simpa using w1)]
end
section
open Lx (Tk isDigit isLetter inWord spanN isPrint)
theorem st0_d (e:Ex):e.st0.d= { e.d with ix:=0 } :=by cases e;rfl
theorem st0L_map (l:List Ex):dQ l=l.map Ex.st0:=by
 induction l with
 |nil=>rfl
 |cons e l ih=>rw[dQ,ih];rfl
theorem st0_nd:∀e:Ex,e.st0.nodes=e.nodes∧e.st0.depth=e.depth∧e.st0.pl=e.pl:=by
 intro e
 induction e using Ex.ind with
 |h d ks ih=>
  have h1:nodesL (dQ ks)=nodesL ks∧aU (dQ ks)=aU ks∧plL (dQ ks)=plL ks:=by
   clear d
   induction ks with
   |nil=>exact⟨rfl,rfl,rfl⟩
   |cons a l ih2=>
    obtain⟨a1,a2,a3⟩:=ih a (by simp)
    obtain⟨b1,b2,b3⟩:=ih2 fun e he=>ih e (by simp[he])
    rw[dQ,nodesL,nodesL,aU,aU,plL,plL,a1,a2,a3,b1,b2,b3,st0_d]
    exact⟨rfl,rfl,rfl⟩
  obtain⟨h2,h3,h4⟩:=h1
  rw[Ex.st0,Ex.nodes,Ex.nodes,Ex.depth,Ex.depth,Ex.pl,Ex.pl,h2,h3,h4]
  exact⟨rfl,rfl,rfl⟩
theorem ex_toks {e:Ex} (h:e.formed=true) (hz:(e.tx 1).size≤16384):∃ts:List Tk,ts.map er=e.tk 1∧Lx.tokAll (e.tx 1)= .ok (ts++ [⟨0,[],(e.tx 1).size⟩]):=by
 obtain⟨ts,h1,h2⟩:=tx_lex h 1 [] 0 (.inl rfl)
 refine⟨ts,h1,?_⟩
 unfold Lx.tokAll
 rw[if_neg (by omega)]
 rw[List.append_nil,Lx.T_end [] _ rfl]at h2
 show Lx.T (dl (e.tx 1)) 0=_
 rw[h2]
 have:(dl (e.tx 1)).length=(e.tx 1).size:=Array.length_toList
 simp[Lx.Ls.pre,Lx.skipN,this]
theorem stp_end (p:Nat) (t:List UInt8):StpN 5 [⟨0,t,p⟩]:=⟨by omega,_,_,rfl,by unfold stI er;rw[if_neg (by simp)];omega⟩
theorem nG {α:Type} {m:M α} {ts:List Tk} {a:Tk} {v:α} (ha:a.kind=0) (h:m ⟨ts++ [a],false⟩=(v,⟨[a],false⟩)):gI m (ts++ [a])= .inr v:=by
 have e:endP ⟨[a],false⟩=⟨[a],false⟩:=by
  unfold endP hasK Ps.hd
  simp[ha]
 unfold gI
 rw[h]
 simp only
 rw[e,if_neg (by simp)]
theorem nH:∀e:Ex,e.st0.formed=e.formed:=by
 intro e
 induction e using Ex.ind with
 |h d ks ih=>
  have h1:bv (dQ ks)=bv ks:=by
   clear d
   induction ks with
   |nil=>rfl
   |cons a l ih2=>rw[dQ,bv,bv,ih a (by simp),ih2 fun e he=>ih e (by simp[he])]
  have h2:(dQ ks).length=ks.length:=by rw[st0L_map,List.length_map]
  have h3:ndB { d with ix:=0 } ((dQ ks).map Ex.d)=ndB d (ks.map Ex.d):=by
   have h4:(((dQ ks).map Ex.d).getD 1 { d with ix:=0 }).op=((ks.map Ex.d).getD 1 d).op∧(((dQ ks).map Ex.d).getD 1 { d with ix:=0 }).vk=((ks.map Ex.d).getD 1 d).vk:=by
    match ks with
    | []=>exact⟨rfl,rfl⟩
    | [a]=>exact⟨rfl,rfl⟩
    |a::b::l=>
     simp[dQ,st0_d]
   unfold ndB
   rw[h4.1,h4.2]
   rfl
  rw[Ex.st0,Ex.formed,Ex.formed,h1,h2,h3]
theorem valid_ex0 (e:Ex):validE e.st0=validE e:=by
 unfold validE
 rw[eU,eU,(st0_nd e).1,(st0_nd e).2.1,nH]
theorem round_ex {e:Ex} (h:validE e=0) (hz:(e.tx 1).size≤16384):parE validE (e.tx 1)=(e.st0,0,0):=by
 have hf:e.formed=true:=by
  rcases ef e with h1|h1|h1
  ·exact h1.2.1
  ·omega
  ·omega
 obtain⟨ts,e1,e2⟩:=ex_toks hf hz
 have k:=rd_expr (n:=(ts++ [(⟨0,[],(e.tx 1).size⟩:Tk)]).length+1) (R:= [⟨0,[],(e.tx 1).size⟩]) hf e1 (by simp;omega) (stp_end _ []).f0
 unfold parE
 rw[e2]
 simp only
 rw[nG rfl k]
 simp only
 rw[if_pos (by rw[valid_ex0];exact h)]
end
end Go.Proofs.YtjigcpfjhfoheaaGreatDoor
